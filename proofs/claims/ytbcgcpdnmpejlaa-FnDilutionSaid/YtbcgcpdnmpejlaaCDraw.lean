/- Contracts: contents drawn. -/
import Derived.Test.YtbcgcpdnmpejlaaCur
import Derived.Test.YtbcgcpdnmpejlaaCWalk2
import Derived.Deep.Light
namespace Go.Proofs.Ytbcgcpdnmpejlaa
open Go.RowKit

theorem ofC_b {V n d : Int} (h : -1 ≤ V ∧ V ≤ 101) : -1 ≤ (ofC V n d).1 ∧ (ofC V n d).1 ≤ 101 := by
  unfold ofC cOf cZ
  split <;> dsimp only <;> omega
set_option maxHeartbeats 4000000 in
theorem contentB_c (b : Nat) (A : Option Addr) (n c m : Nat) (w : World) (h : Cur w b A n c m) (hm : m ≤ 1000000) :
    Calls Try.prog 61 #[.pointer (some ⟨b, 0, none⟩)] w fun e w' => ∃ V N D : Int, (-1 ≤ V ∧ V ≤ 101) ∧ e = .returned (.agg #[.int .i64 V, .int .i64 N, .int .i64 D]) ∧ Cur w' b A n c (m + 16) ∧ w.grownBy w' (some b) := by
  have hlt := h.lt
  go_enter Try.func61, Try.ntmps61
  go_wp2_with fail
  obtain ⟨W0, hW0⟩ : ∃ W, W = w.alloc (.cells #[.int .i64 0, .int .i64 0, .int .i64 0] 25) := ⟨_, rfl⟩
  rw [← hW0]
  have C0 : Cur W0 b A n c m := by rw [hW0]; exact h.alloc _
  have G0 : w.grownBy W0 (some b) := by rw [hW0]; exact World.grownBy_alloc _ _ _
  have s0 : W0.heap.size = w.heap.size + 1 := by rw [hW0]; simp
  have rB0 : Box3 W0 w.heap.size 0 0 0 := by rw [hW0]; exact Box3.new _ _ _ _ _
  clear hW0 h
  go_wp2_with fail
  refine (amongL_c b A n c m [1, 5, 10, 40, 99, 100] W0 C0 _ _ _ _ (by omega) (by omega) (by rfl) (by rfl) (by simp) (by simp)).mono ?_
  rintro e w1 ⟨V, hV, rfl, C1, g1⟩
  have rB1 := Box3.far rB0 g1 hlt
  obtain ⟨⟨r0, r1, r2⟩, fr0, fr1, fr2⟩ := id rB1
  have G1 := grown_trans G0 g1
  have s1 := g1.size
  have bV : -1 ≤ V ∧ V ≤ 101 := by simp at hV; omega
  clear G0 g1 C0 rB0 hV
  go_wp2_with fail
  clear r0 r1 r2 fr0 fr1 fr2
  refine (amongL_c b A n c (m + 2) [0, 1, 7, 50, 1000, 10000] w1 C1 _ _ _ _ (by omega) (by rfl) (by rfl) (by rfl) (by simp) (by simp)).mono ?_
  rintro e w2 ⟨N, hN, rfl, C2, g2⟩
  have rB2 := Box3.far rB1 g2 hlt
  obtain ⟨⟨r0, r1, r2⟩, fr0, fr1, fr2⟩ := id rB2
  have G2 := grown_trans G1 g2
  have s2 := g2.size
  clear G1 g2 C1 rB1 hN
  go_wp2_with fail
  clear r0 r1 r2 fr0 fr1 fr2
  obtain ⟨W, hW⟩ : ∃ W, W = w2.alloc (.cells #[.int .i64 V, .int .i64 N, .int .i64 1] 25) := ⟨_, rfl⟩
  rw [← hW]
  have C3 : Cur W b A n c (m + 2 + 2) := by rw [hW]; exact C2.alloc _
  have G3 : w.grownBy W (some b) := by rw [hW]; exact grown_alloc G2 _
  have hbp : b < w2.heap.size := by omega
  have hwp : w.heap.size < w2.heap.size := by omega
  have hpr : ¬ w2.heap.size = w.heap.size := by omega
  have hrp : ¬ w.heap.size = w2.heap.size := by omega
  have rB3 : Box3 W w.heap.size 0 0 0 := by rw [hW]; exact rB2.alloc _
  have pB3 : Box3 W w2.heap.size V N 1 := by rw [hW]; exact Box3.new _ _ _ _ _
  clear G2 C2 hW s0 s1 s2 rB2
  generalize w2.heap.size = p at *
  go_wp2_with fail
  refine (one_c b A n c (m + 2 + 2) 2 W C3 (by omega) (by omega)).mono ?_
  rintro e w4 ⟨t1, rfl, C4, g4⟩
  have rB4 := Box3.far rB3 g4 hlt
  have pB4 := Box3.far pB3 g4 hbp
  obtain ⟨⟨r0, r1, r2⟩, fr0, fr1, fr2⟩ := id rB4
  obtain ⟨⟨p0, p1, p2⟩, fp0, fp1, fp2⟩ := id pB4
  have G4 := grown_trans G3 g4
  clear G3 g4 C3 rB3 pB3
  go_upto_if 14 with (fail)
  go_cut [14] (fun _ wx => ∃ V N D : Int, (-1 ≤ V ∧ V ≤ 101) ∧ Cur wx b A n c (m + 10) ∧ w.grownBy wx (some b) ∧ Box3 wx w.heap.size 0 0 0 ∧ Box3 wx p V N D)
  case first =>
    cases t1
    · go_wp2_with fail
      go_meet
      exact ⟨V, N, 1, bV, by ((repeat (first | (exact C4.weak (by omega)) | (with_reducible refine Cur.alloc ?_ _) | (with_reducible refine Cur.setOther ?_ ?_ _))) <;> first | assumption | (simp; done) | (simp; omega)), G4, rB4, pB4⟩
    · skip
      go_wp2_with fail
      clear r0 r1 r2 fr0 fr1 fr2 p0 p1 p2 fp0 fp1 fp2
      refine (amongL_c b A n c (m + 2 + 2 + 2) [1, 7, 50, 1001] w4 C4 _ _ _ _ (by omega) (by rfl) (by rfl) (by rfl) (by simp) (by simp)).mono ?_
      rintro e w5 ⟨N2, hN2, rfl, C5, g5⟩
      have rB5 := Box3.far rB4 g5 hlt
      have pB5 := Box3.far pB4 g5 hbp
      obtain ⟨⟨r0, r1, r2⟩, fr0, fr1, fr2⟩ := id rB5
      obtain ⟨⟨p0, p1, p2⟩, fp0, fp1, fp2⟩ := id pB5
      have G5 := grown_trans G4 g5
      clear G4 g5 C4 rB4 pB4
      go_wp2_with fail
      clear r0 r1 r2 fr0 fr1 fr2 p0 p1 p2 fp0 fp1 fp2
      refine (amongL_c b A n c (m + 2 + 2 + 2 + 2) [3, 9, 1000000, 1000] (w5.setCell ⟨p, 1, none⟩ (.int .i64 N2)) (C5.setOther (by simpa using hbp) _) _ _ _ _ (by omega) (by simp) (by rfl) (by rfl) (by simp) (by simp)).mono ?_
      rintro e w6 ⟨D2, hD2, rfl, C6, g6⟩
      have rB6 := Box3.far (rB5.setOther (by simpa using hpr) _) g6 hlt
      have pB6 := Box3.far (pB5.set1 N2) g6 hbp
      obtain ⟨⟨r0, r1, r2⟩, fr0, fr1, fr2⟩ := id rB6
      obtain ⟨⟨p0, p1, p2⟩, fp0, fp1, fp2⟩ := id pB6
      have G6 := grown_trans (grown_set G5 (by show w.heap.size ≤ p; omega) _) g6
      clear G5 g6 C5 rB5 pB5
      have hn1 : 0 ≤ N2 ∧ N2 ≤ 1000000000000000000 := by simp at hN2; omega
      have hd1 : 0 < D2 ∧ D2 ≤ 1000000000000000000 := by simp at hD2; omega
      clear hN2 hD2
      go_wp2_with fail
      clear r0 r1 r2 fr0 fr1 fr2 p0 p1 p2 fp0 fp1 fp2
      refine (l16Of_c V N2 D2 _ hn1.1 hn1.2 hd1.1 hd1.2).mono ?_
      rintro e w7 ⟨rfl, hb7⟩
      have C7 := (C6.setOther (a := ⟨p, 2, none⟩) (by simpa using hbp) (.int .i64 D2)).below hb7
      have G7 := grown_trans (grown_set G6 (a := ⟨p, 2, none⟩) (by show w.heap.size ≤ p; omega) (.int .i64 D2)) (grown_below hb7)
      have rB7 := (rB6.setOther (a := ⟨p, 2, none⟩) (by simpa using hpr) (.int .i64 D2)).below hb7
      have pB7 := (pB6.set2 D2).below hb7
      clear rB6 pB6 C6 G6 hb7 hn1 hd1
      have hp7 : p < w7.heap.size := pB7.lt
      have bo := ofC_b (n := N2) (d := D2) bV
      generalize ofC V N2 D2 = o at bo ⊢
      obtain ⟨x0, x1, x2, ok⟩ := o
      dsimp only at bo
      have hq1 : ¬ w7.heap.size = p := by omega
      have hq2 : ¬ p = w7.heap.size := by omega
      obtain ⟨⟨r0, r1, r2⟩, fr0, fr1, fr2⟩ := id rB7
      obtain ⟨⟨p0, p1, p2⟩, fp0, fp1, fp2⟩ := id pB7
      cases ok
      · go_wp2_with fail
        go_meet
        exact ⟨V, N2, D2, bV, by ((repeat (first | (exact C7.weak (by omega)) | (with_reducible refine Cur.alloc ?_ _) | (with_reducible refine Cur.setOther ?_ ?_ _))) <;> first | assumption | (simp; done) | (simp; omega)), by ((repeat (first | exact G7 | (with_reducible refine grown_alloc ?_ _) | (with_reducible refine grown_set ?_ ?_ _))) <;> first | (simp; done) | (simp; omega)), rB7.alloc _, pB7.alloc _⟩
      · go_wp2_with fail
        go_meet
        exact ⟨x0, x1, x2, bo, by ((repeat (first | (exact C7.weak (by omega)) | (with_reducible refine Cur.alloc ?_ _) | (with_reducible refine Cur.setOther ?_ ?_ _))) <;> first | assumption | (simp; done) | (simp; omega)), by ((repeat (first | exact G7 | (with_reducible refine grown_alloc ?_ _) | (with_reducible refine grown_set ?_ ?_ _))) <;> first | (simp; done) | (simp; omega)), (((rB7.setOther (by simpa using hpr) _).setOther (by simpa using hpr) _).setOther (by simpa using hpr) _).alloc _, (((pB7.set0 x0).set1 x1).set2 x2).alloc _⟩
  case rest =>
    clear C4 G4 rB4 pB4
    clear r0 r1 r2 fr0 fr1 fr2 p0 p1 p2 fp0 fp1 fp2
    obtain ⟨X, Y, Z, bX, C8, G8, rB8, pB8⟩ := hcut
    go_wp2_with fail
    refine (one_c b A n c (m + 10) 16 wc C8 (by omega) (by omega)).mono ?_
    rintro e w9 ⟨t2, rfl, C9, g9⟩
    have rB9 := Box3.far rB8 g9 hlt
    have pB9 := Box3.far pB8 g9 hbp
    obtain ⟨⟨r0, r1, r2⟩, fr0, fr1, fr2⟩ := id rB9
    obtain ⟨⟨p0, p1, p2⟩, fp0, fp1, fp2⟩ := id pB9
    have G9 := grown_trans G8 g9
    clear G8 g9 C8 rB8 pB8
    go_upto_if 36 with (fail)
    go_cut [36] (fun _ wx => ∃ V N D : Int, (-1 ≤ V ∧ V ≤ 101) ∧ Cur wx b A n c (m + 12) ∧ w.grownBy wx (some b) ∧ Box3 wx w.heap.size 0 0 0 ∧ Box3 wx p V N D)
    case first =>
      cases t2
      · go_wp2_with fail
        go_meet
        exact ⟨X, Y, Z, bX, by ((repeat (first | (exact C9.weak (by omega)) | (with_reducible refine Cur.alloc ?_ _) | (with_reducible refine Cur.setOther ?_ ?_ _))) <;> first | assumption | (simp; done) | (simp; omega)), by ((repeat (first | exact G9 | (with_reducible refine grown_alloc ?_ _) | (with_reducible refine grown_set ?_ ?_ _))) <;> first | (simp; done) | (simp; omega)), rB9, pB9⟩
      · go_wp2_with fail
        go_meet
        exact ⟨0, 0, 1, by omega, by ((repeat (first | (exact C9.weak (by omega)) | (with_reducible refine Cur.alloc ?_ _) | (with_reducible refine Cur.setOther ?_ ?_ _))) <;> first | assumption | (simp; done) | (simp; omega)), by ((repeat (first | exact G9 | (with_reducible refine grown_alloc ?_ _) | (with_reducible refine grown_set ?_ ?_ _))) <;> first | (simp; done) | (simp; omega)), (((rB9.setOther (by simpa using hpr) _).setOther (by simpa using hpr) _).setOther (by simpa using hpr) _), (((pB9.set0 0).set1 0).set2 1)⟩
    case rest =>
      clear C9 G9 rB9 pB9
      clear r0 r1 r2 fr0 fr1 fr2 p0 p1 p2 fp0 fp1 fp2
      obtain ⟨X, Y, Z, bX, C10, G10, rB10, pB10⟩ := hcut
      go_wp2_with fail
      refine (pick_c b A n c (m + 12) 40 _ C10 (by omega) (by omega)).mono ?_
      rintro e w11 ⟨y, y0, y1, rfl, C11, g11⟩
      have rB11 := Box3.far rB10 g11 hlt
      have pB11 := Box3.far pB10 g11 hbp
      obtain ⟨⟨r0, r1, r2⟩, fr0, fr1, fr2⟩ := id rB11
      obtain ⟨⟨p0, p1, p2⟩, fp0, fp1, fp2⟩ := id pB11
      have G11 := grown_trans G10 g11
      clear G10 g11 C10 rB10 pB10
      by_cases c0 : y = 0
      · subst c0
        go_wp2_with fail
        clear r0 r1 r2 fr0 fr1 fr2 p0 p1 p2 fp0 fp1 fp2
        refine (amongL_c b A n c (m + 12 + 2) [-1, 101, 0] w11 C11 _ _ _ _ (by omega) (by rfl) (by rfl) (by rfl) (by simp) (by simp)).mono ?_
        rintro e w12 ⟨U, hU, rfl, C12, g12⟩
        have rB12 := Box3.far rB11 g12 hlt
        have pB12 := Box3.far pB11 g12 hbp
        obtain ⟨⟨r0, r1, r2⟩, fr0, fr1, fr2⟩ := id rB12
        obtain ⟨⟨p0, p1, p2⟩, fp0, fp1, fp2⟩ := id pB12
        have G12 := grown_trans G11 g12
        have bU : -1 ≤ U ∧ U ≤ 101 := by simp at hU; omega
        clear G11 g12 C11 hU rB11 pB11 rB12 pB12
        go_wp2
        go_light
        refine bodyPost_ret (v := .agg #[.int .i64 U, .int .i64 Y, .int .i64 Z]) (by simp (maxDischargeDepth := 8) [results, Try.results61, go_sem, *]) rfl ?_
        exact ⟨_, _, _, bU, rfl, by ((repeat (first | (exact C12.weak (by omega)) | (with_reducible refine Cur.alloc ?_ _) | (with_reducible refine Cur.setOther ?_ ?_ _))) <;> first | assumption | (simp; done) | (simp; omega)), by ((repeat (first | exact G12 | (with_reducible refine grown_alloc ?_ _) | (with_reducible refine grown_set ?_ ?_ _))) <;> first | (simp; done) | (simp; omega))⟩
      by_cases c1 : y = 1
      · subst c1
        go_wp2_with fail
        clear r0 r1 r2 fr0 fr1 fr2 p0 p1 p2 fp0 fp1 fp2
        refine (amongL_c b A n c (m + 12 + 2) [-1, wrap64 (wrap64 (10000 * Z) + 1)] w11 C11 _ _ _ _ (by omega) (by rfl) (by rfl) (by rfl) (by simp) (by simp)).mono ?_
        rintro e w12 ⟨U, hU, rfl, C12, g12⟩
        have rB12 := Box3.far rB11 g12 hlt
        have pB12 := Box3.far pB11 g12 hbp
        obtain ⟨⟨r0, r1, r2⟩, fr0, fr1, fr2⟩ := id rB12
        obtain ⟨⟨p0, p1, p2⟩, fp0, fp1, fp2⟩ := id pB12
        have G12 := grown_trans G11 g12
        clear G11 g12 C11 hU rB11 pB11 rB12 pB12
        go_wp2
        go_light
        refine bodyPost_ret (v := .agg #[.int .i64 X, .int .i64 U, .int .i64 Z]) (by simp (maxDischargeDepth := 8) [results, Try.results61, go_sem, *]) rfl ?_
        exact ⟨_, _, _, bX, rfl, by ((repeat (first | (exact C12.weak (by omega)) | (with_reducible refine Cur.alloc ?_ _) | (with_reducible refine Cur.setOther ?_ ?_ _))) <;> first | assumption | (simp; done) | (simp; omega)), by ((repeat (first | exact G12 | (with_reducible refine grown_alloc ?_ _) | (with_reducible refine grown_set ?_ ?_ _))) <;> first | (simp; done) | (simp; omega))⟩
      by_cases c2 : y = 2
      · subst c2
        go_wp2_with fail
        clear r0 r1 r2 fr0 fr1 fr2 p0 p1 p2 fp0 fp1 fp2
        refine (amongL_c b A n c (m + 12 + 2) [0, 2, 1000001] w11 C11 _ _ _ _ (by omega) (by rfl) (by rfl) (by rfl) (by simp) (by simp)).mono ?_
        rintro e w12 ⟨U, hU, rfl, C12, g12⟩
        have rB12 := Box3.far rB11 g12 hlt
        have pB12 := Box3.far pB11 g12 hbp
        obtain ⟨⟨r0, r1, r2⟩, fr0, fr1, fr2⟩ := id rB12
        obtain ⟨⟨p0, p1, p2⟩, fp0, fp1, fp2⟩ := id pB12
        have G12 := grown_trans G11 g12
        clear G11 g12 C11 hU rB11 pB11 rB12 pB12
        go_wp2
        go_light
        refine bodyPost_ret (v := .agg #[.int .i64 X, .int .i64 Y, .int .i64 U]) (by simp (maxDischargeDepth := 8) [results, Try.results61, go_sem, *]) rfl ?_
        exact ⟨_, _, _, bX, rfl, by ((repeat (first | (exact C12.weak (by omega)) | (with_reducible refine Cur.alloc ?_ _) | (with_reducible refine Cur.setOther ?_ ?_ _))) <;> first | assumption | (simp; done) | (simp; omega)), by ((repeat (first | exact G12 | (with_reducible refine grown_alloc ?_ _) | (with_reducible refine grown_set ?_ ?_ _))) <;> first | (simp; done) | (simp; omega))⟩
      have c0b : (y == 0) = false := by simp [c0]
      have c1b : (y == 1) = false := by simp [c1]
      have c2b : (y == 2) = false := by simp [c2]
      go_wp2
      go_light
      refine bodyPost_ret (v := .agg #[.int .i64 X, .int .i64 Y, .int .i64 Z]) (by simp (maxDischargeDepth := 8) [results, Try.results61, go_sem, *]) rfl ?_
      exact ⟨_, _, _, bX, rfl, by ((repeat (first | (exact C11.weak (by omega)) | (with_reducible refine Cur.alloc ?_ _) | (with_reducible refine Cur.setOther ?_ ?_ _))) <;> first | assumption | (simp; done) | (simp; omega)), by ((repeat (first | exact G11 | (with_reducible refine grown_alloc ?_ _) | (with_reducible refine grown_set ?_ ?_ _))) <;> first | (simp; done) | (simp; omega))⟩
theorem content_c (b : Nat) (A : Option Addr) (n c m : Nat) (w : World) (h : Cur w b A n c m) (hm : m ≤ 1000000) :
    Calls Try.prog 61 #[.pointer (some ⟨b, 0, none⟩)] w fun e w' => ∃ V N D : Int, e = .returned (.agg #[.int .i64 V, .int .i64 N, .int .i64 D]) ∧ Cur w' b A n c (m + 16) ∧ w.grownBy w' (some b) :=
  (contentB_c b A n c m w h hm).mono fun _ _ ⟨V, N, D, _, h⟩ => ⟨V, N, D, h⟩
end Go.Proofs.Ytbcgcpdnmpejlaa
