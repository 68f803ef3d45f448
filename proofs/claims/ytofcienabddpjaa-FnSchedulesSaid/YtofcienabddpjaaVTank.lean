/- Contracts: tanks drawn. -/
import Derived.Test.YtofcienabddpjaaCur
import Derived.Test.YtofcienabddpjaaCur2
import Derived.Deep.Light
namespace Go.Proofs.Ytofcienabddpjaa
open Go.RowKit

set_option maxHeartbeats 4000000 in
theorem tank_c (b : Nat) (A : Option Addr) (n c m : Nat) (w : World) (h : Cur w b A n c m) (hm : m ≤ 1000000) :
    Calls Try.prog 69 #[.pointer (some ⟨b, 0, none⟩)] w fun e w' => ∃ L E M : Int, e = .returned (.agg #[.int .i64 (L), .int .i64 (E), .int .i64 (M)]) ∧ Cur w' b A n c (m + 12) ∧ w.grownBy w' (some b) := by
  have hlt := h.lt
  go_enter Try.func69, Try.ntmps69
  go_wp2_with fail
  obtain ⟨W0, hW0⟩ : ∃ W, W = w.alloc (.cells #[.int .i64 0, .int .i64 0, .int .i64 0] 25) := ⟨_, rfl⟩
  rw [← hW0]
  have C0 : Cur W0 b A n c m := by rw [hW0]; exact h.alloc _
  have G0 : w.grownBy W0 (some b) := by rw [hW0]; exact World.grownBy_alloc _ _ _
  have s0 : W0.heap.size = w.heap.size + 1 := by rw [hW0]; simp
  have rB0 : Box3 W0 w.heap.size 0 0 0 := by rw [hW0]; exact Box3.new _ _ _ _ _
  clear hW0 h
  go_wp2_with fail
  refine (amongL_c b A n c m [0, 0, 5, 10] W0 C0 _ _ _ _ (by omega) (by omega) (by rfl) (by rfl) (by simp) (by simp)).mono ?_
  rintro e w1 ⟨E, hE, rfl, C1, g1⟩
  have rB1 := Box3.far rB0 g1 hlt
  obtain ⟨⟨r0, r1, r2⟩, fr0, fr1, fr2⟩ := id rB1
  have G1 := grown_trans G0 g1
  have s1 := g1.size
  have bE : 0 ≤ E ∧ E ≤ 10 := by simp at hE; omega
  clear G0 g1 C0 rB0 hE
  go_wp2_with fail
  clear r0 r1 r2 fr0 fr1 fr2
  refine (amongL_c b A n c (m + 2) [0, 10, 20, 40] w1 C1 _ _ _ _ (by omega) (by rfl) (by rfl) (by rfl) (by simp) (by simp)).mono ?_
  rintro e w2 ⟨D, hD, rfl, C2, g2⟩
  have rB2 := Box3.far rB1 g2 hlt
  obtain ⟨⟨r0, r1, r2⟩, fr0, fr1, fr2⟩ := id rB2
  have G2 := grown_trans G1 g2
  have s2 := g2.size
  have bD : 0 ≤ D ∧ D ≤ 40 := by simp at hD; omega
  have W1 : IntKind.i64.wrap (E + D) = E + D := IntWalk.i64_in _ (by omega)
  have W2 : IntKind.i64.wrap (E + D - E) = D := by rw [show E + D - E = D by omega]; exact IntWalk.i64_in _ (by omega)
  have W2' : IntKind.i64.wrap D = D := IntWalk.i64_in _ (by omega)
  have W3 : IntKind.i64.wrap (D + 1) = D + 1 := IntWalk.i64_in _ (by omega)
  clear G1 g2 C1 rB1 hD
  go_wp2_with fail
  clear r0 r1 r2 fr0 fr1 fr2
  refine (pick_c b A n c (m + 2 + 2) (D + 1) _ C2 (by omega) (by omega)).mono ?_
  rintro e w3 ⟨x, x0, x1, rfl, C3, g3⟩
  have rB3 := Box3.far rB2 g3 hlt
  obtain ⟨⟨r0, r1, r2⟩, fr0, fr1, fr2⟩ := id rB3
  have G3 := grown_trans G2 g3
  have s3 := g3.size
  have W4 : IntKind.i64.wrap (E + x) = E + x := IntWalk.i64_in _ (by omega)
  clear G2 g3 C2 rB2
  go_upto_region 4 with (fail)
  clear r0 r1 r2 fr0 fr1 fr2
  obtain ⟨W, hW⟩ : ∃ W, W = w3.alloc (.cells #[.int .i64 (E + x), .int .i64 E, .int .i64 (E + D)] 25) := ⟨_, rfl⟩
  rw [← hW]
  have C4 : Cur W b A n c (m + 2 + 2 + 2) := by rw [hW]; exact C3.alloc _
  have G4 : w.grownBy W (some b) := by rw [hW]; exact grown_alloc G3 _
  have hbp : b < w3.heap.size := by omega
  have hwp : w.heap.size < w3.heap.size := by omega
  have hpr : ¬ w3.heap.size = w.heap.size := by omega
  have hrp : ¬ w.heap.size = w3.heap.size := by omega
  have rB4 : Box3 W w.heap.size 0 0 0 := by rw [hW]; exact rB3.alloc _
  have pB4 : Box3 W w3.heap.size (E + x) E (E + D) := by rw [hW]; exact Box3.new _ _ _ _ _
  clear G3 C3 hW s0 s1 s2 s3 rB3
  generalize w3.heap.size = p at *
  obtain ⟨lv, hlv⟩ : ∃ lv, lv = E + x := ⟨_, rfl⟩
  obtain ⟨mo, hmo⟩ : ∃ mo, mo = E + D := ⟨_, rfl⟩
  rw [← hlv, ← hmo] at pB4 ⊢
  rw [← hmo] at W1
  rw [← hlv] at W4
  clear hlv hmo W1 W2 W2' W3 W4
  go_wp2_with fail
  refine (pick_c b A n c (m + 2 + 2 + 2) 24 _ C4 (by omega) (by omega)).mono ?_
  rintro e w5 ⟨y, y0, y1, rfl, C5, g5⟩
  have rB5 := Box3.far rB4 g5 hlt
  have pB5 := Box3.far pB4 g5 hbp
  obtain ⟨⟨r0, r1, r2⟩, fr0, fr1, fr2⟩ := id rB5
  obtain ⟨⟨p0, p1, p2⟩, fp0, fp1, fp2⟩ := id pB5
  have G5 := grown_trans G4 g5
  clear G4 g5 C4 rB4 pB4
  by_cases c0 : y = 0
  · subst c0
    go_wp2_with fail
    clear r0 r1 r2 fr0 fr1 fr2 p0 p1 p2 fp0 fp1 fp2
    refine (amongL_c b A n c (m + 2 + 2 + 2 + 2) [60, 61, wrap64 (lv - 1)] w5 C5 _ _ _ _ (by omega) (by rfl) (by rfl) (by rfl) (by simp) (by simp)).mono ?_
    rintro e w6 ⟨U, hU, rfl, C6, g6⟩
    have rB6 := Box3.far rB5 g6 hlt
    have pB6 := Box3.far pB5 g6 hbp
    obtain ⟨⟨r0, r1, r2⟩, fr0, fr1, fr2⟩ := id rB6
    obtain ⟨⟨p0, p1, p2⟩, fp0, fp1, fp2⟩ := id pB6
    have G6 := grown_trans G5 g6
    clear G5 g6 C5 hU rB5 pB5 rB6 pB6
    go_wp2
    go_light
    refine bodyPost_ret (v := .agg #[.int .i64 (lv), .int .i64 (E), .int .i64 (U)]) (by simp (maxDischargeDepth := 8) [results, Try.results69, go_sem, *]) rfl ?_
    exact ⟨_, _, _, rfl, by ((repeat (first | (exact C6.weak (by omega)) | (with_reducible refine Cur.alloc ?_ _) | (with_reducible refine Cur.setOther ?_ ?_ _))) <;> first | assumption | (simp; done) | (simp; omega)), by ((repeat (first | exact G6 | (with_reducible refine grown_alloc ?_ _) | (with_reducible refine grown_set ?_ ?_ _))) <;> first | (simp; done) | (simp; omega))⟩
  by_cases c1 : y = 1
  · subst c1
    go_wp2_with fail
    clear r0 r1 r2 fr0 fr1 fr2 p0 p1 p2 fp0 fp1 fp2
    refine (amongL_c b A n c (m + 2 + 2 + 2 + 2) [-1, lv, wrap64 (lv + 1)] w5 C5 _ _ _ _ (by omega) (by rfl) (by rfl) (by rfl) (by simp) (by simp)).mono ?_
    rintro e w6 ⟨U, hU, rfl, C6, g6⟩
    have rB6 := Box3.far rB5 g6 hlt
    have pB6 := Box3.far pB5 g6 hbp
    obtain ⟨⟨r0, r1, r2⟩, fr0, fr1, fr2⟩ := id rB6
    obtain ⟨⟨p0, p1, p2⟩, fp0, fp1, fp2⟩ := id pB6
    have G6 := grown_trans G5 g6
    clear G5 g6 C5 hU rB5 pB5 rB6 pB6
    go_wp2
    go_light
    refine bodyPost_ret (v := .agg #[.int .i64 (lv), .int .i64 (U), .int .i64 (mo)]) (by simp (maxDischargeDepth := 8) [results, Try.results69, go_sem, *]) rfl ?_
    exact ⟨_, _, _, rfl, by ((repeat (first | (exact C6.weak (by omega)) | (with_reducible refine Cur.alloc ?_ _) | (with_reducible refine Cur.setOther ?_ ?_ _))) <;> first | assumption | (simp; done) | (simp; omega)), by ((repeat (first | exact G6 | (with_reducible refine grown_alloc ?_ _) | (with_reducible refine grown_set ?_ ?_ _))) <;> first | (simp; done) | (simp; omega))⟩
  have c0b : (y == 0) = false := by simp [c0]
  have c1b : (y == 1) = false := by simp [c1]
  go_wp2
  go_light
  refine bodyPost_ret (v := .agg #[.int .i64 (lv), .int .i64 (E), .int .i64 (mo)]) (by simp (maxDischargeDepth := 8) [results, Try.results69, go_sem, *]) rfl ?_
  exact ⟨_, _, _, rfl, by ((repeat (first | (exact C5.weak (by omega)) | (with_reducible refine Cur.alloc ?_ _) | (with_reducible refine Cur.setOther ?_ ?_ _))) <;> first | assumption | (simp; done) | (simp; omega)), by ((repeat (first | exact G5 | (with_reducible refine grown_alloc ?_ _) | (with_reducible refine grown_set ?_ ?_ _))) <;> first | (simp; done) | (simp; omega))⟩
end Go.Proofs.Ytofcienabddpjaa
