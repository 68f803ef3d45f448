/- Contracts: areas drawn. -/
import Derived.Test.YtdkhiedgikjnkaaNBox
import Derived.Test.YtdkhiedgikjnkaaAWalk
import Derived.Deep.Light
namespace Go.Proofs.Ytdkhiedgikjnkaa
open Go.RowKit

theorem amongL_r (b : Nat) (A : Option Addr) (n c m : Nat) (ys : List Int) (w : World) (h : Cur w b A n c m) (q k k' : Nat) (cs : Array Value) (hm : m ≤ 100000000) (hq : q = w.heap.size) (hk : k = ys.length) (hcs : cs = (ys.map (Value.int .i64)).toArray) (hl : 0 < ys.length) (hl2 : ys.length ≤ 60000) :
    Calls Try.prog 60 #[.pointer (some ⟨b, 0, none⟩), .slice (some ⟨q, 0, none⟩) k k'] (w.alloc (.cells cs 3)) fun e w' => ∃ v, e = .returned v ∧ ∃ z : Int, v = .int .i64 z ∧ z ∈ ys ∧ Cur w' b A n c (m + 2) ∧ w.grownBy w' (some b) :=
  (amongL_c b A n c m ys w h q k k' cs hm hq hk hcs hl hl2).mono fun _ _ ⟨z, hz, he, C, g⟩ => ⟨_, he, z, rfl, hz, C, g⟩
theorem pick_r0 (b : Nat) (A : Option Addr) (n c m : Nat) (q : Int) (w : World) (h : Cur w b A n c m) (hm : m ≤ 100000000) (hq : q ≤ 60000) :
    Calls Try.prog 61 #[.pointer (some ⟨b, 0, none⟩), .int .i64 q] w fun e w' => ∃ v, e = .returned v ∧ ∃ z : Int, v = .int .i64 z ∧ (0 ≤ z ∧ (z < q ∨ z = 0)) ∧ Cur w' b A n c (m + 2) ∧ w.grownBy w' (some b) :=
  (pick_c b A n c m q w h hm hq).mono fun _ _ ⟨z, z0, z1, he, C, g⟩ => ⟨_, he, z, rfl, ⟨z0, z1⟩, C, g⟩
theorem amongT_r (b : Nat) (A : Option Addr) (n c m : Nat) (ys : List Int) (w : World) (h : Cur w b A n c m) (q k' : Nat) (hm : m ≤ 100000000) (hqb : q ≠ b) (hq : q < w.heap.size) (hc : ∀ j, j < ys.length → w.cell? ⟨q, j, none⟩ = some (.int .i64 (ys.getD j 0))) (k : Nat) (hk : k = ys.length) (hk0 : 0 < k) (hl2 : ys.length ≤ 60000) :
    Calls Try.prog 60 #[.pointer (some ⟨b, 0, none⟩), .slice (some ⟨q, 0, none⟩) k k'] w fun e w' => ∃ v, e = .returned v ∧ ∃ z : Int, v = .int .i64 z ∧ z ∈ ys ∧ Cur w' b A n c (m + 2) ∧ w.grownBy w' (some b) :=
  (amongT_c b A n c m ys w h q k k' hm hqb hq hc hk0 (by omega) hl2).mono fun _ _ ⟨z, hz, he, C, g⟩ => ⟨_, he, z, rfl, hz, C, g⟩
/-- How long the slice in a box still is to grow. -/
def leftN (w : World) (p k : Nat) : Nat := match w.cell? ⟨p, 2, none⟩ with | some (.slice _ n _) => k - n | _ => 0
theorem leftN_of {w : World} {p k n c : Nat} {A : Option Addr} (h : w.cell? ⟨p, 2, none⟩ = some (.slice A n c)) : leftN w p k = k - n := by unfold leftN; rw [h]
section
variable {W W' : World} {p b : Nat} {v : Value}
theorem n2_drew (h : W.cell? ⟨p, 2, none⟩ = some v) : W.drew.cell? ⟨p, 2, none⟩ = some v := h
theorem n2_alloc (h : W.cell? ⟨p, 2, none⟩ = some v) (o : Obj) : (W.alloc o).cell? ⟨p, 2, none⟩ = some v := (World.cell?_alloc_lt W o ⟨p, 2, none⟩ (lt_of_cell (by rw [h]; rfl))).trans h
theorem n2_adrew (h : W.drew.cell? ⟨p, 2, none⟩ = some v) (o : Obj) : (W.alloc o).drew.cell? ⟨p, 2, none⟩ = some v := n2_alloc (W := W) h o
theorem n2_far (h : W.cell? ⟨p, 2, none⟩ = some v) (g : W.grownBy W' (some b)) (hb : p ≠ b) : W'.cell? ⟨p, 2, none⟩ = some v :=
  (World.cell?_of_block (g.block p (lt_of_cell (a := ⟨p, 2, none⟩) (by rw [h]; rfl)) (fun q => hb (Option.some.inj q)))).trans h
theorem n2_set (h : W.cell? ⟨p, 2, none⟩ = some v) {g j : Nat} {u : Value} (hne : ¬ p = g) : (W.setCell ⟨g, j, none⟩ u).cell? ⟨p, 2, none⟩ = some v :=
  (World.cell?_of_block (heap_setCell_other W ⟨g, j, none⟩ p u (fun q => hne q))).trans h
end
set_option maxRecDepth 100000 in
set_option maxHeartbeats 8000000 in
theorem area_c (b : Nat) (A : Option Addr) (n c m : Nat) (id0 : Int) (w : World) (h : Cur w b A n c m) (hm : m ≤ 1000000) :
    Calls Try.prog 59 #[.pointer (some ⟨b, 0, none⟩), .int .i64 id0] w fun e w' => ∃ (I H : Int) (s : Value) (xs : List Int), e = .returned (.agg #[.int .i64 I, .int .i64 H, s]) ∧ Cur w' b A n c (m + 100) ∧ w.grownBy w' (some b) ∧ OwnI w' w.heap.size s xs ∧ xs.length ≤ 15 := by
  have hlt := h.lt
  go_enter Try.func59, Try.ntmps59
  go_wp2_with fail
  obtain ⟨W0, hW0⟩ : ∃ W, W = w.alloc (.cells #[.int .i64 0, .int .i64 0, .slice none 0 0] 32) := ⟨_, rfl⟩
  rw [← hW0]
  have C0 : Cur W0 b A n c m := by rw [hW0]; exact h.alloc _
  have G0 : w.grownBy W0 (some b) := by rw [hW0]; exact World.grownBy_alloc _ _ _
  have s0 : W0.heap.size = w.heap.size + 1 := by rw [hW0]; simp
  have rB0 : NB W0 w.heap.size 0 0 (.slice none 0 0) := by rw [hW0]; exact NB.new _ _ _ _
  clear hW0 h
  go_wp2_with fail
  refine (amongL_c b A n c m [1, 10, 100, 10000] W0 C0 _ _ _ _ (by omega) (by omega) (by rfl) (by rfl) (by simp) (by simp)).mono ?_
  rintro e w1 ⟨H, hH, rfl, C1, g1⟩
  have rB1 := rB0.kept g1 (fun e => by have := Option.some.inj e; omega)
  have G1 := grown_trans G0 g1
  have s1 := g1.size
  clear G0 g1 C0 rB0 hH
  go_upto_region 2 with (fail)
  obtain ⟨W, hW⟩ : ∃ W, W = w1.alloc (.cells #[.int .i64 id0, .int .i64 H, .slice none 0 0] 32) := ⟨_, rfl⟩
  rw [← hW]
  have C3 : Cur W b A n c (m + 2) := by rw [hW]; exact C1.alloc _
  have G3 : w.grownBy W (some b) := by rw [hW]; exact grown_alloc G1 _
  have hbp : b < w1.heap.size := by omega
  have hwp : w.heap.size < w1.heap.size := by omega
  have rB3 : NB W w.heap.size 0 0 (.slice none 0 0) := by rw [hW]; exact rB1.alloc _
  have pB3 : NB W w1.heap.size id0 H (.slice none 0 0) := by rw [hW]; exact NB.new _ _ _ _
  have Z3 : w1.heap.size + 1 ≤ W.heap.size := by rw [hW]; simp
  clear G1 C1 hW s0 s1 rB1
  generalize w1.heap.size = p at *
  go_wp2_with fail
  refine (amongL_c b A n c (m + 2) [0, 15, 220, 30000] W C3 _ _ _ _ (by omega) (by rfl) (by rfl) (by rfl) (by simp) (by simp)).mono ?_
  rintro e w4 ⟨f, hf, rfl, C4, g4⟩
  have rB4 := rB3.kept g4 (fun e => by have := Option.some.inj e; omega)
  have pB4 := pB3.kept g4 (fun e => by have := Option.some.inj e; omega)
  have G4 := grown_trans G3 g4
  have Z4 := Nat.le_trans Z3 g4.size
  clear G3 g4 C3 rB3 pB3 Z3 hf
  go_wp2_with fail
  refine (pick_c b A n c (m + 4) 6 _ C4 (by omega) (by omega)).mono ?_
  rintro e w5 ⟨x, x0, x1, rfl, C5, g5⟩
  have rB5 := rB4.kept g5 (fun e => by have := Option.some.inj e; omega)
  have pB5 := pB4.kept g5 (fun e => by have := Option.some.inj e; omega)
  have G5 := grown_trans G4 g5
  have Z5 := Nat.le_trans Z4 g5.size
  obtain ⟨N, W5, hN1, hN2⟩ : ∃ N : Nat, IntKind.i64.wrap (1 + x) = (N : Int) ∧ 1 ≤ N ∧ N ≤ 6 := ⟨(1 + x).toNat, by rw [IntWalk.i64_in _ (by omega)]; omega, by omega, by omega⟩
  clear G4 g5 C4 rB4 pB4 Z4
  have O0 : OwnI w5 (p + 1) (.slice none 0 0) [] := OwnI.nil _ _
  go_wp2
  clear W5 x0 x1
  go_loopw [6, 7] (fun fv iv wr => ∃ (k : Nat) (f : Int) (v : Value) (xs : List Int), k ≤ N ∧ iv = .int .i64 k ∧ fv = .int .i64 f ∧ (xs.length + k ≤ N ∧ N ≤ xs.length + k) ∧ Cur wr b A n c (m + 6 + 2 * xs.length) ∧ w.grownBy wr (some b) ∧ NB wr w.heap.size 0 0 (.slice none 0 0) ∧ NB wr p id0 H v ∧ OwnI wr (p + 1) v xs ∧ p + 1 ≤ wr.heap.size) (fun _ iv _ => (intOf iv).toNat)
  case atStart => exact ⟨N, f, _, [], by omega, rfl, rfl, by simp, C5, G5, rB5, pB5, O0, Z5⟩
  case round =>
    clear C5 G5 rB5 pB5 Z5 O0
    obtain ⟨k, f, v, xs, hk, rfl, rfl, hxl, CC, GG, rB, pB, OO, ZZ⟩ := hrel
    obtain ⟨Av, cv, rfl⟩ := OO.shape
    by_cases hlt' : 0 < k
    · have hi : (0 : Int) < (k : Int) := by omega
      have Wk : IntKind.i64.wrap ((k : Int) - 1) = (k : Int) - 1 := IntWalk.i64_in _ (by omega)
      have hl14 : xs.length ≤ 65536 := by omega
      obtain ⟨p0, p1, p2, f0, f1, f2⟩ := id pB
      go_upto_region 7 with (at_builtin; refine wpList_appK (wr := wr) rfl (.tmp 24) (.tmp 26) rfl (p + 1) _ _ _ _ rfl OO rfl rfl (by omega) ZZ ?_; intro nv w9 q g l; obtain ⟨Aq, cq, eqv⟩ := q.shape; simp only [List.length_append, List.length_cons, List.length_nil, Nat.zero_add] at eqv; subst eqv; have q8 := own_ge OO; have pB9 := pB.kept g (fun e => by have := q8 _ e.symm; omega); have rB9 := rB.kept g (fun e => by have := q8 _ e.symm; omega); have C9 := CC.kept g (fun k hk => by have := q8 _ hk; omega); have G9 := grown_own GG g (fun k hk => by have := q8 _ hk; omega); have Z9 := Nat.le_trans ZZ g.size; clear p0 p1 p2 f0 f1 f2; obtain ⟨p0, p1, p2, f0, f1, f2⟩ := id pB9)
      obtain ⟨W9, hW9⟩ : ∃ W, W = w9.setCell ⟨p, 2, none⟩ (.slice Aq (xs.length + 1) cq) := ⟨_, rfl⟩
      rw [← hW9]
      have CA : Cur W9 b A n c (m + 6 + 2 * xs.length) := by rw [hW9]; exact C9.setOther (a := ⟨p, 2, none⟩) hbp _
      have GA : w.grownBy W9 (some b) := by rw [hW9]; exact grown_set G9 (a := ⟨p, 2, none⟩) (Nat.le_of_lt hwp) _
      have rA : NB W9 w.heap.size 0 0 (.slice none 0 0) := by rw [hW9]; exact rB9.setOther (a := ⟨p, 2, none⟩) (by show ¬ w.heap.size = p; omega) _
      have pA : NB W9 p id0 H (.slice Aq (xs.length + 1) cq) := by rw [hW9]; exact pB9.set2 _
      have OA : OwnI W9 (p + 1) (.slice Aq (xs.length + 1) cq) (xs ++ [f]) := by rw [hW9]; exact own_set q (a := ⟨p, 2, none⟩) (Nat.lt_succ_self p) _
      have ZA : p + 1 ≤ W9.heap.size := by rw [hW9, World.size_setCell]; exact Z9
      clear CC GG rB pB OO ZZ C9 G9 rB9 pB9 Z9 q g l q8 hW9 p0 p1 p2 f0 f1 f2
      go_wp2_with fail
      refine (amongL_c b A n c (m + 6 + 2 * xs.length) [0, 0, 5, -5, 100, -40] W9 CA _ _ _ _ (by omega) (by rfl) (by rfl) (by rfl) (by simp) (by simp)).mono ?_
      rintro e w10 ⟨z, hz, rfl, C10, g10⟩
      have rB10 := rA.kept g10 (fun e => by have := Option.some.inj e; omega)
      have pB10 := pA.kept g10 (fun e => by have := Option.some.inj e; omega)
      have G10 := grown_trans GA g10
      have Z10 := Nat.le_trans ZA g10.size
      have O10 := own_far OA g10 (by omega)
      clear CA GA rA pA OA ZA g10 hz
      go_wp2_with (go_at_call 55; refine (l1Most_c _ _ _).mono ?_; rintro e w' ⟨rfl, rfl⟩)
      go_roundw
      case rel => exact ⟨k - 1, _, _, xs ++ [f], by omega, by (first | (congr 1; omega) | (simp; omega)), rfl, by simp; omega, by (simp only [List.length_append, List.length_cons, List.length_nil]; exact C10.weak (by omega)), G10, rB10, pB10, O10, Z10⟩
      case measure => simp [intOf]; omega
    · obtain rfl : k = 0 := by omega
      have hl0 : 1 ≤ xs.length ∧ xs.length ≤ 6 := by omega
      have hi : ¬ (0 : Int) < ((0 : Nat) : Int) := by omega
      go_wp2_with fail
      refine (pick_c b A n c (m + 6 + 2 * xs.length) 40 wr CC (by omega) (by omega)).mono ?_
      rintro e w8 ⟨y, y0, y1, rfl, C8, g8⟩
      have rB8 := rB.kept g8 (fun e => by have := Option.some.inj e; omega)
      have pB8 := pB.kept g8 (fun e => by have := Option.some.inj e; omega)
      have G8 := grown_trans GG g8
      have Z8 := Nat.le_trans ZZ g8.size
      have O8 := own_far OO g8 (by omega)
      have hpw : ¬ w.heap.size = p := by omega
      have hwp2 : ¬ p = w.heap.size := by omega
      clear CC GG rB pB OO ZZ g8 hxl hk hlt' hN1 hN2
      by_cases c0 : y = 0
      · subst c0
        obtain ⟨p0, p1, p2, f0, f1, f2⟩ := id pB8
        go_wp2_with fail
        clear p0 p1 p2 f0 f1 f2
        refine (amongL_c b A n c (m + 6 + 2 * xs.length + 2) [0, 99, 100] w8 C8 _ _ _ _ (by omega) (by rfl) (by rfl) (by rfl) (by simp) (by simp)).mono ?_
        rintro e w9 ⟨z, hz, rfl, C9, g9⟩
        have rBx := rB8.kept g9 (fun e => by have := Option.some.inj e; omega)
        have pBx := pB8.kept g9 (fun e => by have := Option.some.inj e; omega)
        have Cx := C9.setOther (a := ⟨p, 0, none⟩) (by show b < p; omega) (.int .i64 z)
        have Gx := grown_set (grown_trans G8 g9) (a := ⟨p, 0, none⟩) (by show w.heap.size ≤ p; omega) (.int .i64 z)
        have Ox := own_set (own_far O8 g9 (by omega)) (a := ⟨p, 0, none⟩) (by show p < p + 1; omega) (.int .i64 z)
        clear C8 rB8 pB8 G8 O8 g9 hz C9
        obtain ⟨p0, p1, p2, f0, f1, f2⟩ := id pBx
        obtain ⟨r0, r1, r2, h0, h1, h2⟩ := id rBx
        clear pBx rBx
        go_wp2
        go_light
        refine bodyPost_ret (v := .agg #[.int .i64 z, .int .i64 H, .slice Av xs.length cv]) (by simp (maxDischargeDepth := 8) [results, Try.results59, go_sem, *]) rfl ?_
        have F := fin3 Cx Gx Ox hlt (by omega) (.int .i64 z) (.int .i64 H) (.slice Av xs.length cv)
        exact ⟨_, _, _, _, rfl, F.1.weak (by omega), F.2.1, F.2.2, by (first | omega | (simp <;> omega))⟩
      by_cases c1' : y = 1
      · subst c1'
        obtain ⟨p0, p1, p2, f0, f1, f2⟩ := id pB8
        go_wp2_with fail
        clear p0 p1 p2 f0 f1 f2
        refine (amongL_c b A n c (m + 6 + 2 * xs.length + 2) [0, 10001] w8 C8 _ _ _ _ (by omega) (by rfl) (by rfl) (by rfl) (by simp) (by simp)).mono ?_
        rintro e w9 ⟨z, hz, rfl, C9, g9⟩
        have rBx := rB8.kept g9 (fun e => by have := Option.some.inj e; omega)
        have pBx := pB8.kept g9 (fun e => by have := Option.some.inj e; omega)
        have Cx := C9.setOther (a := ⟨p, 1, none⟩) (by show b < p; omega) (.int .i64 z)
        have Gx := grown_set (grown_trans G8 g9) (a := ⟨p, 1, none⟩) (by show w.heap.size ≤ p; omega) (.int .i64 z)
        have Ox := own_set (own_far O8 g9 (by omega)) (a := ⟨p, 1, none⟩) (by show p < p + 1; omega) (.int .i64 z)
        clear C8 rB8 pB8 G8 O8 g9 hz C9
        obtain ⟨p0, p1, p2, f0, f1, f2⟩ := id pBx
        obtain ⟨r0, r1, r2, h0, h1, h2⟩ := id rBx
        clear pBx rBx
        go_wp2
        go_light
        refine bodyPost_ret (v := .agg #[.int .i64 id0, .int .i64 z, .slice Av xs.length cv]) (by simp (maxDischargeDepth := 8) [results, Try.results59, go_sem, *]) rfl ?_
        have F := fin3 Cx Gx Ox hlt (by omega) (.int .i64 id0) (.int .i64 z) (.slice Av xs.length cv)
        exact ⟨_, _, _, _, rfl, F.1.weak (by omega), F.2.1, F.2.2, by (first | omega | (simp <;> omega))⟩
      by_cases c2' : y = 2
      · subst c2'
        obtain ⟨gb, cc, hv, hg1, hg2⟩ := O8.head (by omega)
        simp only [Value.slice.injEq, true_and] at hv
        obtain ⟨rfl, rfl⟩ := hv
        obtain ⟨p0, p1, p2, f0, f1, f2⟩ := id pB8
        go_upto_region 14 with (fail)
        have hpb : p ≠ b := by omega
        have hpg : ¬ p = gb := by omega
        have pB2 := pB8.p2
        go_region_held3 (fun w' => w'.cell? ⟨p, 2, none⟩ = some (.slice (some ⟨gb, 0, none⟩) xs.length cv))
          (first
            | with_reducible assumption
            | ((with_reducible refine n2_set ?_ hpg); with_reducible assumption)
            | (with_reducible exact n2_adrew (by assumption) _)
            | (with_reducible exact n2_alloc (by assumption) _)
            | (with_reducible exact n2_drew pB2)
            | fail)
          (first | (go_at_call 61; (with_reducible refine (pick_c b A n c (m + 6 + 2 * xs.length + 2) xs.length _ (C8.drew) (by omega) (by omega)).mono ?_); rintro e wx ⟨i, z0, z1, rfl, CX, gX'⟩; have gX := grown_undrew gX'; obtain ⟨j, rfl⟩ := Int.eq_ofNat_of_zero_le z0; have hj : j < xs.length := (by omega); have hj2 : (j : Int) < (xs.length : Int) := (by omega); clear z1; have rX := rB8.kept gX (fun e => by have := Option.some.inj e; omega); have pX := pB8.kept gX (fun e => by have := Option.some.inj e; omega); have GX := grown_trans G8 gX; have OX := own_far O8 gX (by omega); clear p0 p1 p2 f0 f1 f2; obtain ⟨p0, p1, p2, f0, f1, f2⟩ := id pX) | (go_at_call 61; (with_reducible refine (pick_c b A n c (m + 6 + 2 * xs.length + 2) xs.length _ ((C8.alloc _).drew) (by omega) (by omega)).mono ?_); rintro e wx ⟨i, z0, z1, rfl, CX, gX'⟩; have gX := grown_trans (World.grownBy_alloc w8 _ (some b)) (grown_undrew gX'); obtain ⟨j, rfl⟩ := Int.eq_ofNat_of_zero_le z0; have hj : j < xs.length := (by omega); have hj2 : (j : Int) < (xs.length : Int) := (by omega); clear z1; have HC := Lib.hid (lits_far [-1, 1000000, 1000001] (grown_undrew gX') C8.lt (by rfl)); have hqs := (grown_undrew gX').size; have hqb := C8.lt; have rX := rB8.kept gX (fun e => by have := Option.some.inj e; omega); have pX := pB8.kept gX (fun e => by have := Option.some.inj e; omega); have GX := grown_trans G8 gX; have OX := own_far O8 gX (by omega); clear p0 p1 p2 f0 f1 f2; obtain ⟨p0, p1, p2, f0, f1, f2⟩ := id pX) | (go_at_call 60; (with_reducible refine (amongD_c b A n c (m + 6 + 2 * xs.length + 2) [-1, 1000000, 1000001] w8 C8 _ _ _ _ (by omega) (by first | rfl | simp) (by simp) (by simp) (by simp) (by simp)).mono ?_); rintro e wx ⟨z, hz, rfl, CX, gX⟩; have rX := rB8.kept gX (fun e => by have := Option.some.inj e; omega); have pX := pB8.kept gX (fun e => by have := Option.some.inj e; omega); have GX := grown_trans G8 gX; have OX := own_far O8 gX (by omega); clear p0 p1 p2 f0 f1 f2; obtain ⟨p0, p1, p2, f0, f1, f2⟩ := id pX) | (go_at_call 60; (with_reducible refine (amongL_c b A n c (m + 6 + 2 * xs.length + 4) [-1, 1000000, 1000001] wx CX _ _ _ _ (by omega) (by first | rfl | simp) (by simp) (by simp) (by simp) (by simp)).mono ?_); rintro e wy ⟨z, hz, rfl, CY, gY⟩; have rY := rX.kept gY (fun e => by have := Option.some.inj e; omega); have pY := pX.kept gY (fun e => by have := Option.some.inj e; omega); have GY := grown_trans GX gY; have OY := own_far OX gY (by omega); clear p0 p1 p2 f0 f1 f2; obtain ⟨p0, p1, p2, f0, f1, f2⟩ := id pY; have rc := OY.cellAt (k := j) (by omega); have rf := OY.frozenAt j) | (go_at_call 60; (with_reducible refine (amongT_c b A n c (m + 6 + 2 * xs.length + 4) [-1, 1000000, 1000001] wx CX w8.heap.size 3 _ (by omega) (Nat.ne_of_gt hqb) (by rw [World.size_alloc] at hqs; omega) HC.out (by omega) (by simp) (by simp)).mono ?_); rintro e wy ⟨z, hz, rfl, CY, gY⟩; have rY := rX.kept gY (fun e => by have := Option.some.inj e; omega); have pY := pX.kept gY (fun e => by have := Option.some.inj e; omega); have GY := grown_trans GX gY; have OY := own_far OX gY (by omega); clear p0 p1 p2 f0 f1 f2; obtain ⟨p0, p1, p2, f0, f1, f2⟩ := id pY; have rc := OY.cellAt (k := j) (by omega); have rf := OY.frozenAt j) | (go_at_call 61; (with_reducible refine (pick_c b A n c (m + 6 + 2 * xs.length + 4) xs.length wx CX (by omega) (by omega)).mono ?_); rintro e wy ⟨i, z0, z1, rfl, CY, gY⟩; obtain ⟨j, rfl⟩ := Int.eq_ofNat_of_zero_le z0; have hj : j < xs.length := (by omega); have hj2 : (j : Int) < (xs.length : Int) := (by omega); clear z1; have rY := rX.kept gY (fun e => by have := Option.some.inj e; omega); have pY := pX.kept gY (fun e => by have := Option.some.inj e; omega); have GY := grown_trans GX gY; have OY := own_far OX gY (by omega); clear p0 p1 p2 f0 f1 f2; obtain ⟨p0, p1, p2, f0, f1, f2⟩ := id pY; have rc := OY.cellAt (k := j) (by omega); have rf := OY.frozenAt j))
        all_goals
          have st := OY.stored j z
          have Cx := CY.setOther (a := ⟨gb, j, none⟩) (by show b < gb; omega) (.int .i64 z)
          have Gx := grown_set GY (a := ⟨gb, j, none⟩) (by show w.heap.size ≤ gb; omega) (.int .i64 z)
          have rBx := rY.setOther (a := ⟨gb, j, none⟩) (by show ¬ w.heap.size = gb; omega) (.int .i64 z)
          have pBx := pY.setOther (a := ⟨gb, j, none⟩) (by show ¬ p = gb; omega) (.int .i64 z)
          have Ox := st.1
          clear p0 p1 p2 f0 f1 f2 rc rf CY GY rY pY OY st
          generalize wy.setCell ⟨gb, j, none⟩ (.int .i64 z) = w11 at *
          obtain ⟨p0, p1, p2, f0, f1, f2⟩ := id pBx
          obtain ⟨r0, r1, r2, h0, h1, h2⟩ := id rBx
          clear pBx rBx
          go_wp2
          go_light
          refine bodyPost_ret (v := .agg #[.int .i64 id0, .int .i64 H, .slice (some ⟨gb, 0, none⟩) xs.length cv]) (by simp (maxDischargeDepth := 8) [results, Try.results59, go_sem, *]) rfl ?_
          have F := fin3 Cx Gx Ox hlt (by omega) (.int .i64 id0) (.int .i64 H) (.slice (some ⟨gb, 0, none⟩) xs.length cv)
          exact ⟨_, _, _, _, rfl, F.1.weak (by omega), F.2.1, F.2.2, by (first | omega | (simp <;> omega))⟩
      by_cases c3' : y = 3
      · subst c3'
        have ZS : xs.length ≤ 15 := by omega
        go_wp2
        go_loopw [] (fun wr => ∃ (v : Value) (zs : List Int), zs.length ≤ 15 ∧ Cur wr b A n c (m + 30 + 2 * zs.length) ∧ w.grownBy wr (some b) ∧ NB wr w.heap.size 0 0 (.slice none 0 0) ∧ NB wr p id0 H v ∧ OwnI wr (p + 1) v zs ∧ p + 1 ≤ wr.heap.size) (fun wr => leftN wr p 16)
        case atStart => exact ⟨_, xs, ZS, C8.weak (by omega), G8, rB8, pB8, O8, Z8⟩
        case round =>
          clear rB8 pB8 C8 G8 O8 Z8 ZS
          obtain ⟨v, zs, hzs, CC, GG, rB, pB, OO, ZZ⟩ := hrel
          obtain ⟨Av, cv, rfl⟩ := OO.shape
          have pB2 := pB.p2
          obtain ⟨p0, p1, p2, f0, f1, f2⟩ := id pB
          go_upto_region 16 with (fail)
          go_region_held3 (fun w' => w'.cell? ⟨p, 2, none⟩ = some (.slice Av zs.length cv))
            (first
              | with_reducible assumption
              | (with_reducible exact n2_drew pB2)
              | fail)
            (first | (go_at_call 61; (with_reducible refine (pick_c b A n c (m + 30 + 2 * zs.length) 2 _ (CC.drew) (by omega) (by omega)).mono ?_); rintro e wx ⟨i, z0, z1, rfl, CX, gX'⟩; have gX := grown_undrew gX'; have W14 : IntKind.i64.wrap (14 + i) = 14 + i := (IntWalk.i64_in _ (by omega)); have rX := rB.kept gX (fun e => by have := Option.some.inj e; omega); have pX := pB.kept gX (fun e => by have := Option.some.inj e; omega); have GX := grown_trans GG gX; have OX := own_far OO gX (by omega); clear p0 p1 p2 f0 f1 f2; obtain ⟨p0, p1, p2, f0, f1, f2⟩ := id pX; have ZX := Nat.le_trans ZZ gX.size; clear gX'))
          by_cases hlt' : (zs.length : Int) < 14 + i
          · have hl14 : zs.length ≤ 14 := by omega
            go_wp2_with (at_builtin; refine wpList_appK (wr := wx) rfl (.tmp 72) (.tmp 73) rfl (p + 1) _ _ _ _ rfl OX rfl rfl (by omega) ZX ?_; intro nv w9 q g l; obtain ⟨Aq, cq, eqv⟩ := q.shape; simp only [List.length_append, List.length_cons, List.length_nil, Nat.zero_add] at eqv; subst eqv; have q8 := own_ge OX; have pB9 := pX.kept g (fun e => by have := q8 _ e.symm; omega); have rB9 := rX.kept g (fun e => by have := q8 _ e.symm; omega); have C9 := CX.kept g (fun k hk => by have := q8 _ hk; omega); have G9 := grown_own GX g (fun k hk => by have := q8 _ hk; omega); have Z9 := Nat.le_trans ZX g.size; clear p0 p1 p2 f0 f1 f2; obtain ⟨p0, p1, p2, f0, f1, f2⟩ := id pB9)
            go_roundw
            case rel => exact ⟨_, zs ++ [7], by simp; omega, (C9.setOther (a := ⟨p, 2, none⟩) hbp _).weak (by simp; omega), grown_set G9 (a := ⟨p, 2, none⟩) (Nat.le_of_lt hwp) _, rB9.setOther (a := ⟨p, 2, none⟩) (by show ¬ w.heap.size = p; omega) _, pB9.set2 _, own_set q (a := ⟨p, 2, none⟩) (Nat.lt_succ_self p) _, by rw [World.size_setCell]; exact Z9⟩
            case measure =>
              have e1 := leftN_of (k := 16) (pB9.set2 (.slice Aq (zs.length + 1) cq)).p2
              have e2 := leftN_of (k := 16) pB.p2
              rw [e1, e2]
              omega
          · have rBx := rX
            have pBx := pX
            have Cx := CX
            have Gx := GX
            have Ox := OX
            clear p0 p1 p2 f0 f1 f2 rX pX CX GX OX CC GG rB pB OO
            obtain ⟨p0, p1, p2, f0, f1, f2⟩ := id pBx
            obtain ⟨r0, r1, r2, h0, h1, h2⟩ := id rBx
            clear pBx rBx
            go_wp2
            go_light
            refine bodyPost_ret (v := .agg #[.int .i64 id0, .int .i64 H, .slice Av zs.length cv]) (by simp (maxDischargeDepth := 8) [results, Try.results59, go_sem, *]) rfl ?_
            have F := fin3 Cx Gx Ox hlt (by omega) (.int .i64 id0) (.int .i64 H) (.slice Av zs.length cv)
            exact ⟨_, _, _, rfl, F.1.weak (by omega), F.2.1, zs, F.2.2, hzs⟩
      by_cases c4' : y = 4
      · subst c4'
        obtain ⟨p0, p1, p2, f0, f1, f2⟩ := id pB8
        go_upto_region 20 with (fail)
        obtain ⟨W9, hW9⟩ : ∃ W, W = (w8.alloc (.cells #[] 3)).setCell ⟨p, 2, none⟩ (.slice (some ⟨w8.heap.size, 0, none⟩) 0 0) := ⟨_, rfl⟩
        rw [← hW9]
        have rBx : NB W9 w.heap.size 0 0 (.slice none 0 0) := by rw [hW9]; exact (rB8.alloc _).setOther (a := ⟨p, 2, none⟩) hpw _
        have pBx : NB W9 p id0 H (.slice (some ⟨w8.heap.size, 0, none⟩) 0 0) := by rw [hW9]; exact (pB8.alloc _).set2 _
        have Cx : Cur W9 b A n c (m + 6 + 2 * xs.length + 2) := by rw [hW9]; exact (C8.alloc _).setOther (a := ⟨p, 2, none⟩) hbp _
        have Gx : w.grownBy W9 (some b) := by rw [hW9]; exact grown_set (grown_alloc G8 _) (a := ⟨p, 2, none⟩) (Nat.le_of_lt hwp) _
        have Ox : OwnI W9 (p + 1) (.slice (some ⟨w8.heap.size, 0, none⟩) 0 0) [] := by rw [hW9]; exact own_set (own_empty w8 (p + 1) Z8) (a := ⟨p, 2, none⟩) (Nat.lt_succ_self p) _
        clear p0 p1 p2 f0 f1 f2 rB8 pB8 C8 G8 O8 hW9
        generalize w8.heap.size = sz at *
        obtain ⟨p0, p1, p2, f0, f1, f2⟩ := id pBx
        obtain ⟨r0, r1, r2, h0, h1, h2⟩ := id rBx
        clear pBx rBx
        go_wp2
        go_light
        refine bodyPost_ret (v := .agg #[.int .i64 id0, .int .i64 H, .slice (some ⟨sz, 0, none⟩) 0 0]) (by simp (maxDischargeDepth := 8) [results, Try.results59, go_sem, *]) rfl ?_
        have F := fin3 Cx Gx Ox hlt (by omega) (.int .i64 id0) (.int .i64 H) (.slice (some ⟨sz, 0, none⟩) 0 0)
        exact ⟨_, _, _, _, rfl, F.1.weak (by omega), F.2.1, F.2.2, by (first | omega | (simp <;> omega))⟩
      have c0b : (y == 0) = false := by simp [c0]
      have c1b : (y == 1) = false := by simp [c1']
      have c2b : (y == 2) = false := by simp [c2']
      have c3b : (y == 3) = false := by simp [c3']
      have c4b : (y == 4) = false := by simp [c4']
      have rBx := rB8
      have pBx := pB8
      have Cx := C8
      have Gx := G8
      have Ox := O8
      clear rB8 pB8 C8 G8 O8
      obtain ⟨p0, p1, p2, f0, f1, f2⟩ := id pBx
      obtain ⟨r0, r1, r2, h0, h1, h2⟩ := id rBx
      clear pBx rBx
      go_wp2
      go_light
      refine bodyPost_ret (v := .agg #[.int .i64 id0, .int .i64 H, .slice Av xs.length cv]) (by simp (maxDischargeDepth := 8) [results, Try.results59, go_sem, *]) rfl ?_
      have F := fin3 Cx Gx Ox hlt (by omega) (.int .i64 id0) (.int .i64 H) (.slice Av xs.length cv)
      exact ⟨_, _, _, _, rfl, F.1.weak (by omega), F.2.1, F.2.2, by (first | omega | (simp <;> omega))⟩
end Go.Proofs.Ytdkhiedgikjnkaa
