/- Contracts: what the great law on nights draws. -/
import Derived.Test.YtdkhiedgikjnkaaNArea
namespace Go.Proofs.Ytdkhiedgikjnkaa
open Go.RowKit

theorem own_three {W : World} {base R : Nat} {v : Value} {zs : List Int} (O : OwnI W base v zs) (hR : R < base) (u0 u1 u2 : Value) :
    OwnI (((W.setCell ⟨R, 0, none⟩ u0).setCell ⟨R, 1, none⟩ u1).setCell ⟨R, 2, none⟩ u2) R v zs :=
  (own_set (own_set (own_set O (a := ⟨R, 0, none⟩) hR u0) (a := ⟨R, 1, none⟩) hR u1) (a := ⟨R, 2, none⟩) hR u2).weak (Nat.le_of_lt hR)
set_option maxRecDepth 100000 in
set_option maxHeartbeats 4000000 in
theorem drawValid_c (A : Option Addr) (n c : Nat) (w : World) (h : RdB w w.heap.size A n) :
    Calls Try.prog 62 #[.slice A n c] w fun e w' => ∃ (I H : Int) (B : Option Addr) (d : Nat) (xs : List Int), e = .returned (.agg #[.int .i64 I, .int .i64 H, .slice B xs.length d]) ∧ OwnI w' w.heap.size (.slice B xs.length d) xs ∧ xs.length ≤ 15 ∧ Below w.heap.size w w' := by
  go_enter Try.func62, Try.ntmps62
  go_wp2_with fail
  obtain ⟨W0, hW0⟩ : ∃ W, W = w.alloc (.cells #[.int .i64 0, .int .i64 0, .slice none 0 0] 32) := ⟨_, rfl⟩
  obtain ⟨W, hW⟩ : ∃ W, W = W0.alloc (.cells #[.slice A n c, .int .i64 0, .int .u64 0] 63) := ⟨_, rfl⟩
  rw [← hW0, ← hW]
  have B0 : Below w.heap.size w W := by rw [hW, hW0]; exact ((Below.refl _ _).alloc (Nat.le_refl _) _).alloc (by simp only [World.size_alloc]; omega) _
  have sb : W0.heap.size = w.heap.size + 1 := by rw [hW0]; simp
  have sW : W.heap.size = w.heap.size + 1 + 1 := by rw [hW, World.size_alloc, sb]
  have C0 : Cur W W0.heap.size A n c 0 := by rw [hW]; exact Cur.new _ _ (by rw [sb, hW0]; exact (h.below ((Below.refl _ _).alloc (Nat.le_refl _) _)).more (by omega))
  have rB0 : NB W w.heap.size 0 0 (.slice none 0 0) := by rw [hW, hW0]; exact (NB.new _ _ _ _).alloc _
  rw [sb] at C0
  clear hW hW0 sb h
  obtain ⟨b, hb⟩ : ∃ b, b = w.heap.size + 1 := ⟨_, rfl⟩
  rw [← hb] at C0 ⊢
  have hb1 : w.heap.size ≤ b := by omega
  have hrb : w.heap.size ≠ b := by omega
  have hbW0 : b < W.heap.size := by omega
  clear hb
  go_wp2_with fail
  refine (pick_c b A n c 0 5 W C0 (by omega) (by omega)).mono ?_
  rintro e w1 ⟨x, x0, x1, rfl, C1, g1⟩
  have B1 := below_grown (Nat.le_refl _) B0 g1 hb1
  have rB1 := rB0.kept g1 (fun e => hrb (Option.some.inj e))
  have Wx : IntKind.i64.wrap (1 + x) = 1 + x := IntWalk.i64_in _ (by omega)
  have s1 := g1.size
  clear g1 C0 B0 rB0
  go_wp2_with fail
  refine (area_c b A n c 2 _ w1 C1 (by omega)).mono ?_
  rintro e w2 ⟨I, H, v, xs, rfl, C2, g2, O2, hx⟩
  have B2 := below_grown (Nat.le_refl _) B1 g2 hb1
  obtain ⟨r0, r1, r2, h0, h1, h2⟩ := rB1.kept g2 (fun e => hrb (Option.some.inj e))
  obtain ⟨B, d, rfl⟩ := O2.shape
  have O3 := own_three O2 (R := w.heap.size) (by omega) (.int .i64 I) (.int .i64 H) (.slice B xs.length d)
  clear g2 C1 B1 rB1 O2 C2
  go_wp2
  go_light
  refine bodyPost_ret (v := .agg #[.int .i64 I, .int .i64 H, .slice B xs.length d]) (by simp (maxDischargeDepth := 8) [results, Try.results62, go_sem, *]) rfl ?_
  exact ⟨I, H, B, d, xs, rfl, O3, hx, by (repeat' (first | (with_reducible exact Below.refl _ _) | (with_reducible assumption) | (with_reducible refine below_drewN ?_ _) | (with_reducible refine Below.alloc ?_ ?_ _) | (with_reducible refine Below.drew ?_) | (with_reducible refine Below.setCell ?_ ?_ _) | go_size))⟩
set_option maxHeartbeats 1000000 in
theorem drawGrow_c (A : Option Addr) (n c : Nat) (w : World) (h : RdB w w.heap.size A n) :
    Calls Try.prog 34 #[.slice A n c] w fun e w' => ∃ (I H : Int) (B : Option Addr) (d : Nat) (xs : List Int), e = .returned (.agg #[.int .i64 I, .int .i64 H, .slice B xs.length d]) ∧ OwnI w' w.heap.size (.slice B xs.length d) xs ∧ xs.length ≤ 15 ∧ Below w.heap.size w w' := by
  go_enter Try.func34, Try.ntmps34
  go_wp2_with fail
  refine (drawValid_c A n c _ ((h.below ((Below.refl _ _).alloc (Nat.le_refl _) _)).more (by simp))).mono ?_
  rintro e w1 ⟨I, H, B, d, xs, rfl, O1, hx, hb1⟩
  have hz1 := hb1.size; (repeat (first | rw [World.size_alloc] at hz1 | rw [World.size_drew] at hz1 | rw [World.heap_drewN] at hz1 | rw [World.size_setCell] at hz1)); have hB : Below w.heap.size w w1 := Below.trans (by (repeat' (first | (with_reducible exact Below.refl _ _) | (with_reducible assumption) | (with_reducible refine below_drewN ?_ _) | (with_reducible refine Below.alloc ?_ ?_ _) | (with_reducible refine Below.drew ?_) | (with_reducible refine Below.setCell ?_ ?_ _) | go_size))) (hb1.mono (by go_size)); have hL1 := hb1; clear hb1; obtain ⟨hc1, hf1⟩ := bcell hL1
  have o1 := Lib.hid (own_three O1 (R := w.heap.size) (by simp) (.int .i64 I) (.int .i64 H) (.slice B xs.length d))
  clear O1
  go_wp2
  go_light
  refine bodyPost_ret (v := .agg #[.int .i64 I, .int .i64 H, .slice B xs.length d]) (by simp (maxDischargeDepth := 8) [results, Try.results34, go_sem, *]) rfl ?_
  exact ⟨I, H, B, d, xs, rfl, o1.out, hx, by (repeat' (first | (with_reducible exact Below.refl _ _) | (with_reducible assumption) | (with_reducible refine below_drewN ?_ _) | (with_reducible refine Below.alloc ?_ ?_ _) | (with_reducible refine Below.drew ?_) | (with_reducible refine Below.setCell ?_ ?_ _) | go_size))⟩
theorem lits_new {w : World} {cs : Array Value} {t : TypeId} (ys : List Int) (hcs : cs = (ys.map (Value.int .i64)).toArray) : ∀ j, j < ys.length → (w.alloc (.cells cs t)).cell? ⟨w.heap.size, j, none⟩ = some (.int .i64 (ys.getD j 0)) := fun j hj => by
  rw [World.cell?_alloc_new, hcs]
  simp [List.getD_eq_getElem?_getD, hj]
section
variable {W W' : World} {p b : Nat} {u0 u1 u2 : Value}
theorem n3_drew (h : W.cell? ⟨p, 0, none⟩ = some u0 ∧ W.cell? ⟨p, 1, none⟩ = some u1 ∧ W.cell? ⟨p, 2, none⟩ = some u2) : W.drew.cell? ⟨p, 0, none⟩ = some u0 ∧ W.drew.cell? ⟨p, 1, none⟩ = some u1 ∧ W.drew.cell? ⟨p, 2, none⟩ = some u2 := h
theorem n3_alloc (h : W.cell? ⟨p, 0, none⟩ = some u0 ∧ W.cell? ⟨p, 1, none⟩ = some u1 ∧ W.cell? ⟨p, 2, none⟩ = some u2) (o : Obj) : (W.alloc o).cell? ⟨p, 0, none⟩ = some u0 ∧ (W.alloc o).cell? ⟨p, 1, none⟩ = some u1 ∧ (W.alloc o).cell? ⟨p, 2, none⟩ = some u2 := ⟨(World.cell?_alloc_lt W o ⟨p, 0, none⟩ (lt_of_cell (by rw [h.1]; rfl))).trans h.1, (World.cell?_alloc_lt W o ⟨p, 1, none⟩ (lt_of_cell (by rw [h.2.1]; rfl))).trans h.2.1, (World.cell?_alloc_lt W o ⟨p, 2, none⟩ (lt_of_cell (by rw [h.2.2]; rfl))).trans h.2.2⟩
theorem n3_adrew (h : W.drew.cell? ⟨p, 0, none⟩ = some u0 ∧ W.drew.cell? ⟨p, 1, none⟩ = some u1 ∧ W.drew.cell? ⟨p, 2, none⟩ = some u2) (o : Obj) : (W.alloc o).drew.cell? ⟨p, 0, none⟩ = some u0 ∧ (W.alloc o).drew.cell? ⟨p, 1, none⟩ = some u1 ∧ (W.alloc o).drew.cell? ⟨p, 2, none⟩ = some u2 := n3_alloc (W := W) h o
theorem n3_far (h : W.cell? ⟨p, 0, none⟩ = some u0 ∧ W.cell? ⟨p, 1, none⟩ = some u1 ∧ W.cell? ⟨p, 2, none⟩ = some u2) (g : W.grownBy W' (some b)) (hb : p ≠ b) : W'.cell? ⟨p, 0, none⟩ = some u0 ∧ W'.cell? ⟨p, 1, none⟩ = some u1 ∧ W'.cell? ⟨p, 2, none⟩ = some u2 := by
  have e := g.block p (lt_of_cell (a := ⟨p, 0, none⟩) (by rw [h.1]; rfl)) (fun q => hb (Option.some.inj q))
  exact ⟨(World.cell?_of_block e).trans h.1, (World.cell?_of_block e).trans h.2.1, (World.cell?_of_block e).trans h.2.2⟩
theorem n3_set (h : W.cell? ⟨p, 0, none⟩ = some u0 ∧ W.cell? ⟨p, 1, none⟩ = some u1 ∧ W.cell? ⟨p, 2, none⟩ = some u2) {R : Nat} {v0 v1 v2 : Value} (hne : ¬ p = R) : (((W.setCell ⟨R, 0, none⟩ v0).setCell ⟨R, 1, none⟩ v1).setCell ⟨R, 2, none⟩ v2).cell? ⟨p, 0, none⟩ = some u0 ∧ (((W.setCell ⟨R, 0, none⟩ v0).setCell ⟨R, 1, none⟩ v1).setCell ⟨R, 2, none⟩ v2).cell? ⟨p, 1, none⟩ = some u1 ∧ (((W.setCell ⟨R, 0, none⟩ v0).setCell ⟨R, 1, none⟩ v1).setCell ⟨R, 2, none⟩ v2).cell? ⟨p, 2, none⟩ = some u2 := by
  have e : (((W.setCell ⟨R, 0, none⟩ v0).setCell ⟨R, 1, none⟩ v1).setCell ⟨R, 2, none⟩ v2).heap[p]? = W.heap[p]? := (heap_setCell_other _ ⟨R, 2, none⟩ p v2 (fun q => hne q)).trans ((heap_setCell_other _ ⟨R, 1, none⟩ p v1 (fun q => hne q)).trans (heap_setCell_other _ ⟨R, 0, none⟩ p v0 (fun q => hne q)))
  exact ⟨(World.cell?_of_block e).trans h.1, (World.cell?_of_block e).trans h.2.1, (World.cell?_of_block e).trans h.2.2⟩
end
set_option maxRecDepth 100000 in
set_option maxHeartbeats 4000000 in
theorem drawBurst_c (A : Option Addr) (n c : Nat) (w : World) (h : RdB w w.heap.size A n) :
    Calls Try.prog 32 #[.slice A n c] w fun e w' => ∃ (I H r : Int) (B : Option Addr) (d : Nat) (xs : List Int), e = .returned (.tuple #[.agg #[.int .i64 I, .int .i64 H, .slice B xs.length d], .int .i64 r]) ∧ OwnI w' w.heap.size (.slice B xs.length d) xs ∧ xs.length ≤ 15 ∧ Below w.heap.size w w' := by
  go_enter Try.func32, Try.ntmps32
  go_wp2_with fail
  obtain ⟨W0, hW0⟩ : ∃ W, W = w.alloc (.cells #[.int .i64 0, .int .i64 0, .slice none 0 0] 32) := ⟨_, rfl⟩
  obtain ⟨W, hW⟩ : ∃ W, W = W0.alloc (.cells #[.slice A n c, .int .i64 0, .int .u64 0] 63) := ⟨_, rfl⟩
  rw [← hW0, ← hW]
  have B0 : Below w.heap.size w W := by rw [hW, hW0]; exact ((Below.refl _ _).alloc (Nat.le_refl _) _).alloc (by simp only [World.size_alloc]; omega) _
  have sb : W0.heap.size = w.heap.size + 1 := by rw [hW0]; simp
  have sW : W.heap.size = w.heap.size + 1 + 1 := by rw [hW, World.size_alloc, sb]
  have C0 : Cur W W0.heap.size A n c 0 := by rw [hW]; exact Cur.new _ _ (by rw [sb, hW0]; exact (h.below ((Below.refl _ _).alloc (Nat.le_refl _) _)).more (by omega))
  have rB0 : NB W w.heap.size 0 0 (.slice none 0 0) := by rw [hW, hW0]; exact (NB.new _ _ _ _).alloc _
  rw [sb] at C0
  clear hW hW0 sb h
  obtain ⟨b, hb⟩ : ∃ b, b = w.heap.size + 1 := ⟨_, rfl⟩
  rw [← hb] at C0 ⊢
  have hb1 : w.heap.size ≤ b := by omega
  have hrb : w.heap.size ≠ b := by omega
  have hbw : b < W.heap.size := by omega
  clear hb
  go_wp2_with fail
  refine (area_c b A n c 0 _ W C0 (by omega)).mono ?_
  rintro e w1 ⟨I, H, v, xs, rfl, C1, g1, O1, hx⟩
  have B1 := below_grown (Nat.le_refl _) B0 g1 hb1
  have rB1 := rB0.kept g1 (fun e => hrb (Option.some.inj e))
  have s1 := g1.size
  obtain ⟨B, d, rfl⟩ := O1.shape
  clear g1 C0 B0 rB0
  go_upto_region 3 with (fail)
  obtain ⟨W2, hW2⟩ : ∃ W, W = w1.alloc (.cells #[.int .i64 I, .int .i64 H, .slice B xs.length d] 32) := ⟨_, rfl⟩
  rw [← hW2]
  have C2 : Cur W2 b A n c 100 := by rw [hW2]; exact (C1.alloc _).weak (by omega)
  have rB2 : NB W2 w.heap.size 0 0 (.slice none 0 0) := by rw [hW2]; exact rB1.alloc _
  have pB2 : NB W2 w1.heap.size I H (.slice B xs.length d) := by rw [hW2]; exact NB.new _ _ _ _
  have O2 : OwnI W2 W.heap.size (.slice B xs.length d) xs := by rw [hW2]; exact O1.alloc _
  have G2 : Below w.heap.size w W2 := by rw [hW2]; exact B1.alloc (by omega) _
  have hpb : w1.heap.size ≠ b := by omega
  have hpr : ¬ w1.heap.size = w.heap.size := by omega
  have hRW : w.heap.size < W.heap.size := by omega
  have hbW : b < W.heap.size := hbw
  clear hW2 C1 rB1 O1 B1 hbw
  generalize w1.heap.size = p at *
  have N2 := And.intro pB2.p0 (And.intro pB2.p1 pB2.p2)
  obtain ⟨r0, r1, r2, h0, h1, h2⟩ := id rB2
  go_region_held3 (fun w' => w'.cell? ⟨p, 0, none⟩ = some (.int .i64 I) ∧ w'.cell? ⟨p, 1, none⟩ = some (.int .i64 H) ∧ w'.cell? ⟨p, 2, none⟩ = some (.slice B xs.length d))
    (first
      | with_reducible assumption
      | ((with_reducible refine n3_set ?_ hpr); with_reducible assumption)
      | (with_reducible exact n3_adrew (by assumption) _)
      | (with_reducible exact n3_alloc (by assumption) _)
      | (with_reducible exact n3_drew N2)
      | fail)
    (first | (go_at_call 61; (with_reducible refine (pick_c b A n c 100 24 _ (C2.drew) (by omega) (by omega)).mono ?_); rintro e w4 ⟨y, y0, y1, rfl, C4, g4'⟩; have g4 := grown_undrew g4'; have rB4 := rB2.kept g4 (fun e => hrb (Option.some.inj e)); have pB4 := pB2.kept g4 (fun e => hpb (Option.some.inj e)); have N4 := And.intro pB4.p0 (And.intro pB4.p1 pB4.p2); have G4 := below_grown (Nat.le_refl _) G2 g4 hb1; have O4 := own_far O2 g4 hbW; clear r0 r1 r2 h0 h1 h2; obtain ⟨r0, r1, r2, h0, h1, h2⟩ := id rB4; obtain ⟨k, hk, hkb⟩ : ∃ k : Nat, y.tdiv 11 = k ∧ k ≤ 2 := ⟨(y / 11).toNat, (by rw [Int.tdiv_eq_ediv_of_nonneg y0]; omega), (by omega)⟩; have sa : IntKind.i64.wrap (k : Int) = (k : Int) := IntWalk.i64_in _ (by omega); obtain ⟨q, sq⟩ : ∃ q : Nat, q = 6 + k := ⟨_, rfl⟩; have sb : IntKind.i64.wrap (6 + (k : Int)) = (q : Int) := (by rw [sq]; exact IntWalk.i64_in _ (by omega)); have sc : (0 : Int) ≤ (q : Int) := (by omega); have sd : (q : Int) ≤ 8 := (by omega); have se : 0 < q := (by omega); have sf : q ≤ 8 := (by omega); clear sq y0 y1) | (go_at_call 61; (with_reducible refine (pick_c b A n c 100 24 _ ((C2.alloc _).drew) (by omega) (by omega)).mono ?_); rintro e w4 ⟨y, y0, y1, rfl, C4, g4'⟩; have g4 := grown_trans (World.grownBy_alloc W2 _ (some b)) (grown_undrew g4'); have HC := Lib.hid (lits_far [1, 5, 6, 50, 100, 1000000, 0, 1000001] (grown_undrew g4') C2.lt (by rfl)); have hqb := C2.lt; have hqs := (grown_undrew g4').size; have rB4 := rB2.kept g4 (fun e => hrb (Option.some.inj e)); have pB4 := pB2.kept g4 (fun e => hpb (Option.some.inj e)); have N4 := And.intro pB4.p0 (And.intro pB4.p1 pB4.p2); have G4 := below_grown (Nat.le_refl _) G2 g4 hb1; have O4 := own_far O2 g4 hbW; clear r0 r1 r2 h0 h1 h2; obtain ⟨r0, r1, r2, h0, h1, h2⟩ := id rB4; obtain ⟨k, hk, hkb⟩ : ∃ k : Nat, y.tdiv 11 = k ∧ k ≤ 2 := ⟨(y / 11).toNat, (by rw [Int.tdiv_eq_ediv_of_nonneg y0]; omega), (by omega)⟩; have sa : IntKind.i64.wrap (k : Int) = (k : Int) := IntWalk.i64_in _ (by omega); obtain ⟨q, sq⟩ : ∃ q : Nat, q = 6 + k := ⟨_, rfl⟩; have sb : IntKind.i64.wrap (6 + (k : Int)) = (q : Int) := (by rw [sq]; exact IntWalk.i64_in _ (by omega)); have sc : (0 : Int) ≤ (q : Int) := (by omega); have sd : (q : Int) ≤ 8 := (by omega); have se : 0 < q := (by omega); have sf : q ≤ 8 := (by omega); clear sq y0 y1) | (go_at_call 60; (with_reducible refine (amongT_c b A n c 102 [1, 5, 6, 50, 100, 1000000, 0, 1000001] w4 C4 _ q 8 (by omega) (Nat.ne_of_gt hqb) (by rw [World.size_alloc] at hqs; omega) HC.out se (by simpa using sf) (by simp)).mono ?_); rintro e w5 ⟨z, hz, rfl, C5, g5⟩; have rB5 := rB4.kept g5 (fun e => hrb (Option.some.inj e)); have pB5 := pB4.kept g5 (fun e => hpb (Option.some.inj e)); have N5 := And.intro pB5.p0 (And.intro pB5.p1 pB5.p2); have G5 := below_grown (Nat.le_refl _) G4 g5 hb1; have O5 := own_far O4 g5 hbW; clear r0 r1 r2 h0 h1 h2; obtain ⟨r0, r1, r2, h0, h1, h2⟩ := id rB5) | (go_at_call 60; (with_reducible refine (amongT_c b A n c 102 [1, 5, 6, 50, 100, 1000000, 0, 1000001] _ (C4.alloc _) w4.heap.size q 8 (by omega) (by have := C4.lt; omega) (by simp) (lits_new [1, 5, 6, 50, 100, 1000000, 0, 1000001] (by simp)) se (by simpa using sf) (by simp)).mono ?_); rintro e w5 ⟨z, hz, rfl, C5, g5'⟩; have g5 := grown_trans (World.grownBy_alloc w4 _ (some b)) g5'; have rB5 := rB4.kept g5 (fun e => hrb (Option.some.inj e)); have pB5 := pB4.kept g5 (fun e => hpb (Option.some.inj e)); have N5 := And.intro pB5.p0 (And.intro pB5.p1 pB5.p2); have G5 := below_grown (Nat.le_refl _) G4 g5 hb1; have O5 := own_far O4 g5 hbW; clear r0 r1 r2 h0 h1 h2; obtain ⟨r0, r1, r2, h0, h1, h2⟩ := id rB5))
  all_goals
    have O6 := own_three O5 hRW (.int .i64 I) (.int .i64 H) (.slice B xs.length d)
    clear O5 O4 O2 g4' g4 g5 C5 C4 C2 N2 N4 N5 pB2 pB4 pB5 rB2 rB4 rB5 G2 G4
    go_wp2
    go_light
    refine bodyPost_ret (v := .tuple #[.agg #[.int .i64 I, .int .i64 H, .slice B xs.length d], .int .i64 z]) (by simp (maxDischargeDepth := 8) [results, Try.results32, go_sem, *]) rfl ?_
    exact ⟨I, H, z, B, d, xs, rfl, O6, hx, by (repeat' (first | (with_reducible exact Below.refl _ _) | (with_reducible assumption) | (with_reducible refine below_drewN ?_ _) | (with_reducible refine Below.alloc ?_ ?_ _) | (with_reducible refine Below.drew ?_) | (with_reducible refine Below.setCell ?_ ?_ _) | go_size))⟩
end Go.Proofs.Ytdkhiedgikjnkaa
