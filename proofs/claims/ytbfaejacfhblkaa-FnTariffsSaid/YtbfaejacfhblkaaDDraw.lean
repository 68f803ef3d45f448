/- Contracts: what the great laws on tariffs draw. -/
import Derived.Test.YtbfaejacfhblkaaDTar
namespace Go.Proofs.Ytbfaejacfhblkaa
open Go.RowKit

section
variable {W W' : World} {p b : Nat} {F : Int} {v : Value}
theorem n2_drew (h : W.cell? ⟨p, 0, none⟩ = some (.int .i64 F) ∧ W.cell? ⟨p, 1, none⟩ = some v) : W.drew.cell? ⟨p, 0, none⟩ = some (.int .i64 F) ∧ W.drew.cell? ⟨p, 1, none⟩ = some v := h
theorem n2_alloc (h : W.cell? ⟨p, 0, none⟩ = some (.int .i64 F) ∧ W.cell? ⟨p, 1, none⟩ = some v) (o : Obj) : (W.alloc o).cell? ⟨p, 0, none⟩ = some (.int .i64 F) ∧ (W.alloc o).cell? ⟨p, 1, none⟩ = some v := ⟨(World.cell?_alloc_lt W o ⟨p, 0, none⟩ (lt_of_cell (by rw [h.1]; rfl))).trans h.1, (World.cell?_alloc_lt W o ⟨p, 1, none⟩ (lt_of_cell (by rw [h.2]; rfl))).trans h.2⟩
theorem n2_adrew (h : W.drew.cell? ⟨p, 0, none⟩ = some (.int .i64 F) ∧ W.drew.cell? ⟨p, 1, none⟩ = some v) (o : Obj) : (W.alloc o).drew.cell? ⟨p, 0, none⟩ = some (.int .i64 F) ∧ (W.alloc o).drew.cell? ⟨p, 1, none⟩ = some v := n2_alloc (W := W) h o
theorem n2_far (h : W.cell? ⟨p, 0, none⟩ = some (.int .i64 F) ∧ W.cell? ⟨p, 1, none⟩ = some v) (g : W.grownBy W' (some b)) (hb : p ≠ b) : W'.cell? ⟨p, 0, none⟩ = some (.int .i64 F) ∧ W'.cell? ⟨p, 1, none⟩ = some v := by
  have e := g.block p (lt_of_cell (a := ⟨p, 0, none⟩) (by rw [h.1]; rfl)) (fun q => hb (Option.some.inj q))
  exact ⟨(World.cell?_of_block e).trans h.1, (World.cell?_of_block e).trans h.2⟩
theorem n2_set (h : W.cell? ⟨p, 0, none⟩ = some (.int .i64 F) ∧ W.cell? ⟨p, 1, none⟩ = some v) {R : Nat} {v0 v1 : Value} (hne : ¬ p = R) : ((W.setCell ⟨R, 0, none⟩ v0).setCell ⟨R, 1, none⟩ v1).cell? ⟨p, 0, none⟩ = some (.int .i64 F) ∧ ((W.setCell ⟨R, 0, none⟩ v0).setCell ⟨R, 1, none⟩ v1).cell? ⟨p, 1, none⟩ = some v := by
  have e : ((W.setCell ⟨R, 0, none⟩ v0).setCell ⟨R, 1, none⟩ v1).heap[p]? = W.heap[p]? := (heap_setCell_other _ ⟨R, 1, none⟩ p v1 (fun q => hne q)).trans (heap_setCell_other _ ⟨R, 0, none⟩ p v0 (fun q => hne q))
  exact ⟨(World.cell?_of_block e).trans h.1, (World.cell?_of_block e).trans h.2⟩
end
theorem lits_newZ {w : World} {cs : Array Value} {t : TypeId} (ys : List Int) (hcs : cs = (ys.map (Value.int .i64)).toArray) : ∀ j, j < ys.length → (w.alloc (.cells cs t)).cell? ⟨w.heap.size, j, none⟩ = some (.int .i64 (ys.getD j 0)) := fun j hj => by
  rw [World.cell?_alloc_new, hcs]
  simp [List.getD_eq_getElem?_getD, hj]
theorem volume_c (b : Nat) (A : Option Addr) (n c m : Nat) (w : World) (h : Cur w b A n c m) (hm : m ≤ 1000000) :
    Calls Try.prog 75 #[.pointer (some ⟨b, 0, none⟩)] w fun e w' => ∃ v : Int, e = .returned (.int .i64 v) ∧ Cur w' b A n c (m + 4) ∧ w.grownBy w' (some b) := by
  have hlt := h.lt
  go_enter Try.func75, Try.ntmps75
  go_wp2_with fail
  refine (pick_c b A n c m 24 _ (h.alloc _) (by omega) (by omega)).mono ?_
  rintro e w1 ⟨y, y0, y1, rfl, C1, g1⟩
  have hc := lits_far [0, 1, 10, 11, 60, 61, 161, 20000, 99999, 100000, -1, 100001] g1 hlt rfl
  have hs := g1.size
  rw [World.size_alloc] at hs
  have G1 := grown_trans (World.grownBy_alloc w _ (some b)) g1
  clear g1 h
  obtain ⟨k, hk⟩ : ∃ k : Nat, y.tdiv 11 = k ∧ k ≤ 2 := ⟨(y / 11).toNat, by rw [Int.tdiv_eq_ediv_of_nonneg y0]; omega, by omega⟩
  have HC := Lib.hid hc
  clear hc
  go_wp2_with fail
  refine (amongT_c b A n c (m + 2) [0, 1, 10, 11, 60, 61, 161, 20000, 99999, 100000, -1, 100001] w1 C1 w.heap.size (10 + k) 12 (by omega) (by omega) (by omega) HC.out (by omega) (by simp; omega) (by simp)).mono ?_
  rintro e w2 ⟨z, hz, rfl, C2, g2⟩
  clear HC C1 hz
  go_wp2
  go_ret
  exact ⟨z, rfl, C2, grown_trans G1 g2⟩
/-- The result's box while the rest is drawn. -/
structure RX (W : World) (R : Nat) : Prop where
  r0 : W.cell? ⟨R, 0, none⟩ = some (.int .i64 0)
  r1 : W.cell? ⟨R, 1, none⟩ = some (.slice none 0 0)
  s0 : W.frozen? ⟨R, 0, none⟩ = false
  s1 : W.frozen? ⟨R, 1, none⟩ = false
theorem RX.far {W W' : World} {R b : Nat} (h : RX W R) (g : W.grownBy W' (some b)) (hb : some b ≠ some R) : RX W' R := ⟨tcell g hb h.r0, tcell g hb h.r1, tfroz g hb h.r0 h.s0, tfroz g hb h.r1 h.s1⟩
theorem RX.alloc {W : World} {R : Nat} (h : RX W R) (o : Obj) : RX (W.alloc o) R := by
  have l : R < W.heap.size := lt_of_cell (a := ⟨R, 0, none⟩) (by rw [h.r0]; rfl)
  exact ⟨(World.cell?_alloc_lt W o ⟨R, 0, none⟩ l).trans h.r0, (World.cell?_alloc_lt W o ⟨R, 1, none⟩ l).trans h.r1, (World.frozen?_of_block (w := W) (Below.heap_alloc W o R l)).trans h.s0, (World.frozen?_of_block (w := W) (Below.heap_alloc W o R l)).trans h.s1⟩
theorem rdl_two {W : World} {lo R : Nat} {A : Option Addr} {xs : List (Int × Int)} (L : RdL W lo A xs) (hR : R < lo) (u0 u1 : Value) : RdL ((W.setCell ⟨R, 0, none⟩ u0).setCell ⟨R, 1, none⟩ u1) lo A xs :=
  RdL.set (a := ⟨R, 1, none⟩) (RdL.set (a := ⟨R, 0, none⟩) L hR u0) hR u1
set_option maxRecDepth 100000 in
set_option maxHeartbeats 4000000 in
theorem drawCost_c (A : Option Addr) (n c : Nat) (w : World) (h : RdB w w.heap.size A n) : Calls Try.prog 48 #[.slice A n c] w fun e w' => ∃ (F : Int) (A1 : Option Addr) (c1 : Nat) (xs : List (Int × Int)) (l : Int), e = .returned (.tuple #[.agg #[.int .i64 F, .slice A1 xs.length c1], .int .i64 l]) ∧ RdP w' w'.heap.size A1 xs ∧ xs.length ≤ 6 ∧ Below w.heap.size w w' := by
  go_enter Try.func48, Try.ntmps48
  go_upto_region 2 with (fail)
  obtain ⟨W, hW⟩ : ∃ W, W = (w.alloc (.cells #[.int .i64 0, .slice none 0 0] 29)).alloc (.cells #[.slice A n c, .int .i64 0, .int .u64 0] 77) := ⟨_, rfl⟩
  rw [← hW]
  have C0 : Cur W (w.heap.size + 1) A n c 0 := by
    have := Cur.new (w := w.alloc (.cells #[.int .i64 0, .slice none 0 0] 29)) (A := A) (n := n) c 77 ((h.below ((Below.refl _ _).alloc (Nat.le_refl _) _)).more (by simp))
    rw [World.size_alloc] at this
    rw [hW]; exact this
  have B0 : Below w.heap.size w W := by rw [hW]; exact ((Below.refl _ _).alloc (Nat.le_refl _) _).alloc (by simp) _
  have X0 : RX W w.heap.size := ⟨by rw [hW]; simp [go_sem], by rw [hW]; simp [go_sem], by rw [hW]; simp [go_sem], by rw [hW]; simp [go_sem]⟩
  have sW : W.heap.size = w.heap.size + 1 + 1 := by rw [hW]; simp
  clear hW h
  obtain ⟨b, hb⟩ : ∃ b, b = w.heap.size + 1 := ⟨_, rfl⟩
  rw [← hb] at C0 ⊢
  have lb : w.heap.size < b := by omega
  have lW : b < W.heap.size := by omega
  have nR : some b ≠ some w.heap.size := fun e => by have := Option.some.inj e; omega
  clear hb sW
  go_wp2_with fail
  refine (tariff_c b A n c 0 W C0 (by omega)).mono ?_
  rintro e w2 ⟨F, A1, c1, xs, rfl, C2, g2, L2, hl⟩
  have X2 := X0.far g2 nR
  have B2 := below_grown (Nat.le_refl _) B0 g2 (by omega)
  have z2 := g2.size
  go_upto_region 3 with (fail)
  obtain ⟨W2, hW2⟩ : ∃ X, X = w2.alloc (.cells #[.int .i64 F, .slice A1 xs.length c1] 29) := ⟨_, rfl⟩
  rw [← hW2]
  have C3 : Cur W2 b A n c 60 := by rw [hW2]; exact (C2.alloc _).weak (by omega)
  have X3 : RX W2 w.heap.size := by rw [hW2]; exact X2.alloc _
  have N3 : W2.cell? ⟨w2.heap.size, 0, none⟩ = some (.int .i64 F) ∧ W2.cell? ⟨w2.heap.size, 1, none⟩ = some (.slice A1 xs.length c1) := by rw [hW2]; exact ⟨World.cell?_alloc_new w2 _ _ 0, World.cell?_alloc_new w2 _ _ 1⟩
  have L3 : RdL W2 W.heap.size A1 xs := by rw [hW2]; exact L2.below ((Below.refl _ _).alloc (Nat.le_refl _) _)
  have B3 : Below w.heap.size w W2 := by rw [hW2]; exact B2.alloc (by have := B2.size; omega) _
  have hpr : ¬ w2.heap.size = w.heap.size := by omega
  have hpb : w2.heap.size ≠ b := by omega
  clear hW2 C0 C2 X0 X2 B0 B2 g2 z2 L2
  generalize w2.heap.size = p at *
  obtain ⟨r0, r1, h0, h1⟩ := id X3
  go_region_held3 (fun w' => w'.cell? ⟨p, 0, none⟩ = some (.int .i64 F) ∧ w'.cell? ⟨p, 1, none⟩ = some (.slice A1 xs.length c1))
    (first
      | with_reducible assumption
      | ((with_reducible refine n2_set ?_ hpr); with_reducible assumption)
      | (with_reducible exact n2_drew N3)
      | fail)
    (first | (go_at_call 75; (with_reducible refine (volume_c b A n c 60 _ (C3.drew) (by omega)).mono ?_); rintro e w4 ⟨z, rfl, C4, g4'⟩; have g4 := grown_undrew g4'; have X4 := X3.far g4 nR; have N4 := n2_far N3 g4 hpb; have B4 := below_grown (Nat.le_refl _) B3 g4 (by omega); have L4 := L3.far g4 lW; clear r0 r1 h0 h1; obtain ⟨r0, r1, h0, h1⟩ := id X4))
  have L6 := Lib.hid ((rdl_two L4 (R := w.heap.size) (by omega) (.int .i64 F) (.slice A1 xs.length c1)).rd)
  clear L4 L3 C4 C3 N3 N4 g4 g4' X3 X4 B3
  go_wp2
  refine bodyPost_ret (v := .tuple #[.agg #[.int .i64 F, .slice A1 xs.length c1], .int .i64 z]) (by simp (maxDischargeDepth := 8) [results, Try.results48, go_sem, *]) rfl ?_
  exact ⟨F, A1, c1, xs, z, rfl, L6.out, hl, by (repeat' (first | (with_reducible exact Below.refl _ _) | (with_reducible assumption) | (with_reducible refine below_drewN ?_ _) | (with_reducible refine Below.alloc ?_ ?_ _) | (with_reducible refine Below.drew ?_) | (with_reducible refine Below.setCell ?_ ?_ _) | go_size))⟩
theorem RX.below {W W' : World} {R : Nat} (h : RX W R) (hb : Below W.heap.size W W') : RX W' R := by
  have l : R < W.heap.size := lt_of_cell (a := ⟨R, 0, none⟩) (by rw [h.r0]; rfl)
  exact ⟨(hb.cell (p := ⟨R, 0, none⟩) l).trans h.r0, (hb.cell (p := ⟨R, 1, none⟩) l).trans h.r1, (hb.frozen (p := ⟨R, 0, none⟩) l).trans h.s0, (hb.frozen (p := ⟨R, 1, none⟩) l).trans h.s1⟩
set_option maxHeartbeats 1000000 in
theorem drawTar_c (A : Option Addr) (n c : Nat) (w : World) (h : RdB w w.heap.size A n) : Calls Try.prog 76 #[.slice A n c] w fun e w' => ∃ (F : Int) (A1 : Option Addr) (c1 : Nat) (xs : List (Int × Int)), e = .returned (.agg #[.int .i64 F, .slice A1 xs.length c1]) ∧ RdL w' w.heap.size A1 xs ∧ xs.length ≤ 6 ∧ Below w.heap.size w w' := by
  go_enter Try.func76, Try.ntmps76
  go_upto_region 2 with (fail)
  obtain ⟨W, hW⟩ : ∃ W, W = (w.alloc (.cells #[.int .i64 0, .slice none 0 0] 29)).alloc (.cells #[.slice A n c, .int .i64 0, .int .u64 0] 77) := ⟨_, rfl⟩
  rw [← hW]
  have C0 : Cur W (w.heap.size + 1) A n c 0 := by
    have := Cur.new (w := w.alloc (.cells #[.int .i64 0, .slice none 0 0] 29)) (A := A) (n := n) c 77 ((h.below ((Below.refl _ _).alloc (Nat.le_refl _) _)).more (by simp))
    rw [World.size_alloc] at this
    rw [hW]; exact this
  have B0 : Below w.heap.size w W := by rw [hW]; exact ((Below.refl _ _).alloc (Nat.le_refl _) _).alloc (by simp) _
  have X0 : RX W w.heap.size := ⟨by rw [hW]; simp [go_sem], by rw [hW]; simp [go_sem], by rw [hW]; simp [go_sem], by rw [hW]; simp [go_sem]⟩
  have sW : W.heap.size = w.heap.size + 1 + 1 := by rw [hW]; simp
  clear hW h
  obtain ⟨b, hb⟩ : ∃ b, b = w.heap.size + 1 := ⟨_, rfl⟩
  rw [← hb] at C0 ⊢
  have lb : w.heap.size < b := by omega
  have lW : b < W.heap.size := by omega
  have nR : some b ≠ some w.heap.size := fun e => by have := Option.some.inj e; omega
  clear hb sW
  go_wp2_with fail
  refine (tariff_c b A n c 0 W C0 (by omega)).mono ?_
  rintro e w2 ⟨F, A1, c1, xs, rfl, C2, g2, L2, hl⟩
  have X2 := X0.far g2 nR
  have B2 := below_grown (Nat.le_refl _) B0 g2 (by omega)
  have L6 := Lib.hid ((rdl_two L2 (R := w.heap.size) (by omega) (.int .i64 F) (.slice A1 xs.length c1)).weak (lo' := w.heap.size) (by omega))
  obtain ⟨r0, r1, h0, h1⟩ := X2
  clear L2 C2 C0 X0 B0 g2 nR
  go_wp2
  refine bodyPost_ret (v := .agg #[.int .i64 F, .slice A1 xs.length c1]) (by simp (maxDischargeDepth := 8) [results, Try.results76, go_sem, *]) rfl ?_
  exact ⟨F, A1, c1, xs, rfl, L6.out, hl, by (repeat' (first | (with_reducible exact Below.refl _ _) | (with_reducible assumption) | (with_reducible refine below_drewN ?_ _) | (with_reducible refine Below.alloc ?_ ?_ _) | (with_reducible refine Below.drew ?_) | (with_reducible refine Below.setCell ?_ ?_ _) | go_size))⟩
set_option maxHeartbeats 1000000 in
theorem drawProg_c (A : Option Addr) (n c : Nat) (w : World) (h : RdB w w.heap.size A n) : Calls Try.prog 51 #[.slice A n c] w fun e w' => ∃ (F : Int) (A1 : Option Addr) (c1 : Nat) (xs : List (Int × Int)), e = .returned (.agg #[.int .i64 F, .slice A1 xs.length c1]) ∧ RdL w' w.heap.size A1 xs ∧ xs.length ≤ 6 ∧ Below w.heap.size w w' := by
  go_enter Try.func51, Try.ntmps51
  go_upto_region 1 with (fail)
  obtain ⟨W, hW⟩ : ∃ W, W = w.alloc (.cells #[.int .i64 0, .slice none 0 0] 29) := ⟨_, rfl⟩
  rw [← hW]
  have h1 : RdB W W.heap.size A n := by rw [hW]; exact (h.below ((Below.refl _ _).alloc (Nat.le_refl _) _)).more (by simp)
  have B0 : Below w.heap.size w W := by rw [hW]; exact (Below.refl _ _).alloc (Nat.le_refl _) _
  have X0 : RX W w.heap.size := ⟨by rw [hW]; simp [go_sem], by rw [hW]; simp [go_sem], by rw [hW]; simp [go_sem], by rw [hW]; simp [go_sem]⟩
  have sW : w.heap.size < W.heap.size := by rw [hW]; simp
  clear hW h
  go_wp2_with fail
  refine (drawTar_c A n c W h1).mono ?_
  rintro e w2 ⟨F, A1, c1, xs, rfl, L2, hl, hb⟩
  have X2 := X0.below hb
  have B2 := B0.trans (hb.mono B0.size)
  have L6 := Lib.hid ((rdl_two L2 (R := w.heap.size) sW (.int .i64 F) (.slice A1 xs.length c1)).weak (lo' := w.heap.size) (by omega))
  obtain ⟨r0, r1, h0, h1⟩ := X2
  clear L2 X0 B0 hb
  go_wp2
  refine bodyPost_ret (v := .agg #[.int .i64 F, .slice A1 xs.length c1]) (by simp (maxDischargeDepth := 8) [results, Try.results51, go_sem, *]) rfl ?_
  exact ⟨F, A1, c1, xs, rfl, L6.out, hl, by (repeat' (first | (with_reducible exact Below.refl _ _) | (with_reducible assumption) | (with_reducible refine below_drewN ?_ _) | (with_reducible refine Below.alloc ?_ ?_ _) | (with_reducible refine Below.drew ?_) | (with_reducible refine Below.setCell ?_ ?_ _) | go_size))⟩
set_option maxHeartbeats 1000000 in
theorem drawCheap_c (A : Option Addr) (n c : Nat) (w : World) (h : RdB w w.heap.size A n) : Calls Try.prog 45 #[.slice A n c] w fun e w' => ∃ (F : Int) (A1 : Option Addr) (c1 : Nat) (xs : List (Int × Int)) (G : Int) (A2 : Option Addr) (c2 : Nat) (ys : List (Int × Int)), e = .returned (.tuple #[.agg #[.int .i64 F, .slice A1 xs.length c1], .agg #[.int .i64 G, .slice A2 ys.length c2]]) ∧ RdP w' w'.heap.size A1 xs ∧ RdP w' w'.heap.size A2 ys ∧ xs.length ≤ 6 ∧ ys.length ≤ 6 ∧ Below w.heap.size w w' := by
  go_enter Try.func45, Try.ntmps45
  go_upto_region 2 with (fail)
  obtain ⟨W1, hW1⟩ : ∃ W, W = (w.alloc (.cells #[.int .i64 0, .slice none 0 0] 29)).alloc (.cells #[.int .i64 0, .slice none 0 0] 29) := ⟨_, rfl⟩
  rw [← hW1]
  have h1 : RdB W1 W1.heap.size A n := by rw [hW1]; exact (h.below (((Below.refl _ _).alloc (Nat.le_refl _) _).alloc (by simp) _)).more (by simp; omega)
  have B1 : Below w.heap.size w W1 := by rw [hW1]; exact ((Below.refl _ _).alloc (Nat.le_refl _) _).alloc (by simp) _
  have X1 : RX W1 w.heap.size := ⟨by rw [hW1]; simp [go_sem], by rw [hW1]; simp [go_sem], by rw [hW1]; simp [go_sem], by rw [hW1]; simp [go_sem]⟩
  have Y1 : RX W1 (w.heap.size + 1) := ⟨by rw [hW1]; simp [go_sem], by rw [hW1]; simp [go_sem], by rw [hW1]; simp [go_sem], by rw [hW1]; simp [go_sem]⟩
  have sW1 : W1.heap.size = w.heap.size + 1 + 1 := by rw [hW1]; simp
  clear hW1 h
  try rw [← sW1]
  obtain ⟨W, hW⟩ : ∃ W, W = W1.alloc (.cells #[.slice A n c, .int .i64 0, .int .u64 0] 77) := ⟨_, rfl⟩
  rw [← hW]
  have C0 : Cur W W1.heap.size A n c 0 := by rw [hW]; exact Cur.new c 77 h1
  have hW1 : Below W1.heap.size W1 W := by rw [hW]; exact (Below.refl _ _).alloc (Nat.le_refl _) _
  have B0 : Below w.heap.size w W := B1.trans (hW1.mono B1.size)
  have X0 := X1.below hW1
  have Y0 := Y1.below hW1
  have lW : W1.heap.size < W.heap.size := by rw [hW]; simp
  clear hW h1 B1 X1 Y1 hW1
  generalize W1.heap.size = b at *
  have nR : some b ≠ some w.heap.size := fun e => by have := Option.some.inj e; omega
  have nR2 : some b ≠ some (w.heap.size + 1) := fun e => by have := Option.some.inj e; omega
  have rb : w.heap.size < b := by omega
  have rb2 : w.heap.size + 1 < b := by omega
  clear sW1
  go_wp2_with fail
  refine (tariff_c b A n c 0 W C0 (by omega)).mono ?_
  rintro e w2 ⟨F, A1, c1, xs, rfl, C2, g2, L2, hl⟩
  have X2 := X0.far g2 nR
  have Y2 := Y0.far g2 nR2
  have B2 := below_grown (Nat.le_refl _) B0 g2 (by omega)
  have z2 := g2.size
  clear X0 Y0 B0 C0 g2
  go_wp2_with fail
  refine (tariff_c b A n c _ w2 C2 (by omega)).mono ?_
  rintro e w3 ⟨G, A2, c2, ys, rfl, C3, g3, M3, hm⟩
  have X3 := X2.far g3 nR
  have Y3 := Y2.far g3 nR2
  have B3 := below_grown (Nat.le_refl _) B2 g3 (by omega)
  have L3 := L2.far g3 lW
  have L6 := Lib.hid ((rdl_two (rdl_two L3 (R := w.heap.size) (by omega) (.int .i64 F) (.slice A1 xs.length c1)) (R := w.heap.size + 1) (by omega) (.int .i64 G) (.slice A2 ys.length c2)).rd)
  have M6 := Lib.hid ((rdl_two (rdl_two M3 (R := w.heap.size) (by omega) (.int .i64 F) (.slice A1 xs.length c1)) (R := w.heap.size + 1) (by omega) (.int .i64 G) (.slice A2 ys.length c2)).rd)
  obtain ⟨r0, r1, h0, h1⟩ := X3
  obtain ⟨r2, r3, h2, h3⟩ := Y3
  clear X2 Y2 B2 L2 L3 M3 C2 C3 g3 nR nR2 z2
  go_wp2
  refine bodyPost_ret (v := .tuple #[.agg #[.int .i64 F, .slice A1 xs.length c1], .agg #[.int .i64 G, .slice A2 ys.length c2]]) (by simp (maxDischargeDepth := 8) [results, Try.results45, go_sem, *]) rfl ?_
  exact ⟨F, A1, c1, xs, G, A2, c2, ys, rfl, L6.out, M6.out, hl, hm, by (repeat' (first | (with_reducible exact Below.refl _ _) | (with_reducible assumption) | (with_reducible refine below_drewN ?_ _) | (with_reducible refine Below.alloc ?_ ?_ _) | (with_reducible refine Below.drew ?_) | (with_reducible refine Below.setCell ?_ ?_ _) | go_size))⟩
set_option maxRecDepth 100000 in
set_option maxHeartbeats 8000000 in
theorem drawVol_c (A : Option Addr) (n c : Nat) (w : World) (h : RdB w w.heap.size A n) : Calls Try.prog 44 #[.slice A n c] w fun e w' => ∃ (F : Int) (A1 : Option Addr) (c1 : Nat) (xs : List (Int × Int)) (l : Int), e = .returned (.tuple #[.agg #[.int .i64 F, .slice A1 xs.length c1], .int .i64 l]) ∧ RdP w' w'.heap.size A1 xs ∧ xs.length ≤ 6 ∧ Below w.heap.size w w' := by
  go_enter Try.func44, Try.ntmps44
  go_upto_region 2 with (fail)
  obtain ⟨W, hW⟩ : ∃ W, W = (w.alloc (.cells #[.int .i64 0, .slice none 0 0] 29)).alloc (.cells #[.slice A n c, .int .i64 0, .int .u64 0] 77) := ⟨_, rfl⟩
  rw [← hW]
  have C0 : Cur W (w.heap.size + 1) A n c 0 := by
    have := Cur.new (w := w.alloc (.cells #[.int .i64 0, .slice none 0 0] 29)) (A := A) (n := n) c 77 ((h.below ((Below.refl _ _).alloc (Nat.le_refl _) _)).more (by simp))
    rw [World.size_alloc] at this
    rw [hW]; exact this
  have B0 : Below w.heap.size w W := by rw [hW]; exact ((Below.refl _ _).alloc (Nat.le_refl _) _).alloc (by simp) _
  have X0 : RX W w.heap.size := ⟨by rw [hW]; simp [go_sem], by rw [hW]; simp [go_sem], by rw [hW]; simp [go_sem], by rw [hW]; simp [go_sem]⟩
  have sW : W.heap.size = w.heap.size + 1 + 1 := by rw [hW]; simp
  clear hW h
  obtain ⟨b, hb⟩ : ∃ b, b = w.heap.size + 1 := ⟨_, rfl⟩
  rw [← hb] at C0 ⊢
  have lb : w.heap.size < b := by omega
  have lW : b < W.heap.size := by omega
  have nR : some b ≠ some w.heap.size := fun e => by have := Option.some.inj e; omega
  clear hb sW
  go_wp2_with fail
  refine (tariff_c b A n c 0 W C0 (by omega)).mono ?_
  rintro e w2 ⟨F, A1, c1, xs, rfl, C2, g2, L2, hl⟩
  have X2 := X0.far g2 nR
  have B2 := below_grown (Nat.le_refl _) B0 g2 (by omega)
  have z2 := g2.size
  go_upto_region 3 with (fail)
  obtain ⟨W2, hW2⟩ : ∃ X, X = w2.alloc (.cells #[.int .i64 F, .slice A1 xs.length c1] 29) := ⟨_, rfl⟩
  rw [← hW2]
  have C3 : Cur W2 b A n c 60 := by rw [hW2]; exact (C2.alloc _).weak (by omega)
  have X3 : RX W2 w.heap.size := by rw [hW2]; exact X2.alloc _
  have N3 : W2.cell? ⟨w2.heap.size, 0, none⟩ = some (.int .i64 F) ∧ W2.cell? ⟨w2.heap.size, 1, none⟩ = some (.slice A1 xs.length c1) := by rw [hW2]; exact ⟨World.cell?_alloc_new w2 _ _ 0, World.cell?_alloc_new w2 _ _ 1⟩
  have L3 : RdL W2 W.heap.size A1 xs := by rw [hW2]; exact L2.below ((Below.refl _ _).alloc (Nat.le_refl _) _)
  have B3 : Below w.heap.size w W2 := by rw [hW2]; exact B2.alloc (by have := B2.size; omega) _
  have hpr : ¬ w2.heap.size = w.heap.size := by omega
  have hpb : w2.heap.size ≠ b := by omega
  clear hW2 C0 C2 X0 X2 B0 B2 g2 z2 L2
  generalize w2.heap.size = p at *
  obtain ⟨r0, r1, h0, h1⟩ := id X3
  go_region_held3 (fun w' => w'.cell? ⟨p, 0, none⟩ = some (.int .i64 F) ∧ w'.cell? ⟨p, 1, none⟩ = some (.slice A1 xs.length c1))
    (first
      | with_reducible assumption
      | ((with_reducible refine n2_set ?_ hpr); with_reducible assumption)
      | (with_reducible exact n2_adrew (by assumption) _)
      | (with_reducible exact n2_alloc (by assumption) _)
      | (with_reducible exact n2_drew N3)
      | fail)
    (first | (go_at_call 74; (with_reducible refine (pick_c b A n c 60 24 _ (C3.drew) (by omega) (by omega)).mono ?_); rintro e w4 ⟨y, y0, y1, rfl, C4, g4'⟩; have g4 := grown_undrew g4'; have X4 := X3.far g4 nR; have N4 := n2_far N3 g4 hpb; have B4 := below_grown (Nat.le_refl _) B3 g4 (by omega); have L4 := L3.far g4 lW; clear r0 r1 h0 h1; obtain ⟨r0, r1, h0, h1⟩ := id X4; obtain ⟨k, hk, hkb⟩ : ∃ k : Nat, y.tdiv 11 = k ∧ k ≤ 2 := ⟨(y / 11).toNat, (by rw [Int.tdiv_eq_ediv_of_nonneg y0]; omega), (by omega)⟩; have sa : IntKind.i64.wrap (k : Int) = (k : Int) := IntWalk.i64_in _ (by omega); obtain ⟨q, sq⟩ : ∃ q : Nat, q = 8 + k := ⟨_, rfl⟩; have sb : IntKind.i64.wrap (8 + (k : Int)) = (q : Int) := (by rw [sq]; exact IntWalk.i64_in _ (by omega)); have sc : (0 : Int) ≤ (q : Int) := (by omega); have sd : (q : Int) ≤ 10 := (by omega); have se : 0 < q := (by omega); have sf : q ≤ 10 := (by omega); clear sq y0 y1) | (go_at_call 74; (with_reducible refine (pick_c b A n c 60 24 _ ((C3.alloc _).drew) (by omega) (by omega)).mono ?_); rintro e w4 ⟨y, y0, y1, rfl, C4, g4'⟩; have g4 := grown_trans (World.grownBy_alloc W2 _ (some b)) (grown_undrew g4'); have HC := Lib.hid (lits_far [0, 1, 499, 500, 510, 100000, 100050, 1000000000, -1, 1000000001] (grown_undrew g4') C3.lt (by rfl)); have hqb := C3.lt; have hqs := (grown_undrew g4').size; have X4 := X3.far g4 nR; have N4 := n2_far N3 g4 hpb; have B4 := below_grown (Nat.le_refl _) B3 g4 (by omega); have L4 := L3.far g4 lW; clear r0 r1 h0 h1; obtain ⟨r0, r1, h0, h1⟩ := id X4; obtain ⟨k, hk, hkb⟩ : ∃ k : Nat, y.tdiv 11 = k ∧ k ≤ 2 := ⟨(y / 11).toNat, (by rw [Int.tdiv_eq_ediv_of_nonneg y0]; omega), (by omega)⟩; have sa : IntKind.i64.wrap (k : Int) = (k : Int) := IntWalk.i64_in _ (by omega); obtain ⟨q, sq⟩ : ∃ q : Nat, q = 8 + k := ⟨_, rfl⟩; have sb : IntKind.i64.wrap (8 + (k : Int)) = (q : Int) := (by rw [sq]; exact IntWalk.i64_in _ (by omega)); have sc : (0 : Int) ≤ (q : Int) := (by omega); have sd : (q : Int) ≤ 10 := (by omega); have se : 0 < q := (by omega); have sf : q ≤ 10 := (by omega); clear sq y0 y1) | (go_at_call 73; (with_reducible refine (amongT_c b A n c 62 [0, 1, 499, 500, 510, 100000, 100050, 1000000000, -1, 1000000001] w4 C4 _ q 10 (by omega) (Nat.ne_of_gt hqb) (by rw [World.size_alloc] at hqs; omega) HC.out se (by simpa using sf) (by simp)).mono ?_); rintro e w5 ⟨x, hx, rfl, C5, g5⟩; clear hx; have X5 := X4.far g5 nR; have N5 := n2_far N4 g5 hpb; have B5 := below_grown (Nat.le_refl _) B4 g5 (by omega); have L5 := L4.far g5 lW; clear r0 r1 h0 h1; obtain ⟨r0, r1, h0, h1⟩ := id X5) | (go_at_call 73; (with_reducible refine (amongT_c b A n c 62 [0, 1, 499, 500, 510, 100000, 100050, 1000000000, -1, 1000000001] _ (C4.alloc _) w4.heap.size q 10 (by omega) (by have := C4.lt; omega) (by simp) (lits_newZ [0, 1, 499, 500, 510, 100000, 100050, 1000000000, -1, 1000000001] (by simp)) se (by simpa using sf) (by simp)).mono ?_); rintro e w5 ⟨x, hx, rfl, C5, g5'⟩; clear hx; have g5 := grown_trans (World.grownBy_alloc w4 _ (some b)) g5'; have X5 := X4.far g5 nR; have N5 := n2_far N4 g5 hpb; have B5 := below_grown (Nat.le_refl _) B4 g5 (by omega); have L5 := L4.far g5 lW; clear r0 r1 h0 h1; obtain ⟨r0, r1, h0, h1⟩ := id X5))
  all_goals
    have NN := n2_set N5 (v0 := .int .i64 F) (v1 := .slice A1 xs.length c1) hpr
    have L6 := Lib.hid ((rdl_two L5 (R := w.heap.size) (by omega) (.int .i64 F) (.slice A1 xs.length c1)).rd)
    clear C3 C4 C5 N3 N4 N5 X3 X4 X5 B3 B4 L3 L4 L5 g4 g5 g4' NN
    go_wp2
    refine bodyPost_ret (v := .tuple #[.agg #[.int .i64 F, .slice A1 xs.length c1], .int .i64 x]) (by simp (maxDischargeDepth := 8) [results, Try.results44, go_sem, *]) rfl ?_
    exact ⟨F, A1, c1, xs, x, rfl, L6.out, hl, by (repeat' (first | (with_reducible exact Below.refl _ _) | (with_reducible assumption) | (with_reducible refine below_drewN ?_ _) | (with_reducible refine Below.alloc ?_ ?_ _) | (with_reducible refine Below.drew ?_) | (with_reducible refine Below.setCell ?_ ?_ _) | go_size))⟩
set_option maxRecDepth 100000 in
set_option maxHeartbeats 8000000 in
theorem drawRai_c (A : Option Addr) (n c : Nat) (w : World) (h : RdB w w.heap.size A n) : Calls Try.prog 46 #[.slice A n c] w fun e w' => ∃ (F : Int) (A1 : Option Addr) (c1 : Nat) (xs : List (Int × Int)) (l : Int), e = .returned (.tuple #[.agg #[.int .i64 F, .slice A1 xs.length c1], .int .i64 l]) ∧ RdP w' w'.heap.size A1 xs ∧ xs.length ≤ 6 ∧ Below w.heap.size w w' := by
  go_enter Try.func46, Try.ntmps46
  go_upto_region 2 with (fail)
  obtain ⟨W, hW⟩ : ∃ W, W = (w.alloc (.cells #[.int .i64 0, .slice none 0 0] 29)).alloc (.cells #[.slice A n c, .int .i64 0, .int .u64 0] 77) := ⟨_, rfl⟩
  rw [← hW]
  have C0 : Cur W (w.heap.size + 1) A n c 0 := by
    have := Cur.new (w := w.alloc (.cells #[.int .i64 0, .slice none 0 0] 29)) (A := A) (n := n) c 77 ((h.below ((Below.refl _ _).alloc (Nat.le_refl _) _)).more (by simp))
    rw [World.size_alloc] at this
    rw [hW]; exact this
  have B0 : Below w.heap.size w W := by rw [hW]; exact ((Below.refl _ _).alloc (Nat.le_refl _) _).alloc (by simp) _
  have X0 : RX W w.heap.size := ⟨by rw [hW]; simp [go_sem], by rw [hW]; simp [go_sem], by rw [hW]; simp [go_sem], by rw [hW]; simp [go_sem]⟩
  have sW : W.heap.size = w.heap.size + 1 + 1 := by rw [hW]; simp
  clear hW h
  obtain ⟨b, hb⟩ : ∃ b, b = w.heap.size + 1 := ⟨_, rfl⟩
  rw [← hb] at C0 ⊢
  have lb : w.heap.size < b := by omega
  have lW : b < W.heap.size := by omega
  have nR : some b ≠ some w.heap.size := fun e => by have := Option.some.inj e; omega
  clear hb sW
  go_wp2_with fail
  refine (tariff_c b A n c 0 W C0 (by omega)).mono ?_
  rintro e w2 ⟨F, A1, c1, xs, rfl, C2, g2, L2, hl⟩
  have X2 := X0.far g2 nR
  have B2 := below_grown (Nat.le_refl _) B0 g2 (by omega)
  have z2 := g2.size
  go_upto_region 3 with (fail)
  obtain ⟨W2, hW2⟩ : ∃ X, X = w2.alloc (.cells #[.int .i64 F, .slice A1 xs.length c1] 29) := ⟨_, rfl⟩
  rw [← hW2]
  have C3 : Cur W2 b A n c 60 := by rw [hW2]; exact (C2.alloc _).weak (by omega)
  have X3 : RX W2 w.heap.size := by rw [hW2]; exact X2.alloc _
  have N3 : W2.cell? ⟨w2.heap.size, 0, none⟩ = some (.int .i64 F) ∧ W2.cell? ⟨w2.heap.size, 1, none⟩ = some (.slice A1 xs.length c1) := by rw [hW2]; exact ⟨World.cell?_alloc_new w2 _ _ 0, World.cell?_alloc_new w2 _ _ 1⟩
  have L3 : RdL W2 W.heap.size A1 xs := by rw [hW2]; exact L2.below ((Below.refl _ _).alloc (Nat.le_refl _) _)
  have B3 : Below w.heap.size w W2 := by rw [hW2]; exact B2.alloc (by have := B2.size; omega) _
  have hpr : ¬ w2.heap.size = w.heap.size := by omega
  have hpb : w2.heap.size ≠ b := by omega
  clear hW2 C0 C2 X0 X2 B0 B2 g2 z2 L2
  generalize w2.heap.size = p at *
  obtain ⟨r0, r1, h0, h1⟩ := id X3
  go_region_held3 (fun w' => w'.cell? ⟨p, 0, none⟩ = some (.int .i64 F) ∧ w'.cell? ⟨p, 1, none⟩ = some (.slice A1 xs.length c1))
    (first
      | with_reducible assumption
      | ((with_reducible refine n2_set ?_ hpr); with_reducible assumption)
      | (with_reducible exact n2_adrew (by assumption) _)
      | (with_reducible exact n2_alloc (by assumption) _)
      | (with_reducible exact n2_drew N3)
      | fail)
    (first | (go_at_call 74; (with_reducible refine (pick_c b A n c 60 24 _ (C3.drew) (by omega) (by omega)).mono ?_); rintro e w4 ⟨y, y0, y1, rfl, C4, g4'⟩; have g4 := grown_undrew g4'; have X4 := X3.far g4 nR; have N4 := n2_far N3 g4 hpb; have B4 := below_grown (Nat.le_refl _) B3 g4 (by omega); have L4 := L3.far g4 lW; clear r0 r1 h0 h1; obtain ⟨r0, r1, h0, h1⟩ := id X4; obtain ⟨k, hk, hkb⟩ : ∃ k : Nat, y.tdiv 11 = k ∧ k ≤ 2 := ⟨(y / 11).toNat, (by rw [Int.tdiv_eq_ediv_of_nonneg y0]; omega), (by omega)⟩; have sa : IntKind.i64.wrap (k : Int) = (k : Int) := IntWalk.i64_in _ (by omega); obtain ⟨q, sq⟩ : ∃ q : Nat, q = 7 + k := ⟨_, rfl⟩; have sb : IntKind.i64.wrap (7 + (k : Int)) = (q : Int) := (by rw [sq]; exact IntWalk.i64_in _ (by omega)); have sc : (0 : Int) ≤ (q : Int) := (by omega); have sd : (q : Int) ≤ 9 := (by omega); have se : 0 < q := (by omega); have sf : q ≤ 9 := (by omega); clear sq y0 y1) | (go_at_call 74; (with_reducible refine (pick_c b A n c 60 24 _ ((C3.alloc _).drew) (by omega) (by omega)).mono ?_); rintro e w4 ⟨y, y0, y1, rfl, C4, g4'⟩; have g4 := grown_trans (World.grownBy_alloc W2 _ (some b)) (grown_undrew g4'); have HC := Lib.hid (lits_far [0, 1, 10, 50, 100, -10, -100, -101, 101] (grown_undrew g4') C3.lt (by rfl)); have hqb := C3.lt; have hqs := (grown_undrew g4').size; have X4 := X3.far g4 nR; have N4 := n2_far N3 g4 hpb; have B4 := below_grown (Nat.le_refl _) B3 g4 (by omega); have L4 := L3.far g4 lW; clear r0 r1 h0 h1; obtain ⟨r0, r1, h0, h1⟩ := id X4; obtain ⟨k, hk, hkb⟩ : ∃ k : Nat, y.tdiv 11 = k ∧ k ≤ 2 := ⟨(y / 11).toNat, (by rw [Int.tdiv_eq_ediv_of_nonneg y0]; omega), (by omega)⟩; have sa : IntKind.i64.wrap (k : Int) = (k : Int) := IntWalk.i64_in _ (by omega); obtain ⟨q, sq⟩ : ∃ q : Nat, q = 7 + k := ⟨_, rfl⟩; have sb : IntKind.i64.wrap (7 + (k : Int)) = (q : Int) := (by rw [sq]; exact IntWalk.i64_in _ (by omega)); have sc : (0 : Int) ≤ (q : Int) := (by omega); have sd : (q : Int) ≤ 9 := (by omega); have se : 0 < q := (by omega); have sf : q ≤ 9 := (by omega); clear sq y0 y1) | (go_at_call 73; (with_reducible refine (amongT_c b A n c 62 [0, 1, 10, 50, 100, -10, -100, -101, 101] w4 C4 _ q 9 (by omega) (Nat.ne_of_gt hqb) (by rw [World.size_alloc] at hqs; omega) HC.out se (by simpa using sf) (by simp)).mono ?_); rintro e w5 ⟨x, hx, rfl, C5, g5⟩; clear hx; have X5 := X4.far g5 nR; have N5 := n2_far N4 g5 hpb; have B5 := below_grown (Nat.le_refl _) B4 g5 (by omega); have L5 := L4.far g5 lW; clear r0 r1 h0 h1; obtain ⟨r0, r1, h0, h1⟩ := id X5) | (go_at_call 73; (with_reducible refine (amongT_c b A n c 62 [0, 1, 10, 50, 100, -10, -100, -101, 101] _ (C4.alloc _) w4.heap.size q 9 (by omega) (by have := C4.lt; omega) (by simp) (lits_newZ [0, 1, 10, 50, 100, -10, -100, -101, 101] (by simp)) se (by simpa using sf) (by simp)).mono ?_); rintro e w5 ⟨x, hx, rfl, C5, g5'⟩; clear hx; have g5 := grown_trans (World.grownBy_alloc w4 _ (some b)) g5'; have X5 := X4.far g5 nR; have N5 := n2_far N4 g5 hpb; have B5 := below_grown (Nat.le_refl _) B4 g5 (by omega); have L5 := L4.far g5 lW; clear r0 r1 h0 h1; obtain ⟨r0, r1, h0, h1⟩ := id X5))
  all_goals
    have NN := n2_set N5 (v0 := .int .i64 F) (v1 := .slice A1 xs.length c1) hpr
    have L6 := Lib.hid ((rdl_two L5 (R := w.heap.size) (by omega) (.int .i64 F) (.slice A1 xs.length c1)).rd)
    clear C3 C4 C5 N3 N4 N5 X3 X4 X5 B3 B4 L3 L4 L5 g4 g5 g4' NN
    go_wp2
    refine bodyPost_ret (v := .tuple #[.agg #[.int .i64 F, .slice A1 xs.length c1], .int .i64 x]) (by simp (maxDischargeDepth := 8) [results, Try.results46, go_sem, *]) rfl ?_
    exact ⟨F, A1, c1, xs, x, rfl, L6.out, hl, by (repeat' (first | (with_reducible exact Below.refl _ _) | (with_reducible assumption) | (with_reducible refine below_drewN ?_ _) | (with_reducible refine Below.alloc ?_ ?_ _) | (with_reducible refine Below.drew ?_) | (with_reducible refine Below.setCell ?_ ?_ _) | go_size))⟩
end Go.Proofs.Ytbfaejacfhblkaa
