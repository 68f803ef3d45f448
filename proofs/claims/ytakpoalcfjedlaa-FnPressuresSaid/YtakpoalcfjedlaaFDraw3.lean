/- Contracts: what the great law on pressures draws. -/
import Derived.Test.YtakpoalcfjedlaaFDraw2
namespace Go.Proofs.Ytakpoalcfjedlaa
open Go.RowKit

section
variable {W W' : World} {p b : Nat} {L M : Int}
theorem n2_drew (h : W.cell? ⟨p, 0, none⟩ = some (.int .i64 L) ∧ W.cell? ⟨p, 1, none⟩ = some (.int .i64 M)) : W.drew.cell? ⟨p, 0, none⟩ = some (.int .i64 L) ∧ W.drew.cell? ⟨p, 1, none⟩ = some (.int .i64 M) := h
theorem n2_alloc (h : W.cell? ⟨p, 0, none⟩ = some (.int .i64 L) ∧ W.cell? ⟨p, 1, none⟩ = some (.int .i64 M)) (o : Obj) : (W.alloc o).cell? ⟨p, 0, none⟩ = some (.int .i64 L) ∧ (W.alloc o).cell? ⟨p, 1, none⟩ = some (.int .i64 M) := ⟨(World.cell?_alloc_lt W o ⟨p, 0, none⟩ (lt_of_cell (by rw [h.1]; rfl))).trans h.1, (World.cell?_alloc_lt W o ⟨p, 1, none⟩ (lt_of_cell (by rw [h.2]; rfl))).trans h.2⟩
theorem n2_adrew (h : W.drew.cell? ⟨p, 0, none⟩ = some (.int .i64 L) ∧ W.drew.cell? ⟨p, 1, none⟩ = some (.int .i64 M)) (o : Obj) : (W.alloc o).drew.cell? ⟨p, 0, none⟩ = some (.int .i64 L) ∧ (W.alloc o).drew.cell? ⟨p, 1, none⟩ = some (.int .i64 M) := n2_alloc (W := W) h o
theorem n2_far (h : W.cell? ⟨p, 0, none⟩ = some (.int .i64 L) ∧ W.cell? ⟨p, 1, none⟩ = some (.int .i64 M)) (g : W.grownBy W' (some b)) (hb : p ≠ b) : W'.cell? ⟨p, 0, none⟩ = some (.int .i64 L) ∧ W'.cell? ⟨p, 1, none⟩ = some (.int .i64 M) := by
  have e := g.block p (lt_of_cell (a := ⟨p, 0, none⟩) (by rw [h.1]; rfl)) (fun q => hb (Option.some.inj q))
  exact ⟨(World.cell?_of_block e).trans h.1, (World.cell?_of_block e).trans h.2⟩
theorem n2_set (h : W.cell? ⟨p, 0, none⟩ = some (.int .i64 L) ∧ W.cell? ⟨p, 1, none⟩ = some (.int .i64 M)) {R : Nat} {v0 v1 : Value} (hne : ¬ p = R) : ((W.setCell ⟨R, 0, none⟩ v0).setCell ⟨R, 1, none⟩ v1).cell? ⟨p, 0, none⟩ = some (.int .i64 L) ∧ ((W.setCell ⟨R, 0, none⟩ v0).setCell ⟨R, 1, none⟩ v1).cell? ⟨p, 1, none⟩ = some (.int .i64 M) := by
  have e : ((W.setCell ⟨R, 0, none⟩ v0).setCell ⟨R, 1, none⟩ v1).heap[p]? = W.heap[p]? := (heap_setCell_other _ ⟨R, 1, none⟩ p v1 (fun q => hne q)).trans (heap_setCell_other _ ⟨R, 0, none⟩ p v0 (fun q => hne q))
  exact ⟨(World.cell?_of_block e).trans h.1, (World.cell?_of_block e).trans h.2⟩
end
theorem lits_newZ {w : World} {cs : Array Value} {t : TypeId} (ys : List Int) (hcs : cs = (ys.map (Value.int .i64)).toArray) : ∀ j, j < ys.length → (w.alloc (.cells cs t)).cell? ⟨w.heap.size, j, none⟩ = some (.int .i64 (ys.getD j 0)) := fun j hj => by
  rw [World.cell?_alloc_new, hcs]
  simp [List.getD_eq_getElem?_getD, hj]
theorem level12_c (b : Nat) (A : Option Addr) (n c m : Nat) (w : World) (h : Cur w b A n c m) (hm : m ≤ 1000000) :
    Calls Try.prog 58 #[.pointer (some ⟨b, 0, none⟩)] w fun e w' => ∃ v : Int, (-1 ≤ v ∧ v ≤ 2001) ∧ e = .returned (.int .i64 v) ∧ Cur w' b A n c (m + 4) ∧ w.grownBy w' (some b) := by
  have hlt := h.lt
  go_enter Try.func58, Try.ntmps58
  go_wp2_with fail
  refine (pick_c b A n c m 24 _ (h.alloc _) (by omega) (by omega)).mono ?_
  rintro e w1 ⟨y, y0, y1, rfl, C1, g1⟩
  have hc := lits_far [0, 20, 45, 60, 100, 330, 1000, 2000, -1, 2001] g1 hlt rfl
  have hs := g1.size
  rw [World.size_alloc] at hs
  have G1 := grown_trans (World.grownBy_alloc w _ (some b)) g1
  clear g1 h
  obtain ⟨k, hk⟩ : ∃ k : Nat, y.tdiv 11 = k ∧ k ≤ 2 := ⟨(y / 11).toNat, by rw [Int.tdiv_eq_ediv_of_nonneg y0]; omega, by omega⟩
  have HC := Lib.hid hc
  clear hc
  go_wp2_with fail
  refine (amongT_c b A n c (m + 2) [0, 20, 45, 60, 100, 330, 1000, 2000, -1, 2001] w1 C1 w.heap.size (8 + k) 10 (by omega) (by omega) (by omega) HC.out (by omega) (by simp; omega) (by simp)).mono ?_
  rintro e w2 ⟨z, hz, rfl, C2, g2⟩
  have hb : -1 ≤ z ∧ z ≤ 2001 := by simp at hz; omega
  clear HC C1 hz
  go_wp2
  go_ret
  exact ⟨z, hb, rfl, C2, grown_trans G1 g2⟩
theorem drawPres_c (A : Option Addr) (n c : Nat) (w : World) (h : RdB w w.heap.size A n) : Calls Try.prog 35 #[.slice A n c] w fun e w' => ∃ (A1 : Option Addr) (c1 : Nat) (xs : List Int) (l : Int), e = .returned (.tuple #[.slice A1 xs.length c1, .int .i64 l]) ∧ (-2001 ≤ l ∧ l ≤ 2001) ∧ OwnI w' w.heap.size (.slice A1 xs.length c1) xs ∧ xs.length ≤ 14 ∧ Below w.heap.size w w' := by
  go_enter Try.func35, Try.ntmps35
  go_upto_region 2 with (fail)
  obtain ⟨W, hW⟩ : ∃ W, W = w.alloc (.cells #[.slice A n c, .int .i64 0, .int .u64 0] 62) := ⟨_, rfl⟩
  rw [← hW]
  have C0 : Cur W w.heap.size A n c 0 := by rw [hW]; exact Cur.new _ _ h
  have B0 : Below w.heap.size w W := by rw [hW]; exact (Below.refl _ _).alloc (Nat.le_refl _) _
  have lW : w.heap.size < W.heap.size := C0.lt
  clear hW h
  go_wp2_with fail
  refine (places12_c w.heap.size A n c 0 W C0 (by omega)).mono ?_
  rintro e w1 ⟨A1, c1, ys, rfl, C1, g1, o1, hl⟩
  go_wp2_with fail
  refine (level12_c w.heap.size A n c _ w1 C1 (by omega)).mono ?_
  rintro e w2 ⟨z, zb, rfl, C2, g2⟩
  have B1 := below_grown (Nat.le_refl _) B0 (grown_trans g1 g2) (Nat.le_refl _)
  have O1 := Lib.hid ((own_far o1 g2 lW).weak (base' := w.heap.size) (by omega))
  clear C1 C2 g1 g2 o1 C0 lW
  go_wp2
  go_returns
  exact ⟨A1, c1, ys, z, rfl, by omega, O1.out, hl, B1⟩
theorem drawRaise_c (A : Option Addr) (n c : Nat) (w : World) (h : RdB w w.heap.size A n) : Calls Try.prog 34 #[.slice A n c] w fun e w' => ∃ (A1 : Option Addr) (c1 : Nat) (xs : List Int) (l : Int), e = .returned (.tuple #[.slice A1 xs.length c1, .int .i64 l]) ∧ (-2001 ≤ l ∧ l ≤ 2001) ∧ OwnI w' w.heap.size (.slice A1 xs.length c1) xs ∧ xs.length ≤ 14 ∧ Below w.heap.size w w' := by
  go_enter Try.func34, Try.ntmps34
  go_upto_region 2 with (fail)
  obtain ⟨W, hW⟩ : ∃ W, W = w.alloc (.cells #[.slice A n c, .int .i64 0, .int .u64 0] 62) := ⟨_, rfl⟩
  rw [← hW]
  have C0 : Cur W w.heap.size A n c 0 := by rw [hW]; exact Cur.new _ _ h
  have B0 : Below w.heap.size w W := by rw [hW]; exact (Below.refl _ _).alloc (Nat.le_refl _) _
  have lW : w.heap.size < W.heap.size := C0.lt
  clear hW h
  go_wp2_with fail
  refine (places12_c w.heap.size A n c 0 W C0 (by omega)).mono ?_
  rintro e w1 ⟨A1, c1, ys, rfl, C1, g1, o1, hl⟩
  go_wp2_with fail
  refine (amongL_c w.heap.size A n c _ [0, 1, -5, 100, 1000, -1000, 1001, -1001] w1 C1 _ _ _ _ (by omega) rfl rfl rfl (by simp) (by simp)).mono ?_
  rintro e w2 ⟨z, hz, rfl, C2, g2⟩
  have zb : -2001 ≤ z ∧ z ≤ 2001 := by simp at hz; omega
  have B1 := below_grown (Nat.le_refl _) B0 (grown_trans g1 g2) (Nat.le_refl _)
  have O1 := Lib.hid ((own_far o1 g2 lW).weak (base' := w.heap.size) (by omega))
  clear C1 C2 g1 g2 o1 C0 lW hz
  go_wp2
  go_returns
  exact ⟨A1, c1, ys, z, rfl, zb, O1.out, hl, B1⟩
/-- The result's box while the rest is drawn. -/
structure RX (W : World) (R : Nat) : Prop where
  r0 : W.cell? ⟨R, 0, none⟩ = some (.int .i64 0)
  r1 : W.cell? ⟨R, 1, none⟩ = some (.int .i64 0)
  s0 : W.frozen? ⟨R, 0, none⟩ = false
  s1 : W.frozen? ⟨R, 1, none⟩ = false
theorem RX.far {W W' : World} {R b : Nat} (h : RX W R) (g : W.grownBy W' (some b)) (hb : some b ≠ some R) : RX W' R := ⟨dcell g hb h.r0, dcell g hb h.r1, dfroz g hb h.r0 h.s0, dfroz g hb h.r1 h.s1⟩
theorem RX.alloc {W : World} {R : Nat} (h : RX W R) (o : Obj) : RX (W.alloc o) R := by
  have l : R < W.heap.size := lt_of_cell (a := ⟨R, 0, none⟩) (by rw [h.r0]; rfl)
  exact ⟨(World.cell?_alloc_lt W o ⟨R, 0, none⟩ l).trans h.r0, (World.cell?_alloc_lt W o ⟨R, 1, none⟩ l).trans h.r1, (World.frozen?_of_block (w := W) (Below.heap_alloc W o R l)).trans h.s0, (World.frozen?_of_block (w := W) (Below.heap_alloc W o R l)).trans h.s1⟩
theorem own_two {W : World} {base R : Nat} {v : Value} {zs : List Int} (O : OwnI W base v zs) (hR : R < base) (u0 u1 : Value) : OwnI ((W.setCell ⟨R, 0, none⟩ u0).setCell ⟨R, 1, none⟩ u1) base v zs :=
  own_set (a := ⟨R, 1, none⟩) (own_set (a := ⟨R, 0, none⟩) O hR u0) hR u1
set_option maxRecDepth 100000 in
set_option maxHeartbeats 4000000 in
theorem drawSuited_c (A : Option Addr) (n c : Nat) (w : World) (h : RdB w w.heap.size A n) : Calls Try.prog 28 #[.slice A n c] w fun e w' => ∃ (A1 : Option Addr) (c1 : Nat) (xs : List Int) (L M l : Int), e = .returned (.tuple #[.slice A1 xs.length c1, .agg #[.int .i64 L, .int .i64 M], .int .i64 l]) ∧ ((0 ≤ L ∧ L ≤ 300) ∧ (0 ≤ M ∧ M ≤ 300)) ∧ (-1 ≤ l ∧ l ≤ 2001) ∧ OwnI w' w.heap.size (.slice A1 xs.length c1) xs ∧ xs.length ≤ 14 ∧ Below w.heap.size w w' := by
  go_enter Try.func28, Try.ntmps28
  go_upto_region 2 with (fail)
  obtain ⟨W, hW⟩ : ∃ W, W = (w.alloc (.cells #[.int .i64 0, .int .i64 0] 33)).alloc (.cells #[.slice A n c, .int .i64 0, .int .u64 0] 62) := ⟨_, rfl⟩
  rw [← hW]
  have C0 : Cur W (w.heap.size + 1) A n c 0 := by
    have := Cur.new (w := w.alloc (.cells #[.int .i64 0, .int .i64 0] 33)) (A := A) (n := n) c 62 ((h.below ((Below.refl _ _).alloc (Nat.le_refl _) _)).more (by simp))
    rw [World.size_alloc] at this
    rw [hW]; exact this
  have B0 : Below w.heap.size w W := by rw [hW]; exact ((Below.refl _ _).alloc (Nat.le_refl _) _).alloc (by simp) _
  have X0 : RX W w.heap.size := ⟨by rw [hW]; simp [go_sem], by rw [hW]; simp [go_sem], by rw [hW]; simp [go_sem], by rw [hW]; simp [go_sem]⟩
  have sW : W.heap.size = w.heap.size + 1 + 1 := by rw [hW]; simp
  clear hW h
  obtain ⟨b, hb⟩ : ∃ b, b = w.heap.size + 1 := ⟨_, rfl⟩
  rw [← hb] at C0 ⊢
  have lb : w.heap.size < b := by omega
  have lW : b < W.heap.size := by omega
  have nR : some b ≠ some w.heap.size := fun e => by have := Option.some.inj e; omega
  clear hb sW
  go_wp2_with fail
  refine (places12_c b A n c 0 W C0 (by omega)).mono ?_
  rintro e w1 ⟨A1, c1, ys, rfl, C1, g1, o1, hl⟩
  go_wp2_with fail
  refine (zoneRule_c b A n c _ w1 C1 (by omega)).mono ?_
  rintro e w2 ⟨L, M, hL, hM, rfl, C2, g2⟩
  have g12 := grown_trans g1 g2
  have X2 := X0.far g12 nR
  have B2 := below_grown (Nat.le_refl _) B0 g12 (by omega)
  have o2 := own_far o1 g2 lW
  have z2 := g12.size
  go_upto_region 4 with (fail)
  obtain ⟨W2, hW2⟩ : ∃ X, X = w2.alloc (.cells #[.int .i64 L, .int .i64 M] 33) := ⟨_, rfl⟩
  rw [← hW2]
  have C3 : Cur W2 b A n c 110 := by rw [hW2]; exact (C2.alloc _).weak (by omega)
  have X3 : RX W2 w.heap.size := by rw [hW2]; exact X2.alloc _
  have N3 : W2.cell? ⟨w2.heap.size, 0, none⟩ = some (.int .i64 L) ∧ W2.cell? ⟨w2.heap.size, 1, none⟩ = some (.int .i64 M) := by rw [hW2]; exact ⟨World.cell?_alloc_new w2 _ _ 0, World.cell?_alloc_new w2 _ _ 1⟩
  have O3 : OwnI W2 W.heap.size (.slice A1 ys.length c1) ys := by rw [hW2]; exact o2.alloc _
  have B3 : Below w.heap.size w W2 := by rw [hW2]; exact B2.alloc (by have := B2.size; omega) _
  have hpr : ¬ w2.heap.size = w.heap.size := by omega
  have hpb : w2.heap.size ≠ b := by omega
  clear hW2 C0 C1 C2 X0 X2 B0 B2 g1 g2 g12 o1 o2 z2
  generalize w2.heap.size = p at *
  obtain ⟨r0, r1, h0, h1⟩ := id X3
  go_region_held3 (fun w' => w'.cell? ⟨p, 0, none⟩ = some (.int .i64 L) ∧ w'.cell? ⟨p, 1, none⟩ = some (.int .i64 M))
    (first
      | with_reducible assumption
      | ((with_reducible refine n2_set ?_ hpr); with_reducible assumption)
      | (with_reducible exact n2_drew N3)
      | fail)
    (first | (go_at_call 58; (with_reducible refine (level12_c b A n c 110 _ (C3.drew) (by omega)).mono ?_); rintro e w4 ⟨z, zb, rfl, C4, g4'⟩; have g4 := grown_undrew g4'; have X4 := X3.far g4 nR; have N4 := n2_far N3 g4 hpb; have B4 := below_grown (Nat.le_refl _) B3 g4 (by omega); have O4 := own_far O3 g4 lW; clear r0 r1 h0 h1; obtain ⟨r0, r1, h0, h1⟩ := id X4))
  have O6 := Lib.hid ((own_two O4 (R := w.heap.size) (by omega) (.int .i64 L) (.int .i64 M)).weak (base' := w.heap.size) (by omega))
  clear O4 O3 C4 C3 N3 N4 g4 g4' X3 X4 B3
  go_wp2
  refine bodyPost_ret (v := .tuple #[.slice A1 ys.length c1, .agg #[.int .i64 L, .int .i64 M], .int .i64 z]) (by simp (maxDischargeDepth := 8) [results, Try.results28, go_sem, *]) rfl ?_
  exact ⟨A1, c1, ys, L, M, z, rfl, ⟨hL, hM⟩, zb, O6.out, hl, by (repeat' (first | (with_reducible exact Below.refl _ _) | (with_reducible assumption) | (with_reducible refine below_drewN ?_ _) | (with_reducible refine Below.alloc ?_ ?_ _) | (with_reducible refine Below.drew ?_) | (with_reducible refine Below.setCell ?_ ?_ _) | go_size))⟩
end Go.Proofs.Ytakpoalcfjedlaa
