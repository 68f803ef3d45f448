/- Contracts: what the great law on zones draws. -/
import Derived.Test.YtakpoalcfjedlaaFDraw
namespace Go.Proofs.Ytakpoalcfjedlaa
open Go.RowKit

set_option maxHeartbeats 2000000 in
theorem drawSuit_c (A : Option Addr) (n c : Nat) (w : World) (h : RdB w w.heap.size A n) : Calls Try.prog 69 #[.slice A n c] w fun e w' => ∃ (A1 : Option Addr) (c1 : Nat) (xs : List Int) (L M : Int), e = .returned (.tuple #[.slice A1 xs.length c1, .agg #[.int .i64 L, .int .i64 M]]) ∧ ((0 ≤ L ∧ L ≤ 300) ∧ (0 ≤ M ∧ M ≤ 300)) ∧ OwnI w' w.heap.size (.slice A1 xs.length c1) xs ∧ xs.length ≤ 14 ∧ Below w.heap.size w w' := by
  go_enter Try.func69, Try.ntmps69
  go_upto_region 2 with (fail)
  obtain ⟨W, hW⟩ : ∃ W, W = (w.alloc (.cells #[.int .i64 0, .int .i64 0] 33)).alloc (.cells #[.slice A n c, .int .i64 0, .int .u64 0] 62) := ⟨_, rfl⟩
  rw [← hW]
  have C0 : Cur W (w.heap.size + 1) A n c 0 := by
    have := Cur.new (w := w.alloc (.cells #[.int .i64 0, .int .i64 0] 33)) (A := A) (n := n) c 62 ((h.below ((Below.refl _ _).alloc (Nat.le_refl _) _)).more (by simp))
    rw [World.size_alloc] at this
    rw [hW]; exact this
  have B0 : Below w.heap.size w W := by rw [hW]; exact ((Below.refl _ _).alloc (Nat.le_refl _) _).alloc (by simp) _
  have r0 : W.cell? ⟨w.heap.size, 0, none⟩ = some (.int .i64 0) := by rw [hW]; simp [go_sem]
  have r1 : W.cell? ⟨w.heap.size, 1, none⟩ = some (.int .i64 0) := by rw [hW]; simp [go_sem]
  have s0 : W.frozen? ⟨w.heap.size, 0, none⟩ = false := by rw [hW]; simp [go_sem]
  have s1 : W.frozen? ⟨w.heap.size, 1, none⟩ = false := by rw [hW]; simp [go_sem]
  have sW : W.heap.size = w.heap.size + 1 + 1 := by rw [hW]; simp
  clear hW h
  obtain ⟨b, hb⟩ : ∃ b, b = w.heap.size + 1 := ⟨_, rfl⟩
  rw [← hb] at C0 ⊢
  have lb : w.heap.size < b := by omega
  have lW : b < W.heap.size := by omega
  have nR : some b ≠ some w.heap.size := fun e => by have := Option.some.inj e; omega
  have RH := Lib.hid (And.intro r0 (And.intro r1 (And.intro s0 s1)))
  clear hb sW r0 r1 s0 s1
  go_wp2_with fail
  refine (places12_c b A n c 0 W C0 (by omega)).mono ?_
  rintro e w1 ⟨A1, c1, ys, rfl, C1, g1, o1, hl⟩
  go_wp2_with fail
  refine (zoneRule_c b A n c _ w1 C1 (by omega)).mono ?_
  rintro e w2 ⟨L, M, hL, hM, rfl, C2, g2⟩
  have g12 := grown_trans g1 g2
  obtain ⟨r0, r1, s0, s1⟩ := RH.out
  replace r0 := dcell g12 nR r0
  replace r1 := dcell g12 nR r1
  replace s0 := dfroz g12 nR RH.out.1 s0
  replace s1 := dfroz g12 nR RH.out.2.1 s1
  have B2 := below_grown (Nat.le_refl _) B0 g12 (by omega)
  have O6 := Lib.hid ((own_set (a := ⟨w.heap.size, 1, none⟩) (own_set (a := ⟨w.heap.size, 0, none⟩) (own_far o1 g2 (by omega)) (by show w.heap.size < _; omega) (.int .i64 L)) (by show w.heap.size < _; omega) (.int .i64 M)).weak (base' := w.heap.size) (by omega))
  clear C0 C1 C2 g1 g2 g12 o1 RH nR
  go_wp2
  refine bodyPost_ret (v := .tuple #[.slice A1 ys.length c1, .agg #[.int .i64 L, .int .i64 M]]) (by simp (maxDischargeDepth := 6) [results, Try.results69, go_sem, *]) rfl ?_
  exact ⟨A1, c1, ys, L, M, rfl, ⟨hL, hM⟩, O6.out, hl, by (repeat' (first | (with_reducible exact Below.refl _ _) | (with_reducible assumption) | (with_reducible refine below_drewN ?_ _) | (with_reducible refine Below.alloc ?_ ?_ _) | (with_reducible refine Below.drew ?_) | (with_reducible refine Below.setCell ?_ ?_ _) | go_size))⟩
set_option maxHeartbeats 1000000 in
theorem drawFew_c (A : Option Addr) (n c : Nat) (w : World) (h : RdB w w.heap.size A n) : Calls Try.prog 40 #[.slice A n c] w fun e w' => ∃ (A1 : Option Addr) (c1 : Nat) (xs : List Int) (L M : Int), e = .returned (.tuple #[.slice A1 xs.length c1, .agg #[.int .i64 L, .int .i64 M]]) ∧ ((0 ≤ L ∧ L ≤ 300) ∧ (0 ≤ M ∧ M ≤ 300)) ∧ OwnI w' w.heap.size (.slice A1 xs.length c1) xs ∧ xs.length ≤ 14 ∧ Below w.heap.size w w' := by
  go_enter Try.func40, Try.ntmps40
  go_wp2_with fail
  refine (drawSuit_c A n c _ ((h.below ((Below.refl _ _).alloc (Nat.le_refl _) _)).more (by simp))).mono ?_
  rintro e w1 ⟨A1, c1, ys, L, M, rfl, hLM, o1, hl, hb1⟩
  have r0 : w1.cell? ⟨w.heap.size, 0, none⟩ = some (.int .i64 0) := (hb1.cell (p := ⟨w.heap.size, 0, none⟩) (by simp)).trans (by simp [go_sem])
  have r1 : w1.cell? ⟨w.heap.size, 1, none⟩ = some (.int .i64 0) := (hb1.cell (p := ⟨w.heap.size, 1, none⟩) (by simp)).trans (by simp [go_sem])
  have s0 : w1.frozen? ⟨w.heap.size, 0, none⟩ = false := (hb1.frozen (p := ⟨w.heap.size, 0, none⟩) (by simp)).trans (by simp [go_sem])
  have s1 : w1.frozen? ⟨w.heap.size, 1, none⟩ = false := (hb1.frozen (p := ⟨w.heap.size, 1, none⟩) (by simp)).trans (by simp [go_sem])
  have B1 : Below w.heap.size w w1 := ((Below.refl _ _).alloc (Nat.le_refl _) _).trans (hb1.mono (by simp))
  rw [World.size_alloc] at o1
  have O6 := Lib.hid ((own_set (a := ⟨w.heap.size, 1, none⟩) (own_set (a := ⟨w.heap.size, 0, none⟩) o1 (by show w.heap.size < _; omega) (.int .i64 L)) (by show w.heap.size < _; omega) (.int .i64 M)).weak (base' := w.heap.size) (by omega))
  clear hb1 o1 h
  go_wp2
  refine bodyPost_ret (v := .tuple #[.slice A1 ys.length c1, .agg #[.int .i64 L, .int .i64 M]]) (by simp (maxDischargeDepth := 6) [results, Try.results40, go_sem, *]) rfl ?_
  exact ⟨A1, c1, ys, L, M, rfl, hLM, O6.out, hl, by (repeat' (first | (with_reducible exact Below.refl _ _) | (with_reducible assumption) | (with_reducible refine below_drewN ?_ _) | (with_reducible refine Below.alloc ?_ ?_ _) | (with_reducible refine Below.drew ?_) | (with_reducible refine Below.setCell ?_ ?_ _) | go_size))⟩
end Go.Proofs.Ytakpoalcfjedlaa
