/- Contracts: what the great law on schedules draws. -/
import Derived.Test.YtofcienabddpjaaWSched
namespace Go.Proofs.Ytofcienabddpjaa
open Go.RowKit

theorem own_sixW {W : World} {base R : Nat} {v : Value} {zs : List Int} (O : OwnI W base v zs) (hR : R < base) (u0 u1 u2 u3 u4 u5 : Value) :
    OwnI ((((((W.setCell ⟨R, 0, none⟩ u0).setCell ⟨R, 1, none⟩ u1).setCell ⟨R, 2, none⟩ u2).setCell ⟨R, 3, none⟩ u3).setCell ⟨R, 4, none⟩ u4).setCell ⟨R, 5, none⟩ u5) R v zs :=
  OwnI.weak (ownsRow_setCell_below (ownsRow_setCell_below (ownsRow_setCell_below (ownsRow_setCell_below (ownsRow_setCell_below (ownsRow_setCell_below O (a := ⟨R, 0, none⟩) hR u0) (a := ⟨R, 1, none⟩) hR u1) (a := ⟨R, 2, none⟩) hR u2) (a := ⟨R, 3, none⟩) hR u3) (a := ⟨R, 4, none⟩) hR u4) (a := ⟨R, 5, none⟩) hR u5) (Nat.le_of_lt hR)
set_option maxRecDepth 100000 in
set_option maxHeartbeats 4000000 in
theorem drawGood_c (A : Option Addr) (n c : Nat) (w : World) (h : RdB w w.heap.size A n) :
    Calls Try.prog 68 #[.slice A n c] w fun e w' => ∃ (L E M P : Int) (A1 A2 B : Option Addr) (c1 c2 d : Nat) (xs ys zs : List Int), e = .returned (.tuple #[.agg #[.int .i64 L, .int .i64 E, .int .i64 M, .int .i64 P, .slice A1 xs.length c1, .slice A2 ys.length c2], .slice B zs.length d]) ∧ OwnI w' w.heap.size (.slice A1 xs.length c1) xs ∧ OwnI w' w.heap.size (.slice A2 ys.length c2) ys ∧ OwnI w' w.heap.size (.slice B zs.length d) zs ∧ xs.length ≤ 14 ∧ ys.length ≤ 14 ∧ zs.length ≤ 30 ∧ Below w.heap.size w w' := by
  go_enter Try.func68, Try.ntmps68
  go_wp2_with fail
  obtain ⟨W0, hW0⟩ : ∃ W, W = w.alloc (.cells #[.int .i64 0, .int .i64 0, .int .i64 0, .int .i64 0, .slice none 0 0, .slice none 0 0] 28) := ⟨_, rfl⟩
  obtain ⟨W, hW⟩ : ∃ W, W = W0.alloc (.cells #[.slice A n c, .int .i64 0, .int .u64 0] 60) := ⟨_, rfl⟩
  rw [← hW0, ← hW]
  have B0 : Below w.heap.size w W := by rw [hW, hW0]; exact ((Below.refl _ _).alloc (Nat.le_refl _) _).alloc (by simp only [World.size_alloc]; omega) _
  have sb : W0.heap.size = w.heap.size + 1 := by rw [hW0]; simp
  have sW : W.heap.size = w.heap.size + 1 + 1 := by rw [hW, World.size_alloc, sb]
  have C0 : Cur W W0.heap.size A n c 0 := by rw [hW]; exact Cur.new _ _ (by rw [sb, hW0]; exact (h.below ((Below.refl _ _).alloc (Nat.le_refl _) _)).more (by omega))
  have rB0 : QB W w.heap.size 0 0 0 0 (.slice none 0 0) (.slice none 0 0) := by rw [hW, hW0]; exact (QB.new _ _ _ _ _ _ _).alloc _
  rw [sb] at C0
  clear hW hW0 sb h
  obtain ⟨b, hb⟩ : ∃ b, b = w.heap.size + 1 := ⟨_, rfl⟩
  rw [← hb] at C0 ⊢
  have hb1 : w.heap.size ≤ b := by omega
  have hrb : w.heap.size ≠ b := by omega
  have hbW : b < W.heap.size := by omega
  refine (pumping_c b A n c 0 W C0 (by omega)).mono ?_
  rintro e w1 ⟨L, E, M, P, s1, s2, xs, ys, rfl, C1, g1, O1, hx, hy⟩
  have B1 := below_grown (Nat.le_refl _) B0 g1 hb1
  have rB1 := rB0.kept g1 (fun e => hrb (Option.some.inj e))
  have s1' := g1.size
  obtain ⟨A1, c1, rfl⟩ := O1.o1.shape
  obtain ⟨A2, c2, rfl⟩ := O1.o2.shape
  clear g1 C0 B0 rB0 hb
  go_upto_region 3 with (fail)
  obtain ⟨W2, hW2⟩ : ∃ W2, W2 = w1.alloc (.cells #[.int .i64 L, .int .i64 E, .int .i64 M, .int .i64 P, .slice A1 xs.length c1, .slice A2 ys.length c2] 28) := ⟨_, rfl⟩
  rw [← hW2]
  have C2 : Cur W2 b A n c 100 := by rw [hW2]; exact C1.alloc _
  have rB2 : QB W2 w.heap.size 0 0 0 0 (.slice none 0 0) (.slice none 0 0) := by rw [hW2]; exact rB1.alloc _
  have q2 : QB W2 w1.heap.size L E M P (.slice A1 xs.length c1) (.slice A2 ys.length c2) := by rw [hW2]; exact QB.new _ _ _ _ _ _ _
  have O2 := O1.alloc (.cells #[.int .i64 L, .int .i64 E, .int .i64 M, .int .i64 P, .slice A1 xs.length c1, .slice A2 ys.length c2] 28)
  rw [← hW2] at O2
  have B2 : Below w.heap.size w W2 := by rw [hW2]; exact B1.alloc (by omega) _
  have G2 := World.grownBy.refl W2 (some b)
  have hpb : w1.heap.size ≠ b := by omega
  have hpr : ¬ w1.heap.size = w.heap.size := by omega
  have hrp : ¬ w.heap.size = w1.heap.size := by omega
  have S0 : W2.cell? ⟨w1.heap.size, 0, none⟩ = some (.int .i64 L) ∧ W2.cell? ⟨w1.heap.size, 1, none⟩ = some (.int .i64 E) ∧ W2.cell? ⟨w1.heap.size, 2, none⟩ = some (.int .i64 M) ∧ W2.cell? ⟨w1.heap.size, 3, none⟩ = some (.int .i64 P) ∧ W2.cell? ⟨w1.heap.size, 4, none⟩ = some (.slice A1 xs.length c1) ∧ W2.cell? ⟨w1.heap.size, 5, none⟩ = some (.slice A2 ys.length c2) := ⟨q2.p0, q2.p1, q2.p2, q2.p3, q2.p4, q2.p5⟩
  clear hW2 C1 rB1 O1 B1 q2
  generalize w1.heap.size = p at *
  have OH := Lib.hid O2
  have R1 : RdI W2.drew W2.drew.heap.size A1 xs := by have := O2.o1.rd; exact this
  have R2 : RdI W2.drew W2.drew.heap.size A2 ys := by have := O2.o2.rd; exact this
  have BH := Lib.hid B2
  have XH := Lib.hid (And.intro hx hy)
  clear O2 B2
  have hps : W.heap.size ≤ W2.heap.size := by have := rB2.lt; have := C2.lt; omega
  obtain ⟨r0, r1, r2, r3, r4, r5, h0, h1, h2, h3, h4, h5⟩ := id rB2
  go_region_held3 (fun w' => w'.cell? ⟨p, 0, none⟩ = some (.int .i64 L) ∧ w'.cell? ⟨p, 1, none⟩ = some (.int .i64 E) ∧ w'.cell? ⟨p, 2, none⟩ = some (.int .i64 M) ∧ w'.cell? ⟨p, 3, none⟩ = some (.int .i64 P) ∧ w'.cell? ⟨p, 4, none⟩ = some (.slice A1 xs.length c1) ∧ w'.cell? ⟨p, 5, none⟩ = some (.slice A2 ys.length c2))
    (first
      | ((with_reducible refine pbc_six ?_ hpr); with_reducible assumption)
      | (with_reducible exact pbc_drew S0)
      | (with_reducible exact pbc_far (by assumption) g3 hpb)
      | fail)
    (first | (go_at_call 81; (with_reducible refine (schedule_c b A n c 100 L E M P A1 A2 c1 c2 xs ys _ (C2.drew) R1 R2 hx hy (by omega)).mono ?_); rintro e w3 ⟨B, d, zs, rfl, C3, g3, O3, hz⟩; have G3 := grown_trans G2 (grown_undrew g3); have rB3 := rB2.drew.kept g3 (fun e => hrb (Option.some.inj e)); clear r0 r1 r2 r3 r4 r5 h0 h1 h2 h3 h4 h5; obtain ⟨r0, r1, r2, r3, r4, r5, h0, h1, h2, h3, h4, h5⟩ := id rB3; clear rB2 G2))
  have O7 := own3_far OH.out G3 hbW
  have B7 := below_grown (Nat.le_refl _) BH.out G3 hb1
  have hRW : w.heap.size < W.heap.size := by omega
  have O3' : OwnI w3 W2.heap.size (.slice B zs.length d) zs := O3
  have O9 := own_sixW (O3'.weak (base' := W.heap.size) hps) hRW (.int .i64 L) (.int .i64 E) (.int .i64 M) (.int .i64 P) (.slice A1 xs.length c1) (.slice A2 ys.length c2)
  have O8a := own_sixW O7.o1 hRW (.int .i64 L) (.int .i64 E) (.int .i64 M) (.int .i64 P) (.slice A1 xs.length c1) (.slice A2 ys.length c2)
  have O8b := own_sixW O7.o2 hRW (.int .i64 L) (.int .i64 E) (.int .i64 M) (.int .i64 P) (.slice A1 xs.length c1) (.slice A2 ys.length c2)
  have OO := Lib.hid (And.intro O8a (And.intro O8b O9))
  clear S0 g3 O3 O3' O7 O8a O8b O9 R1 R2
  go_wp2
  go_light
  refine bodyPost_ret (v := .tuple #[.agg #[.int .i64 L, .int .i64 E, .int .i64 M, .int .i64 P, .slice A1 xs.length c1, .slice A2 ys.length c2], .slice B zs.length d]) (by simp (maxDischargeDepth := 8) [results, Try.results68, go_sem, *]) rfl ?_
  exact ⟨L, E, M, P, A1, A2, B, c1, c2, d, xs, ys, zs, rfl, OO.out.1, OO.out.2.1, OO.out.2.2, hx, hy, hz, by (repeat' (first | (with_reducible exact Below.refl _ _) | (with_reducible assumption) | (with_reducible refine below_drewN ?_ _) | (with_reducible refine Below.alloc ?_ ?_ _) | (with_reducible refine Below.drew ?_) | (with_reducible refine Below.setCell ?_ ?_ _) | go_size))⟩
set_option maxHeartbeats 1000000 in
theorem drawScost_c (A : Option Addr) (n c : Nat) (w : World) (h : RdB w w.heap.size A n) : Calls Try.prog 41 #[.slice A n c] w fun e w' => ∃ (L E M P : Int) (A1 A2 B : Option Addr) (c1 c2 d : Nat) (xs ys zs : List Int), e = .returned (.tuple #[.agg #[.int .i64 L, .int .i64 E, .int .i64 M, .int .i64 P, .slice A1 xs.length c1, .slice A2 ys.length c2], .slice B zs.length d]) ∧ OwnI w' w.heap.size (.slice A1 xs.length c1) xs ∧ OwnI w' w.heap.size (.slice A2 ys.length c2) ys ∧ OwnI w' w.heap.size (.slice B zs.length d) zs ∧ xs.length ≤ 14 ∧ ys.length ≤ 14 ∧ zs.length ≤ 30 ∧ Below w.heap.size w w' := by
  go_enter Try.func41, Try.ntmps41
  go_wp2_with fail
  refine (drawGood_c A n c _ ((h.below ((Below.refl _ _).alloc (Nat.le_refl _) _)).more (by simp))).mono ?_
  rintro e w1 ⟨L, E, M, P, A1, A2, B, c1, c2, d, xs, ys, zs, rfl, O1, O2, O3, hx, hy, hz, hb1⟩
  have hz1 := hb1.size; (repeat (first | rw [World.size_alloc] at hz1 | rw [World.size_drew] at hz1 | rw [World.heap_drewN] at hz1 | rw [World.size_setCell] at hz1)); have hB : Below w.heap.size w w1 := Below.trans (by (repeat' (first | (with_reducible exact Below.refl _ _) | (with_reducible assumption) | (with_reducible refine below_drewN ?_ _) | (with_reducible refine Below.alloc ?_ ?_ _) | (with_reducible refine Below.drew ?_) | (with_reducible refine Below.setCell ?_ ?_ _) | go_size))) (hb1.mono (by go_size)); have hL1 := hb1; clear hb1; obtain ⟨hc1, hf1⟩ := bcell hL1
  have o1 := Lib.hid (own_sixW O1 (R := w.heap.size) (by simp) (.int .i64 L) (.int .i64 E) (.int .i64 M) (.int .i64 P) (.slice A1 xs.length c1) (.slice A2 ys.length c2))
  have o2 := Lib.hid (own_sixW O2 (R := w.heap.size) (by simp) (.int .i64 L) (.int .i64 E) (.int .i64 M) (.int .i64 P) (.slice A1 xs.length c1) (.slice A2 ys.length c2))
  have o3 := Lib.hid (own_sixW O3 (R := w.heap.size) (by simp) (.int .i64 L) (.int .i64 E) (.int .i64 M) (.int .i64 P) (.slice A1 xs.length c1) (.slice A2 ys.length c2))
  clear O1 O2 O3
  go_wp2
  go_light
  refine bodyPost_ret (v := .tuple #[.agg #[.int .i64 L, .int .i64 E, .int .i64 M, .int .i64 P, .slice A1 xs.length c1, .slice A2 ys.length c2], .slice B zs.length d]) (by simp (maxDischargeDepth := 8) [results, Try.results41, go_sem, *]) rfl ?_
  exact ⟨L, E, M, P, A1, A2, B, c1, c2, d, xs, ys, zs, rfl, o1.out, o2.out, o3.out, hx, hy, hz, by (repeat' (first | (with_reducible exact Below.refl _ _) | (with_reducible assumption) | (with_reducible refine below_drewN ?_ _) | (with_reducible refine Below.alloc ?_ ?_ _) | (with_reducible refine Below.drew ?_) | (with_reducible refine Below.setCell ?_ ?_ _) | go_size))⟩
end Go.Proofs.Ytofcienabddpjaa
