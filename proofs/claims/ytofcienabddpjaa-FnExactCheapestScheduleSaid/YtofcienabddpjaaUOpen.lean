/- Pumpings: the statements' own helpers, and pumpings among the arguments. -/
import Derived.Test.YtofcienabddpjaaUPump
import Derived.Test.YtofcienabddpjaaOpenS
namespace Go.Proofs.Ytofcienabddpjaa
open Go.ChangeShapes Go.WideShapes Go.ChangeAt Go.RowKit Go.Joins

theorem szIntS_in (A : Option Addr) (c n : Nat) (m : Int) (w : World) (h : (n : Int) ≤ m) (hm : m ≤ 1048576) : Calls Try.prog 56 #[.slice A n c, .int .i64 m] w fun e w' => e = .returned (.int .i64 (m - n)) ∧ w = w' := by
  have e2 : ¬ (m - (n : Int) < 0) := by omega
  have w1 : IntKind.i64.wrap (m - (n : Int)) = m - n := IntWalk.i64_in _ (by omega)
  go_enter Try.func56, Try.ntmps56
  go_wp2
  go_ret
  exact ⟨rfl, rfl⟩
theorem szIntS_out (A : Option Addr) (c n : Nat) (m : Int) (w : World) (h : m < (n : Int)) (h0 : 0 ≤ m) (hm : n ≤ 9223372036854775807) : Calls Try.prog 56 #[.slice A n c, .int .i64 m] w fun e w' => e = .returned (.int .i64 (-1)) ∧ w = w' := by
  have e2 : (m - (n : Int) < 0) := by omega
  have w1 : IntKind.i64.wrap (m - (n : Int)) = m - n := IntWalk.i64_in _ (by omega)
  go_enter Try.func56, Try.ntmps56
  go_wp2
  go_ret
  exact ⟨rfl, rfl⟩
theorem szPm_ok (L E M P : Int) (A A' : Option Addr) (c c' : Nat) (xs ys : List Int) (w : World) (h : xs.length + ys.length ≤ 1048576) : Calls Try.prog 23 #[.agg #[.int .i64 L, .int .i64 E, .int .i64 M, .int .i64 P, .slice A xs.length c, .slice A' ys.length c'], .int .i64 1048576] w fun e w' => e = .returned (.int .i64 (1048576 - xs.length - ys.length)) ∧ Below w.heap.size w w' := by
  have e2 : ¬ (1048576 - (xs.length : Int) < 0) := by omega
  have e3 : ¬ (1048576 - (xs.length : Int) - (ys.length : Int) < 0) := by omega
  go_enter Try.func23, Try.ntmps23
  go_wp2_with (go_at_call 56; refine (szIntS_in _ _ _ _ _ (by omega) (by omega)).mono ?_; rintro e w' ⟨rfl, rfl⟩)
  (go_returns; exact ⟨by first | rfl | (simp; done) | (simp; omega), by (repeat' (first | (with_reducible exact Below.refl _ _) | (with_reducible assumption) | (with_reducible refine below_drewN ?_ _) | (with_reducible refine Below.alloc ?_ ?_ _) | (with_reducible refine Below.drew ?_) | (with_reducible refine Below.setCell ?_ ?_ _) | go_size))⟩)
theorem szPm_no (L E M P : Int) (A A' : Option Addr) (c c' : Nat) (xs ys : List Int) (w : World) (h : 1048576 < xs.length + ys.length) (hm : xs.length ≤ 9223372036854775807) (hm' : ys.length ≤ 9223372036854775807) : Calls Try.prog 23 #[.agg #[.int .i64 L, .int .i64 E, .int .i64 M, .int .i64 P, .slice A xs.length c, .slice A' ys.length c'], .int .i64 1048576] w fun e w' => e = .returned (.int .i64 (-1)) ∧ Below w.heap.size w w' := by
  by_cases h1 : xs.length ≤ 1048576
  · have e2 : ¬ (1048576 - (xs.length : Int) < 0) := by omega
    have h2 : 1048576 - (xs.length : Int) < (ys.length : Int) := by omega
    go_enter Try.func23, Try.ntmps23
    go_wp2_with fail
    refine (szIntS_in _ _ _ _ _ (by omega) (by omega)).mono ?_
    rintro e w' ⟨rfl, rfl⟩
    go_wp2_with fail
    refine (szIntS_out _ _ _ _ _ h2 (by omega) hm').mono ?_
    rintro e w' ⟨rfl, rfl⟩
    go_wp2
    (go_returns; exact ⟨by first | rfl | (simp; done) | (simp; omega), by (repeat' (first | (with_reducible exact Below.refl _ _) | (with_reducible assumption) | (with_reducible refine below_drewN ?_ _) | (with_reducible refine Below.alloc ?_ ?_ _) | (with_reducible refine Below.drew ?_) | (with_reducible refine Below.setCell ?_ ?_ _) | go_size))⟩)
  · have h2 : (1048576 : Int) < (xs.length : Int) := by omega
    go_enter Try.func23, Try.ntmps23
    go_wp2_with fail
    refine (szIntS_out _ _ _ _ _ h2 (by omega) hm).mono ?_
    rintro e w' ⟨rfl, rfl⟩
    go_wp2
    (go_returns; exact ⟨by first | rfl | (simp; done) | (simp; omega), by (repeat' (first | (with_reducible exact Below.refl _ _) | (with_reducible assumption) | (with_reducible refine below_drewN ?_ _) | (with_reducible refine Below.alloc ?_ ?_ _) | (with_reducible refine Below.drew ?_) | (with_reducible refine Below.setCell ?_ ?_ _) | go_size))⟩)
theorem toTank_c (L E M : Int) (w : World) : Calls Try.prog 58 #[.agg #[.int .i64 L, .int .i64 E, .int .i64 M]] w fun e w' => e = .returned (.agg #[.int .i64 L, .int .i64 E, .int .i64 M]) ∧ Below w.heap.size w w' := by
  go_enter Try.func58, Try.ntmps58
  go_wp2
  (refine bodyPost_ret (v := .agg #[.int .i64 L, .int .i64 E, .int .i64 M]) (by simp (maxDischargeDepth := 3) [results, Try.results58, go_sem, *]) rfl ?_; exact ⟨rfl, by (repeat' (first | (with_reducible exact Below.refl _ _) | (with_reducible assumption) | (with_reducible refine below_drewN ?_ _) | (with_reducible refine Below.alloc ?_ ?_ _) | (with_reducible refine Below.drew ?_) | (with_reducible refine Below.setCell ?_ ?_ _) | go_size))⟩)
theorem eqTank_c (L E M : Int) (w : World) : Calls Try.prog 59 #[.agg #[.int .i64 L, .int .i64 E, .int .i64 M], .agg #[.int .i64 L, .int .i64 E, .int .i64 M]] w fun e w' => e = .returned (.bool true) ∧ Below w.heap.size w w' := by
  go_enter Try.func59, Try.ntmps59
  go_wp2
  (go_returns; exact ⟨by first | rfl | (simp; done) | (simp; omega), by (repeat' (first | (with_reducible exact Below.refl _ _) | (with_reducible assumption) | (with_reducible refine below_drewN ?_ _) | (with_reducible refine Below.alloc ?_ ?_ _) | (with_reducible refine Below.drew ?_) | (with_reducible refine Below.setCell ?_ ?_ _) | go_size))⟩)
/-- Two slices of the call's own, apart. -/
def Own2 (w : World) (base : Nat) (v : Value) (xs : List Int) (u : Value) (ys : List Int) : Prop := OwnI w base v xs ∧ OwnI w base u ys ∧ ∀ g, v.ownBlock = some g → u.ownBlock ≠ some g
theorem apart_of {v u : Value} (h : ∀ g, v.ownBlock = some g → u.ownBlock ≠ some g) : u.ownBlock = none ∨ u.ownBlock ≠ v.ownBlock := by
  cases hu : u.ownBlock with
  | none => exact .inl rfl
  | some k => exact .inr fun e => h k e.symm hu
theorem apart_of' {v u : Value} (h : ∀ g, v.ownBlock = some g → u.ownBlock ≠ some g) : v.ownBlock = none ∨ v.ownBlock ≠ u.ownBlock := by
  cases hv : v.ownBlock with
  | none => exact .inl rfl
  | some k => exact .inr fun e => h k hv e.symm
theorem own_setBelow {w : World} {base : Nat} {v : Value} {xs : List Int} (h : OwnI w base v xs) {a : Addr} (ha : a.block < base) (u : Value) : OwnI (w.setCell a u) base v xs := ownsRow_setCell_below h ha u
def RetPm (w : World) (L E M P : Int) (xs ys : List Int) (e : Ending) (w' : World) : Prop :=
  ∃ (A : Option Addr) (c : Nat) (A' : Option Addr) (c' : Nat), e = .returned (.agg #[.int .i64 L, .int .i64 E, .int .i64 M, .int .i64 P, .slice A xs.length c, .slice A' ys.length c']) ∧ Own2 w' w.heap.size (.slice A xs.length c) xs (.slice A' ys.length c') ys ∧ Below w.heap.size w w'
set_option maxHeartbeats 1000000 in
theorem toPumping_c (L E M P : Int) (A A' : Option Addr) (c c' : Nat) (xs ys : List Int) (w : World) (h : RdI w w.heap.size A xs) (h' : RdI w w.heap.size A' ys) (hn : xs.length ≤ 1048576) (hn' : ys.length ≤ 1048576) :
    Calls Try.prog 25 #[.agg #[.int .i64 L, .int .i64 E, .int .i64 M, .int .i64 P, .slice A xs.length c, .slice A' ys.length c']] w (RetPm w L E M P xs ys) := by
  go_enter Try.func25, Try.ntmps25
  go_wp2_with fail
  refine (toTank_c L E M _).mono ?_
  rintro e w1 ⟨rfl, hb1⟩
  have hz1 := hb1.size; (repeat (first | rw [World.size_alloc] at hz1 | rw [World.size_drew] at hz1 | rw [World.heap_drewN] at hz1 | rw [World.size_setCell] at hz1)); have hB : Below w.heap.size w w1 := Below.trans (by (repeat' (first | (with_reducible exact Below.refl _ _) | (with_reducible assumption) | (with_reducible refine below_drewN ?_ _) | (with_reducible refine Below.alloc ?_ ?_ _) | (with_reducible refine Below.drew ?_) | (with_reducible refine Below.setCell ?_ ?_ _) | go_size))) (hb1.mono (by go_size)); have hL1 := hb1; clear hb1; obtain ⟨hc1, hf1⟩ := bcell hL1
  have a3_1 : w1.cell? ⟨w.heap.size, 3, none⟩ = some (.int .i64 P) := by rw [hc1 _ (by simp [go_sem, *])]; simp [go_sem, *]
  have a4_1 : w1.cell? ⟨w.heap.size, 4, none⟩ = some (.slice A xs.length c) := by rw [hc1 _ (by simp [go_sem, *])]; simp [go_sem, *]
  have a5_1 : w1.cell? ⟨w.heap.size, 5, none⟩ = some (.slice A' ys.length c') := by rw [hc1 _ (by simp [go_sem, *])]; simp [go_sem, *]
  have r0_1 : w1.cell? ⟨w.heap.size + 1, 0, none⟩ = some (.int .i64 0) := by rw [hc1 _ (by simp [go_sem, *])]; simp [go_sem, *]
  have fr0_1 : w1.frozen? ⟨w.heap.size + 1, 0, none⟩ = false := by rw [hf1 _ (by simp [go_sem, *])]; simp [go_sem, *]
  have r1_1 : w1.cell? ⟨w.heap.size + 1, 1, none⟩ = some (.int .i64 0) := by rw [hc1 _ (by simp [go_sem, *])]; simp [go_sem, *]
  have fr1_1 : w1.frozen? ⟨w.heap.size + 1, 1, none⟩ = false := by rw [hf1 _ (by simp [go_sem, *])]; simp [go_sem, *]
  have r2_1 : w1.cell? ⟨w.heap.size + 1, 2, none⟩ = some (.int .i64 0) := by rw [hc1 _ (by simp [go_sem, *])]; simp [go_sem, *]
  have fr2_1 : w1.frozen? ⟨w.heap.size + 1, 2, none⟩ = false := by rw [hf1 _ (by simp [go_sem, *])]; simp [go_sem, *]
  have r3_1 : w1.cell? ⟨w.heap.size + 1, 3, none⟩ = some (.int .i64 0) := by rw [hc1 _ (by simp [go_sem, *])]; simp [go_sem, *]
  have fr3_1 : w1.frozen? ⟨w.heap.size + 1, 3, none⟩ = false := by rw [hf1 _ (by simp [go_sem, *])]; simp [go_sem, *]
  have r4_1 : w1.cell? ⟨w.heap.size + 1, 4, none⟩ = some (.slice none 0 0) := by rw [hc1 _ (by simp [go_sem, *])]; simp [go_sem, *]
  have fr4_1 : w1.frozen? ⟨w.heap.size + 1, 4, none⟩ = false := by rw [hf1 _ (by simp [go_sem, *])]; simp [go_sem, *]
  have r5_1 : w1.cell? ⟨w.heap.size + 1, 5, none⟩ = some (.slice none 0 0) := by rw [hc1 _ (by simp [go_sem, *])]; simp [go_sem, *]
  have fr5_1 : w1.frozen? ⟨w.heap.size + 1, 5, none⟩ = false := by rw [hf1 _ (by simp [go_sem, *])]; simp [go_sem, *]
  have o0_1 : w1.cell? ⟨w.heap.size + 1 + 1, 0, none⟩ = some (.int .i64 0) := by rw [hc1 _ (by simp [go_sem, *])]; simp [go_sem, *]
  have fo0_1 : w1.frozen? ⟨w.heap.size + 1 + 1, 0, none⟩ = false := by rw [hf1 _ (by simp [go_sem, *])]; simp [go_sem, *]
  have o1_1 : w1.cell? ⟨w.heap.size + 1 + 1, 1, none⟩ = some (.int .i64 0) := by rw [hc1 _ (by simp [go_sem, *])]; simp [go_sem, *]
  have fo1_1 : w1.frozen? ⟨w.heap.size + 1 + 1, 1, none⟩ = false := by rw [hf1 _ (by simp [go_sem, *])]; simp [go_sem, *]
  have o2_1 : w1.cell? ⟨w.heap.size + 1 + 1, 2, none⟩ = some (.int .i64 0) := by rw [hc1 _ (by simp [go_sem, *])]; simp [go_sem, *]
  have fo2_1 : w1.frozen? ⟨w.heap.size + 1 + 1, 2, none⟩ = false := by rw [hf1 _ (by simp [go_sem, *])]; simp [go_sem, *]
  have o3_1 : w1.cell? ⟨w.heap.size + 1 + 1, 3, none⟩ = some (.int .i64 0) := by rw [hc1 _ (by simp [go_sem, *])]; simp [go_sem, *]
  have fo3_1 : w1.frozen? ⟨w.heap.size + 1 + 1, 3, none⟩ = false := by rw [hf1 _ (by simp [go_sem, *])]; simp [go_sem, *]
  have o4_1 : w1.cell? ⟨w.heap.size + 1 + 1, 4, none⟩ = some (.slice none 0 0) := by rw [hc1 _ (by simp [go_sem, *])]; simp [go_sem, *]
  have fo4_1 : w1.frozen? ⟨w.heap.size + 1 + 1, 4, none⟩ = false := by rw [hf1 _ (by simp [go_sem, *])]; simp [go_sem, *]
  have o5_1 : w1.cell? ⟨w.heap.size + 1 + 1, 5, none⟩ = some (.slice none 0 0) := by rw [hc1 _ (by simp [go_sem, *])]; simp [go_sem, *]
  have fo5_1 : w1.frozen? ⟨w.heap.size + 1 + 1, 5, none⟩ = false := by rw [hf1 _ (by simp [go_sem, *])]; simp [go_sem, *]
  go_wp2_with fail
  refine (toIntS_c A c xs _ ((h.below (by (repeat' (first | (with_reducible exact Below.refl _ _) | (with_reducible assumption) | (with_reducible refine below_drewN ?_ _) | (with_reducible refine Below.alloc ?_ ?_ _) | (with_reducible refine Below.drew ?_) | (with_reducible refine Below.setCell ?_ ?_ _) | go_size)))).more (by go_size)) hn).mono ?_
  rintro e w2 ⟨A1, c1, rfl, p1, hb2⟩
  have hz2 := hb2.size; (repeat (first | rw [World.size_alloc] at hz2 | rw [World.size_drew] at hz2 | rw [World.heap_drewN] at hz2 | rw [World.size_setCell] at hz2)); replace hB : Below w.heap.size w w2 := Below.trans (by (repeat' (first | (with_reducible exact Below.refl _ _) | (with_reducible assumption) | (with_reducible refine below_drewN ?_ _) | (with_reducible refine Below.alloc ?_ ?_ _) | (with_reducible refine Below.drew ?_) | (with_reducible refine Below.setCell ?_ ?_ _) | go_size))) (hb2.mono (by go_size)); (first | (refine extend_then hL1 hb2 ?_ ?_ (fun hq => ?_); (focus ((repeat' (first | (with_reducible exact Below.refl _ _) | (with_reducible assumption) | (with_reducible refine below_drewN ?_ _) | (with_reducible refine Below.alloc ?_ ?_ _) | (with_reducible refine Below.drew ?_) | (with_reducible refine Below.setCell ?_ ?_ _) | go_size)); done)); (focus (go_size; done)); replace hL1 := hq; clear hq hc1 hf1; obtain ⟨hc1, hf1⟩ := bcell hL1) | (clear hL1 hc1 hf1) | skip); have hL2 := hb2; clear hb2; obtain ⟨hc2, hf2⟩ := bcell hL2
  have a3_2 : w2.cell? ⟨w.heap.size, 3, none⟩ = some (.int .i64 P) := by rw [hc2 _ (by simp [go_sem, *])]; simp [go_sem, *]
  have a4_2 : w2.cell? ⟨w.heap.size, 4, none⟩ = some (.slice A xs.length c) := by rw [hc2 _ (by simp [go_sem, *])]; simp [go_sem, *]
  have a5_2 : w2.cell? ⟨w.heap.size, 5, none⟩ = some (.slice A' ys.length c') := by rw [hc2 _ (by simp [go_sem, *])]; simp [go_sem, *]
  have r0_2 : w2.cell? ⟨w.heap.size + 1, 0, none⟩ = some (.int .i64 0) := by rw [hc2 _ (by simp [go_sem, *])]; simp [go_sem, *]
  have fr0_2 : w2.frozen? ⟨w.heap.size + 1, 0, none⟩ = false := by rw [hf2 _ (by simp [go_sem, *])]; simp [go_sem, *]
  have r1_2 : w2.cell? ⟨w.heap.size + 1, 1, none⟩ = some (.int .i64 0) := by rw [hc2 _ (by simp [go_sem, *])]; simp [go_sem, *]
  have fr1_2 : w2.frozen? ⟨w.heap.size + 1, 1, none⟩ = false := by rw [hf2 _ (by simp [go_sem, *])]; simp [go_sem, *]
  have r2_2 : w2.cell? ⟨w.heap.size + 1, 2, none⟩ = some (.int .i64 0) := by rw [hc2 _ (by simp [go_sem, *])]; simp [go_sem, *]
  have fr2_2 : w2.frozen? ⟨w.heap.size + 1, 2, none⟩ = false := by rw [hf2 _ (by simp [go_sem, *])]; simp [go_sem, *]
  have r3_2 : w2.cell? ⟨w.heap.size + 1, 3, none⟩ = some (.int .i64 0) := by rw [hc2 _ (by simp [go_sem, *])]; simp [go_sem, *]
  have fr3_2 : w2.frozen? ⟨w.heap.size + 1, 3, none⟩ = false := by rw [hf2 _ (by simp [go_sem, *])]; simp [go_sem, *]
  have r4_2 : w2.cell? ⟨w.heap.size + 1, 4, none⟩ = some (.slice none 0 0) := by rw [hc2 _ (by simp [go_sem, *])]; simp [go_sem, *]
  have fr4_2 : w2.frozen? ⟨w.heap.size + 1, 4, none⟩ = false := by rw [hf2 _ (by simp [go_sem, *])]; simp [go_sem, *]
  have r5_2 : w2.cell? ⟨w.heap.size + 1, 5, none⟩ = some (.slice none 0 0) := by rw [hc2 _ (by simp [go_sem, *])]; simp [go_sem, *]
  have fr5_2 : w2.frozen? ⟨w.heap.size + 1, 5, none⟩ = false := by rw [hf2 _ (by simp [go_sem, *])]; simp [go_sem, *]
  have o0_2 : w2.cell? ⟨w.heap.size + 1 + 1, 0, none⟩ = some (.int .i64 L) := by rw [hc2 _ (by simp [go_sem, *])]; simp [go_sem, *]
  have fo0_2 : w2.frozen? ⟨w.heap.size + 1 + 1, 0, none⟩ = false := by rw [hf2 _ (by simp [go_sem, *])]; simp [go_sem, *]
  have o1_2 : w2.cell? ⟨w.heap.size + 1 + 1, 1, none⟩ = some (.int .i64 E) := by rw [hc2 _ (by simp [go_sem, *])]; simp [go_sem, *]
  have fo1_2 : w2.frozen? ⟨w.heap.size + 1 + 1, 1, none⟩ = false := by rw [hf2 _ (by simp [go_sem, *])]; simp [go_sem, *]
  have o2_2 : w2.cell? ⟨w.heap.size + 1 + 1, 2, none⟩ = some (.int .i64 M) := by rw [hc2 _ (by simp [go_sem, *])]; simp [go_sem, *]
  have fo2_2 : w2.frozen? ⟨w.heap.size + 1 + 1, 2, none⟩ = false := by rw [hf2 _ (by simp [go_sem, *])]; simp [go_sem, *]
  have o3_2 : w2.cell? ⟨w.heap.size + 1 + 1, 3, none⟩ = some (.int .i64 P) := by rw [hc2 _ (by simp [go_sem, *])]; simp [go_sem, *]
  have fo3_2 : w2.frozen? ⟨w.heap.size + 1 + 1, 3, none⟩ = false := by rw [hf2 _ (by simp [go_sem, *])]; simp [go_sem, *]
  have o4_2 : w2.cell? ⟨w.heap.size + 1 + 1, 4, none⟩ = some (.slice none 0 0) := by rw [hc2 _ (by simp [go_sem, *])]; simp [go_sem, *]
  have fo4_2 : w2.frozen? ⟨w.heap.size + 1 + 1, 4, none⟩ = false := by rw [hf2 _ (by simp [go_sem, *])]; simp [go_sem, *]
  have o5_2 : w2.cell? ⟨w.heap.size + 1 + 1, 5, none⟩ = some (.slice none 0 0) := by rw [hc2 _ (by simp [go_sem, *])]; simp [go_sem, *]
  have fo5_2 : w2.frozen? ⟨w.heap.size + 1 + 1, 5, none⟩ = false := by rw [hf2 _ (by simp [go_sem, *])]; simp [go_sem, *]
  clear a3_1 a4_1 a5_1 r0_1 r1_1 r2_1 r3_1 r4_1 r5_1 o0_1 o1_1 o2_1 o3_1 o4_1 o5_1 fr0_1 fr1_1 fr2_1 fr3_1 fr4_1 fr5_1 fo0_1 fo1_1 fo2_1 fo3_1 fo4_1 fo5_1
  go_wp2_with fail
  refine (toIntS_c A' c' ys _ ((h'.below (by (repeat' (first | (with_reducible exact Below.refl _ _) | (with_reducible assumption) | (with_reducible refine below_drewN ?_ _) | (with_reducible refine Below.alloc ?_ ?_ _) | (with_reducible refine Below.drew ?_) | (with_reducible refine Below.setCell ?_ ?_ _) | go_size)))).more (by go_size)) hn').mono ?_
  rintro e w3 ⟨A2, c2, rfl, p2, hb3⟩
  have ap := own_older p1 p2 (by go_size)
  have q1 : OwnI w3 (w.heap.size + 1 + 1 + 1) (.slice A1 xs.length c1) xs := OwnI.weak ((own_setBelow p1 (a := ⟨w.heap.size + 1 + 1, 4, none⟩) (by go_size) _).below hb3) (by go_size)
  have hz3 := hb3.size; (repeat (first | rw [World.size_alloc] at hz3 | rw [World.size_drew] at hz3 | rw [World.heap_drewN] at hz3 | rw [World.size_setCell] at hz3)); replace hB : Below w.heap.size w w3 := Below.trans (by (repeat' (first | (with_reducible exact Below.refl _ _) | (with_reducible assumption) | (with_reducible refine below_drewN ?_ _) | (with_reducible refine Below.alloc ?_ ?_ _) | (with_reducible refine Below.drew ?_) | (with_reducible refine Below.setCell ?_ ?_ _) | go_size))) (hb3.mono (by go_size)); (first | (refine extend_then hL1 hb3 ?_ ?_ (fun hq => ?_); (focus ((repeat' (first | (with_reducible exact Below.refl _ _) | (with_reducible assumption) | (with_reducible refine below_drewN ?_ _) | (with_reducible refine Below.alloc ?_ ?_ _) | (with_reducible refine Below.drew ?_) | (with_reducible refine Below.setCell ?_ ?_ _) | go_size)); done)); (focus (go_size; done)); replace hL1 := hq; clear hq hc1 hf1; obtain ⟨hc1, hf1⟩ := bcell hL1) | (clear hL1 hc1 hf1) | skip); (first | (refine extend_then hL2 hb3 ?_ ?_ (fun hq => ?_); (focus ((repeat' (first | (with_reducible exact Below.refl _ _) | (with_reducible assumption) | (with_reducible refine below_drewN ?_ _) | (with_reducible refine Below.alloc ?_ ?_ _) | (with_reducible refine Below.drew ?_) | (with_reducible refine Below.setCell ?_ ?_ _) | go_size)); done)); (focus (go_size; done)); replace hL2 := hq; clear hq hc2 hf2; obtain ⟨hc2, hf2⟩ := bcell hL2) | (clear hL2 hc2 hf2) | skip); have hL3 := hb3; clear hb3; obtain ⟨hc3, hf3⟩ := bcell hL3
  have a3_3 : w3.cell? ⟨w.heap.size, 3, none⟩ = some (.int .i64 P) := by rw [hc3 _ (by simp [go_sem, *])]; simp [go_sem, *]
  have a4_3 : w3.cell? ⟨w.heap.size, 4, none⟩ = some (.slice A xs.length c) := by rw [hc3 _ (by simp [go_sem, *])]; simp [go_sem, *]
  have a5_3 : w3.cell? ⟨w.heap.size, 5, none⟩ = some (.slice A' ys.length c') := by rw [hc3 _ (by simp [go_sem, *])]; simp [go_sem, *]
  have r0_3 : w3.cell? ⟨w.heap.size + 1, 0, none⟩ = some (.int .i64 0) := by rw [hc3 _ (by simp [go_sem, *])]; simp [go_sem, *]
  have fr0_3 : w3.frozen? ⟨w.heap.size + 1, 0, none⟩ = false := by rw [hf3 _ (by simp [go_sem, *])]; simp [go_sem, *]
  have r1_3 : w3.cell? ⟨w.heap.size + 1, 1, none⟩ = some (.int .i64 0) := by rw [hc3 _ (by simp [go_sem, *])]; simp [go_sem, *]
  have fr1_3 : w3.frozen? ⟨w.heap.size + 1, 1, none⟩ = false := by rw [hf3 _ (by simp [go_sem, *])]; simp [go_sem, *]
  have r2_3 : w3.cell? ⟨w.heap.size + 1, 2, none⟩ = some (.int .i64 0) := by rw [hc3 _ (by simp [go_sem, *])]; simp [go_sem, *]
  have fr2_3 : w3.frozen? ⟨w.heap.size + 1, 2, none⟩ = false := by rw [hf3 _ (by simp [go_sem, *])]; simp [go_sem, *]
  have r3_3 : w3.cell? ⟨w.heap.size + 1, 3, none⟩ = some (.int .i64 0) := by rw [hc3 _ (by simp [go_sem, *])]; simp [go_sem, *]
  have fr3_3 : w3.frozen? ⟨w.heap.size + 1, 3, none⟩ = false := by rw [hf3 _ (by simp [go_sem, *])]; simp [go_sem, *]
  have r4_3 : w3.cell? ⟨w.heap.size + 1, 4, none⟩ = some (.slice none 0 0) := by rw [hc3 _ (by simp [go_sem, *])]; simp [go_sem, *]
  have fr4_3 : w3.frozen? ⟨w.heap.size + 1, 4, none⟩ = false := by rw [hf3 _ (by simp [go_sem, *])]; simp [go_sem, *]
  have r5_3 : w3.cell? ⟨w.heap.size + 1, 5, none⟩ = some (.slice none 0 0) := by rw [hc3 _ (by simp [go_sem, *])]; simp [go_sem, *]
  have fr5_3 : w3.frozen? ⟨w.heap.size + 1, 5, none⟩ = false := by rw [hf3 _ (by simp [go_sem, *])]; simp [go_sem, *]
  have o0_3 : w3.cell? ⟨w.heap.size + 1 + 1, 0, none⟩ = some (.int .i64 L) := by rw [hc3 _ (by simp [go_sem, *])]; simp [go_sem, *]
  have fo0_3 : w3.frozen? ⟨w.heap.size + 1 + 1, 0, none⟩ = false := by rw [hf3 _ (by simp [go_sem, *])]; simp [go_sem, *]
  have o1_3 : w3.cell? ⟨w.heap.size + 1 + 1, 1, none⟩ = some (.int .i64 E) := by rw [hc3 _ (by simp [go_sem, *])]; simp [go_sem, *]
  have fo1_3 : w3.frozen? ⟨w.heap.size + 1 + 1, 1, none⟩ = false := by rw [hf3 _ (by simp [go_sem, *])]; simp [go_sem, *]
  have o2_3 : w3.cell? ⟨w.heap.size + 1 + 1, 2, none⟩ = some (.int .i64 M) := by rw [hc3 _ (by simp [go_sem, *])]; simp [go_sem, *]
  have fo2_3 : w3.frozen? ⟨w.heap.size + 1 + 1, 2, none⟩ = false := by rw [hf3 _ (by simp [go_sem, *])]; simp [go_sem, *]
  have o3_3 : w3.cell? ⟨w.heap.size + 1 + 1, 3, none⟩ = some (.int .i64 P) := by rw [hc3 _ (by simp [go_sem, *])]; simp [go_sem, *]
  have fo3_3 : w3.frozen? ⟨w.heap.size + 1 + 1, 3, none⟩ = false := by rw [hf3 _ (by simp [go_sem, *])]; simp [go_sem, *]
  have o4_3 : w3.cell? ⟨w.heap.size + 1 + 1, 4, none⟩ = some (.slice A1 xs.length c1) := by rw [hc3 _ (by simp [go_sem, *])]; simp [go_sem, *]
  have fo4_3 : w3.frozen? ⟨w.heap.size + 1 + 1, 4, none⟩ = false := by rw [hf3 _ (by simp [go_sem, *])]; simp [go_sem, *]
  have o5_3 : w3.cell? ⟨w.heap.size + 1 + 1, 5, none⟩ = some (.slice none 0 0) := by rw [hc3 _ (by simp [go_sem, *])]; simp [go_sem, *]
  have fo5_3 : w3.frozen? ⟨w.heap.size + 1 + 1, 5, none⟩ = false := by rw [hf3 _ (by simp [go_sem, *])]; simp [go_sem, *]
  clear a3_2 a4_2 a5_2 r0_2 r1_2 r2_2 r3_2 r4_2 r5_2 o0_2 o1_2 o2_2 o3_2 o4_2 o5_2 fr0_2 fr1_2 fr2_2 fr3_2 fr4_2 fr5_2 fo0_2 fo1_2 fo2_2 fo3_2 fo4_2 fo5_2
  go_wp2
  refine bodyPost_ret (v := .agg #[.int .i64 L, .int .i64 E, .int .i64 M, .int .i64 P, .slice A1 xs.length c1, .slice A2 ys.length c2]) (by simp (maxDischargeDepth := 8) [results, Try.results25, go_sem, *]) rfl ?_
  refine ⟨A1, c1, A2, c2, rfl, ⟨OwnI.weak (base := w.heap.size + 1 + 1 + 1) ?_ (by omega), OwnI.weak (base := w.heap.size + 1 + 1 + 1) ?_ (by omega), fun g hg e => ?_⟩, by (repeat' (first | (with_reducible exact Below.refl _ _) | (with_reducible assumption) | (with_reducible refine below_drewN ?_ _) | (with_reducible refine Below.alloc ?_ ?_ _) | (with_reducible refine Below.drew ?_) | (with_reducible refine Below.setCell ?_ ?_ _) | go_size))⟩
  · (repeat (with_reducible refine own_setBelow ?_ ?_ _)) <;> first | exact q1 | go_size | (simp; done) | (simp; omega)
  · (repeat (with_reducible refine own_setBelow ?_ ?_ _)) <;> first | exact p2.weak (by go_size) | go_size | (simp; done) | (simp; omega)
  · rcases ap with k | k
    · rw [k] at hg; cases hg
    · exact k (hg.trans e.symm)
theorem eqPumping_c {B1 B2 B3 B4 : Nat} (L E M P : Int) (A A' D D' : Option Addr) (c c' d d' : Nat) (xs ys : List Int) (w : World) (h1 : RdI w B1 A xs) (h2 : RdI w B2 A' ys) (h3 : RdI w B3 D xs) (h4 : RdI w B4 D' ys) (hB1 : B1 ≤ w.heap.size) (hB2 : B2 ≤ w.heap.size) (hB3 : B3 ≤ w.heap.size) (hB4 : B4 ≤ w.heap.size) (hm : xs.length ≤ 9223372036854775807) (hm' : ys.length ≤ 9223372036854775807) :
    Calls Try.prog 26 #[.agg #[.int .i64 L, .int .i64 E, .int .i64 M, .int .i64 P, .slice A xs.length c, .slice A' ys.length c'], .agg #[.int .i64 L, .int .i64 E, .int .i64 M, .int .i64 P, .slice D xs.length d, .slice D' ys.length d']] w fun e w' => e = .returned (.bool true) ∧ Below w.heap.size w w' := by
  have R1 := h1.more hB1
  have R2 := h2.more hB2
  have R3 := h3.more hB3
  have R4 := h4.more hB4
  clear h1 h2 h3 h4 hB1 hB2 hB3 hB4
  go_enter Try.func26, Try.ntmps26
  go_wp2_with fail; (go_at_call 59; refine (eqTank_c L E M _).mono ?_; rintro e w1 ⟨rfl, hb1⟩; have hz1 := hb1.size; (repeat (first | rw [World.size_alloc] at hz1 | rw [World.size_drew] at hz1 | rw [World.heap_drewN] at hz1 | rw [World.size_setCell] at hz1)); have hB : Below w.heap.size w w1 := Below.trans (by (repeat' (first | (with_reducible exact Below.refl _ _) | (with_reducible assumption) | (with_reducible refine below_drewN ?_ _) | (with_reducible refine Below.alloc ?_ ?_ _) | (with_reducible refine Below.drew ?_) | (with_reducible refine Below.setCell ?_ ?_ _) | go_size))) (hb1.mono (by go_size)); have hL1 := hb1; clear hb1; obtain ⟨hc1, hf1⟩ := bcell hL1)
  have Q1 := (R1.below (w' := w1) (by (repeat' (first | (with_reducible exact Below.refl _ _) | (with_reducible assumption) | (with_reducible refine below_drewN ?_ _) | (with_reducible refine Below.alloc ?_ ?_ _) | (with_reducible refine Below.drew ?_) | (with_reducible refine Below.setCell ?_ ?_ _) | go_size))))
  have Q2 := (R2.below (w' := w1) (by (repeat' (first | (with_reducible exact Below.refl _ _) | (with_reducible assumption) | (with_reducible refine below_drewN ?_ _) | (with_reducible refine Below.alloc ?_ ?_ _) | (with_reducible refine Below.drew ?_) | (with_reducible refine Below.setCell ?_ ?_ _) | go_size))))
  have Q3 := (R3.below (w' := w1) (by (repeat' (first | (with_reducible exact Below.refl _ _) | (with_reducible assumption) | (with_reducible refine below_drewN ?_ _) | (with_reducible refine Below.alloc ?_ ?_ _) | (with_reducible refine Below.drew ?_) | (with_reducible refine Below.setCell ?_ ?_ _) | go_size))))
  have Q4 := (R4.below (w' := w1) (by (repeat' (first | (with_reducible exact Below.refl _ _) | (with_reducible assumption) | (with_reducible refine below_drewN ?_ _) | (with_reducible refine Below.alloc ?_ ?_ _) | (with_reducible refine Below.drew ?_) | (with_reducible refine Below.setCell ?_ ?_ _) | go_size))))
  clear R1 R2 R3 R4
  go_wp2_with fail
  refine (eqIntS_c _ _ _ _ _ _ (by assumption) (by assumption) hm).mono ?_
  rintro e w' ⟨rfl, nd, rfl⟩
  go_wp2_with fail
  refine (eqIntS_c _ _ _ _ _ _ (Q2.drewN _) (Q4.drewN _) hm').mono ?_
  rintro e w' ⟨rfl, nd2, rfl⟩
  go_wp2
  (go_returns; exact ⟨by first | rfl | (simp; done) | (simp; omega), by (repeat' (first | (with_reducible exact Below.refl _ _) | (with_reducible assumption) | (with_reducible refine below_drewN ?_ _) | (with_reducible refine Below.alloc ?_ ?_ _) | (with_reducible refine Below.drew ?_) | (with_reducible refine Below.setCell ?_ ?_ _) | go_size))⟩)
theorem cellsPm : Try.prog.cellsOf 40 = 6 := by kernel_rfl
theorem cellsTk : Try.prog.cellsOf 38 = 3 := by kernel_rfl
theorem array6 {cs : Array Value} (h : cs.size = 6) : ∃ c0 c1 c2 c3 c4 c5, cs = #[c0, c1, c2, c3, c4, c5] := by
  obtain ⟨l⟩ := cs
  match l, h with
  | [a, b, c, d, e, f], _ => exact ⟨a, b, c, d, e, f, rfl⟩
theorem open_pumping {H : Type} {enc : TypeId × Value → H} {W : World} {base : Nat} {v : Value} {d : DataW H} {p : List MemPlace} (hv : Value.okWide Try.prog W .any base 40 v) (h : DataW.Trod enc Try.prog W 0 (fun _ => true) true 40 v d p) :
    ∃ (L E M P : Int) (A A' : Option Addr) (c c' : Nat) (xs ys : List Int), v = .agg #[.int .i64 L, .int .i64 E, .int .i64 M, .int .i64 P, .slice A xs.length c, .slice A' ys.length c'] ∧ RdI W W.heap.size A xs ∧ RdI W W.heap.size A' ys ∧ xs.length ≤ 9223372036854775807 ∧ ys.length ≤ 9223372036854775807 := by
  obtain ⟨cs, rfl, hsz⟩ := okWide_struct Try.underlying40 hv
  obtain ⟨c0, c1, c2, c3, c4, c5, rfl⟩ := array6 (hsz.trans cellsPm)
  obtain ⟨fuel, hf⟩ := h
  obtain ⟨y0, y1, y2, y3, n, _, _, h0, h1, h2, h3⟩ := trod_struct4 Try.underlying40 hf
  obtain ⟨z0, z1, z2, m, _, _, k0, k1, k2⟩ := Go.Deep.trod_struct3 Try.underlying38 h0
  obtain ⟨L, rfl, _⟩ := open_ci (v := c0) (by exact k0)
  obtain ⟨E, rfl, _⟩ := open_ci (v := c1) (by exact k1)
  obtain ⟨M, rfl, _⟩ := open_ci (v := c2) (by exact k2)
  obtain ⟨P, rfl, _⟩ := open_ci (v := c3) (by exact h1)
  obtain ⟨A, c, xs, rfl, r, hm, _⟩ := open_cis (v := c4) (by exact h2)
  obtain ⟨A', c', ys, rfl, r', hm', _⟩ := open_cis (v := c5) (by exact h3)
  exact ⟨L, E, M, P, A, A', c, c', xs, ys, rfl, r, r', hm, hm'⟩
end Go.Proofs.Ytofcienabddpjaa
