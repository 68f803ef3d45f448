/- Rules, and what a level suits: contracts. -/
import Derived.Test.YtakpoalcfjedlaaZWalk
namespace Go.Proofs.Ytakpoalcfjedlaa
open Go.RowKit

theorem toZoneRule_c (L M : Int) (w : World) : Calls Try.prog 21 #[.agg #[.int .i64 L, .int .i64 M]] w fun e w' => e = .returned (.agg #[.int .i64 L, .int .i64 M]) ∧ Below w.heap.size w w' := by
  go_enter Try.func21, Try.ntmps21
  go_wp2
  (go_returns; exact ⟨by first | rfl | (simp; done) | (simp; omega), by (repeat' (first | (with_reducible exact Below.refl _ _) | (with_reducible assumption) | (with_reducible refine below_drewN ?_ _) | (with_reducible refine Below.alloc ?_ ?_ _) | (with_reducible refine Below.drew ?_) | (with_reducible refine Below.setCell ?_ ?_ _) | go_size))⟩)
theorem implRule_c (L M : Int) (w : World) : Calls Try.prog 41 #[.agg #[.int .i64 L, .int .i64 M]] w fun e w' => e = .returned (.bool (goodR L M)) ∧ Below w.heap.size w w' := by
  by_cases h1 : 1 ≤ L
  · by_cases h2 : L ≤ M
    · by_cases h3 : M ≤ 200
      · rw [show goodR L M = true by simp [goodR, h1, h2, h3]]
        go_enter Try.func41, Try.ntmps41
        go_wp2
        (go_returns; exact ⟨by first | rfl | (simp; done) | (simp; omega), by (repeat' (first | (with_reducible exact Below.refl _ _) | (with_reducible assumption) | (with_reducible refine below_drewN ?_ _) | (with_reducible refine Below.alloc ?_ ?_ _) | (with_reducible refine Below.drew ?_) | (with_reducible refine Below.setCell ?_ ?_ _) | go_size))⟩)
      · rw [show goodR L M = false by simp [goodR, h1, h2, h3]]
        go_enter Try.func41, Try.ntmps41
        go_wp2
        (go_returns; exact ⟨by first | rfl | (simp; done) | (simp; omega), by (repeat' (first | (with_reducible exact Below.refl _ _) | (with_reducible assumption) | (with_reducible refine below_drewN ?_ _) | (with_reducible refine Below.alloc ?_ ?_ _) | (with_reducible refine Below.drew ?_) | (with_reducible refine Below.setCell ?_ ?_ _) | go_size))⟩)
    · rw [show goodR L M = false by simp [goodR, h1, h2]]
      go_enter Try.func41, Try.ntmps41
      go_wp2
      (go_returns; exact ⟨by first | rfl | (simp; done) | (simp; omega), by (repeat' (first | (with_reducible exact Below.refl _ _) | (with_reducible assumption) | (with_reducible refine below_drewN ?_ _) | (with_reducible refine Below.alloc ?_ ?_ _) | (with_reducible refine Below.drew ?_) | (with_reducible refine Below.setCell ?_ ?_ _) | go_size))⟩)
  · rw [show goodR L M = false by simp [goodR, h1]]
    go_enter Try.func41, Try.ntmps41
    go_wp2
    (go_returns; exact ⟨by first | rfl | (simp; done) | (simp; omega), by (repeat' (first | (with_reducible exact Below.refl _ _) | (with_reducible assumption) | (with_reducible refine below_drewN ?_ _) | (with_reducible refine Below.alloc ?_ ?_ _) | (with_reducible refine Below.drew ?_) | (with_reducible refine Below.setCell ?_ ?_ _) | go_size))⟩)
theorem l12Rule_c (L M : Int) (w : World) : Calls Try.prog 62 #[.agg #[.int .i64 L, .int .i64 M]] w fun e w' => e = .returned (.bool (goodR L M)) ∧ Below w.heap.size w w' := by
  by_cases h1 : 1 ≤ L
  · by_cases h2 : L ≤ M
    · by_cases h3 : M ≤ 200
      · rw [show goodR L M = true by simp [goodR, h1, h2, h3]]
        go_enter Try.func62, Try.ntmps62
        go_wp2
        (go_returns; exact ⟨by first | rfl | (simp; done) | (simp; omega), by (repeat' (first | (with_reducible exact Below.refl _ _) | (with_reducible assumption) | (with_reducible refine below_drewN ?_ _) | (with_reducible refine Below.alloc ?_ ?_ _) | (with_reducible refine Below.drew ?_) | (with_reducible refine Below.setCell ?_ ?_ _) | go_size))⟩)
      · rw [show goodR L M = false by simp [goodR, h1, h2, h3]]
        go_enter Try.func62, Try.ntmps62
        go_wp2
        (go_returns; exact ⟨by first | rfl | (simp; done) | (simp; omega), by (repeat' (first | (with_reducible exact Below.refl _ _) | (with_reducible assumption) | (with_reducible refine below_drewN ?_ _) | (with_reducible refine Below.alloc ?_ ?_ _) | (with_reducible refine Below.drew ?_) | (with_reducible refine Below.setCell ?_ ?_ _) | go_size))⟩)
    · rw [show goodR L M = false by simp [goodR, h1, h2]]
      go_enter Try.func62, Try.ntmps62
      go_wp2
      (go_returns; exact ⟨by first | rfl | (simp; done) | (simp; omega), by (repeat' (first | (with_reducible exact Below.refl _ _) | (with_reducible assumption) | (with_reducible refine below_drewN ?_ _) | (with_reducible refine Below.alloc ?_ ?_ _) | (with_reducible refine Below.drew ?_) | (with_reducible refine Below.setCell ?_ ?_ _) | go_size))⟩)
  · rw [show goodR L M = false by simp [goodR, h1]]
    go_enter Try.func62, Try.ntmps62
    go_wp2
    (go_returns; exact ⟨by first | rfl | (simp; done) | (simp; omega), by (repeat' (first | (with_reducible exact Below.refl _ _) | (with_reducible assumption) | (with_reducible refine below_drewN ?_ _) | (with_reducible refine Below.alloc ?_ ?_ _) | (with_reducible refine Below.drew ?_) | (with_reducible refine Below.setCell ?_ ?_ _) | go_size))⟩)
theorem suits_c (L M l y : Int) (w : World) (a : -10000 ≤ l) (b : l ≤ 10000) (c : -10000 ≤ y) (d : y ≤ 10000) : Calls Try.prog 68 #[.agg #[.int .i64 L, .int .i64 M], .int .i64 l, .int .i64 y] w fun e w' => e = .returned (.bool (suitP L M l y)) ∧ Below w.heap.size w w' := by
  go_enter Try.func68, Try.ntmps68
  go_wp2_with (go_at_call 47; refine (inside_c _ _ _ _).mono ?_; rintro e w' ⟨rfl, rfl⟩)
  (go_returns; exact ⟨by first | rfl | (simp; done) | (simp; omega), by (repeat' (first | (with_reducible exact Below.refl _ _) | (with_reducible assumption) | (with_reducible refine below_drewN ?_ _) | (with_reducible refine Below.alloc ?_ ?_ _) | (with_reducible refine Below.drew ?_) | (with_reducible refine Below.setCell ?_ ?_ _) | go_size))⟩)
theorem l12Suits_c (L M l y : Int) (w : World) (a : -10000 ≤ l) (b : l ≤ 10000) (c : -10000 ≤ y) (d : y ≤ 10000) : Calls Try.prog 65 #[.int .i64 y, .agg #[.int .i64 L, .int .i64 M], .int .i64 l] w fun e w' => e = .returned (.bool (suitP L M l y)) ∧ Below w.heap.size w w' := by
  go_enter Try.func65, Try.ntmps65
  go_wp2_with (go_at_call 46; refine (l1In_c _ _ _ _).mono ?_; rintro e w' ⟨rfl, rfl⟩)
  (go_returns; exact ⟨by first | rfl | (simp; done) | (simp; omega), by (repeat' (first | (with_reducible exact Below.refl _ _) | (with_reducible assumption) | (with_reducible refine below_drewN ?_ _) | (with_reducible refine Below.alloc ?_ ?_ _) | (with_reducible refine Below.drew ?_) | (with_reducible refine Below.setCell ?_ ?_ _) | go_size))⟩)
theorem canZone_c {B : Nat} (A : Option Addr) (c : Nat) (xs : List Int) (L M : Int) (w : World) (h : RdI w B A xs) (hB : B ≤ w.heap.size) (hm : xs.length ≤ 4611686018427387904) : Calls Try.prog 50 #[.slice A xs.length c, .agg #[.int .i64 L, .int .i64 M]] w fun e w' => e = .returned (.bool (goodZ xs L M)) ∧ Below w.heap.size w w' := by
  unfold goodZ
  cases h1 : goodL xs
  · rw [Bool.false_and]
    go_enter Try.func50, Try.ntmps50
    go_wp2_with (go_at_call 44; refine (arePlaces_c _ _ _ _ (h.alloc hB _) hm).mono ?_; rintro e w' ⟨rfl, rfl⟩)
    (go_returns; exact ⟨by first | rfl | (simp; done) | (simp; omega), by (repeat' (first | (with_reducible exact Below.refl _ _) | (with_reducible assumption) | (with_reducible refine below_drewN ?_ _) | (with_reducible refine Below.alloc ?_ ?_ _) | (with_reducible refine Below.drew ?_) | (with_reducible refine Below.setCell ?_ ?_ _) | go_size))⟩)
  · rw [Bool.true_and]
    go_enter Try.func50, Try.ntmps50
    go_wp2_with (first | (go_at_call 44; refine (arePlaces_c _ _ _ _ (h.alloc hB _) hm).mono ?_; rintro e w' ⟨rfl, rfl⟩) | (go_at_call 41; refine (implRule_c _ _ _).mono ?_; rintro e w1 ⟨rfl, hb1⟩; have hz1 := hb1.size; (repeat (first | rw [World.size_alloc] at hz1 | rw [World.size_drew] at hz1 | rw [World.heap_drewN] at hz1 | rw [World.size_setCell] at hz1)); have hB : Below w.heap.size w w1 := Below.trans (by (repeat' (first | (with_reducible exact Below.refl _ _) | (with_reducible assumption) | (with_reducible refine below_drewN ?_ _) | (with_reducible refine Below.alloc ?_ ?_ _) | (with_reducible refine Below.drew ?_) | (with_reducible refine Below.setCell ?_ ?_ _) | go_size))) (hb1.mono (by go_size)); have hL1 := hb1; clear hb1; obtain ⟨hc1, hf1⟩ := bcell hL1))
    (go_returns; exact ⟨by first | rfl | (simp; done) | (simp; omega), by (repeat' (first | (with_reducible exact Below.refl _ _) | (with_reducible assumption) | (with_reducible refine below_drewN ?_ _) | (with_reducible refine Below.alloc ?_ ?_ _) | (with_reducible refine Below.drew ?_) | (with_reducible refine Below.setCell ?_ ?_ _) | go_size))⟩)
theorem l12Asked_c {B : Nat} (A : Option Addr) (c : Nat) (xs : List Int) (L M : Int) (w : World) (h : RdI w B A xs) (hB : B ≤ w.heap.size) (hm : xs.length ≤ 4611686018427387904) : Calls Try.prog 48 #[.slice A xs.length c, .agg #[.int .i64 L, .int .i64 M]] w fun e w' => e = .returned (.bool (goodZ xs L M)) ∧ Below w.heap.size w w' := by
  unfold goodZ
  cases h1 : goodL xs
  · rw [Bool.false_and]
    go_enter Try.func48, Try.ntmps48
    go_wp2_with (go_at_call 42; refine (l12List_c _ _ _ _ (h.alloc hB _) hm).mono ?_; rintro e w' ⟨rfl, rfl⟩)
    (go_returns; exact ⟨by first | rfl | (simp; done) | (simp; omega), by (repeat' (first | (with_reducible exact Below.refl _ _) | (with_reducible assumption) | (with_reducible refine below_drewN ?_ _) | (with_reducible refine Below.alloc ?_ ?_ _) | (with_reducible refine Below.drew ?_) | (with_reducible refine Below.setCell ?_ ?_ _) | go_size))⟩)
  · rw [Bool.true_and]
    go_enter Try.func48, Try.ntmps48
    go_wp2_with (first | (go_at_call 42; refine (l12List_c _ _ _ _ (h.alloc hB _) hm).mono ?_; rintro e w' ⟨rfl, rfl⟩) | (go_at_call 62; refine (l12Rule_c _ _ _).mono ?_; rintro e w1 ⟨rfl, hb1⟩; have hz1 := hb1.size; (repeat (first | rw [World.size_alloc] at hz1 | rw [World.size_drew] at hz1 | rw [World.heap_drewN] at hz1 | rw [World.size_setCell] at hz1)); have hB : Below w.heap.size w w1 := Below.trans (by (repeat' (first | (with_reducible exact Below.refl _ _) | (with_reducible assumption) | (with_reducible refine below_drewN ?_ _) | (with_reducible refine Below.alloc ?_ ?_ _) | (with_reducible refine Below.drew ?_) | (with_reducible refine Below.setCell ?_ ?_ _) | go_size))) (hb1.mono (by go_size)); have hL1 := hb1; clear hb1; obtain ⟨hc1, hf1⟩ := bcell hL1))
    (go_returns; exact ⟨by first | rfl | (simp; done) | (simp; omega), by (repeat' (first | (with_reducible exact Below.refl _ _) | (with_reducible assumption) | (with_reducible refine below_drewN ?_ _) | (with_reducible refine Below.alloc ?_ ?_ _) | (with_reducible refine Below.drew ?_) | (with_reducible refine Below.setCell ?_ ?_ _) | go_size))⟩)

end Go.Proofs.Ytakpoalcfjedlaa
