/- MixShares: contracts and the law, walked. -/
import Derived.Test.YtbcgcpdnmpejlaaCWalk2
namespace Go.Proofs.Ytbcgcpdnmpejlaa
open Go.RowKit

theorem absI_neg' (x : Int) : absI x = absI (-x) := by unfold absI; omega
theorem implMix_c (a b t : Int) (w : World) : Calls Try.prog 20 #[.int .i64 a, .int .i64 b, .int .i64 t] w fun e w' => e = .returned (.tuple #[.int .i64 (mixC a b t).1, .int .i64 (mixC a b t).2.1, .bool (mixC a b t).2.2]) ∧ Below w.heap.size w w' := by
  cases h1 : inB a 0 10000
  · rw [mixC_no (.inl h1)]
    (go_enter Try.func20, Try.ntmps20; go_wp2_with (first | (go_at_call 44; refine (inside_c _ _ _ _).mono ?_; rintro e w' ⟨rfl, rfl⟩)); (go_returns; exact ⟨by first | rfl | (simp; done) | (simp; omega), by (repeat' (first | (with_reducible exact Below.refl _ _) | (with_reducible assumption) | (with_reducible refine below_drewN ?_ _) | (with_reducible refine Below.alloc ?_ ?_ _) | (with_reducible refine Below.drew ?_) | (with_reducible refine Below.setCell ?_ ?_ _) | go_size))⟩))
  cases h2 : inB b 0 10000
  · rw [mixC_no (.inr (.inl h2))]
    (go_enter Try.func20, Try.ntmps20; go_wp2_with (first | (go_at_call 44; refine (inside_c _ _ _ _).mono ?_; rintro e w' ⟨rfl, rfl⟩)); (go_returns; exact ⟨by first | rfl | (simp; done) | (simp; omega), by (repeat' (first | (with_reducible exact Below.refl _ _) | (with_reducible assumption) | (with_reducible refine below_drewN ?_ _) | (with_reducible refine Below.alloc ?_ ?_ _) | (with_reducible refine Below.drew ?_) | (with_reducible refine Below.setCell ?_ ?_ _) | go_size))⟩))
  cases h3 : inB t 0 10000
  · rw [mixC_no (.inr (.inr h3))]
    (go_enter Try.func20, Try.ntmps20; go_wp2_with (first | (go_at_call 44; refine (inside_c _ _ _ _).mono ?_; rintro e w' ⟨rfl, rfl⟩)); (go_returns; exact ⟨by first | rfl | (simp; done) | (simp; omega), by (repeat' (first | (with_reducible exact Below.refl _ _) | (with_reducible assumption) | (with_reducible refine below_drewN ?_ _) | (with_reducible refine Below.alloc ?_ ?_ _) | (with_reducible refine Below.drew ?_) | (with_reducible refine Below.setCell ?_ ?_ _) | go_size))⟩))
  obtain ⟨a1, a2⟩ := inB_out h1
  obtain ⟨b1, b2⟩ := inB_out h2
  obtain ⟨t1, t2⟩ := inB_out h3
  rcases mixC_yes h1 h2 h3 with ⟨e, r⟩ | ⟨e, e', r⟩ | ⟨e, e', r⟩ | ⟨e, e', r⟩ | ⟨e, e', r⟩ | ⟨e, e', r⟩
  · rw [r]; subst e; clear r
    (go_enter Try.func20, Try.ntmps20; go_wp2_with (first | (go_at_call 44; refine (inside_c _ _ _ _).mono ?_; rintro e w' ⟨rfl, rfl⟩)); (go_returns; exact ⟨by first | rfl | (simp; done) | (simp; omega), by (repeat' (first | (with_reducible exact Below.refl _ _) | (with_reducible assumption) | (with_reducible refine below_drewN ?_ _) | (with_reducible refine Below.alloc ?_ ?_ _) | (with_reducible refine Below.drew ?_) | (with_reducible refine Below.setCell ?_ ?_ _) | go_size))⟩))
  · rw [r]; subst e'; clear r
    have g1 : (a - t == 0) = false := by simp only [beq_eq_false_iff_ne]; omega
    (go_enter Try.func20, Try.ntmps20; go_wp2_with (first | (go_at_call 44; refine (inside_c _ _ _ _).mono ?_; rintro e w' ⟨rfl, rfl⟩)); (go_returns; exact ⟨by first | rfl | (simp; done) | (simp; omega), by (repeat' (first | (with_reducible exact Below.refl _ _) | (with_reducible assumption) | (with_reducible refine below_drewN ?_ _) | (with_reducible refine Below.alloc ?_ ?_ _) | (with_reducible refine Below.drew ?_) | (with_reducible refine Below.setCell ?_ ?_ _) | go_size))⟩))
  · rw [r]; clear r
    have d1 : decide (0 < a - t) = true := by simp; omega
    have d2 : decide (0 < t - b) = false := by simp; omega
    have d3 : decide (t < a) = true := by simp; omega
    have d4 : decide (b < t) = false := by simp; omega
    (go_enter Try.func20, Try.ntmps20; go_wp2_with (first | (go_at_call 44; refine (inside_c _ _ _ _).mono ?_; rintro e w' ⟨rfl, rfl⟩)); (go_returns; exact ⟨by first | rfl | (simp; done) | (simp; omega), by (repeat' (first | (with_reducible exact Below.refl _ _) | (with_reducible assumption) | (with_reducible refine below_drewN ?_ _) | (with_reducible refine Below.alloc ?_ ?_ _) | (with_reducible refine Below.drew ?_) | (with_reducible refine Below.setCell ?_ ?_ _) | go_size))⟩))
  · rw [r]; clear r
    have d1 : decide (0 < a - t) = false := by simp; omega
    have d2 : decide (0 < t - b) = true := by simp; omega
    have d3 : decide (t < a) = false := by simp; omega
    have d4 : decide (b < t) = true := by simp; omega
    (go_enter Try.func20, Try.ntmps20; go_wp2_with (first | (go_at_call 44; refine (inside_c _ _ _ _).mono ?_; rintro e w' ⟨rfl, rfl⟩)); (go_returns; exact ⟨by first | rfl | (simp; done) | (simp; omega), by (repeat' (first | (with_reducible exact Below.refl _ _) | (with_reducible assumption) | (with_reducible refine below_drewN ?_ _) | (with_reducible refine Below.alloc ?_ ?_ _) | (with_reducible refine Below.drew ?_) | (with_reducible refine Below.setCell ?_ ?_ _) | go_size))⟩))
  · rw [r]; clear r
    have d1 : decide (0 < a - t) = true := by simp; omega
    have d2 : decide (0 < t - b) = true := by simp; omega
    have d3 : decide (t < a) = true := by simp; omega
    have d4 : decide (b < t) = true := by simp; omega
    have g1 : absI (t - b) = t - b := absI_of_nonneg (by omega)
    have g2 : absI (a - t) = a - t := absI_of_nonneg (by omega)
    (go_enter Try.func20, Try.ntmps20; go_wp2_with (first | (go_at_call 44; refine (inside_c _ _ _ _).mono ?_; rintro e w' ⟨rfl, rfl⟩) | (go_at_call 51; refine (absOf_c _ _ (by omega) (by omega)).mono ?_; rintro e w' ⟨rfl, rfl⟩) | (go_at_call 50; refine (lowestTerms_c _ _ _ (by omega) (by omega) (by omega) (by omega)).mono ?_; rintro e w' ⟨rfl, nd, rfl⟩)); (go_returns; exact ⟨by first | rfl | (simp; done) | (simp; omega), by (repeat' (first | (with_reducible exact Below.refl _ _) | (with_reducible assumption) | (with_reducible refine below_drewN ?_ _) | (with_reducible refine Below.alloc ?_ ?_ _) | (with_reducible refine Below.drew ?_) | (with_reducible refine Below.setCell ?_ ?_ _) | go_size))⟩))
  · rw [r]; clear r
    have d1 : decide (0 < a - t) = false := by simp; omega
    have d2 : decide (0 < t - b) = false := by simp; omega
    have d3 : decide (t < a) = false := by simp; omega
    have d4 : decide (b < t) = false := by simp; omega
    have g1 : absI (t - b) = b - t := by rw [absI_of_neg (by omega)]; omega
    have g2 : absI (a - t) = t - a := by rw [absI_of_neg (by omega)]; omega
    (go_enter Try.func20, Try.ntmps20; go_wp2_with (first | (go_at_call 44; refine (inside_c _ _ _ _).mono ?_; rintro e w' ⟨rfl, rfl⟩) | (go_at_call 51; refine (absOf_c _ _ (by omega) (by omega)).mono ?_; rintro e w' ⟨rfl, rfl⟩) | (go_at_call 50; refine (lowestTerms_c _ _ _ (by omega) (by omega) (by omega) (by omega)).mono ?_; rintro e w' ⟨rfl, nd, rfl⟩)); (go_returns; exact ⟨by first | rfl | (simp; done) | (simp; omega), by (repeat' (first | (with_reducible exact Below.refl _ _) | (with_reducible assumption) | (with_reducible refine below_drewN ?_ _) | (with_reducible refine Below.alloc ?_ ?_ _) | (with_reducible refine Below.drew ?_) | (with_reducible refine Below.setCell ?_ ?_ _) | go_size))⟩))

theorem specMix_c (a b t : Int) (w : World) : Calls Try.prog 19 #[.int .i64 a, .int .i64 b, .int .i64 t] w fun e w' => e = .returned (.tuple #[.int .i64 (mixC a b t).1, .int .i64 (mixC a b t).2.1, .bool (mixC a b t).2.2]) ∧ Below w.heap.size w w' := by
  cases h1 : inB a 0 10000
  · rw [mixC_no (.inl h1)]
    (go_enter Try.func19, Try.ntmps19; go_wp2_with (first | (go_at_call 46; refine (l1In_c _ _ _ _).mono ?_; rintro e w' ⟨rfl, rfl⟩)); (go_returns; exact ⟨by first | rfl | (simp; done) | (simp; omega), by (repeat' (first | (with_reducible exact Below.refl _ _) | (with_reducible assumption) | (with_reducible refine below_drewN ?_ _) | (with_reducible refine Below.alloc ?_ ?_ _) | (with_reducible refine Below.drew ?_) | (with_reducible refine Below.setCell ?_ ?_ _) | go_size))⟩))
  cases h2 : inB b 0 10000
  · rw [mixC_no (.inr (.inl h2))]
    (go_enter Try.func19, Try.ntmps19; go_wp2_with (first | (go_at_call 46; refine (l1In_c _ _ _ _).mono ?_; rintro e w' ⟨rfl, rfl⟩)); (go_returns; exact ⟨by first | rfl | (simp; done) | (simp; omega), by (repeat' (first | (with_reducible exact Below.refl _ _) | (with_reducible assumption) | (with_reducible refine below_drewN ?_ _) | (with_reducible refine Below.alloc ?_ ?_ _) | (with_reducible refine Below.drew ?_) | (with_reducible refine Below.setCell ?_ ?_ _) | go_size))⟩))
  cases h3 : inB t 0 10000
  · rw [mixC_no (.inr (.inr h3))]
    (go_enter Try.func19, Try.ntmps19; go_wp2_with (first | (go_at_call 46; refine (l1In_c _ _ _ _).mono ?_; rintro e w' ⟨rfl, rfl⟩)); (go_returns; exact ⟨by first | rfl | (simp; done) | (simp; omega), by (repeat' (first | (with_reducible exact Below.refl _ _) | (with_reducible assumption) | (with_reducible refine below_drewN ?_ _) | (with_reducible refine Below.alloc ?_ ?_ _) | (with_reducible refine Below.drew ?_) | (with_reducible refine Below.setCell ?_ ?_ _) | go_size))⟩))
  obtain ⟨a1, a2⟩ := inB_out h1
  obtain ⟨b1, b2⟩ := inB_out h2
  obtain ⟨t1, t2⟩ := inB_out h3
  rcases mixC_yes h1 h2 h3 with ⟨e, r⟩ | ⟨e, e', r⟩ | ⟨e, e', r⟩ | ⟨e, e', r⟩ | ⟨e, e', r⟩ | ⟨e, e', r⟩
  · rw [r]; subst e; clear r
    (go_enter Try.func19, Try.ntmps19; go_wp2_with (first | (go_at_call 46; refine (l1In_c _ _ _ _).mono ?_; rintro e w' ⟨rfl, rfl⟩)); (go_returns; exact ⟨by first | rfl | (simp; done) | (simp; omega), by (repeat' (first | (with_reducible exact Below.refl _ _) | (with_reducible assumption) | (with_reducible refine below_drewN ?_ _) | (with_reducible refine Below.alloc ?_ ?_ _) | (with_reducible refine Below.drew ?_) | (with_reducible refine Below.setCell ?_ ?_ _) | go_size))⟩))
  · rw [r]; subst e'; clear r
    have g1 : (a - t == 0) = false := by simp only [beq_eq_false_iff_ne]; omega
    (go_enter Try.func19, Try.ntmps19; go_wp2_with (first | (go_at_call 46; refine (l1In_c _ _ _ _).mono ?_; rintro e w' ⟨rfl, rfl⟩)); (go_returns; exact ⟨by first | rfl | (simp; done) | (simp; omega), by (repeat' (first | (with_reducible exact Below.refl _ _) | (with_reducible assumption) | (with_reducible refine below_drewN ?_ _) | (with_reducible refine Below.alloc ?_ ?_ _) | (with_reducible refine Below.drew ?_) | (with_reducible refine Below.setCell ?_ ?_ _) | go_size))⟩))
  · rw [r]; clear r
    (go_enter Try.func19, Try.ntmps19; go_wp2_with (first | (go_at_call 46; refine (l1In_c _ _ _ _).mono ?_; rintro e w' ⟨rfl, rfl⟩)); (go_returns; exact ⟨by first | rfl | (simp; done) | (simp; omega), by (repeat' (first | (with_reducible exact Below.refl _ _) | (with_reducible assumption) | (with_reducible refine below_drewN ?_ _) | (with_reducible refine Below.alloc ?_ ?_ _) | (with_reducible refine Below.drew ?_) | (with_reducible refine Below.setCell ?_ ?_ _) | go_size))⟩))
  · rw [r]; clear r
    (go_enter Try.func19, Try.ntmps19; go_wp2_with (first | (go_at_call 46; refine (l1In_c _ _ _ _).mono ?_; rintro e w' ⟨rfl, rfl⟩)); (go_returns; exact ⟨by first | rfl | (simp; done) | (simp; omega), by (repeat' (first | (with_reducible exact Below.refl _ _) | (with_reducible assumption) | (with_reducible refine below_drewN ?_ _) | (with_reducible refine Below.alloc ?_ ?_ _) | (with_reducible refine Below.drew ?_) | (with_reducible refine Below.setCell ?_ ?_ _) | go_size))⟩))
  · rw [r]; clear r
    have q1 := gcdI_pos (t - b) (a - t) (by omega)
    have q2 : (gcdI (t - b) (a - t) == 0) = false := by simp; omega
    go_enter Try.func19, Try.ntmps19
    go_wp2_with (first | (go_at_call 46; refine (l1In_c _ _ _ _).mono ?_; rintro e w' ⟨rfl, rfl⟩) | (go_at_call 49; refine (l3Common_c _ _ _ (by omega) (by omega) (by omega) (by omega)).mono ?_; rintro e w' ⟨rfl, rfl⟩))
    go_quiet (fail)
    go_wp2
    (go_returns; exact ⟨by first | rfl | (simp; done) | (simp; omega), by (repeat' (first | (with_reducible exact Below.refl _ _) | (with_reducible assumption) | (with_reducible refine below_drewN ?_ _) | (with_reducible refine Below.alloc ?_ ?_ _) | (with_reducible refine Below.drew ?_) | (with_reducible refine Below.setCell ?_ ?_ _) | go_size))⟩)
  · rw [r]; clear r
    have k1 : b - t = -(t - b) := by omega
    have k2 : t - a = -(a - t) := by omega
    have q1 := gcdI_pos (b - t) (t - a) (by omega)
    rw [k1, k2] at q1 ⊢
    clear k1 k2
    have q2 : (gcdI (-(t - b)) (-(a - t)) == 0) = false := by simp; omega
    go_enter Try.func19, Try.ntmps19
    go_wp2_with (first | (go_at_call 46; refine (l1In_c _ _ _ _).mono ?_; rintro e w' ⟨rfl, rfl⟩) | (go_at_call 49; refine (l3Common_c _ _ _ (by omega) (by omega) (by omega) (by omega)).mono ?_; rintro e w' ⟨rfl, rfl⟩))
    have n1 : 0 ≤ -(t - b) := by omega
    have n2 : 1 ≤ -(a - t) := by omega
    have n3 : -(t - b) ≤ 10000 := by omega
    have n4 : -(a - t) ≤ 10000 := by omega
    generalize hx : -(t - b) = x at *
    generalize hy : -(a - t) = y at *
    have HX := Lib.hid hx
    have HY := Lib.hid hy
    clear hx hy
    go_quiet (fail)
    go_wp2
    (go_returns; exact ⟨by rw [HX.out, HY.out]; rfl, by (repeat' (first | (with_reducible exact Below.refl _ _) | (with_reducible assumption) | (with_reducible refine below_drewN ?_ _) | (with_reducible refine Below.alloc ?_ ?_ _) | (with_reducible refine Below.drew ?_) | (with_reducible refine Below.setCell ?_ ?_ _) | go_size))⟩)
theorem mixShares_law (a b t : Int) (w : World) : Calls Try.prog 5 #[.int .i64 a, .int .i64 b, .int .i64 t] w fun e w' => e = .returned (.bool true) ∧ Below w.heap.size w w' := by
  go_enter Try.func5, Try.ntmps5
  go_wp2_with (first | (go_at_call 19; refine (specMix_c _ _ _ _).mono ?_; rintro e w1 ⟨rfl, hb1⟩; have hz1 := hb1.size; (repeat (first | rw [World.size_alloc] at hz1 | rw [World.size_drew] at hz1 | rw [World.heap_drewN] at hz1 | rw [World.size_setCell] at hz1)); have hB : Below w.heap.size w w1 := Below.trans (by (repeat' (first | (with_reducible exact Below.refl _ _) | (with_reducible assumption) | (with_reducible refine below_drewN ?_ _) | (with_reducible refine Below.alloc ?_ ?_ _) | (with_reducible refine Below.drew ?_) | (with_reducible refine Below.setCell ?_ ?_ _) | go_size))) (hb1.mono (by go_size)); have hL1 := hb1; clear hb1; obtain ⟨hc1, hf1⟩ := bcell hL1) | (go_at_call 20; refine (implMix_c _ _ _ _).mono ?_; rintro e w2 ⟨rfl, hb2⟩; have hz2 := hb2.size; (repeat (first | rw [World.size_alloc] at hz2 | rw [World.size_drew] at hz2 | rw [World.heap_drewN] at hz2 | rw [World.size_setCell] at hz2)); replace hB : Below w.heap.size w w2 := Below.trans (by (repeat' (first | (with_reducible exact Below.refl _ _) | (with_reducible assumption) | (with_reducible refine below_drewN ?_ _) | (with_reducible refine Below.alloc ?_ ?_ _) | (with_reducible refine Below.drew ?_) | (with_reducible refine Below.setCell ?_ ?_ _) | go_size))) (hb2.mono (by go_size)); (first | (refine extend_then hL1 hb2 ?_ ?_ (fun hq => ?_); (focus ((repeat' (first | (with_reducible exact Below.refl _ _) | (with_reducible assumption) | (with_reducible refine below_drewN ?_ _) | (with_reducible refine Below.alloc ?_ ?_ _) | (with_reducible refine Below.drew ?_) | (with_reducible refine Below.setCell ?_ ?_ _) | go_size)); done)); (focus (go_size; done)); replace hL1 := hq; clear hq hc1 hf1; obtain ⟨hc1, hf1⟩ := bcell hL1) | (clear hL1 hc1 hf1) | skip); have hL2 := hb2; clear hb2; obtain ⟨hc2, hf2⟩ := bcell hL2))
  (go_returns; exact ⟨by first | rfl | (simp; done) | (simp; omega), by (repeat' (first | (with_reducible exact Below.refl _ _) | (with_reducible assumption) | (with_reducible refine below_drewN ?_ _) | (with_reducible refine Below.alloc ?_ ?_ _) | (with_reducible refine Below.drew ?_) | (with_reducible refine Below.setCell ?_ ?_ _) | go_size))⟩)
end Go.Proofs.Ytbcgcpdnmpejlaa
