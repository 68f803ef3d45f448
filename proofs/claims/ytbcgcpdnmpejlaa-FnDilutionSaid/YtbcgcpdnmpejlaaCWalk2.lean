/- Contracts of the functions on fractions and on contents, continued. -/
import Derived.Test.YtbcgcpdnmpejlaaCWalk
namespace Go.Proofs.Ytbcgcpdnmpejlaa
open Go.RowKit

theorem isNaN_c (x : Int) (w : World) : Calls Try.prog 69 #[.int .i64 x] w fun e w' => e = .returned (.bool false) ∧ w = w' := by
  go_enter Try.func69, Try.ntmps69
  go_wp2
  go_ret
  exact ⟨by simp, rfl⟩
theorem compare_c (x y : Int) (w : World) : Calls Try.prog 67 #[.int .i64 x, .int .i64 y] w fun e w' => e = .returned (.int .i64 (cmpI x y)) ∧ w = w' := by
  rcases cmpI_ways x y with ⟨h, e⟩ | ⟨h, e⟩ | ⟨h, e⟩
  all_goals
    rw [e]; clear e
    try subst h
    go_enter Try.func67, Try.ntmps67
    go_wp2_with (go_at_call 69; refine (isNaN_c _ _).mono ?_; rintro e w' ⟨rfl, rfl⟩)
    go_ret
    exact ⟨rfl, rfl⟩

theorem asPart_c (a b : Int) (w : World) (ha1 : 0 ≤ a) (ha2 : a ≤ 1000000000000000000) (hb1 : 0 < b) (hb2 : b ≤ 1000000000000000000) :
    Calls Try.prog 59 #[.int .i64 a, .int .i64 b] w fun e w' => e = .returned (.agg #[.int .i64 (rN a b), .int .i64 (rD a b)]) ∧ Below w.heap.size w w' := by
  go_enter Try.func59, Try.ntmps59
  go_wp2_with (go_at_call 50; refine (lowestTerms_c _ _ _ ha1 ha2 hb1 hb2).mono ?_; rintro e w' ⟨rfl, nd, rfl⟩)
  (go_returns; exact ⟨by first | rfl | (simp; done) | (simp; omega), by (repeat' (first | (with_reducible exact Below.refl _ _) | (with_reducible assumption) | (with_reducible refine below_drewN ?_ _) | (with_reducible refine Below.alloc ?_ ?_ _) | (with_reducible refine Below.drew ?_) | (with_reducible refine Below.setCell ?_ ?_ _) | go_size))⟩)

theorem isLiters_c (n : Int) (w : World) : Calls Try.prog 58 #[.int .i64 n] w fun e w' => e = .returned (.bool (inB n 1 100)) ∧ w = w' := by
  go_enter Try.func58, Try.ntmps58
  go_wp2_with (go_at_call 44; refine (inside_c _ _ _ _).mono ?_; rintro e w' ⟨rfl, rfl⟩)
  go_ret
  exact ⟨rfl, rfl⟩
theorem l16Volume_c (n : Int) (w : World) : Calls Try.prog 57 #[.int .i64 n] w fun e w' => e = .returned (.bool (inB n 1 100)) ∧ w = w' := by
  go_enter Try.func57, Try.ntmps57
  go_wp2_with (go_at_call 46; refine (l1In_c _ _ _ _).mono ?_; rintro e w' ⟨rfl, rfl⟩)
  go_ret
  exact ⟨rfl, rfl⟩
theorem isConcentration_c (n : Int) (w : World) : Calls Try.prog 48 #[.int .i64 n] w fun e w' => e = .returned (.bool (inB n 1 10000)) ∧ w = w' := by
  go_enter Try.func48, Try.ntmps48
  go_wp2_with (go_at_call 44; refine (inside_c _ _ _ _).mono ?_; rintro e w' ⟨rfl, rfl⟩)
  go_ret
  exact ⟨rfl, rfl⟩

theorem concentration_c (V N D : Int) (w : World) (hV : 1 ≤ V) (hV2 : V ≤ 100) (hD : 1 ≤ D) (hD2 : D ≤ 1000000) (hN : 0 ≤ N) (hN2 : N ≤ 10000 * D) :
    Calls Try.prog 53 #[.agg #[.int .i64 V, .int .i64 N, .int .i64 D]] w fun e w' => e = .returned (.agg #[.int .i64 (rN N (D * V)), .int .i64 (rD N (D * V))]) ∧ Below w.heap.size w w' := by
  have hp := mulB (by omega : 0 ≤ D) hD2 (by omega : 0 ≤ V) hV2
  have hq := mulP (by omega : 0 < D) (by omega : 0 < V)
  go_enter Try.func53, Try.ntmps53
  go_wp2_with (go_at_call 59; refine (asPart_c _ _ _ hN (by omega) hq (by omega)).mono ?_; rintro e w1 ⟨rfl, hb1⟩; have hz1 := hb1.size; (repeat (first | rw [World.size_alloc] at hz1 | rw [World.size_drew] at hz1 | rw [World.heap_drewN] at hz1 | rw [World.size_setCell] at hz1)); have hB : Below w.heap.size w w1 := Below.trans (by (repeat' (first | (with_reducible exact Below.refl _ _) | (with_reducible assumption) | (with_reducible refine below_drewN ?_ _) | (with_reducible refine Below.alloc ?_ ?_ _) | (with_reducible refine Below.drew ?_) | (with_reducible refine Below.setCell ?_ ?_ _) | go_size))) (hb1.mono (by go_size)); have hL1 := hb1; clear hb1; obtain ⟨hc1, hf1⟩ := bcell hL1)
  (refine bodyPost_ret (v := .agg #[.int .i64 (rN N (D * V)), .int .i64 (rD N (D * V))]) (by simp (maxDischargeDepth := 3) [results, Try.results53, go_sem, *]) rfl ?_; exact ⟨rfl, by (repeat' (first | (with_reducible exact Below.refl _ _) | (with_reducible assumption) | (with_reducible refine below_drewN ?_ _) | (with_reducible refine Below.alloc ?_ ?_ _) | (with_reducible refine Below.drew ?_) | (with_reducible refine Below.setCell ?_ ?_ _) | go_size))⟩)

theorem plus_c (a b c d : Int) (w : World) (h1 : 0 ≤ a * d) (h2 : a * d ≤ 100000000000000000) (h3 : 0 ≤ c * b) (h4 : c * b ≤ 100000000000000000) (h5 : 0 < b * d) (h6 : b * d ≤ 1000000000000000000) :
    Calls Try.prog 56 #[.agg #[.int .i64 a, .int .i64 b], .agg #[.int .i64 c, .int .i64 d]] w fun e w' => e = .returned (.agg #[.int .i64 (rN (a * d + c * b) (b * d)), .int .i64 (rD (a * d + c * b) (b * d))]) ∧ Below w.heap.size w w' := by
  go_enter Try.func56, Try.ntmps56
  go_wp2_with (go_at_call 59; refine (asPart_c _ _ _ (by omega) (by omega) h5 h6).mono ?_; rintro e w1 ⟨rfl, hb1⟩; have hz1 := hb1.size; (repeat (first | rw [World.size_alloc] at hz1 | rw [World.size_drew] at hz1 | rw [World.heap_drewN] at hz1 | rw [World.size_setCell] at hz1)); have hB : Below w.heap.size w w1 := Below.trans (by (repeat' (first | (with_reducible exact Below.refl _ _) | (with_reducible assumption) | (with_reducible refine below_drewN ?_ _) | (with_reducible refine Below.alloc ?_ ?_ _) | (with_reducible refine Below.drew ?_) | (with_reducible refine Below.setCell ?_ ?_ _) | go_size))) (hb1.mono (by go_size)); have hL1 := hb1; clear hb1; obtain ⟨hc1, hf1⟩ := bcell hL1)
  (refine bodyPost_ret (v := .agg #[.int .i64 (rN (a * d + c * b) (b * d)), .int .i64 (rD (a * d + c * b) (b * d))]) (by simp (maxDischargeDepth := 3) [results, Try.results56, go_sem, *]) rfl ?_; exact ⟨rfl, by (repeat' (first | (with_reducible exact Below.refl _ _) | (with_reducible assumption) | (with_reducible refine below_drewN ?_ _) | (with_reducible refine Below.alloc ?_ ?_ _) | (with_reducible refine Below.drew ?_) | (with_reducible refine Below.setCell ?_ ?_ _) | go_size))⟩)

theorem pcompare_c (a b c d : Int) (w : World) (h1 : 0 ≤ a * d) (h2 : a * d ≤ 1000000000000000000) (h3 : 0 ≤ c * b) (h4 : c * b ≤ 1000000000000000000) :
    Calls Try.prog 60 #[.agg #[.int .i64 a, .int .i64 b], .agg #[.int .i64 c, .int .i64 d]] w fun e w' => e = .returned (.int .i64 (cmpI (a * d) (c * b))) ∧ Below w.heap.size w w' := by
  go_enter Try.func60, Try.ntmps60
  go_wp2_with (go_at_call 67; refine (compare_c _ _ _).mono ?_; rintro e w' ⟨rfl, rfl⟩)
  (go_returns; exact ⟨by first | rfl | (simp; done) | (simp; omega), by (repeat' (first | (with_reducible exact Below.refl _ _) | (with_reducible assumption) | (with_reducible refine below_drewN ?_ _) | (with_reducible refine Below.alloc ?_ ?_ _) | (with_reducible refine Below.drew ?_) | (with_reducible refine Below.setCell ?_ ?_ _) | go_size))⟩)

theorem asContent_c (V n d : Int) (w : World) : Calls Try.prog 55 #[.int .i64 V, .agg #[.int .i64 n, .int .i64 d]] w fun e w' => e = .returned (.tuple #[.agg #[.int .i64 (cOf V n d).1, .int .i64 (cOf V n d).2.1, .int .i64 (cOf V n d).2.2.1], .bool (cOf V n d).2.2.2]) ∧ Below w.heap.size w w' := by
  cases h : goodC V n d
  · rw [cOf_no h]
    go_enter Try.func55, Try.ntmps55
    go_wp2_with (go_at_call 16; refine (implGood_c _ _ _ _).mono ?_; rintro e w1 ⟨rfl, hb1⟩; have hz1 := hb1.size; (repeat (first | rw [World.size_alloc] at hz1 | rw [World.size_drew] at hz1 | rw [World.heap_drewN] at hz1 | rw [World.size_setCell] at hz1)); have hB : Below w.heap.size w w1 := Below.trans (by (repeat' (first | (with_reducible exact Below.refl _ _) | (with_reducible assumption) | (with_reducible refine below_drewN ?_ _) | (with_reducible refine Below.alloc ?_ ?_ _) | (with_reducible refine Below.drew ?_) | (with_reducible refine Below.setCell ?_ ?_ _) | go_size))) (hb1.mono (by go_size)); have hL1 := hb1; clear hb1; obtain ⟨hc1, hf1⟩ := bcell hL1)
    (refine bodyPost_ret (v := .tuple #[.agg #[.int .i64 0, .int .i64 0, .int .i64 0], .bool false]) (by simp (maxDischargeDepth := 3) [results, Try.results55, go_sem, *]) rfl ?_; exact ⟨rfl, by (repeat' (first | (with_reducible exact Below.refl _ _) | (with_reducible assumption) | (with_reducible refine below_drewN ?_ _) | (with_reducible refine Below.alloc ?_ ?_ _) | (with_reducible refine Below.drew ?_) | (with_reducible refine Below.setCell ?_ ?_ _) | go_size))⟩)
  · rw [cOf_yes h]
    go_enter Try.func55, Try.ntmps55
    go_wp2_with (go_at_call 16; refine (implGood_c _ _ _ _).mono ?_; rintro e w1 ⟨rfl, hb1⟩; have hz1 := hb1.size; (repeat (first | rw [World.size_alloc] at hz1 | rw [World.size_drew] at hz1 | rw [World.heap_drewN] at hz1 | rw [World.size_setCell] at hz1)); have hB : Below w.heap.size w w1 := Below.trans (by (repeat' (first | (with_reducible exact Below.refl _ _) | (with_reducible assumption) | (with_reducible refine below_drewN ?_ _) | (with_reducible refine Below.alloc ?_ ?_ _) | (with_reducible refine Below.drew ?_) | (with_reducible refine Below.setCell ?_ ?_ _) | go_size))) (hb1.mono (by go_size)); have hL1 := hb1; clear hb1; obtain ⟨hc1, hf1⟩ := bcell hL1)
    (refine bodyPost_ret (v := .tuple #[.agg #[.int .i64 (V), .int .i64 (n), .int .i64 (d)], .bool true]) (by simp (maxDischargeDepth := 3) [results, Try.results55, go_sem, *]) rfl ?_; exact ⟨rfl, by (repeat' (first | (with_reducible exact Below.refl _ _) | (with_reducible assumption) | (with_reducible refine below_drewN ?_ _) | (with_reducible refine Below.alloc ?_ ?_ _) | (with_reducible refine Below.drew ?_) | (with_reducible refine Below.setCell ?_ ?_ _) | go_size))⟩)

theorem l16Of_c (V n d : Int) (w : World) (ha1 : 0 ≤ n) (ha2 : n ≤ 1000000000000000000) (hd1 : 0 < d) (hd2 : d ≤ 1000000000000000000) : Calls Try.prog 54 #[.int .i64 V, .int .i64 n, .int .i64 d] w fun e w' => e = .returned (.tuple #[.agg #[.int .i64 (ofC V n d).1, .int .i64 (ofC V n d).2.1, .int .i64 (ofC V n d).2.2.1], .bool (ofC V n d).2.2.2]) ∧ Below w.heap.size w w' := by
  unfold ofC
  cases h : goodC V (rN n d) (rD n d)
  · rw [cOf_no h]
    go_enter Try.func54, Try.ntmps54
    go_wp2_with (first | (go_at_call 52; refine (l3Reduce_c _ _ _ ha1 ha2 hd1 hd2).mono ?_; rintro e w' ⟨rfl, nd, rfl⟩) | (go_at_call 43; refine (l16Good_c _ _ _ _).mono ?_; rintro e w1 ⟨rfl, hb1⟩; have hz1 := hb1.size; (repeat (first | rw [World.size_alloc] at hz1 | rw [World.size_drew] at hz1 | rw [World.heap_drewN] at hz1 | rw [World.size_setCell] at hz1)); have hB : Below w.heap.size w w1 := Below.trans (by (repeat' (first | (with_reducible exact Below.refl _ _) | (with_reducible assumption) | (with_reducible refine below_drewN ?_ _) | (with_reducible refine Below.alloc ?_ ?_ _) | (with_reducible refine Below.drew ?_) | (with_reducible refine Below.setCell ?_ ?_ _) | go_size))) (hb1.mono (by go_size)); have hL1 := hb1; clear hb1; obtain ⟨hc1, hf1⟩ := bcell hL1))
    (refine bodyPost_ret (v := .tuple #[.agg #[.int .i64 0, .int .i64 0, .int .i64 0], .bool false]) (by simp (maxDischargeDepth := 3) [results, Try.results54, go_sem, *]) rfl ?_; exact ⟨rfl, by (repeat' (first | (with_reducible exact Below.refl _ _) | (with_reducible assumption) | (with_reducible refine below_drewN ?_ _) | (with_reducible refine Below.alloc ?_ ?_ _) | (with_reducible refine Below.drew ?_) | (with_reducible refine Below.setCell ?_ ?_ _) | go_size))⟩)
  · rw [cOf_yes h]
    go_enter Try.func54, Try.ntmps54
    go_wp2_with (first | (go_at_call 52; refine (l3Reduce_c _ _ _ ha1 ha2 hd1 hd2).mono ?_; rintro e w' ⟨rfl, nd, rfl⟩) | (go_at_call 43; refine (l16Good_c _ _ _ _).mono ?_; rintro e w1 ⟨rfl, hb1⟩; have hz1 := hb1.size; (repeat (first | rw [World.size_alloc] at hz1 | rw [World.size_drew] at hz1 | rw [World.heap_drewN] at hz1 | rw [World.size_setCell] at hz1)); have hB : Below w.heap.size w w1 := Below.trans (by (repeat' (first | (with_reducible exact Below.refl _ _) | (with_reducible assumption) | (with_reducible refine below_drewN ?_ _) | (with_reducible refine Below.alloc ?_ ?_ _) | (with_reducible refine Below.drew ?_) | (with_reducible refine Below.setCell ?_ ?_ _) | go_size))) (hb1.mono (by go_size)); have hL1 := hb1; clear hb1; obtain ⟨hc1, hf1⟩ := bcell hL1))
    (refine bodyPost_ret (v := .tuple #[.agg #[.int .i64 (V), .int .i64 (rN n d), .int .i64 (rD n d)], .bool true]) (by simp (maxDischargeDepth := 3) [results, Try.results54, go_sem, *]) rfl ?_; exact ⟨rfl, by (repeat' (first | (with_reducible exact Below.refl _ _) | (with_reducible assumption) | (with_reducible refine below_drewN ?_ _) | (with_reducible refine Below.alloc ?_ ?_ _) | (with_reducible refine Below.drew ?_) | (with_reducible refine Below.setCell ?_ ?_ _) | go_size))⟩)

theorem eqContent_c (V N D : Int) (w : World) : Calls Try.prog 25 #[.agg #[.int .i64 V, .int .i64 N, .int .i64 D], .agg #[.int .i64 V, .int .i64 N, .int .i64 D]] w fun e w' => e = .returned (.bool true) ∧ Below w.heap.size w w' := by
  go_enter Try.func25, Try.ntmps25
  go_wp2
  go_outline
  (go_returns; exact ⟨by first | rfl | (simp; done) | (simp; omega), by (repeat' (first | (with_reducible exact Below.refl _ _) | (with_reducible assumption) | (with_reducible refine below_drewN ?_ _) | (with_reducible refine Below.alloc ?_ ?_ _) | (with_reducible refine Below.drew ?_) | (with_reducible refine Below.setCell ?_ ?_ _) | go_size))⟩)
end Go.Proofs.Ytbcgcpdnmpejlaa
