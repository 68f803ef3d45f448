/- Contracts of the functions on contents. -/
import Derived.Test.YtbcgcpdnmpejlaaBase
import Derived.Test.YtbcgcpdnmpejlaaCPlain
namespace Go.Proofs.Ytbcgcpdnmpejlaa
open Go.RowKit

theorem toContent_c (V N D : Int) (w : World) : Calls Try.prog 15 #[.agg #[.int .i64 V, .int .i64 N, .int .i64 D]] w fun e w' => e = .returned (.agg #[.int .i64 V, .int .i64 N, .int .i64 D]) ∧ Below w.heap.size w w' := by
  go_enter Try.func15, Try.ntmps15
  go_wp2
  go_returns
  exact ⟨rfl, by go_grown⟩

theorem implGood_c (V N D : Int) (w : World) : Calls Try.prog 16 #[.agg #[.int .i64 V, .int .i64 N, .int .i64 D]] w fun e w' => e = .returned (.bool (goodC V N D)) ∧ Below w.heap.size w w' := by
  rcases goodC_ways V N D with ⟨h1, hg⟩ | ⟨h1, h2, hg⟩ | ⟨h1, h2, h3, hg⟩ | ⟨h1, h2, h3, h4, hg⟩ | ⟨h1, h2, h3, h4, h5, hg⟩ | ⟨h1, h2, h3, h4, h5, h6, hg⟩ | ⟨h1, h2, h3, h4, h5, h6, hg⟩
  all_goals
    rw [hg]; clear hg
    try have d2 := inB_out h2
    try have d3 := inB_out h3
    try have h4' : (gcdI N D == 1) = true := by simpa using h4
    try have h4' : (gcdI N D == 1) = false := by simpa using h4
    try clear h4
    try have h6' : (N == 0) = false := by simpa using h6
    try subst h6
    go_enter Try.func16, Try.ntmps16
    go_wp2_with (first
      | (go_at_call 44; refine (inside_c _ _ _ _).mono ?_; rintro e w' ⟨rfl, rfl⟩)
      | (go_at_call 45; refine (gcdOf_c _ _ _ (by omega) (by omega) (by omega) (by omega)).mono ?_; rintro e w' ⟨rfl, n, rfl⟩))
    go_ret
    exact ⟨by first | rfl | (simp; omega) | (simp [h6']; omega), by first | (go_grown; done) | exact below_drewN (by go_grown) _⟩
theorem l16Good_c (V N D : Int) (w : World) : Calls Try.prog 43 #[.agg #[.int .i64 V, .int .i64 N, .int .i64 D]] w fun e w' => e = .returned (.bool (goodC V N D)) ∧ Below w.heap.size w w' := by
  rcases goodC_ways V N D with ⟨h1, hg⟩ | ⟨h1, h2, hg⟩ | ⟨h1, h2, h3, hg⟩ | ⟨h1, h2, h3, h4, hg⟩ | ⟨h1, h2, h3, h4, h5, hg⟩ | ⟨h1, h2, h3, h4, h5, h6, hg⟩ | ⟨h1, h2, h3, h4, h5, h6, hg⟩
  all_goals
    rw [hg]; clear hg
    try have d2 := inB_out h2
    try have d3 := inB_out h3
    try have h4' : (gcdI N D == 1) = true := by simpa using h4
    try have h4' : (gcdI N D == 1) = false := by simpa using h4
    try clear h4
    try have h6' : (N == 0) = false := by simpa using h6
    try subst h6
    go_enter Try.func43, Try.ntmps43
    go_wp2_with (first
      | (go_at_call 46; refine (l1In_c _ _ _ _).mono ?_; rintro e w' ⟨rfl, rfl⟩)
      | (go_at_call 49; refine (l3Common_c _ _ _ (by omega) (by omega) (by omega) (by omega)).mono ?_; rintro e w' ⟨rfl, rfl⟩))
    go_ret
    exact ⟨by first | rfl | (simp; omega) | (simp [h6']; omega), by first | (go_grown; done) | exact below_drewN (by go_grown) _⟩

theorem specGood_c (V N D : Int) (w : World) : Calls Try.prog 14 #[.agg #[.int .i64 V, .int .i64 N, .int .i64 D]] w fun e w' => e = .returned (.bool (goodC V N D)) ∧ Below w.heap.size w w' := by
  go_enter Try.func14, Try.ntmps14
  go_wp2_with fail; (go_at_call 43; refine (l16Good_c _ _ _ _).mono ?_; rintro e w1 ⟨rfl, hb1⟩; have hz1 := hb1.size; (repeat (first | rw [World.size_alloc] at hz1 | rw [World.size_drew] at hz1 | rw [World.heap_drewN] at hz1 | rw [World.size_setCell] at hz1)); have hB : Below w.heap.size w w1 := Below.trans (by (repeat' (first | (with_reducible exact Below.refl _ _) | (with_reducible assumption) | (with_reducible refine below_drewN ?_ _) | (with_reducible refine Below.alloc ?_ ?_ _) | (with_reducible refine Below.drew ?_) | (with_reducible refine Below.setCell ?_ ?_ _) | go_size))) (hb1.mono (by go_size)); have hL1 := hb1; clear hb1; obtain ⟨hc1, hf1⟩ := bcell hL1)
  go_wp2
  go_ret
  exact ⟨rfl, by go_grown⟩

end Go.Proofs.Ytbcgcpdnmpejlaa
