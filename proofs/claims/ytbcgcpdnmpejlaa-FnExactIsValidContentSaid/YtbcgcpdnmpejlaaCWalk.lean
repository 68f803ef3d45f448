/- Contracts of the functions on contents. -/
import Derived.Test.YtbcgcpdnmpejlaaBase
import Derived.Test.YtbcgcpdnmpejlaaCPlain
namespace Go.Proofs.Ytbcgcpdnmpejlaa
open Go.RowKit

theorem bcell {W w1 : World} (hb : Below W.heap.size W w1) : (∀ b o, b < W.heap.size → w1.cell? ⟨b, o, none⟩ = W.cell? ⟨b, o, none⟩) ∧ (∀ b o, b < W.heap.size → w1.frozen? ⟨b, o, none⟩ = W.frozen? ⟨b, o, none⟩) :=
  ⟨fun b o h => hb.cell (p := ⟨b, o, none⟩) h, fun b o h => hb.frozen (p := ⟨b, o, none⟩) h⟩
theorem below_drewN {B : Nat} {a w : World} (h : Below B a w) (n : Nat) : Below B a (w.drewN n) := ⟨h.os, h.tape, h.output, h.size, h.block⟩

theorem toContent_c (V N D : Int) (w : World) : Calls Try.prog 15 #[.agg #[.int .i64 V, .int .i64 N, .int .i64 D]] w fun e w' => e = .returned (.agg #[.int .i64 V, .int .i64 N, .int .i64 D]) ∧ Below w.heap.size w w' := by
  go_enter Try.func15, Try.ntmps15
  go_wp2
  go_returns
  exact ⟨rfl, by go_grown⟩

theorem implGood_c (V N D : Int) (w : World) : Calls Try.prog 16 #[.agg #[.int .i64 V, .int .i64 N, .int .i64 D]] w fun e w' => e = .returned (.bool (goodC V N D)) ∧ Below w.heap.size w w' := by
  rcases goodC_ways V N D with ⟨h1, hg⟩ | ⟨h1, h2, hg⟩ | ⟨h1, h2, h3, hg⟩ | ⟨h1, h2, h3, h4, hg⟩ | ⟨h1, h2, h3, h4, h5, hg⟩ | ⟨h1, h2, h3, h4, h5, h6, hg⟩ | ⟨h1, h2, h3, h4, h5, h6, hg⟩
  all_goals
    rw [hg]; clear hg
    try have d2 := inB_out h2
    try have d3 := inB_out h3
    try have h4' : (gcdI N D == 1) = true := by simpa using h4
    try have h4' : (gcdI N D == 1) = false := by simpa using h4
    try clear h4
    try have h6' : (N == 0) = false := by simpa using h6
    try subst h6
    go_enter Try.func16, Try.ntmps16
    go_wp2_with (first
      | (go_at_call 44; refine (inside_c _ _ _ _).mono ?_; rintro e w' ⟨rfl, rfl⟩)
      | (go_at_call 45; refine (gcdOf_c _ _ _ (by omega) (by omega) (by omega) (by omega)).mono ?_; rintro e w' ⟨rfl, n, rfl⟩))
    go_ret
    exact ⟨by first | rfl | (simp; omega) | (simp [h6']; omega), by first | (go_grown; done) | exact below_drewN (by go_grown) _⟩
theorem l16Good_c (V N D : Int) (w : World) : Calls Try.prog 43 #[.agg #[.int .i64 V, .int .i64 N, .int .i64 D]] w fun e w' => e = .returned (.bool (goodC V N D)) ∧ Below w.heap.size w w' := by
  rcases goodC_ways V N D with ⟨h1, hg⟩ | ⟨h1, h2, hg⟩ | ⟨h1, h2, h3, hg⟩ | ⟨h1, h2, h3, h4, hg⟩ | ⟨h1, h2, h3, h4, h5, hg⟩ | ⟨h1, h2, h3, h4, h5, h6, hg⟩ | ⟨h1, h2, h3, h4, h5, h6, hg⟩
  all_goals
    rw [hg]; clear hg
    try have d2 := inB_out h2
    try have d3 := inB_out h3
    try have h4' : (gcdI N D == 1) = true := by simpa using h4
    try have h4' : (gcdI N D == 1) = false := by simpa using h4
    try clear h4
    try have h6' : (N == 0) = false := by simpa using h6
    try subst h6
    go_enter Try.func43, Try.ntmps43
    go_wp2_with (first
      | (go_at_call 46; refine (l1In_c _ _ _ _).mono ?_; rintro e w' ⟨rfl, rfl⟩)
      | (go_at_call 49; refine (l3Common_c _ _ _ (by omega) (by omega) (by omega) (by omega)).mono ?_; rintro e w' ⟨rfl, rfl⟩))
    go_ret
    exact ⟨by first | rfl | (simp; omega) | (simp [h6']; omega), by first | (go_grown; done) | exact below_drewN (by go_grown) _⟩

theorem specGood_c (V N D : Int) (w : World) : Calls Try.prog 14 #[.agg #[.int .i64 V, .int .i64 N, .int .i64 D]] w fun e w' => e = .returned (.bool (goodC V N D)) ∧ Below w.heap.size w w' := by
  go_enter Try.func14, Try.ntmps14
  go_wp2_with fail; (go_at_call 43; refine (l16Good_c _ _ _ _).mono ?_; rintro e w1 ⟨rfl, hb1⟩; obtain ⟨hc1, hf1⟩ := bcell hb1; have hz1 := hb1.size; (try simp only [World.size_alloc] at hz1); have hB1 : Below w.heap.size w w1 := Below.trans (by go_grown) (hb1.mono (by go_size)); (try have hx1 : w.heap.size < w1.heap.size := by omega); (try have hy1 : w.heap.size + 1 < w1.heap.size := by omega); (try have hw1 : w.heap.size + 2 < w1.heap.size := by omega))
  go_wp2
  go_ret
  exact ⟨rfl, by go_grown⟩

end Go.Proofs.Ytbcgcpdnmpejlaa
