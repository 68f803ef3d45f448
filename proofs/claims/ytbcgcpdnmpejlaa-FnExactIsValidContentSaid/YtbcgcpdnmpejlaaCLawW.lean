/- The laws on contents, walked. -/
import Derived.Test.YtbcgcpdnmpejlaaCWalk
namespace Go.Proofs.Ytbcgcpdnmpejlaa
open Go.RowKit

theorem isValidContent_law (V N D : Int) (w : World) : Calls Try.prog 3 #[.agg #[.int .i64 V, .int .i64 N, .int .i64 D]] w fun e w' => e = .returned (.bool true) ∧ Below w.heap.size w w' := by
  go_enter Try.func3, Try.ntmps3
  go_wp2_with fail; (go_at_call 15; refine (toContent_c _ _ _ _).mono ?_; rintro e w1 ⟨rfl, hb1⟩; obtain ⟨hc1, hf1⟩ := bcell hb1; have hz1 := hb1.size; (try simp only [World.size_alloc] at hz1); have hB1 : Below w.heap.size w w1 := Below.trans (by go_grown) (hb1.mono (by go_size)); (try have hx1 : w.heap.size < w1.heap.size := by omega); (try have hy1 : w.heap.size + 1 < w1.heap.size := by omega); (try have hw1 : w.heap.size + 2 < w1.heap.size := by omega))
  go_wp2_with fail; (go_at_call 14; refine (specGood_c _ _ _ _).mono ?_; rintro e w2 ⟨rfl, hb2⟩; obtain ⟨hc2, hf2⟩ := bcell hb2; have hz2 := hb2.size; (try simp only [World.size_alloc] at hz2); have hB2 : Below w.heap.size w w2 := Below.trans (by go_grown) (hb2.mono (by go_size)); (try have hx2 : w.heap.size < w2.heap.size := by omega); (try have hy2 : w.heap.size + 1 < w2.heap.size := by omega); (try have hw2 : w.heap.size + 2 < w2.heap.size := by omega))
  go_wp2_with fail; (go_at_call 15; refine (toContent_c _ _ _ _).mono ?_; rintro e w3 ⟨rfl, hb3⟩; obtain ⟨hc3, hf3⟩ := bcell hb3; have hz3 := hb3.size; (try simp only [World.size_alloc] at hz3); have hB3 : Below w.heap.size w w3 := Below.trans (by go_grown) (hb3.mono (by go_size)); (try have hx3 : w.heap.size < w3.heap.size := by omega); (try have hy3 : w.heap.size + 1 < w3.heap.size := by omega); (try have hw3 : w.heap.size + 2 < w3.heap.size := by omega))
  go_wp2_with fail; (go_at_call 16; refine (implGood_c _ _ _ _).mono ?_; rintro e w4 ⟨rfl, hb4⟩; obtain ⟨hc4, hf4⟩ := bcell hb4; have hz4 := hb4.size; (try simp only [World.size_alloc] at hz4); have hB4 : Below w.heap.size w w4 := Below.trans (by go_grown) (hb4.mono (by go_size)); (try have hx4 : w.heap.size < w4.heap.size := by omega); (try have hy4 : w.heap.size + 1 < w4.heap.size := by omega); (try have hw4 : w.heap.size + 2 < w4.heap.size := by omega))
  go_wp2
  go_ret
  exact ⟨rfl, by go_grown⟩
end Go.Proofs.Ytbcgcpdnmpejlaa
