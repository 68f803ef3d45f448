/- Plain: what a content of a tank is, and its arithmetic. -/
import Derived.Test.YtbcgcpdnmpejlaaPlain
namespace Go.Proofs.Ytbcgcpdnmpejlaa
/-- A valid content: volume V, mass N / D. -/
def goodC (V N D : Int) : Bool := inB V 0 100 && inB D 1 1000000 && inB N 0 (10000 * D) && (gcdI N D == 1) && (decide (0 < V) || N == 0)
/-- The ways through the test of a content. -/
theorem goodC_ways (V N D : Int) :
    (inB V 0 100 = false ∧ goodC V N D = false) ∨
    (inB V 0 100 = true ∧ inB D 1 1000000 = false ∧ goodC V N D = false) ∨
    (inB V 0 100 = true ∧ inB D 1 1000000 = true ∧ inB N 0 (10000 * D) = false ∧ goodC V N D = false) ∨
    (inB V 0 100 = true ∧ inB D 1 1000000 = true ∧ inB N 0 (10000 * D) = true ∧ gcdI N D ≠ 1 ∧ goodC V N D = false) ∨
    (inB V 0 100 = true ∧ inB D 1 1000000 = true ∧ inB N 0 (10000 * D) = true ∧ gcdI N D = 1 ∧ 0 < V ∧ goodC V N D = true) ∨
    (inB V 0 100 = true ∧ inB D 1 1000000 = true ∧ inB N 0 (10000 * D) = true ∧ gcdI N D = 1 ∧ V ≤ 0 ∧ N = 0 ∧ goodC V N D = true) ∨
    (inB V 0 100 = true ∧ inB D 1 1000000 = true ∧ inB N 0 (10000 * D) = true ∧ gcdI N D = 1 ∧ V ≤ 0 ∧ N ≠ 0 ∧ goodC V N D = false) := by
  unfold goodC
  cases inB V 0 100 <;> cases inB D 1 1000000 <;> cases inB N 0 (10000 * D) <;> simp
  by_cases g : gcdI N D = 1
  · by_cases v : 0 < V
    · simp [g, v]
    · have v' : V ≤ 0 := by omega
      by_cases n : N = 0 <;> simp [g, v, n] <;> omega
  · simp [g]
theorem goodC_out {V N D : Int} (h : goodC V N D = true) : 0 ≤ V ∧ V ≤ 100 ∧ 1 ≤ D ∧ D ≤ 1000000 ∧ 0 ≤ N ∧ N ≤ 10000 * D ∧ gcdI N D = 1 ∧ (0 < V ∨ N = 0) := by
  simp only [goodC, Bool.and_eq_true, Bool.or_eq_true, beq_iff_eq, decide_eq_true_eq] at h
  obtain ⟨⟨⟨⟨h1, h2⟩, h3⟩, h4⟩, h5⟩ := h
  have a := inB_out h1; have b := inB_out h2; have c := inB_out h3
  exact ⟨a.1, a.2, b.1, b.2, c.1, c.2, h4, h5⟩
end Go.Proofs.Ytbcgcpdnmpejlaa
