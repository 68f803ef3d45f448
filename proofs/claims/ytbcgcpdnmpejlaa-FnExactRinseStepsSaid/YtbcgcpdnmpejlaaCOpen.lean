/- A content among the arguments, opened. -/
import Derived.Test.YtbcgcpdnmpejlaaLift
namespace Go.Proofs.Ytbcgcpdnmpejlaa
open Go.ChangeShapes Go.WideShapes Go.ChangeAt Go.RowKit Go.Joins

theorem cellsC : Try.prog.cellsOf 23 = 3 := by kernel_rfl
section
variable {H : Type} {enc : TypeId × Value → H} {W : World} {base : Nat}
theorem open_content {v : Value} {d : DataW H} {p : List MemPlace} (hv : Value.okWide Try.prog W .any base 23 v) (h : DataW.Trod enc Try.prog W 0 (fun _ => true) true 23 v d p) :
    ∃ V N D : Int, v = .agg #[.int .i64 V, .int .i64 N, .int .i64 D] ∧ (-9223372036854775808 ≤ V ∧ V ≤ 9223372036854775807) ∧ (-9223372036854775808 ≤ N ∧ N ≤ 9223372036854775807) ∧ (-9223372036854775808 ≤ D ∧ D ≤ 9223372036854775807) := by
  obtain ⟨v0, v1, v2, y0, y1, y2, n, rfl, _, _, h0, h1, h2⟩ := open_agg3 Try.underlying23 (by kernel_rfl) cellsC hv h
  obtain ⟨V, rfl, a⟩ := open_ci h0
  obtain ⟨N, rfl, b⟩ := open_ci h1
  obtain ⟨D, rfl, c⟩ := open_ci h2
  exact ⟨V, N, D, rfl, a, b, c⟩
end

end Go.Proofs.Ytbcgcpdnmpejlaa
