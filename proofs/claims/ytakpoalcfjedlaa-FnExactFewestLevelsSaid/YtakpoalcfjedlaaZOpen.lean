/- A rule among the arguments, opened. -/
import Derived.Test.YtakpoalcfjedlaaOpenS
namespace Go.Proofs.Ytakpoalcfjedlaa
open Go.ChangeShapes Go.WideShapes Go.ChangeAt Go.RowKit Go.Joins

theorem cellsRule : Try.prog.cellsOf 30 = 2 := by kernel_rfl
theorem open_rule {H : Type} {enc : TypeId × Value → H} {W : World} {base : Nat} {v : Value} {d : DataW H} {p : List MemPlace} (hv : Value.okWide Try.prog W .any base 30 v) (h : DataW.Trod enc Try.prog W 0 (fun _ => true) true 30 v d p) :
    ∃ L M : Int, v = .agg #[.int .i64 L, .int .i64 M] ∧ (-9223372036854775808 ≤ L ∧ L ≤ 9223372036854775807) ∧ (-9223372036854775808 ≤ M ∧ M ≤ 9223372036854775807) := by
  obtain ⟨v0, v1, y0, y1, n, rfl, _, _, h0, h1⟩ := open_agg2 Try.underlying30 (by kernel_rfl) cellsRule hv h
  obtain ⟨L, rfl, a⟩ := open_ci h0
  obtain ⟨M, rfl, b⟩ := open_ci h1
  exact ⟨L, M, rfl, a, b⟩
end Go.Proofs.Ytakpoalcfjedlaa
