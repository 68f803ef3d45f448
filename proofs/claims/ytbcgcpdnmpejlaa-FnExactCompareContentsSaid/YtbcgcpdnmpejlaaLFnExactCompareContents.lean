/- CompareContents of the program returns what that of the reference returns. No condition: every input. -/
import Derived.Test.YtbcgcpdnmpejlaaCOpen
import Derived.Test.YtbcgcpdnmpejlaaCCmp
namespace Go.Proofs.Ytbcgcpdnmpejlaa
open Go.ChangeShapes Go.WideShapes Go.ChangeAt Go.RowKit Go.Joins

set_option maxRecDepth 100000 in
theorem fnExactCompareContents_lifted (os : Os) (started : os.Started) (H : Type) (enc : TypeId × Value → H) :
    ReturnsInHanded {} Try.checked os 10 .any (Rows.fnExactCompareContentsSpec.pre6 enc Try.prog Try.f10 Rows.fnExactCompareContentsRow.domain false) (Rows.fnExactCompareContentsSpec.post enc Try.prog Try.f10 false true false false) := by
  refine law_lift (C := Try.checked) 2 Try.own started (by kernel_rfl) Try.func10
    (ChangeSpec.witness6 (enc := enc) (C := Try.checked) false ⟨#[], #[.agg #[.int .i64 0, .int .i64 0, .int .i64 0], .agg #[.int .i64 0, .int .i64 0, .int .i64 0]], []⟩ 8 (by kernel_rfl) (by kernel_rfl) (by kernel_rfl) (by kernel_rfl))
    rfl Try.laid (by kernel_rfl) rfl Try.underlying4 rfl (fun ds h => by match ds, h with | [_, _], _ => rfl) ?_
  intro W base args ds p hval0 hA0 _
  have hval : ∀ (j : Nat) t v, Try.f10.params[j]? = some t → args[j]? = some v → Value.okWide Try.prog W .any base t v := hval0
  have hA : DataW.TrodAll enc Try.prog W 0 (fun _ => true) true Try.f10.params.toList args.toList ds p := hA0
  rw [Try.params10] at hA hval
  obtain ⟨v0, v1, d0, d1, p0, p1, rfl, rfl, rfl, h0, h1⟩ := trodAll_two hA
  obtain ⟨aV, aN, aD, rfl, ⟨aV1, aV2⟩, ⟨aN1, aN2⟩, ⟨aD1, aD2⟩⟩ := open_content (hval 0 _ v0 rfl rfl) h0
  obtain ⟨bV, bN, bD, rfl, ⟨bV1, bV2⟩, ⟨bN1, bN2⟩, ⟨bD1, bD2⟩⟩ := open_content (hval 1 _ v1 rfl rfl) h1
  exact compareContents_law aV aN aD bV bN bD W

theorem fnExactCompareContents_holds : Rows.FnExactCompareContentsSaid :=
  OpenClaim.holds_of_wide 10 Try.f10 rfl rfl rfl rfl rfl rfl rfl ⟨rfl, rfl, rfl, rfl, rfl⟩ rfl rfl rfl rfl rfl (by kernel_rfl) Try.func10 (by kernel_rfl)
    (of_decide_eq_true (by kernel_rfl)) (by unfold Func.isWrapper; first | (rw [if_pos (by decide +kernel)]; kernel_rfl) | (rw [if_neg (by decide +kernel)]; exact ⟨rfl, rfl⟩))
    (fun os started H enc _ => fnExactCompareContents_lifted os started H enc)
end Go.Proofs.Ytbcgcpdnmpejlaa
