/- FewestLevels of the program returns what that of the reference returns. No condition: every input. -/
import Derived.Test.YtakpoalcfjedlaaZOpen
import Derived.Test.YtakpoalcfjedlaaZLawF
namespace Go.Proofs.Ytakpoalcfjedlaa
open Go.ChangeShapes Go.WideShapes Go.ChangeAt Go.RowKit Go.Joins

set_option maxRecDepth 100000 in
theorem fnExactFewestLevels_lifted (os : Os) (started : os.Started) (H : Type) (enc : TypeId × Value → H) :
    ReturnsInHanded {} Try.checked os 9 .any (Rows.fnExactFewestLevelsSpec.pre6 enc Try.prog Try.f9 Rows.fnExactFewestLevelsRow.domain false) (Rows.fnExactFewestLevelsSpec.post enc Try.prog Try.f9 false true false false) := by
  refine law_lift (C := Try.checked) 2 Try.own started (by kernel_rfl) Try.func9
    (ChangeSpec.witness6 (enc := enc) (C := Try.checked) false ⟨#[], #[.slice none 0 0, .agg #[.int .i64 0, .int .i64 0]], []⟩ 8 (by kernel_rfl) (by kernel_rfl) (by kernel_rfl) (by kernel_rfl))
    rfl Try.laid (by kernel_rfl) rfl Try.underlying4 rfl (fun ds h => by match ds, h with | [_, _], _ => rfl) ?_
  intro W base args ds p hval0 hA0 _
  have hval : ∀ (j : Nat) t v, Try.f9.params[j]? = some t → args[j]? = some v → Value.okWide Try.prog W .any base t v := hval0
  have hA : DataW.TrodAll enc Try.prog W 0 (fun _ => true) true Try.f9.params.toList args.toList ds p := hA0
  rw [Try.params9] at hA hval
  obtain ⟨v0, v1, d0, d1, p0, p1, rfl, rfl, rfl, h0, h1⟩ := trodAll_two hA
  obtain ⟨aA, ac, ax, rfl, ah, am, ar⟩ := open_is (hval 0 _ v0 rfl rfl) h0
  obtain ⟨bL, bM, rfl, ⟨bL1, bL2⟩, ⟨bM1, bM2⟩⟩ := open_rule (hval 1 _ v1 rfl rfl) h1
  exact fewestLevels_law aA ac ax bL bM W ah am

theorem fnExactFewestLevels_holds : Rows.FnExactFewestLevelsSaid :=
  OpenClaim.holds_of_wide 9 Try.f9 rfl rfl rfl rfl rfl rfl rfl ⟨rfl, rfl, rfl, rfl, rfl⟩ rfl rfl rfl rfl rfl (by kernel_rfl) Try.func9 (by kernel_rfl)
    (of_decide_eq_true (by kernel_rfl)) (by unfold Func.isWrapper; first | (rw [if_pos (by decide +kernel)]; kernel_rfl) | (rw [if_neg (by decide +kernel)]; exact ⟨rfl, rfl⟩))
    (fun os started H enc _ => fnExactFewestLevels_lifted os started H enc)
end Go.Proofs.Ytakpoalcfjedlaa
