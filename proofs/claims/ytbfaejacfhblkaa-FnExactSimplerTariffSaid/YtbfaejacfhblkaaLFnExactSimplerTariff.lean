/- SimplerTariff of the program returns what that of the reference returns. No condition: every input. -/
import Derived.Test.YtbfaejacfhblkaaTTar
import Derived.Test.YtbfaejacfhblkaaTLawZ
namespace Go.Proofs.Ytbfaejacfhblkaa
open Go.ChangeShapes Go.WideShapes Go.ChangeAt Go.RowKit Go.Joins

set_option maxRecDepth 100000 in
theorem fnExactSimplerTariff_lifted (os : Os) (started : os.Started) (H : Type) (enc : TypeId × Value → H) :
    ReturnsInHanded {} Try.checked os 7 .any (Rows.fnExactSimplerTariffSpec.pre6 enc Try.prog Try.f7 Rows.fnExactSimplerTariffRow.domain false) (Rows.fnExactSimplerTariffSpec.post enc Try.prog Try.f7 false true false false) := by
  refine law_lift (C := Try.checked) 1 Try.own started (by kernel_rfl) Try.func7
    (ChangeSpec.witness6 (enc := enc) (C := Try.checked) false ⟨#[], #[.agg #[.int .i64 0, .slice none 0 0]], []⟩ 8 (by kernel_rfl) (by kernel_rfl) (by kernel_rfl) (by kernel_rfl))
    rfl Try.laid (by kernel_rfl) rfl Try.underlying4 rfl (fun ds h => by match ds, h with | [_], _ => rfl) ?_
  intro W base args ds p hval0 hA0 _
  have hval : ∀ (j : Nat) t v, Try.f7.params[j]? = some t → args[j]? = some v → Value.okWide Try.prog W .any base t v := hval0
  have hA : DataW.TrodAll enc Try.prog W 0 (fun _ => true) true Try.f7.params.toList args.toList ds p := hA0
  rw [Try.params7] at hA hval
  obtain ⟨v0, d0, rfl, rfl, h0⟩ := trodAll_one hA
  obtain ⟨aF, aA, ac, ax, rfl, ah, am⟩ := open_tar (hval 0 _ v0 rfl rfl) h0
  exact simplerTariff_law aF aA ac ax W ah am

theorem fnExactSimplerTariff_holds : Rows.FnExactSimplerTariffSaid :=
  OpenClaim.holds_of_wide 7 Try.f7 rfl rfl rfl rfl rfl rfl rfl ⟨rfl, rfl, rfl, rfl, rfl⟩ rfl rfl rfl rfl rfl (by kernel_rfl) Try.func7 (by kernel_rfl)
    (of_decide_eq_true (by kernel_rfl)) (by unfold Func.isWrapper; first | (rw [if_pos (by decide +kernel)]; kernel_rfl) | (rw [if_neg (by decide +kernel)]; exact ⟨rfl, rfl⟩))
    (fun os started H enc _ => fnExactSimplerTariff_lifted os started H enc)
end Go.Proofs.Ytbfaejacfhblkaa
