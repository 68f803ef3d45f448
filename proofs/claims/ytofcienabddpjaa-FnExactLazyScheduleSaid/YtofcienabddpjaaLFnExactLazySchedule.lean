/- LazySchedule of the program returns what that of the reference returns. No condition: every input. -/
import Derived.Test.YtofcienabddpjaaUOpen
import Derived.Test.YtofcienabddpjaaULawY
namespace Go.Proofs.Ytofcienabddpjaa
open Go.ChangeShapes Go.WideShapes Go.ChangeAt Go.RowKit Go.Joins

set_option maxRecDepth 100000 in
theorem fnExactLazySchedule_lifted (os : Os) (started : os.Started) (H : Type) (enc : TypeId × Value → H) :
    ReturnsInHanded {} Try.checked os 10 .any (Rows.fnExactLazyScheduleSpec.pre6 enc Try.prog Try.f10 Rows.fnExactLazyScheduleRow.domain false) (Rows.fnExactLazyScheduleSpec.post enc Try.prog Try.f10 false true false false) := by
  refine law_lift (C := Try.checked) 1 Try.own started (by kernel_rfl) Try.func10
    (ChangeSpec.witness6 (enc := enc) (C := Try.checked) false ⟨#[], #[.agg #[.int .i64 0, .int .i64 0, .int .i64 0, .int .i64 0, .slice none 0 0, .slice none 0 0]], []⟩ 8 (by kernel_rfl) (by kernel_rfl) (by kernel_rfl) (by kernel_rfl))
    rfl Try.laid (by kernel_rfl) rfl Try.underlying4 rfl (fun ds h => by match ds, h with | [_], _ => rfl) ?_
  intro W base args ds p hval0 hA0 _
  have hval : ∀ (j : Nat) t v, Try.f10.params[j]? = some t → args[j]? = some v → Value.okWide Try.prog W .any base t v := hval0
  have hA : DataW.TrodAll enc Try.prog W 0 (fun _ => true) true Try.f10.params.toList args.toList ds p := hA0
  rw [Try.params10] at hA hval
  obtain ⟨v0, d0, rfl, rfl, h0⟩ := trodAll_one hA
  obtain ⟨aL, aE, aM, aP, aA, aD, ac, ad, ax, ay, rfl, ah, ai, am, ak⟩ := open_pumping (hval 0 _ v0 rfl rfl) h0
  exact lazySchedule_law aL aE aM aP aA aD ac ad ax ay W ah ai am ak

theorem fnExactLazySchedule_holds : Rows.FnExactLazyScheduleSaid :=
  OpenClaim.holds_of_wide 10 Try.f10 rfl rfl rfl rfl rfl rfl rfl ⟨rfl, rfl, rfl, rfl, rfl⟩ rfl rfl rfl rfl rfl (by kernel_rfl) Try.func10 (by kernel_rfl)
    (of_decide_eq_true (by kernel_rfl)) (by unfold Func.isWrapper; first | (rw [if_pos (by decide +kernel)]; kernel_rfl) | (rw [if_neg (by decide +kernel)]; exact ⟨rfl, rfl⟩))
    (fun os started H enc _ => fnExactLazySchedule_lifted os started H enc)
end Go.Proofs.Ytofcienabddpjaa
