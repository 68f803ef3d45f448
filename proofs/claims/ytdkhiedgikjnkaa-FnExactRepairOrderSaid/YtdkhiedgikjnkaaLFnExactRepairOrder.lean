/- RepairOrder of the program returns what that of the reference returns. No condition: every input. -/
import Derived.Test.YtdkhiedgikjnkaaOpenS
import Derived.Test.YtdkhiedgikjnkaaRLaw
namespace Go.Proofs.Ytdkhiedgikjnkaa
open Go.ChangeShapes Go.WideShapes Go.ChangeAt Go.RowKit Go.Joins

set_option maxRecDepth 100000 in
theorem fnExactRepairOrder_lifted (os : Os) (started : os.Started) (H : Type) (enc : TypeId × Value → H) :
    ReturnsInHanded {} Try.checked os 11 .any (Rows.fnExactRepairOrderSpec.pre6 enc Try.prog Try.f11 Rows.fnExactRepairOrderRow.domain false) (Rows.fnExactRepairOrderSpec.post enc Try.prog Try.f11 false true false false) := by
  refine law_lift (C := Try.checked) 2 Try.own started (by kernel_rfl) Try.func11
    (ChangeSpec.witness6 (enc := enc) (C := Try.checked) false ⟨#[], #[.slice none 0 0, .slice none 0 0], []⟩ 8 (by kernel_rfl) (by kernel_rfl) (by kernel_rfl) (by kernel_rfl))
    rfl Try.laid (by kernel_rfl) rfl Try.underlying4 rfl (fun ds h => by match ds, h with | [_, _], _ => rfl) ?_
  intro W base args ds p hval0 hA0 _
  have hval : ∀ (j : Nat) t v, Try.f11.params[j]? = some t → args[j]? = some v → Value.okWide Try.prog W .any base t v := hval0
  have hA : DataW.TrodAll enc Try.prog W 0 (fun _ => true) true Try.f11.params.toList args.toList ds p := hA0
  rw [Try.params11] at hA hval
  obtain ⟨v0, v1, d0, d1, p0, p1, rfl, rfl, rfl, h0, h1⟩ := trodAll_two hA
  obtain ⟨aA, ac, ax, rfl, ah, am, ar⟩ := open_is (hval 0 _ v0 rfl rfl) h0
  obtain ⟨bA, bc, bx, rfl, bh, bm, br⟩ := open_is (hval 1 _ v1 rfl rfl) h1
  exact repairOrder_law aA bA ac bc ax bx W ah bh am bm

theorem fnExactRepairOrder_holds : Rows.FnExactRepairOrderSaid :=
  OpenClaim.holds_of_wide 11 Try.f11 rfl rfl rfl rfl rfl rfl rfl ⟨rfl, rfl, rfl, rfl, rfl⟩ rfl rfl rfl rfl rfl (by kernel_rfl) Try.func11 (by kernel_rfl)
    (of_decide_eq_true (by kernel_rfl)) (by unfold Func.isWrapper; first | (rw [if_pos (by decide +kernel)]; kernel_rfl) | (rw [if_neg (by decide +kernel)]; exact ⟨rfl, rfl⟩))
    (fun os started H enc _ => fnExactRepairOrder_lifted os started H enc)
end Go.Proofs.Ytdkhiedgikjnkaa
