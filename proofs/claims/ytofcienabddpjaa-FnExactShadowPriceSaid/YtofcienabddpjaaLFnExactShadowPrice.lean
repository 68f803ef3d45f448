/- ShadowPrice of the program returns what that of the reference returns. No condition: every input. -/
import Derived.Test.YtofcienabddpjaaUOpen
import Derived.Test.YtofcienabddpjaaULawH
namespace Go.Proofs.Ytofcienabddpjaa
open Go.ChangeShapes Go.WideShapes Go.ChangeAt Go.RowKit Go.Joins

set_option maxRecDepth 100000 in
theorem fnExactShadowPrice_lifted (os : Os) (started : os.Started) (H : Type) (enc : TypeId × Value → H) :
    ReturnsInHanded {} Try.checked os 8 .any (Rows.fnExactShadowPriceSpec.pre6 enc Try.prog Try.f8 Rows.fnExactShadowPriceRow.domain false) (Rows.fnExactShadowPriceSpec.post enc Try.prog Try.f8 false true false false) := by
  refine law_lift (C := Try.checked) 3 Try.own started (by kernel_rfl) Try.func8
    (ChangeSpec.witness6 (enc := enc) (C := Try.checked) false ⟨#[], #[.agg #[.int .i64 0, .int .i64 0, .int .i64 0, .int .i64 0, .slice none 0 0, .slice none 0 0], .int .i64 0, .int .i64 0], []⟩ 8 (by kernel_rfl) (by kernel_rfl) (by kernel_rfl) (by kernel_rfl))
    rfl Try.laid (by kernel_rfl) rfl Try.underlying4 rfl (fun ds h => by match ds, h with | [_, _, _], _ => rfl) ?_
  intro W base args ds p hval0 hA0 _
  have hval : ∀ (j : Nat) t v, Try.f8.params[j]? = some t → args[j]? = some v → Value.okWide Try.prog W .any base t v := hval0
  have hA : DataW.TrodAll enc Try.prog W 0 (fun _ => true) true Try.f8.params.toList args.toList ds p := hA0
  rw [Try.params8] at hA hval
  obtain ⟨v0, v1, v2, d0, d1, d2, p0, p1, p2, rfl, rfl, rfl, h0, h1, h2⟩ := trodAll_three hA
  obtain ⟨aL, aE, aM, aP, aA, aD, ac, ad, ax, ay, rfl, ah, ai, am, ak⟩ := open_pumping (hval 0 _ v0 rfl rfl) h0
  obtain ⟨b, rfl, bl, bh⟩ := open_i (hval 1 _ v1 rfl rfl) h1
  obtain ⟨c, rfl, cl, ch⟩ := open_i (hval 2 _ v2 rfl rfl) h2
  exact shadowPrice_law aL aE aM aP aA aD ac ad ax ay b c W ah ai am ak

theorem fnExactShadowPrice_holds : Rows.FnExactShadowPriceSaid :=
  OpenClaim.holds_of_wide 8 Try.f8 rfl rfl rfl rfl rfl rfl rfl ⟨rfl, rfl, rfl, rfl, rfl⟩ rfl rfl rfl rfl rfl (by kernel_rfl) Try.func8 (by kernel_rfl)
    (of_decide_eq_true (by kernel_rfl)) (by unfold Func.isWrapper; first | (rw [if_pos (by decide +kernel)]; kernel_rfl) | (rw [if_neg (by decide +kernel)]; exact ⟨rfl, rfl⟩))
    (fun os started H enc _ => fnExactShadowPrice_lifted os started H enc)
end Go.Proofs.Ytofcienabddpjaa
