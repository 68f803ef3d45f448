/- Bytes among the arguments, opened. -/
import Derived.Test.YtbfaejacfhblkaaOpenS
import Derived.Test.YtbfaejacfhblkaaCur
namespace Go.Proofs.Ytbfaejacfhblkaa
open Go.ChangeShapes Go.WideShapes Go.ChangeAt Go.RowKit Go.Joins

theorem cellsByte : Try.prog.cellsOf 5 = 1 := by kernel_rfl
section
variable {H : Type} {enc : TypeId × Value → H} {W : World} {base : Nat} {hd : Bool}
theorem open_code {v : Value} {d : DataW H} {p : List MemPlace} (hv : Value.okWide Try.prog W .any base 51 v) (h : DataW.Trod enc Try.prog W 0 (fun _ => true) hd 51 v d p) :
    ∃ (A : Option Addr) (n c : Nat), v = .slice A n c ∧ RdB W W.heap.size A n := by
  obtain ⟨a0, len, cap, rfl⟩ := okWide_slice Try.underlying51 hv
  obtain ⟨fuel, hf⟩ := h
  refine ⟨a0, len, cap, rfl, ?_⟩
  rcases open_ints Try.underlying51 Try.underlying5 cellsByte hf with ⟨hcs, _⟩ | ⟨a, len', cap', zs, hcs, _, hl, hm, hz, _, hcell, hwz⟩
  · cases hcs
    exact fun h => absurd h (by omega)
  · simp at hz
    cases hcs
    intro hp
    obtain ⟨b, off, rfl, hc⟩ := ints_at hcell (by omega)
    refine ⟨b, off, rfl, ?_, fun j hj => ?_⟩
    · have h0 := hc 0 (by omega)
      exact lt_of_cell (w := W) (a := ⟨b, off + 0, none⟩) (by rw [h0]; rfl)
    · have hj2 : j < zs.length := by omega
      have hm2 : zs.getD j 0 ∈ zs := by simp [List.getD_eq_getElem?_getD, hj2]
      have wx := hwz _ hm2
      have hx := hc j (by omega)
      generalize zs.getD j 0 = x at *
      simp [Lit.wf, IntKind.min, IntKind.max, IntKind.signed, IntKind.bits] at wx
      exact ⟨x, by omega, by omega, hx⟩
end
end Go.Proofs.Ytbfaejacfhblkaa
