/- Regions that draw their order, guarded, whose callees make memory of their own: one walk in the order of the text. -/
import Derived.Test.YtbfaejacfhblkaaBase
namespace Go.Proofs.Ytbfaejacfhblkaa
open Go.RowKit

/-- A world behind w0 in which all that was there is as it was. -/
structure After (w0 : World) where
  w : World
  h : Below w0.heap.size w0 w

instance (w0 : World) : Nonempty (After w0) := ⟨⟨w0, Below.refl _ _⟩⟩

theorem wp_region_after {P : Program} {id : Nat} {Q : Exit → Act → World → Prop} {a : Act} {w : World} {l : List Oper} (hm : P.follows .mixedOrders = true) (hB : Region.lexB .any l.toArray = true)
    (h : (∀ (s : After w) (ad : Addr), (w.cell? ad).isSome = true → s.w.cell? ad = w.cell? ad) → wpQuiet P l.toArray (fun w' => ∃ s : After w, w' = s.w) (fun a' => ∀ w', (∃ s : After w, w' = s.w) → Q .normal a' w') l a) : (Code.region id l.toArray true).wp P Q a w := by
  refine wp_region_quiet (C := fun w' => ∃ s : After w, w' = s.w) hm hB ⟨⟨w.drew, (Below.refl _ _).drew⟩, rfl⟩ ?_
  have := h fun s ad hs => s.h.cell (lt_of_cell hs)
  simpa using this
theorem callsAfter {P : Program} {f : FuncId} {args : Array Value} {w0 : World} {s : After w0} {v : Value}
    (h : Calls P f args s.w fun e w' => e = .returned v ∧ Below s.w.heap.size s.w w') : Calls P f args s.w fun e w'' => e = .returned v ∧ ∃ s' : After w0, w'' = s'.w :=
  h.mono fun _ w' hh => ⟨hh.1, ⟨w', s.h.trans (hh.2.mono s.h.size)⟩, rfl⟩
theorem callsAfter_same {P : Program} {f : FuncId} {args : Array Value} {w0 : World} {s : After w0} {v : Value}
    (h : Calls P f args s.w fun e w' => e = .returned v ∧ s.w = w') : Calls P f args s.w fun e w'' => e = .returned v ∧ ∃ s' : After w0, w'' = s'.w :=
  h.mono fun _ _ hh => ⟨hh.1, s, hh.2.symm⟩
theorem callsAfter_drew {P : Program} {f : FuncId} {args : Array Value} {w0 : World} {s : After w0} {v : Value}
    (h : Calls P f args s.w fun e w' => e = .returned v ∧ ∃ n, w' = s.w.drewN n) : Calls P f args s.w fun e w'' => e = .returned v ∧ ∃ s' : After w0, w'' = s'.w :=
  h.mono fun _ w' hh => ⟨hh.1, ⟨w', by obtain ⟨n, rfl⟩ := hh.2; exact below_drewN s.h n⟩, rfl⟩
theorem after_out {w0 w' : World} (h : ∃ s : After w0, w' = s.w) : Below w0.heap.size w0 w' := by
  obtain ⟨s, rfl⟩ := h
  exact s.h
end Go.Proofs.Ytbfaejacfhblkaa
