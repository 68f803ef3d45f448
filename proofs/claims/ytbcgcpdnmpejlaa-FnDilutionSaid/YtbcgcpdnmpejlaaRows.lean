/-
  No cell of these rows narrows 'for every input' (looked for: loops, veiled, ifaces, maps, wideKeys, modest, calm, conditions, laid).
  DERIVED. THE GIVEN ROWS OF THIS SEAT. 11 by the template 'for every input the law returns true; each argument reads behind the call as it read before'; 0 by the template 'total and deterministic' (their statements: YtbcgcpdnmpejlaaTotals.lean).
  GIVEN WITH THE SEED: the statements are not yours to turn. If you find one false, say at which input.
  Laid BY PROGRAM, IN A SANDBOX (cutbox-rows.mjs): the forced cells as the released guide's own fill.sh prints them over the translation 2411a2253b8f0b37… (all of the seat's roots in one cut). By AI agents, Wed Nov 11 2026. No macro, syntax, notation, axiom, sorry.
-/
import Derived.Test.YtbcgcpdnmpejlaaChecked
import GoSem.Claim
import GoSem.ClaimJoined
import GoSem.ClaimMapViews
import Derived.JoinedTies
import Derived.KernelRfl
namespace Go.Proofs.Ytbcgcpdnmpejlaa
/- THE CELL 'sum', in the pinned program and in every row, IS THE sha256 OF THE DUMP (.gsa) THAT YtbcgcpdnmpejlaaProg.lean LOADS. Nothing in Lean hashes anything: it is a label: what it is worth is what the hold of that sum in a sandbox is worth. -/
noncomputable def Try.pinned : Pinned := { name := "ytbcgcpdnmpejlaa", sum := "2411a2253b8f0b3776b66f3c3185a9a2301524392b61dcc0aff0d28d46e11a1a", checked := Try.checked }
namespace Rows
def none {H : Type} : Left H := { results := [], args := [] }

/-- 'laws.FnExactIsValidContent': WHATEVER THE INPUT: true; the input reads as it did. -/
def fnExactIsValidContentSpec : ChangeSpec := { name := "fnExactIsValidContent", fn := fun _ => fun
  | [d] => { results := [.lit (.bool true)], args := [d] }
  | _ => none }
def fnExactIsValidContentRow : OpenClaim := { program := "ytbcgcpdnmpejlaa", sum := "2411a2253b8f0b3776b66f3c3185a9a2301524392b61dcc0aff0d28d46e11a1a", func := "loop.example/g00853/laws.FnExactIsValidContent", spec := "fnExactIsValidContent", apart := false }
def FnExactIsValidContentSaid : Prop := fnExactIsValidContentRow.holds Try.pinned (OpenSpec.ofChange fnExactIsValidContentSpec)

/-- ITS FALSE NEIGHBOUR: 'it returns false'. Refute it at one input. -/
def fnExactIsValidContentWrong : ChangeSpec := { name := "fnExactIsValidContent", fn := fun _ => fun
  | [d] => { results := [.lit (.bool false)], args := [d] }
  | _ => none }
def FnExactIsValidContentWrongFalsely : Prop := fnExactIsValidContentRow.holds Try.pinned (OpenSpec.ofChange fnExactIsValidContentWrong)

/-- 'laws.FnExactDiluteTo': WHATEVER THE INPUT: true; the input reads as it did. -/
def fnExactDiluteToSpec : ChangeSpec := { name := "fnExactDiluteTo", fn := fun _ => fun
  | [d1, d2] => { results := [.lit (.bool true)], args := [d1, d2] }
  | _ => none }
def fnExactDiluteToRow : OpenClaim := { program := "ytbcgcpdnmpejlaa", sum := "2411a2253b8f0b3776b66f3c3185a9a2301524392b61dcc0aff0d28d46e11a1a", func := "loop.example/g00853/laws.FnExactDiluteTo", spec := "fnExactDiluteTo", apart := false }
def FnExactDiluteToSaid : Prop := fnExactDiluteToRow.holds Try.pinned (OpenSpec.ofChange fnExactDiluteToSpec)

/-- ITS FALSE NEIGHBOUR: 'it returns false'. Refute it at one input. -/
def fnExactDiluteToWrong : ChangeSpec := { name := "fnExactDiluteTo", fn := fun _ => fun
  | [d1, d2] => { results := [.lit (.bool false)], args := [d1, d2] }
  | _ => none }
def FnExactDiluteToWrongFalsely : Prop := fnExactDiluteToRow.holds Try.pinned (OpenSpec.ofChange fnExactDiluteToWrong)

/-- 'laws.FnExactMixShares': WHATEVER THE INPUT: true; the input reads as it did. -/
def fnExactMixSharesSpec : ChangeSpec := { name := "fnExactMixShares", fn := fun _ => fun
  | [d1, d2, d3] => { results := [.lit (.bool true)], args := [d1, d2, d3] }
  | _ => none }
def fnExactMixSharesRow : OpenClaim := { program := "ytbcgcpdnmpejlaa", sum := "2411a2253b8f0b3776b66f3c3185a9a2301524392b61dcc0aff0d28d46e11a1a", func := "loop.example/g00853/laws.FnExactMixShares", spec := "fnExactMixShares", apart := false }
def FnExactMixSharesSaid : Prop := fnExactMixSharesRow.holds Try.pinned (OpenSpec.ofChange fnExactMixSharesSpec)

/-- ITS FALSE NEIGHBOUR: 'it returns false'. Refute it at one input. -/
def fnExactMixSharesWrong : ChangeSpec := { name := "fnExactMixShares", fn := fun _ => fun
  | [d1, d2, d3] => { results := [.lit (.bool false)], args := [d1, d2, d3] }
  | _ => none }
def FnExactMixSharesWrongFalsely : Prop := fnExactMixSharesRow.holds Try.pinned (OpenSpec.ofChange fnExactMixSharesWrong)

/-- 'laws.FnExactConcentrationOf': WHATEVER THE INPUT: true; the input reads as it did. -/
def fnExactConcentrationOfSpec : ChangeSpec := { name := "fnExactConcentrationOf", fn := fun _ => fun
  | [d] => { results := [.lit (.bool true)], args := [d] }
  | _ => none }
def fnExactConcentrationOfRow : OpenClaim := { program := "ytbcgcpdnmpejlaa", sum := "2411a2253b8f0b3776b66f3c3185a9a2301524392b61dcc0aff0d28d46e11a1a", func := "loop.example/g00853/laws.FnExactConcentrationOf", spec := "fnExactConcentrationOf", apart := false }
def FnExactConcentrationOfSaid : Prop := fnExactConcentrationOfRow.holds Try.pinned (OpenSpec.ofChange fnExactConcentrationOfSpec)

/-- ITS FALSE NEIGHBOUR: 'it returns false'. Refute it at one input. -/
def fnExactConcentrationOfWrong : ChangeSpec := { name := "fnExactConcentrationOf", fn := fun _ => fun
  | [d] => { results := [.lit (.bool false)], args := [d] }
  | _ => none }
def FnExactConcentrationOfWrongFalsely : Prop := fnExactConcentrationOfRow.holds Try.pinned (OpenSpec.ofChange fnExactConcentrationOfWrong)

/-- 'laws.FnExactJoinContents': WHATEVER THE INPUT: true; the input reads as it did. -/
def fnExactJoinContentsSpec : ChangeSpec := { name := "fnExactJoinContents", fn := fun _ => fun
  | [d1, d2] => { results := [.lit (.bool true)], args := [d1, d2] }
  | _ => none }
def fnExactJoinContentsRow : OpenClaim := { program := "ytbcgcpdnmpejlaa", sum := "2411a2253b8f0b3776b66f3c3185a9a2301524392b61dcc0aff0d28d46e11a1a", func := "loop.example/g00853/laws.FnExactJoinContents", spec := "fnExactJoinContents", apart := false }
def FnExactJoinContentsSaid : Prop := fnExactJoinContentsRow.holds Try.pinned (OpenSpec.ofChange fnExactJoinContentsSpec)

/-- ITS FALSE NEIGHBOUR: 'it returns false'. Refute it at one input. -/
def fnExactJoinContentsWrong : ChangeSpec := { name := "fnExactJoinContents", fn := fun _ => fun
  | [d1, d2] => { results := [.lit (.bool false)], args := [d1, d2] }
  | _ => none }
def FnExactJoinContentsWrongFalsely : Prop := fnExactJoinContentsRow.holds Try.pinned (OpenSpec.ofChange fnExactJoinContentsWrong)

/-- 'laws.FnExactTakeWater': WHATEVER THE INPUT: true; the input reads as it did. -/
def fnExactTakeWaterSpec : ChangeSpec := { name := "fnExactTakeWater", fn := fun _ => fun
  | [d1, d2] => { results := [.lit (.bool true)], args := [d1, d2] }
  | _ => none }
def fnExactTakeWaterRow : OpenClaim := { program := "ytbcgcpdnmpejlaa", sum := "2411a2253b8f0b3776b66f3c3185a9a2301524392b61dcc0aff0d28d46e11a1a", func := "loop.example/g00853/laws.FnExactTakeWater", spec := "fnExactTakeWater", apart := false }
def FnExactTakeWaterSaid : Prop := fnExactTakeWaterRow.holds Try.pinned (OpenSpec.ofChange fnExactTakeWaterSpec)

/-- ITS FALSE NEIGHBOUR: 'it returns false'. Refute it at one input. -/
def fnExactTakeWaterWrong : ChangeSpec := { name := "fnExactTakeWater", fn := fun _ => fun
  | [d1, d2] => { results := [.lit (.bool false)], args := [d1, d2] }
  | _ => none }
def FnExactTakeWaterWrongFalsely : Prop := fnExactTakeWaterRow.holds Try.pinned (OpenSpec.ofChange fnExactTakeWaterWrong)

/-- 'laws.FnExactAddWater': WHATEVER THE INPUT: true; the input reads as it did. -/
def fnExactAddWaterSpec : ChangeSpec := { name := "fnExactAddWater", fn := fun _ => fun
  | [d1, d2, d3] => { results := [.lit (.bool true)], args := [d1, d2, d3] }
  | _ => none }
def fnExactAddWaterRow : OpenClaim := { program := "ytbcgcpdnmpejlaa", sum := "2411a2253b8f0b3776b66f3c3185a9a2301524392b61dcc0aff0d28d46e11a1a", func := "loop.example/g00853/laws.FnExactAddWater", spec := "fnExactAddWater", apart := false }
def FnExactAddWaterSaid : Prop := fnExactAddWaterRow.holds Try.pinned (OpenSpec.ofChange fnExactAddWaterSpec)

/-- ITS FALSE NEIGHBOUR: 'it returns false'. Refute it at one input. -/
def fnExactAddWaterWrong : ChangeSpec := { name := "fnExactAddWater", fn := fun _ => fun
  | [d1, d2, d3] => { results := [.lit (.bool false)], args := [d1, d2, d3] }
  | _ => none }
def FnExactAddWaterWrongFalsely : Prop := fnExactAddWaterRow.holds Try.pinned (OpenSpec.ofChange fnExactAddWaterWrong)

/-- 'laws.FnExactCompareContents': WHATEVER THE INPUT: true; the input reads as it did. -/
def fnExactCompareContentsSpec : ChangeSpec := { name := "fnExactCompareContents", fn := fun _ => fun
  | [d1, d2] => { results := [.lit (.bool true)], args := [d1, d2] }
  | _ => none }
def fnExactCompareContentsRow : OpenClaim := { program := "ytbcgcpdnmpejlaa", sum := "2411a2253b8f0b3776b66f3c3185a9a2301524392b61dcc0aff0d28d46e11a1a", func := "loop.example/g00853/laws.FnExactCompareContents", spec := "fnExactCompareContents", apart := false }
def FnExactCompareContentsSaid : Prop := fnExactCompareContentsRow.holds Try.pinned (OpenSpec.ofChange fnExactCompareContentsSpec)

/-- ITS FALSE NEIGHBOUR: 'it returns false'. Refute it at one input. -/
def fnExactCompareContentsWrong : ChangeSpec := { name := "fnExactCompareContents", fn := fun _ => fun
  | [d1, d2] => { results := [.lit (.bool false)], args := [d1, d2] }
  | _ => none }
def FnExactCompareContentsWrongFalsely : Prop := fnExactCompareContentsRow.holds Try.pinned (OpenSpec.ofChange fnExactCompareContentsWrong)

/-- 'laws.FnExactRinseSteps': WHATEVER THE INPUT: true; the input reads as it did. -/
def fnExactRinseStepsSpec : ChangeSpec := { name := "fnExactRinseSteps", fn := fun _ => fun
  | [d1, d2, d3] => { results := [.lit (.bool true)], args := [d1, d2, d3] }
  | _ => none }
def fnExactRinseStepsRow : OpenClaim := { program := "ytbcgcpdnmpejlaa", sum := "2411a2253b8f0b3776b66f3c3185a9a2301524392b61dcc0aff0d28d46e11a1a", func := "loop.example/g00853/laws.FnExactRinseSteps", spec := "fnExactRinseSteps", apart := false }
def FnExactRinseStepsSaid : Prop := fnExactRinseStepsRow.holds Try.pinned (OpenSpec.ofChange fnExactRinseStepsSpec)

/-- ITS FALSE NEIGHBOUR: 'it returns false'. Refute it at one input. -/
def fnExactRinseStepsWrong : ChangeSpec := { name := "fnExactRinseSteps", fn := fun _ => fun
  | [d1, d2, d3] => { results := [.lit (.bool false)], args := [d1, d2, d3] }
  | _ => none }
def FnExactRinseStepsWrongFalsely : Prop := fnExactRinseStepsRow.holds Try.pinned (OpenSpec.ofChange fnExactRinseStepsWrong)

/-- 'laws.FnContents': WHATEVER THE INPUT: true; the input reads as it did. -/
def fnContentsSpec : ChangeSpec := { name := "fnContents", fn := fun _ => fun
  | [d] => { results := [.lit (.bool true)], args := [d] }
  | _ => none }
def fnContentsRow : OpenClaim := { program := "ytbcgcpdnmpejlaa", sum := "2411a2253b8f0b3776b66f3c3185a9a2301524392b61dcc0aff0d28d46e11a1a", func := "loop.example/g00853/laws.FnContents", spec := "fnContents", apart := false }
def FnContentsSaid : Prop := fnContentsRow.holds Try.pinned (OpenSpec.ofChange fnContentsSpec)

/-- ITS FALSE NEIGHBOUR: 'it returns false'. Refute it at one input. -/
def fnContentsWrong : ChangeSpec := { name := "fnContents", fn := fun _ => fun
  | [d] => { results := [.lit (.bool false)], args := [d] }
  | _ => none }
def FnContentsWrongFalsely : Prop := fnContentsRow.holds Try.pinned (OpenSpec.ofChange fnContentsWrong)

/-- 'laws.FnDilution': WHATEVER THE INPUT: true; the input reads as it did. -/
def fnDilutionSpec : ChangeSpec := { name := "fnDilution", fn := fun _ => fun
  | [d] => { results := [.lit (.bool true)], args := [d] }
  | _ => none }
def fnDilutionRow : OpenClaim := { program := "ytbcgcpdnmpejlaa", sum := "2411a2253b8f0b3776b66f3c3185a9a2301524392b61dcc0aff0d28d46e11a1a", func := "loop.example/g00853/laws.FnDilution", spec := "fnDilution", apart := false }
def FnDilutionSaid : Prop := fnDilutionRow.holds Try.pinned (OpenSpec.ofChange fnDilutionSpec)

/-- ITS FALSE NEIGHBOUR: 'it returns false'. Refute it at one input. -/
def fnDilutionWrong : ChangeSpec := { name := "fnDilution", fn := fun _ => fun
  | [d] => { results := [.lit (.bool false)], args := [d] }
  | _ => none }
def FnDilutionWrongFalsely : Prop := fnDilutionRow.holds Try.pinned (OpenSpec.ofChange fnDilutionWrong)

/- THE SECOND FORM. 'bulk': how many values and letters a reading holds, each counted each time it is reached (what is shared counts as often as it is met; a slice's spare places count too). A statement '..UptoSaid' is the law's where the arguments, and the package variables that the reading takes, are together of bulk at most 1048576: NARROWER than '..Said'. Prove '..Said' where nothing that the law and all that it calls make is longer than what came in: it says more and counts as full. Else prove '..UptoSaid'. A law counts once. -/
mutual
def uptoBulk {H : Type} : DataW H → Nat
  | .lit (.string bytes) => bytes.length + 1
  | .lit _ => 1
  | .nil => 1
  | .ptr d => uptoBulk d + 1
  | .slice elems spare => uptoBulkAll elems + uptoBulkAll spare + 1
  | .agg parts => uptoBulkAll parts + 1
  | .iface _ d => uptoBulk d + 1
  | .map entries => uptoBulkEntries entries + 1
  | .held _ => 1
def uptoBulkAll {H : Type} : List (DataW H) → Nat
  | [] => 0
  | d :: r => uptoBulk d + uptoBulkAll r
def uptoBulkEntries {H : Type} : List (Lit × DataW H) → Nat
  | [] => 0
  | x :: r => uptoBulkEntry x + uptoBulkEntries r
def uptoBulkEntry {H : Type} : Lit × DataW H → Nat
  | (.string bytes, d) => bytes.length + uptoBulk d + 1
  | (_, d) => uptoBulk d + 1
 end
def uptoSmall : (H : Type) → List (DataW H) → Bool := fun _ ds => decide (uptoBulkAll ds ≤ 1048576)
def OpenSpec.upto (s : _root_.Go.ChangeSpec) : _root_.Go.OpenSpec := { _root_.Go.OpenSpec.ofChange s with cond := some uptoSmall }

/-- 'laws.FnExactIsValidContent', WHERE WHAT IT READS IS OF BULK AT MOST 1048576: true; the input reads as it did. -/
def fnExactIsValidContentUptoRow : OpenClaim := { program := "ytbcgcpdnmpejlaa", sum := "2411a2253b8f0b3776b66f3c3185a9a2301524392b61dcc0aff0d28d46e11a1a", func := "loop.example/g00853/laws.FnExactIsValidContent", spec := "fnExactIsValidContent", apart := false, narrowed := true }
def FnExactIsValidContentUptoSaid : Prop := fnExactIsValidContentUptoRow.holds Try.pinned (OpenSpec.upto fnExactIsValidContentSpec)

/-- 'laws.FnExactDiluteTo', WHERE WHAT IT READS IS OF BULK AT MOST 1048576: true; the input reads as it did. -/
def fnExactDiluteToUptoRow : OpenClaim := { program := "ytbcgcpdnmpejlaa", sum := "2411a2253b8f0b3776b66f3c3185a9a2301524392b61dcc0aff0d28d46e11a1a", func := "loop.example/g00853/laws.FnExactDiluteTo", spec := "fnExactDiluteTo", apart := false, narrowed := true }
def FnExactDiluteToUptoSaid : Prop := fnExactDiluteToUptoRow.holds Try.pinned (OpenSpec.upto fnExactDiluteToSpec)

/-- 'laws.FnExactMixShares', WHERE WHAT IT READS IS OF BULK AT MOST 1048576: true; the input reads as it did. -/
def fnExactMixSharesUptoRow : OpenClaim := { program := "ytbcgcpdnmpejlaa", sum := "2411a2253b8f0b3776b66f3c3185a9a2301524392b61dcc0aff0d28d46e11a1a", func := "loop.example/g00853/laws.FnExactMixShares", spec := "fnExactMixShares", apart := false, narrowed := true }
def FnExactMixSharesUptoSaid : Prop := fnExactMixSharesUptoRow.holds Try.pinned (OpenSpec.upto fnExactMixSharesSpec)

/-- 'laws.FnExactConcentrationOf', WHERE WHAT IT READS IS OF BULK AT MOST 1048576: true; the input reads as it did. -/
def fnExactConcentrationOfUptoRow : OpenClaim := { program := "ytbcgcpdnmpejlaa", sum := "2411a2253b8f0b3776b66f3c3185a9a2301524392b61dcc0aff0d28d46e11a1a", func := "loop.example/g00853/laws.FnExactConcentrationOf", spec := "fnExactConcentrationOf", apart := false, narrowed := true }
def FnExactConcentrationOfUptoSaid : Prop := fnExactConcentrationOfUptoRow.holds Try.pinned (OpenSpec.upto fnExactConcentrationOfSpec)

/-- 'laws.FnExactJoinContents', WHERE WHAT IT READS IS OF BULK AT MOST 1048576: true; the input reads as it did. -/
def fnExactJoinContentsUptoRow : OpenClaim := { program := "ytbcgcpdnmpejlaa", sum := "2411a2253b8f0b3776b66f3c3185a9a2301524392b61dcc0aff0d28d46e11a1a", func := "loop.example/g00853/laws.FnExactJoinContents", spec := "fnExactJoinContents", apart := false, narrowed := true }
def FnExactJoinContentsUptoSaid : Prop := fnExactJoinContentsUptoRow.holds Try.pinned (OpenSpec.upto fnExactJoinContentsSpec)

/-- 'laws.FnExactTakeWater', WHERE WHAT IT READS IS OF BULK AT MOST 1048576: true; the input reads as it did. -/
def fnExactTakeWaterUptoRow : OpenClaim := { program := "ytbcgcpdnmpejlaa", sum := "2411a2253b8f0b3776b66f3c3185a9a2301524392b61dcc0aff0d28d46e11a1a", func := "loop.example/g00853/laws.FnExactTakeWater", spec := "fnExactTakeWater", apart := false, narrowed := true }
def FnExactTakeWaterUptoSaid : Prop := fnExactTakeWaterUptoRow.holds Try.pinned (OpenSpec.upto fnExactTakeWaterSpec)

/-- 'laws.FnExactAddWater', WHERE WHAT IT READS IS OF BULK AT MOST 1048576: true; the input reads as it did. -/
def fnExactAddWaterUptoRow : OpenClaim := { program := "ytbcgcpdnmpejlaa", sum := "2411a2253b8f0b3776b66f3c3185a9a2301524392b61dcc0aff0d28d46e11a1a", func := "loop.example/g00853/laws.FnExactAddWater", spec := "fnExactAddWater", apart := false, narrowed := true }
def FnExactAddWaterUptoSaid : Prop := fnExactAddWaterUptoRow.holds Try.pinned (OpenSpec.upto fnExactAddWaterSpec)

/-- 'laws.FnExactCompareContents', WHERE WHAT IT READS IS OF BULK AT MOST 1048576: true; the input reads as it did. -/
def fnExactCompareContentsUptoRow : OpenClaim := { program := "ytbcgcpdnmpejlaa", sum := "2411a2253b8f0b3776b66f3c3185a9a2301524392b61dcc0aff0d28d46e11a1a", func := "loop.example/g00853/laws.FnExactCompareContents", spec := "fnExactCompareContents", apart := false, narrowed := true }
def FnExactCompareContentsUptoSaid : Prop := fnExactCompareContentsUptoRow.holds Try.pinned (OpenSpec.upto fnExactCompareContentsSpec)

/-- 'laws.FnExactRinseSteps', WHERE WHAT IT READS IS OF BULK AT MOST 1048576: true; the input reads as it did. -/
def fnExactRinseStepsUptoRow : OpenClaim := { program := "ytbcgcpdnmpejlaa", sum := "2411a2253b8f0b3776b66f3c3185a9a2301524392b61dcc0aff0d28d46e11a1a", func := "loop.example/g00853/laws.FnExactRinseSteps", spec := "fnExactRinseSteps", apart := false, narrowed := true }
def FnExactRinseStepsUptoSaid : Prop := fnExactRinseStepsUptoRow.holds Try.pinned (OpenSpec.upto fnExactRinseStepsSpec)

/-- 'laws.FnContents', WHERE WHAT IT READS IS OF BULK AT MOST 1048576: true; the input reads as it did. -/
def fnContentsUptoRow : OpenClaim := { program := "ytbcgcpdnmpejlaa", sum := "2411a2253b8f0b3776b66f3c3185a9a2301524392b61dcc0aff0d28d46e11a1a", func := "loop.example/g00853/laws.FnContents", spec := "fnContents", apart := false, narrowed := true }
def FnContentsUptoSaid : Prop := fnContentsUptoRow.holds Try.pinned (OpenSpec.upto fnContentsSpec)

/-- 'laws.FnDilution', WHERE WHAT IT READS IS OF BULK AT MOST 1048576: true; the input reads as it did. -/
def fnDilutionUptoRow : OpenClaim := { program := "ytbcgcpdnmpejlaa", sum := "2411a2253b8f0b3776b66f3c3185a9a2301524392b61dcc0aff0d28d46e11a1a", func := "loop.example/g00853/laws.FnDilution", spec := "fnDilution", apart := false, narrowed := true }
def FnDilutionUptoSaid : Prop := fnDilutionUptoRow.holds Try.pinned (OpenSpec.upto fnDilutionSpec)

end Rows
end Go.Proofs.Ytbcgcpdnmpejlaa
