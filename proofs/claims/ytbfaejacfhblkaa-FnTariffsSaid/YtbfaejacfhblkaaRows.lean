/-
  No cell of these rows narrows 'for every input' (looked for: loops, veiled, ifaces, maps, wideKeys, modest, calm, conditions, laid).
  DERIVED. THE GIVEN ROWS OF THIS SEAT. 12 by the template 'for every input the law returns true; each argument reads behind the call as it read before'; 0 by the template 'total and deterministic' (their statements: YtbfaejacfhblkaaTotals.lean).
  GIVEN WITH THE SEED: the statements are not yours to turn. If you find one false, say at which input.
  Laid BY PROGRAM, IN A SANDBOX (cutbox-rows.mjs): the forced cells as the released guide's own fill.sh prints them over the translation b8f73afa4148fd6a… (all of the seat's roots in one cut). By AI agents, Wed Nov 11 2026. No macro, syntax, notation, axiom, sorry.
-/
import Derived.Test.YtbfaejacfhblkaaChecked
import GoSem.Claim
import GoSem.ClaimJoined
import GoSem.ClaimMapViews
import Derived.JoinedTies
import Derived.KernelRfl
namespace Go.Proofs.Ytbfaejacfhblkaa
/- THE CELL 'sum', in the pinned program and in every row, IS THE sha256 OF THE DUMP (.gsa) THAT YtbfaejacfhblkaaProg.lean LOADS. Nothing in Lean hashes anything: it is a label: what it is worth is what the hold of that sum in a sandbox is worth. -/
noncomputable def Try.pinned : Pinned := { name := "ytbfaejacfhblkaa", sum := "b8f73afa4148fd6a0e80745b0c400bca84f043838211adebe40af8c8bda635f2", checked := Try.checked }
namespace Rows
def none {H : Type} : Left H := { results := [], args := [] }

/-- 'laws.FnExactIsValidTariff': WHATEVER THE INPUT: true; the input reads as it did. -/
def fnExactIsValidTariffSpec : ChangeSpec := { name := "fnExactIsValidTariff", fn := fun _ => fun
  | [d] => { results := [.lit (.bool true)], args := [d] }
  | _ => none }
def fnExactIsValidTariffRow : OpenClaim := { program := "ytbfaejacfhblkaa", sum := "b8f73afa4148fd6a0e80745b0c400bca84f043838211adebe40af8c8bda635f2", func := "loop.example/g00853/laws.FnExactIsValidTariff", spec := "fnExactIsValidTariff", apart := false }
def FnExactIsValidTariffSaid : Prop := fnExactIsValidTariffRow.holds Try.pinned (OpenSpec.ofChange fnExactIsValidTariffSpec)

/-- ITS FALSE NEIGHBOUR: 'it returns false'. Refute it at one input. -/
def fnExactIsValidTariffWrong : ChangeSpec := { name := "fnExactIsValidTariff", fn := fun _ => fun
  | [d] => { results := [.lit (.bool false)], args := [d] }
  | _ => none }
def FnExactIsValidTariffWrongFalsely : Prop := fnExactIsValidTariffRow.holds Try.pinned (OpenSpec.ofChange fnExactIsValidTariffWrong)

/-- 'laws.FnExactIsProgressive': WHATEVER THE INPUT: true; the input reads as it did. -/
def fnExactIsProgressiveSpec : ChangeSpec := { name := "fnExactIsProgressive", fn := fun _ => fun
  | [d] => { results := [.lit (.bool true)], args := [d] }
  | _ => none }
def fnExactIsProgressiveRow : OpenClaim := { program := "ytbfaejacfhblkaa", sum := "b8f73afa4148fd6a0e80745b0c400bca84f043838211adebe40af8c8bda635f2", func := "loop.example/g00853/laws.FnExactIsProgressive", spec := "fnExactIsProgressive", unfollowed := true, recurses := true, apart := false }
def FnExactIsProgressiveSaid : Prop := fnExactIsProgressiveRow.holds Try.pinned (OpenSpec.ofChange fnExactIsProgressiveSpec)

/-- ITS FALSE NEIGHBOUR: 'it returns false'. Refute it at one input. -/
def fnExactIsProgressiveWrong : ChangeSpec := { name := "fnExactIsProgressive", fn := fun _ => fun
  | [d] => { results := [.lit (.bool false)], args := [d] }
  | _ => none }
def FnExactIsProgressiveWrongFalsely : Prop := fnExactIsProgressiveRow.holds Try.pinned (OpenSpec.ofChange fnExactIsProgressiveWrong)

/-- 'laws.FnExactNextPrice': WHATEVER THE INPUT: true; the input reads as it did. -/
def fnExactNextPriceSpec : ChangeSpec := { name := "fnExactNextPrice", fn := fun _ => fun
  | [d1, d2] => { results := [.lit (.bool true)], args := [d1, d2] }
  | _ => none }
def fnExactNextPriceRow : OpenClaim := { program := "ytbfaejacfhblkaa", sum := "b8f73afa4148fd6a0e80745b0c400bca84f043838211adebe40af8c8bda635f2", func := "loop.example/g00853/laws.FnExactNextPrice", spec := "fnExactNextPrice", apart := false }
def FnExactNextPriceSaid : Prop := fnExactNextPriceRow.holds Try.pinned (OpenSpec.ofChange fnExactNextPriceSpec)

/-- ITS FALSE NEIGHBOUR: 'it returns false'. Refute it at one input. -/
def fnExactNextPriceWrong : ChangeSpec := { name := "fnExactNextPrice", fn := fun _ => fun
  | [d1, d2] => { results := [.lit (.bool false)], args := [d1, d2] }
  | _ => none }
def FnExactNextPriceWrongFalsely : Prop := fnExactNextPriceRow.holds Try.pinned (OpenSpec.ofChange fnExactNextPriceWrong)

/-- 'laws.FnExactCheaperFrom': WHATEVER THE INPUT: true; the input reads as it did. -/
def fnExactCheaperFromSpec : ChangeSpec := { name := "fnExactCheaperFrom", fn := fun _ => fun
  | [d1, d2] => { results := [.lit (.bool true)], args := [d1, d2] }
  | _ => none }
def fnExactCheaperFromRow : OpenClaim := { program := "ytbfaejacfhblkaa", sum := "b8f73afa4148fd6a0e80745b0c400bca84f043838211adebe40af8c8bda635f2", func := "loop.example/g00853/laws.FnExactCheaperFrom", spec := "fnExactCheaperFrom", apart := false }
def FnExactCheaperFromSaid : Prop := fnExactCheaperFromRow.holds Try.pinned (OpenSpec.ofChange fnExactCheaperFromSpec)

/-- ITS FALSE NEIGHBOUR: 'it returns false'. Refute it at one input. -/
def fnExactCheaperFromWrong : ChangeSpec := { name := "fnExactCheaperFrom", fn := fun _ => fun
  | [d1, d2] => { results := [.lit (.bool false)], args := [d1, d2] }
  | _ => none }
def FnExactCheaperFromWrongFalsely : Prop := fnExactCheaperFromRow.holds Try.pinned (OpenSpec.ofChange fnExactCheaperFromWrong)

/-- 'laws.FnExactSimplerTariff': WHATEVER THE INPUT: true; the input reads as it did. -/
def fnExactSimplerTariffSpec : ChangeSpec := { name := "fnExactSimplerTariff", fn := fun _ => fun
  | [d] => { results := [.lit (.bool true)], args := [d] }
  | _ => none }
def fnExactSimplerTariffRow : OpenClaim := { program := "ytbfaejacfhblkaa", sum := "b8f73afa4148fd6a0e80745b0c400bca84f043838211adebe40af8c8bda635f2", func := "loop.example/g00853/laws.FnExactSimplerTariff", spec := "fnExactSimplerTariff", apart := false }
def FnExactSimplerTariffSaid : Prop := fnExactSimplerTariffRow.holds Try.pinned (OpenSpec.ofChange fnExactSimplerTariffSpec)

/-- ITS FALSE NEIGHBOUR: 'it returns false'. Refute it at one input. -/
def fnExactSimplerTariffWrong : ChangeSpec := { name := "fnExactSimplerTariff", fn := fun _ => fun
  | [d] => { results := [.lit (.bool false)], args := [d] }
  | _ => none }
def FnExactSimplerTariffWrongFalsely : Prop := fnExactSimplerTariffRow.holds Try.pinned (OpenSpec.ofChange fnExactSimplerTariffWrong)

/-- 'laws.FnExactCostOf': WHATEVER THE INPUT: true; the input reads as it did. -/
def fnExactCostOfSpec : ChangeSpec := { name := "fnExactCostOf", fn := fun _ => fun
  | [d1, d2] => { results := [.lit (.bool true)], args := [d1, d2] }
  | _ => none }
def fnExactCostOfRow : OpenClaim := { program := "ytbfaejacfhblkaa", sum := "b8f73afa4148fd6a0e80745b0c400bca84f043838211adebe40af8c8bda635f2", func := "loop.example/g00853/laws.FnExactCostOf", spec := "fnExactCostOf", apart := false }
def FnExactCostOfSaid : Prop := fnExactCostOfRow.holds Try.pinned (OpenSpec.ofChange fnExactCostOfSpec)

/-- ITS FALSE NEIGHBOUR: 'it returns false'. Refute it at one input. -/
def fnExactCostOfWrong : ChangeSpec := { name := "fnExactCostOf", fn := fun _ => fun
  | [d1, d2] => { results := [.lit (.bool false)], args := [d1, d2] }
  | _ => none }
def FnExactCostOfWrongFalsely : Prop := fnExactCostOfRow.holds Try.pinned (OpenSpec.ofChange fnExactCostOfWrong)

/-- 'laws.FnExactRaiseTariff': WHATEVER THE INPUT: true; the input reads as it did. -/
def fnExactRaiseTariffSpec : ChangeSpec := { name := "fnExactRaiseTariff", fn := fun _ => fun
  | [d1, d2] => { results := [.lit (.bool true)], args := [d1, d2] }
  | _ => none }
def fnExactRaiseTariffRow : OpenClaim := { program := "ytbfaejacfhblkaa", sum := "b8f73afa4148fd6a0e80745b0c400bca84f043838211adebe40af8c8bda635f2", func := "loop.example/g00853/laws.FnExactRaiseTariff", spec := "fnExactRaiseTariff", unfollowed := true, recurses := true, apart := false }
def FnExactRaiseTariffSaid : Prop := fnExactRaiseTariffRow.holds Try.pinned (OpenSpec.ofChange fnExactRaiseTariffSpec)

/-- ITS FALSE NEIGHBOUR: 'it returns false'. Refute it at one input. -/
def fnExactRaiseTariffWrong : ChangeSpec := { name := "fnExactRaiseTariff", fn := fun _ => fun
  | [d1, d2] => { results := [.lit (.bool false)], args := [d1, d2] }
  | _ => none }
def FnExactRaiseTariffWrongFalsely : Prop := fnExactRaiseTariffRow.holds Try.pinned (OpenSpec.ofChange fnExactRaiseTariffWrong)

/-- 'laws.FnExactVolumeFor': WHATEVER THE INPUT: true; the input reads as it did. -/
def fnExactVolumeForSpec : ChangeSpec := { name := "fnExactVolumeFor", fn := fun _ => fun
  | [d1, d2] => { results := [.lit (.bool true)], args := [d1, d2] }
  | _ => none }
def fnExactVolumeForRow : OpenClaim := { program := "ytbfaejacfhblkaa", sum := "b8f73afa4148fd6a0e80745b0c400bca84f043838211adebe40af8c8bda635f2", func := "loop.example/g00853/laws.FnExactVolumeFor", spec := "fnExactVolumeFor", apart := false }
def FnExactVolumeForSaid : Prop := fnExactVolumeForRow.holds Try.pinned (OpenSpec.ofChange fnExactVolumeForSpec)

/-- ITS FALSE NEIGHBOUR: 'it returns false'. Refute it at one input. -/
def fnExactVolumeForWrong : ChangeSpec := { name := "fnExactVolumeFor", fn := fun _ => fun
  | [d1, d2] => { results := [.lit (.bool false)], args := [d1, d2] }
  | _ => none }
def FnExactVolumeForWrongFalsely : Prop := fnExactVolumeForRow.holds Try.pinned (OpenSpec.ofChange fnExactVolumeForWrong)

/-- 'laws.FnExactSplitCost': WHATEVER THE INPUT: true; the input reads as it did. -/
def fnExactSplitCostSpec : ChangeSpec := { name := "fnExactSplitCost", fn := fun _ => fun
  | [d1, d2] => { results := [.lit (.bool true)], args := [d1, d2] }
  | _ => none }
def fnExactSplitCostRow : OpenClaim := { program := "ytbfaejacfhblkaa", sum := "b8f73afa4148fd6a0e80745b0c400bca84f043838211adebe40af8c8bda635f2", func := "loop.example/g00853/laws.FnExactSplitCost", spec := "fnExactSplitCost", apart := false }
def FnExactSplitCostSaid : Prop := fnExactSplitCostRow.holds Try.pinned (OpenSpec.ofChange fnExactSplitCostSpec)

/-- ITS FALSE NEIGHBOUR: 'it returns false'. Refute it at one input. -/
def fnExactSplitCostWrong : ChangeSpec := { name := "fnExactSplitCost", fn := fun _ => fun
  | [d1, d2] => { results := [.lit (.bool false)], args := [d1, d2] }
  | _ => none }
def FnExactSplitCostWrongFalsely : Prop := fnExactSplitCostRow.holds Try.pinned (OpenSpec.ofChange fnExactSplitCostWrong)

/-- 'laws.FnExactMeanPrice': WHATEVER THE INPUT: true; the input reads as it did. -/
def fnExactMeanPriceSpec : ChangeSpec := { name := "fnExactMeanPrice", fn := fun _ => fun
  | [d1, d2] => { results := [.lit (.bool true)], args := [d1, d2] }
  | _ => none }
def fnExactMeanPriceRow : OpenClaim := { program := "ytbfaejacfhblkaa", sum := "b8f73afa4148fd6a0e80745b0c400bca84f043838211adebe40af8c8bda635f2", func := "loop.example/g00853/laws.FnExactMeanPrice", spec := "fnExactMeanPrice", apart := false }
def FnExactMeanPriceSaid : Prop := fnExactMeanPriceRow.holds Try.pinned (OpenSpec.ofChange fnExactMeanPriceSpec)

/-- ITS FALSE NEIGHBOUR: 'it returns false'. Refute it at one input. -/
def fnExactMeanPriceWrong : ChangeSpec := { name := "fnExactMeanPrice", fn := fun _ => fun
  | [d1, d2] => { results := [.lit (.bool false)], args := [d1, d2] }
  | _ => none }
def FnExactMeanPriceWrongFalsely : Prop := fnExactMeanPriceRow.holds Try.pinned (OpenSpec.ofChange fnExactMeanPriceWrong)

/-- 'laws.FnCheaper': WHATEVER THE INPUT: true; the input reads as it did. -/
def fnCheaperSpec : ChangeSpec := { name := "fnCheaper", fn := fun _ => fun
  | [d] => { results := [.lit (.bool true)], args := [d] }
  | _ => none }
def fnCheaperRow : OpenClaim := { program := "ytbfaejacfhblkaa", sum := "b8f73afa4148fd6a0e80745b0c400bca84f043838211adebe40af8c8bda635f2", func := "loop.example/g00853/laws.FnCheaper", spec := "fnCheaper", unfollowed := true, recurses := true, apart := false }
def FnCheaperSaid : Prop := fnCheaperRow.holds Try.pinned (OpenSpec.ofChange fnCheaperSpec)

/-- ITS FALSE NEIGHBOUR: 'it returns false'. Refute it at one input. -/
def fnCheaperWrong : ChangeSpec := { name := "fnCheaper", fn := fun _ => fun
  | [d] => { results := [.lit (.bool false)], args := [d] }
  | _ => none }
def FnCheaperWrongFalsely : Prop := fnCheaperRow.holds Try.pinned (OpenSpec.ofChange fnCheaperWrong)

/-- 'laws.FnTariffs': WHATEVER THE INPUT: true; the input reads as it did. -/
def fnTariffsSpec : ChangeSpec := { name := "fnTariffs", fn := fun _ => fun
  | [d] => { results := [.lit (.bool true)], args := [d] }
  | _ => none }
def fnTariffsRow : OpenClaim := { program := "ytbfaejacfhblkaa", sum := "b8f73afa4148fd6a0e80745b0c400bca84f043838211adebe40af8c8bda635f2", func := "loop.example/g00853/laws.FnTariffs", spec := "fnTariffs", unfollowed := true, recurses := true, apart := false }
def FnTariffsSaid : Prop := fnTariffsRow.holds Try.pinned (OpenSpec.ofChange fnTariffsSpec)

/-- ITS FALSE NEIGHBOUR: 'it returns false'. Refute it at one input. -/
def fnTariffsWrong : ChangeSpec := { name := "fnTariffs", fn := fun _ => fun
  | [d] => { results := [.lit (.bool false)], args := [d] }
  | _ => none }
def FnTariffsWrongFalsely : Prop := fnTariffsRow.holds Try.pinned (OpenSpec.ofChange fnTariffsWrong)

/- THE SECOND FORM. 'bulk': how many values and letters a reading holds, each counted each time it is reached (what is shared counts as often as it is met; a slice's spare places count too). A statement '..UptoSaid' is the law's where the arguments, and the package variables that the reading takes, are together of bulk at most 1048576: NARROWER than '..Said'. Prove '..Said' where nothing that the law and all that it calls make is longer than what came in: it says more and counts as full. Else prove '..UptoSaid'. A law counts once. -/
mutual
def uptoBulk {H : Type} : DataW H → Nat
  | .lit (.string bytes) => bytes.length + 1
  | .lit _ => 1
  | .nil => 1
  | .ptr d => uptoBulk d + 1
  | .slice elems spare => uptoBulkAll elems + uptoBulkAll spare + 1
  | .agg parts => uptoBulkAll parts + 1
  | .iface _ d => uptoBulk d + 1
  | .map entries => uptoBulkEntries entries + 1
  | .held _ => 1
def uptoBulkAll {H : Type} : List (DataW H) → Nat
  | [] => 0
  | d :: r => uptoBulk d + uptoBulkAll r
def uptoBulkEntries {H : Type} : List (Lit × DataW H) → Nat
  | [] => 0
  | x :: r => uptoBulkEntry x + uptoBulkEntries r
def uptoBulkEntry {H : Type} : Lit × DataW H → Nat
  | (.string bytes, d) => bytes.length + uptoBulk d + 1
  | (_, d) => uptoBulk d + 1
 end
def uptoSmall : (H : Type) → List (DataW H) → Bool := fun _ ds => decide (uptoBulkAll ds ≤ 1048576)
def OpenSpec.upto (s : _root_.Go.ChangeSpec) : _root_.Go.OpenSpec := { _root_.Go.OpenSpec.ofChange s with cond := some uptoSmall }

/-- 'laws.FnExactIsValidTariff', WHERE WHAT IT READS IS OF BULK AT MOST 1048576: true; the input reads as it did. -/
def fnExactIsValidTariffUptoRow : OpenClaim := { program := "ytbfaejacfhblkaa", sum := "b8f73afa4148fd6a0e80745b0c400bca84f043838211adebe40af8c8bda635f2", func := "loop.example/g00853/laws.FnExactIsValidTariff", spec := "fnExactIsValidTariff", apart := false, narrowed := true }
def FnExactIsValidTariffUptoSaid : Prop := fnExactIsValidTariffUptoRow.holds Try.pinned (OpenSpec.upto fnExactIsValidTariffSpec)

/-- 'laws.FnExactIsProgressive', WHERE WHAT IT READS IS OF BULK AT MOST 1048576: true; the input reads as it did. -/
def fnExactIsProgressiveUptoRow : OpenClaim := { program := "ytbfaejacfhblkaa", sum := "b8f73afa4148fd6a0e80745b0c400bca84f043838211adebe40af8c8bda635f2", func := "loop.example/g00853/laws.FnExactIsProgressive", spec := "fnExactIsProgressive", unfollowed := true, recurses := true, apart := false, narrowed := true }
def FnExactIsProgressiveUptoSaid : Prop := fnExactIsProgressiveUptoRow.holds Try.pinned (OpenSpec.upto fnExactIsProgressiveSpec)

/-- 'laws.FnExactNextPrice', WHERE WHAT IT READS IS OF BULK AT MOST 1048576: true; the input reads as it did. -/
def fnExactNextPriceUptoRow : OpenClaim := { program := "ytbfaejacfhblkaa", sum := "b8f73afa4148fd6a0e80745b0c400bca84f043838211adebe40af8c8bda635f2", func := "loop.example/g00853/laws.FnExactNextPrice", spec := "fnExactNextPrice", apart := false, narrowed := true }
def FnExactNextPriceUptoSaid : Prop := fnExactNextPriceUptoRow.holds Try.pinned (OpenSpec.upto fnExactNextPriceSpec)

/-- 'laws.FnExactCheaperFrom', WHERE WHAT IT READS IS OF BULK AT MOST 1048576: true; the input reads as it did. -/
def fnExactCheaperFromUptoRow : OpenClaim := { program := "ytbfaejacfhblkaa", sum := "b8f73afa4148fd6a0e80745b0c400bca84f043838211adebe40af8c8bda635f2", func := "loop.example/g00853/laws.FnExactCheaperFrom", spec := "fnExactCheaperFrom", apart := false, narrowed := true }
def FnExactCheaperFromUptoSaid : Prop := fnExactCheaperFromUptoRow.holds Try.pinned (OpenSpec.upto fnExactCheaperFromSpec)

/-- 'laws.FnExactSimplerTariff', WHERE WHAT IT READS IS OF BULK AT MOST 1048576: true; the input reads as it did. -/
def fnExactSimplerTariffUptoRow : OpenClaim := { program := "ytbfaejacfhblkaa", sum := "b8f73afa4148fd6a0e80745b0c400bca84f043838211adebe40af8c8bda635f2", func := "loop.example/g00853/laws.FnExactSimplerTariff", spec := "fnExactSimplerTariff", apart := false, narrowed := true }
def FnExactSimplerTariffUptoSaid : Prop := fnExactSimplerTariffUptoRow.holds Try.pinned (OpenSpec.upto fnExactSimplerTariffSpec)

/-- 'laws.FnExactCostOf', WHERE WHAT IT READS IS OF BULK AT MOST 1048576: true; the input reads as it did. -/
def fnExactCostOfUptoRow : OpenClaim := { program := "ytbfaejacfhblkaa", sum := "b8f73afa4148fd6a0e80745b0c400bca84f043838211adebe40af8c8bda635f2", func := "loop.example/g00853/laws.FnExactCostOf", spec := "fnExactCostOf", apart := false, narrowed := true }
def FnExactCostOfUptoSaid : Prop := fnExactCostOfUptoRow.holds Try.pinned (OpenSpec.upto fnExactCostOfSpec)

/-- 'laws.FnExactRaiseTariff', WHERE WHAT IT READS IS OF BULK AT MOST 1048576: true; the input reads as it did. -/
def fnExactRaiseTariffUptoRow : OpenClaim := { program := "ytbfaejacfhblkaa", sum := "b8f73afa4148fd6a0e80745b0c400bca84f043838211adebe40af8c8bda635f2", func := "loop.example/g00853/laws.FnExactRaiseTariff", spec := "fnExactRaiseTariff", unfollowed := true, recurses := true, apart := false, narrowed := true }
def FnExactRaiseTariffUptoSaid : Prop := fnExactRaiseTariffUptoRow.holds Try.pinned (OpenSpec.upto fnExactRaiseTariffSpec)

/-- 'laws.FnExactVolumeFor', WHERE WHAT IT READS IS OF BULK AT MOST 1048576: true; the input reads as it did. -/
def fnExactVolumeForUptoRow : OpenClaim := { program := "ytbfaejacfhblkaa", sum := "b8f73afa4148fd6a0e80745b0c400bca84f043838211adebe40af8c8bda635f2", func := "loop.example/g00853/laws.FnExactVolumeFor", spec := "fnExactVolumeFor", apart := false, narrowed := true }
def FnExactVolumeForUptoSaid : Prop := fnExactVolumeForUptoRow.holds Try.pinned (OpenSpec.upto fnExactVolumeForSpec)

/-- 'laws.FnExactSplitCost', WHERE WHAT IT READS IS OF BULK AT MOST 1048576: true; the input reads as it did. -/
def fnExactSplitCostUptoRow : OpenClaim := { program := "ytbfaejacfhblkaa", sum := "b8f73afa4148fd6a0e80745b0c400bca84f043838211adebe40af8c8bda635f2", func := "loop.example/g00853/laws.FnExactSplitCost", spec := "fnExactSplitCost", apart := false, narrowed := true }
def FnExactSplitCostUptoSaid : Prop := fnExactSplitCostUptoRow.holds Try.pinned (OpenSpec.upto fnExactSplitCostSpec)

/-- 'laws.FnExactMeanPrice', WHERE WHAT IT READS IS OF BULK AT MOST 1048576: true; the input reads as it did. -/
def fnExactMeanPriceUptoRow : OpenClaim := { program := "ytbfaejacfhblkaa", sum := "b8f73afa4148fd6a0e80745b0c400bca84f043838211adebe40af8c8bda635f2", func := "loop.example/g00853/laws.FnExactMeanPrice", spec := "fnExactMeanPrice", apart := false, narrowed := true }
def FnExactMeanPriceUptoSaid : Prop := fnExactMeanPriceUptoRow.holds Try.pinned (OpenSpec.upto fnExactMeanPriceSpec)

/-- 'laws.FnCheaper', WHERE WHAT IT READS IS OF BULK AT MOST 1048576: true; the input reads as it did. -/
def fnCheaperUptoRow : OpenClaim := { program := "ytbfaejacfhblkaa", sum := "b8f73afa4148fd6a0e80745b0c400bca84f043838211adebe40af8c8bda635f2", func := "loop.example/g00853/laws.FnCheaper", spec := "fnCheaper", unfollowed := true, recurses := true, apart := false, narrowed := true }
def FnCheaperUptoSaid : Prop := fnCheaperUptoRow.holds Try.pinned (OpenSpec.upto fnCheaperSpec)

/-- 'laws.FnTariffs', WHERE WHAT IT READS IS OF BULK AT MOST 1048576: true; the input reads as it did. -/
def fnTariffsUptoRow : OpenClaim := { program := "ytbfaejacfhblkaa", sum := "b8f73afa4148fd6a0e80745b0c400bca84f043838211adebe40af8c8bda635f2", func := "loop.example/g00853/laws.FnTariffs", spec := "fnTariffs", unfollowed := true, recurses := true, apart := false, narrowed := true }
def FnTariffsUptoSaid : Prop := fnTariffsUptoRow.holds Try.pinned (OpenSpec.upto fnTariffsSpec)

end Rows
end Go.Proofs.Ytbfaejacfhblkaa
