/-
  No cell of these rows narrows 'for every input' (looked for: loops, veiled, ifaces, maps, wideKeys, modest, calm, conditions, laid).
  DERIVED. THE GIVEN ROWS OF THIS SEAT. 10 by the template 'for every input the law returns true; each argument reads behind the call as it read before'; 0 by the template 'total and deterministic' (their statements: YtofcienabddpjaaTotals.lean).
  GIVEN WITH THE SEED: the statements are not yours to turn. If you find one false, say at which input.
  Laid BY PROGRAM, IN A SANDBOX (cutbox-rows.mjs): the forced cells as the released guide's own fill.sh prints them over the translation 394cfdc90f796d35… (all of the seat's roots in one cut). By AI agents, Wed Nov 11 2026. No macro, syntax, notation, axiom, sorry.
-/
import Derived.Test.YtofcienabddpjaaChecked
import GoSem.Claim
import GoSem.ClaimJoined
import GoSem.ClaimMapViews
import Derived.JoinedTies
import Derived.KernelRfl
namespace Go.Proofs.Ytofcienabddpjaa
/- THE CELL 'sum', in the pinned program and in every row, IS THE sha256 OF THE DUMP (.gsa) THAT YtofcienabddpjaaProg.lean LOADS. Nothing in Lean hashes anything: it is a label: what it is worth is what the hold of that sum in a sandbox is worth. -/
noncomputable def Try.pinned : Pinned := { name := "ytofcienabddpjaa", sum := "394cfdc90f796d35a042695cc03d0ebf85fc907aaaa0b9af0a3536762124a6eb", checked := Try.checked }
namespace Rows
def none {H : Type} : Left H := { results := [], args := [] }

/-- 'laws.FnCosts': WHATEVER THE INPUT: true; the input reads as it did. -/
def fnCostsSpec : ChangeSpec := { name := "fnCosts", fn := fun _ => fun
  | [d] => { results := [.lit (.bool true)], args := [d] }
  | _ => none }
def fnCostsRow : OpenClaim := { program := "ytofcienabddpjaa", sum := "394cfdc90f796d35a042695cc03d0ebf85fc907aaaa0b9af0a3536762124a6eb", func := "loop.example/g00853/laws.FnCosts", spec := "fnCosts", unfollowed := true, recurses := true, apart := false }
def FnCostsSaid : Prop := fnCostsRow.holds Try.pinned (OpenSpec.ofChange fnCostsSpec)

/-- ITS FALSE NEIGHBOUR: 'it returns false'. Refute it at one input. -/
def fnCostsWrong : ChangeSpec := { name := "fnCosts", fn := fun _ => fun
  | [d] => { results := [.lit (.bool false)], args := [d] }
  | _ => none }
def FnCostsWrongFalsely : Prop := fnCostsRow.holds Try.pinned (OpenSpec.ofChange fnCostsWrong)

/-- 'laws.FnExactIsValidPumping': WHATEVER THE INPUT: true; the input reads as it did. -/
def fnExactIsValidPumpingSpec : ChangeSpec := { name := "fnExactIsValidPumping", fn := fun _ => fun
  | [d] => { results := [.lit (.bool true)], args := [d] }
  | _ => none }
def fnExactIsValidPumpingRow : OpenClaim := { program := "ytofcienabddpjaa", sum := "394cfdc90f796d35a042695cc03d0ebf85fc907aaaa0b9af0a3536762124a6eb", func := "loop.example/g00853/laws.FnExactIsValidPumping", spec := "fnExactIsValidPumping", unfollowed := true, recurses := true, apart := false }
def FnExactIsValidPumpingSaid : Prop := fnExactIsValidPumpingRow.holds Try.pinned (OpenSpec.ofChange fnExactIsValidPumpingSpec)

/-- ITS FALSE NEIGHBOUR: 'it returns false'. Refute it at one input. -/
def fnExactIsValidPumpingWrong : ChangeSpec := { name := "fnExactIsValidPumping", fn := fun _ => fun
  | [d] => { results := [.lit (.bool false)], args := [d] }
  | _ => none }
def FnExactIsValidPumpingWrongFalsely : Prop := fnExactIsValidPumpingRow.holds Try.pinned (OpenSpec.ofChange fnExactIsValidPumpingWrong)

/-- 'laws.FnExactIsGoodSchedule': WHATEVER THE INPUT: true; the input reads as it did. -/
def fnExactIsGoodScheduleSpec : ChangeSpec := { name := "fnExactIsGoodSchedule", fn := fun _ => fun
  | [d1, d2] => { results := [.lit (.bool true)], args := [d1, d2] }
  | _ => none }
def fnExactIsGoodScheduleRow : OpenClaim := { program := "ytofcienabddpjaa", sum := "394cfdc90f796d35a042695cc03d0ebf85fc907aaaa0b9af0a3536762124a6eb", func := "loop.example/g00853/laws.FnExactIsGoodSchedule", spec := "fnExactIsGoodSchedule", unfollowed := true, recurses := true, apart := false }
def FnExactIsGoodScheduleSaid : Prop := fnExactIsGoodScheduleRow.holds Try.pinned (OpenSpec.ofChange fnExactIsGoodScheduleSpec)

/-- ITS FALSE NEIGHBOUR: 'it returns false'. Refute it at one input. -/
def fnExactIsGoodScheduleWrong : ChangeSpec := { name := "fnExactIsGoodSchedule", fn := fun _ => fun
  | [d1, d2] => { results := [.lit (.bool false)], args := [d1, d2] }
  | _ => none }
def FnExactIsGoodScheduleWrongFalsely : Prop := fnExactIsGoodScheduleRow.holds Try.pinned (OpenSpec.ofChange fnExactIsGoodScheduleWrong)

/-- 'laws.FnExactCostToGo': WHATEVER THE INPUT: true; the input reads as it did. -/
def fnExactCostToGoSpec : ChangeSpec := { name := "fnExactCostToGo", fn := fun _ => fun
  | [d1, d2, d3] => { results := [.lit (.bool true)], args := [d1, d2, d3] }
  | _ => none }
def fnExactCostToGoRow : OpenClaim := { program := "ytofcienabddpjaa", sum := "394cfdc90f796d35a042695cc03d0ebf85fc907aaaa0b9af0a3536762124a6eb", func := "loop.example/g00853/laws.FnExactCostToGo", spec := "fnExactCostToGo", unfollowed := true, recurses := true, apart := false }
def FnExactCostToGoSaid : Prop := fnExactCostToGoRow.holds Try.pinned (OpenSpec.ofChange fnExactCostToGoSpec)

/-- ITS FALSE NEIGHBOUR: 'it returns false'. Refute it at one input. -/
def fnExactCostToGoWrong : ChangeSpec := { name := "fnExactCostToGo", fn := fun _ => fun
  | [d1, d2, d3] => { results := [.lit (.bool false)], args := [d1, d2, d3] }
  | _ => none }
def FnExactCostToGoWrongFalsely : Prop := fnExactCostToGoRow.holds Try.pinned (OpenSpec.ofChange fnExactCostToGoWrong)

/-- 'laws.FnExactScheduleCost': WHATEVER THE INPUT: true; the input reads as it did. -/
def fnExactScheduleCostSpec : ChangeSpec := { name := "fnExactScheduleCost", fn := fun _ => fun
  | [d1, d2] => { results := [.lit (.bool true)], args := [d1, d2] }
  | _ => none }
def fnExactScheduleCostRow : OpenClaim := { program := "ytofcienabddpjaa", sum := "394cfdc90f796d35a042695cc03d0ebf85fc907aaaa0b9af0a3536762124a6eb", func := "loop.example/g00853/laws.FnExactScheduleCost", spec := "fnExactScheduleCost", unfollowed := true, recurses := true, apart := false }
def FnExactScheduleCostSaid : Prop := fnExactScheduleCostRow.holds Try.pinned (OpenSpec.ofChange fnExactScheduleCostSpec)

/-- ITS FALSE NEIGHBOUR: 'it returns false'. Refute it at one input. -/
def fnExactScheduleCostWrong : ChangeSpec := { name := "fnExactScheduleCost", fn := fun _ => fun
  | [d1, d2] => { results := [.lit (.bool false)], args := [d1, d2] }
  | _ => none }
def FnExactScheduleCostWrongFalsely : Prop := fnExactScheduleCostRow.holds Try.pinned (OpenSpec.ofChange fnExactScheduleCostWrong)

/-- 'laws.FnExactShadowPrice': WHATEVER THE INPUT: true; the input reads as it did. -/
def fnExactShadowPriceSpec : ChangeSpec := { name := "fnExactShadowPrice", fn := fun _ => fun
  | [d1, d2, d3] => { results := [.lit (.bool true)], args := [d1, d2, d3] }
  | _ => none }
def fnExactShadowPriceRow : OpenClaim := { program := "ytofcienabddpjaa", sum := "394cfdc90f796d35a042695cc03d0ebf85fc907aaaa0b9af0a3536762124a6eb", func := "loop.example/g00853/laws.FnExactShadowPrice", spec := "fnExactShadowPrice", unfollowed := true, recurses := true, apart := false }
def FnExactShadowPriceSaid : Prop := fnExactShadowPriceRow.holds Try.pinned (OpenSpec.ofChange fnExactShadowPriceSpec)

/-- ITS FALSE NEIGHBOUR: 'it returns false'. Refute it at one input. -/
def fnExactShadowPriceWrong : ChangeSpec := { name := "fnExactShadowPrice", fn := fun _ => fun
  | [d1, d2, d3] => { results := [.lit (.bool false)], args := [d1, d2, d3] }
  | _ => none }
def FnExactShadowPriceWrongFalsely : Prop := fnExactShadowPriceRow.holds Try.pinned (OpenSpec.ofChange fnExactShadowPriceWrong)

/-- 'laws.FnExactEagerSchedule': WHATEVER THE INPUT: true; the input reads as it did. -/
def fnExactEagerScheduleSpec : ChangeSpec := { name := "fnExactEagerSchedule", fn := fun _ => fun
  | [d] => { results := [.lit (.bool true)], args := [d] }
  | _ => none }
def fnExactEagerScheduleRow : OpenClaim := { program := "ytofcienabddpjaa", sum := "394cfdc90f796d35a042695cc03d0ebf85fc907aaaa0b9af0a3536762124a6eb", func := "loop.example/g00853/laws.FnExactEagerSchedule", spec := "fnExactEagerSchedule", unfollowed := true, recurses := true, apart := false }
def FnExactEagerScheduleSaid : Prop := fnExactEagerScheduleRow.holds Try.pinned (OpenSpec.ofChange fnExactEagerScheduleSpec)

/-- ITS FALSE NEIGHBOUR: 'it returns false'. Refute it at one input. -/
def fnExactEagerScheduleWrong : ChangeSpec := { name := "fnExactEagerSchedule", fn := fun _ => fun
  | [d] => { results := [.lit (.bool false)], args := [d] }
  | _ => none }
def FnExactEagerScheduleWrongFalsely : Prop := fnExactEagerScheduleRow.holds Try.pinned (OpenSpec.ofChange fnExactEagerScheduleWrong)

/-- 'laws.FnExactLazySchedule': WHATEVER THE INPUT: true; the input reads as it did. -/
def fnExactLazyScheduleSpec : ChangeSpec := { name := "fnExactLazySchedule", fn := fun _ => fun
  | [d] => { results := [.lit (.bool true)], args := [d] }
  | _ => none }
def fnExactLazyScheduleRow : OpenClaim := { program := "ytofcienabddpjaa", sum := "394cfdc90f796d35a042695cc03d0ebf85fc907aaaa0b9af0a3536762124a6eb", func := "loop.example/g00853/laws.FnExactLazySchedule", spec := "fnExactLazySchedule", unfollowed := true, recurses := true, apart := false }
def FnExactLazyScheduleSaid : Prop := fnExactLazyScheduleRow.holds Try.pinned (OpenSpec.ofChange fnExactLazyScheduleSpec)

/-- ITS FALSE NEIGHBOUR: 'it returns false'. Refute it at one input. -/
def fnExactLazyScheduleWrong : ChangeSpec := { name := "fnExactLazySchedule", fn := fun _ => fun
  | [d] => { results := [.lit (.bool false)], args := [d] }
  | _ => none }
def FnExactLazyScheduleWrongFalsely : Prop := fnExactLazyScheduleRow.holds Try.pinned (OpenSpec.ofChange fnExactLazyScheduleWrong)

/-- 'laws.FnExactCheapestSchedule': WHATEVER THE INPUT: true; the input reads as it did. -/
def fnExactCheapestScheduleSpec : ChangeSpec := { name := "fnExactCheapestSchedule", fn := fun _ => fun
  | [d] => { results := [.lit (.bool true)], args := [d] }
  | _ => none }
def fnExactCheapestScheduleRow : OpenClaim := { program := "ytofcienabddpjaa", sum := "394cfdc90f796d35a042695cc03d0ebf85fc907aaaa0b9af0a3536762124a6eb", func := "loop.example/g00853/laws.FnExactCheapestSchedule", spec := "fnExactCheapestSchedule", unfollowed := true, recurses := true, apart := false }
def FnExactCheapestScheduleSaid : Prop := fnExactCheapestScheduleRow.holds Try.pinned (OpenSpec.ofChange fnExactCheapestScheduleSpec)

/-- ITS FALSE NEIGHBOUR: 'it returns false'. Refute it at one input. -/
def fnExactCheapestScheduleWrong : ChangeSpec := { name := "fnExactCheapestSchedule", fn := fun _ => fun
  | [d] => { results := [.lit (.bool false)], args := [d] }
  | _ => none }
def FnExactCheapestScheduleWrongFalsely : Prop := fnExactCheapestScheduleRow.holds Try.pinned (OpenSpec.ofChange fnExactCheapestScheduleWrong)

/-- 'laws.FnSchedules': WHATEVER THE INPUT: true; the input reads as it did. -/
def fnSchedulesSpec : ChangeSpec := { name := "fnSchedules", fn := fun _ => fun
  | [d] => { results := [.lit (.bool true)], args := [d] }
  | _ => none }
def fnSchedulesRow : OpenClaim := { program := "ytofcienabddpjaa", sum := "394cfdc90f796d35a042695cc03d0ebf85fc907aaaa0b9af0a3536762124a6eb", func := "loop.example/g00853/laws.FnSchedules", spec := "fnSchedules", unfollowed := true, recurses := true, apart := false }
def FnSchedulesSaid : Prop := fnSchedulesRow.holds Try.pinned (OpenSpec.ofChange fnSchedulesSpec)

/-- ITS FALSE NEIGHBOUR: 'it returns false'. Refute it at one input. -/
def fnSchedulesWrong : ChangeSpec := { name := "fnSchedules", fn := fun _ => fun
  | [d] => { results := [.lit (.bool false)], args := [d] }
  | _ => none }
def FnSchedulesWrongFalsely : Prop := fnSchedulesRow.holds Try.pinned (OpenSpec.ofChange fnSchedulesWrong)

/- THE SECOND FORM. 'bulk': how many values and letters a reading holds, each counted each time it is reached (what is shared counts as often as it is met; a slice's spare places count too). A statement '..UptoSaid' is the law's where the arguments, and the package variables that the reading takes, are together of bulk at most 1048576: NARROWER than '..Said'. Prove '..Said' where nothing that the law and all that it calls make is longer than what came in: it says more and counts as full. Else prove '..UptoSaid'. A law counts once. -/
mutual
def uptoBulk {H : Type} : DataW H → Nat
  | .lit (.string bytes) => bytes.length + 1
  | .lit _ => 1
  | .nil => 1
  | .ptr d => uptoBulk d + 1
  | .slice elems spare => uptoBulkAll elems + uptoBulkAll spare + 1
  | .agg parts => uptoBulkAll parts + 1
  | .iface _ d => uptoBulk d + 1
  | .map entries => uptoBulkEntries entries + 1
  | .held _ => 1
def uptoBulkAll {H : Type} : List (DataW H) → Nat
  | [] => 0
  | d :: r => uptoBulk d + uptoBulkAll r
def uptoBulkEntries {H : Type} : List (Lit × DataW H) → Nat
  | [] => 0
  | x :: r => uptoBulkEntry x + uptoBulkEntries r
def uptoBulkEntry {H : Type} : Lit × DataW H → Nat
  | (.string bytes, d) => bytes.length + uptoBulk d + 1
  | (_, d) => uptoBulk d + 1
 end
def uptoSmall : (H : Type) → List (DataW H) → Bool := fun _ ds => decide (uptoBulkAll ds ≤ 1048576)
def OpenSpec.upto (s : _root_.Go.ChangeSpec) : _root_.Go.OpenSpec := { _root_.Go.OpenSpec.ofChange s with cond := some uptoSmall }

/-- 'laws.FnCosts', WHERE WHAT IT READS IS OF BULK AT MOST 1048576: true; the input reads as it did. -/
def fnCostsUptoRow : OpenClaim := { program := "ytofcienabddpjaa", sum := "394cfdc90f796d35a042695cc03d0ebf85fc907aaaa0b9af0a3536762124a6eb", func := "loop.example/g00853/laws.FnCosts", spec := "fnCosts", unfollowed := true, recurses := true, apart := false, narrowed := true }
def FnCostsUptoSaid : Prop := fnCostsUptoRow.holds Try.pinned (OpenSpec.upto fnCostsSpec)

/-- 'laws.FnExactIsValidPumping', WHERE WHAT IT READS IS OF BULK AT MOST 1048576: true; the input reads as it did. -/
def fnExactIsValidPumpingUptoRow : OpenClaim := { program := "ytofcienabddpjaa", sum := "394cfdc90f796d35a042695cc03d0ebf85fc907aaaa0b9af0a3536762124a6eb", func := "loop.example/g00853/laws.FnExactIsValidPumping", spec := "fnExactIsValidPumping", unfollowed := true, recurses := true, apart := false, narrowed := true }
def FnExactIsValidPumpingUptoSaid : Prop := fnExactIsValidPumpingUptoRow.holds Try.pinned (OpenSpec.upto fnExactIsValidPumpingSpec)

/-- 'laws.FnExactIsGoodSchedule', WHERE WHAT IT READS IS OF BULK AT MOST 1048576: true; the input reads as it did. -/
def fnExactIsGoodScheduleUptoRow : OpenClaim := { program := "ytofcienabddpjaa", sum := "394cfdc90f796d35a042695cc03d0ebf85fc907aaaa0b9af0a3536762124a6eb", func := "loop.example/g00853/laws.FnExactIsGoodSchedule", spec := "fnExactIsGoodSchedule", unfollowed := true, recurses := true, apart := false, narrowed := true }
def FnExactIsGoodScheduleUptoSaid : Prop := fnExactIsGoodScheduleUptoRow.holds Try.pinned (OpenSpec.upto fnExactIsGoodScheduleSpec)

/-- 'laws.FnExactCostToGo', WHERE WHAT IT READS IS OF BULK AT MOST 1048576: true; the input reads as it did. -/
def fnExactCostToGoUptoRow : OpenClaim := { program := "ytofcienabddpjaa", sum := "394cfdc90f796d35a042695cc03d0ebf85fc907aaaa0b9af0a3536762124a6eb", func := "loop.example/g00853/laws.FnExactCostToGo", spec := "fnExactCostToGo", unfollowed := true, recurses := true, apart := false, narrowed := true }
def FnExactCostToGoUptoSaid : Prop := fnExactCostToGoUptoRow.holds Try.pinned (OpenSpec.upto fnExactCostToGoSpec)

/-- 'laws.FnExactScheduleCost', WHERE WHAT IT READS IS OF BULK AT MOST 1048576: true; the input reads as it did. -/
def fnExactScheduleCostUptoRow : OpenClaim := { program := "ytofcienabddpjaa", sum := "394cfdc90f796d35a042695cc03d0ebf85fc907aaaa0b9af0a3536762124a6eb", func := "loop.example/g00853/laws.FnExactScheduleCost", spec := "fnExactScheduleCost", unfollowed := true, recurses := true, apart := false, narrowed := true }
def FnExactScheduleCostUptoSaid : Prop := fnExactScheduleCostUptoRow.holds Try.pinned (OpenSpec.upto fnExactScheduleCostSpec)

/-- 'laws.FnExactShadowPrice', WHERE WHAT IT READS IS OF BULK AT MOST 1048576: true; the input reads as it did. -/
def fnExactShadowPriceUptoRow : OpenClaim := { program := "ytofcienabddpjaa", sum := "394cfdc90f796d35a042695cc03d0ebf85fc907aaaa0b9af0a3536762124a6eb", func := "loop.example/g00853/laws.FnExactShadowPrice", spec := "fnExactShadowPrice", unfollowed := true, recurses := true, apart := false, narrowed := true }
def FnExactShadowPriceUptoSaid : Prop := fnExactShadowPriceUptoRow.holds Try.pinned (OpenSpec.upto fnExactShadowPriceSpec)

/-- 'laws.FnExactEagerSchedule', WHERE WHAT IT READS IS OF BULK AT MOST 1048576: true; the input reads as it did. -/
def fnExactEagerScheduleUptoRow : OpenClaim := { program := "ytofcienabddpjaa", sum := "394cfdc90f796d35a042695cc03d0ebf85fc907aaaa0b9af0a3536762124a6eb", func := "loop.example/g00853/laws.FnExactEagerSchedule", spec := "fnExactEagerSchedule", unfollowed := true, recurses := true, apart := false, narrowed := true }
def FnExactEagerScheduleUptoSaid : Prop := fnExactEagerScheduleUptoRow.holds Try.pinned (OpenSpec.upto fnExactEagerScheduleSpec)

/-- 'laws.FnExactLazySchedule', WHERE WHAT IT READS IS OF BULK AT MOST 1048576: true; the input reads as it did. -/
def fnExactLazyScheduleUptoRow : OpenClaim := { program := "ytofcienabddpjaa", sum := "394cfdc90f796d35a042695cc03d0ebf85fc907aaaa0b9af0a3536762124a6eb", func := "loop.example/g00853/laws.FnExactLazySchedule", spec := "fnExactLazySchedule", unfollowed := true, recurses := true, apart := false, narrowed := true }
def FnExactLazyScheduleUptoSaid : Prop := fnExactLazyScheduleUptoRow.holds Try.pinned (OpenSpec.upto fnExactLazyScheduleSpec)

/-- 'laws.FnExactCheapestSchedule', WHERE WHAT IT READS IS OF BULK AT MOST 1048576: true; the input reads as it did. -/
def fnExactCheapestScheduleUptoRow : OpenClaim := { program := "ytofcienabddpjaa", sum := "394cfdc90f796d35a042695cc03d0ebf85fc907aaaa0b9af0a3536762124a6eb", func := "loop.example/g00853/laws.FnExactCheapestSchedule", spec := "fnExactCheapestSchedule", unfollowed := true, recurses := true, apart := false, narrowed := true }
def FnExactCheapestScheduleUptoSaid : Prop := fnExactCheapestScheduleUptoRow.holds Try.pinned (OpenSpec.upto fnExactCheapestScheduleSpec)

/-- 'laws.FnSchedules', WHERE WHAT IT READS IS OF BULK AT MOST 1048576: true; the input reads as it did. -/
def fnSchedulesUptoRow : OpenClaim := { program := "ytofcienabddpjaa", sum := "394cfdc90f796d35a042695cc03d0ebf85fc907aaaa0b9af0a3536762124a6eb", func := "loop.example/g00853/laws.FnSchedules", spec := "fnSchedules", unfollowed := true, recurses := true, apart := false, narrowed := true }
def FnSchedulesUptoSaid : Prop := fnSchedulesUptoRow.holds Try.pinned (OpenSpec.upto fnSchedulesSpec)

end Rows
end Go.Proofs.Ytofcienabddpjaa
