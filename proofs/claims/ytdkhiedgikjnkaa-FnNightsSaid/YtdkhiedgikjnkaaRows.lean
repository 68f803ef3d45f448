/-
  No cell of these rows narrows 'for every input' (looked for: loops, veiled, ifaces, maps, wideKeys, modest, calm, conditions, laid).
  DERIVED. THE GIVEN ROWS OF THIS SEAT. 9 by the template 'for every input the law returns true; each argument reads behind the call as it read before'; 0 by the template 'total and deterministic' (their statements: YtdkhiedgikjnkaaTotals.lean).
  GIVEN WITH THE SEED: the statements are not yours to turn. If you find one false, say at which input.
  Laid BY PROGRAM, IN A SANDBOX (cutbox-rows.mjs): the forced cells as the released guide's own fill.sh prints them over the translation b466ceda248ebfa2… (all of the seat's roots in one cut). By AI agents, Wed Nov 11 2026. No macro, syntax, notation, axiom, sorry.
-/
import Derived.Test.YtdkhiedgikjnkaaChecked
import GoSem.Claim
import GoSem.ClaimJoined
import GoSem.ClaimMapViews
import Derived.JoinedTies
import Derived.KernelRfl
namespace Go.Proofs.Ytdkhiedgikjnkaa
/- THE CELL 'sum', in the pinned program and in every row, IS THE sha256 OF THE DUMP (.gsa) THAT YtdkhiedgikjnkaaProg.lean LOADS. Nothing in Lean hashes anything: it is a label: what it is worth is what the hold of that sum in a sandbox is worth. -/
noncomputable def Try.pinned : Pinned := { name := "ytdkhiedgikjnkaa", sum := "b466ceda248ebfa2447d0f4226fecf43176d027f2db24b53d062d242ccbe73c0", checked := Try.checked }
namespace Rows
def none {H : Type} : Left H := { results := [], args := [] }

/-- 'laws.FnExactStepTest': WHATEVER THE INPUT: true; the input reads as it did. -/
def fnExactStepTestSpec : ChangeSpec := { name := "fnExactStepTest", fn := fun _ => fun
  | [d] => { results := [.lit (.bool true)], args := [d] }
  | _ => none }
def fnExactStepTestRow : OpenClaim := { program := "ytdkhiedgikjnkaa", sum := "b466ceda248ebfa2447d0f4226fecf43176d027f2db24b53d062d242ccbe73c0", func := "loop.example/g00853/laws.FnExactStepTest", spec := "fnExactStepTest", unfollowed := true, recurses := true, apart := false }
def FnExactStepTestSaid : Prop := fnExactStepTestRow.holds Try.pinned (OpenSpec.ofChange fnExactStepTestSpec)

/-- ITS FALSE NEIGHBOUR: 'it returns false'. Refute it at one input. -/
def fnExactStepTestWrong : ChangeSpec := { name := "fnExactStepTest", fn := fun _ => fun
  | [d] => { results := [.lit (.bool false)], args := [d] }
  | _ => none }
def FnExactStepTestWrongFalsely : Prop := fnExactStepTestRow.holds Try.pinned (OpenSpec.ofChange fnExactStepTestWrong)

/-- 'laws.FnExactIsValidArea': WHATEVER THE INPUT: true; the input reads as it did. -/
def fnExactIsValidAreaSpec : ChangeSpec := { name := "fnExactIsValidArea", fn := fun _ => fun
  | [d] => { results := [.lit (.bool true)], args := [d] }
  | _ => none }
def fnExactIsValidAreaRow : OpenClaim := { program := "ytdkhiedgikjnkaa", sum := "b466ceda248ebfa2447d0f4226fecf43176d027f2db24b53d062d242ccbe73c0", func := "loop.example/g00853/laws.FnExactIsValidArea", spec := "fnExactIsValidArea", unfollowed := true, recurses := true, apart := false }
def FnExactIsValidAreaSaid : Prop := fnExactIsValidAreaRow.holds Try.pinned (OpenSpec.ofChange fnExactIsValidAreaSpec)

/-- ITS FALSE NEIGHBOUR: 'it returns false'. Refute it at one input. -/
def fnExactIsValidAreaWrong : ChangeSpec := { name := "fnExactIsValidArea", fn := fun _ => fun
  | [d] => { results := [.lit (.bool false)], args := [d] }
  | _ => none }
def FnExactIsValidAreaWrongFalsely : Prop := fnExactIsValidAreaRow.holds Try.pinned (OpenSpec.ofChange fnExactIsValidAreaWrong)

/-- 'laws.FnExactLostUntil': WHATEVER THE INPUT: true; the input reads as it did. -/
def fnExactLostUntilSpec : ChangeSpec := { name := "fnExactLostUntil", fn := fun _ => fun
  | [d1, d2, d3] => { results := [.lit (.bool true)], args := [d1, d2, d3] }
  | _ => none }
def fnExactLostUntilRow : OpenClaim := { program := "ytdkhiedgikjnkaa", sum := "b466ceda248ebfa2447d0f4226fecf43176d027f2db24b53d062d242ccbe73c0", func := "loop.example/g00853/laws.FnExactLostUntil", spec := "fnExactLostUntil", apart := false }
def FnExactLostUntilSaid : Prop := fnExactLostUntilRow.holds Try.pinned (OpenSpec.ofChange fnExactLostUntilSpec)

/-- ITS FALSE NEIGHBOUR: 'it returns false'. Refute it at one input. -/
def fnExactLostUntilWrong : ChangeSpec := { name := "fnExactLostUntil", fn := fun _ => fun
  | [d1, d2, d3] => { results := [.lit (.bool false)], args := [d1, d2, d3] }
  | _ => none }
def FnExactLostUntilWrongFalsely : Prop := fnExactLostUntilRow.holds Try.pinned (OpenSpec.ofChange fnExactLostUntilWrong)

/-- 'laws.FnExactLossOn': WHATEVER THE INPUT: true; the input reads as it did. -/
def fnExactLossOnSpec : ChangeSpec := { name := "fnExactLossOn", fn := fun _ => fun
  | [d1, d2] => { results := [.lit (.bool true)], args := [d1, d2] }
  | _ => none }
def fnExactLossOnRow : OpenClaim := { program := "ytdkhiedgikjnkaa", sum := "b466ceda248ebfa2447d0f4226fecf43176d027f2db24b53d062d242ccbe73c0", func := "loop.example/g00853/laws.FnExactLossOn", spec := "fnExactLossOn", unfollowed := true, recurses := true, apart := false }
def FnExactLossOnSaid : Prop := fnExactLossOnRow.holds Try.pinned (OpenSpec.ofChange fnExactLossOnSpec)

/-- ITS FALSE NEIGHBOUR: 'it returns false'. Refute it at one input. -/
def fnExactLossOnWrong : ChangeSpec := { name := "fnExactLossOn", fn := fun _ => fun
  | [d1, d2] => { results := [.lit (.bool false)], args := [d1, d2] }
  | _ => none }
def FnExactLossOnWrongFalsely : Prop := fnExactLossOnRow.holds Try.pinned (OpenSpec.ofChange fnExactLossOnWrong)

/-- 'laws.FnExactGrowingNights': WHATEVER THE INPUT: true; the input reads as it did. -/
def fnExactGrowingNightsSpec : ChangeSpec := { name := "fnExactGrowingNights", fn := fun _ => fun
  | [d] => { results := [.lit (.bool true)], args := [d] }
  | _ => none }
def fnExactGrowingNightsRow : OpenClaim := { program := "ytdkhiedgikjnkaa", sum := "b466ceda248ebfa2447d0f4226fecf43176d027f2db24b53d062d242ccbe73c0", func := "loop.example/g00853/laws.FnExactGrowingNights", spec := "fnExactGrowingNights", unfollowed := true, recurses := true, apart := false }
def FnExactGrowingNightsSaid : Prop := fnExactGrowingNightsRow.holds Try.pinned (OpenSpec.ofChange fnExactGrowingNightsSpec)

/-- ITS FALSE NEIGHBOUR: 'it returns false'. Refute it at one input. -/
def fnExactGrowingNightsWrong : ChangeSpec := { name := "fnExactGrowingNights", fn := fun _ => fun
  | [d] => { results := [.lit (.bool false)], args := [d] }
  | _ => none }
def FnExactGrowingNightsWrongFalsely : Prop := fnExactGrowingNightsRow.holds Try.pinned (OpenSpec.ofChange fnExactGrowingNightsWrong)

/-- 'laws.FnExactBurstNight': WHATEVER THE INPUT: true; the input reads as it did. -/
def fnExactBurstNightSpec : ChangeSpec := { name := "fnExactBurstNight", fn := fun _ => fun
  | [d1, d2] => { results := [.lit (.bool true)], args := [d1, d2] }
  | _ => none }
def fnExactBurstNightRow : OpenClaim := { program := "ytdkhiedgikjnkaa", sum := "b466ceda248ebfa2447d0f4226fecf43176d027f2db24b53d062d242ccbe73c0", func := "loop.example/g00853/laws.FnExactBurstNight", spec := "fnExactBurstNight", unfollowed := true, recurses := true, apart := false }
def FnExactBurstNightSaid : Prop := fnExactBurstNightRow.holds Try.pinned (OpenSpec.ofChange fnExactBurstNightSpec)

/-- ITS FALSE NEIGHBOUR: 'it returns false'. Refute it at one input. -/
def fnExactBurstNightWrong : ChangeSpec := { name := "fnExactBurstNight", fn := fun _ => fun
  | [d1, d2] => { results := [.lit (.bool false)], args := [d1, d2] }
  | _ => none }
def FnExactBurstNightWrongFalsely : Prop := fnExactBurstNightRow.holds Try.pinned (OpenSpec.ofChange fnExactBurstNightWrong)

/-- 'laws.FnExactMeanLoss': WHATEVER THE INPUT: true; the input reads as it did. -/
def fnExactMeanLossSpec : ChangeSpec := { name := "fnExactMeanLoss", fn := fun _ => fun
  | [d] => { results := [.lit (.bool true)], args := [d] }
  | _ => none }
def fnExactMeanLossRow : OpenClaim := { program := "ytdkhiedgikjnkaa", sum := "b466ceda248ebfa2447d0f4226fecf43176d027f2db24b53d062d242ccbe73c0", func := "loop.example/g00853/laws.FnExactMeanLoss", spec := "fnExactMeanLoss", unfollowed := true, recurses := true, apart := false }
def FnExactMeanLossSaid : Prop := fnExactMeanLossRow.holds Try.pinned (OpenSpec.ofChange fnExactMeanLossSpec)

/-- ITS FALSE NEIGHBOUR: 'it returns false'. Refute it at one input. -/
def fnExactMeanLossWrong : ChangeSpec := { name := "fnExactMeanLoss", fn := fun _ => fun
  | [d] => { results := [.lit (.bool false)], args := [d] }
  | _ => none }
def FnExactMeanLossWrongFalsely : Prop := fnExactMeanLossRow.holds Try.pinned (OpenSpec.ofChange fnExactMeanLossWrong)

/-- 'laws.FnNights': WHATEVER THE INPUT: true; the input reads as it did. -/
def fnNightsSpec : ChangeSpec := { name := "fnNights", fn := fun _ => fun
  | [d] => { results := [.lit (.bool true)], args := [d] }
  | _ => none }
def fnNightsRow : OpenClaim := { program := "ytdkhiedgikjnkaa", sum := "b466ceda248ebfa2447d0f4226fecf43176d027f2db24b53d062d242ccbe73c0", func := "loop.example/g00853/laws.FnNights", spec := "fnNights", unfollowed := true, recurses := true, apart := false }
def FnNightsSaid : Prop := fnNightsRow.holds Try.pinned (OpenSpec.ofChange fnNightsSpec)

/-- ITS FALSE NEIGHBOUR: 'it returns false'. Refute it at one input. -/
def fnNightsWrong : ChangeSpec := { name := "fnNights", fn := fun _ => fun
  | [d] => { results := [.lit (.bool false)], args := [d] }
  | _ => none }
def FnNightsWrongFalsely : Prop := fnNightsRow.holds Try.pinned (OpenSpec.ofChange fnNightsWrong)

/-- 'laws.FnExactRepairOrder': WHATEVER THE INPUT: true; the input reads as it did. -/
def fnExactRepairOrderSpec : ChangeSpec := { name := "fnExactRepairOrder", fn := fun _ => fun
  | [d1, d2] => { results := [.lit (.bool true)], args := [d1, d2] }
  | _ => none }
def fnExactRepairOrderRow : OpenClaim := { program := "ytdkhiedgikjnkaa", sum := "b466ceda248ebfa2447d0f4226fecf43176d027f2db24b53d062d242ccbe73c0", func := "loop.example/g00853/laws.FnExactRepairOrder", spec := "fnExactRepairOrder", unfollowed := true, recurses := true, apart := false }
def FnExactRepairOrderSaid : Prop := fnExactRepairOrderRow.holds Try.pinned (OpenSpec.ofChange fnExactRepairOrderSpec)

/-- ITS FALSE NEIGHBOUR: 'it returns false'. Refute it at one input. -/
def fnExactRepairOrderWrong : ChangeSpec := { name := "fnExactRepairOrder", fn := fun _ => fun
  | [d1, d2] => { results := [.lit (.bool false)], args := [d1, d2] }
  | _ => none }
def FnExactRepairOrderWrongFalsely : Prop := fnExactRepairOrderRow.holds Try.pinned (OpenSpec.ofChange fnExactRepairOrderWrong)

/- THE SECOND FORM. 'bulk': how many values and letters a reading holds, each counted each time it is reached (what is shared counts as often as it is met; a slice's spare places count too). A statement '..UptoSaid' is the law's where the arguments, and the package variables that the reading takes, are together of bulk at most 1048576: NARROWER than '..Said'. Prove '..Said' where nothing that the law and all that it calls make is longer than what came in: it says more and counts as full. Else prove '..UptoSaid'. A law counts once. -/
mutual
def uptoBulk {H : Type} : DataW H → Nat
  | .lit (.string bytes) => bytes.length + 1
  | .lit _ => 1
  | .nil => 1
  | .ptr d => uptoBulk d + 1
  | .slice elems spare => uptoBulkAll elems + uptoBulkAll spare + 1
  | .agg parts => uptoBulkAll parts + 1
  | .iface _ d => uptoBulk d + 1
  | .map entries => uptoBulkEntries entries + 1
  | .held _ => 1
def uptoBulkAll {H : Type} : List (DataW H) → Nat
  | [] => 0
  | d :: r => uptoBulk d + uptoBulkAll r
def uptoBulkEntries {H : Type} : List (Lit × DataW H) → Nat
  | [] => 0
  | x :: r => uptoBulkEntry x + uptoBulkEntries r
def uptoBulkEntry {H : Type} : Lit × DataW H → Nat
  | (.string bytes, d) => bytes.length + uptoBulk d + 1
  | (_, d) => uptoBulk d + 1
 end
def uptoSmall : (H : Type) → List (DataW H) → Bool := fun _ ds => decide (uptoBulkAll ds ≤ 1048576)
def OpenSpec.upto (s : _root_.Go.ChangeSpec) : _root_.Go.OpenSpec := { _root_.Go.OpenSpec.ofChange s with cond := some uptoSmall }

/-- 'laws.FnExactStepTest', WHERE WHAT IT READS IS OF BULK AT MOST 1048576: true; the input reads as it did. -/
def fnExactStepTestUptoRow : OpenClaim := { program := "ytdkhiedgikjnkaa", sum := "b466ceda248ebfa2447d0f4226fecf43176d027f2db24b53d062d242ccbe73c0", func := "loop.example/g00853/laws.FnExactStepTest", spec := "fnExactStepTest", unfollowed := true, recurses := true, apart := false, narrowed := true }
def FnExactStepTestUptoSaid : Prop := fnExactStepTestUptoRow.holds Try.pinned (OpenSpec.upto fnExactStepTestSpec)

/-- 'laws.FnExactIsValidArea', WHERE WHAT IT READS IS OF BULK AT MOST 1048576: true; the input reads as it did. -/
def fnExactIsValidAreaUptoRow : OpenClaim := { program := "ytdkhiedgikjnkaa", sum := "b466ceda248ebfa2447d0f4226fecf43176d027f2db24b53d062d242ccbe73c0", func := "loop.example/g00853/laws.FnExactIsValidArea", spec := "fnExactIsValidArea", unfollowed := true, recurses := true, apart := false, narrowed := true }
def FnExactIsValidAreaUptoSaid : Prop := fnExactIsValidAreaUptoRow.holds Try.pinned (OpenSpec.upto fnExactIsValidAreaSpec)

/-- 'laws.FnExactLostUntil', WHERE WHAT IT READS IS OF BULK AT MOST 1048576: true; the input reads as it did. -/
def fnExactLostUntilUptoRow : OpenClaim := { program := "ytdkhiedgikjnkaa", sum := "b466ceda248ebfa2447d0f4226fecf43176d027f2db24b53d062d242ccbe73c0", func := "loop.example/g00853/laws.FnExactLostUntil", spec := "fnExactLostUntil", apart := false, narrowed := true }
def FnExactLostUntilUptoSaid : Prop := fnExactLostUntilUptoRow.holds Try.pinned (OpenSpec.upto fnExactLostUntilSpec)

/-- 'laws.FnExactLossOn', WHERE WHAT IT READS IS OF BULK AT MOST 1048576: true; the input reads as it did. -/
def fnExactLossOnUptoRow : OpenClaim := { program := "ytdkhiedgikjnkaa", sum := "b466ceda248ebfa2447d0f4226fecf43176d027f2db24b53d062d242ccbe73c0", func := "loop.example/g00853/laws.FnExactLossOn", spec := "fnExactLossOn", unfollowed := true, recurses := true, apart := false, narrowed := true }
def FnExactLossOnUptoSaid : Prop := fnExactLossOnUptoRow.holds Try.pinned (OpenSpec.upto fnExactLossOnSpec)

/-- 'laws.FnExactGrowingNights', WHERE WHAT IT READS IS OF BULK AT MOST 1048576: true; the input reads as it did. -/
def fnExactGrowingNightsUptoRow : OpenClaim := { program := "ytdkhiedgikjnkaa", sum := "b466ceda248ebfa2447d0f4226fecf43176d027f2db24b53d062d242ccbe73c0", func := "loop.example/g00853/laws.FnExactGrowingNights", spec := "fnExactGrowingNights", unfollowed := true, recurses := true, apart := false, narrowed := true }
def FnExactGrowingNightsUptoSaid : Prop := fnExactGrowingNightsUptoRow.holds Try.pinned (OpenSpec.upto fnExactGrowingNightsSpec)

/-- 'laws.FnExactBurstNight', WHERE WHAT IT READS IS OF BULK AT MOST 1048576: true; the input reads as it did. -/
def fnExactBurstNightUptoRow : OpenClaim := { program := "ytdkhiedgikjnkaa", sum := "b466ceda248ebfa2447d0f4226fecf43176d027f2db24b53d062d242ccbe73c0", func := "loop.example/g00853/laws.FnExactBurstNight", spec := "fnExactBurstNight", unfollowed := true, recurses := true, apart := false, narrowed := true }
def FnExactBurstNightUptoSaid : Prop := fnExactBurstNightUptoRow.holds Try.pinned (OpenSpec.upto fnExactBurstNightSpec)

/-- 'laws.FnExactMeanLoss', WHERE WHAT IT READS IS OF BULK AT MOST 1048576: true; the input reads as it did. -/
def fnExactMeanLossUptoRow : OpenClaim := { program := "ytdkhiedgikjnkaa", sum := "b466ceda248ebfa2447d0f4226fecf43176d027f2db24b53d062d242ccbe73c0", func := "loop.example/g00853/laws.FnExactMeanLoss", spec := "fnExactMeanLoss", unfollowed := true, recurses := true, apart := false, narrowed := true }
def FnExactMeanLossUptoSaid : Prop := fnExactMeanLossUptoRow.holds Try.pinned (OpenSpec.upto fnExactMeanLossSpec)

/-- 'laws.FnNights', WHERE WHAT IT READS IS OF BULK AT MOST 1048576: true; the input reads as it did. -/
def fnNightsUptoRow : OpenClaim := { program := "ytdkhiedgikjnkaa", sum := "b466ceda248ebfa2447d0f4226fecf43176d027f2db24b53d062d242ccbe73c0", func := "loop.example/g00853/laws.FnNights", spec := "fnNights", unfollowed := true, recurses := true, apart := false, narrowed := true }
def FnNightsUptoSaid : Prop := fnNightsUptoRow.holds Try.pinned (OpenSpec.upto fnNightsSpec)

/-- 'laws.FnExactRepairOrder', WHERE WHAT IT READS IS OF BULK AT MOST 1048576: true; the input reads as it did. -/
def fnExactRepairOrderUptoRow : OpenClaim := { program := "ytdkhiedgikjnkaa", sum := "b466ceda248ebfa2447d0f4226fecf43176d027f2db24b53d062d242ccbe73c0", func := "loop.example/g00853/laws.FnExactRepairOrder", spec := "fnExactRepairOrder", unfollowed := true, recurses := true, apart := false, narrowed := true }
def FnExactRepairOrderUptoSaid : Prop := fnExactRepairOrderUptoRow.holds Try.pinned (OpenSpec.upto fnExactRepairOrderSpec)

end Rows
end Go.Proofs.Ytdkhiedgikjnkaa
