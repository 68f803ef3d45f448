/-
  No cell of these rows narrows 'for every input' (looked for: loops, veiled, ifaces, maps, wideKeys, modest, calm, conditions, laid).
  DERIVED. THE GIVEN ROWS OF THIS SEAT. 9 by the template 'for every input the law returns true; each argument reads behind the call as it read before'; 0 by the template 'total and deterministic' (their statements: YtakpoalcfjedlaaTotals.lean).
  GIVEN WITH THE SEED: the statements are not yours to turn. If you find one false, say at which input.
  Laid BY PROGRAM, IN A SANDBOX (cutbox-rows.mjs): the forced cells as the released guide's own fill.sh prints them over the translation 2d35df4643c6d2c0… (all of the seat's roots in one cut). By AI agents, Wed Nov 11 2026. No macro, syntax, notation, axiom, sorry.
-/
import Derived.Test.YtakpoalcfjedlaaChecked
import GoSem.Claim
import GoSem.ClaimJoined
import GoSem.ClaimMapViews
import Derived.JoinedTies
import Derived.KernelRfl
namespace Go.Proofs.Ytakpoalcfjedlaa
/- THE CELL 'sum', in the pinned program and in every row, IS THE sha256 OF THE DUMP (.gsa) THAT YtakpoalcfjedlaaProg.lean LOADS. Nothing in Lean hashes anything: it is a label: what it is worth is what the hold of that sum in a sandbox is worth. -/
noncomputable def Try.pinned : Pinned := { name := "ytakpoalcfjedlaa", sum := "2d35df4643c6d2c0b33c70989095dca308e0bf05798fbaf1661d15b6e7db738f", checked := Try.checked }
namespace Rows
def none {H : Type} : Left H := { results := [], args := [] }

/-- 'laws.FnExactPressuresAt': WHATEVER THE INPUT: true; the input reads as it did. -/
def fnExactPressuresAtSpec : ChangeSpec := { name := "fnExactPressuresAt", fn := fun _ => fun
  | [d1, d2] => { results := [.lit (.bool true)], args := [d1, d2] }
  | _ => none }
def fnExactPressuresAtRow : OpenClaim := { program := "ytakpoalcfjedlaa", sum := "2d35df4643c6d2c0b33c70989095dca308e0bf05798fbaf1661d15b6e7db738f", func := "loop.example/g00853/laws.FnExactPressuresAt", spec := "fnExactPressuresAt", unfollowed := true, recurses := true, apart := false }
def FnExactPressuresAtSaid : Prop := fnExactPressuresAtRow.holds Try.pinned (OpenSpec.ofChange fnExactPressuresAtSpec)

/-- ITS FALSE NEIGHBOUR: 'it returns false'. Refute it at one input. -/
def fnExactPressuresAtWrong : ChangeSpec := { name := "fnExactPressuresAt", fn := fun _ => fun
  | [d1, d2] => { results := [.lit (.bool false)], args := [d1, d2] }
  | _ => none }
def FnExactPressuresAtWrongFalsely : Prop := fnExactPressuresAtRow.holds Try.pinned (OpenSpec.ofChange fnExactPressuresAtWrong)

/-- 'laws.FnExactRaisePlaces': WHATEVER THE INPUT: true; the input reads as it did. -/
def fnExactRaisePlacesSpec : ChangeSpec := { name := "fnExactRaisePlaces", fn := fun _ => fun
  | [d1, d2] => { results := [.lit (.bool true)], args := [d1, d2] }
  | _ => none }
def fnExactRaisePlacesRow : OpenClaim := { program := "ytakpoalcfjedlaa", sum := "2d35df4643c6d2c0b33c70989095dca308e0bf05798fbaf1661d15b6e7db738f", func := "loop.example/g00853/laws.FnExactRaisePlaces", spec := "fnExactRaisePlaces", unfollowed := true, recurses := true, apart := false }
def FnExactRaisePlacesSaid : Prop := fnExactRaisePlacesRow.holds Try.pinned (OpenSpec.ofChange fnExactRaisePlacesSpec)

/-- ITS FALSE NEIGHBOUR: 'it returns false'. Refute it at one input. -/
def fnExactRaisePlacesWrong : ChangeSpec := { name := "fnExactRaisePlaces", fn := fun _ => fun
  | [d1, d2] => { results := [.lit (.bool false)], args := [d1, d2] }
  | _ => none }
def FnExactRaisePlacesWrongFalsely : Prop := fnExactRaisePlacesRow.holds Try.pinned (OpenSpec.ofChange fnExactRaisePlacesWrong)

/-- 'laws.FnExactBestLevel': WHATEVER THE INPUT: true; the input reads as it did. -/
def fnExactBestLevelSpec : ChangeSpec := { name := "fnExactBestLevel", fn := fun _ => fun
  | [d1, d2] => { results := [.lit (.bool true)], args := [d1, d2] }
  | _ => none }
def fnExactBestLevelRow : OpenClaim := { program := "ytakpoalcfjedlaa", sum := "2d35df4643c6d2c0b33c70989095dca308e0bf05798fbaf1661d15b6e7db738f", func := "loop.example/g00853/laws.FnExactBestLevel", spec := "fnExactBestLevel", unfollowed := true, recurses := true, apart := false }
def FnExactBestLevelSaid : Prop := fnExactBestLevelRow.holds Try.pinned (OpenSpec.ofChange fnExactBestLevelSpec)

/-- ITS FALSE NEIGHBOUR: 'it returns false'. Refute it at one input. -/
def fnExactBestLevelWrong : ChangeSpec := { name := "fnExactBestLevel", fn := fun _ => fun
  | [d1, d2] => { results := [.lit (.bool false)], args := [d1, d2] }
  | _ => none }
def FnExactBestLevelWrongFalsely : Prop := fnExactBestLevelRow.holds Try.pinned (OpenSpec.ofChange fnExactBestLevelWrong)

/-- 'laws.FnExactSuitedPlaces': WHATEVER THE INPUT: true; the input reads as it did. -/
def fnExactSuitedPlacesSpec : ChangeSpec := { name := "fnExactSuitedPlaces", fn := fun _ => fun
  | [d1, d2, d3] => { results := [.lit (.bool true)], args := [d1, d2, d3] }
  | _ => none }
def fnExactSuitedPlacesRow : OpenClaim := { program := "ytakpoalcfjedlaa", sum := "2d35df4643c6d2c0b33c70989095dca308e0bf05798fbaf1661d15b6e7db738f", func := "loop.example/g00853/laws.FnExactSuitedPlaces", spec := "fnExactSuitedPlaces", unfollowed := true, recurses := true, apart := false }
def FnExactSuitedPlacesSaid : Prop := fnExactSuitedPlacesRow.holds Try.pinned (OpenSpec.ofChange fnExactSuitedPlacesSpec)

/-- ITS FALSE NEIGHBOUR: 'it returns false'. Refute it at one input. -/
def fnExactSuitedPlacesWrong : ChangeSpec := { name := "fnExactSuitedPlaces", fn := fun _ => fun
  | [d1, d2, d3] => { results := [.lit (.bool false)], args := [d1, d2, d3] }
  | _ => none }
def FnExactSuitedPlacesWrongFalsely : Prop := fnExactSuitedPlacesRow.holds Try.pinned (OpenSpec.ofChange fnExactSuitedPlacesWrong)

/-- 'laws.FnExactSuitingLevels': WHATEVER THE INPUT: true; the input reads as it did. -/
def fnExactSuitingLevelsSpec : ChangeSpec := { name := "fnExactSuitingLevels", fn := fun _ => fun
  | [d1, d2] => { results := [.lit (.bool true)], args := [d1, d2] }
  | _ => none }
def fnExactSuitingLevelsRow : OpenClaim := { program := "ytakpoalcfjedlaa", sum := "2d35df4643c6d2c0b33c70989095dca308e0bf05798fbaf1661d15b6e7db738f", func := "loop.example/g00853/laws.FnExactSuitingLevels", spec := "fnExactSuitingLevels", unfollowed := true, recurses := true, apart := false }
def FnExactSuitingLevelsSaid : Prop := fnExactSuitingLevelsRow.holds Try.pinned (OpenSpec.ofChange fnExactSuitingLevelsSpec)

/-- ITS FALSE NEIGHBOUR: 'it returns false'. Refute it at one input. -/
def fnExactSuitingLevelsWrong : ChangeSpec := { name := "fnExactSuitingLevels", fn := fun _ => fun
  | [d1, d2] => { results := [.lit (.bool false)], args := [d1, d2] }
  | _ => none }
def FnExactSuitingLevelsWrongFalsely : Prop := fnExactSuitingLevelsRow.holds Try.pinned (OpenSpec.ofChange fnExactSuitingLevelsWrong)

/-- 'laws.FnPressures': WHATEVER THE INPUT: true; the input reads as it did. -/
def fnPressuresSpec : ChangeSpec := { name := "fnPressures", fn := fun _ => fun
  | [d] => { results := [.lit (.bool true)], args := [d] }
  | _ => none }
def fnPressuresRow : OpenClaim := { program := "ytakpoalcfjedlaa", sum := "2d35df4643c6d2c0b33c70989095dca308e0bf05798fbaf1661d15b6e7db738f", func := "loop.example/g00853/laws.FnPressures", spec := "fnPressures", unfollowed := true, recurses := true, apart := false }
def FnPressuresSaid : Prop := fnPressuresRow.holds Try.pinned (OpenSpec.ofChange fnPressuresSpec)

/-- ITS FALSE NEIGHBOUR: 'it returns false'. Refute it at one input. -/
def fnPressuresWrong : ChangeSpec := { name := "fnPressures", fn := fun _ => fun
  | [d] => { results := [.lit (.bool false)], args := [d] }
  | _ => none }
def FnPressuresWrongFalsely : Prop := fnPressuresRow.holds Try.pinned (OpenSpec.ofChange fnPressuresWrong)

/-- 'laws.FnExactFewestLevels': WHATEVER THE INPUT: true; the input reads as it did. -/
def fnExactFewestLevelsSpec : ChangeSpec := { name := "fnExactFewestLevels", fn := fun _ => fun
  | [d1, d2] => { results := [.lit (.bool true)], args := [d1, d2] }
  | _ => none }
def fnExactFewestLevelsRow : OpenClaim := { program := "ytakpoalcfjedlaa", sum := "2d35df4643c6d2c0b33c70989095dca308e0bf05798fbaf1661d15b6e7db738f", func := "loop.example/g00853/laws.FnExactFewestLevels", spec := "fnExactFewestLevels", unfollowed := true, recurses := true, apart := false }
def FnExactFewestLevelsSaid : Prop := fnExactFewestLevelsRow.holds Try.pinned (OpenSpec.ofChange fnExactFewestLevelsSpec)

/-- ITS FALSE NEIGHBOUR: 'it returns false'. Refute it at one input. -/
def fnExactFewestLevelsWrong : ChangeSpec := { name := "fnExactFewestLevels", fn := fun _ => fun
  | [d1, d2] => { results := [.lit (.bool false)], args := [d1, d2] }
  | _ => none }
def FnExactFewestLevelsWrongFalsely : Prop := fnExactFewestLevelsRow.holds Try.pinned (OpenSpec.ofChange fnExactFewestLevelsWrong)

/-- 'laws.FnExactZoneOf': WHATEVER THE INPUT: true; the input reads as it did. -/
def fnExactZoneOfSpec : ChangeSpec := { name := "fnExactZoneOf", fn := fun _ => fun
  | [d1, d2] => { results := [.lit (.bool true)], args := [d1, d2] }
  | _ => none }
def fnExactZoneOfRow : OpenClaim := { program := "ytakpoalcfjedlaa", sum := "2d35df4643c6d2c0b33c70989095dca308e0bf05798fbaf1661d15b6e7db738f", func := "loop.example/g00853/laws.FnExactZoneOf", spec := "fnExactZoneOf", unfollowed := true, recurses := true, apart := false }
def FnExactZoneOfSaid : Prop := fnExactZoneOfRow.holds Try.pinned (OpenSpec.ofChange fnExactZoneOfSpec)

/-- ITS FALSE NEIGHBOUR: 'it returns false'. Refute it at one input. -/
def fnExactZoneOfWrong : ChangeSpec := { name := "fnExactZoneOf", fn := fun _ => fun
  | [d1, d2] => { results := [.lit (.bool false)], args := [d1, d2] }
  | _ => none }
def FnExactZoneOfWrongFalsely : Prop := fnExactZoneOfRow.holds Try.pinned (OpenSpec.ofChange fnExactZoneOfWrong)

/-- 'laws.FnZones': WHATEVER THE INPUT: true; the input reads as it did. -/
def fnZonesSpec : ChangeSpec := { name := "fnZones", fn := fun _ => fun
  | [d] => { results := [.lit (.bool true)], args := [d] }
  | _ => none }
def fnZonesRow : OpenClaim := { program := "ytakpoalcfjedlaa", sum := "2d35df4643c6d2c0b33c70989095dca308e0bf05798fbaf1661d15b6e7db738f", func := "loop.example/g00853/laws.FnZones", spec := "fnZones", unfollowed := true, recurses := true, apart := false }
def FnZonesSaid : Prop := fnZonesRow.holds Try.pinned (OpenSpec.ofChange fnZonesSpec)

/-- ITS FALSE NEIGHBOUR: 'it returns false'. Refute it at one input. -/
def fnZonesWrong : ChangeSpec := { name := "fnZones", fn := fun _ => fun
  | [d] => { results := [.lit (.bool false)], args := [d] }
  | _ => none }
def FnZonesWrongFalsely : Prop := fnZonesRow.holds Try.pinned (OpenSpec.ofChange fnZonesWrong)

/- THE SECOND FORM. 'bulk': how many values and letters a reading holds, each counted each time it is reached (what is shared counts as often as it is met; a slice's spare places count too). A statement '..UptoSaid' is the law's where the arguments, and the package variables that the reading takes, are together of bulk at most 1048576: NARROWER than '..Said'. Prove '..Said' where nothing that the law and all that it calls make is longer than what came in: it says more and counts as full. Else prove '..UptoSaid'. A law counts once. -/
mutual
def uptoBulk {H : Type} : DataW H → Nat
  | .lit (.string bytes) => bytes.length + 1
  | .lit _ => 1
  | .nil => 1
  | .ptr d => uptoBulk d + 1
  | .slice elems spare => uptoBulkAll elems + uptoBulkAll spare + 1
  | .agg parts => uptoBulkAll parts + 1
  | .iface _ d => uptoBulk d + 1
  | .map entries => uptoBulkEntries entries + 1
  | .held _ => 1
def uptoBulkAll {H : Type} : List (DataW H) → Nat
  | [] => 0
  | d :: r => uptoBulk d + uptoBulkAll r
def uptoBulkEntries {H : Type} : List (Lit × DataW H) → Nat
  | [] => 0
  | x :: r => uptoBulkEntry x + uptoBulkEntries r
def uptoBulkEntry {H : Type} : Lit × DataW H → Nat
  | (.string bytes, d) => bytes.length + uptoBulk d + 1
  | (_, d) => uptoBulk d + 1
 end
def uptoSmall : (H : Type) → List (DataW H) → Bool := fun _ ds => decide (uptoBulkAll ds ≤ 1048576)
def OpenSpec.upto (s : _root_.Go.ChangeSpec) : _root_.Go.OpenSpec := { _root_.Go.OpenSpec.ofChange s with cond := some uptoSmall }

/-- 'laws.FnExactPressuresAt', WHERE WHAT IT READS IS OF BULK AT MOST 1048576: true; the input reads as it did. -/
def fnExactPressuresAtUptoRow : OpenClaim := { program := "ytakpoalcfjedlaa", sum := "2d35df4643c6d2c0b33c70989095dca308e0bf05798fbaf1661d15b6e7db738f", func := "loop.example/g00853/laws.FnExactPressuresAt", spec := "fnExactPressuresAt", unfollowed := true, recurses := true, apart := false, narrowed := true }
def FnExactPressuresAtUptoSaid : Prop := fnExactPressuresAtUptoRow.holds Try.pinned (OpenSpec.upto fnExactPressuresAtSpec)

/-- 'laws.FnExactRaisePlaces', WHERE WHAT IT READS IS OF BULK AT MOST 1048576: true; the input reads as it did. -/
def fnExactRaisePlacesUptoRow : OpenClaim := { program := "ytakpoalcfjedlaa", sum := "2d35df4643c6d2c0b33c70989095dca308e0bf05798fbaf1661d15b6e7db738f", func := "loop.example/g00853/laws.FnExactRaisePlaces", spec := "fnExactRaisePlaces", unfollowed := true, recurses := true, apart := false, narrowed := true }
def FnExactRaisePlacesUptoSaid : Prop := fnExactRaisePlacesUptoRow.holds Try.pinned (OpenSpec.upto fnExactRaisePlacesSpec)

/-- 'laws.FnExactBestLevel', WHERE WHAT IT READS IS OF BULK AT MOST 1048576: true; the input reads as it did. -/
def fnExactBestLevelUptoRow : OpenClaim := { program := "ytakpoalcfjedlaa", sum := "2d35df4643c6d2c0b33c70989095dca308e0bf05798fbaf1661d15b6e7db738f", func := "loop.example/g00853/laws.FnExactBestLevel", spec := "fnExactBestLevel", unfollowed := true, recurses := true, apart := false, narrowed := true }
def FnExactBestLevelUptoSaid : Prop := fnExactBestLevelUptoRow.holds Try.pinned (OpenSpec.upto fnExactBestLevelSpec)

/-- 'laws.FnExactSuitedPlaces', WHERE WHAT IT READS IS OF BULK AT MOST 1048576: true; the input reads as it did. -/
def fnExactSuitedPlacesUptoRow : OpenClaim := { program := "ytakpoalcfjedlaa", sum := "2d35df4643c6d2c0b33c70989095dca308e0bf05798fbaf1661d15b6e7db738f", func := "loop.example/g00853/laws.FnExactSuitedPlaces", spec := "fnExactSuitedPlaces", unfollowed := true, recurses := true, apart := false, narrowed := true }
def FnExactSuitedPlacesUptoSaid : Prop := fnExactSuitedPlacesUptoRow.holds Try.pinned (OpenSpec.upto fnExactSuitedPlacesSpec)

/-- 'laws.FnExactSuitingLevels', WHERE WHAT IT READS IS OF BULK AT MOST 1048576: true; the input reads as it did. -/
def fnExactSuitingLevelsUptoRow : OpenClaim := { program := "ytakpoalcfjedlaa", sum := "2d35df4643c6d2c0b33c70989095dca308e0bf05798fbaf1661d15b6e7db738f", func := "loop.example/g00853/laws.FnExactSuitingLevels", spec := "fnExactSuitingLevels", unfollowed := true, recurses := true, apart := false, narrowed := true }
def FnExactSuitingLevelsUptoSaid : Prop := fnExactSuitingLevelsUptoRow.holds Try.pinned (OpenSpec.upto fnExactSuitingLevelsSpec)

/-- 'laws.FnPressures', WHERE WHAT IT READS IS OF BULK AT MOST 1048576: true; the input reads as it did. -/
def fnPressuresUptoRow : OpenClaim := { program := "ytakpoalcfjedlaa", sum := "2d35df4643c6d2c0b33c70989095dca308e0bf05798fbaf1661d15b6e7db738f", func := "loop.example/g00853/laws.FnPressures", spec := "fnPressures", unfollowed := true, recurses := true, apart := false, narrowed := true }
def FnPressuresUptoSaid : Prop := fnPressuresUptoRow.holds Try.pinned (OpenSpec.upto fnPressuresSpec)

/-- 'laws.FnExactFewestLevels', WHERE WHAT IT READS IS OF BULK AT MOST 1048576: true; the input reads as it did. -/
def fnExactFewestLevelsUptoRow : OpenClaim := { program := "ytakpoalcfjedlaa", sum := "2d35df4643c6d2c0b33c70989095dca308e0bf05798fbaf1661d15b6e7db738f", func := "loop.example/g00853/laws.FnExactFewestLevels", spec := "fnExactFewestLevels", unfollowed := true, recurses := true, apart := false, narrowed := true }
def FnExactFewestLevelsUptoSaid : Prop := fnExactFewestLevelsUptoRow.holds Try.pinned (OpenSpec.upto fnExactFewestLevelsSpec)

/-- 'laws.FnExactZoneOf', WHERE WHAT IT READS IS OF BULK AT MOST 1048576: true; the input reads as it did. -/
def fnExactZoneOfUptoRow : OpenClaim := { program := "ytakpoalcfjedlaa", sum := "2d35df4643c6d2c0b33c70989095dca308e0bf05798fbaf1661d15b6e7db738f", func := "loop.example/g00853/laws.FnExactZoneOf", spec := "fnExactZoneOf", unfollowed := true, recurses := true, apart := false, narrowed := true }
def FnExactZoneOfUptoSaid : Prop := fnExactZoneOfUptoRow.holds Try.pinned (OpenSpec.upto fnExactZoneOfSpec)

/-- 'laws.FnZones', WHERE WHAT IT READS IS OF BULK AT MOST 1048576: true; the input reads as it did. -/
def fnZonesUptoRow : OpenClaim := { program := "ytakpoalcfjedlaa", sum := "2d35df4643c6d2c0b33c70989095dca308e0bf05798fbaf1661d15b6e7db738f", func := "loop.example/g00853/laws.FnZones", spec := "fnZones", unfollowed := true, recurses := true, apart := false, narrowed := true }
def FnZonesUptoSaid : Prop := fnZonesUptoRow.holds Try.pinned (OpenSpec.upto fnZonesSpec)

end Rows
end Go.Proofs.Ytakpoalcfjedlaa
