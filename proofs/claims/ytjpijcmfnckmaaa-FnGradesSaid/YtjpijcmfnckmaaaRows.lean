/-
  No cell of these rows narrows 'for every input' (looked for: loops, veiled, ifaces, maps, wideKeys, modest, calm, conditions, laid).
  DERIVED. THE GIVEN ROWS OF THIS SEAT. 11 by the template 'for every input the law returns true; each argument reads behind the call as it read before'; 0 by the template 'total and deterministic' (their statements: YtjpijcmfnckmaaaTotals.lean).
  GIVEN WITH THE SEED: the statements are not yours to turn. If you find one false, say at which input.
  Laid BY PROGRAM, IN A SANDBOX (cutbox-rows.mjs): the forced cells as the released guide's own fill.sh prints them over the translation 4ae1c7e9487ff2ae… (all of the seat's roots in one cut). By AI agents, Wed Nov 11 2026. No macro, syntax, notation, axiom, sorry.
-/
import Derived.Test.YtjpijcmfnckmaaaChecked
import GoSem.Claim
import GoSem.ClaimJoined
import GoSem.ClaimMapViews
import Derived.JoinedTies
import Derived.KernelRfl
namespace Go.Proofs.Ytjpijcmfnckmaaa
/- THE CELL 'sum', in the pinned program and in every row, IS THE sha256 OF THE DUMP (.gsa) THAT YtjpijcmfnckmaaaProg.lean LOADS. Nothing in Lean hashes anything: it is a label: what it is worth is what the hold of that sum in a sandbox is worth. -/
noncomputable def Try.pinned : Pinned := { name := "ytjpijcmfnckmaaa", sum := "4ae1c7e9487ff2aee9f5fc5494a059225a39e54fb34a6e59c977c119e57714f5", checked := Try.checked }
namespace Rows
def none {H : Type} : Left H := { results := [], args := [] }

/-- 'laws.FnParcels': WHATEVER THE INPUT: true; the input reads as it did. -/
def fnParcelsSpec : ChangeSpec := { name := "fnParcels", fn := fun _ => fun
  | [d] => { results := [.lit (.bool true)], args := [d] }
  | _ => none }
def fnParcelsRow : OpenClaim := { program := "ytjpijcmfnckmaaa", sum := "4ae1c7e9487ff2aee9f5fc5494a059225a39e54fb34a6e59c977c119e57714f5", func := "loop.example/g00853/laws.FnParcels", spec := "fnParcels", apart := false }
def FnParcelsSaid : Prop := fnParcelsRow.holds Try.pinned (OpenSpec.ofChange fnParcelsSpec)

/-- ITS FALSE NEIGHBOUR: 'it returns false'. Refute it at one input. -/
def fnParcelsWrong : ChangeSpec := { name := "fnParcels", fn := fun _ => fun
  | [d] => { results := [.lit (.bool false)], args := [d] }
  | _ => none }
def FnParcelsWrongFalsely : Prop := fnParcelsRow.holds Try.pinned (OpenSpec.ofChange fnParcelsWrong)

/-- 'laws.FnExactIsPipeful': WHATEVER THE INPUT: true; the input reads as it did. -/
def fnExactIsPipefulSpec : ChangeSpec := { name := "fnExactIsPipeful", fn := fun _ => fun
  | [d] => { results := [.lit (.bool true)], args := [d] }
  | _ => none }
def fnExactIsPipefulRow : OpenClaim := { program := "ytjpijcmfnckmaaa", sum := "4ae1c7e9487ff2aee9f5fc5494a059225a39e54fb34a6e59c977c119e57714f5", func := "loop.example/g00853/laws.FnExactIsPipeful", spec := "fnExactIsPipeful", apart := false }
def FnExactIsPipefulSaid : Prop := fnExactIsPipefulRow.holds Try.pinned (OpenSpec.ofChange fnExactIsPipefulSpec)

/-- ITS FALSE NEIGHBOUR: 'it returns false'. Refute it at one input. -/
def fnExactIsPipefulWrong : ChangeSpec := { name := "fnExactIsPipeful", fn := fun _ => fun
  | [d] => { results := [.lit (.bool false)], args := [d] }
  | _ => none }
def FnExactIsPipefulWrongFalsely : Prop := fnExactIsPipefulRow.holds Try.pinned (OpenSpec.ofChange fnExactIsPipefulWrong)

/-- 'laws.FnExactPipeVolume': WHATEVER THE INPUT: true; the input reads as it did. -/
def fnExactPipeVolumeSpec : ChangeSpec := { name := "fnExactPipeVolume", fn := fun _ => fun
  | [d] => { results := [.lit (.bool true)], args := [d] }
  | _ => none }
def fnExactPipeVolumeRow : OpenClaim := { program := "ytjpijcmfnckmaaa", sum := "4ae1c7e9487ff2aee9f5fc5494a059225a39e54fb34a6e59c977c119e57714f5", func := "loop.example/g00853/laws.FnExactPipeVolume", spec := "fnExactPipeVolume", apart := false }
def FnExactPipeVolumeSaid : Prop := fnExactPipeVolumeRow.holds Try.pinned (OpenSpec.ofChange fnExactPipeVolumeSpec)

/-- ITS FALSE NEIGHBOUR: 'it returns false'. Refute it at one input. -/
def fnExactPipeVolumeWrong : ChangeSpec := { name := "fnExactPipeVolume", fn := fun _ => fun
  | [d] => { results := [.lit (.bool false)], args := [d] }
  | _ => none }
def FnExactPipeVolumeWrongFalsely : Prop := fnExactPipeVolumeRow.holds Try.pinned (OpenSpec.ofChange fnExactPipeVolumeWrong)

/-- 'laws.FnExactGradeAt': WHATEVER THE INPUT: true; the input reads as it did. -/
def fnExactGradeAtSpec : ChangeSpec := { name := "fnExactGradeAt", fn := fun _ => fun
  | [d1, d2] => { results := [.lit (.bool true)], args := [d1, d2] }
  | _ => none }
def fnExactGradeAtRow : OpenClaim := { program := "ytjpijcmfnckmaaa", sum := "4ae1c7e9487ff2aee9f5fc5494a059225a39e54fb34a6e59c977c119e57714f5", func := "loop.example/g00853/laws.FnExactGradeAt", spec := "fnExactGradeAt", apart := false }
def FnExactGradeAtSaid : Prop := fnExactGradeAtRow.holds Try.pinned (OpenSpec.ofChange fnExactGradeAtSpec)

/-- ITS FALSE NEIGHBOUR: 'it returns false'. Refute it at one input. -/
def fnExactGradeAtWrong : ChangeSpec := { name := "fnExactGradeAt", fn := fun _ => fun
  | [d1, d2] => { results := [.lit (.bool false)], args := [d1, d2] }
  | _ => none }
def FnExactGradeAtWrongFalsely : Prop := fnExactGradeAtRow.holds Try.pinned (OpenSpec.ofChange fnExactGradeAtWrong)

/-- 'laws.FnExactFlushVolume': WHATEVER THE INPUT: true; the input reads as it did. -/
def fnExactFlushVolumeSpec : ChangeSpec := { name := "fnExactFlushVolume", fn := fun _ => fun
  | [d1, d2] => { results := [.lit (.bool true)], args := [d1, d2] }
  | _ => none }
def fnExactFlushVolumeRow : OpenClaim := { program := "ytjpijcmfnckmaaa", sum := "4ae1c7e9487ff2aee9f5fc5494a059225a39e54fb34a6e59c977c119e57714f5", func := "loop.example/g00853/laws.FnExactFlushVolume", spec := "fnExactFlushVolume", apart := false }
def FnExactFlushVolumeSaid : Prop := fnExactFlushVolumeRow.holds Try.pinned (OpenSpec.ofChange fnExactFlushVolumeSpec)

/-- ITS FALSE NEIGHBOUR: 'it returns false'. Refute it at one input. -/
def fnExactFlushVolumeWrong : ChangeSpec := { name := "fnExactFlushVolume", fn := fun _ => fun
  | [d1, d2] => { results := [.lit (.bool false)], args := [d1, d2] }
  | _ => none }
def FnExactFlushVolumeWrongFalsely : Prop := fnExactFlushVolumeRow.holds Try.pinned (OpenSpec.ofChange fnExactFlushVolumeWrong)

/-- 'laws.FnExactLeastGrade': WHATEVER THE INPUT: true; the input reads as it did. -/
def fnExactLeastGradeSpec : ChangeSpec := { name := "fnExactLeastGrade", fn := fun _ => fun
  | [d] => { results := [.lit (.bool true)], args := [d] }
  | _ => none }
def fnExactLeastGradeRow : OpenClaim := { program := "ytjpijcmfnckmaaa", sum := "4ae1c7e9487ff2aee9f5fc5494a059225a39e54fb34a6e59c977c119e57714f5", func := "loop.example/g00853/laws.FnExactLeastGrade", spec := "fnExactLeastGrade", apart := false }
def FnExactLeastGradeSaid : Prop := fnExactLeastGradeRow.holds Try.pinned (OpenSpec.ofChange fnExactLeastGradeSpec)

/-- ITS FALSE NEIGHBOUR: 'it returns false'. Refute it at one input. -/
def fnExactLeastGradeWrong : ChangeSpec := { name := "fnExactLeastGrade", fn := fun _ => fun
  | [d] => { results := [.lit (.bool false)], args := [d] }
  | _ => none }
def FnExactLeastGradeWrongFalsely : Prop := fnExactLeastGradeRow.holds Try.pinned (OpenSpec.ofChange fnExactLeastGradeWrong)

/-- 'laws.FnExactMeanGrade': WHATEVER THE INPUT: true; the input reads as it did. -/
def fnExactMeanGradeSpec : ChangeSpec := { name := "fnExactMeanGrade", fn := fun _ => fun
  | [d] => { results := [.lit (.bool true)], args := [d] }
  | _ => none }
def fnExactMeanGradeRow : OpenClaim := { program := "ytjpijcmfnckmaaa", sum := "4ae1c7e9487ff2aee9f5fc5494a059225a39e54fb34a6e59c977c119e57714f5", func := "loop.example/g00853/laws.FnExactMeanGrade", spec := "fnExactMeanGrade", apart := false }
def FnExactMeanGradeSaid : Prop := fnExactMeanGradeRow.holds Try.pinned (OpenSpec.ofChange fnExactMeanGradeSpec)

/-- ITS FALSE NEIGHBOUR: 'it returns false'. Refute it at one input. -/
def fnExactMeanGradeWrong : ChangeSpec := { name := "fnExactMeanGrade", fn := fun _ => fun
  | [d] => { results := [.lit (.bool false)], args := [d] }
  | _ => none }
def FnExactMeanGradeWrongFalsely : Prop := fnExactMeanGradeRow.holds Try.pinned (OpenSpec.ofChange fnExactMeanGradeWrong)

/-- 'laws.FnExactReversePipe': WHATEVER THE INPUT: true; the input reads as it did. -/
def fnExactReversePipeSpec : ChangeSpec := { name := "fnExactReversePipe", fn := fun _ => fun
  | [d] => { results := [.lit (.bool true)], args := [d] }
  | _ => none }
def fnExactReversePipeRow : OpenClaim := { program := "ytjpijcmfnckmaaa", sum := "4ae1c7e9487ff2aee9f5fc5494a059225a39e54fb34a6e59c977c119e57714f5", func := "loop.example/g00853/laws.FnExactReversePipe", spec := "fnExactReversePipe", apart := false }
def FnExactReversePipeSaid : Prop := fnExactReversePipeRow.holds Try.pinned (OpenSpec.ofChange fnExactReversePipeSpec)

/-- ITS FALSE NEIGHBOUR: 'it returns false'. Refute it at one input. -/
def fnExactReversePipeWrong : ChangeSpec := { name := "fnExactReversePipe", fn := fun _ => fun
  | [d] => { results := [.lit (.bool false)], args := [d] }
  | _ => none }
def FnExactReversePipeWrongFalsely : Prop := fnExactReversePipeRow.holds Try.pinned (OpenSpec.ofChange fnExactReversePipeWrong)

/-- 'laws.FnExactDecayParcels': WHATEVER THE INPUT: true; the input reads as it did. -/
def fnExactDecayParcelsSpec : ChangeSpec := { name := "fnExactDecayParcels", fn := fun _ => fun
  | [d1, d2, d3] => { results := [.lit (.bool true)], args := [d1, d2, d3] }
  | _ => none }
def fnExactDecayParcelsRow : OpenClaim := { program := "ytjpijcmfnckmaaa", sum := "4ae1c7e9487ff2aee9f5fc5494a059225a39e54fb34a6e59c977c119e57714f5", func := "loop.example/g00853/laws.FnExactDecayParcels", spec := "fnExactDecayParcels", apart := false }
def FnExactDecayParcelsSaid : Prop := fnExactDecayParcelsRow.holds Try.pinned (OpenSpec.ofChange fnExactDecayParcelsSpec)

/-- ITS FALSE NEIGHBOUR: 'it returns false'. Refute it at one input. -/
def fnExactDecayParcelsWrong : ChangeSpec := { name := "fnExactDecayParcels", fn := fun _ => fun
  | [d1, d2, d3] => { results := [.lit (.bool false)], args := [d1, d2, d3] }
  | _ => none }
def FnExactDecayParcelsWrongFalsely : Prop := fnExactDecayParcelsRow.holds Try.pinned (OpenSpec.ofChange fnExactDecayParcelsWrong)

/-- 'laws.FnExactPushParcel': WHATEVER THE INPUT: true; the input reads as it did. -/
def fnExactPushParcelSpec : ChangeSpec := { name := "fnExactPushParcel", fn := fun _ => fun
  | [d1, d2] => { results := [.lit (.bool true)], args := [d1, d2] }
  | _ => none }
def fnExactPushParcelRow : OpenClaim := { program := "ytjpijcmfnckmaaa", sum := "4ae1c7e9487ff2aee9f5fc5494a059225a39e54fb34a6e59c977c119e57714f5", func := "loop.example/g00853/laws.FnExactPushParcel", spec := "fnExactPushParcel", apart := false }
def FnExactPushParcelSaid : Prop := fnExactPushParcelRow.holds Try.pinned (OpenSpec.ofChange fnExactPushParcelSpec)

/-- ITS FALSE NEIGHBOUR: 'it returns false'. Refute it at one input. -/
def fnExactPushParcelWrong : ChangeSpec := { name := "fnExactPushParcel", fn := fun _ => fun
  | [d1, d2] => { results := [.lit (.bool false)], args := [d1, d2] }
  | _ => none }
def FnExactPushParcelWrongFalsely : Prop := fnExactPushParcelRow.holds Try.pinned (OpenSpec.ofChange fnExactPushParcelWrong)

/-- 'laws.FnGrades': WHATEVER THE INPUT: true; the input reads as it did. -/
def fnGradesSpec : ChangeSpec := { name := "fnGrades", fn := fun _ => fun
  | [d] => { results := [.lit (.bool true)], args := [d] }
  | _ => none }
def fnGradesRow : OpenClaim := { program := "ytjpijcmfnckmaaa", sum := "4ae1c7e9487ff2aee9f5fc5494a059225a39e54fb34a6e59c977c119e57714f5", func := "loop.example/g00853/laws.FnGrades", spec := "fnGrades", apart := false }
def FnGradesSaid : Prop := fnGradesRow.holds Try.pinned (OpenSpec.ofChange fnGradesSpec)

/-- ITS FALSE NEIGHBOUR: 'it returns false'. Refute it at one input. -/
def fnGradesWrong : ChangeSpec := { name := "fnGrades", fn := fun _ => fun
  | [d] => { results := [.lit (.bool false)], args := [d] }
  | _ => none }
def FnGradesWrongFalsely : Prop := fnGradesRow.holds Try.pinned (OpenSpec.ofChange fnGradesWrong)

/- THE SECOND FORM. 'bulk': how many values and letters a reading holds, each counted each time it is reached (what is shared counts as often as it is met; a slice's spare places count too). A statement '..UptoSaid' is the law's where the arguments, and the package variables that the reading takes, are together of bulk at most 1048576: NARROWER than '..Said'. Prove '..Said' where nothing that the law and all that it calls make is longer than what came in: it says more and counts as full. Else prove '..UptoSaid'. A law counts once. -/
mutual
def uptoBulk {H : Type} : DataW H → Nat
  | .lit (.string bytes) => bytes.length + 1
  | .lit _ => 1
  | .nil => 1
  | .ptr d => uptoBulk d + 1
  | .slice elems spare => uptoBulkAll elems + uptoBulkAll spare + 1
  | .agg parts => uptoBulkAll parts + 1
  | .iface _ d => uptoBulk d + 1
  | .map entries => uptoBulkEntries entries + 1
  | .held _ => 1
def uptoBulkAll {H : Type} : List (DataW H) → Nat
  | [] => 0
  | d :: r => uptoBulk d + uptoBulkAll r
def uptoBulkEntries {H : Type} : List (Lit × DataW H) → Nat
  | [] => 0
  | x :: r => uptoBulkEntry x + uptoBulkEntries r
def uptoBulkEntry {H : Type} : Lit × DataW H → Nat
  | (.string bytes, d) => bytes.length + uptoBulk d + 1
  | (_, d) => uptoBulk d + 1
 end
def uptoSmall : (H : Type) → List (DataW H) → Bool := fun _ ds => decide (uptoBulkAll ds ≤ 1048576)
def OpenSpec.upto (s : _root_.Go.ChangeSpec) : _root_.Go.OpenSpec := { _root_.Go.OpenSpec.ofChange s with cond := some uptoSmall }

/-- 'laws.FnParcels', WHERE WHAT IT READS IS OF BULK AT MOST 1048576: true; the input reads as it did. -/
def fnParcelsUptoRow : OpenClaim := { program := "ytjpijcmfnckmaaa", sum := "4ae1c7e9487ff2aee9f5fc5494a059225a39e54fb34a6e59c977c119e57714f5", func := "loop.example/g00853/laws.FnParcels", spec := "fnParcels", apart := false, narrowed := true }
def FnParcelsUptoSaid : Prop := fnParcelsUptoRow.holds Try.pinned (OpenSpec.upto fnParcelsSpec)

/-- 'laws.FnExactIsPipeful', WHERE WHAT IT READS IS OF BULK AT MOST 1048576: true; the input reads as it did. -/
def fnExactIsPipefulUptoRow : OpenClaim := { program := "ytjpijcmfnckmaaa", sum := "4ae1c7e9487ff2aee9f5fc5494a059225a39e54fb34a6e59c977c119e57714f5", func := "loop.example/g00853/laws.FnExactIsPipeful", spec := "fnExactIsPipeful", apart := false, narrowed := true }
def FnExactIsPipefulUptoSaid : Prop := fnExactIsPipefulUptoRow.holds Try.pinned (OpenSpec.upto fnExactIsPipefulSpec)

/-- 'laws.FnExactPipeVolume', WHERE WHAT IT READS IS OF BULK AT MOST 1048576: true; the input reads as it did. -/
def fnExactPipeVolumeUptoRow : OpenClaim := { program := "ytjpijcmfnckmaaa", sum := "4ae1c7e9487ff2aee9f5fc5494a059225a39e54fb34a6e59c977c119e57714f5", func := "loop.example/g00853/laws.FnExactPipeVolume", spec := "fnExactPipeVolume", apart := false, narrowed := true }
def FnExactPipeVolumeUptoSaid : Prop := fnExactPipeVolumeUptoRow.holds Try.pinned (OpenSpec.upto fnExactPipeVolumeSpec)

/-- 'laws.FnExactGradeAt', WHERE WHAT IT READS IS OF BULK AT MOST 1048576: true; the input reads as it did. -/
def fnExactGradeAtUptoRow : OpenClaim := { program := "ytjpijcmfnckmaaa", sum := "4ae1c7e9487ff2aee9f5fc5494a059225a39e54fb34a6e59c977c119e57714f5", func := "loop.example/g00853/laws.FnExactGradeAt", spec := "fnExactGradeAt", apart := false, narrowed := true }
def FnExactGradeAtUptoSaid : Prop := fnExactGradeAtUptoRow.holds Try.pinned (OpenSpec.upto fnExactGradeAtSpec)

/-- 'laws.FnExactFlushVolume', WHERE WHAT IT READS IS OF BULK AT MOST 1048576: true; the input reads as it did. -/
def fnExactFlushVolumeUptoRow : OpenClaim := { program := "ytjpijcmfnckmaaa", sum := "4ae1c7e9487ff2aee9f5fc5494a059225a39e54fb34a6e59c977c119e57714f5", func := "loop.example/g00853/laws.FnExactFlushVolume", spec := "fnExactFlushVolume", apart := false, narrowed := true }
def FnExactFlushVolumeUptoSaid : Prop := fnExactFlushVolumeUptoRow.holds Try.pinned (OpenSpec.upto fnExactFlushVolumeSpec)

/-- 'laws.FnExactLeastGrade', WHERE WHAT IT READS IS OF BULK AT MOST 1048576: true; the input reads as it did. -/
def fnExactLeastGradeUptoRow : OpenClaim := { program := "ytjpijcmfnckmaaa", sum := "4ae1c7e9487ff2aee9f5fc5494a059225a39e54fb34a6e59c977c119e57714f5", func := "loop.example/g00853/laws.FnExactLeastGrade", spec := "fnExactLeastGrade", apart := false, narrowed := true }
def FnExactLeastGradeUptoSaid : Prop := fnExactLeastGradeUptoRow.holds Try.pinned (OpenSpec.upto fnExactLeastGradeSpec)

/-- 'laws.FnExactMeanGrade', WHERE WHAT IT READS IS OF BULK AT MOST 1048576: true; the input reads as it did. -/
def fnExactMeanGradeUptoRow : OpenClaim := { program := "ytjpijcmfnckmaaa", sum := "4ae1c7e9487ff2aee9f5fc5494a059225a39e54fb34a6e59c977c119e57714f5", func := "loop.example/g00853/laws.FnExactMeanGrade", spec := "fnExactMeanGrade", apart := false, narrowed := true }
def FnExactMeanGradeUptoSaid : Prop := fnExactMeanGradeUptoRow.holds Try.pinned (OpenSpec.upto fnExactMeanGradeSpec)

/-- 'laws.FnExactReversePipe', WHERE WHAT IT READS IS OF BULK AT MOST 1048576: true; the input reads as it did. -/
def fnExactReversePipeUptoRow : OpenClaim := { program := "ytjpijcmfnckmaaa", sum := "4ae1c7e9487ff2aee9f5fc5494a059225a39e54fb34a6e59c977c119e57714f5", func := "loop.example/g00853/laws.FnExactReversePipe", spec := "fnExactReversePipe", apart := false, narrowed := true }
def FnExactReversePipeUptoSaid : Prop := fnExactReversePipeUptoRow.holds Try.pinned (OpenSpec.upto fnExactReversePipeSpec)

/-- 'laws.FnExactDecayParcels', WHERE WHAT IT READS IS OF BULK AT MOST 1048576: true; the input reads as it did. -/
def fnExactDecayParcelsUptoRow : OpenClaim := { program := "ytjpijcmfnckmaaa", sum := "4ae1c7e9487ff2aee9f5fc5494a059225a39e54fb34a6e59c977c119e57714f5", func := "loop.example/g00853/laws.FnExactDecayParcels", spec := "fnExactDecayParcels", apart := false, narrowed := true }
def FnExactDecayParcelsUptoSaid : Prop := fnExactDecayParcelsUptoRow.holds Try.pinned (OpenSpec.upto fnExactDecayParcelsSpec)

/-- 'laws.FnExactPushParcel', WHERE WHAT IT READS IS OF BULK AT MOST 1048576: true; the input reads as it did. -/
def fnExactPushParcelUptoRow : OpenClaim := { program := "ytjpijcmfnckmaaa", sum := "4ae1c7e9487ff2aee9f5fc5494a059225a39e54fb34a6e59c977c119e57714f5", func := "loop.example/g00853/laws.FnExactPushParcel", spec := "fnExactPushParcel", apart := false, narrowed := true }
def FnExactPushParcelUptoSaid : Prop := fnExactPushParcelUptoRow.holds Try.pinned (OpenSpec.upto fnExactPushParcelSpec)

/-- 'laws.FnGrades', WHERE WHAT IT READS IS OF BULK AT MOST 1048576: true; the input reads as it did. -/
def fnGradesUptoRow : OpenClaim := { program := "ytjpijcmfnckmaaa", sum := "4ae1c7e9487ff2aee9f5fc5494a059225a39e54fb34a6e59c977c119e57714f5", func := "loop.example/g00853/laws.FnGrades", spec := "fnGrades", apart := false, narrowed := true }
def FnGradesUptoSaid : Prop := fnGradesUptoRow.holds Try.pinned (OpenSpec.upto fnGradesSpec)

end Rows
end Go.Proofs.Ytjpijcmfnckmaaa
