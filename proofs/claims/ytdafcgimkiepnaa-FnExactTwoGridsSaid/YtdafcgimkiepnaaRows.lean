/-
  No cell of these rows narrows 'for every input' (looked for: loops, veiled, ifaces, maps, wideKeys, modest, calm, conditions, laid).
  DERIVED. THE GIVEN ROWS OF THIS SEAT. 12 by the template 'for every input the law returns true; each argument reads behind the call as it read before'; 0 by the template 'total and deterministic' (their statements: YtdafcgimkiepnaaTotals.lean).
  GIVEN WITH THE SEED: the statements are not yours to turn. If you find one false, say at which input.
  Laid BY PROGRAM, IN A SANDBOX (cutbox-rows.mjs): the forced cells as the released guide's own fill.sh prints them over the translation 829a667a2f385c1a… (all of the seat's roots in one cut). By AI agents, Wed Nov 11 2026. No macro, syntax, notation, axiom, sorry.
-/
import Derived.Test.YtdafcgimkiepnaaChecked
import GoSem.Claim
import GoSem.ClaimJoined
import GoSem.ClaimMapViews
import Derived.JoinedTies
import Derived.KernelRfl
namespace Go.Proofs.Ytdafcgimkiepnaa
/- THE CELL 'sum', in the pinned program and in every row, IS THE sha256 OF THE DUMP (.gsa) THAT YtdafcgimkiepnaaProg.lean LOADS. Nothing in Lean hashes anything: it is a label: what it is worth is what the hold of that sum in a sandbox is worth. -/
noncomputable def Try.pinned : Pinned := { name := "ytdafcgimkiepnaa", sum := "829a667a2f385c1a50f30de14c6341f97e7f4eeeabf480f838dbe3d2d4b31c61", checked := Try.checked }
namespace Rows
def none {H : Type} : Left H := { results := [], args := [] }

/-- 'laws.FnExactFieldsOf': WHATEVER THE INPUT: true; the input reads as it did. -/
def fnExactFieldsOfSpec : ChangeSpec := { name := "fnExactFieldsOf", fn := fun _ => fun
  | [d1, d2] => { results := [.lit (.bool true)], args := [d1, d2] }
  | _ => none }
def fnExactFieldsOfRow : OpenClaim := { program := "ytdafcgimkiepnaa", sum := "829a667a2f385c1a50f30de14c6341f97e7f4eeeabf480f838dbe3d2d4b31c61", func := "loop.example/g01226/laws.FnExactFieldsOf", spec := "fnExactFieldsOf", apart := false }
def FnExactFieldsOfSaid : Prop := fnExactFieldsOfRow.holds Try.pinned (OpenSpec.ofChange fnExactFieldsOfSpec)

/-- ITS FALSE NEIGHBOUR: 'it returns false'. Refute it at one input. -/
def fnExactFieldsOfWrong : ChangeSpec := { name := "fnExactFieldsOf", fn := fun _ => fun
  | [d1, d2] => { results := [.lit (.bool false)], args := [d1, d2] }
  | _ => none }
def FnExactFieldsOfWrongFalsely : Prop := fnExactFieldsOfRow.holds Try.pinned (OpenSpec.ofChange fnExactFieldsOfWrong)

/-- 'laws.FnExactFineField': WHATEVER THE INPUT: true; the input reads as it did. -/
def fnExactFineFieldSpec : ChangeSpec := { name := "fnExactFineField", fn := fun _ => fun
  | [d1, d2] => { results := [.lit (.bool true)], args := [d1, d2] }
  | _ => none }
def fnExactFineFieldRow : OpenClaim := { program := "ytdafcgimkiepnaa", sum := "829a667a2f385c1a50f30de14c6341f97e7f4eeeabf480f838dbe3d2d4b31c61", func := "loop.example/g01226/laws.FnExactFineField", spec := "fnExactFineField", apart := false }
def FnExactFineFieldSaid : Prop := fnExactFineFieldRow.holds Try.pinned (OpenSpec.ofChange fnExactFineFieldSpec)

/-- ITS FALSE NEIGHBOUR: 'it returns false'. Refute it at one input. -/
def fnExactFineFieldWrong : ChangeSpec := { name := "fnExactFineField", fn := fun _ => fun
  | [d1, d2] => { results := [.lit (.bool false)], args := [d1, d2] }
  | _ => none }
def FnExactFineFieldWrongFalsely : Prop := fnExactFineFieldRow.holds Try.pinned (OpenSpec.ofChange fnExactFineFieldWrong)

/-- 'laws.FnExactWithoutMean': WHATEVER THE INPUT: true; the input reads as it did. -/
def fnExactWithoutMeanSpec : ChangeSpec := { name := "fnExactWithoutMean", fn := fun _ => fun
  | [d1, d2] => { results := [.lit (.bool true)], args := [d1, d2] }
  | _ => none }
def fnExactWithoutMeanRow : OpenClaim := { program := "ytdafcgimkiepnaa", sum := "829a667a2f385c1a50f30de14c6341f97e7f4eeeabf480f838dbe3d2d4b31c61", func := "loop.example/g01226/laws.FnExactWithoutMean", spec := "fnExactWithoutMean", apart := false }
def FnExactWithoutMeanSaid : Prop := fnExactWithoutMeanRow.holds Try.pinned (OpenSpec.ofChange fnExactWithoutMeanSpec)

/-- ITS FALSE NEIGHBOUR: 'it returns false'. Refute it at one input. -/
def fnExactWithoutMeanWrong : ChangeSpec := { name := "fnExactWithoutMean", fn := fun _ => fun
  | [d1, d2] => { results := [.lit (.bool false)], args := [d1, d2] }
  | _ => none }
def FnExactWithoutMeanWrongFalsely : Prop := fnExactWithoutMeanRow.holds Try.pinned (OpenSpec.ofChange fnExactWithoutMeanWrong)

/-- 'laws.FnExactLaplaceOf': WHATEVER THE INPUT: true; the input reads as it did. -/
def fnExactLaplaceOfSpec : ChangeSpec := { name := "fnExactLaplaceOf", fn := fun _ => fun
  | [d1, d2] => { results := [.lit (.bool true)], args := [d1, d2] }
  | _ => none }
def fnExactLaplaceOfRow : OpenClaim := { program := "ytdafcgimkiepnaa", sum := "829a667a2f385c1a50f30de14c6341f97e7f4eeeabf480f838dbe3d2d4b31c61", func := "loop.example/g01226/laws.FnExactLaplaceOf", spec := "fnExactLaplaceOf", apart := false }
def FnExactLaplaceOfSaid : Prop := fnExactLaplaceOfRow.holds Try.pinned (OpenSpec.ofChange fnExactLaplaceOfSpec)

/-- ITS FALSE NEIGHBOUR: 'it returns false'. Refute it at one input. -/
def fnExactLaplaceOfWrong : ChangeSpec := { name := "fnExactLaplaceOf", fn := fun _ => fun
  | [d1, d2] => { results := [.lit (.bool false)], args := [d1, d2] }
  | _ => none }
def FnExactLaplaceOfWrongFalsely : Prop := fnExactLaplaceOfRow.holds Try.pinned (OpenSpec.ofChange fnExactLaplaceOfWrong)

/-- 'laws.FnExactCoarseField': WHATEVER THE INPUT: true; the input reads as it did. -/
def fnExactCoarseFieldSpec : ChangeSpec := { name := "fnExactCoarseField", fn := fun _ => fun
  | [d1, d2] => { results := [.lit (.bool true)], args := [d1, d2] }
  | _ => none }
def fnExactCoarseFieldRow : OpenClaim := { program := "ytdafcgimkiepnaa", sum := "829a667a2f385c1a50f30de14c6341f97e7f4eeeabf480f838dbe3d2d4b31c61", func := "loop.example/g01226/laws.FnExactCoarseField", spec := "fnExactCoarseField", apart := false }
def FnExactCoarseFieldSaid : Prop := fnExactCoarseFieldRow.holds Try.pinned (OpenSpec.ofChange fnExactCoarseFieldSpec)

/-- ITS FALSE NEIGHBOUR: 'it returns false'. Refute it at one input. -/
def fnExactCoarseFieldWrong : ChangeSpec := { name := "fnExactCoarseField", fn := fun _ => fun
  | [d1, d2] => { results := [.lit (.bool false)], args := [d1, d2] }
  | _ => none }
def FnExactCoarseFieldWrongFalsely : Prop := fnExactCoarseFieldRow.holds Try.pinned (OpenSpec.ofChange fnExactCoarseFieldWrong)

/-- 'laws.FnExactFieldEnergy': WHATEVER THE INPUT: true; the input reads as it did. -/
def fnExactFieldEnergySpec : ChangeSpec := { name := "fnExactFieldEnergy", fn := fun _ => fun
  | [d1, d2, d3] => { results := [.lit (.bool true)], args := [d1, d2, d3] }
  | _ => none }
def fnExactFieldEnergyRow : OpenClaim := { program := "ytdafcgimkiepnaa", sum := "829a667a2f385c1a50f30de14c6341f97e7f4eeeabf480f838dbe3d2d4b31c61", func := "loop.example/g01226/laws.FnExactFieldEnergy", spec := "fnExactFieldEnergy", apart := false }
def FnExactFieldEnergySaid : Prop := fnExactFieldEnergyRow.holds Try.pinned (OpenSpec.ofChange fnExactFieldEnergySpec)

/-- ITS FALSE NEIGHBOUR: 'it returns false'. Refute it at one input. -/
def fnExactFieldEnergyWrong : ChangeSpec := { name := "fnExactFieldEnergy", fn := fun _ => fun
  | [d1, d2, d3] => { results := [.lit (.bool false)], args := [d1, d2, d3] }
  | _ => none }
def FnExactFieldEnergyWrongFalsely : Prop := fnExactFieldEnergyRow.holds Try.pinned (OpenSpec.ofChange fnExactFieldEnergyWrong)

/-- 'laws.FnExactSweepColour': WHATEVER THE INPUT: true; the input reads as it did. -/
def fnExactSweepColourSpec : ChangeSpec := { name := "fnExactSweepColour", fn := fun _ => fun
  | [d1, d2, d3, d4] => { results := [.lit (.bool true)], args := [d1, d2, d3, d4] }
  | _ => none }
def fnExactSweepColourRow : OpenClaim := { program := "ytdafcgimkiepnaa", sum := "829a667a2f385c1a50f30de14c6341f97e7f4eeeabf480f838dbe3d2d4b31c61", func := "loop.example/g01226/laws.FnExactSweepColour", spec := "fnExactSweepColour", apart := false }
def FnExactSweepColourSaid : Prop := fnExactSweepColourRow.holds Try.pinned (OpenSpec.ofChange fnExactSweepColourSpec)

/-- ITS FALSE NEIGHBOUR: 'it returns false'. Refute it at one input. -/
def fnExactSweepColourWrong : ChangeSpec := { name := "fnExactSweepColour", fn := fun _ => fun
  | [d1, d2, d3, d4] => { results := [.lit (.bool false)], args := [d1, d2, d3, d4] }
  | _ => none }
def FnExactSweepColourWrongFalsely : Prop := fnExactSweepColourRow.holds Try.pinned (OpenSpec.ofChange fnExactSweepColourWrong)

/-- 'laws.FnExactSweepShared': WHATEVER THE INPUT: true; the input reads as it did. -/
def fnExactSweepSharedSpec : ChangeSpec := { name := "fnExactSweepShared", fn := fun _ => fun
  | [d1, d2, d3, d4, d5] => { results := [.lit (.bool true)], args := [d1, d2, d3, d4, d5] }
  | _ => none }
def fnExactSweepSharedRow : OpenClaim := { program := "ytdafcgimkiepnaa", sum := "829a667a2f385c1a50f30de14c6341f97e7f4eeeabf480f838dbe3d2d4b31c61", func := "loop.example/g01226/laws.FnExactSweepShared", spec := "fnExactSweepShared", apart := false }
def FnExactSweepSharedSaid : Prop := fnExactSweepSharedRow.holds Try.pinned (OpenSpec.ofChange fnExactSweepSharedSpec)

/-- ITS FALSE NEIGHBOUR: 'it returns false'. Refute it at one input. -/
def fnExactSweepSharedWrong : ChangeSpec := { name := "fnExactSweepShared", fn := fun _ => fun
  | [d1, d2, d3, d4, d5] => { results := [.lit (.bool false)], args := [d1, d2, d3, d4, d5] }
  | _ => none }
def FnExactSweepSharedWrongFalsely : Prop := fnExactSweepSharedRow.holds Try.pinned (OpenSpec.ofChange fnExactSweepSharedWrong)

/-- 'laws.FnExactSolvePotential': WHATEVER THE INPUT: true; the input reads as it did. -/
def fnExactSolvePotentialSpec : ChangeSpec := { name := "fnExactSolvePotential", fn := fun _ => fun
  | [d1, d2, d3] => { results := [.lit (.bool true)], args := [d1, d2, d3] }
  | _ => none }
def fnExactSolvePotentialRow : OpenClaim := { program := "ytdafcgimkiepnaa", sum := "829a667a2f385c1a50f30de14c6341f97e7f4eeeabf480f838dbe3d2d4b31c61", func := "loop.example/g01226/laws.FnExactSolvePotential", spec := "fnExactSolvePotential", apart := false }
def FnExactSolvePotentialSaid : Prop := fnExactSolvePotentialRow.holds Try.pinned (OpenSpec.ofChange fnExactSolvePotentialSpec)

/-- ITS FALSE NEIGHBOUR: 'it returns false'. Refute it at one input. -/
def fnExactSolvePotentialWrong : ChangeSpec := { name := "fnExactSolvePotential", fn := fun _ => fun
  | [d1, d2, d3] => { results := [.lit (.bool false)], args := [d1, d2, d3] }
  | _ => none }
def FnExactSolvePotentialWrongFalsely : Prop := fnExactSolvePotentialRow.holds Try.pinned (OpenSpec.ofChange fnExactSolvePotentialWrong)

/-- 'laws.FnExactResidualOf': WHATEVER THE INPUT: true; the input reads as it did. -/
def fnExactResidualOfSpec : ChangeSpec := { name := "fnExactResidualOf", fn := fun _ => fun
  | [d1, d2, d3] => { results := [.lit (.bool true)], args := [d1, d2, d3] }
  | _ => none }
def fnExactResidualOfRow : OpenClaim := { program := "ytdafcgimkiepnaa", sum := "829a667a2f385c1a50f30de14c6341f97e7f4eeeabf480f838dbe3d2d4b31c61", func := "loop.example/g01226/laws.FnExactResidualOf", spec := "fnExactResidualOf", inPlace := ["math.Float64bits", "math.Float64frombits"], apart := false }
def FnExactResidualOfSaid : Prop := fnExactResidualOfRow.holds Try.pinned (OpenSpec.ofChange fnExactResidualOfSpec)

/-- ITS FALSE NEIGHBOUR: 'it returns false'. Refute it at one input. -/
def fnExactResidualOfWrong : ChangeSpec := { name := "fnExactResidualOf", fn := fun _ => fun
  | [d1, d2, d3] => { results := [.lit (.bool false)], args := [d1, d2, d3] }
  | _ => none }
def FnExactResidualOfWrongFalsely : Prop := fnExactResidualOfRow.holds Try.pinned (OpenSpec.ofChange fnExactResidualOfWrong)

/-- 'laws.FnExactSweepRows': WHATEVER THE INPUT: true; the input reads as it did. -/
def fnExactSweepRowsSpec : ChangeSpec := { name := "fnExactSweepRows", fn := fun _ => fun
  | [d1, d2, d3] => { results := [.lit (.bool true)], args := [d1, d2, d3] }
  | _ => none }
def fnExactSweepRowsRow : OpenClaim := { program := "ytdafcgimkiepnaa", sum := "829a667a2f385c1a50f30de14c6341f97e7f4eeeabf480f838dbe3d2d4b31c61", func := "loop.example/g01226/laws.FnExactSweepRows", spec := "fnExactSweepRows", apart := false }
def FnExactSweepRowsSaid : Prop := fnExactSweepRowsRow.holds Try.pinned (OpenSpec.ofChange fnExactSweepRowsSpec)

/-- ITS FALSE NEIGHBOUR: 'it returns false'. Refute it at one input. -/
def fnExactSweepRowsWrong : ChangeSpec := { name := "fnExactSweepRows", fn := fun _ => fun
  | [d1, d2, d3] => { results := [.lit (.bool false)], args := [d1, d2, d3] }
  | _ => none }
def FnExactSweepRowsWrongFalsely : Prop := fnExactSweepRowsRow.holds Try.pinned (OpenSpec.ofChange fnExactSweepRowsWrong)

/-- 'laws.FnExactTwoGrids': WHATEVER THE INPUT: true; the input reads as it did. -/
def fnExactTwoGridsSpec : ChangeSpec := { name := "fnExactTwoGrids", fn := fun _ => fun
  | [d1, d2, d3, d4] => { results := [.lit (.bool true)], args := [d1, d2, d3, d4] }
  | _ => none }
def fnExactTwoGridsRow : OpenClaim := { program := "ytdafcgimkiepnaa", sum := "829a667a2f385c1a50f30de14c6341f97e7f4eeeabf480f838dbe3d2d4b31c61", func := "loop.example/g01226/laws.FnExactTwoGrids", spec := "fnExactTwoGrids", apart := false }
def FnExactTwoGridsSaid : Prop := fnExactTwoGridsRow.holds Try.pinned (OpenSpec.ofChange fnExactTwoGridsSpec)

/-- ITS FALSE NEIGHBOUR: 'it returns false'. Refute it at one input. -/
def fnExactTwoGridsWrong : ChangeSpec := { name := "fnExactTwoGrids", fn := fun _ => fun
  | [d1, d2, d3, d4] => { results := [.lit (.bool false)], args := [d1, d2, d3, d4] }
  | _ => none }
def FnExactTwoGridsWrongFalsely : Prop := fnExactTwoGridsRow.holds Try.pinned (OpenSpec.ofChange fnExactTwoGridsWrong)

/- THE SECOND FORM. 'bulk': how many values and letters a reading holds, each counted each time it is reached (what is shared counts as often as it is met; a slice's spare places count too). A statement '..UptoSaid' is the law's where the arguments, and the package variables that the reading takes, are together of bulk at most 1048576: NARROWER than '..Said'. Prove '..Said' where nothing that the law and all that it calls make is longer than what came in: it says more and counts as full. Else prove '..UptoSaid'. A law counts once. -/
mutual
def uptoBulk {H : Type} : DataW H → Nat
  | .lit (.string bytes) => bytes.length + 1
  | .lit _ => 1
  | .nil => 1
  | .ptr d => uptoBulk d + 1
  | .slice elems spare => uptoBulkAll elems + uptoBulkAll spare + 1
  | .agg parts => uptoBulkAll parts + 1
  | .iface _ d => uptoBulk d + 1
  | .map entries => uptoBulkEntries entries + 1
  | .held _ => 1
def uptoBulkAll {H : Type} : List (DataW H) → Nat
  | [] => 0
  | d :: r => uptoBulk d + uptoBulkAll r
def uptoBulkEntries {H : Type} : List (Lit × DataW H) → Nat
  | [] => 0
  | x :: r => uptoBulkEntry x + uptoBulkEntries r
def uptoBulkEntry {H : Type} : Lit × DataW H → Nat
  | (.string bytes, d) => bytes.length + uptoBulk d + 1
  | (_, d) => uptoBulk d + 1
 end
def uptoSmall : (H : Type) → List (DataW H) → Bool := fun _ ds => decide (uptoBulkAll ds ≤ 1048576)
def OpenSpec.upto (s : _root_.Go.ChangeSpec) : _root_.Go.OpenSpec := { _root_.Go.OpenSpec.ofChange s with cond := some uptoSmall }

/-- 'laws.FnExactFieldsOf', WHERE WHAT IT READS IS OF BULK AT MOST 1048576: true; the input reads as it did. -/
def fnExactFieldsOfUptoRow : OpenClaim := { program := "ytdafcgimkiepnaa", sum := "829a667a2f385c1a50f30de14c6341f97e7f4eeeabf480f838dbe3d2d4b31c61", func := "loop.example/g01226/laws.FnExactFieldsOf", spec := "fnExactFieldsOf", apart := false, narrowed := true }
def FnExactFieldsOfUptoSaid : Prop := fnExactFieldsOfUptoRow.holds Try.pinned (OpenSpec.upto fnExactFieldsOfSpec)

/-- 'laws.FnExactFineField', WHERE WHAT IT READS IS OF BULK AT MOST 1048576: true; the input reads as it did. -/
def fnExactFineFieldUptoRow : OpenClaim := { program := "ytdafcgimkiepnaa", sum := "829a667a2f385c1a50f30de14c6341f97e7f4eeeabf480f838dbe3d2d4b31c61", func := "loop.example/g01226/laws.FnExactFineField", spec := "fnExactFineField", apart := false, narrowed := true }
def FnExactFineFieldUptoSaid : Prop := fnExactFineFieldUptoRow.holds Try.pinned (OpenSpec.upto fnExactFineFieldSpec)

/-- 'laws.FnExactWithoutMean', WHERE WHAT IT READS IS OF BULK AT MOST 1048576: true; the input reads as it did. -/
def fnExactWithoutMeanUptoRow : OpenClaim := { program := "ytdafcgimkiepnaa", sum := "829a667a2f385c1a50f30de14c6341f97e7f4eeeabf480f838dbe3d2d4b31c61", func := "loop.example/g01226/laws.FnExactWithoutMean", spec := "fnExactWithoutMean", apart := false, narrowed := true }
def FnExactWithoutMeanUptoSaid : Prop := fnExactWithoutMeanUptoRow.holds Try.pinned (OpenSpec.upto fnExactWithoutMeanSpec)

/-- 'laws.FnExactLaplaceOf', WHERE WHAT IT READS IS OF BULK AT MOST 1048576: true; the input reads as it did. -/
def fnExactLaplaceOfUptoRow : OpenClaim := { program := "ytdafcgimkiepnaa", sum := "829a667a2f385c1a50f30de14c6341f97e7f4eeeabf480f838dbe3d2d4b31c61", func := "loop.example/g01226/laws.FnExactLaplaceOf", spec := "fnExactLaplaceOf", apart := false, narrowed := true }
def FnExactLaplaceOfUptoSaid : Prop := fnExactLaplaceOfUptoRow.holds Try.pinned (OpenSpec.upto fnExactLaplaceOfSpec)

/-- 'laws.FnExactCoarseField', WHERE WHAT IT READS IS OF BULK AT MOST 1048576: true; the input reads as it did. -/
def fnExactCoarseFieldUptoRow : OpenClaim := { program := "ytdafcgimkiepnaa", sum := "829a667a2f385c1a50f30de14c6341f97e7f4eeeabf480f838dbe3d2d4b31c61", func := "loop.example/g01226/laws.FnExactCoarseField", spec := "fnExactCoarseField", apart := false, narrowed := true }
def FnExactCoarseFieldUptoSaid : Prop := fnExactCoarseFieldUptoRow.holds Try.pinned (OpenSpec.upto fnExactCoarseFieldSpec)

/-- 'laws.FnExactFieldEnergy', WHERE WHAT IT READS IS OF BULK AT MOST 1048576: true; the input reads as it did. -/
def fnExactFieldEnergyUptoRow : OpenClaim := { program := "ytdafcgimkiepnaa", sum := "829a667a2f385c1a50f30de14c6341f97e7f4eeeabf480f838dbe3d2d4b31c61", func := "loop.example/g01226/laws.FnExactFieldEnergy", spec := "fnExactFieldEnergy", apart := false, narrowed := true }
def FnExactFieldEnergyUptoSaid : Prop := fnExactFieldEnergyUptoRow.holds Try.pinned (OpenSpec.upto fnExactFieldEnergySpec)

/-- 'laws.FnExactSweepColour', WHERE WHAT IT READS IS OF BULK AT MOST 1048576: true; the input reads as it did. -/
def fnExactSweepColourUptoRow : OpenClaim := { program := "ytdafcgimkiepnaa", sum := "829a667a2f385c1a50f30de14c6341f97e7f4eeeabf480f838dbe3d2d4b31c61", func := "loop.example/g01226/laws.FnExactSweepColour", spec := "fnExactSweepColour", apart := false, narrowed := true }
def FnExactSweepColourUptoSaid : Prop := fnExactSweepColourUptoRow.holds Try.pinned (OpenSpec.upto fnExactSweepColourSpec)

/-- 'laws.FnExactSweepShared', WHERE WHAT IT READS IS OF BULK AT MOST 1048576: true; the input reads as it did. -/
def fnExactSweepSharedUptoRow : OpenClaim := { program := "ytdafcgimkiepnaa", sum := "829a667a2f385c1a50f30de14c6341f97e7f4eeeabf480f838dbe3d2d4b31c61", func := "loop.example/g01226/laws.FnExactSweepShared", spec := "fnExactSweepShared", apart := false, narrowed := true }
def FnExactSweepSharedUptoSaid : Prop := fnExactSweepSharedUptoRow.holds Try.pinned (OpenSpec.upto fnExactSweepSharedSpec)

/-- 'laws.FnExactSolvePotential', WHERE WHAT IT READS IS OF BULK AT MOST 1048576: true; the input reads as it did. -/
def fnExactSolvePotentialUptoRow : OpenClaim := { program := "ytdafcgimkiepnaa", sum := "829a667a2f385c1a50f30de14c6341f97e7f4eeeabf480f838dbe3d2d4b31c61", func := "loop.example/g01226/laws.FnExactSolvePotential", spec := "fnExactSolvePotential", apart := false, narrowed := true }
def FnExactSolvePotentialUptoSaid : Prop := fnExactSolvePotentialUptoRow.holds Try.pinned (OpenSpec.upto fnExactSolvePotentialSpec)

/-- 'laws.FnExactResidualOf', WHERE WHAT IT READS IS OF BULK AT MOST 1048576: true; the input reads as it did. -/
def fnExactResidualOfUptoRow : OpenClaim := { program := "ytdafcgimkiepnaa", sum := "829a667a2f385c1a50f30de14c6341f97e7f4eeeabf480f838dbe3d2d4b31c61", func := "loop.example/g01226/laws.FnExactResidualOf", spec := "fnExactResidualOf", inPlace := ["math.Float64bits", "math.Float64frombits"], apart := false, narrowed := true }
def FnExactResidualOfUptoSaid : Prop := fnExactResidualOfUptoRow.holds Try.pinned (OpenSpec.upto fnExactResidualOfSpec)

/-- 'laws.FnExactSweepRows', WHERE WHAT IT READS IS OF BULK AT MOST 1048576: true; the input reads as it did. -/
def fnExactSweepRowsUptoRow : OpenClaim := { program := "ytdafcgimkiepnaa", sum := "829a667a2f385c1a50f30de14c6341f97e7f4eeeabf480f838dbe3d2d4b31c61", func := "loop.example/g01226/laws.FnExactSweepRows", spec := "fnExactSweepRows", apart := false, narrowed := true }
def FnExactSweepRowsUptoSaid : Prop := fnExactSweepRowsUptoRow.holds Try.pinned (OpenSpec.upto fnExactSweepRowsSpec)

/-- 'laws.FnExactTwoGrids', WHERE WHAT IT READS IS OF BULK AT MOST 1048576: true; the input reads as it did. -/
def fnExactTwoGridsUptoRow : OpenClaim := { program := "ytdafcgimkiepnaa", sum := "829a667a2f385c1a50f30de14c6341f97e7f4eeeabf480f838dbe3d2d4b31c61", func := "loop.example/g01226/laws.FnExactTwoGrids", spec := "fnExactTwoGrids", apart := false, narrowed := true }
def FnExactTwoGridsUptoSaid : Prop := fnExactTwoGridsUptoRow.holds Try.pinned (OpenSpec.upto fnExactTwoGridsSpec)

end Rows
end Go.Proofs.Ytdafcgimkiepnaa
