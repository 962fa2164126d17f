/-
  No cell of these rows narrows 'for every input' (looked for: loops, veiled, ifaces, maps, wideKeys, modest, calm, conditions, laid).
  DERIVED. THE GIVEN ROWS OF THIS SEAT. 7 by the template 'for every input the law returns true; each argument reads behind the call as it read before'; 0 by the template 'total and deterministic' (their statements: YtkkcjpldldhcgaaTotals.lean).
  GIVEN WITH THE SEED: the statements are not yours to turn. If you find one false, say at which input.
  Laid BY PROGRAM, IN A SANDBOX (cutbox-rows.mjs): the forced cells as the released guide's own fill.sh prints them over the translation ab508e861029a2c6… (all of the seat's roots in one cut). By AI agents, Wed Nov 11 2026. No macro, syntax, notation, axiom, sorry.
-/
import Derived.Test.YtkkcjpldldhcgaaChecked
import GoSem.Claim
import GoSem.ClaimJoined
import GoSem.ClaimMapViews
import Derived.JoinedTies
import Derived.KernelRfl
namespace Go.Proofs.Ytkkcjpldldhcgaa
/- THE CELL 'sum', in the pinned program and in every row, IS THE sha256 OF THE DUMP (.gsa) THAT YtkkcjpldldhcgaaProg.lean LOADS. Nothing in Lean hashes anything: it is a label: what it is worth is what the hold of that sum in a sandbox is worth. -/
noncomputable def Try.pinned : Pinned := { name := "ytkkcjpldldhcgaa", sum := "ab508e861029a2c6e4ce5d2f2608a285cd2036fd309d9b66c63b124d3fc5d912", checked := Try.checked }
namespace Rows
def none {H : Type} : Left H := { results := [], args := [] }

/-- 'laws.FnExactNextSeed': WHATEVER THE INPUT: true; the input reads as it did. -/
def fnExactNextSeedSpec : ChangeSpec := { name := "fnExactNextSeed", fn := fun _ => fun
  | [d] => { results := [.lit (.bool true)], args := [d] }
  | _ => none }
def fnExactNextSeedRow : OpenClaim := { program := "ytkkcjpldldhcgaa", sum := "ab508e861029a2c6e4ce5d2f2608a285cd2036fd309d9b66c63b124d3fc5d912", func := "loop.example/g01226/laws.FnExactNextSeed", spec := "fnExactNextSeed", apart := false }
def FnExactNextSeedSaid : Prop := fnExactNextSeedRow.holds Try.pinned (OpenSpec.ofChange fnExactNextSeedSpec)

/-- ITS FALSE NEIGHBOUR: 'it returns false'. Refute it at one input. -/
def fnExactNextSeedWrong : ChangeSpec := { name := "fnExactNextSeed", fn := fun _ => fun
  | [d] => { results := [.lit (.bool false)], args := [d] }
  | _ => none }
def FnExactNextSeedWrongFalsely : Prop := fnExactNextSeedRow.holds Try.pinned (OpenSpec.ofChange fnExactNextSeedWrong)

/-- 'laws.FnExactUnitOfSeed': WHATEVER THE INPUT: true; the input reads as it did. -/
def fnExactUnitOfSeedSpec : ChangeSpec := { name := "fnExactUnitOfSeed", fn := fun _ => fun
  | [d] => { results := [.lit (.bool true)], args := [d] }
  | _ => none }
def fnExactUnitOfSeedRow : OpenClaim := { program := "ytkkcjpldldhcgaa", sum := "ab508e861029a2c6e4ce5d2f2608a285cd2036fd309d9b66c63b124d3fc5d912", func := "loop.example/g01226/laws.FnExactUnitOfSeed", spec := "fnExactUnitOfSeed", apart := false }
def FnExactUnitOfSeedSaid : Prop := fnExactUnitOfSeedRow.holds Try.pinned (OpenSpec.ofChange fnExactUnitOfSeedSpec)

/-- ITS FALSE NEIGHBOUR: 'it returns false'. Refute it at one input. -/
def fnExactUnitOfSeedWrong : ChangeSpec := { name := "fnExactUnitOfSeed", fn := fun _ => fun
  | [d] => { results := [.lit (.bool false)], args := [d] }
  | _ => none }
def FnExactUnitOfSeedWrongFalsely : Prop := fnExactUnitOfSeedRow.holds Try.pinned (OpenSpec.ofChange fnExactUnitOfSeedWrong)

/-- 'laws.FnExactMeanOf': WHATEVER THE INPUT: true; the input reads as it did. -/
def fnExactMeanOfSpec : ChangeSpec := { name := "fnExactMeanOf", fn := fun _ => fun
  | [d1, d2] => { results := [.lit (.bool true)], args := [d1, d2] }
  | _ => none }
def fnExactMeanOfRow : OpenClaim := { program := "ytkkcjpldldhcgaa", sum := "ab508e861029a2c6e4ce5d2f2608a285cd2036fd309d9b66c63b124d3fc5d912", func := "loop.example/g01226/laws.FnExactMeanOf", spec := "fnExactMeanOf", apart := false }
def FnExactMeanOfSaid : Prop := fnExactMeanOfRow.holds Try.pinned (OpenSpec.ofChange fnExactMeanOfSpec)

/-- ITS FALSE NEIGHBOUR: 'it returns false'. Refute it at one input. -/
def fnExactMeanOfWrong : ChangeSpec := { name := "fnExactMeanOf", fn := fun _ => fun
  | [d1, d2] => { results := [.lit (.bool false)], args := [d1, d2] }
  | _ => none }
def FnExactMeanOfWrongFalsely : Prop := fnExactMeanOfRow.holds Try.pinned (OpenSpec.ofChange fnExactMeanOfWrong)

/-- 'laws.FnExactSpringField': WHATEVER THE INPUT: true; the input reads as it did. -/
def fnExactSpringFieldSpec : ChangeSpec := { name := "fnExactSpringField", fn := fun _ => fun
  | [d1, d2] => { results := [.lit (.bool true)], args := [d1, d2] }
  | _ => none }
def fnExactSpringFieldRow : OpenClaim := { program := "ytkkcjpldldhcgaa", sum := "ab508e861029a2c6e4ce5d2f2608a285cd2036fd309d9b66c63b124d3fc5d912", func := "loop.example/g01226/laws.FnExactSpringField", spec := "fnExactSpringField", apart := false }
def FnExactSpringFieldSaid : Prop := fnExactSpringFieldRow.holds Try.pinned (OpenSpec.ofChange fnExactSpringFieldSpec)

/-- ITS FALSE NEIGHBOUR: 'it returns false'. Refute it at one input. -/
def fnExactSpringFieldWrong : ChangeSpec := { name := "fnExactSpringField", fn := fun _ => fun
  | [d1, d2] => { results := [.lit (.bool false)], args := [d1, d2] }
  | _ => none }
def FnExactSpringFieldWrongFalsely : Prop := fnExactSpringFieldRow.holds Try.pinned (OpenSpec.ofChange fnExactSpringFieldWrong)

/-- 'laws.FnExactSolveRow': WHATEVER THE INPUT: true; the input reads as it did. -/
def fnExactSolveRowSpec : ChangeSpec := { name := "fnExactSolveRow", fn := fun _ => fun
  | [d1, d2, d3, d4] => { results := [.lit (.bool true)], args := [d1, d2, d3, d4] }
  | _ => none }
def fnExactSolveRowRow : OpenClaim := { program := "ytkkcjpldldhcgaa", sum := "ab508e861029a2c6e4ce5d2f2608a285cd2036fd309d9b66c63b124d3fc5d912", func := "loop.example/g01226/laws.FnExactSolveRow", spec := "fnExactSolveRow", apart := false }
def FnExactSolveRowSaid : Prop := fnExactSolveRowRow.holds Try.pinned (OpenSpec.ofChange fnExactSolveRowSpec)

/-- ITS FALSE NEIGHBOUR: 'it returns false'. Refute it at one input. -/
def fnExactSolveRowWrong : ChangeSpec := { name := "fnExactSolveRow", fn := fun _ => fun
  | [d1, d2, d3, d4] => { results := [.lit (.bool false)], args := [d1, d2, d3, d4] }
  | _ => none }
def FnExactSolveRowWrongFalsely : Prop := fnExactSolveRowRow.holds Try.pinned (OpenSpec.ofChange fnExactSolveRowWrong)

/-- 'laws.FnExactSolveRing': WHATEVER THE INPUT: true; the input reads as it did. -/
def fnExactSolveRingSpec : ChangeSpec := { name := "fnExactSolveRing", fn := fun _ => fun
  | [d] => { results := [.lit (.bool true)], args := [d] }
  | _ => none }
def fnExactSolveRingRow : OpenClaim := { program := "ytkkcjpldldhcgaa", sum := "ab508e861029a2c6e4ce5d2f2608a285cd2036fd309d9b66c63b124d3fc5d912", func := "loop.example/g01226/laws.FnExactSolveRing", spec := "fnExactSolveRing", apart := false }
def FnExactSolveRingSaid : Prop := fnExactSolveRingRow.holds Try.pinned (OpenSpec.ofChange fnExactSolveRingSpec)

/-- ITS FALSE NEIGHBOUR: 'it returns false'. Refute it at one input. -/
def fnExactSolveRingWrong : ChangeSpec := { name := "fnExactSolveRing", fn := fun _ => fun
  | [d] => { results := [.lit (.bool false)], args := [d] }
  | _ => none }
def FnExactSolveRingWrongFalsely : Prop := fnExactSolveRingRow.holds Try.pinned (OpenSpec.ofChange fnExactSolveRingWrong)

/-- 'laws.FnExactTwoStreams': WHATEVER THE INPUT: true; the input reads as it did. -/
def fnExactTwoStreamsSpec : ChangeSpec := { name := "fnExactTwoStreams", fn := fun _ => fun
  | [d1, d2, d3] => { results := [.lit (.bool true)], args := [d1, d2, d3] }
  | _ => none }
def fnExactTwoStreamsRow : OpenClaim := { program := "ytkkcjpldldhcgaa", sum := "ab508e861029a2c6e4ce5d2f2608a285cd2036fd309d9b66c63b124d3fc5d912", func := "loop.example/g01226/laws.FnExactTwoStreams", spec := "fnExactTwoStreams", unfollowed := true, recurses := true, apart := false }
def FnExactTwoStreamsSaid : Prop := fnExactTwoStreamsRow.holds Try.pinned (OpenSpec.ofChange fnExactTwoStreamsSpec)

/-- ITS FALSE NEIGHBOUR: 'it returns false'. Refute it at one input. -/
def fnExactTwoStreamsWrong : ChangeSpec := { name := "fnExactTwoStreams", fn := fun _ => fun
  | [d1, d2, d3] => { results := [.lit (.bool false)], args := [d1, d2, d3] }
  | _ => none }
def FnExactTwoStreamsWrongFalsely : Prop := fnExactTwoStreamsRow.holds Try.pinned (OpenSpec.ofChange fnExactTwoStreamsWrong)

/- THE SECOND FORM. 'bulk': how many values and letters a reading holds, each counted each time it is reached (what is shared counts as often as it is met; a slice's spare places count too). A statement '..UptoSaid' is the law's where the arguments, and the package variables that the reading takes, are together of bulk at most 1048576: NARROWER than '..Said'. Prove '..Said' where nothing that the law and all that it calls make is longer than what came in: it says more and counts as full. Else prove '..UptoSaid'. A law counts once. -/
mutual
def uptoBulk {H : Type} : DataW H → Nat
  | .lit (.string bytes) => bytes.length + 1
  | .lit _ => 1
  | .nil => 1
  | .ptr d => uptoBulk d + 1
  | .slice elems spare => uptoBulkAll elems + uptoBulkAll spare + 1
  | .agg parts => uptoBulkAll parts + 1
  | .iface _ d => uptoBulk d + 1
  | .map entries => uptoBulkEntries entries + 1
  | .held _ => 1
def uptoBulkAll {H : Type} : List (DataW H) → Nat
  | [] => 0
  | d :: r => uptoBulk d + uptoBulkAll r
def uptoBulkEntries {H : Type} : List (Lit × DataW H) → Nat
  | [] => 0
  | x :: r => uptoBulkEntry x + uptoBulkEntries r
def uptoBulkEntry {H : Type} : Lit × DataW H → Nat
  | (.string bytes, d) => bytes.length + uptoBulk d + 1
  | (_, d) => uptoBulk d + 1
 end
def uptoSmall : (H : Type) → List (DataW H) → Bool := fun _ ds => decide (uptoBulkAll ds ≤ 1048576)
def OpenSpec.upto (s : _root_.Go.ChangeSpec) : _root_.Go.OpenSpec := { _root_.Go.OpenSpec.ofChange s with cond := some uptoSmall }

/-- 'laws.FnExactNextSeed', WHERE WHAT IT READS IS OF BULK AT MOST 1048576: true; the input reads as it did. -/
def fnExactNextSeedUptoRow : OpenClaim := { program := "ytkkcjpldldhcgaa", sum := "ab508e861029a2c6e4ce5d2f2608a285cd2036fd309d9b66c63b124d3fc5d912", func := "loop.example/g01226/laws.FnExactNextSeed", spec := "fnExactNextSeed", apart := false, narrowed := true }
def FnExactNextSeedUptoSaid : Prop := fnExactNextSeedUptoRow.holds Try.pinned (OpenSpec.upto fnExactNextSeedSpec)

/-- 'laws.FnExactUnitOfSeed', WHERE WHAT IT READS IS OF BULK AT MOST 1048576: true; the input reads as it did. -/
def fnExactUnitOfSeedUptoRow : OpenClaim := { program := "ytkkcjpldldhcgaa", sum := "ab508e861029a2c6e4ce5d2f2608a285cd2036fd309d9b66c63b124d3fc5d912", func := "loop.example/g01226/laws.FnExactUnitOfSeed", spec := "fnExactUnitOfSeed", apart := false, narrowed := true }
def FnExactUnitOfSeedUptoSaid : Prop := fnExactUnitOfSeedUptoRow.holds Try.pinned (OpenSpec.upto fnExactUnitOfSeedSpec)

/-- 'laws.FnExactMeanOf', WHERE WHAT IT READS IS OF BULK AT MOST 1048576: true; the input reads as it did. -/
def fnExactMeanOfUptoRow : OpenClaim := { program := "ytkkcjpldldhcgaa", sum := "ab508e861029a2c6e4ce5d2f2608a285cd2036fd309d9b66c63b124d3fc5d912", func := "loop.example/g01226/laws.FnExactMeanOf", spec := "fnExactMeanOf", apart := false, narrowed := true }
def FnExactMeanOfUptoSaid : Prop := fnExactMeanOfUptoRow.holds Try.pinned (OpenSpec.upto fnExactMeanOfSpec)

/-- 'laws.FnExactSpringField', WHERE WHAT IT READS IS OF BULK AT MOST 1048576: true; the input reads as it did. -/
def fnExactSpringFieldUptoRow : OpenClaim := { program := "ytkkcjpldldhcgaa", sum := "ab508e861029a2c6e4ce5d2f2608a285cd2036fd309d9b66c63b124d3fc5d912", func := "loop.example/g01226/laws.FnExactSpringField", spec := "fnExactSpringField", apart := false, narrowed := true }
def FnExactSpringFieldUptoSaid : Prop := fnExactSpringFieldUptoRow.holds Try.pinned (OpenSpec.upto fnExactSpringFieldSpec)

/-- 'laws.FnExactSolveRow', WHERE WHAT IT READS IS OF BULK AT MOST 1048576: true; the input reads as it did. -/
def fnExactSolveRowUptoRow : OpenClaim := { program := "ytkkcjpldldhcgaa", sum := "ab508e861029a2c6e4ce5d2f2608a285cd2036fd309d9b66c63b124d3fc5d912", func := "loop.example/g01226/laws.FnExactSolveRow", spec := "fnExactSolveRow", apart := false, narrowed := true }
def FnExactSolveRowUptoSaid : Prop := fnExactSolveRowUptoRow.holds Try.pinned (OpenSpec.upto fnExactSolveRowSpec)

/-- 'laws.FnExactSolveRing', WHERE WHAT IT READS IS OF BULK AT MOST 1048576: true; the input reads as it did. -/
def fnExactSolveRingUptoRow : OpenClaim := { program := "ytkkcjpldldhcgaa", sum := "ab508e861029a2c6e4ce5d2f2608a285cd2036fd309d9b66c63b124d3fc5d912", func := "loop.example/g01226/laws.FnExactSolveRing", spec := "fnExactSolveRing", apart := false, narrowed := true }
def FnExactSolveRingUptoSaid : Prop := fnExactSolveRingUptoRow.holds Try.pinned (OpenSpec.upto fnExactSolveRingSpec)

/-- 'laws.FnExactTwoStreams', WHERE WHAT IT READS IS OF BULK AT MOST 1048576: true; the input reads as it did. -/
def fnExactTwoStreamsUptoRow : OpenClaim := { program := "ytkkcjpldldhcgaa", sum := "ab508e861029a2c6e4ce5d2f2608a285cd2036fd309d9b66c63b124d3fc5d912", func := "loop.example/g01226/laws.FnExactTwoStreams", spec := "fnExactTwoStreams", unfollowed := true, recurses := true, apart := false, narrowed := true }
def FnExactTwoStreamsUptoSaid : Prop := fnExactTwoStreamsUptoRow.holds Try.pinned (OpenSpec.upto fnExactTwoStreamsSpec)

end Rows
end Go.Proofs.Ytkkcjpldldhcgaa
