/-
  No cell of these rows narrows 'for every input' (looked for: loops, veiled, ifaces, maps, wideKeys, modest, calm, conditions, laid).
  DERIVED. THE GIVEN ROWS OF THIS SEAT. 9 by the template 'for every input the law returns true; each argument reads behind the call as it read before'; 0 by the template 'total and deterministic' (their statements: YthiiicgibcgipaaTotals.lean).
  GIVEN WITH THE SEED: the statements are not yours to turn. If you find one false, say at which input.
  Laid BY PROGRAM, IN A SANDBOX (cutbox-rows.mjs): the forced cells as the released guide's own fill.sh prints them over the translation 0674c60778ee45e3… (all of the seat's roots in one cut). By AI agents, Wed Nov 11 2026. No macro, syntax, notation, axiom, sorry.
-/
import Derived.Test.YthiiicgibcgipaaChecked
import GoSem.Claim
import GoSem.ClaimJoined
import GoSem.ClaimMapViews
import Derived.JoinedTies
import Derived.KernelRfl
namespace Go.Proofs.Ythiiicgibcgipaa
/- THE CELL 'sum', in the pinned program and in every row, IS THE sha256 OF THE DUMP (.gsa) THAT YthiiicgibcgipaaProg.lean LOADS. Nothing in Lean hashes anything: it is a label: what it is worth is what the hold of that sum in a sandbox is worth. -/
noncomputable def Try.pinned : Pinned := { name := "ythiiicgibcgipaa", sum := "0674c60778ee45e300f1797a21b5aaa167b35a1a50868694083992983d77cfa9", checked := Try.checked }
namespace Rows
def none {H : Type} : Left H := { results := [], args := [] }

/-- 'scarplaw4.FsumWhole': WHATEVER THE INPUT: true; the input reads as it did. -/
def fsumWholeSpec : ChangeSpec := { name := "fsumWhole", fn := fun _ => fun
  | [d1, d2] => { results := [.lit (.bool true)], args := [d1, d2] }
  | _ => none }
def fsumWholeRow : OpenClaim := { program := "ythiiicgibcgipaa", sum := "0674c60778ee45e300f1797a21b5aaa167b35a1a50868694083992983d77cfa9", func := "scarp/scarplaw4.FsumWhole", spec := "fsumWhole", inPlace := ["math.Float64bits", "math.Float64frombits"], apart := false }
def FsumWholeSaid : Prop := fsumWholeRow.holds Try.pinned (OpenSpec.ofChange fsumWholeSpec)

/-- ITS FALSE NEIGHBOUR: 'it returns false'. Refute it at one input. -/
def fsumWholeWrong : ChangeSpec := { name := "fsumWhole", fn := fun _ => fun
  | [d1, d2] => { results := [.lit (.bool false)], args := [d1, d2] }
  | _ => none }
def FsumWholeWrongFalsely : Prop := fsumWholeRow.holds Try.pinned (OpenSpec.ofChange fsumWholeWrong)

/-- 'scarplaw4.FsumEdges': WHATEVER THE INPUT: true; the input reads as it did. -/
def fsumEdgesSpec : ChangeSpec := { name := "fsumEdges", fn := fun _ => fun
  | [d] => { results := [.lit (.bool true)], args := [d] }
  | _ => none }
def fsumEdgesRow : OpenClaim := { program := "ythiiicgibcgipaa", sum := "0674c60778ee45e300f1797a21b5aaa167b35a1a50868694083992983d77cfa9", func := "scarp/scarplaw4.FsumEdges", spec := "fsumEdges", inPlace := ["math.Float64bits", "math.Float64frombits"], apart := false }
def FsumEdgesSaid : Prop := fsumEdgesRow.holds Try.pinned (OpenSpec.ofChange fsumEdgesSpec)

/-- ITS FALSE NEIGHBOUR: 'it returns false'. Refute it at one input. -/
def fsumEdgesWrong : ChangeSpec := { name := "fsumEdges", fn := fun _ => fun
  | [d] => { results := [.lit (.bool false)], args := [d] }
  | _ => none }
def FsumEdgesWrongFalsely : Prop := fsumEdgesRow.holds Try.pinned (OpenSpec.ofChange fsumEdgesWrong)

/-- 'scarplaw4.FsumDoubles': WHATEVER THE INPUT: true; the input reads as it did. -/
def fsumDoublesSpec : ChangeSpec := { name := "fsumDoubles", fn := fun _ => fun
  | [d] => { results := [.lit (.bool true)], args := [d] }
  | _ => none }
def fsumDoublesRow : OpenClaim := { program := "ythiiicgibcgipaa", sum := "0674c60778ee45e300f1797a21b5aaa167b35a1a50868694083992983d77cfa9", func := "scarp/scarplaw4.FsumDoubles", spec := "fsumDoubles", inPlace := ["math.Float64bits", "math.Float64frombits"], apart := false }
def FsumDoublesSaid : Prop := fsumDoublesRow.holds Try.pinned (OpenSpec.ofChange fsumDoublesSpec)

/-- ITS FALSE NEIGHBOUR: 'it returns false'. Refute it at one input. -/
def fsumDoublesWrong : ChangeSpec := { name := "fsumDoubles", fn := fun _ => fun
  | [d] => { results := [.lit (.bool false)], args := [d] }
  | _ => none }
def FsumDoublesWrongFalsely : Prop := fsumDoublesRow.holds Try.pinned (OpenSpec.ofChange fsumDoublesWrong)

/-- 'scarplaw4.FsumOnes': WHATEVER THE INPUT: true; the input reads as it did. -/
def fsumOnesSpec : ChangeSpec := { name := "fsumOnes", fn := fun _ => fun
  | [d] => { results := [.lit (.bool true)], args := [d] }
  | _ => none }
def fsumOnesRow : OpenClaim := { program := "ythiiicgibcgipaa", sum := "0674c60778ee45e300f1797a21b5aaa167b35a1a50868694083992983d77cfa9", func := "scarp/scarplaw4.FsumOnes", spec := "fsumOnes", inPlace := ["math.Float64bits", "math.Float64frombits"], apart := false }
def FsumOnesSaid : Prop := fsumOnesRow.holds Try.pinned (OpenSpec.ofChange fsumOnesSpec)

/-- ITS FALSE NEIGHBOUR: 'it returns false'. Refute it at one input. -/
def fsumOnesWrong : ChangeSpec := { name := "fsumOnes", fn := fun _ => fun
  | [d] => { results := [.lit (.bool false)], args := [d] }
  | _ => none }
def FsumOnesWrongFalsely : Prop := fsumOnesRow.holds Try.pinned (OpenSpec.ofChange fsumOnesWrong)

/-- 'scarplaw4.FsumMiddle': WHATEVER THE INPUT: true; the input reads as it did. -/
def fsumMiddleSpec : ChangeSpec := { name := "fsumMiddle", fn := fun _ => fun
  | [d] => { results := [.lit (.bool true)], args := [d] }
  | _ => none }
def fsumMiddleRow : OpenClaim := { program := "ythiiicgibcgipaa", sum := "0674c60778ee45e300f1797a21b5aaa167b35a1a50868694083992983d77cfa9", func := "scarp/scarplaw4.FsumMiddle", spec := "fsumMiddle", inPlace := ["math.Float64bits", "math.Float64frombits"], apart := false }
def FsumMiddleSaid : Prop := fsumMiddleRow.holds Try.pinned (OpenSpec.ofChange fsumMiddleSpec)

/-- ITS FALSE NEIGHBOUR: 'it returns false'. Refute it at one input. -/
def fsumMiddleWrong : ChangeSpec := { name := "fsumMiddle", fn := fun _ => fun
  | [d] => { results := [.lit (.bool false)], args := [d] }
  | _ => none }
def FsumMiddleWrongFalsely : Prop := fsumMiddleRow.holds Try.pinned (OpenSpec.ofChange fsumMiddleWrong)

/-- 'scarplaw4.FsumAsks': WHATEVER THE INPUT: true; the input reads as it did. -/
def fsumAsksSpec : ChangeSpec := { name := "fsumAsks", fn := fun _ => fun
  | [d1, d2] => { results := [.lit (.bool true)], args := [d1, d2] }
  | _ => none }
def fsumAsksRow : OpenClaim := { program := "ythiiicgibcgipaa", sum := "0674c60778ee45e300f1797a21b5aaa167b35a1a50868694083992983d77cfa9", func := "scarp/scarplaw4.FsumAsks", spec := "fsumAsks", inPlace := ["math.Float64bits", "math.Float64frombits"], apart := false }
def FsumAsksSaid : Prop := fsumAsksRow.holds Try.pinned (OpenSpec.ofChange fsumAsksSpec)

/-- ITS FALSE NEIGHBOUR: 'it returns false'. Refute it at one input. -/
def fsumAsksWrong : ChangeSpec := { name := "fsumAsks", fn := fun _ => fun
  | [d1, d2] => { results := [.lit (.bool false)], args := [d1, d2] }
  | _ => none }
def FsumAsksWrongFalsely : Prop := fsumAsksRow.holds Try.pinned (OpenSpec.ofChange fsumAsksWrong)

/-- 'scarplaw4.FsumQuantiles': WHATEVER THE INPUT: true; the input reads as it did. -/
def fsumQuantilesSpec : ChangeSpec := { name := "fsumQuantiles", fn := fun _ => fun
  | [d1, d2] => { results := [.lit (.bool true)], args := [d1, d2] }
  | _ => none }
def fsumQuantilesRow : OpenClaim := { program := "ythiiicgibcgipaa", sum := "0674c60778ee45e300f1797a21b5aaa167b35a1a50868694083992983d77cfa9", func := "scarp/scarplaw4.FsumQuantiles", spec := "fsumQuantiles", inPlace := ["math.Float64bits", "math.Float64frombits", "math.archFloor", "math.archTrunc"], unfollowed := true, recurses := true, apart := false }
def FsumQuantilesSaid : Prop := fsumQuantilesRow.holds Try.pinned (OpenSpec.ofChange fsumQuantilesSpec)

/-- ITS FALSE NEIGHBOUR: 'it returns false'. Refute it at one input. -/
def fsumQuantilesWrong : ChangeSpec := { name := "fsumQuantiles", fn := fun _ => fun
  | [d1, d2] => { results := [.lit (.bool false)], args := [d1, d2] }
  | _ => none }
def FsumQuantilesWrongFalsely : Prop := fsumQuantilesRow.holds Try.pinned (OpenSpec.ofChange fsumQuantilesWrong)

/-- 'scarplaw4.FsumQuarter': WHATEVER THE INPUT: true; the input reads as it did. -/
def fsumQuarterSpec : ChangeSpec := { name := "fsumQuarter", fn := fun _ => fun
  | [d1, d2, d3] => { results := [.lit (.bool true)], args := [d1, d2, d3] }
  | _ => none }
def fsumQuarterRow : OpenClaim := { program := "ythiiicgibcgipaa", sum := "0674c60778ee45e300f1797a21b5aaa167b35a1a50868694083992983d77cfa9", func := "scarp/scarplaw4.FsumQuarter", spec := "fsumQuarter", inPlace := ["math.Float64bits", "math.Float64frombits", "math.archFloor", "math.archTrunc"], unfollowed := true, recurses := true, apart := false }
def FsumQuarterSaid : Prop := fsumQuarterRow.holds Try.pinned (OpenSpec.ofChange fsumQuarterSpec)

/-- ITS FALSE NEIGHBOUR: 'it returns false'. Refute it at one input. -/
def fsumQuarterWrong : ChangeSpec := { name := "fsumQuarter", fn := fun _ => fun
  | [d1, d2, d3] => { results := [.lit (.bool false)], args := [d1, d2, d3] }
  | _ => none }
def FsumQuarterWrongFalsely : Prop := fsumQuarterRow.holds Try.pinned (OpenSpec.ofChange fsumQuarterWrong)

/-- 'scarplaw4.FsumKeeps': WHATEVER THE INPUT: true; the input reads as it did. -/
def fsumKeepsSpec : ChangeSpec := { name := "fsumKeeps", fn := fun _ => fun
  | [d1, d2] => { results := [.lit (.bool true)], args := [d1, d2] }
  | _ => none }
def fsumKeepsRow : OpenClaim := { program := "ythiiicgibcgipaa", sum := "0674c60778ee45e300f1797a21b5aaa167b35a1a50868694083992983d77cfa9", func := "scarp/scarplaw4.FsumKeeps", spec := "fsumKeeps", inPlace := ["math.Float64bits", "math.Float64frombits", "math.archFloor", "math.archTrunc"], unfollowed := true, recurses := true, apart := false }
def FsumKeepsSaid : Prop := fsumKeepsRow.holds Try.pinned (OpenSpec.ofChange fsumKeepsSpec)

/-- ITS FALSE NEIGHBOUR: 'it returns false'. Refute it at one input. -/
def fsumKeepsWrong : ChangeSpec := { name := "fsumKeeps", fn := fun _ => fun
  | [d1, d2] => { results := [.lit (.bool false)], args := [d1, d2] }
  | _ => none }
def FsumKeepsWrongFalsely : Prop := fsumKeepsRow.holds Try.pinned (OpenSpec.ofChange fsumKeepsWrong)

/- THE SECOND FORM. 'bulk': how many values and letters a reading holds, each counted each time it is reached (what is shared counts as often as it is met; a slice's spare places count too). A statement '..UptoSaid' is the law's where the arguments, and the package variables that the reading takes, are together of bulk at most 1048576: NARROWER than '..Said'. Prove '..Said' where nothing that the law and all that it calls make is longer than what came in: it says more and counts as full. Else prove '..UptoSaid'. A law counts once. -/
mutual
def uptoBulk {H : Type} : DataW H → Nat
  | .lit (.string bytes) => bytes.length + 1
  | .lit _ => 1
  | .nil => 1
  | .ptr d => uptoBulk d + 1
  | .slice elems spare => uptoBulkAll elems + uptoBulkAll spare + 1
  | .agg parts => uptoBulkAll parts + 1
  | .iface _ d => uptoBulk d + 1
  | .map entries => uptoBulkEntries entries + 1
  | .held _ => 1
def uptoBulkAll {H : Type} : List (DataW H) → Nat
  | [] => 0
  | d :: r => uptoBulk d + uptoBulkAll r
def uptoBulkEntries {H : Type} : List (Lit × DataW H) → Nat
  | [] => 0
  | x :: r => uptoBulkEntry x + uptoBulkEntries r
def uptoBulkEntry {H : Type} : Lit × DataW H → Nat
  | (.string bytes, d) => bytes.length + uptoBulk d + 1
  | (_, d) => uptoBulk d + 1
 end
def uptoSmall : (H : Type) → List (DataW H) → Bool := fun _ ds => decide (uptoBulkAll ds ≤ 1048576)
def OpenSpec.upto (s : _root_.Go.ChangeSpec) : _root_.Go.OpenSpec := { _root_.Go.OpenSpec.ofChange s with cond := some uptoSmall }

/-- 'scarplaw4.FsumWhole', WHERE WHAT IT READS IS OF BULK AT MOST 1048576: true; the input reads as it did. -/
def fsumWholeUptoRow : OpenClaim := { program := "ythiiicgibcgipaa", sum := "0674c60778ee45e300f1797a21b5aaa167b35a1a50868694083992983d77cfa9", func := "scarp/scarplaw4.FsumWhole", spec := "fsumWhole", inPlace := ["math.Float64bits", "math.Float64frombits"], apart := false, narrowed := true }
def FsumWholeUptoSaid : Prop := fsumWholeUptoRow.holds Try.pinned (OpenSpec.upto fsumWholeSpec)

/-- 'scarplaw4.FsumEdges', WHERE WHAT IT READS IS OF BULK AT MOST 1048576: true; the input reads as it did. -/
def fsumEdgesUptoRow : OpenClaim := { program := "ythiiicgibcgipaa", sum := "0674c60778ee45e300f1797a21b5aaa167b35a1a50868694083992983d77cfa9", func := "scarp/scarplaw4.FsumEdges", spec := "fsumEdges", inPlace := ["math.Float64bits", "math.Float64frombits"], apart := false, narrowed := true }
def FsumEdgesUptoSaid : Prop := fsumEdgesUptoRow.holds Try.pinned (OpenSpec.upto fsumEdgesSpec)

/-- 'scarplaw4.FsumDoubles', WHERE WHAT IT READS IS OF BULK AT MOST 1048576: true; the input reads as it did. -/
def fsumDoublesUptoRow : OpenClaim := { program := "ythiiicgibcgipaa", sum := "0674c60778ee45e300f1797a21b5aaa167b35a1a50868694083992983d77cfa9", func := "scarp/scarplaw4.FsumDoubles", spec := "fsumDoubles", inPlace := ["math.Float64bits", "math.Float64frombits"], apart := false, narrowed := true }
def FsumDoublesUptoSaid : Prop := fsumDoublesUptoRow.holds Try.pinned (OpenSpec.upto fsumDoublesSpec)

/-- 'scarplaw4.FsumOnes', WHERE WHAT IT READS IS OF BULK AT MOST 1048576: true; the input reads as it did. -/
def fsumOnesUptoRow : OpenClaim := { program := "ythiiicgibcgipaa", sum := "0674c60778ee45e300f1797a21b5aaa167b35a1a50868694083992983d77cfa9", func := "scarp/scarplaw4.FsumOnes", spec := "fsumOnes", inPlace := ["math.Float64bits", "math.Float64frombits"], apart := false, narrowed := true }
def FsumOnesUptoSaid : Prop := fsumOnesUptoRow.holds Try.pinned (OpenSpec.upto fsumOnesSpec)

/-- 'scarplaw4.FsumMiddle', WHERE WHAT IT READS IS OF BULK AT MOST 1048576: true; the input reads as it did. -/
def fsumMiddleUptoRow : OpenClaim := { program := "ythiiicgibcgipaa", sum := "0674c60778ee45e300f1797a21b5aaa167b35a1a50868694083992983d77cfa9", func := "scarp/scarplaw4.FsumMiddle", spec := "fsumMiddle", inPlace := ["math.Float64bits", "math.Float64frombits"], apart := false, narrowed := true }
def FsumMiddleUptoSaid : Prop := fsumMiddleUptoRow.holds Try.pinned (OpenSpec.upto fsumMiddleSpec)

/-- 'scarplaw4.FsumAsks', WHERE WHAT IT READS IS OF BULK AT MOST 1048576: true; the input reads as it did. -/
def fsumAsksUptoRow : OpenClaim := { program := "ythiiicgibcgipaa", sum := "0674c60778ee45e300f1797a21b5aaa167b35a1a50868694083992983d77cfa9", func := "scarp/scarplaw4.FsumAsks", spec := "fsumAsks", inPlace := ["math.Float64bits", "math.Float64frombits"], apart := false, narrowed := true }
def FsumAsksUptoSaid : Prop := fsumAsksUptoRow.holds Try.pinned (OpenSpec.upto fsumAsksSpec)

/-- 'scarplaw4.FsumQuantiles', WHERE WHAT IT READS IS OF BULK AT MOST 1048576: true; the input reads as it did. -/
def fsumQuantilesUptoRow : OpenClaim := { program := "ythiiicgibcgipaa", sum := "0674c60778ee45e300f1797a21b5aaa167b35a1a50868694083992983d77cfa9", func := "scarp/scarplaw4.FsumQuantiles", spec := "fsumQuantiles", inPlace := ["math.Float64bits", "math.Float64frombits", "math.archFloor", "math.archTrunc"], unfollowed := true, recurses := true, apart := false, narrowed := true }
def FsumQuantilesUptoSaid : Prop := fsumQuantilesUptoRow.holds Try.pinned (OpenSpec.upto fsumQuantilesSpec)

/-- 'scarplaw4.FsumQuarter', WHERE WHAT IT READS IS OF BULK AT MOST 1048576: true; the input reads as it did. -/
def fsumQuarterUptoRow : OpenClaim := { program := "ythiiicgibcgipaa", sum := "0674c60778ee45e300f1797a21b5aaa167b35a1a50868694083992983d77cfa9", func := "scarp/scarplaw4.FsumQuarter", spec := "fsumQuarter", inPlace := ["math.Float64bits", "math.Float64frombits", "math.archFloor", "math.archTrunc"], unfollowed := true, recurses := true, apart := false, narrowed := true }
def FsumQuarterUptoSaid : Prop := fsumQuarterUptoRow.holds Try.pinned (OpenSpec.upto fsumQuarterSpec)

/-- 'scarplaw4.FsumKeeps', WHERE WHAT IT READS IS OF BULK AT MOST 1048576: true; the input reads as it did. -/
def fsumKeepsUptoRow : OpenClaim := { program := "ythiiicgibcgipaa", sum := "0674c60778ee45e300f1797a21b5aaa167b35a1a50868694083992983d77cfa9", func := "scarp/scarplaw4.FsumKeeps", spec := "fsumKeeps", inPlace := ["math.Float64bits", "math.Float64frombits", "math.archFloor", "math.archTrunc"], unfollowed := true, recurses := true, apart := false, narrowed := true }
def FsumKeepsUptoSaid : Prop := fsumKeepsUptoRow.holds Try.pinned (OpenSpec.upto fsumKeepsSpec)

end Rows
end Go.Proofs.Ythiiicgibcgipaa
