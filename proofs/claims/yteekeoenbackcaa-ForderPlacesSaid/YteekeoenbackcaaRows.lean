/-
  No cell of these rows narrows 'for every input' (looked for: loops, veiled, ifaces, maps, wideKeys, modest, calm, conditions, laid).
  DERIVED. THE GIVEN ROWS OF THIS SEAT. 8 by the template 'for every input the law returns true; each argument reads behind the call as it read before'; 0 by the template 'total and deterministic' (their statements: YteekeoenbackcaaTotals.lean).
  GIVEN WITH THE SEED: the statements are not yours to turn. If you find one false, say at which input.
  Laid BY PROGRAM, IN A SANDBOX (cutbox-rows.mjs): the forced cells as the released guide's own fill.sh prints them over the translation 234e1b0a3c8264bb… (all of the seat's roots in one cut). By AI agents, Wed Nov 11 2026. No macro, syntax, notation, axiom, sorry.
-/
import Derived.Test.YteekeoenbackcaaChecked
import GoSem.Claim
import GoSem.ClaimJoined
import GoSem.ClaimMapViews
import Derived.JoinedTies
import Derived.KernelRfl
namespace Go.Proofs.Yteekeoenbackcaa
/- THE CELL 'sum', in the pinned program and in every row, IS THE sha256 OF THE DUMP (.gsa) THAT YteekeoenbackcaaProg.lean LOADS. Nothing in Lean hashes anything: it is a label: what it is worth is what the hold of that sum in a sandbox is worth. -/
noncomputable def Try.pinned : Pinned := { name := "yteekeoenbackcaa", sum := "234e1b0a3c8264bba0133b76948ef520e332897b574e1c154a00137ba77a6864", checked := Try.checked }
namespace Rows
def none {H : Type} : Left H := { results := [], args := [] }

/-- 'scarplaw2.ForderSorts': WHATEVER THE INPUT: true; the input reads as it did. -/
def forderSortsSpec : ChangeSpec := { name := "forderSorts", fn := fun _ => fun
  | [d1, d2] => { results := [.lit (.bool true)], args := [d1, d2] }
  | _ => none }
def forderSortsRow : OpenClaim := { program := "yteekeoenbackcaa", sum := "234e1b0a3c8264bba0133b76948ef520e332897b574e1c154a00137ba77a6864", func := "scarp/scarplaw2.ForderSorts", spec := "forderSorts", inPlace := ["math.Float64frombits", "math.Float64bits"], unfollowed := true, recurses := true, apart := false }
def ForderSortsSaid : Prop := forderSortsRow.holds Try.pinned (OpenSpec.ofChange forderSortsSpec)

/-- ITS FALSE NEIGHBOUR: 'it returns false'. Refute it at one input. -/
def forderSortsWrong : ChangeSpec := { name := "forderSorts", fn := fun _ => fun
  | [d1, d2] => { results := [.lit (.bool false)], args := [d1, d2] }
  | _ => none }
def ForderSortsWrongFalsely : Prop := forderSortsRow.holds Try.pinned (OpenSpec.ofChange forderSortsWrong)

/-- 'scarplaw2.ForderLine': WHATEVER THE INPUT: true; the input reads as it did. -/
def forderLineSpec : ChangeSpec := { name := "forderLine", fn := fun _ => fun
  | [d1, d2, d3] => { results := [.lit (.bool true)], args := [d1, d2, d3] }
  | _ => none }
def forderLineRow : OpenClaim := { program := "yteekeoenbackcaa", sum := "234e1b0a3c8264bba0133b76948ef520e332897b574e1c154a00137ba77a6864", func := "scarp/scarplaw2.ForderLine", spec := "forderLine", inPlace := ["math.Float64bits", "math.Float64frombits"], unfollowed := true, recurses := true, apart := false }
def ForderLineSaid : Prop := forderLineRow.holds Try.pinned (OpenSpec.ofChange forderLineSpec)

/-- ITS FALSE NEIGHBOUR: 'it returns false'. Refute it at one input. -/
def forderLineWrong : ChangeSpec := { name := "forderLine", fn := fun _ => fun
  | [d1, d2, d3] => { results := [.lit (.bool false)], args := [d1, d2, d3] }
  | _ => none }
def ForderLineWrongFalsely : Prop := forderLineRow.holds Try.pinned (OpenSpec.ofChange forderLineWrong)

/-- 'scarplaw2.ForderAsks': WHATEVER THE INPUT: true; the input reads as it did. -/
def forderAsksSpec : ChangeSpec := { name := "forderAsks", fn := fun _ => fun
  | [d1, d2, d3] => { results := [.lit (.bool true)], args := [d1, d2, d3] }
  | _ => none }
def forderAsksRow : OpenClaim := { program := "yteekeoenbackcaa", sum := "234e1b0a3c8264bba0133b76948ef520e332897b574e1c154a00137ba77a6864", func := "scarp/scarplaw2.ForderAsks", spec := "forderAsks", inPlace := ["math.Float64frombits", "math.Float64bits"], unfollowed := true, recurses := true, apart := false }
def ForderAsksSaid : Prop := forderAsksRow.holds Try.pinned (OpenSpec.ofChange forderAsksSpec)

/-- ITS FALSE NEIGHBOUR: 'it returns false'. Refute it at one input. -/
def forderAsksWrong : ChangeSpec := { name := "forderAsks", fn := fun _ => fun
  | [d1, d2, d3] => { results := [.lit (.bool false)], args := [d1, d2, d3] }
  | _ => none }
def ForderAsksWrongFalsely : Prop := forderAsksRow.holds Try.pinned (OpenSpec.ofChange forderAsksWrong)

/-- 'scarplaw2.ForderEnds': WHATEVER THE INPUT: true; the input reads as it did. -/
def forderEndsSpec : ChangeSpec := { name := "forderEnds", fn := fun _ => fun
  | [d] => { results := [.lit (.bool true)], args := [d] }
  | _ => none }
def forderEndsRow : OpenClaim := { program := "yteekeoenbackcaa", sum := "234e1b0a3c8264bba0133b76948ef520e332897b574e1c154a00137ba77a6864", func := "scarp/scarplaw2.ForderEnds", spec := "forderEnds", inPlace := ["math.Float64frombits", "math.Float64bits"], unfollowed := true, recurses := true, apart := false }
def ForderEndsSaid : Prop := forderEndsRow.holds Try.pinned (OpenSpec.ofChange forderEndsSpec)

/-- ITS FALSE NEIGHBOUR: 'it returns false'. Refute it at one input. -/
def forderEndsWrong : ChangeSpec := { name := "forderEnds", fn := fun _ => fun
  | [d] => { results := [.lit (.bool false)], args := [d] }
  | _ => none }
def ForderEndsWrongFalsely : Prop := forderEndsRow.holds Try.pinned (OpenSpec.ofChange forderEndsWrong)

/-- 'scarplaw2.ForderJoins': WHATEVER THE INPUT: true; the input reads as it did. -/
def forderJoinsSpec : ChangeSpec := { name := "forderJoins", fn := fun _ => fun
  | [d1, d2] => { results := [.lit (.bool true)], args := [d1, d2] }
  | _ => none }
def forderJoinsRow : OpenClaim := { program := "yteekeoenbackcaa", sum := "234e1b0a3c8264bba0133b76948ef520e332897b574e1c154a00137ba77a6864", func := "scarp/scarplaw2.ForderJoins", spec := "forderJoins", inPlace := ["math.Float64frombits", "math.Float64bits"], unfollowed := true, recurses := true, apart := false }
def ForderJoinsSaid : Prop := forderJoinsRow.holds Try.pinned (OpenSpec.ofChange forderJoinsSpec)

/-- ITS FALSE NEIGHBOUR: 'it returns false'. Refute it at one input. -/
def forderJoinsWrong : ChangeSpec := { name := "forderJoins", fn := fun _ => fun
  | [d1, d2] => { results := [.lit (.bool false)], args := [d1, d2] }
  | _ => none }
def ForderJoinsWrongFalsely : Prop := forderJoinsRow.holds Try.pinned (OpenSpec.ofChange forderJoinsWrong)

/-- 'scarplaw2.ForderClamps': WHATEVER THE INPUT: true; the input reads as it did. -/
def forderClampsSpec : ChangeSpec := { name := "forderClamps", fn := fun _ => fun
  | [d1, d2, d3] => { results := [.lit (.bool true)], args := [d1, d2, d3] }
  | _ => none }
def forderClampsRow : OpenClaim := { program := "yteekeoenbackcaa", sum := "234e1b0a3c8264bba0133b76948ef520e332897b574e1c154a00137ba77a6864", func := "scarp/scarplaw2.ForderClamps", spec := "forderClamps", inPlace := ["math.Float64bits", "math.Float64frombits"], unfollowed := true, recurses := true, apart := false }
def ForderClampsSaid : Prop := forderClampsRow.holds Try.pinned (OpenSpec.ofChange forderClampsSpec)

/-- ITS FALSE NEIGHBOUR: 'it returns false'. Refute it at one input. -/
def forderClampsWrong : ChangeSpec := { name := "forderClamps", fn := fun _ => fun
  | [d1, d2, d3] => { results := [.lit (.bool false)], args := [d1, d2, d3] }
  | _ => none }
def ForderClampsWrongFalsely : Prop := forderClampsRow.holds Try.pinned (OpenSpec.ofChange forderClampsWrong)

/-- 'scarplaw2.ForderPlaces': WHATEVER THE INPUT: true; the input reads as it did. -/
def forderPlacesSpec : ChangeSpec := { name := "forderPlaces", fn := fun _ => fun
  | [d1, d2] => { results := [.lit (.bool true)], args := [d1, d2] }
  | _ => none }
def forderPlacesRow : OpenClaim := { program := "yteekeoenbackcaa", sum := "234e1b0a3c8264bba0133b76948ef520e332897b574e1c154a00137ba77a6864", func := "scarp/scarplaw2.ForderPlaces", spec := "forderPlaces", inPlace := ["math.Float64frombits", "math.Float64bits"], unfollowed := true, recurses := true, apart := false }
def ForderPlacesSaid : Prop := forderPlacesRow.holds Try.pinned (OpenSpec.ofChange forderPlacesSpec)

/-- ITS FALSE NEIGHBOUR: 'it returns false'. Refute it at one input. -/
def forderPlacesWrong : ChangeSpec := { name := "forderPlaces", fn := fun _ => fun
  | [d1, d2] => { results := [.lit (.bool false)], args := [d1, d2] }
  | _ => none }
def ForderPlacesWrongFalsely : Prop := forderPlacesRow.holds Try.pinned (OpenSpec.ofChange forderPlacesWrong)

/-- 'scarplaw2.ForderFinds': WHATEVER THE INPUT: true; the input reads as it did. -/
def forderFindsSpec : ChangeSpec := { name := "forderFinds", fn := fun _ => fun
  | [d1, d2, d3, d4] => { results := [.lit (.bool true)], args := [d1, d2, d3, d4] }
  | _ => none }
def forderFindsRow : OpenClaim := { program := "yteekeoenbackcaa", sum := "234e1b0a3c8264bba0133b76948ef520e332897b574e1c154a00137ba77a6864", func := "scarp/scarplaw2.ForderFinds", spec := "forderFinds", inPlace := ["math.Float64frombits", "math.Float64bits"], unfollowed := true, recurses := true, apart := false }
def ForderFindsSaid : Prop := forderFindsRow.holds Try.pinned (OpenSpec.ofChange forderFindsSpec)

/-- ITS FALSE NEIGHBOUR: 'it returns false'. Refute it at one input. -/
def forderFindsWrong : ChangeSpec := { name := "forderFinds", fn := fun _ => fun
  | [d1, d2, d3, d4] => { results := [.lit (.bool false)], args := [d1, d2, d3, d4] }
  | _ => none }
def ForderFindsWrongFalsely : Prop := forderFindsRow.holds Try.pinned (OpenSpec.ofChange forderFindsWrong)

/- THE SECOND FORM. 'bulk': how many values and letters a reading holds, each counted each time it is reached (what is shared counts as often as it is met; a slice's spare places count too). A statement '..UptoSaid' is the law's where the arguments, and the package variables that the reading takes, are together of bulk at most 1048576: NARROWER than '..Said'. Prove '..Said' where nothing that the law and all that it calls make is longer than what came in: it says more and counts as full. Else prove '..UptoSaid'. A law counts once. -/
mutual
def uptoBulk {H : Type} : DataW H → Nat
  | .lit (.string bytes) => bytes.length + 1
  | .lit _ => 1
  | .nil => 1
  | .ptr d => uptoBulk d + 1
  | .slice elems spare => uptoBulkAll elems + uptoBulkAll spare + 1
  | .agg parts => uptoBulkAll parts + 1
  | .iface _ d => uptoBulk d + 1
  | .map entries => uptoBulkEntries entries + 1
  | .held _ => 1
def uptoBulkAll {H : Type} : List (DataW H) → Nat
  | [] => 0
  | d :: r => uptoBulk d + uptoBulkAll r
def uptoBulkEntries {H : Type} : List (Lit × DataW H) → Nat
  | [] => 0
  | x :: r => uptoBulkEntry x + uptoBulkEntries r
def uptoBulkEntry {H : Type} : Lit × DataW H → Nat
  | (.string bytes, d) => bytes.length + uptoBulk d + 1
  | (_, d) => uptoBulk d + 1
 end
def uptoSmall : (H : Type) → List (DataW H) → Bool := fun _ ds => decide (uptoBulkAll ds ≤ 1048576)
def OpenSpec.upto (s : _root_.Go.ChangeSpec) : _root_.Go.OpenSpec := { _root_.Go.OpenSpec.ofChange s with cond := some uptoSmall }

/-- 'scarplaw2.ForderSorts', WHERE WHAT IT READS IS OF BULK AT MOST 1048576: true; the input reads as it did. -/
def forderSortsUptoRow : OpenClaim := { program := "yteekeoenbackcaa", sum := "234e1b0a3c8264bba0133b76948ef520e332897b574e1c154a00137ba77a6864", func := "scarp/scarplaw2.ForderSorts", spec := "forderSorts", inPlace := ["math.Float64frombits", "math.Float64bits"], unfollowed := true, recurses := true, apart := false, narrowed := true }
def ForderSortsUptoSaid : Prop := forderSortsUptoRow.holds Try.pinned (OpenSpec.upto forderSortsSpec)

/-- 'scarplaw2.ForderLine', WHERE WHAT IT READS IS OF BULK AT MOST 1048576: true; the input reads as it did. -/
def forderLineUptoRow : OpenClaim := { program := "yteekeoenbackcaa", sum := "234e1b0a3c8264bba0133b76948ef520e332897b574e1c154a00137ba77a6864", func := "scarp/scarplaw2.ForderLine", spec := "forderLine", inPlace := ["math.Float64bits", "math.Float64frombits"], unfollowed := true, recurses := true, apart := false, narrowed := true }
def ForderLineUptoSaid : Prop := forderLineUptoRow.holds Try.pinned (OpenSpec.upto forderLineSpec)

/-- 'scarplaw2.ForderAsks', WHERE WHAT IT READS IS OF BULK AT MOST 1048576: true; the input reads as it did. -/
def forderAsksUptoRow : OpenClaim := { program := "yteekeoenbackcaa", sum := "234e1b0a3c8264bba0133b76948ef520e332897b574e1c154a00137ba77a6864", func := "scarp/scarplaw2.ForderAsks", spec := "forderAsks", inPlace := ["math.Float64frombits", "math.Float64bits"], unfollowed := true, recurses := true, apart := false, narrowed := true }
def ForderAsksUptoSaid : Prop := forderAsksUptoRow.holds Try.pinned (OpenSpec.upto forderAsksSpec)

/-- 'scarplaw2.ForderEnds', WHERE WHAT IT READS IS OF BULK AT MOST 1048576: true; the input reads as it did. -/
def forderEndsUptoRow : OpenClaim := { program := "yteekeoenbackcaa", sum := "234e1b0a3c8264bba0133b76948ef520e332897b574e1c154a00137ba77a6864", func := "scarp/scarplaw2.ForderEnds", spec := "forderEnds", inPlace := ["math.Float64frombits", "math.Float64bits"], unfollowed := true, recurses := true, apart := false, narrowed := true }
def ForderEndsUptoSaid : Prop := forderEndsUptoRow.holds Try.pinned (OpenSpec.upto forderEndsSpec)

/-- 'scarplaw2.ForderJoins', WHERE WHAT IT READS IS OF BULK AT MOST 1048576: true; the input reads as it did. -/
def forderJoinsUptoRow : OpenClaim := { program := "yteekeoenbackcaa", sum := "234e1b0a3c8264bba0133b76948ef520e332897b574e1c154a00137ba77a6864", func := "scarp/scarplaw2.ForderJoins", spec := "forderJoins", inPlace := ["math.Float64frombits", "math.Float64bits"], unfollowed := true, recurses := true, apart := false, narrowed := true }
def ForderJoinsUptoSaid : Prop := forderJoinsUptoRow.holds Try.pinned (OpenSpec.upto forderJoinsSpec)

/-- 'scarplaw2.ForderClamps', WHERE WHAT IT READS IS OF BULK AT MOST 1048576: true; the input reads as it did. -/
def forderClampsUptoRow : OpenClaim := { program := "yteekeoenbackcaa", sum := "234e1b0a3c8264bba0133b76948ef520e332897b574e1c154a00137ba77a6864", func := "scarp/scarplaw2.ForderClamps", spec := "forderClamps", inPlace := ["math.Float64bits", "math.Float64frombits"], unfollowed := true, recurses := true, apart := false, narrowed := true }
def ForderClampsUptoSaid : Prop := forderClampsUptoRow.holds Try.pinned (OpenSpec.upto forderClampsSpec)

/-- 'scarplaw2.ForderPlaces', WHERE WHAT IT READS IS OF BULK AT MOST 1048576: true; the input reads as it did. -/
def forderPlacesUptoRow : OpenClaim := { program := "yteekeoenbackcaa", sum := "234e1b0a3c8264bba0133b76948ef520e332897b574e1c154a00137ba77a6864", func := "scarp/scarplaw2.ForderPlaces", spec := "forderPlaces", inPlace := ["math.Float64frombits", "math.Float64bits"], unfollowed := true, recurses := true, apart := false, narrowed := true }
def ForderPlacesUptoSaid : Prop := forderPlacesUptoRow.holds Try.pinned (OpenSpec.upto forderPlacesSpec)

/-- 'scarplaw2.ForderFinds', WHERE WHAT IT READS IS OF BULK AT MOST 1048576: true; the input reads as it did. -/
def forderFindsUptoRow : OpenClaim := { program := "yteekeoenbackcaa", sum := "234e1b0a3c8264bba0133b76948ef520e332897b574e1c154a00137ba77a6864", func := "scarp/scarplaw2.ForderFinds", spec := "forderFinds", inPlace := ["math.Float64frombits", "math.Float64bits"], unfollowed := true, recurses := true, apart := false, narrowed := true }
def ForderFindsUptoSaid : Prop := forderFindsUptoRow.holds Try.pinned (OpenSpec.upto forderFindsSpec)

end Rows
end Go.Proofs.Yteekeoenbackcaa
