/-
  No cell of these rows narrows 'for every input' (looked for: loops, veiled, ifaces, maps, wideKeys, modest, calm, conditions, laid).
  DERIVED. THE GIVEN ROWS OF THIS SEAT. 8 by the template 'for every input the law returns true; each argument reads behind the call as it read before'; 0 by the template 'total and deterministic' (their statements: YtjoagpjockfpiaaTotals.lean).
  GIVEN WITH THE SEED: the statements are not yours to turn. If you find one false, say at which input.
  Laid BY PROGRAM, IN A SANDBOX (cutbox-rows.mjs): the forced cells as the released guide's own fill.sh prints them over the translation 430bb62e9995cff5… (all of the seat's roots in one cut). By AI agents, Wed Nov 11 2026. No macro, syntax, notation, axiom, sorry.
-/
import Derived.Test.YtjoagpjockfpiaaChecked
import GoSem.Claim
import GoSem.ClaimJoined
import GoSem.ClaimMapViews
import Derived.JoinedTies
import Derived.KernelRfl
namespace Go.Proofs.Ytjoagpjockfpiaa
/- THE CELL 'sum', in the pinned program and in every row, IS THE sha256 OF THE DUMP (.gsa) THAT YtjoagpjockfpiaaProg.lean LOADS. Nothing in Lean hashes anything: it is a label: what it is worth is what the hold of that sum in a sandbox is worth. -/
noncomputable def Try.pinned : Pinned := { name := "ytjoagpjockfpiaa", sum := "430bb62e9995cff50a489176b19761794641cd6eb6df6c1fbf8dc6ff6d8d55f9", checked := Try.checked }
namespace Rows
def none {H : Type} : Left H := { results := [], args := [] }

/-- 'scarplaw21.SpaceHolds': WHATEVER THE INPUT: true; the input reads as it did. -/
def spaceHoldsSpec : ChangeSpec := { name := "spaceHolds", fn := fun _ => fun
  | [d] => { results := [.lit (.bool true)], args := [d] }
  | _ => none }
def spaceHoldsRow : OpenClaim := { program := "ytjoagpjockfpiaa", sum := "430bb62e9995cff50a489176b19761794641cd6eb6df6c1fbf8dc6ff6d8d55f9", func := "scarp/scarplaw21.SpaceHolds", spec := "spaceHolds", apart := false }
def SpaceHoldsSaid : Prop := spaceHoldsRow.holds Try.pinned (OpenSpec.ofChange spaceHoldsSpec)

/-- ITS FALSE NEIGHBOUR: 'it returns false'. Refute it at one input. -/
def spaceHoldsWrong : ChangeSpec := { name := "spaceHolds", fn := fun _ => fun
  | [d] => { results := [.lit (.bool false)], args := [d] }
  | _ => none }
def SpaceHoldsWrongFalsely : Prop := spaceHoldsRow.holds Try.pinned (OpenSpec.ofChange spaceHoldsWrong)

/-- 'scarplaw21.SpaceGrows': WHATEVER THE INPUT: true; the input reads as it did. -/
def spaceGrowsSpec : ChangeSpec := { name := "spaceGrows", fn := fun _ => fun
  | [d1, d2] => { results := [.lit (.bool true)], args := [d1, d2] }
  | _ => none }
def spaceGrowsRow : OpenClaim := { program := "ytjoagpjockfpiaa", sum := "430bb62e9995cff50a489176b19761794641cd6eb6df6c1fbf8dc6ff6d8d55f9", func := "scarp/scarplaw21.SpaceGrows", spec := "spaceGrows", apart := false }
def SpaceGrowsSaid : Prop := spaceGrowsRow.holds Try.pinned (OpenSpec.ofChange spaceGrowsSpec)

/-- ITS FALSE NEIGHBOUR: 'it returns false'. Refute it at one input. -/
def spaceGrowsWrong : ChangeSpec := { name := "spaceGrows", fn := fun _ => fun
  | [d1, d2] => { results := [.lit (.bool false)], args := [d1, d2] }
  | _ => none }
def SpaceGrowsWrongFalsely : Prop := spaceGrowsRow.holds Try.pinned (OpenSpec.ofChange spaceGrowsWrong)

/-- 'scarplaw21.SpaceAsks': WHATEVER THE INPUT: true; the input reads as it did. -/
def spaceAsksSpec : ChangeSpec := { name := "spaceAsks", fn := fun _ => fun
  | [d] => { results := [.lit (.bool true)], args := [d] }
  | _ => none }
def spaceAsksRow : OpenClaim := { program := "ytjoagpjockfpiaa", sum := "430bb62e9995cff50a489176b19761794641cd6eb6df6c1fbf8dc6ff6d8d55f9", func := "scarp/scarplaw21.SpaceAsks", spec := "spaceAsks", apart := false }
def SpaceAsksSaid : Prop := spaceAsksRow.holds Try.pinned (OpenSpec.ofChange spaceAsksSpec)

/-- ITS FALSE NEIGHBOUR: 'it returns false'. Refute it at one input. -/
def spaceAsksWrong : ChangeSpec := { name := "spaceAsks", fn := fun _ => fun
  | [d] => { results := [.lit (.bool false)], args := [d] }
  | _ => none }
def SpaceAsksWrongFalsely : Prop := spaceAsksRow.holds Try.pinned (OpenSpec.ofChange spaceAsksWrong)

/-- 'scarplaw21.SpaceFills': WHATEVER THE INPUT: true; the input reads as it did. -/
def spaceFillsSpec : ChangeSpec := { name := "spaceFills", fn := fun _ => fun
  | [d1, d2] => { results := [.lit (.bool true)], args := [d1, d2] }
  | _ => none }
def spaceFillsRow : OpenClaim := { program := "ytjoagpjockfpiaa", sum := "430bb62e9995cff50a489176b19761794641cd6eb6df6c1fbf8dc6ff6d8d55f9", func := "scarp/scarplaw21.SpaceFills", spec := "spaceFills", inPlace := ["math.Float64bits", "math.Float64frombits"], apart := false }
def SpaceFillsSaid : Prop := spaceFillsRow.holds Try.pinned (OpenSpec.ofChange spaceFillsSpec)

/-- ITS FALSE NEIGHBOUR: 'it returns false'. Refute it at one input. -/
def spaceFillsWrong : ChangeSpec := { name := "spaceFills", fn := fun _ => fun
  | [d1, d2] => { results := [.lit (.bool false)], args := [d1, d2] }
  | _ => none }
def SpaceFillsWrongFalsely : Prop := spaceFillsRow.holds Try.pinned (OpenSpec.ofChange spaceFillsWrong)

/-- 'scarplaw21.SpaceParts': WHATEVER THE INPUT: true; the input reads as it did. -/
def spacePartsSpec : ChangeSpec := { name := "spaceParts", fn := fun _ => fun
  | [d1, d2] => { results := [.lit (.bool true)], args := [d1, d2] }
  | _ => none }
def spacePartsRow : OpenClaim := { program := "ytjoagpjockfpiaa", sum := "430bb62e9995cff50a489176b19761794641cd6eb6df6c1fbf8dc6ff6d8d55f9", func := "scarp/scarplaw21.SpaceParts", spec := "spaceParts", inPlace := ["math.Float64bits", "math.Float64frombits"], apart := false }
def SpacePartsSaid : Prop := spacePartsRow.holds Try.pinned (OpenSpec.ofChange spacePartsSpec)

/-- ITS FALSE NEIGHBOUR: 'it returns false'. Refute it at one input. -/
def spacePartsWrong : ChangeSpec := { name := "spaceParts", fn := fun _ => fun
  | [d1, d2] => { results := [.lit (.bool false)], args := [d1, d2] }
  | _ => none }
def SpacePartsWrongFalsely : Prop := spacePartsRow.holds Try.pinned (OpenSpec.ofChange spacePartsWrong)

/-- 'scarplaw5.ScoreAsks': WHATEVER THE INPUT: true; the input reads as it did. -/
def scoreAsksSpec : ChangeSpec := { name := "scoreAsks", fn := fun _ => fun
  | [d1, d2] => { results := [.lit (.bool true)], args := [d1, d2] }
  | _ => none }
def scoreAsksRow : OpenClaim := { program := "ytjoagpjockfpiaa", sum := "430bb62e9995cff50a489176b19761794641cd6eb6df6c1fbf8dc6ff6d8d55f9", func := "scarp/scarplaw5.ScoreAsks", spec := "scoreAsks", inPlace := ["math.Float64bits", "math.Float64frombits"], apart := false }
def ScoreAsksSaid : Prop := scoreAsksRow.holds Try.pinned (OpenSpec.ofChange scoreAsksSpec)

/-- ITS FALSE NEIGHBOUR: 'it returns false'. Refute it at one input. -/
def scoreAsksWrong : ChangeSpec := { name := "scoreAsks", fn := fun _ => fun
  | [d1, d2] => { results := [.lit (.bool false)], args := [d1, d2] }
  | _ => none }
def ScoreAsksWrongFalsely : Prop := scoreAsksRow.holds Try.pinned (OpenSpec.ofChange scoreAsksWrong)

/-- 'scarplaw5.ScoreFewer': WHATEVER THE INPUT: true; the input reads as it did. -/
def scoreFewerSpec : ChangeSpec := { name := "scoreFewer", fn := fun _ => fun
  | [d1, d2, d3, d4, d5, d6] => { results := [.lit (.bool true)], args := [d1, d2, d3, d4, d5, d6] }
  | _ => none }
def scoreFewerRow : OpenClaim := { program := "ytjoagpjockfpiaa", sum := "430bb62e9995cff50a489176b19761794641cd6eb6df6c1fbf8dc6ff6d8d55f9", func := "scarp/scarplaw5.ScoreFewer", spec := "scoreFewer", inPlace := ["math.Float64bits", "math.Float64frombits"], apart := false }
def ScoreFewerSaid : Prop := scoreFewerRow.holds Try.pinned (OpenSpec.ofChange scoreFewerSpec)

/-- ITS FALSE NEIGHBOUR: 'it returns false'. Refute it at one input. -/
def scoreFewerWrong : ChangeSpec := { name := "scoreFewer", fn := fun _ => fun
  | [d1, d2, d3, d4, d5, d6] => { results := [.lit (.bool false)], args := [d1, d2, d3, d4, d5, d6] }
  | _ => none }
def ScoreFewerWrongFalsely : Prop := scoreFewerRow.holds Try.pinned (OpenSpec.ofChange scoreFewerWrong)

/-- 'scarplaw5.ScoreUse': WHATEVER THE INPUT: true; the input reads as it did. -/
def scoreUseSpec : ChangeSpec := { name := "scoreUse", fn := fun _ => fun
  | [d1, d2, d3] => { results := [.lit (.bool true)], args := [d1, d2, d3] }
  | _ => none }
def scoreUseRow : OpenClaim := { program := "ytjoagpjockfpiaa", sum := "430bb62e9995cff50a489176b19761794641cd6eb6df6c1fbf8dc6ff6d8d55f9", func := "scarp/scarplaw5.ScoreUse", spec := "scoreUse", inPlace := ["math.Float64bits", "math.Float64frombits"], apart := false }
def ScoreUseSaid : Prop := scoreUseRow.holds Try.pinned (OpenSpec.ofChange scoreUseSpec)

/-- ITS FALSE NEIGHBOUR: 'it returns false'. Refute it at one input. -/
def scoreUseWrong : ChangeSpec := { name := "scoreUse", fn := fun _ => fun
  | [d1, d2, d3] => { results := [.lit (.bool false)], args := [d1, d2, d3] }
  | _ => none }
def ScoreUseWrongFalsely : Prop := scoreUseRow.holds Try.pinned (OpenSpec.ofChange scoreUseWrong)

/- THE SECOND FORM. 'bulk': how many values and letters a reading holds, each counted each time it is reached (what is shared counts as often as it is met; a slice's spare places count too). A statement '..UptoSaid' is the law's where the arguments, and the package variables that the reading takes, are together of bulk at most 1048576: NARROWER than '..Said'. Prove '..Said' where nothing that the law and all that it calls make is longer than what came in: it says more and counts as full. Else prove '..UptoSaid'. A law counts once. -/
mutual
def uptoBulk {H : Type} : DataW H → Nat
  | .lit (.string bytes) => bytes.length + 1
  | .lit _ => 1
  | .nil => 1
  | .ptr d => uptoBulk d + 1
  | .slice elems spare => uptoBulkAll elems + uptoBulkAll spare + 1
  | .agg parts => uptoBulkAll parts + 1
  | .iface _ d => uptoBulk d + 1
  | .map entries => uptoBulkEntries entries + 1
  | .held _ => 1
def uptoBulkAll {H : Type} : List (DataW H) → Nat
  | [] => 0
  | d :: r => uptoBulk d + uptoBulkAll r
def uptoBulkEntries {H : Type} : List (Lit × DataW H) → Nat
  | [] => 0
  | x :: r => uptoBulkEntry x + uptoBulkEntries r
def uptoBulkEntry {H : Type} : Lit × DataW H → Nat
  | (.string bytes, d) => bytes.length + uptoBulk d + 1
  | (_, d) => uptoBulk d + 1
 end
def uptoSmall : (H : Type) → List (DataW H) → Bool := fun _ ds => decide (uptoBulkAll ds ≤ 1048576)
def OpenSpec.upto (s : _root_.Go.ChangeSpec) : _root_.Go.OpenSpec := { _root_.Go.OpenSpec.ofChange s with cond := some uptoSmall }

/-- 'scarplaw21.SpaceHolds', WHERE WHAT IT READS IS OF BULK AT MOST 1048576: true; the input reads as it did. -/
def spaceHoldsUptoRow : OpenClaim := { program := "ytjoagpjockfpiaa", sum := "430bb62e9995cff50a489176b19761794641cd6eb6df6c1fbf8dc6ff6d8d55f9", func := "scarp/scarplaw21.SpaceHolds", spec := "spaceHolds", apart := false, narrowed := true }
def SpaceHoldsUptoSaid : Prop := spaceHoldsUptoRow.holds Try.pinned (OpenSpec.upto spaceHoldsSpec)

/-- 'scarplaw21.SpaceGrows', WHERE WHAT IT READS IS OF BULK AT MOST 1048576: true; the input reads as it did. -/
def spaceGrowsUptoRow : OpenClaim := { program := "ytjoagpjockfpiaa", sum := "430bb62e9995cff50a489176b19761794641cd6eb6df6c1fbf8dc6ff6d8d55f9", func := "scarp/scarplaw21.SpaceGrows", spec := "spaceGrows", apart := false, narrowed := true }
def SpaceGrowsUptoSaid : Prop := spaceGrowsUptoRow.holds Try.pinned (OpenSpec.upto spaceGrowsSpec)

/-- 'scarplaw21.SpaceAsks', WHERE WHAT IT READS IS OF BULK AT MOST 1048576: true; the input reads as it did. -/
def spaceAsksUptoRow : OpenClaim := { program := "ytjoagpjockfpiaa", sum := "430bb62e9995cff50a489176b19761794641cd6eb6df6c1fbf8dc6ff6d8d55f9", func := "scarp/scarplaw21.SpaceAsks", spec := "spaceAsks", apart := false, narrowed := true }
def SpaceAsksUptoSaid : Prop := spaceAsksUptoRow.holds Try.pinned (OpenSpec.upto spaceAsksSpec)

/-- 'scarplaw21.SpaceFills', WHERE WHAT IT READS IS OF BULK AT MOST 1048576: true; the input reads as it did. -/
def spaceFillsUptoRow : OpenClaim := { program := "ytjoagpjockfpiaa", sum := "430bb62e9995cff50a489176b19761794641cd6eb6df6c1fbf8dc6ff6d8d55f9", func := "scarp/scarplaw21.SpaceFills", spec := "spaceFills", inPlace := ["math.Float64bits", "math.Float64frombits"], apart := false, narrowed := true }
def SpaceFillsUptoSaid : Prop := spaceFillsUptoRow.holds Try.pinned (OpenSpec.upto spaceFillsSpec)

/-- 'scarplaw21.SpaceParts', WHERE WHAT IT READS IS OF BULK AT MOST 1048576: true; the input reads as it did. -/
def spacePartsUptoRow : OpenClaim := { program := "ytjoagpjockfpiaa", sum := "430bb62e9995cff50a489176b19761794641cd6eb6df6c1fbf8dc6ff6d8d55f9", func := "scarp/scarplaw21.SpaceParts", spec := "spaceParts", inPlace := ["math.Float64bits", "math.Float64frombits"], apart := false, narrowed := true }
def SpacePartsUptoSaid : Prop := spacePartsUptoRow.holds Try.pinned (OpenSpec.upto spacePartsSpec)

/-- 'scarplaw5.ScoreAsks', WHERE WHAT IT READS IS OF BULK AT MOST 1048576: true; the input reads as it did. -/
def scoreAsksUptoRow : OpenClaim := { program := "ytjoagpjockfpiaa", sum := "430bb62e9995cff50a489176b19761794641cd6eb6df6c1fbf8dc6ff6d8d55f9", func := "scarp/scarplaw5.ScoreAsks", spec := "scoreAsks", inPlace := ["math.Float64bits", "math.Float64frombits"], apart := false, narrowed := true }
def ScoreAsksUptoSaid : Prop := scoreAsksUptoRow.holds Try.pinned (OpenSpec.upto scoreAsksSpec)

/-- 'scarplaw5.ScoreFewer', WHERE WHAT IT READS IS OF BULK AT MOST 1048576: true; the input reads as it did. -/
def scoreFewerUptoRow : OpenClaim := { program := "ytjoagpjockfpiaa", sum := "430bb62e9995cff50a489176b19761794641cd6eb6df6c1fbf8dc6ff6d8d55f9", func := "scarp/scarplaw5.ScoreFewer", spec := "scoreFewer", inPlace := ["math.Float64bits", "math.Float64frombits"], apart := false, narrowed := true }
def ScoreFewerUptoSaid : Prop := scoreFewerUptoRow.holds Try.pinned (OpenSpec.upto scoreFewerSpec)

/-- 'scarplaw5.ScoreUse', WHERE WHAT IT READS IS OF BULK AT MOST 1048576: true; the input reads as it did. -/
def scoreUseUptoRow : OpenClaim := { program := "ytjoagpjockfpiaa", sum := "430bb62e9995cff50a489176b19761794641cd6eb6df6c1fbf8dc6ff6d8d55f9", func := "scarp/scarplaw5.ScoreUse", spec := "scoreUse", inPlace := ["math.Float64bits", "math.Float64frombits"], apart := false, narrowed := true }
def ScoreUseUptoSaid : Prop := scoreUseUptoRow.holds Try.pinned (OpenSpec.upto scoreUseSpec)

end Rows
end Go.Proofs.Ytjoagpjockfpiaa
