/-
  No cell of these rows narrows 'for every input' (looked for: loops, veiled, ifaces, maps, wideKeys, modest, calm, conditions, laid).
  DERIVED. THE GIVEN ROWS OF THIS SEAT. 8 by the template 'for every input the law returns true; each argument reads behind the call as it read before'; 0 by the template 'total and deterministic' (their statements: YtchhnjadnacniaaTotals.lean).
  GIVEN WITH THE SEED: the statements are not yours to turn. If you find one false, say at which input.
  Laid BY PROGRAM, IN A SANDBOX (cutbox-rows.mjs): the forced cells as the released guide's own fill.sh prints them over the translation 680d2277b005d39b… (all of the seat's roots in one cut). By AI agents, Wed Nov 11 2026. No macro, syntax, notation, axiom, sorry.
-/
import Derived.Test.YtchhnjadnacniaaChecked
import GoSem.Claim
import GoSem.ClaimJoined
import GoSem.ClaimMapViews
import Derived.JoinedTies
import Derived.KernelRfl
namespace Go.Proofs.Ytchhnjadnacniaa
/- THE CELL 'sum', in the pinned program and in every row, IS THE sha256 OF THE DUMP (.gsa) THAT YtchhnjadnacniaaProg.lean LOADS. Nothing in Lean hashes anything: it is a label: what it is worth is what the hold of that sum in a sandbox is worth. -/
noncomputable def Try.pinned : Pinned := { name := "ytchhnjadnacniaa", sum := "680d2277b005d39b5a47867468a2895f0f9ae6d948f6acc0d444fab752875a3b", checked := Try.checked }
namespace Rows
def none {H : Type} : Left H := { results := [], args := [] }

/-- 'scarplaw5.ScoreEdges': WHATEVER THE INPUT: true; the input reads as it did. -/
def scoreEdgesSpec : ChangeSpec := { name := "scoreEdges", fn := fun _ => fun
  | [d1, d2] => { results := [.lit (.bool true)], args := [d1, d2] }
  | _ => none }
def scoreEdgesRow : OpenClaim := { program := "ytchhnjadnacniaa", sum := "680d2277b005d39b5a47867468a2895f0f9ae6d948f6acc0d444fab752875a3b", func := "scarp/scarplaw5.ScoreEdges", spec := "scoreEdges", inPlace := ["math.Float64bits", "math.Float64frombits"], unfollowed := true, recurses := true, apart := false }
def ScoreEdgesSaid : Prop := scoreEdgesRow.holds Try.pinned (OpenSpec.ofChange scoreEdgesSpec)

/-- ITS FALSE NEIGHBOUR: 'it returns false'. Refute it at one input. -/
def scoreEdgesWrong : ChangeSpec := { name := "scoreEdges", fn := fun _ => fun
  | [d1, d2] => { results := [.lit (.bool false)], args := [d1, d2] }
  | _ => none }
def ScoreEdgesWrongFalsely : Prop := scoreEdgesRow.holds Try.pinned (OpenSpec.ofChange scoreEdgesWrong)

/-- 'scarplaw5.ScoreTurns': WHATEVER THE INPUT: true; the input reads as it did. -/
def scoreTurnsSpec : ChangeSpec := { name := "scoreTurns", fn := fun _ => fun
  | [d1, d2, d3] => { results := [.lit (.bool true)], args := [d1, d2, d3] }
  | _ => none }
def scoreTurnsRow : OpenClaim := { program := "ytchhnjadnacniaa", sum := "680d2277b005d39b5a47867468a2895f0f9ae6d948f6acc0d444fab752875a3b", func := "scarp/scarplaw5.ScoreTurns", spec := "scoreTurns", inPlace := ["math.Float64bits", "math.Float64frombits"], unfollowed := true, recurses := true, apart := false }
def ScoreTurnsSaid : Prop := scoreTurnsRow.holds Try.pinned (OpenSpec.ofChange scoreTurnsSpec)

/-- ITS FALSE NEIGHBOUR: 'it returns false'. Refute it at one input. -/
def scoreTurnsWrong : ChangeSpec := { name := "scoreTurns", fn := fun _ => fun
  | [d1, d2, d3] => { results := [.lit (.bool false)], args := [d1, d2, d3] }
  | _ => none }
def ScoreTurnsWrongFalsely : Prop := scoreTurnsRow.holds Try.pinned (OpenSpec.ofChange scoreTurnsWrong)

/-- 'scarplaw5.ScoreRanks': WHATEVER THE INPUT: true; the input reads as it did. -/
def scoreRanksSpec : ChangeSpec := { name := "scoreRanks", fn := fun _ => fun
  | [d1, d2] => { results := [.lit (.bool true)], args := [d1, d2] }
  | _ => none }
def scoreRanksRow : OpenClaim := { program := "ytchhnjadnacniaa", sum := "680d2277b005d39b5a47867468a2895f0f9ae6d948f6acc0d444fab752875a3b", func := "scarp/scarplaw5.ScoreRanks", spec := "scoreRanks", inPlace := ["math.Float64bits", "math.Float64frombits"], unfollowed := true, recurses := true, apart := false }
def ScoreRanksSaid : Prop := scoreRanksRow.holds Try.pinned (OpenSpec.ofChange scoreRanksSpec)

/-- ITS FALSE NEIGHBOUR: 'it returns false'. Refute it at one input. -/
def scoreRanksWrong : ChangeSpec := { name := "scoreRanks", fn := fun _ => fun
  | [d1, d2] => { results := [.lit (.bool false)], args := [d1, d2] }
  | _ => none }
def ScoreRanksWrongFalsely : Prop := scoreRanksRow.holds Try.pinned (OpenSpec.ofChange scoreRanksWrong)

/-- 'scarplaw20.CleanReads': WHATEVER THE INPUT: true; the input reads as it did. -/
def cleanReadsSpec : ChangeSpec := { name := "cleanReads", fn := fun _ => fun
  | [d1, d2, d3, d4] => { results := [.lit (.bool true)], args := [d1, d2, d3, d4] }
  | _ => none }
def cleanReadsRow : OpenClaim := { program := "ytchhnjadnacniaa", sum := "680d2277b005d39b5a47867468a2895f0f9ae6d948f6acc0d444fab752875a3b", func := "scarp/scarplaw20.CleanReads", spec := "cleanReads", inPlace := ["math.Float64bits", "math.Float64frombits"], unfollowed := true, recurses := true, apart := false }
def CleanReadsSaid : Prop := cleanReadsRow.holds Try.pinned (OpenSpec.ofChange cleanReadsSpec)

/-- ITS FALSE NEIGHBOUR: 'it returns false'. Refute it at one input. -/
def cleanReadsWrong : ChangeSpec := { name := "cleanReads", fn := fun _ => fun
  | [d1, d2, d3, d4] => { results := [.lit (.bool false)], args := [d1, d2, d3, d4] }
  | _ => none }
def CleanReadsWrongFalsely : Prop := cleanReadsRow.holds Try.pinned (OpenSpec.ofChange cleanReadsWrong)

/-- 'scarplaw20.CleanBest': WHATEVER THE INPUT: true; the input reads as it did. -/
def cleanBestSpec : ChangeSpec := { name := "cleanBest", fn := fun _ => fun
  | [d1, d2, d3, d4, d5] => { results := [.lit (.bool true)], args := [d1, d2, d3, d4, d5] }
  | _ => none }
def cleanBestRow : OpenClaim := { program := "ytchhnjadnacniaa", sum := "680d2277b005d39b5a47867468a2895f0f9ae6d948f6acc0d444fab752875a3b", func := "scarp/scarplaw20.CleanBest", spec := "cleanBest", inPlace := ["math.Float64bits", "math.Float64frombits"], unfollowed := true, recurses := true, apart := false }
def CleanBestSaid : Prop := cleanBestRow.holds Try.pinned (OpenSpec.ofChange cleanBestSpec)

/-- ITS FALSE NEIGHBOUR: 'it returns false'. Refute it at one input. -/
def cleanBestWrong : ChangeSpec := { name := "cleanBest", fn := fun _ => fun
  | [d1, d2, d3, d4, d5] => { results := [.lit (.bool false)], args := [d1, d2, d3, d4, d5] }
  | _ => none }
def CleanBestWrongFalsely : Prop := cleanBestRow.holds Try.pinned (OpenSpec.ofChange cleanBestWrong)

/-- 'scarplaw20.CleanPlans': WHATEVER THE INPUT: true; the input reads as it did. -/
def cleanPlansSpec : ChangeSpec := { name := "cleanPlans", fn := fun _ => fun
  | [d1, d2, d3, d4, d5, d6] => { results := [.lit (.bool true)], args := [d1, d2, d3, d4, d5, d6] }
  | _ => none }
def cleanPlansRow : OpenClaim := { program := "ytchhnjadnacniaa", sum := "680d2277b005d39b5a47867468a2895f0f9ae6d948f6acc0d444fab752875a3b", func := "scarp/scarplaw20.CleanPlans", spec := "cleanPlans", inPlace := ["math.Float64bits", "math.Float64frombits"], unfollowed := true, recurses := true, apart := false }
def CleanPlansSaid : Prop := cleanPlansRow.holds Try.pinned (OpenSpec.ofChange cleanPlansSpec)

/-- ITS FALSE NEIGHBOUR: 'it returns false'. Refute it at one input. -/
def cleanPlansWrong : ChangeSpec := { name := "cleanPlans", fn := fun _ => fun
  | [d1, d2, d3, d4, d5, d6] => { results := [.lit (.bool false)], args := [d1, d2, d3, d4, d5, d6] }
  | _ => none }
def CleanPlansWrongFalsely : Prop := cleanPlansRow.holds Try.pinned (OpenSpec.ofChange cleanPlansWrong)

/-- 'scarplaw20.CleanKeeps': WHATEVER THE INPUT: true; the input reads as it did. -/
def cleanKeepsSpec : ChangeSpec := { name := "cleanKeeps", fn := fun _ => fun
  | [d1, d2, d3, d4, d5, d6] => { results := [.lit (.bool true)], args := [d1, d2, d3, d4, d5, d6] }
  | _ => none }
def cleanKeepsRow : OpenClaim := { program := "ytchhnjadnacniaa", sum := "680d2277b005d39b5a47867468a2895f0f9ae6d948f6acc0d444fab752875a3b", func := "scarp/scarplaw20.CleanKeeps", spec := "cleanKeeps", inPlace := ["math.Float64bits", "math.Float64frombits"], unfollowed := true, recurses := true, apart := false }
def CleanKeepsSaid : Prop := cleanKeepsRow.holds Try.pinned (OpenSpec.ofChange cleanKeepsSpec)

/-- ITS FALSE NEIGHBOUR: 'it returns false'. Refute it at one input. -/
def cleanKeepsWrong : ChangeSpec := { name := "cleanKeeps", fn := fun _ => fun
  | [d1, d2, d3, d4, d5, d6] => { results := [.lit (.bool false)], args := [d1, d2, d3, d4, d5, d6] }
  | _ => none }
def CleanKeepsWrongFalsely : Prop := cleanKeepsRow.holds Try.pinned (OpenSpec.ofChange cleanKeepsWrong)

/-- 'scarplaw20.CleanEnds': WHATEVER THE INPUT: true; the input reads as it did. -/
def cleanEndsSpec : ChangeSpec := { name := "cleanEnds", fn := fun _ => fun
  | [d1, d2, d3, d4, d5] => { results := [.lit (.bool true)], args := [d1, d2, d3, d4, d5] }
  | _ => none }
def cleanEndsRow : OpenClaim := { program := "ytchhnjadnacniaa", sum := "680d2277b005d39b5a47867468a2895f0f9ae6d948f6acc0d444fab752875a3b", func := "scarp/scarplaw20.CleanEnds", spec := "cleanEnds", inPlace := ["math.Float64bits", "math.Float64frombits"], unfollowed := true, recurses := true, apart := false }
def CleanEndsSaid : Prop := cleanEndsRow.holds Try.pinned (OpenSpec.ofChange cleanEndsSpec)

/-- ITS FALSE NEIGHBOUR: 'it returns false'. Refute it at one input. -/
def cleanEndsWrong : ChangeSpec := { name := "cleanEnds", fn := fun _ => fun
  | [d1, d2, d3, d4, d5] => { results := [.lit (.bool false)], args := [d1, d2, d3, d4, d5] }
  | _ => none }
def CleanEndsWrongFalsely : Prop := cleanEndsRow.holds Try.pinned (OpenSpec.ofChange cleanEndsWrong)

/- THE SECOND FORM. 'bulk': how many values and letters a reading holds, each counted each time it is reached (what is shared counts as often as it is met; a slice's spare places count too). A statement '..UptoSaid' is the law's where the arguments, and the package variables that the reading takes, are together of bulk at most 1048576: NARROWER than '..Said'. Prove '..Said' where nothing that the law and all that it calls make is longer than what came in: it says more and counts as full. Else prove '..UptoSaid'. A law counts once. -/
mutual
def uptoBulk {H : Type} : DataW H → Nat
  | .lit (.string bytes) => bytes.length + 1
  | .lit _ => 1
  | .nil => 1
  | .ptr d => uptoBulk d + 1
  | .slice elems spare => uptoBulkAll elems + uptoBulkAll spare + 1
  | .agg parts => uptoBulkAll parts + 1
  | .iface _ d => uptoBulk d + 1
  | .map entries => uptoBulkEntries entries + 1
  | .held _ => 1
def uptoBulkAll {H : Type} : List (DataW H) → Nat
  | [] => 0
  | d :: r => uptoBulk d + uptoBulkAll r
def uptoBulkEntries {H : Type} : List (Lit × DataW H) → Nat
  | [] => 0
  | x :: r => uptoBulkEntry x + uptoBulkEntries r
def uptoBulkEntry {H : Type} : Lit × DataW H → Nat
  | (.string bytes, d) => bytes.length + uptoBulk d + 1
  | (_, d) => uptoBulk d + 1
 end
def uptoSmall : (H : Type) → List (DataW H) → Bool := fun _ ds => decide (uptoBulkAll ds ≤ 1048576)
def OpenSpec.upto (s : _root_.Go.ChangeSpec) : _root_.Go.OpenSpec := { _root_.Go.OpenSpec.ofChange s with cond := some uptoSmall }

/-- 'scarplaw5.ScoreEdges', WHERE WHAT IT READS IS OF BULK AT MOST 1048576: true; the input reads as it did. -/
def scoreEdgesUptoRow : OpenClaim := { program := "ytchhnjadnacniaa", sum := "680d2277b005d39b5a47867468a2895f0f9ae6d948f6acc0d444fab752875a3b", func := "scarp/scarplaw5.ScoreEdges", spec := "scoreEdges", inPlace := ["math.Float64bits", "math.Float64frombits"], unfollowed := true, recurses := true, apart := false, narrowed := true }
def ScoreEdgesUptoSaid : Prop := scoreEdgesUptoRow.holds Try.pinned (OpenSpec.upto scoreEdgesSpec)

/-- 'scarplaw5.ScoreTurns', WHERE WHAT IT READS IS OF BULK AT MOST 1048576: true; the input reads as it did. -/
def scoreTurnsUptoRow : OpenClaim := { program := "ytchhnjadnacniaa", sum := "680d2277b005d39b5a47867468a2895f0f9ae6d948f6acc0d444fab752875a3b", func := "scarp/scarplaw5.ScoreTurns", spec := "scoreTurns", inPlace := ["math.Float64bits", "math.Float64frombits"], unfollowed := true, recurses := true, apart := false, narrowed := true }
def ScoreTurnsUptoSaid : Prop := scoreTurnsUptoRow.holds Try.pinned (OpenSpec.upto scoreTurnsSpec)

/-- 'scarplaw5.ScoreRanks', WHERE WHAT IT READS IS OF BULK AT MOST 1048576: true; the input reads as it did. -/
def scoreRanksUptoRow : OpenClaim := { program := "ytchhnjadnacniaa", sum := "680d2277b005d39b5a47867468a2895f0f9ae6d948f6acc0d444fab752875a3b", func := "scarp/scarplaw5.ScoreRanks", spec := "scoreRanks", inPlace := ["math.Float64bits", "math.Float64frombits"], unfollowed := true, recurses := true, apart := false, narrowed := true }
def ScoreRanksUptoSaid : Prop := scoreRanksUptoRow.holds Try.pinned (OpenSpec.upto scoreRanksSpec)

/-- 'scarplaw20.CleanReads', WHERE WHAT IT READS IS OF BULK AT MOST 1048576: true; the input reads as it did. -/
def cleanReadsUptoRow : OpenClaim := { program := "ytchhnjadnacniaa", sum := "680d2277b005d39b5a47867468a2895f0f9ae6d948f6acc0d444fab752875a3b", func := "scarp/scarplaw20.CleanReads", spec := "cleanReads", inPlace := ["math.Float64bits", "math.Float64frombits"], unfollowed := true, recurses := true, apart := false, narrowed := true }
def CleanReadsUptoSaid : Prop := cleanReadsUptoRow.holds Try.pinned (OpenSpec.upto cleanReadsSpec)

/-- 'scarplaw20.CleanBest', WHERE WHAT IT READS IS OF BULK AT MOST 1048576: true; the input reads as it did. -/
def cleanBestUptoRow : OpenClaim := { program := "ytchhnjadnacniaa", sum := "680d2277b005d39b5a47867468a2895f0f9ae6d948f6acc0d444fab752875a3b", func := "scarp/scarplaw20.CleanBest", spec := "cleanBest", inPlace := ["math.Float64bits", "math.Float64frombits"], unfollowed := true, recurses := true, apart := false, narrowed := true }
def CleanBestUptoSaid : Prop := cleanBestUptoRow.holds Try.pinned (OpenSpec.upto cleanBestSpec)

/-- 'scarplaw20.CleanPlans', WHERE WHAT IT READS IS OF BULK AT MOST 1048576: true; the input reads as it did. -/
def cleanPlansUptoRow : OpenClaim := { program := "ytchhnjadnacniaa", sum := "680d2277b005d39b5a47867468a2895f0f9ae6d948f6acc0d444fab752875a3b", func := "scarp/scarplaw20.CleanPlans", spec := "cleanPlans", inPlace := ["math.Float64bits", "math.Float64frombits"], unfollowed := true, recurses := true, apart := false, narrowed := true }
def CleanPlansUptoSaid : Prop := cleanPlansUptoRow.holds Try.pinned (OpenSpec.upto cleanPlansSpec)

/-- 'scarplaw20.CleanKeeps', WHERE WHAT IT READS IS OF BULK AT MOST 1048576: true; the input reads as it did. -/
def cleanKeepsUptoRow : OpenClaim := { program := "ytchhnjadnacniaa", sum := "680d2277b005d39b5a47867468a2895f0f9ae6d948f6acc0d444fab752875a3b", func := "scarp/scarplaw20.CleanKeeps", spec := "cleanKeeps", inPlace := ["math.Float64bits", "math.Float64frombits"], unfollowed := true, recurses := true, apart := false, narrowed := true }
def CleanKeepsUptoSaid : Prop := cleanKeepsUptoRow.holds Try.pinned (OpenSpec.upto cleanKeepsSpec)

/-- 'scarplaw20.CleanEnds', WHERE WHAT IT READS IS OF BULK AT MOST 1048576: true; the input reads as it did. -/
def cleanEndsUptoRow : OpenClaim := { program := "ytchhnjadnacniaa", sum := "680d2277b005d39b5a47867468a2895f0f9ae6d948f6acc0d444fab752875a3b", func := "scarp/scarplaw20.CleanEnds", spec := "cleanEnds", inPlace := ["math.Float64bits", "math.Float64frombits"], unfollowed := true, recurses := true, apart := false, narrowed := true }
def CleanEndsUptoSaid : Prop := cleanEndsUptoRow.holds Try.pinned (OpenSpec.upto cleanEndsSpec)

end Rows
end Go.Proofs.Ytchhnjadnacniaa
