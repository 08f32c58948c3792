/-
  No cell of these rows narrows 'for every input' (looked for: loops, veiled, ifaces, maps, wideKeys, modest, calm, conditions, laid).
  DERIVED. THE GIVEN ROWS OF THIS SEAT. 8 by the template 'for every input the law returns true; each argument reads behind the call as it read before'; 0 by the template 'total and deterministic' (their statements: YtmnnlchnobbogaaTotals.lean).
  GIVEN WITH THE SEED: the statements are not yours to turn. If you find one false, say at which input.
  Laid BY PROGRAM, IN A SANDBOX (cutbox-rows.mjs): the forced cells as the released guide's own fill.sh prints them over the translation b6a5ffdf31bf04fd… (all of the seat's roots in one cut). By AI agents, Wed Nov 11 2026. No macro, syntax, notation, axiom, sorry.
-/
import Derived.Test.YtmnnlchnobbogaaChecked
import GoSem.Claim
import GoSem.ClaimJoined
import GoSem.ClaimMapViews
import Derived.JoinedTies
import Derived.KernelRfl
namespace Go.Proofs.Ytmnnlchnobbogaa
/- THE CELL 'sum', in the pinned program and in every row, IS THE sha256 OF THE DUMP (.gsa) THAT YtmnnlchnobbogaaProg.lean LOADS. Nothing in Lean hashes anything: it is a label: what it is worth is what the hold of that sum in a sandbox is worth. -/
noncomputable def Try.pinned : Pinned := { name := "ytmnnlchnobbogaa", sum := "b6a5ffdf31bf04fd9fdb5890be1f184557b2af6a9629f11567f39380026c256e", checked := Try.checked }
namespace Rows
def none {H : Type} : Left H := { results := [], args := [] }

/-- 'scarplaw1.FbitsSign': WHATEVER THE INPUT: true; the input reads as it did. -/
def fbitsSignSpec : ChangeSpec := { name := "fbitsSign", fn := fun _ => fun
  | [d] => { results := [.lit (.bool true)], args := [d] }
  | _ => none }
def fbitsSignRow : OpenClaim := { program := "ytmnnlchnobbogaa", sum := "b6a5ffdf31bf04fd9fdb5890be1f184557b2af6a9629f11567f39380026c256e", func := "scarp/scarplaw1.FbitsSign", spec := "fbitsSign", inPlace := ["math.Float64frombits", "math.Float64bits"], apart := false }
def FbitsSignSaid : Prop := fbitsSignRow.holds Try.pinned (OpenSpec.ofChange fbitsSignSpec)

/-- ITS FALSE NEIGHBOUR: 'it returns false'. Refute it at one input. -/
def fbitsSignWrong : ChangeSpec := { name := "fbitsSign", fn := fun _ => fun
  | [d] => { results := [.lit (.bool false)], args := [d] }
  | _ => none }
def FbitsSignWrongFalsely : Prop := fbitsSignRow.holds Try.pinned (OpenSpec.ofChange fbitsSignWrong)

/-- 'scarplaw1.FbitsLine': WHATEVER THE INPUT: true; the input reads as it did. -/
def fbitsLineSpec : ChangeSpec := { name := "fbitsLine", fn := fun _ => fun
  | [d1, d2] => { results := [.lit (.bool true)], args := [d1, d2] }
  | _ => none }
def fbitsLineRow : OpenClaim := { program := "ytmnnlchnobbogaa", sum := "b6a5ffdf31bf04fd9fdb5890be1f184557b2af6a9629f11567f39380026c256e", func := "scarp/scarplaw1.FbitsLine", spec := "fbitsLine", inPlace := ["math.Float64bits", "math.Float64frombits"], apart := false }
def FbitsLineSaid : Prop := fbitsLineRow.holds Try.pinned (OpenSpec.ofChange fbitsLineSpec)

/-- ITS FALSE NEIGHBOUR: 'it returns false'. Refute it at one input. -/
def fbitsLineWrong : ChangeSpec := { name := "fbitsLine", fn := fun _ => fun
  | [d1, d2] => { results := [.lit (.bool false)], args := [d1, d2] }
  | _ => none }
def FbitsLineWrongFalsely : Prop := fbitsLineRow.holds Try.pinned (OpenSpec.ofChange fbitsLineWrong)

/-- 'scarplaw1.FbitsClass': WHATEVER THE INPUT: true; the input reads as it did. -/
def fbitsClassSpec : ChangeSpec := { name := "fbitsClass", fn := fun _ => fun
  | [d] => { results := [.lit (.bool true)], args := [d] }
  | _ => none }
def fbitsClassRow : OpenClaim := { program := "ytmnnlchnobbogaa", sum := "b6a5ffdf31bf04fd9fdb5890be1f184557b2af6a9629f11567f39380026c256e", func := "scarp/scarplaw1.FbitsClass", spec := "fbitsClass", inPlace := ["math.Float64frombits", "math.Float64bits"], apart := false }
def FbitsClassSaid : Prop := fbitsClassRow.holds Try.pinned (OpenSpec.ofChange fbitsClassSpec)

/-- ITS FALSE NEIGHBOUR: 'it returns false'. Refute it at one input. -/
def fbitsClassWrong : ChangeSpec := { name := "fbitsClass", fn := fun _ => fun
  | [d] => { results := [.lit (.bool false)], args := [d] }
  | _ => none }
def FbitsClassWrongFalsely : Prop := fbitsClassRow.holds Try.pinned (OpenSpec.ofChange fbitsClassWrong)

/-- 'scarplaw1.FbitsNear': WHATEVER THE INPUT: true; the input reads as it did. -/
def fbitsNearSpec : ChangeSpec := { name := "fbitsNear", fn := fun _ => fun
  | [d] => { results := [.lit (.bool true)], args := [d] }
  | _ => none }
def fbitsNearRow : OpenClaim := { program := "ytmnnlchnobbogaa", sum := "b6a5ffdf31bf04fd9fdb5890be1f184557b2af6a9629f11567f39380026c256e", func := "scarp/scarplaw1.FbitsNear", spec := "fbitsNear", inPlace := ["math.Float64frombits", "math.Float64bits"], apart := false }
def FbitsNearSaid : Prop := fbitsNearRow.holds Try.pinned (OpenSpec.ofChange fbitsNearSpec)

/-- ITS FALSE NEIGHBOUR: 'it returns false'. Refute it at one input. -/
def fbitsNearWrong : ChangeSpec := { name := "fbitsNear", fn := fun _ => fun
  | [d] => { results := [.lit (.bool false)], args := [d] }
  | _ => none }
def FbitsNearWrongFalsely : Prop := fbitsNearRow.holds Try.pinned (OpenSpec.ofChange fbitsNearWrong)

/-- 'scarplaw1.FbitsAsks': WHATEVER THE INPUT: true; the input reads as it did. -/
def fbitsAsksSpec : ChangeSpec := { name := "fbitsAsks", fn := fun _ => fun
  | [d1, d2] => { results := [.lit (.bool true)], args := [d1, d2] }
  | _ => none }
def fbitsAsksRow : OpenClaim := { program := "ytmnnlchnobbogaa", sum := "b6a5ffdf31bf04fd9fdb5890be1f184557b2af6a9629f11567f39380026c256e", func := "scarp/scarplaw1.FbitsAsks", spec := "fbitsAsks", inPlace := ["math.Float64bits", "math.Float64frombits"], apart := false }
def FbitsAsksSaid : Prop := fbitsAsksRow.holds Try.pinned (OpenSpec.ofChange fbitsAsksSpec)

/-- ITS FALSE NEIGHBOUR: 'it returns false'. Refute it at one input. -/
def fbitsAsksWrong : ChangeSpec := { name := "fbitsAsks", fn := fun _ => fun
  | [d1, d2] => { results := [.lit (.bool false)], args := [d1, d2] }
  | _ => none }
def FbitsAsksWrongFalsely : Prop := fbitsAsksRow.holds Try.pinned (OpenSpec.ofChange fbitsAsksWrong)

/-- 'scarplaw1.FbitsSteps': WHATEVER THE INPUT: true; the input reads as it did. -/
def fbitsStepsSpec : ChangeSpec := { name := "fbitsSteps", fn := fun _ => fun
  | [d1, d2] => { results := [.lit (.bool true)], args := [d1, d2] }
  | _ => none }
def fbitsStepsRow : OpenClaim := { program := "ytmnnlchnobbogaa", sum := "b6a5ffdf31bf04fd9fdb5890be1f184557b2af6a9629f11567f39380026c256e", func := "scarp/scarplaw1.FbitsSteps", spec := "fbitsSteps", inPlace := ["math.Float64frombits", "math.Float64bits"], apart := false }
def FbitsStepsSaid : Prop := fbitsStepsRow.holds Try.pinned (OpenSpec.ofChange fbitsStepsSpec)

/-- ITS FALSE NEIGHBOUR: 'it returns false'. Refute it at one input. -/
def fbitsStepsWrong : ChangeSpec := { name := "fbitsSteps", fn := fun _ => fun
  | [d1, d2] => { results := [.lit (.bool false)], args := [d1, d2] }
  | _ => none }
def FbitsStepsWrongFalsely : Prop := fbitsStepsRow.holds Try.pinned (OpenSpec.ofChange fbitsStepsWrong)

/-- 'scarplaw1.FbitsFrom': WHATEVER THE INPUT: true; the input reads as it did. -/
def fbitsFromSpec : ChangeSpec := { name := "fbitsFrom", fn := fun _ => fun
  | [d1, d2] => { results := [.lit (.bool true)], args := [d1, d2] }
  | _ => none }
def fbitsFromRow : OpenClaim := { program := "ytmnnlchnobbogaa", sum := "b6a5ffdf31bf04fd9fdb5890be1f184557b2af6a9629f11567f39380026c256e", func := "scarp/scarplaw1.FbitsFrom", spec := "fbitsFrom", inPlace := ["math.Float64bits", "math.Float64frombits"], apart := false }
def FbitsFromSaid : Prop := fbitsFromRow.holds Try.pinned (OpenSpec.ofChange fbitsFromSpec)

/-- ITS FALSE NEIGHBOUR: 'it returns false'. Refute it at one input. -/
def fbitsFromWrong : ChangeSpec := { name := "fbitsFrom", fn := fun _ => fun
  | [d1, d2] => { results := [.lit (.bool false)], args := [d1, d2] }
  | _ => none }
def FbitsFromWrongFalsely : Prop := fbitsFromRow.holds Try.pinned (OpenSpec.ofChange fbitsFromWrong)

/-- 'scarplaw1.FbitsBack': WHATEVER THE INPUT: true; the input reads as it did. -/
def fbitsBackSpec : ChangeSpec := { name := "fbitsBack", fn := fun _ => fun
  | [d] => { results := [.lit (.bool true)], args := [d] }
  | _ => none }
def fbitsBackRow : OpenClaim := { program := "ytmnnlchnobbogaa", sum := "b6a5ffdf31bf04fd9fdb5890be1f184557b2af6a9629f11567f39380026c256e", func := "scarp/scarplaw1.FbitsBack", spec := "fbitsBack", inPlace := ["math.Float64frombits", "math.Float64bits"], apart := false }
def FbitsBackSaid : Prop := fbitsBackRow.holds Try.pinned (OpenSpec.ofChange fbitsBackSpec)

/-- ITS FALSE NEIGHBOUR: 'it returns false'. Refute it at one input. -/
def fbitsBackWrong : ChangeSpec := { name := "fbitsBack", fn := fun _ => fun
  | [d] => { results := [.lit (.bool false)], args := [d] }
  | _ => none }
def FbitsBackWrongFalsely : Prop := fbitsBackRow.holds Try.pinned (OpenSpec.ofChange fbitsBackWrong)

/- THE SECOND FORM. 'bulk': how many values and letters a reading holds, each counted each time it is reached (what is shared counts as often as it is met; a slice's spare places count too). A statement '..UptoSaid' is the law's where the arguments, and the package variables that the reading takes, are together of bulk at most 1048576: NARROWER than '..Said'. Prove '..Said' where nothing that the law and all that it calls make is longer than what came in: it says more and counts as full. Else prove '..UptoSaid'. A law counts once. -/
mutual
def uptoBulk {H : Type} : DataW H → Nat
  | .lit (.string bytes) => bytes.length + 1
  | .lit _ => 1
  | .nil => 1
  | .ptr d => uptoBulk d + 1
  | .slice elems spare => uptoBulkAll elems + uptoBulkAll spare + 1
  | .agg parts => uptoBulkAll parts + 1
  | .iface _ d => uptoBulk d + 1
  | .map entries => uptoBulkEntries entries + 1
  | .held _ => 1
def uptoBulkAll {H : Type} : List (DataW H) → Nat
  | [] => 0
  | d :: r => uptoBulk d + uptoBulkAll r
def uptoBulkEntries {H : Type} : List (Lit × DataW H) → Nat
  | [] => 0
  | x :: r => uptoBulkEntry x + uptoBulkEntries r
def uptoBulkEntry {H : Type} : Lit × DataW H → Nat
  | (.string bytes, d) => bytes.length + uptoBulk d + 1
  | (_, d) => uptoBulk d + 1
 end
def uptoSmall : (H : Type) → List (DataW H) → Bool := fun _ ds => decide (uptoBulkAll ds ≤ 1048576)
def OpenSpec.upto (s : _root_.Go.ChangeSpec) : _root_.Go.OpenSpec := { _root_.Go.OpenSpec.ofChange s with cond := some uptoSmall }

/-- 'scarplaw1.FbitsSign', WHERE WHAT IT READS IS OF BULK AT MOST 1048576: true; the input reads as it did. -/
def fbitsSignUptoRow : OpenClaim := { program := "ytmnnlchnobbogaa", sum := "b6a5ffdf31bf04fd9fdb5890be1f184557b2af6a9629f11567f39380026c256e", func := "scarp/scarplaw1.FbitsSign", spec := "fbitsSign", inPlace := ["math.Float64frombits", "math.Float64bits"], apart := false, narrowed := true }
def FbitsSignUptoSaid : Prop := fbitsSignUptoRow.holds Try.pinned (OpenSpec.upto fbitsSignSpec)

/-- 'scarplaw1.FbitsLine', WHERE WHAT IT READS IS OF BULK AT MOST 1048576: true; the input reads as it did. -/
def fbitsLineUptoRow : OpenClaim := { program := "ytmnnlchnobbogaa", sum := "b6a5ffdf31bf04fd9fdb5890be1f184557b2af6a9629f11567f39380026c256e", func := "scarp/scarplaw1.FbitsLine", spec := "fbitsLine", inPlace := ["math.Float64bits", "math.Float64frombits"], apart := false, narrowed := true }
def FbitsLineUptoSaid : Prop := fbitsLineUptoRow.holds Try.pinned (OpenSpec.upto fbitsLineSpec)

/-- 'scarplaw1.FbitsClass', WHERE WHAT IT READS IS OF BULK AT MOST 1048576: true; the input reads as it did. -/
def fbitsClassUptoRow : OpenClaim := { program := "ytmnnlchnobbogaa", sum := "b6a5ffdf31bf04fd9fdb5890be1f184557b2af6a9629f11567f39380026c256e", func := "scarp/scarplaw1.FbitsClass", spec := "fbitsClass", inPlace := ["math.Float64frombits", "math.Float64bits"], apart := false, narrowed := true }
def FbitsClassUptoSaid : Prop := fbitsClassUptoRow.holds Try.pinned (OpenSpec.upto fbitsClassSpec)

/-- 'scarplaw1.FbitsNear', WHERE WHAT IT READS IS OF BULK AT MOST 1048576: true; the input reads as it did. -/
def fbitsNearUptoRow : OpenClaim := { program := "ytmnnlchnobbogaa", sum := "b6a5ffdf31bf04fd9fdb5890be1f184557b2af6a9629f11567f39380026c256e", func := "scarp/scarplaw1.FbitsNear", spec := "fbitsNear", inPlace := ["math.Float64frombits", "math.Float64bits"], apart := false, narrowed := true }
def FbitsNearUptoSaid : Prop := fbitsNearUptoRow.holds Try.pinned (OpenSpec.upto fbitsNearSpec)

/-- 'scarplaw1.FbitsAsks', WHERE WHAT IT READS IS OF BULK AT MOST 1048576: true; the input reads as it did. -/
def fbitsAsksUptoRow : OpenClaim := { program := "ytmnnlchnobbogaa", sum := "b6a5ffdf31bf04fd9fdb5890be1f184557b2af6a9629f11567f39380026c256e", func := "scarp/scarplaw1.FbitsAsks", spec := "fbitsAsks", inPlace := ["math.Float64bits", "math.Float64frombits"], apart := false, narrowed := true }
def FbitsAsksUptoSaid : Prop := fbitsAsksUptoRow.holds Try.pinned (OpenSpec.upto fbitsAsksSpec)

/-- 'scarplaw1.FbitsSteps', WHERE WHAT IT READS IS OF BULK AT MOST 1048576: true; the input reads as it did. -/
def fbitsStepsUptoRow : OpenClaim := { program := "ytmnnlchnobbogaa", sum := "b6a5ffdf31bf04fd9fdb5890be1f184557b2af6a9629f11567f39380026c256e", func := "scarp/scarplaw1.FbitsSteps", spec := "fbitsSteps", inPlace := ["math.Float64frombits", "math.Float64bits"], apart := false, narrowed := true }
def FbitsStepsUptoSaid : Prop := fbitsStepsUptoRow.holds Try.pinned (OpenSpec.upto fbitsStepsSpec)

/-- 'scarplaw1.FbitsFrom', WHERE WHAT IT READS IS OF BULK AT MOST 1048576: true; the input reads as it did. -/
def fbitsFromUptoRow : OpenClaim := { program := "ytmnnlchnobbogaa", sum := "b6a5ffdf31bf04fd9fdb5890be1f184557b2af6a9629f11567f39380026c256e", func := "scarp/scarplaw1.FbitsFrom", spec := "fbitsFrom", inPlace := ["math.Float64bits", "math.Float64frombits"], apart := false, narrowed := true }
def FbitsFromUptoSaid : Prop := fbitsFromUptoRow.holds Try.pinned (OpenSpec.upto fbitsFromSpec)

/-- 'scarplaw1.FbitsBack', WHERE WHAT IT READS IS OF BULK AT MOST 1048576: true; the input reads as it did. -/
def fbitsBackUptoRow : OpenClaim := { program := "ytmnnlchnobbogaa", sum := "b6a5ffdf31bf04fd9fdb5890be1f184557b2af6a9629f11567f39380026c256e", func := "scarp/scarplaw1.FbitsBack", spec := "fbitsBack", inPlace := ["math.Float64frombits", "math.Float64bits"], apart := false, narrowed := true }
def FbitsBackUptoSaid : Prop := fbitsBackUptoRow.holds Try.pinned (OpenSpec.upto fbitsBackSpec)

end Rows
end Go.Proofs.Ytmnnlchnobbogaa
