/- Contracts of the program's functions, and laws on memory: a part of the proof of TopRoom. -/
import Derived.Test.YthhndleddlmgiaaGreatDoorZQ
import Derived.Test.YthhndleddlmgiaaGreatDoorCards
import Derived.WalkKit
import Derived.ProofKit
import Derived.JoinedCond
import Derived.JoinedOf
import GoSem.ClaimGoes
namespace Go.Proofs.YthhndleddlmgiaaGreatDoor.lawTopRoom
set_option maxHeartbeats 8000000
set_option maxRecDepth 100000
set_option linter.unusedSimpArgs false
set_option linter.unusedVariables false
section
open Go.ChangeShapes Go.WideShapes Go.ChangeAt Go.RowKit
theorem closed : joinedFacts Tryz.pinned.checked.prog 3 Tryz.f3 Rows.topRoomSpec Rows.topRoomRow = true := by
 simp only [joinedFacts, Bool.and_eq_true]
 repeat' apply And.intro
 all_goals (as_aux_lemma => kernel_rfl)
theorem inst : Func.isInstance Tryz.pinned.checked.prog Tryz.f3 Rows.topRoomRow.origin Rows.topRoomRow.targs := of_decide_eq_true (by kernel_rfl)
theorem wrap : Func.isWrapper Tryz.pinned.checked.prog Tryz.f3 Rows.topRoomRow.wrapper Rows.topRoomRow.mainSum := by
 unfold Func.isWrapper; first | (rw [if_pos (by decide +kernel)]; kernel_rfl) | (rw [if_neg (by decide +kernel)]; exact ⟨rfl, rfl⟩)
theorem byText : OpenClaim.wfByText (OpenSpec.ofChange Rows.topRoomSpec) Rows.topRoomRow = true := by kernel_rfl
theorem noGo : Tryz.pinned.checked.prog.funcs.any Func.goes = false := by kernel_rfl
theorem goes_none {P : Program} (h : P.funcs.any Func.goes = false) (f : FuncId) : P.goes f = false := by
 have h0 : ∀ g : Nat, (P.funcs[g]?).any Func.goes = false := fun g => by
  cases hg : P.funcs[g]? with
  | none => rfl
  | some fn =>
    cases he : fn.goes with
    | false => simpa using he
    | true =>
      rw [Array.any_eq_false] at h
      obtain ⟨hi, e⟩ := Array.getElem?_eq_some_iff.1 hg
      exact absurd (by rw [e]; exact he) (h g hi)
 unfold Program.goes
 rw [h, Bool.and_false, Bool.or_false]
 exact List.any_eq_false.2 fun g _ => by rw [h0 g]; decide
theorem mainIs : Tryz.pinned.checked.prog.mainIs = some (Rows.topRoomCard.stood.harness.1, Rows.topRoomCard.stood.harness.2.toList) := by kernel_rfl
end
end Go.Proofs.YthhndleddlmgiaaGreatDoor.lawTopRoom
