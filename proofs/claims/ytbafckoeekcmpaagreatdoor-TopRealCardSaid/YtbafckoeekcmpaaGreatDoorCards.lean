/-
  DERIVED. GIVEN WITH THE SEED: THE CARDS: each row of YtbafckoeekcmpaaGreatDoorRows.lean that lists a variable, with what it lists TIED to the program's text (the seventh form; the later family's looks); each row that meets fmt, with fmt's text TOLD by the authors' own Lean function (tested against real Go, not proved from fmt's source: count such statements apart). THE CARD IS WHAT COUNTS. Prove the row's statement (the work); the ties are given (YtbafckoeekcmpaaGreatDoorTie.lean); close each card by the builder's one call (the guide's Derived/Test/ToyasCard.lean, 'card_holds'). Laid BY PROGRAM, IN A SANDBOX (cutbox-door.mjs). By AI agents, Wed Nov 11 2026. No macro, syntax, notation, axiom, sorry.
-/
import Derived.Test.YtbafckoeekcmpaaGreatDoorRows
import GoSem.ClaimSeven
namespace Go.Proofs.YtbafckoeekcmpaaGreatDoor
namespace Rows

/-- THE TIED CARD OF 'scarptop.TopReal'. -/
def topRealCard : Claim7 := { stood := { row := topRealRow, standIns := [], harness := (true, "dd89a3a5ea32f1695a646c0a10aaedc4b66e5aea2b9389b7f7f0686da1f847c6"), looks := true }, kinds := [], alts := [], laidByText := true, laidKinds := [.data, .data, .data, .data, .sentinel, .sentinel, .pinned], laidTests := true, laidLooks := .later }
def TopRealCardSaid : Prop := Claim7.holds Tryz.pinned (.plain (OpenSpec.ofChange topRealSpec)) topRealCard

/-- THE SECOND FORM's CARD OF 'scarptop.TopReal'. -/
def topRealUptoCard : Claim7 := { stood := { row := topRealUptoRow, standIns := [], harness := (true, "dd89a3a5ea32f1695a646c0a10aaedc4b66e5aea2b9389b7f7f0686da1f847c6"), looks := true }, kinds := [], alts := [], laidByText := true, laidKinds := [.data, .data, .data, .data, .sentinel, .sentinel, .pinned], laidTests := true, laidLooks := .later }
def TopRealUptoCardSaid : Prop := Claim7.holds Tryz.pinned (.plain (OpenSpec.upto topRealSpec)) topRealUptoCard
end Rows
end Go.Proofs.YtbafckoeekcmpaaGreatDoor
