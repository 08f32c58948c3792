/- A region that draws its order, stepped by hand: the world is what it was, behind some draws. -/
import Derived.WalkKit
import Derived.Deep.Draws
import Derived.Deep.RegionHeld3
namespace Go.Proofs.Ytchhnjadnacniaa
def Drawn (W w : World) : Prop := ∃ m, w = W.drewN m
theorem Drawn.start (W : World) : Drawn W W := ⟨0, rfl⟩
theorem Drawn.of (w : World) (q : Nat) : Drawn w (w.drewN q).drew := ⟨q + 1, rfl⟩
theorem Drawn.one (w : World) : Drawn w w.drew := ⟨1, rfl⟩
theorem Drawn.drewN {W w : World} (h : Drawn W w) (k : Nat) : Drawn W (w.drewN k) := by
  obtain ⟨m, rfl⟩ := h
  exact ⟨m + k, by rw [World.drewN_drewN]⟩
theorem Drawn.drew {W w : World} (h : Drawn W w) : Drawn W w.drew := h.drewN 1
end Go.Proofs.Ytchhnjadnacniaa
