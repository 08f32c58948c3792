/- Contracts of the program's functions, and laws on memory: a part of the proof of TopRoom. -/
import Derived.WalkKit
import Derived.Below
import Derived.Deep.Draws
import Derived.Deep.RegionHeld3
import Derived.Deep.Slices
import Derived.Deep.AppendLies
import Derived.Laws.OwnMore
import Derived.ProofKit
import Derived.ChangeSlices
import Derived.Laws.Cover2
import Derived.OwnWalk
import Derived.Maps.AppendAt
import Derived.RegionTactic
import Derived.KernelRfl
import Derived.LoopTactic
import Derived.WalkSpells
import Derived.Lib.Hide
import Derived.Deep.DeepMust
import Derived.Test.YthhndleddlmgiaaGreatDoorProg
import Derived.WalkLawsBesides
import Derived.Outline
import Derived.Handy
import Derived.Maps.Own
import Derived.Maps.OwnOps
import Derived.Laws.Rows
import Derived.Laws.ResultCell
import Derived.LoopN
import Derived.Lib.AppendZeros
import Derived.Lib.AppendZerosOnto
import Derived.Laws.MakeOwn
import Derived.Laws.Entries
import Derived.WalkMore
import Derived.IntWalk
namespace Go.Proofs.YthhndleddlmgiaaGreatDoor
set_option maxHeartbeats 8000000
set_option maxRecDepth 100000
set_option linter.unusedSimpArgs false
set_option linter.unusedVariables false
section
open Go.RowKit
structure Kp (L : List (Nat × Nat × Value)) (w0 w : World) : Prop where
 cells : ∀ c ∈ L, c.1 < w.heap.size ∧ w.cell? ⟨c.1, c.2.1, none⟩ = some c.2.2
 bel : Below w0.heap.size w0 w
theorem Kp.next {L : List (Nat × Nat × Value)} {w0 w w2 : World} (h : Kp L w0 w) (hb : Below w.heap.size w w2) : Kp L w0 w2 :=
 ⟨fun c hc => ⟨Nat.lt_of_lt_of_le (h.cells c hc).1 hb.size, (hb.cell (p := ⟨c.1, c.2.1, none⟩) (h.cells c hc).1).trans (h.cells c hc).2⟩, h.bel.trans (hb.mono h.bel.size)⟩
theorem below_drawn (w : World) (n : Nat) : Below w.heap.size w (w.drewN n) := ⟨rfl, rfl, rfl, Nat.le_refl _, fun _ _ => rfl⟩
theorem Kp.drewN {L : List (Nat × Nat × Value)} {w0 w : World} (h : Kp L w0 w) (n : Nat) : Kp L w0 (w.drewN n) := h.next (below_drawn w n)
theorem Kp.drew {L : List (Nat × Nat × Value)} {w0 w : World} (h : Kp L w0 w) : Kp L w0 w.drew := h.drewN 1
theorem Kp.alloc {L : List (Nat × Nat × Value)} {w0 w : World} (h : Kp L w0 w) (o : Obj) : Kp L w0 (w.alloc o) := h.next ((Below.refl _ _).alloc (Nat.le_refl _) _)
theorem Kp.nil {w : World} : Kp [] w w := ⟨fun c hc => by simp at hc, Below.refl _ _⟩
theorem Kp.add {L : List (Nat × Nat × Value)} {w0 w : World} {b o : Nat} {v : Value} (h : Kp L w0 w) (hb : b < w.heap.size) (hc : w.cell? ⟨b, o, none⟩ = some v) : Kp ((b, o, v) :: L) w0 w :=
 ⟨fun c hm => by
  rcases List.mem_cons.1 hm with rfl | hm
  · exact ⟨hb, hc⟩
  · exact h.cells c hm, h.bel⟩
theorem Kp.head {L : List (Nat × Nat × Value)} {w0 w : World} {b o : Nat} {v : Value} (h : Kp ((b, o, v) :: L) w0 w) : w.cell? ⟨b, o, none⟩ = some v := (h.cells _ (List.mem_cons_self ..)).2
theorem Kp.lt {L : List (Nat × Nat × Value)} {w0 w : World} {b o : Nat} {v : Value} (h : Kp ((b, o, v) :: L) w0 w) : b < w.heap.size := (h.cells _ (List.mem_cons_self ..)).1
theorem Kp.tail {L : List (Nat × Nat × Value)} {w0 w : World} {c : Nat × Nat × Value} (h : Kp (c :: L) w0 w) : Kp L w0 w := ⟨fun d hd => h.cells d (List.mem_cons_of_mem _ hd), h.bel⟩
theorem Kp.s1 {w0 w : World} {b0 o0 : Nat} {x0 : Value} (h : Kp [(b0, o0, x0)] w0 w) : Kp [(b0, o0, x0)] w0 w ∧ w.cell? ⟨b0, o0, none⟩ = some x0 :=
 ⟨h, h.head⟩
theorem Kp.s2 {w0 w : World} {b0 o0 b1 o1 : Nat} {x0 x1 : Value} (h : Kp [(b0, o0, x0), (b1, o1, x1)] w0 w) : Kp [(b0, o0, x0), (b1, o1, x1)] w0 w ∧ w.cell? ⟨b0, o0, none⟩ = some x0 ∧ w.cell? ⟨b1, o1, none⟩ = some x1 :=
 ⟨h, h.head, h.tail.head⟩
theorem Kp.s3 {w0 w : World} {b0 o0 b1 o1 b2 o2 : Nat} {x0 x1 x2 : Value} (h : Kp [(b0, o0, x0), (b1, o1, x1), (b2, o2, x2)] w0 w) : Kp [(b0, o0, x0), (b1, o1, x1), (b2, o2, x2)] w0 w ∧ w.cell? ⟨b0, o0, none⟩ = some x0 ∧ w.cell? ⟨b1, o1, none⟩ = some x1 ∧ w.cell? ⟨b2, o2, none⟩ = some x2 :=
 ⟨h, h.head, h.tail.head, h.tail.tail.head⟩
theorem Kp.s4 {w0 w : World} {b0 o0 b1 o1 b2 o2 b3 o3 : Nat} {x0 x1 x2 x3 : Value} (h : Kp [(b0, o0, x0), (b1, o1, x1), (b2, o2, x2), (b3, o3, x3)] w0 w) : Kp [(b0, o0, x0), (b1, o1, x1), (b2, o2, x2), (b3, o3, x3)] w0 w ∧ w.cell? ⟨b0, o0, none⟩ = some x0 ∧ w.cell? ⟨b1, o1, none⟩ = some x1 ∧ w.cell? ⟨b2, o2, none⟩ = some x2 ∧ w.cell? ⟨b3, o3, none⟩ = some x3 :=
 ⟨h, h.head, h.tail.head, h.tail.tail.head, h.tail.tail.tail.head⟩
theorem Kp.s5 {w0 w : World} {b0 o0 b1 o1 b2 o2 b3 o3 b4 o4 : Nat} {x0 x1 x2 x3 x4 : Value} (h : Kp [(b0, o0, x0), (b1, o1, x1), (b2, o2, x2), (b3, o3, x3), (b4, o4, x4)] w0 w) : Kp [(b0, o0, x0), (b1, o1, x1), (b2, o2, x2), (b3, o3, x3), (b4, o4, x4)] w0 w ∧ w.cell? ⟨b0, o0, none⟩ = some x0 ∧ w.cell? ⟨b1, o1, none⟩ = some x1 ∧ w.cell? ⟨b2, o2, none⟩ = some x2 ∧ w.cell? ⟨b3, o3, none⟩ = some x3 ∧ w.cell? ⟨b4, o4, none⟩ = some x4 :=
 ⟨h, h.head, h.tail.head, h.tail.tail.head, h.tail.tail.tail.head, h.tail.tail.tail.tail.head⟩
theorem Kp.s6 {w0 w : World} {b0 o0 b1 o1 b2 o2 b3 o3 b4 o4 b5 o5 : Nat} {x0 x1 x2 x3 x4 x5 : Value} (h : Kp [(b0, o0, x0), (b1, o1, x1), (b2, o2, x2), (b3, o3, x3), (b4, o4, x4), (b5, o5, x5)] w0 w) : Kp [(b0, o0, x0), (b1, o1, x1), (b2, o2, x2), (b3, o3, x3), (b4, o4, x4), (b5, o5, x5)] w0 w ∧ w.cell? ⟨b0, o0, none⟩ = some x0 ∧ w.cell? ⟨b1, o1, none⟩ = some x1 ∧ w.cell? ⟨b2, o2, none⟩ = some x2 ∧ w.cell? ⟨b3, o3, none⟩ = some x3 ∧ w.cell? ⟨b4, o4, none⟩ = some x4 ∧ w.cell? ⟨b5, o5, none⟩ = some x5 :=
 ⟨h, h.head, h.tail.head, h.tail.tail.head, h.tail.tail.tail.head, h.tail.tail.tail.tail.head, h.tail.tail.tail.tail.tail.head⟩
theorem Kp.s9 {w0 w : World} {b0 o0 b1 o1 b2 o2 b3 o3 b4 o4 b5 o5 b6 o6 b7 o7 b8 o8 : Nat} {x0 x1 x2 x3 x4 x5 x6 x7 x8 : Value} (h : Kp [(b0, o0, x0), (b1, o1, x1), (b2, o2, x2), (b3, o3, x3), (b4, o4, x4), (b5, o5, x5), (b6, o6, x6), (b7, o7, x7), (b8, o8, x8)] w0 w) : Kp [(b0, o0, x0), (b1, o1, x1), (b2, o2, x2), (b3, o3, x3), (b4, o4, x4), (b5, o5, x5), (b6, o6, x6), (b7, o7, x7), (b8, o8, x8)] w0 w ∧ w.cell? ⟨b0, o0, none⟩ = some x0 ∧ w.cell? ⟨b1, o1, none⟩ = some x1 ∧ w.cell? ⟨b2, o2, none⟩ = some x2 ∧ w.cell? ⟨b3, o3, none⟩ = some x3 ∧ w.cell? ⟨b4, o4, none⟩ = some x4 ∧ w.cell? ⟨b5, o5, none⟩ = some x5 ∧ w.cell? ⟨b6, o6, none⟩ = some x6 ∧ w.cell? ⟨b7, o7, none⟩ = some x7 ∧ w.cell? ⟨b8, o8, none⟩ = some x8 :=
 ⟨h, h.head, h.tail.head, h.tail.tail.head, h.tail.tail.tail.head, h.tail.tail.tail.tail.head, h.tail.tail.tail.tail.tail.head, h.tail.tail.tail.tail.tail.tail.head, h.tail.tail.tail.tail.tail.tail.tail.head, h.tail.tail.tail.tail.tail.tail.tail.tail.head⟩
theorem down {B : Nat} {a b c : World} (h : Below B a b) (k : Below b.heap.size b c) (hB : B ≤ b.heap.size) : Below B a c := h.trans (k.mono hB)
theorem ret_bool {a b : Bool} (h : a = b) : Ending.returned (.bool a) = .returned (.bool b) := by rw [h]
theorem ret_int {k : IntKind} {a b : Int} (h : a = b) : Ending.returned (.int k a) = .returned (.int k b) := by rw [h]
end
section
def Drawn (W w : World) : Prop := ∃ m, w = W.drewN m
theorem Drawn.start (W : World) : Drawn W W := ⟨0, rfl⟩
theorem Drawn.of (w : World) (q : Nat) : Drawn w (w.drewN q).drew := ⟨q + 1, rfl⟩
theorem Drawn.one (w : World) : Drawn w w.drew := ⟨1, rfl⟩
theorem Drawn.drewN {W w : World} (h : Drawn W w) (k : Nat) : Drawn W (w.drewN k) := by
 obtain ⟨m, rfl⟩ := h
 exact ⟨m + k, by rw [World.drewN_drewN]⟩
theorem Drawn.drew {W w : World} (h : Drawn W w) : Drawn W w.drew := h.drewN 1
end
section
open Go.RowKit
theorem add_block (a : Addr) (n : Nat) : (a.add n).block = a.block := by unfold Addr.add; split <;> rfl
theorem add_twice (a : Addr) (i j : Nat) : (a.add i).add j = a.add (i + j) := by
 unfold Addr.add
 rcases Nat.eq_zero_or_pos i with hi | hi <;> rcases Nat.eq_zero_or_pos j with hj | hj <;> simp [hi, hj, Nat.add_assoc, Nat.ne_of_gt]
def Rd (w : World) (B : Nat) (A : Option Addr) (xs : List Value) : Prop :=
 0 < xs.length → ∃ ad, A = some ad ∧ ad.block < B ∧ ∀ j u, xs[j]? = some u → w.cell? (ad.add j) = some u
section
variable {w w' : World} {B B' : Nat} {A : Option Addr} {xs : List Value}
theorem Rd.nil (w : World) (B : Nat) (A : Option Addr) : Rd w B A [] := fun h => absurd h (by simp)
theorem Rd.get (h : Rd w B A xs) {k : Nat} (hk : k < xs.length) : ∃ ad, A = some ad ∧ ad.block < B ∧ w.cell? (ad.add k) = some xs[k] := by
 obtain ⟨ad, e, hb, hc⟩ := h (by omega)
 exact ⟨ad, e, hb, hc k _ (List.getElem?_eq_getElem hk)⟩
theorem Rd.keep (h : Rd w B A xs) (hk : ∀ p : Addr, p.block < B → w'.cell? p = w.cell? p) : Rd w' B A xs := fun hn => by
 obtain ⟨ad, e, hb, hc⟩ := h hn
 exact ⟨ad, e, hb, fun j u hu => (hk _ (by rw [add_block]; exact hb)).trans (hc j u hu)⟩
theorem Rd.more (h : Rd w B A xs) (hB : B ≤ B') : Rd w B' A xs := fun hn => by
 obtain ⟨ad, e, hb, hc⟩ := h hn
 exact ⟨ad, e, by omega, hc⟩
theorem Rd.below (h : Rd w B A xs) (hb : Below B w w') : Rd w' B A xs := h.keep fun _ hp => hb.cell hp
theorem Rd.next (h : Rd w B A xs) {W : World} (hB : B ≤ w.heap.size) (hb : Below w.heap.size w W) : Rd W B A xs := h.keep fun _ hp => hb.cell (by omega)
theorem Rd.drewN (h : Rd w B A xs) (k : Nat) : Rd (w.drewN k) B A xs := h
theorem Rd.drew (h : Rd w B A xs) : Rd w.drew B A xs := h
theorem Rd.alloc (h : Rd w B A xs) (hB : B ≤ w.heap.size) (o : Obj) : Rd (w.alloc o) B A xs := h.keep fun p hp => World.cell?_alloc_lt w o p (by omega)
theorem Rd.setCell (h : Rd w B A xs) {p : Addr} (hB : B ≤ p.block) (u : Value) : Rd (w.setCell p u) B A xs :=
 h.keep fun q hq => World.cell?_setCell_other w p q u (fun e => by subst e; omega)
theorem Rd.grown (h : Rd w B A xs) {row : Option Nat} (hg : w.grownBy w' row) (hB : B ≤ w.heap.size) (hr : ∀ g, row = some g → B ≤ g) : Rd w' B A xs :=
 h.keep fun p hp => World.cell?_of_block (hg.block p.block (by omega) (fun e => by have := hr _ e.symm; omega))
theorem Rd.drop (h : Rd w B A xs) {k c n : Nat} (hn : n = xs.length) (hk : k ≤ n) (hc : n ≤ c) : Rd w B (if c = k then A else A.map (·.add k)) (xs.drop k) := fun hl => by
 rw [List.length_drop] at hl
 obtain ⟨ad, rfl, hb, hcell⟩ := h (by omega)
 rw [if_neg (by omega)]
 refine ⟨ad.add k, rfl, by rw [add_block]; exact hb, fun j u hu => ?_⟩
 rw [add_twice]
 exact hcell _ u (by rw [← hu, List.getElem?_drop])
theorem Rd.take (h : Rd w B A xs) (k : Nat) : Rd w B A (xs.take k) := fun hl => by
 rw [List.length_take] at hl
 obtain ⟨ad, e, hb, hcell⟩ := h (by omega)
 refine ⟨ad, e, hb, fun j u hu => hcell j u ?_⟩
 rw [List.getElem?_take] at hu
 split at hu
 · exact hu
 · cases hu
end
def Bk (w : World) (g : Nat) (t : TypeId) (cs : List Value) : Prop := w.heap[g]? = some (.cells cs.toArray t (0, 0))
section
variable {w w' : World} {g : Nat} {t : TypeId} {cs : List Value}
theorem Bk.lt (h : Bk w g t cs) : g < w.heap.size := by
 rcases Nat.lt_or_ge g w.heap.size with hl | hl
 · exact hl
 · unfold Bk at h; rw [Array.getElem?_eq_none hl] at h; cases h
theorem Bk.cell (h : Bk w g t cs) {i : Nat} (hi : i < cs.length) : w.cell? ⟨g, i, none⟩ = some cs[i] := by
 rw [cell_of_row w g i cs.toArray t (0, 0) h, List.getElem?_toArray, List.getElem?_eq_getElem hi]
theorem Bk.c2 {u0 u1 : Value} {r : List Value} (h : Bk w g t (u0 :: u1 :: r)) : w.cell? ⟨g, 0, none⟩ = some u0 ∧ w.cell? ⟨g, 1, none⟩ = some u1 :=
 ⟨h.cell (i := 0) (by simp), h.cell (i := 1) (by simp)⟩
theorem Bk.c3 {u0 u1 u2 : Value} {r : List Value} (h : Bk w g t (u0 :: u1 :: u2 :: r)) : w.cell? ⟨g, 0, none⟩ = some u0 ∧ w.cell? ⟨g, 1, none⟩ = some u1 ∧ w.cell? ⟨g, 2, none⟩ = some u2 :=
 ⟨h.cell (i := 0) (by simp), h.cell (i := 1) (by simp), h.cell (i := 2) (by simp)⟩
theorem Bk.c4 {u0 u1 u2 u3 : Value} {r : List Value} (h : Bk w g t (u0 :: u1 :: u2 :: u3 :: r)) : w.cell? ⟨g, 0, none⟩ = some u0 ∧ w.cell? ⟨g, 1, none⟩ = some u1 ∧ w.cell? ⟨g, 2, none⟩ = some u2 ∧ w.cell? ⟨g, 3, none⟩ = some u3 :=
 ⟨h.cell (i := 0) (by simp), h.cell (i := 1) (by simp), h.cell (i := 2) (by simp), h.cell (i := 3) (by simp)⟩
theorem Bk.c5 {u0 u1 u2 u3 u4 : Value} {r : List Value} (h : Bk w g t (u0 :: u1 :: u2 :: u3 :: u4 :: r)) : w.cell? ⟨g, 0, none⟩ = some u0 ∧ w.cell? ⟨g, 1, none⟩ = some u1 ∧ w.cell? ⟨g, 2, none⟩ = some u2 ∧ w.cell? ⟨g, 3, none⟩ = some u3 ∧ w.cell? ⟨g, 4, none⟩ = some u4 :=
 ⟨h.cell (i := 0) (by simp), h.cell (i := 1) (by simp), h.cell (i := 2) (by simp), h.cell (i := 3) (by simp), h.cell (i := 4) (by simp)⟩
theorem Bk.c6 {u0 u1 u2 u3 u4 u5 : Value} {r : List Value} (h : Bk w g t (u0 :: u1 :: u2 :: u3 :: u4 :: u5 :: r)) : w.cell? ⟨g, 0, none⟩ = some u0 ∧ w.cell? ⟨g, 1, none⟩ = some u1 ∧ w.cell? ⟨g, 2, none⟩ = some u2 ∧ w.cell? ⟨g, 3, none⟩ = some u3 ∧ w.cell? ⟨g, 4, none⟩ = some u4 ∧ w.cell? ⟨g, 5, none⟩ = some u5 :=
 ⟨h.cell (i := 0) (by simp), h.cell (i := 1) (by simp), h.cell (i := 2) (by simp), h.cell (i := 3) (by simp), h.cell (i := 4) (by simp), h.cell (i := 5) (by simp)⟩
theorem Bk.c7 {u0 u1 u2 u3 u4 u5 u6 : Value} {r : List Value} (h : Bk w g t (u0 :: u1 :: u2 :: u3 :: u4 :: u5 :: u6 :: r)) : w.cell? ⟨g, 0, none⟩ = some u0 ∧ w.cell? ⟨g, 1, none⟩ = some u1 ∧ w.cell? ⟨g, 2, none⟩ = some u2 ∧ w.cell? ⟨g, 3, none⟩ = some u3 ∧ w.cell? ⟨g, 4, none⟩ = some u4 ∧ w.cell? ⟨g, 5, none⟩ = some u5 ∧ w.cell? ⟨g, 6, none⟩ = some u6 :=
 ⟨h.cell (i := 0) (by simp), h.cell (i := 1) (by simp), h.cell (i := 2) (by simp), h.cell (i := 3) (by simp), h.cell (i := 4) (by simp), h.cell (i := 5) (by simp), h.cell (i := 6) (by simp)⟩
theorem Bk.c8 {u0 u1 u2 u3 u4 u5 u6 u7 : Value} {r : List Value} (h : Bk w g t (u0 :: u1 :: u2 :: u3 :: u4 :: u5 :: u6 :: u7 :: r)) : w.cell? ⟨g, 0, none⟩ = some u0 ∧ w.cell? ⟨g, 1, none⟩ = some u1 ∧ w.cell? ⟨g, 2, none⟩ = some u2 ∧ w.cell? ⟨g, 3, none⟩ = some u3 ∧ w.cell? ⟨g, 4, none⟩ = some u4 ∧ w.cell? ⟨g, 5, none⟩ = some u5 ∧ w.cell? ⟨g, 6, none⟩ = some u6 ∧ w.cell? ⟨g, 7, none⟩ = some u7 :=
 ⟨h.cell (i := 0) (by simp), h.cell (i := 1) (by simp), h.cell (i := 2) (by simp), h.cell (i := 3) (by simp), h.cell (i := 4) (by simp), h.cell (i := 5) (by simp), h.cell (i := 6) (by simp), h.cell (i := 7) (by simp)⟩
theorem Bk.c9 {u0 u1 u2 u3 u4 u5 u6 u7 u8 : Value} {r : List Value} (h : Bk w g t (u0 :: u1 :: u2 :: u3 :: u4 :: u5 :: u6 :: u7 :: u8 :: r)) : w.cell? ⟨g, 0, none⟩ = some u0 ∧ w.cell? ⟨g, 1, none⟩ = some u1 ∧ w.cell? ⟨g, 2, none⟩ = some u2 ∧ w.cell? ⟨g, 3, none⟩ = some u3 ∧ w.cell? ⟨g, 4, none⟩ = some u4 ∧ w.cell? ⟨g, 5, none⟩ = some u5 ∧ w.cell? ⟨g, 6, none⟩ = some u6 ∧ w.cell? ⟨g, 7, none⟩ = some u7 ∧ w.cell? ⟨g, 8, none⟩ = some u8 :=
 ⟨h.cell (i := 0) (by simp), h.cell (i := 1) (by simp), h.cell (i := 2) (by simp), h.cell (i := 3) (by simp), h.cell (i := 4) (by simp), h.cell (i := 5) (by simp), h.cell (i := 6) (by simp), h.cell (i := 7) (by simp), h.cell (i := 8) (by simp)⟩
theorem Bk.c10 {u0 u1 u2 u3 u4 u5 u6 u7 u8 u9 : Value} {r : List Value} (h : Bk w g t (u0 :: u1 :: u2 :: u3 :: u4 :: u5 :: u6 :: u7 :: u8 :: u9 :: r)) : w.cell? ⟨g, 0, none⟩ = some u0 ∧ w.cell? ⟨g, 1, none⟩ = some u1 ∧ w.cell? ⟨g, 2, none⟩ = some u2 ∧ w.cell? ⟨g, 3, none⟩ = some u3 ∧ w.cell? ⟨g, 4, none⟩ = some u4 ∧ w.cell? ⟨g, 5, none⟩ = some u5 ∧ w.cell? ⟨g, 6, none⟩ = some u6 ∧ w.cell? ⟨g, 7, none⟩ = some u7 ∧ w.cell? ⟨g, 8, none⟩ = some u8 ∧ w.cell? ⟨g, 9, none⟩ = some u9 :=
 ⟨h.cell (i := 0) (by simp), h.cell (i := 1) (by simp), h.cell (i := 2) (by simp), h.cell (i := 3) (by simp), h.cell (i := 4) (by simp), h.cell (i := 5) (by simp), h.cell (i := 6) (by simp), h.cell (i := 7) (by simp), h.cell (i := 8) (by simp), h.cell (i := 9) (by simp)⟩
theorem Bk.free (h : Bk w g t cs) (i : Nat) : w.frozen? ⟨g, i, none⟩ = false := by
 unfold Bk at h
 simp [World.frozen?, h]
theorem Bk.new (w : World) (t : TypeId) (cs : List Value) : Bk (w.alloc (.cells cs.toArray t)) w.heap.size t cs := heap_alloc_new w _
theorem Bk.drewN (h : Bk w g t cs) (n : Nat) : Bk (w.drewN n) g t cs := h
theorem Bk.drew (h : Bk w g t cs) : Bk w.drew g t cs := h
theorem Bk.alloc (h : Bk w g t cs) (o : Obj) : Bk (w.alloc o) g t cs := (Below.heap_alloc w o g h.lt).trans h
theorem Bk.set (h : Bk w g t cs) (i : Nat) (u : Value) : Bk (w.setCell ⟨g, i, none⟩ u) g t (cs.set i u) := by
 unfold Bk at h ⊢
 simp [World.setCell, Array.getElem?_modify, h]
theorem Bk.far (h : Bk w g t cs) {p : Addr} (hp : g ≠ p.block) (u : Value) : Bk (w.setCell p u) g t cs := (Below.heap_setCell w p u g hp).trans h
theorem Bk.next {B : Nat} (h : Bk w g t cs) (hb : Below B w w') (hg : g < B) : Bk w' g t cs := (hb.block g hg).trans h
theorem Bk.rd (h : Bk w g t cs) : Rd w w.heap.size (some ⟨g, 0, none⟩) cs := fun _ => ⟨⟨g, 0, none⟩, rfl, h.lt, fun j u hu => by
 obtain ⟨hj, rfl⟩ := List.getElem?_eq_some_iff.1 hu
 have e : (⟨g, 0, none⟩ : Addr).add j = ⟨g, j, none⟩ := by
  unfold Addr.add
  rcases Nat.eq_zero_or_pos j with h0 | h0
  · subst h0; rfl
  · simp [Nat.ne_of_gt h0]
 rw [e]
 exact h.cell hj⟩
end
structure IsNums (w : World) (A : Option Addr) (n c : Nat) (l : List Nat) : Prop where
 len : l.length = n
 rd : Rd w w.heap.size A (l.map (Value.float .f64))
 wf : ∀ x ∈ l, x < 18446744073709551616
 cap : n ≤ c
 big : c ≤ maxLen
structure IsInts (k : IntKind) (w : World) (A : Option Addr) (n c : Nat) (l : List Int) : Prop where
 len : l.length = n
 rd : Rd w w.heap.size A (l.map (Value.int k))
 wf : ∀ x ∈ l, (Lit.int k x).wf = true
 cap : n ≤ c
 big : c ≤ maxLen
theorem IsNums.lit (w : World) (t : TypeId) (l : List Nat) (hw : ∀ x ∈ l, x < 18446744073709551616) (hm : l.length ≤ 1000) : IsNums (w.alloc (.cells (l.map (Value.float .f64)).toArray t)) (some ⟨w.heap.size, 0, none⟩) l.length l.length l :=
 ⟨rfl, (Bk.new w t _).rd, hw, Nat.le_refl _, by unfold maxLen; omega⟩
theorem IsNums.next {w w' : World} {A : Option Addr} {n c : Nat} {l : List Nat} (h : IsNums w A n c l) (hb : Below w.heap.size w w') : IsNums w' A n c l := ⟨h.len, (h.rd.next (Nat.le_refl _) hb).more hb.size, h.wf, h.cap, h.big⟩
theorem IsNums.drewN {w : World} {A : Option Addr} {n c : Nat} {l : List Nat} (h : IsNums w A n c l) (q : Nat) : IsNums (w.drewN q) A n c l := h.next (below_drawn w q)
theorem IsInts.next {k : IntKind} {w w' : World} {A : Option Addr} {n c : Nat} {l : List Int} (h : IsInts k w A n c l) (hb : Below w.heap.size w w') : IsInts k w' A n c l := ⟨h.len, (h.rd.next (Nat.le_refl _) hb).more hb.size, h.wf, h.cap, h.big⟩
theorem IsNums.below {B : Nat} {w w' : World} {A : Option Addr} {n c : Nat} {l : List Nat} (h : IsNums w A n c l) (hB : w.heap.size ≤ B) (hb : Below B w w') : IsNums w' A n c l := h.next (hb.mono hB)
section
open Go.ChangeShapes Go.WideShapes Go.Deep
variable {H : Type} {enc : TypeId × Value → H} {P : Program} {w : World} {base : Nat} {spare : Nat → Bool} {held : Bool}
theorem list_of {α : Type} (n : Nat) (p : Nat → α → Prop) (h : ∀ i, i < n → ∃ x, p i x) : ∃ l : List α, l.length = n ∧ ∀ i (hi : i < l.length), p i l[i] := by
 induction n with
 | zero => exact ⟨[], rfl, fun i hi => absurd hi (by simp)⟩
 | succ n ih =>
   obtain ⟨l, hl, hp⟩ := ih fun i hi => h i (by omega)
   obtain ⟨x, hx⟩ := h n (by omega)
   refine ⟨l ++ [x], by simp [hl], fun i hi => ?_⟩
   rw [List.length_append, List.length_singleton] at hi
   rcases Nat.lt_or_ge i l.length with g | g
   · rw [List.getElem_append_left g]; exact hp i g
   · obtain rfl : i = l.length := by omega
     rw [List.getElem_append_right (Nat.le_refl _)]
     simp only [Nat.sub_self, List.getElem_cons_zero]
     rw [hl]; exact hx
end
end
section
open Go.RowKit
section
variable {P : Program} (w : World)
theorem run_app_nil (base : Nat) (t ty e : TypeId) (i : TypeInfo) (ht : P.underlying t = some (.slice e)) (hi : P.info? e = some i)
  (v : Value) (n : Nat) (xs : List Value) (hown : w.ownsRow base e 1 v n xs) (c : Nat) : (Builtin.append_ #[t, t] ty #[v, .slice none 0 c]).run P w = .ok v w := by
 rcases hown.2 with ⟨rfl, rfl⟩ | ⟨g, cap, cur, rfl, _, _, hnc, _⟩
 · simp [Builtin.append_, run_underlying ht, sizeOf, typeInfo, hi, Builtin.lenOf, Builtin.firstCells]
 · simp [Builtin.append_, run_underlying ht, sizeOf, typeInfo, hi, Builtin.lenOf, Builtin.firstCells, hnc, storeCells]
theorem run_appN (base : Nat) (t ty e : TypeId) (i : TypeInfo) (z : Value) (bytes : Nat) (ht : P.underlying t = some (.slice e)) (hi : P.info? e = some i) (hz : i.zero = some z)
  (hsize : i.size = 1) (hby : i.bytes = bytes) (hzs : z.cells.size = 1)
  (v : Value) (n : Nat) (xs : List Value) (hown : w.ownsRow base e 1 v n xs)
  (B : Nat) (A : Option Addr) (m c : Nat) (news : List Value) (hl : news.length = m) (hr : Rd w B A news) (h1 : ∀ u ∈ news, u.oneCell' = true)
  (h63 : n + m ≤ 1000000000) (hbytes : (n + m) * bytes ≤ 1000000000000) (hbase : base ≤ w.heap.size) :
  ∃ v' w', (Builtin.append_ #[t, t] ty #[v, .slice A m c]).run P w = .ok v' w' ∧ w'.ownsRow base e 1 v' (n + m) (xs ++ news) ∧ w.grownBy w' v.ownBlock := by
 rcases A with _ | ad
 · have hm : m = 0 := by
    rcases Nat.eq_zero_or_pos m with h0 | h0
    · exact h0
    · obtain ⟨ad, h, _⟩ := hr (by omega)
      cases h
   subst hm
   have hn : news = [] := List.eq_nil_of_length_eq_zero hl
   subst hn
   exact ⟨v, w, run_app_nil w base t ty e i ht hi v n xs hown c, by simpa using hown, World.grownBy.refl w _⟩
 · have hcells : ∀ j u, news[j]? = some u → w.cell? (ad.add j) = some u := by
    intro j u hu
    rcases Nat.eq_zero_or_pos m with h0 | h0
    · obtain rfl : news = [] := List.eq_nil_of_length_eq_zero (by omega)
      simp at hu
    · obtain ⟨ad', h, _, hc⟩ := hr (by omega)
      injection h with h
      subst h
      exact hc j u hu
   obtain ⟨v', w', hrun, h2, h3, _⟩ := run_append_own_at (P := P) w base t ty e i z 1 bytes ht hi hz hsize hby hzs (by omega) v n xs hown ad m c news (by omega) hcells h1 (by unfold maxLen; omega) (by omega) hbase
   exact ⟨v', w', hrun, h2, h3⟩
theorem wp_appN {o : Oper} {a : Act} {K : Act → World → Prop} {Q : Exit → Act → World → Prop} (s x : Operand) (t : TypeId)
  (ho : o.op = .call { callee := .builtin .append, args := #[s, x], argTypes := #[t, t] })
  (base : Nat) (e : TypeId) (i : TypeInfo) (z : Value) (bytes : Nat) (ht : P.underlying t = some (.slice e)) (hi : P.info? e = some i) (hz : i.zero = some z)
  (hsize : i.size = 1) (hby : i.bytes = bytes) (hzs : z.cells.size = 1)
  (v : Value) (n : Nat) (xs : List Value) (hs : a.eval s = v) (hown : w.ownsRow base e 1 v n xs)
  (B : Nat) (A : Option Addr) (m c : Nat) (news : List Value) (hx : a.eval x = .slice A m c) (hl : news.length = m) (hr : Rd w B A news) (h1 : ∀ u ∈ news, u.oneCell' = true)
  (h63 : n + m ≤ 1000000000) (hbytes : (n + m) * bytes ≤ 1000000000000) (hbase : base ≤ w.heap.size)
  (h : ∀ v' w', w'.ownsRow base e 1 v' (n + m) (xs ++ news) → w.grownBy w' v.ownBlock → K (a.put o.dst v') w') : o.wp P a w K Q := by
 obtain ⟨v', w', hrun, h2, h3⟩ := run_appN (P := P) w base t o.type e i z bytes ht hi hz hsize hby hzs v n xs hown B A m c news hl hr h1 h63 hbytes hbase
 unfold Oper.wp execOp
 simp only [ho, resolve, invoke, builtin, Sem.run_bind, Sem.run_pure, Result.andThen_ok, List.map_toArray, List.map_cons, List.map_nil, hs, hx, hrun]
 exact h v' w' h2 h3
theorem wpList_appN {ops : Array Oper} {rest : List Oper} {o : Oper} {a : Act} {Q : Exit → Act → World → Prop} (hgd : o.guard = none) (s x : Operand) (t : TypeId)
  (ho : o.op = .call { callee := .builtin .append, args := #[s, x], argTypes := #[t, t] })
  (base : Nat) (e : TypeId) (i : TypeInfo) (z : Value) (bytes : Nat) (ht : P.underlying t = some (.slice e)) (hi : P.info? e = some i) (hz : i.zero = some z)
  (hsize : i.size = 1) (hby : i.bytes = bytes) (hzs : z.cells.size = 1)
  (v : Value) (n : Nat) (xs : List Value) (hs : a.eval s = v) (hown : w.ownsRow base e 1 v n xs)
  (B : Nat) (A : Option Addr) (m c : Nat) (news : List Value) (hx : a.eval x = .slice A m c) (hl : news.length = m) (hr : Rd w B A news) (h1 : ∀ u ∈ news, u.oneCell' = true)
  (h63 : n + m ≤ 1000000000) (hbytes : (n + m) * bytes ≤ 1000000000000) (hbase : base ≤ w.heap.size)
  (h : ∀ v' w', w'.ownsRow base e 1 v' (n + m) (xs ++ news) → w.grownBy w' v.ownBlock → wpList P ops Q rest (a.put o.dst v') w') : wpList P ops Q (o :: rest) a w :=
 wpList_plain hgd fun _ hK => wp_appN w s x t ho base e i z bytes ht hi hz hsize hby hzs v n xs hs hown B A m c news hx hl hr h1 h63 hbytes hbase fun v' w' h2 h3 => hK _ _ (h v' w' h2 h3)
end
theorem one_int {k : IntKind} {l : List Int} : ∀ u ∈ l.map (Value.int k), u.oneCell' = true := by
 intro u hu
 obtain ⟨x, _, rfl⟩ := List.mem_map.1 hu
 rfl
theorem bdrew {B : Nat} {a w : World} (h : Below B a w) : Below B a w.drew := ⟨h.os, h.tape, h.output, h.size, h.block⟩
theorem bdrewN {B : Nat} {a w : World} (h : Below B a w) (k : Nat) : Below B a (w.drewN k) := ⟨h.os, h.tape, h.output, h.size, h.block⟩
end
section
open Go.RowKit
section
variable {P : Program} (w : World)
theorem run_appk_nil (base : Nat) (t ty e : TypeId) (i : TypeInfo) (size : Nat) (ht : P.underlying t = some (.slice e)) (hi : P.info? e = some i)
  (v : Value) (n : Nat) (xs : List Value) (hown : w.ownsRow base e size v n xs) (c : Nat) : (Builtin.append_ #[t, t] ty #[v, .slice none 0 c]).run P w = .ok v w := by
 rcases hown.2 with ⟨rfl, rfl⟩ | ⟨g, cap, cur, rfl, _, _, hnc, _⟩
 · simp [Builtin.append_, run_underlying ht, sizeOf, typeInfo, hi, Builtin.lenOf, Builtin.firstCells]
 · simp [Builtin.append_, run_underlying ht, sizeOf, typeInfo, hi, Builtin.lenOf, Builtin.firstCells, hnc, storeCells]
end
end
section
section
variable {P : Program} {ops : Array Oper} {Q : Exit → Act → World → Prop} {md : Region.Mode} {S : World → Prop} {last : Nat}
def anyL (P : Program) (md : Region.Mode) (ops : Array Oper) (Q : Exit → Act → World → Prop) (S : World → Prop) (last : Nat) : Nat → Array Bool → Act → World → Prop
 | 0, l, a, w => Region.ready md ops l = [] ∧ Q .normal a w
 | n + 1, l, a, w => (Region.ready md ops l = [] → Q .normal a w) ∧
    ∀ i ∈ Region.ready md ops l, wpOp P ops Q i (fun a' w' => (i ≠ last → S w') ∧ anyL P md ops Q S last n (l.setIfInBounds i true) a' w') a w
theorem anyL_any : ∀ (n : Nat) (l : Array Bool) (a : Act) (w : World), anyL P md ops Q S last n l a w → wpAny P md ops Q n l a w
 | 0, _, _, _, h => h
 | n + 1, _, _, _, h => ⟨h.1, fun i hi => wpOp_mono (fun a' w' k => anyL_any n _ a' w' k.2) (h.2 i hi)⟩
def waits (md : Region.Mode) (ops : Array Oper) (last i : Nat) : Bool := match ops[last]? with
 | some o => o.after.any fun e => Region.binds md e && e.on == i
 | none => false
theorem waits_ready {i j : Nat} {l : Array Bool} (hw : waits md ops last i = true) (hi : i ∈ Region.ready md ops l) (hj : j ∈ Region.ready md ops l) : j ≠ last := by
 rintro rfl
 obtain ⟨_, o, ho, hall⟩ := mem_ready.1 hj
 unfold waits at hw
 rw [ho] at hw
 obtain ⟨k, hk, he⟩ := Array.any_eq_true.1 hw
 rw [Bool.and_eq_true, beq_iff_eq] at he
 have h1 := hall _ (Array.getElem_mem hk) he.1
 have h0 := (mem_ready.1 hi).1
 rw [he.2] at h1
 rcases Nat.lt_or_ge i l.size with g | g
 · simp [g] at h0 h1
   rw [h0] at h1; cases h1
 · simp [Array.getElem?_eq_none g] at h1
theorem anyL_first {i : Nat} {oi : Oper} {v : Value} (hi : ops[i]? = some oi) (hsel : ∀ (j : Nat) (o : Oper) cs b, ops[j]? = some o → o.op ≠ .select cs b)
  (hQ : ∀ c a w, Q (.panic c) (a.put oi.dst v) w → Q (.panic c) a w) (hw : waits md ops last i = true) :
  ∀ (n : Nat) (l : Array Bool) (a : Act) (w : World),
   (∀ j oj, ops[j]? = some oj → j ≠ i → l.getD j true = false → (∀ e ∈ oj.after, Region.binds md e = true → e.on ≠ i) → oi.apart ops oj = true) →
   i ∈ Region.ready md ops l → YieldsIf P ops S oi v a → S w →
   anyL P md ops Q S last n (l.setIfInBounds i true) (a.put oi.dst v) w → anyL P md ops Q S last (n + 1) l a w := by
 intro n
 induction n with
 | zero =>
   intro l a w _ hr hy hS H
   refine ⟨(fun h => by rw [h] at hr; cases hr), fun j hj => ?_⟩
   rcases Decidable.em (j = i) with e | e
   · subst e; exact hy.wpOp hi hS ⟨fun _ => hS, H⟩
   · have := ready_mono hj e
     rw [H.1] at this; cases this
 | succ n ih =>
   intro l a w hf hr hy hS H
   refine ⟨(fun h => by rw [h] at hr; cases hr), fun j hj => ?_⟩
   rcases Decidable.em (j = i) with e | e
   · subst e; exact hy.wpOp hi hS ⟨fun _ => hS, H⟩
   · obtain ⟨hu, oj, hoj, hall⟩ := mem_ready.1 hj
     have hno : ∀ x ∈ oj.after, Region.binds md x = true → x.on ≠ i := fun x hx hb he => by
      have h1 := hall x hx hb
      have h0 := (mem_ready.1 hr).1
      rw [he] at h1
      rcases Nat.lt_or_ge i l.size with g | g
      · simp [g] at h0 h1
        rw [h0] at h1; cases h1
      · simp [Array.getElem?_eq_none g] at h1
     have hl := waits_ready hw hr hj
     have h2 := wpOp_putIf hoj (hf j oj hoj e hu hno) (fun cs b => hsel i oi cs b hi) (fun cs b => hsel j oj cs b hoj) hQ hy (H.2 j (ready_mono hj e))
     refine wpOp_mono (fun a' w' k => ⟨fun _ => k.2.1 hl, ih _ a' w' (fun m om hm hmi hun hn => hf m om hm hmi ?_ hn) (ready_mono hr (Ne.symm e)) k.1 (k.2.1 hl) ?_⟩) h2
     · rcases Decidable.em (j = m) with g | g
       · subst g; exact hu
       · rw [getD_set_ne true g] at hun; exact hun
     · rw [Array.setIfInBounds_comm _ _ e]; exact k.2.2
theorem anyL_take {i : Nat} {oi : Oper} {v : Value} {n : Nat} {l : Array Bool} {a : Act} {w : World} (hi : ops[i]? = some oi)
  (hs : Region.noSelect ops = true) (hf : Region.free md ops l i = true) (hr : (Region.ready md ops l).contains i = true) (hw : waits md ops last i = true)
  (hQ : ∀ c a w, Q (.panic c) (a.put oi.dst v) w → Q (.panic c) a w) (hy : YieldsIf P ops S oi v a) (hS : S w)
  (h : anyL P md ops Q S last n (l.setIfInBounds i true) (a.put oi.dst v) w) : anyL P md ops Q S last (n + 1) l a w :=
 anyL_first hi (Region.noSelect_spec hs) hQ hw n l a w (Region.free_spec hi hf) (by simpa using hr) hy hS h
theorem anyL_one {i : Nat} {o : Oper} {n : Nat} {l : Array Bool} {a : Act} {w : World} (hr : Region.ready md ops l = [i]) (ho : ops[i]? = some o)
  (h : ∀ K : Act → World → Prop, Shut (∀ a w, (i ≠ last → S w) → anyL P md ops Q S last n (l.setIfInBounds i true) a w → K a w) → if Region.wanted o (yielded ops a.tmps) = true then Oper.wp P o a w K Q else K (a.put o.dst undef) w) : anyL P md ops Q S last (n + 1) l a w :=
 ⟨(fun h0 => by rw [hr] at h0; cases h0), fun j hj => by
  rw [hr] at hj
  obtain rfl : j = i := by simpa using hj
  exact wpOp_step ho fun K hK => h K fun a w h1 h2 => hK a w ⟨h1, h2⟩⟩
theorem anyL_done {l : Array Bool} {a : Act} {w : World} (hr : Region.ready md ops l = []) (h : Q .normal a w) : ∀ n, anyL P md ops Q S last n l a w
 | 0 => ⟨hr, h⟩
 | _ + 1 => ⟨fun _ => h, by rw [hr]; simp⟩
theorem anyL_start (S : World → Prop) (last : Nat) {id : Nat} {a : Act} {w : World} (hm : P.follows .mixedOrders = true) (hS : S w.drew)
  (h : S w.drew → anyL P .any ops Q S last ops.size (Array.replicate ops.size false) a w.drew) : (Code.region id ops true).wp P Q a w := wp_region_any hm (anyL_any _ _ _ _ (h hS))
end
end
section
section
variable {P : Program} {ops : Array Oper} {Q : Exit → Act → World → Prop} {md : Region.Mode} {S : World → Prop} {late : List Nat}
def anyM (P : Program) (md : Region.Mode) (ops : Array Oper) (Q : Exit → Act → World → Prop) (S : World → Prop) (late : List Nat) : Nat → Array Bool → Act → World → Prop
 | 0, l, a, w => Region.ready md ops l = [] ∧ Q .normal a w
 | n + 1, l, a, w => (Region.ready md ops l = [] → Q .normal a w) ∧
    ∀ i ∈ Region.ready md ops l, wpOp P ops Q i (fun a' w' => (i ∉ late → S w → S w') ∧ anyM P md ops Q S late n (l.setIfInBounds i true) a' w') a w
theorem anyM_any : ∀ (n : Nat) (l : Array Bool) (a : Act) (w : World), anyM P md ops Q S late n l a w → wpAny P md ops Q n l a w
 | 0, _, _, _, h => h
 | n + 1, _, _, _, h => ⟨h.1, fun i hi => wpOp_mono (fun a' w' k => anyM_any n _ a' w' k.2) (h.2 i hi)⟩
def waitsAll (md : Region.Mode) (ops : Array Oper) (late : List Nat) (i : Nat) : Bool := late.all fun j => waits md ops j i
theorem waitsAll_ready {i j : Nat} {l : Array Bool} {late : List Nat} (hw : waitsAll md ops late i = true) (hi : i ∈ Region.ready md ops l) (hj : j ∈ Region.ready md ops l) : j ∉ late := fun hm => by
 have h := List.all_eq_true.1 hw j hm
 exact waits_ready h hi hj rfl
theorem anyM_first {i : Nat} {oi : Oper} {v : Value} (hi : ops[i]? = some oi) (hsel : ∀ (j : Nat) (o : Oper) cs b, ops[j]? = some o → o.op ≠ .select cs b)
  (hQ : ∀ c a w, Q (.panic c) (a.put oi.dst v) w → Q (.panic c) a w) (hw : waitsAll md ops late i = true) :
  ∀ (n : Nat) (l : Array Bool) (a : Act) (w : World),
   (∀ j oj, ops[j]? = some oj → j ≠ i → l.getD j true = false → (∀ e ∈ oj.after, Region.binds md e = true → e.on ≠ i) → oi.apart ops oj = true) →
   i ∈ Region.ready md ops l → YieldsIf P ops S oi v a → S w →
   anyM P md ops Q S late n (l.setIfInBounds i true) (a.put oi.dst v) w → anyM P md ops Q S late (n + 1) l a w := by
 intro n
 induction n with
 | zero =>
   intro l a w _ hr hy hS H
   refine ⟨(fun h => by rw [h] at hr; cases hr), fun j hj => ?_⟩
   rcases Decidable.em (j = i) with e | e
   · subst e; exact hy.wpOp hi hS ⟨fun _ _ => hS, H⟩
   · have := ready_mono hj e
     rw [H.1] at this; cases this
 | succ n ih =>
   intro l a w hf hr hy hS H
   refine ⟨(fun h => by rw [h] at hr; cases hr), fun j hj => ?_⟩
   rcases Decidable.em (j = i) with e | e
   · subst e; exact hy.wpOp hi hS ⟨fun _ _ => hS, H⟩
   · obtain ⟨hu, oj, hoj, hall⟩ := mem_ready.1 hj
     have hno : ∀ x ∈ oj.after, Region.binds md x = true → x.on ≠ i := fun x hx hb he => by
      have h1 := hall x hx hb
      have h0 := (mem_ready.1 hr).1
      rw [he] at h1
      rcases Nat.lt_or_ge i l.size with g | g
      · simp [g] at h0 h1
        rw [h0] at h1; cases h1
      · simp [Array.getElem?_eq_none g] at h1
     have hl := waitsAll_ready hw hr hj
     have h2 := wpOp_putIf hoj (hf j oj hoj e hu hno) (fun cs b => hsel i oi cs b hi) (fun cs b => hsel j oj cs b hoj) hQ hy (H.2 j (ready_mono hj e))
     refine wpOp_mono (fun a' w' k => ⟨fun _ _ => k.2.1 hl hS, ih _ a' w' (fun m om hm hmi hun hn => hf m om hm hmi ?_ hn) (ready_mono hr (Ne.symm e)) k.1 (k.2.1 hl hS) ?_⟩) h2
     · rcases Decidable.em (j = m) with g | g
       · subst g; exact hu
       · rw [getD_set_ne true g] at hun; exact hun
     · rw [Array.setIfInBounds_comm _ _ e]; exact k.2.2
theorem anyM_free0 {i : Nat} {oi : Oper} {v : Value} (hi : ops[i]? = some oi) (hsel : ∀ (j : Nat) (o : Oper) cs b, ops[j]? = some o → o.op ≠ .select cs b)
  (hQ : ∀ c a w, Q (.panic c) (a.put oi.dst v) w → Q (.panic c) a w) :
  ∀ (n : Nat) (l : Array Bool) (a : Act) (w : World),
   (∀ j oj, ops[j]? = some oj → j ≠ i → l.getD j true = false → (∀ e ∈ oj.after, Region.binds md e = true → e.on ≠ i) → oi.apart ops oj = true) →
   i ∈ Region.ready md ops l → YieldsIf P ops (fun _ => True) oi v a →
   anyM P md ops Q S late n (l.setIfInBounds i true) (a.put oi.dst v) w → anyM P md ops Q S late (n + 1) l a w := by
 intro n
 induction n with
 | zero =>
   intro l a w _ hr hy H
   refine ⟨(fun h => by rw [h] at hr; cases hr), fun j hj => ?_⟩
   rcases Decidable.em (j = i) with e | e
   · subst e; exact hy.wpOp hi trivial ⟨fun _ h => h, H⟩
   · have := ready_mono hj e
     rw [H.1] at this; cases this
 | succ n ih =>
   intro l a w hf hr hy H
   refine ⟨(fun h => by rw [h] at hr; cases hr), fun j hj => ?_⟩
   rcases Decidable.em (j = i) with e | e
   · subst e; exact hy.wpOp hi trivial ⟨fun _ h => h, H⟩
   · obtain ⟨hu, oj, hoj, hall⟩ := mem_ready.1 hj
     have hno : ∀ x ∈ oj.after, Region.binds md x = true → x.on ≠ i := fun x hx hb he => by
      have h1 := hall x hx hb
      have h0 := (mem_ready.1 hr).1
      rw [he] at h1
      rcases Nat.lt_or_ge i l.size with g | g
      · simp [g] at h0 h1
        rw [h0] at h1; cases h1
      · simp [Array.getElem?_eq_none g] at h1
     have h2 := wpOp_putIf hoj (hf j oj hoj e hu hno) (fun cs b => hsel i oi cs b hi) (fun cs b => hsel j oj cs b hoj) hQ hy (H.2 j (ready_mono hj e))
     refine wpOp_mono (fun a' w' k => ⟨k.2.1, ih _ a' w' (fun m om hm hmi hun hn => hf m om hm hmi ?_ hn) (ready_mono hr (Ne.symm e)) k.1 ?_⟩) h2
     · rcases Decidable.em (j = m) with g | g
       · subst g; exact hu
       · rw [getD_set_ne true g] at hun; exact hun
     · rw [Array.setIfInBounds_comm _ _ e]; exact k.2.2
theorem anyM_free {i : Nat} {oi : Oper} {v : Value} {n : Nat} {l : Array Bool} {a : Act} {w : World} (hi : ops[i]? = some oi)
  (hs : Region.noSelect ops = true) (hf : Region.free md ops l i = true) (hr : (Region.ready md ops l).contains i = true)
  (hQ : ∀ c a w, Q (.panic c) (a.put oi.dst v) w → Q (.panic c) a w) (hy : YieldsIf P ops (fun _ => True) oi v a)
  (h : anyM P md ops Q S late n (l.setIfInBounds i true) (a.put oi.dst v) w) : anyM P md ops Q S late (n + 1) l a w :=
 anyM_free0 hi (Region.noSelect_spec hs) hQ n l a w (Region.free_spec hi hf) (by simpa using hr) hy h
theorem anyM_take {i : Nat} {oi : Oper} {v : Value} {n : Nat} {l : Array Bool} {a : Act} {w : World} (hi : ops[i]? = some oi)
  (hs : Region.noSelect ops = true) (hf : Region.free md ops l i = true) (hr : (Region.ready md ops l).contains i = true) (hw : waitsAll md ops late i = true)
  (hQ : ∀ c a w, Q (.panic c) (a.put oi.dst v) w → Q (.panic c) a w) (hy : YieldsIf P ops S oi v a) (hS : S w)
  (h : anyM P md ops Q S late n (l.setIfInBounds i true) (a.put oi.dst v) w) : anyM P md ops Q S late (n + 1) l a w :=
 anyM_first hi (Region.noSelect_spec hs) hQ hw n l a w (Region.free_spec hi hf) (by simpa using hr) hy hS h
theorem anyM_one {i : Nat} {o : Oper} {n : Nat} {l : Array Bool} {a : Act} {w : World} (hr : Region.ready md ops l = [i]) (ho : ops[i]? = some o)
  (h : ∀ K : Act → World → Prop, Shut (∀ a w', (i ∉ late → S w → S w') → anyM P md ops Q S late n (l.setIfInBounds i true) a w' → K a w') → if Region.wanted o (yielded ops a.tmps) = true then Oper.wp P o a w K Q else K (a.put o.dst undef) w) : anyM P md ops Q S late (n + 1) l a w :=
 ⟨(fun h0 => by rw [hr] at h0; cases h0), fun j hj => by
  rw [hr] at hj
  obtain rfl : j = i := by simpa using hj
  exact wpOp_step ho fun K hK => h K fun a w h1 h2 => hK a w ⟨h1, h2⟩⟩
theorem anyM_done {l : Array Bool} {a : Act} {w : World} (hr : Region.ready md ops l = []) (h : Q .normal a w) : ∀ n, anyM P md ops Q S late n l a w
 | 0 => ⟨hr, h⟩
 | _ + 1 => ⟨fun _ => h, by rw [hr]; simp⟩
theorem anyM_start (S : World → Prop) (late : List Nat) {id : Nat} {a : Act} {w : World} (hm : P.follows .mixedOrders = true) (hS : S w.drew)
  (h : S w.drew → anyM P .any ops Q S late ops.size (Array.replicate ops.size false) a w.drew) : (Code.region id ops true).wp P Q a w := wp_region_any hm (anyM_any _ _ _ _ (h hS))
end
end
end Go.Proofs.YthhndleddlmgiaaGreatDoor
namespace Go.Proofs.YthhndleddlmgiaaGreatDoor.Tp
set_option maxHeartbeats 8000000
set_option maxRecDepth 100000
set_option linter.unusedSimpArgs false
set_option linter.unusedVariables false
section
section
variable {P : Program} {md : Region.Mode} {ops : Array Oper} {Q : Exit → Act → World → Prop} {S : World → Prop} {late : List Nat} {last : Nat}
theorem kF (i : Nat) {oi : Oper} {v : Value} {n : Nat} {l l' : Array Bool} {a a' : Act} {w : World} (h : wpAnyH P md ops Q S n l' a' w) (hi : ops[i]? = some oi := by (simp only [List.getElem?_toArray, List.getElem?_cons_succ, List.getElem?_cons_zero]; rfl)) (hs : Region.noSelect ops = true := by kernel_rfl) (hf : Region.free md ops l i = true := by kernel_rfl) (hr : (Region.ready md ops l).contains i = true := by kernel_rfl) (hQ : ∀ c a w, Q (.panic c) (a.put oi.dst v) w → Q (.panic c) a w := by first | exact fun _ _ _ h => h | exact fun c a w h => hpan c a _ _ w h) (y : YieldsIf P ops S oi v a := by exact .inl ⟨by rfl, fun w' hSw => by (have k0 := Kq.out w' hSw); (go_simp <;> with_reducible rfl)⟩) (s : S w := by exact hHeld) (el : l.setIfInBounds i true = l' := by ((try simp only [List.setIfInBounds_toArray, List.set_cons_zero, List.set_cons_succ]); rfl)) (ea : a.put oi.dst v = a' := by ((try simp only [Act.put, List.setIfInBounds_toArray, List.set_cons_zero, List.set_cons_succ]); rfl)) : wpAnyH P md ops Q S (n + 1) l a w := by
 subst el ea; exact wpAnyH_take hi hs hf hr hQ y s h
theorem kD (i : Nat) {oi : Oper} {v : Value} {n : Nat} {l l' : Array Bool} {a a' : Act} {w : World} (h : wpAnyH P md ops Q S n l' a' w) (hi : ops[i]? = some oi := by (simp only [List.getElem?_toArray, List.getElem?_cons_succ, List.getElem?_cons_zero]; rfl)) (hs : Region.noSelect ops = true := by kernel_rfl) (hf : Region.free md ops l i = true := by kernel_rfl) (hr : (Region.ready md ops l).contains i = true := by kernel_rfl) (hQ : ∀ c a w, Q (.panic c) (a.put oi.dst v) w → Q (.panic c) a w := by first | exact fun _ _ _ h => h | exact fun c a w h => hpan c a _ _ w h) (y : YieldsIf P ops S oi v a := by exact .inl ⟨by rfl, fun w' hSw => by (obtain ⟨m, rfl⟩ := hSw); (go_simp <;> with_reducible rfl)⟩) (s : S w := by exact hHeld) (el : l.setIfInBounds i true = l' := by ((try simp only [List.setIfInBounds_toArray, List.set_cons_zero, List.set_cons_succ]); rfl)) (ea : a.put oi.dst v = a' := by ((try simp only [Act.put, List.setIfInBounds_toArray, List.set_cons_zero, List.set_cons_succ]); rfl)) : wpAnyH P md ops Q S (n + 1) l a w := by
 subst el ea; exact wpAnyH_take hi hs hf hr hQ y s h
theorem kS (i : Nat) {oi : Oper} {n : Nat} {l l' : Array Bool} {a a' : Act} {w : World} (h : wpAnyH P md ops Q S n l' a' w) (hi : ops[i]? = some oi := by (simp only [List.getElem?_toArray, List.getElem?_cons_succ, List.getElem?_cons_zero]; rfl)) (hs : Region.noSelect ops = true := by kernel_rfl) (hf : Region.free md ops l i = true := by kernel_rfl) (hr : (Region.ready md ops l).contains i = true := by kernel_rfl) (hQ : ∀ c a w, Q (.panic c) (a.put oi.dst undef) w → Q (.panic c) a w := by first | exact fun _ _ _ h => h | exact fun c a w h => hpan c a _ _ w h) (y : YieldsIf P ops S oi undef a := by exact .inr ⟨by rfl, rfl⟩) (s : S w := by exact hHeld) (el : l.setIfInBounds i true = l' := by ((try simp only [List.setIfInBounds_toArray, List.set_cons_zero, List.set_cons_succ]); rfl)) (ea : a.put oi.dst undef = a' := by ((try simp only [Act.put, List.setIfInBounds_toArray, List.set_cons_zero, List.set_cons_succ]); rfl)) : wpAnyH P md ops Q S (n + 1) l a w := by
 subst el ea; exact wpAnyH_take hi hs hf hr hQ y s h
theorem kL (i : Nat) {oi : Oper} {v : Value} {n : Nat} {l l' : Array Bool} {a a' : Act} {w : World} (h : anyL P md ops Q S last n l' a' w) (hi : ops[i]? = some oi := by (simp only [List.getElem?_toArray, List.getElem?_cons_succ, List.getElem?_cons_zero]; rfl)) (hs : Region.noSelect ops = true := by kernel_rfl) (hf : Region.free md ops l i = true := by kernel_rfl) (hr : (Region.ready md ops l).contains i = true := by kernel_rfl) (hw : waits md ops last i = true := by kernel_rfl) (hQ : ∀ c a w, Q (.panic c) (a.put oi.dst v) w → Q (.panic c) a w := by first | exact fun _ _ _ h => h | exact fun c a w h => hpan c a _ _ w h) (y : YieldsIf P ops S oi v a := by exact .inl ⟨by rfl, fun w' hSw => by (have k0 := Kq.out w' hSw); (go_simp <;> with_reducible rfl)⟩) (s : S w := by exact hHeld) (el : l.setIfInBounds i true = l' := by ((try simp only [List.setIfInBounds_toArray, List.set_cons_zero, List.set_cons_succ]); rfl)) (ea : a.put oi.dst v = a' := by ((try simp only [Act.put, List.setIfInBounds_toArray, List.set_cons_zero, List.set_cons_succ]); rfl)) : anyL P md ops Q S last (n + 1) l a w := by
 subst el ea; exact anyL_take hi hs hf hr hw hQ y s h
theorem kE (i : Nat) {oi : Oper} {v : Value} {n : Nat} {l l' : Array Bool} {a a' : Act} {w : World} (h : anyL P md ops Q S last n l' a' w) (hi : ops[i]? = some oi := by (simp only [List.getElem?_toArray, List.getElem?_cons_succ, List.getElem?_cons_zero]; rfl)) (hs : Region.noSelect ops = true := by kernel_rfl) (hf : Region.free md ops l i = true := by kernel_rfl) (hr : (Region.ready md ops l).contains i = true := by kernel_rfl) (hw : waits md ops last i = true := by kernel_rfl) (hQ : ∀ c a w, Q (.panic c) (a.put oi.dst v) w → Q (.panic c) a w := by first | exact fun _ _ _ h => h | exact fun c a w h => hpan c a _ _ w h) (y : YieldsIf P ops S oi v a := by exact .inl ⟨by rfl, fun w' hSw => by (obtain ⟨m, rfl⟩ := hSw); (go_simp <;> with_reducible rfl)⟩) (s : S w := by exact hHeld) (el : l.setIfInBounds i true = l' := by ((try simp only [List.setIfInBounds_toArray, List.set_cons_zero, List.set_cons_succ]); rfl)) (ea : a.put oi.dst v = a' := by ((try simp only [Act.put, List.setIfInBounds_toArray, List.set_cons_zero, List.set_cons_succ]); rfl)) : anyL P md ops Q S last (n + 1) l a w := by
 subst el ea; exact anyL_take hi hs hf hr hw hQ y s h
theorem kM (i : Nat) {oi : Oper} {v : Value} {n : Nat} {l l' : Array Bool} {a a' : Act} {w : World} (h : anyM P md ops Q S late n l' a' w) (hi : ops[i]? = some oi := by (simp only [List.getElem?_toArray, List.getElem?_cons_succ, List.getElem?_cons_zero]; rfl)) (hs : Region.noSelect ops = true := by kernel_rfl) (hf : Region.free md ops l i = true := by kernel_rfl) (hr : (Region.ready md ops l).contains i = true := by kernel_rfl) (hw : waitsAll md ops late i = true := by kernel_rfl) (hQ : ∀ c a w, Q (.panic c) (a.put oi.dst v) w → Q (.panic c) a w := by first | exact fun _ _ _ h => h | exact fun c a w h => hpan c a _ _ w h) (y : YieldsIf P ops S oi v a := by exact .inl ⟨by rfl, fun w' hSw => by (have k0 := Kq.out w' hSw); (go_simp <;> with_reducible rfl)⟩) (s : S w := by exact hHeld) (el : l.setIfInBounds i true = l' := by ((try simp only [List.setIfInBounds_toArray, List.set_cons_zero, List.set_cons_succ]); rfl)) (ea : a.put oi.dst v = a' := by ((try simp only [Act.put, List.setIfInBounds_toArray, List.set_cons_zero, List.set_cons_succ]); rfl)) : anyM P md ops Q S late (n + 1) l a w := by
 subst el ea; exact anyM_take hi hs hf hr hw hQ y s h
theorem kR (i : Nat) {oi : Oper} {v : Value} {n : Nat} {l l' : Array Bool} {a a' : Act} {w : World} (h : anyM P md ops Q S late n l' a' w) (hi : ops[i]? = some oi := by (simp only [List.getElem?_toArray, List.getElem?_cons_succ, List.getElem?_cons_zero]; rfl)) (hs : Region.noSelect ops = true := by kernel_rfl) (hf : Region.free md ops l i = true := by kernel_rfl) (hr : (Region.ready md ops l).contains i = true := by kernel_rfl) (hQ : ∀ c a w, Q (.panic c) (a.put oi.dst v) w → Q (.panic c) a w := by first | exact fun _ _ _ h => h | exact fun c a w h => hpan c a _ _ w h) (y : YieldsIf P ops (fun _ => True) oi v a := by exact .inl ⟨by rfl, fun w' _ => by (go_simp <;> with_reducible rfl)⟩) (el : l.setIfInBounds i true = l' := by ((try simp only [List.setIfInBounds_toArray, List.set_cons_zero, List.set_cons_succ]); rfl)) (ea : a.put oi.dst v = a' := by ((try simp only [Act.put, List.setIfInBounds_toArray, List.set_cons_zero, List.set_cons_succ]); rfl)) : anyM P md ops Q S late (n + 1) l a w := by
 subst el ea; exact anyM_free hi hs hf hr hQ y h
theorem rF (i : Nat) {o : Oper} {n : Nat} {l : Array Bool} {a : Act} {w : World} (h : ∀ K : Act → World → Prop, Shut (∀ a w, S w → (S w → wpAnyH P md ops Q S n (l.setIfInBounds i true) a w) → K a w) → if Region.wanted o (yielded ops a.tmps) = true then Oper.wp P o a w K Q else K (a.put o.dst undef) w) (hr : Region.ready md ops l = [i] := by kernel_rfl) (ho : ops[i]? = some o := by (simp only [List.getElem?_toArray, List.getElem?_cons_succ, List.getElem?_cons_zero]; rfl)) : wpAnyH P md ops Q S (n + 1) l a w :=
 wpAnyH_ready hr (by simp) (AllReadyH.cons ho h AllReadyH.nil)
theorem rL (i : Nat) {o : Oper} {n : Nat} {l : Array Bool} {a : Act} {w : World} (h : ∀ K : Act → World → Prop, Shut (∀ a w, (i ≠ last → S w) → anyL P md ops Q S last n (l.setIfInBounds i true) a w → K a w) → if Region.wanted o (yielded ops a.tmps) = true then Oper.wp P o a w K Q else K (a.put o.dst undef) w) (hr : Region.ready md ops l = [i] := by kernel_rfl) (ho : ops[i]? = some o := by (simp only [List.getElem?_toArray, List.getElem?_cons_succ, List.getElem?_cons_zero]; rfl)) : anyL P md ops Q S last (n + 1) l a w := anyL_one hr ho h
theorem rM (i : Nat) {o : Oper} {n : Nat} {l : Array Bool} {a : Act} {w : World} (h : ∀ K : Act → World → Prop, Shut (∀ a w', (i ∉ late → S w → S w') → anyM P md ops Q S late n (l.setIfInBounds i true) a w' → K a w') → if Region.wanted o (yielded ops a.tmps) = true then Oper.wp P o a w K Q else K (a.put o.dst undef) w) (hr : Region.ready md ops l = [i] := by kernel_rfl) (ho : ops[i]? = some o := by (simp only [List.getElem?_toArray, List.getElem?_cons_succ, List.getElem?_cons_zero]; rfl)) : anyM P md ops Q S late (n + 1) l a w := anyM_one hr ho h
end
end
end Go.Proofs.YthhndleddlmgiaaGreatDoor.Tp
namespace Go.Proofs.YthhndleddlmgiaaGreatDoor.Sp
set_option maxHeartbeats 8000000
set_option maxRecDepth 100000
set_option linter.unusedSimpArgs false
set_option linter.unusedVariables false
section
open Go.RowKit
theorem ret_bool {a b : Bool} (h : a = b) : Ending.returned (.bool a) = .returned (.bool b) := by rw [h]
theorem ret_int {k : IntKind} {a b : Int} (h : a = b) : Ending.returned (.int k a) = .returned (.int k b) := by rw [h]
def mayB (z s : Int) : Bool := decide (8 ≤ z ∧ z ≤ 64 ∧ 96 ≤ s ∧ s ≤ 192)
theorem mayB_yes {z s : Int} (h : mayB z s = true) : 8 ≤ z ∧ z ≤ 64 ∧ 96 ≤ s ∧ s ≤ 192 := by simpa [mayB] using h
theorem may_cases (z s : Int) : (z < 8 ∧ decide (8 ≤ z) = false) ∨ (8 ≤ z ∧ 64 < z ∧ decide (z ≤ 64) = false) ∨ (8 ≤ z ∧ z ≤ 64 ∧ s < 96 ∧ decide (96 ≤ s) = false) ∨ (8 ≤ z ∧ z ≤ 64 ∧ 96 ≤ s ∧ 192 < s ∧ decide (s ≤ 192) = false) ∨ (8 ≤ z ∧ z ≤ 64 ∧ 96 ≤ s ∧ s ≤ 192 ∧ decide (s ≤ 192) = true) := by
 simp only [decide_eq_false_iff_not, decide_eq_true_eq]; omega
theorem mul_bd (a b A B : Int) (h0 : 0 ≤ a) (h1 : a ≤ A) (h2 : 0 ≤ b) (h3 : b ≤ B) : 0 ≤ a * b ∧ a * b ≤ A * B :=
 ⟨Int.mul_nonneg h0 h2, Int.mul_le_mul h1 h3 h2 (by omega)⟩
theorem mul_lo (a b A B : Int) (hA : 0 ≤ A) (h1 : A ≤ a) (h2 : 0 ≤ B) (h3 : B ≤ b) : A * B ≤ a * b := Int.mul_le_mul h1 h3 h2 (by omega)
theorem bcell {W w1 : World} (hb : Below W.heap.size W w1) : (∀ b o, b < W.heap.size → w1.cell? ⟨b, o, none⟩ = W.cell? ⟨b, o, none⟩) ∧ (∀ b o, b < W.heap.size → w1.frozen? ⟨b, o, none⟩ = W.frozen? ⟨b, o, none⟩) :=
 ⟨fun b o h => hb.cell (p := ⟨b, o, none⟩) h, fun b o h => hb.frozen (p := ⟨b, o, none⟩) h⟩
theorem may_any (z s : Int) (w : World) :
  Calls Tryz.prog 140 #[.agg #[.int .i64 z, .int .i64 s]] w fun e w' => e = .returned (.bool (mayB z s)) ∧ Below w.heap.size w w' := by
 rcases may_cases z s with ⟨h1, h2⟩ | ⟨h1, h2, h3⟩ | ⟨h1, h2, h3, h4⟩ | ⟨h1, h2, h3, h4, h5⟩ | ⟨h1, h2, h3, h4, h5⟩
 all_goals
  go_enter Tryz.func140, Tryz.ntmps140
  go_wp2
  go_ret
  exact ⟨ret_bool (by unfold mayB; symm; simp only [decide_eq_true_eq, decide_eq_false_iff_not]; omega), (Below.refl _ _).alloc (Nat.le_refl _) _⟩
theorem down {B : Nat} {a b c : World} (h : Below B a b) (k : Below b.heap.size b c) (hB : B ≤ b.heap.size) : Below B a c := h.trans (k.mono hB)
theorem split_yes (z s : Int) (w : World) (h : mayB z s = true) :
  Calls Tryz.prog 75 #[.agg #[.int .i64 z, .int .i64 s]] w fun e w' => e = .returned (.tuple #[.agg #[.int .i64 0, .int .i64 (3 * z / 8), .int .i64 (2 * (3 * z / 8)), .int .i64 (z - 1)], .int .i64 0]) ∧ Below w.heap.size w w' := by
 obtain ⟨h1, h2, h3, h4⟩ := mayB_yes h
 go_enter Tryz.func75, Tryz.ntmps75
 go_wp2_with (go_at_call 140; refine (may_any _ _ _).mono ?_; rintro e w1 ⟨rfl, hb⟩; obtain ⟨hc, hf⟩ := bcell hb; have hz : w.heap.size < w1.heap.size := by (have := hb.size; simp only [World.size_alloc] at this; omega))
 have hb' : Below w.heap.size w w1 := down (by go_grown) hb (by go_size)
 refine bodyPost_ret (v := .tuple #[.agg #[.int .i64 0, .int .i64 (3 * z / 8), .int .i64 (2 * (3 * z / 8)), .int .i64 (z - 1)], .int .i64 0]) (by simp [results, Tryz.results75, go_sem, hc]) rfl ⟨rfl, ?_⟩
 go_grown
theorem cap_yes (z s : Int) (w : World) (h : mayB z s = true) :
  Calls Tryz.prog 85 #[.agg #[.int .i64 z, .int .i64 s]] w fun e w' => e = .returned (.int .i64 ((40 * (3 * z / 8 * s - 2) - 64) / 44)) ∧ Below w.heap.size w w' := by
 obtain ⟨h1, h2, h3, h4⟩ := mayB_yes h
 obtain ⟨hp1, hp2⟩ := mul_bd (3 * z / 8) s 24 192 (by omega) (by omega) (by omega) (by omega)
 have hq := mul_lo (3 * z / 8) s 3 96 (by omega) (by omega) (by omega) (by omega)
 go_enter Tryz.func85, Tryz.ntmps85
 go_wp2_with (go_at_call 75; refine (split_yes _ _ _ h).mono ?_; rintro e w1 ⟨rfl, hb⟩; obtain ⟨hc, hf⟩ := bcell hb; have hz : w.heap.size < w1.heap.size := by (have := hb.size; simp only [World.size_alloc] at this; omega))
 have hb' : Below w.heap.size w w1 := down (by go_grown) hb (by go_size)
 go_ret
 exact ⟨rfl, by go_grown⟩
end
end Go.Proofs.YthhndleddlmgiaaGreatDoor.Sp
namespace Go.Proofs.YthhndleddlmgiaaGreatDoor.Tp
set_option maxHeartbeats 8000000
set_option maxRecDepth 100000
set_option linter.unusedSimpArgs false
set_option linter.unusedVariables false
section
open Go.RowKit Go.Maps
def Dat (ob : Obj) : Prop := ∃ cs fr, ob = .cells cs 5 fr
abbrev Foot := Nat → Prop
structure Kf (F : Foot) (w w' : World) : Prop where
 os : w'.os = w.os
 tape : w'.tape = w.tape
 output : w'.output = w.output
 size : w.heap.size ≤ w'.heap.size
 keep : ∀ (b : Nat) (ob : Obj), w.heap[b]? = some ob → (¬ F b ∨ Dat ob) → w'.heap[b]? = some ob
def Sb (w : World) (F F' : Foot) : Prop := ∀ b, F' b → F b ∨ w.heap.size ≤ b
def Dis (F G : Foot) : Prop := ∀ b, F b → ¬ G b
def In (w : World) (F : Foot) : Prop := ∀ b, F b → b < w.heap.size
structure Ag (F : Foot) (w w' : World) : Prop where
 size : w.heap.size ≤ w'.heap.size
 keep : ∀ (b : Nat) (ob : Obj), w.heap[b]? = some ob → (F b ∨ Dat ob) → w'.heap[b]? = some ob
section
variable {F G H : Foot} {a w w' c : World}
theorem Kf.refl (F : Foot) (w : World) : Kf F w w := ⟨rfl, rfl, rfl, Nat.le_refl _, fun _ _ h _ => h⟩
theorem Kf.mono (h : Kf F w w') (hs : ∀ b, F b → G b) : Kf G w w' := ⟨h.os, h.tape, h.output, h.size, fun b ob hb hn => h.keep b ob hb (hn.imp (fun q r => q (hs b r)) id)⟩
theorem lt_of {b : Nat} {ob : Obj} (h : w.heap[b]? = some ob) : b < w.heap.size := (Array.getElem?_eq_some_iff.1 h).1
theorem Kf.trans (h : Kf F a w) (k : Kf G w c) (hs : Sb a F G) : Kf F a c :=
 ⟨k.os.trans h.os, k.tape.trans h.tape, k.output.trans h.output, Nat.le_trans h.size k.size, fun b ob hb hn => k.keep b ob (h.keep b ob hb hn) (hn.imp (fun q r => (hs b r).elim q (fun e => absurd (lt_of hb) (by omega))) id)⟩
theorem Kf.of_below (h : Below w.heap.size w w') : Kf F w w' := ⟨h.os, h.tape, h.output, h.size, fun b ob hb _ => (h.block b (lt_of hb)).trans hb⟩
theorem Kf.next (h : Kf F a w) (k : Below w.heap.size w c) : Kf F a c := h.trans (G := fun _ => False) (.of_below k) (fun _ q => q.elim)
theorem Kf.drewN (h : Kf F a w) (n : Nat) : Kf F a (w.drewN n) := ⟨h.os, h.tape, h.output, h.size, h.keep⟩
theorem Kf.drew (h : Kf F a w) : Kf F a w.drew := ⟨h.os, h.tape, h.output, h.size, h.keep⟩
theorem Kf.alloc (h : Kf F a w) (o : Obj) : Kf F a (w.alloc o) := h.next ((Below.refl _ _).alloc (Nat.le_refl _) _)
theorem Kf.below (h : Kf F w w') {B : Nat} (hF : ∀ b, F b → B ≤ b) (hB : B ≤ w.heap.size) : Below B w w' :=
 ⟨h.os, h.tape, h.output, h.size, fun b hb => by
  have hl : b < w.heap.size := by omega
  have e : w.heap[b]? = some w.heap[b] := Array.getElem?_eq_getElem hl
  rw [e]
  exact h.keep b _ e (.inl fun q => by have := hF b q; omega)⟩
theorem no_dat {g t : Nat} {cs : List Value} (hg : Bk w g t cs) (ht : t ≠ 5) (hk : ∀ ob, a.heap[g]? = some ob → Dat ob → w.heap[g]? = some ob) {ob : Obj} (ha : a.heap[g]? = some ob) : ¬ Dat ob := fun hd => by
 have h1 := hk ob ha hd
 obtain ⟨c, fr, rfl⟩ := hd
 rw [show w.heap[g]? = _ from hg] at h1
 injection h1 with h1
 injection h1 with _ h1 _
 exact ht h1
theorem Kf.set (h : Kf F a w) {g t : Nat} {cs : List Value} (hg : Bk w g t cs) (ht : t ≠ 5) (hF : F g ∨ a.heap.size ≤ g) (i : Nat) (u : Value) : Kf F a (w.setCell ⟨g, i, none⟩ u) := by
 refine ⟨h.os, h.tape, h.output, by rw [World.size_setCell]; exact h.size, fun b ob hb hn => ?_⟩
 have hk := h.keep b ob hb hn
 rw [Below.heap_setCell w _ u b (fun e => by
  have e : b = g := e
  subst e
  rcases hF with q | q
  · rcases hn with r | r
    · exact r q
    · exact no_dat hg ht (fun ob h1 h2 => h.keep _ ob h1 (.inr h2)) hb r
  · have := lt_of hb; omega)]
 exact hk
theorem Kf.grown (h : Kf F a w) {B e size n : Nat} {v : Value} {xs : List Value} (ho : w.ownsRow B e size v n xs) (hg : w.grownBy w' v.ownBlock) (hF : ∀ g, v.ownBlock = some g → (F g ∧ e ≠ 5) ∨ a.heap.size ≤ g) : Kf F a w' :=
 ⟨hg.os.trans h.os, hg.tape.trans h.tape, hg.output.trans h.output, Nat.le_trans h.size hg.size, fun b ob hb hn => by
  have hk := h.keep b ob hb hn
  rw [hg.block b (lt_of hk) (fun q => by
   rcases hF b q.symm with ⟨r, he⟩ | r
   · rcases hn with s | s
     · exact s r
     · rcases ho.2 with ⟨h0, _⟩ | ⟨g, cap, cur, hv, _, hh, _⟩
       · rw [h0] at q; cases q
       · rw [hv] at q
         have q : b = g := Option.some.inj q
         subst q
         obtain ⟨c, fr, rfl⟩ := s
         rw [hk] at hh
         injection hh with hh
         injection hh with _ hh _
         exact he hh.symm
   · have := lt_of hb; omega)]
  exact hk⟩
theorem Kf.ag (h : Kf G w w') (hd : Dis F G) : Ag F w w' := ⟨h.size, fun b ob hb hn => h.keep b ob hb (hn.imp (hd b) id)⟩
theorem Kf.agNew (h : Kf (fun _ => False) w w') : Ag F w w' := h.ag fun _ _ q => q
theorem Ag.of_below (h : Below w.heap.size w w') : Ag F w w' := (Kf.of_below (F := fun _ => False) h).agNew
theorem Ag.mono (h : Ag F w w') (hs : ∀ b, G b → F b) : Ag G w w' := ⟨h.size, fun b ob hb hn => h.keep b ob hb (hn.imp (hs b) id)⟩
theorem Ag.refl (F : Foot) (w : World) : Ag F w w := ⟨Nat.le_refl _, fun _ _ h _ => h⟩
theorem Ag.trans (h : Ag F a w) (k : Ag F w c) : Ag F a c := ⟨Nat.le_trans h.size k.size, fun b ob hb hn => k.keep b ob (h.keep b ob hb hn) hn⟩
theorem Dis.sub {F' : Foot} (h : Dis F G) (hs : Sb w F F') (hG : In w G) : Dis F' G := fun b q r => (hs b q).elim (fun e => h b e r) (fun e => by have := hG b r; omega)
theorem Dis.symm (h : Dis F G) : Dis G F := fun b q r => h b r q
theorem In.next (h : In w F) (hs : w.heap.size ≤ w'.heap.size) : In w' F := fun b q => Nat.lt_of_lt_of_le (h b q) hs
theorem Sb.refl (w : World) (F : Foot) : Sb w F F := fun _ h => .inl h
theorem Sb.trans {F' F2 : Foot} (h : Sb a F F') (k : Sb w F' F2) (hs : a.heap.size ≤ w.heap.size) : Sb a F F2 := fun b q => (k b q).elim (h b) (fun e => .inr (by omega))
theorem Bk.ag {g t : Nat} {cs : List Value} (h : Bk w g t cs) (k : Ag F w w') (hF : F g) : Bk w' g t cs := k.keep g _ h (.inl hF)
theorem own_ag {B e size n : Nat} {v : Value} {xs : List Value} (ho : w.ownsRow B e size v n xs) (k : Ag F w w') (hF : ∀ g, v.ownBlock = some g → F g) : w'.ownsRow B e size v n xs := by
 rcases ho.2 with h0 | ⟨g, cap, cur, hv, hg, hh, hr⟩
 · exact ⟨ho.1, .inl h0⟩
 · exact ⟨ho.1, .inr ⟨g, cap, cur, hv, hg, k.keep _ _ hh (.inl (hF g (by rw [hv]; rfl))), hr⟩⟩
theorem own_dat {B size n : Nat} {v : Value} {xs : List Value} (ho : w.ownsRow B 5 size v n xs) (k : Ag F w w') : w'.ownsRow B 5 size v n xs := by
 rcases ho.2 with h0 | ⟨g, cap, cur, hv, hg, hh, hr⟩
 · exact ⟨ho.1, .inl h0⟩
 · exact ⟨ho.1, .inr ⟨g, cap, cur, hv, hg, k.keep _ _ hh (.inr ⟨_, _, rfl⟩), hr⟩⟩
theorem map_ag {H : Type} {P : Program} {t b n : Nat} {R : Value → Option (DataW H × List MemPlace)} {D : DataW H} (h : w.ownsMap P t R b n D) (k : Ag F w w') (hF : F b) : w'.ownsMap P t R b n D := by
 obtain ⟨es, cl, hb, r⟩ := h
 exact ⟨es, cl, k.keep _ _ hb (.inl hF), r⟩
def Byt (w : World) (B : Nat) (v : Value) (bs : List Int) : Prop := w.ownsRow B 5 1 v bs.length (bs.map (Value.int .u8)) ∧ ∀ x ∈ bs, 0 ≤ x ∧ x < 256
theorem Byt.ag {B : Nat} {v : Value} {bs : List Int} (h : Byt w B v bs) (k : Ag F w w') : Byt w' B v bs := ⟨own_dat h.1 k, h.2⟩
end
theorem own_one {w : World} {B e size n : Nat} {v : Value} {xs : List Value} (h : w.ownsRow B e size v n xs) : v.oneCell' = true := by
 rcases h.2 with ⟨rfl, _⟩ | ⟨g, cap, cur, rfl, _⟩ <;> rfl
theorem own_shape {w : World} {B e size n : Nat} {v : Value} {xs : List Value} (h : w.ownsRow B e size v n xs) : ∃ A c, v = .slice A n c := by
 rcases h.2 with ⟨hv, h0⟩ | ⟨g, cap, cur, hv, _⟩
 · exact ⟨none, 0, by rw [h0]; exact hv⟩
 · exact ⟨_, _, hv⟩
theorem meas {n k : Nat} (h : k < n) : n - (intOf (.int .i64 ((k : Int) + 1))).toNat < n - (intOf (.int .i64 (k : Int))).toNat := by simp [intOf]; omega
theorem rd_of_own {w : World} {A : Option Addr} {base : Nat} {e : TypeId} {n c size : Nat} {xs : List Value} (h : w.ownsRow base e size (.slice A n c) n xs) : Rd w w.heap.size A xs := fun hn => by
 have hl := h.1
 obtain ⟨g, cap, hv, _, hlt⟩ := h.form (by rcases Nat.eq_zero_or_pos n with g | g; rw [g, Nat.zero_mul] at hl; omega; exact g)
 have hA : A = some ⟨g, 0, none⟩ := by injection hv
 subst hA
 exact ⟨_, rfl, hlt, h.cells (g := g) rfl⟩
theorem own_set {w : World} {B e size n : Nat} {v : Value} {xs : List Value} (h : w.ownsRow B e size v n xs) {p : Addr} (hp : p.block < B) (u : Value) : (w.setCell p u).ownsRow B e size v n xs := by
 rcases h.2 with h0 | ⟨g, cap, cur, hv, hg, hh, hr⟩
 · exact ⟨h.1, .inl h0⟩
 · exact ⟨h.1, .inr ⟨g, cap, cur, hv, hg, (Below.heap_setCell w p u g (by omega)).trans hh, hr⟩⟩
theorem own_bel' {w w' : World} {B e size n : Nat} {v : Value} {xs : List Value} (h : w.ownsRow B e size v n xs) (hb : Below w.heap.size w w') : w'.ownsRow B e size v n xs := by
 rcases h.2 with h0 | ⟨g, cap, cur, hv, hg, hh, hr⟩
 · exact ⟨h.1, .inl h0⟩
 · exact ⟨h.1, .inr ⟨g, cap, cur, hv, hg, (hb.block g (Array.getElem?_eq_some_iff.1 hh).1).trans hh, hr⟩⟩
theorem own_caps {w : World} {B e size n c : Nat} {A : Option Addr} {xs : List Value} (h : w.ownsRow B e size (.slice A n c) n xs) : n ≤ c ∧ c ≤ maxLen := by
 rcases h.2 with ⟨hv, h0⟩ | ⟨g, cap, cur, hv, _, _, hnc, hcm, _⟩
 · injection hv with _ e1 e2; subst e1 e2; exact ⟨Nat.le_refl _, by simp [maxLen]⟩
 · injection hv with _ _ e; subst e; exact ⟨hnc, hcm⟩
theorem own_slice {w : World} {B e n : Nat} {v : Value} {xs : List Value} (h : w.ownsRow B e 1 v n xs) (hn : 0 < n) : ∃ g c, v = .slice (some ⟨g, 0, none⟩) n c := by
 rcases h.2 with ⟨_, h0⟩ | ⟨g, cap, cur, hv, _⟩
 · omega
 · exact ⟨g, cap, hv⟩
theorem flat_len {α : Type} {f : α → List Value} {s : Nat} (hs : ∀ x, (f x).length = s) (l : List α) : (l.flatMap f).length = l.length * s := by
 induction l with
 | nil => simp
 | cons x l ih => rw [List.flatMap_cons, List.length_append, ih, hs, List.length_cons, Nat.succ_mul]; omega
theorem flat_get {α : Type} {f : α → List Value} {s : Nat} (hs : ∀ x, (f x).length = s) {l : List α} {k j : Nat} (hk : k < l.length) (hj : j < s) : (l.flatMap f)[k * s + j]? = (f l[k])[j]? := by
 induction l generalizing k with
 | nil => simp at hk
 | cons x l ih =>
   rw [List.flatMap_cons]
   cases k with
   | zero => rw [List.getElem?_append_left (by rw [hs]; omega)]; simp
   | succ k =>
     have e : (k + 1) * s + j = s + (k * s + j) := by rw [Nat.succ_mul]; omega
     rw [List.getElem?_append_right (by rw [hs, e]; omega), hs, e, Nat.add_sub_cancel_left, ih (by simpa using hk)]
     simp
theorem two_get {α : Type} {f : α → List Value} (hs : ∀ x, (f x).length = 2) {w : World} {B : Nat} {A : Option Addr} {l : List α} (h : Rd w B A (l.flatMap f)) {k : Nat} (hk : k < l.length) {u v : Value} (hf : f l[k] = [u, v]) :
  ∃ ad, A = some ad ∧ ad.block < B ∧ w.cell? (ad.add (k * 2)) = some u ∧ w.cell? ⟨(ad.add (k * 2)).block, (ad.add (k * 2)).off + 1, none⟩ = some v := by
 obtain ⟨ad, e, hb, hc⟩ := h (by rw [flat_len hs]; omega)
 have h0 := hc (k * 2) u (by have := flat_get hs hk (j := 0) (by omega); rw [Nat.add_zero] at this; rw [this, hf]; rfl)
 have h1 := hc (k * 2 + 1) v (by rw [flat_get hs hk (by omega), hf]; rfl)
 rw [← add_twice] at h1
 exact ⟨ad, e, hb, h0, h1⟩
theorem bk_ne {w : World} {g1 g2 t1 t2 : Nat} {c1 c2 : List Value} (h1 : Bk w g1 t1 c1) (h2 : Bk w g2 t2 c2) (ht : t1 ≠ t2) : g1 ≠ g2 := fun e => by
 subst e
 unfold Bk at h1 h2
 rw [h1] at h2
 injection h2 with h2
 injection h2 with _ h2 _
 exact ht h2
theorem own_ne_bk {w : World} {B e s n g t : Nat} {v : Value} {xs cs : List Value} (h : w.ownsRow B e s v n xs) (hb : Bk w g t cs) (ht : e ≠ t) : v.ownBlock ≠ some g := fun q => by
 obtain ⟨_, c, fr, hh⟩ : 0 ≤ g ∧ ∃ c fr, w.heap[g]? = some (.cells c e fr) := by
  rcases h.2 with ⟨h0, _⟩ | ⟨g', cap, cur, hv, _, hh, _⟩
  · rw [h0] at q; cases q
  · rw [hv] at q
    have q : g' = g := Option.some.inj q
    subst q
    exact ⟨Nat.zero_le _, _, _, hh⟩
 unfold Bk at hb
 rw [hb] at hh
 injection hh with hh
 injection hh with _ hh _
 exact ht hh.symm
theorem own_at {w : World} {B e s n g : Nat} {v : Value} {xs : List Value} (h : w.ownsRow B e s v n xs) (q : v.ownBlock = some g) : ∃ c fr, w.heap[g]? = some (.cells c e fr) := by
 rcases h.2 with ⟨h0, _⟩ | ⟨g', cap, cur, hv, _, hh, _⟩
 · rw [h0] at q; cases q
 · rw [hv] at q
   have q : g' = g := Option.some.inj q
   subst q
   exact ⟨_, _, hh⟩
theorem own_ne_own {w : World} {B1 B2 e1 e2 s1 s2 n1 n2 g : Nat} {v1 v2 : Value} {x1 x2 : List Value} (h1 : w.ownsRow B1 e1 s1 v1 n1 x1) (h2 : w.ownsRow B2 e2 s2 v2 n2 x2) (ht : e1 ≠ e2) (q : v1.ownBlock = some g) : v2.ownBlock ≠ some g := fun r => by
 obtain ⟨_, _, a⟩ := own_at h1 q
 obtain ⟨_, _, c⟩ := own_at h2 r
 rw [a] at c
 injection c with c
 injection c with _ c _
 exact ht c
def Kp2 (P : Nat → Prop) (w w' : World) : Prop := ∀ (b : Nat) (ob : Obj), w.heap[b]? = some ob → ¬ P b → w'.heap[b]? = some ob
theorem Kp2.bk {P : Nat → Prop} {w w' : World} (h : Kp2 P w w') {g t : Nat} {cs : List Value} (hb : Bk w g t cs) (hp : ¬ P g) : Bk w' g t cs := h _ _ hb hp
theorem Kp2.own {P : Nat → Prop} {w w' : World} (h : Kp2 P w w') {B e s n : Nat} {v : Value} {xs : List Value} (ho : w.ownsRow B e s v n xs) (hp : ∀ g, v.ownBlock = some g → ¬ P g) : w'.ownsRow B e s v n xs := by
 rcases ho.2 with h0 | ⟨g, cap, cur, hv, hg, hh, hr⟩
 · exact ⟨ho.1, .inl h0⟩
 · exact ⟨ho.1, .inr ⟨g, cap, cur, hv, hg, h _ _ hh (hp g (by rw [hv]; rfl)), hr⟩⟩
theorem Kp2.set (w : World) (g i : Nat) (u : Value) : Kp2 (fun b => b = g) w (w.setCell ⟨g, i, none⟩ u) := fun b ob hb hn => by
 rw [Below.heap_setCell _ _ _ _ hn]; exact hb
theorem Kp2.trans {P : Nat → Prop} {a b c : World} (h : Kp2 P a b) (k : Kp2 P b c) : Kp2 P a c := fun x ob hx hn => k x ob (h x ob hx hn) hn
theorem Kp2.of_below {P : Nat → Prop} {w w' : World} (h : Below w.heap.size w w') : Kp2 P w w' := fun b ob hb _ => (h.block b (lt_of hb)).trans hb
theorem Kp2.grown {w w' : World} {v : Value} (hg : w.grownBy w' v.ownBlock) : Kp2 (fun b => v.ownBlock = some b) w w' := fun b ob hb hn => by
 rw [hg.block b (lt_of hb) (fun e => hn e.symm)]; exact hb
theorem Kp2.mono {P Q : Nat → Prop} {w w' : World} (h : Kp2 P w w') (hs : ∀ b, P b → Q b) : Kp2 Q w w' := fun b ob hb hn => h b ob hb (fun q => hn (hs b q))
theorem own_at_ge {w : World} {B e s n g : Nat} {v : Value} {xs : List Value} (h : w.ownsRow B e s v n xs) (q : v.ownBlock = some g) : B ≤ g := by
 rcases h.2 with ⟨h0, _⟩ | ⟨g', cap, cur, hv, hb, hh, _⟩
 · rw [h0] at q; cases q
 · rw [hv] at q
   have q : g' = g := Option.some.inj q
   subst q
   exact hb
theorem if_wanted {ops : Array Oper} {o : Oper} {t : Array Value} {A E : Prop} (hgd : o.guard = none) (h : A) : if Region.wanted o (yielded ops t) = true then A else E := by
 have hw : Region.wanted o (yielded ops t) = true := by simp [Region.wanted, hgd]
 rw [if_pos hw]
 exact h
end
section
open Go.RowKit
theorem infoB : (Tryz.prog.info? 5).map (fun i => (i.zero, i.size, i.bytes)) = some (some (.int .u8 0), 1, 1) := by kernel_rfl
theorem zeros_one (z : Value) (k : Nat) : (Builtin.zeroCells #[z] k).toList = List.replicate k z := by
 refine List.ext_getElem (by simp [Builtin.zeroCells]) fun i h1 h2 => ?_
 simp [Builtin.zeroCells, Nat.mod_one]
section
variable {P : Program} (w : World)
theorem run_app_zeros (base : Nat) (t tn ty e : TypeId) (i : TypeInfo) (z : Value) (kn kq : IntKind) (ht : P.underlying t = some (.slice e)) (htn : P.underlying tn = some (.int kn)) (hi : P.info? e = some i) (hz : i.zero = some z)
  (hsize : i.size = 1) (hby : i.bytes = 1) (hzs : z.cells = #[z]) (hz1 : z.oneCell' = true)
  (v : Value) (n : Nat) (xs : List Value) (hown : w.ownsRow base e 1 v n xs) (k : Nat) (h63 : n + k ≤ 1000000) (hbase : base ≤ w.heap.size) :
  ∃ v' w', (Builtin.append_ #[t, tn] ty #[v, .int kq k]).run P w = .ok v' w' ∧ w'.ownsRow base e 1 v' (n + k) (xs ++ List.replicate k z) ∧ w.grownBy w' v.ownBlock := by
 have hw : IntKind.i64.wrap (k : Int) = k := by rw [IntKind.wrap_i64]; omega
 have hneg : ¬ ((k : Int) < 0) := by omega
 have hxl := hown.1
 have hmx : n + k ≤ maxLen := by simp only [maxLen]; omega
 have h48i : ¬ (281474976710656 < (k : Int) * ((1 : Nat) : Int)) := by omega
 have hlen : (xs ++ List.replicate k z).length = (n + k) * 1 := by rw [List.length_append, hxl, List.length_replicate]; omega
 have grown : ∀ (old : Nat), old < n + k → ∀ (row : Option Nat),
   (w.drew.alloc (.cells (xs.toArray ++ Builtin.zeroCells z.cells k ++ Builtin.zeroCells z.cells (grownCap w (n + k) old e - (n + k))) e)).ownsRow base e 1
    (.slice (some ⟨w.heap.size, 0, none⟩) (n + k) (grownCap w (n + k) old e)) (n + k) (xs ++ List.replicate k z) ∧
   w.grownBy (w.drew.alloc (.cells (xs.toArray ++ Builtin.zeroCells z.cells k ++ Builtin.zeroCells z.cells (grownCap w (n + k) old e - (n + k))) e)) row := by
  intro old ho row
  have hge := grownCap_ge w (n + k) old e
  have hcm : grownCap w (n + k) old e ≤ maxLen := grownCap_le_maxLen w (n + k) old e hmx
  refine ⟨⟨hlen, .inr ⟨w.heap.size, _, _, rfl, hbase, heap_alloc_new w.drew _, hge, hcm, ?_, ?_⟩⟩, ⟨rfl, rfl, rfl, by simp, fun j hj _ => Below.heap_alloc w.drew _ j hj⟩⟩
  · simp only [Array.size_append, List.size_toArray, size_zeroCells, hzs, hxl]
    simp
    omega
  · simp only [Array.toList_append, hzs, zeros_one]
    rw [← hlen]
    exact List.take_left
 rcases hown.2 with ⟨rfl, rfl⟩ | ⟨g, cap, cur, rfl, hbg, hg, hnc, hcm, hcs, htake⟩
 · have hx : xs = [] := List.eq_nil_of_length_eq_zero (by simpa using hown.1)
   subst hx
   by_cases hk : k = 0
   · subst hk
     refine ⟨.slice none 0 0, w, ?_, by simpa using hown, ⟨rfl, rfl, rfl, Nat.le_refl _, fun _ _ _ => rfl⟩⟩
     simp [Builtin.append_, run_underlying ht, run_underlying htn, sizeOf, typeInfo, hi, asInt, asIntOf, show IntKind.i64.wrap 0 = 0 from rfl]
   · have hr := Lib.run_append_nil_zeros (P := P) w t tn ty e i z kq kn ht htn hi hz k (by omega) (by omega) (by omega) (by rw [hby]; omega)
     have hgr := grown 0 (by omega) (Value.ownBlock (.slice none 0 0))
     simp only [Nat.zero_add, List.nil_append, Array.empty_append] at hgr ⊢
     exact ⟨_, _, hr, hgr.1, hgr.2⟩
 · by_cases hroom : n + k ≤ cap
   · have hst := run_storeCells_at P g (n * 1) e (Builtin.zeroCells z.cells k).toList 0 cur w hg (by rw [hzs, zeros_one, List.length_replicate, hcs]; omega) (fun u hu => by rw [hzs, zeros_one] at hu; rw [(List.mem_replicate.1 hu).2]; exact hz1)
     simp only [Nat.add_zero] at hst
     by_cases hk : k = 0
     · subst hk
       refine ⟨_, w, ?_, by simpa using hown, ⟨rfl, rfl, rfl, Nat.le_refl _, fun _ _ _ => rfl⟩⟩
       simp [Builtin.append_, run_underlying ht, run_underlying htn, sizeOf, typeInfo, hi, asInt, asIntOf, hnc, storeCells, show IntKind.i64.wrap 0 = 0 from rfl]
     · refine ⟨.slice (some ⟨g, 0, none⟩) (n + k) cap, w.setRow g (cur.toList.take (n * 1) ++ (Builtin.zeroCells z.cells k).toList ++ cur.toList.drop (n * 1 + (Builtin.zeroCells z.cells k).toList.length)).toArray, ?_, ⟨hlen, .inr ⟨g, cap, _, rfl, hbg, setRow_heap w g cur _ e _ hg, hroom, hcm, ?_, ?_⟩⟩, ⟨rfl, rfl, rfl, by simp, fun k _ hk => setRow_other w g k _ (fun e => hk (by simp [Value.ownBlock, e]))⟩⟩
       · have hns : ¬ (k * i.size = 0) := by rw [hsize]; omega
         rw [Nat.mul_one] at hst
         simp [Builtin.append_, run_underlying ht, run_underlying htn, sizeOf, typeInfo, zeroValue, hi, hz, asInt, asIntOf, hw, hneg, hk, hsize, hby, h48i, hroom, Addr.add_lit, hst]
         omega
       · rw [hzs, zeros_one]
         simp only [List.size_toArray, List.length_append, List.length_take, List.length_drop, Array.length_toList, List.length_replicate]
         omega
       · rw [htake, hzs, zeros_one, ← hlen]
         exact List.take_left
   · have holds : ∀ j u, xs[j]? = some u → w.cell? ((⟨g, 0, none⟩ : Addr).add j) = some u := hown.cells (g := g) rfl
     have hold := run_firstCells_some (P := P) w.drew i.size n ⟨g, 0, none⟩ n cap xs (by rw [hsize]; exact hxl) holds
     have hr := Lib.run_append_grow_zeros (P := P) w t tn ty e i z kq kn ht htn hi hz (some ⟨g, 0, none⟩) n cap xs hold k (by omega) (by omega) (by omega) (by omega) (by rw [hby]; omega) (growslice_fits (by omega) (by rw [hby]; omega))
     have hgr := grown cap (by omega) (Value.ownBlock (.slice (some ⟨g, 0, none⟩) n cap))
     exact ⟨_, _, hr, hgr.1, hgr.2⟩
theorem run_appM (base : Nat) (t ty e : TypeId) (i : TypeInfo) (z : Value) (size bytes : Nat) (ht : P.underlying t = some (.slice e)) (hi : P.info? e = some i) (hz : i.zero = some z)
  (hsize : i.size = size) (hby : i.bytes = bytes) (hzs : z.cells.size = size) (hs0 : 0 < size)
  (v : Value) (n : Nat) (xs : List Value) (hown : w.ownsRow base e size v n xs)
  (B : Nat) (A : Option Addr) (m c : Nat) (news : List Value) (hl : news.length = m * size) (hr : Rd w B A news) (h1 : ∀ u ∈ news, u.oneCell' = true)
  (h63 : n + m ≤ 1000000000) (hbytes : (n + m) * bytes ≤ 1000000000000) (hbase : base ≤ w.heap.size) :
  ∃ v' w', (Builtin.append_ #[t, t] ty #[v, .slice A m c]).run P w = .ok v' w' ∧ w'.ownsRow base e size v' (n + m) (xs ++ news) ∧ w.grownBy w' v.ownBlock ∧ (v'.ownBlock = v.ownBlock ∨ v'.ownBlock = some w.heap.size) := by
 rcases A with _ | ad
 · have hm : m = 0 := by
    rcases Nat.eq_zero_or_pos m with h0 | h0
    · exact h0
    · obtain ⟨ad, h, _⟩ := hr (by rw [hl]; exact Nat.mul_pos h0 hs0)
      cases h
   subst hm
   have hn : news = [] := List.eq_nil_of_length_eq_zero (by simpa using hl)
   subst hn
   exact ⟨v, w, run_appk_nil w base t ty e i size ht hi v n xs hown c, by simpa using hown, World.grownBy.refl w _, .inl rfl⟩
 · have hcells : ∀ j u, news[j]? = some u → w.cell? (ad.add j) = some u := by
    intro j u hu
    rcases Nat.eq_zero_or_pos m with h0 | h0
    · subst h0
      obtain rfl : news = [] := List.eq_nil_of_length_eq_zero (by simpa using hl)
      simp at hu
    · obtain ⟨ad', h, _, hc⟩ := hr (by rw [hl]; exact Nat.mul_pos h0 hs0)
      injection h with h
      subst h
      exact hc j u hu
   obtain ⟨v', w', hrun, h2, h3, _, h5⟩ := run_append_own_at (P := P) w base t ty e i z size bytes ht hi hz hsize hby hzs hs0 v n xs hown ad m c news hl hcells h1 (by unfold maxLen; omega) (by omega) hbase
   exact ⟨v', w', hrun, h2, h3, h5⟩
theorem wp_appM {o : Oper} {a : Act} {K : Act → World → Prop} {Q : Exit → Act → World → Prop} (s x : Operand) (t : TypeId)
  (ho : o.op = .call { callee := .builtin .append, args := #[s, x], argTypes := #[t, t] })
  (base : Nat) (e : TypeId) (i : TypeInfo) (z : Value) (size bytes : Nat) (ht : P.underlying t = some (.slice e)) (hi : P.info? e = some i) (hz : i.zero = some z)
  (hsize : i.size = size) (hby : i.bytes = bytes) (hzs : z.cells.size = size) (hs0 : 0 < size)
  (v : Value) (n : Nat) (xs : List Value) (hs : a.eval s = v) (hown : w.ownsRow base e size v n xs)
  (B : Nat) (A : Option Addr) (m c : Nat) (news : List Value) (hx : a.eval x = .slice A m c) (hl : news.length = m * size) (hr : Rd w B A news) (h1 : ∀ u ∈ news, u.oneCell' = true)
  (h63 : n + m ≤ 1000000000) (hbytes : (n + m) * bytes ≤ 1000000000000) (hbase : base ≤ w.heap.size)
  (h : ∀ v' w', w'.ownsRow base e size v' (n + m) (xs ++ news) → w.grownBy w' v.ownBlock → (v'.ownBlock = v.ownBlock ∨ v'.ownBlock = some w.heap.size) → K (a.put o.dst v') w') : o.wp P a w K Q := by
 obtain ⟨v', w', hrun, h2, h3, h4⟩ := run_appM (P := P) w base t o.type e i z size bytes ht hi hz hsize hby hzs hs0 v n xs hown B A m c news hl hr h1 h63 hbytes hbase
 unfold Oper.wp execOp
 simp only [ho, resolve, invoke, builtin, Sem.run_bind, Sem.run_pure, Result.andThen_ok, List.map_toArray, List.map_cons, List.map_nil, hs, hx, hrun]
 exact h v' w' h2 h3 h4
theorem wpList_appM {ops : Array Oper} {rest : List Oper} {o : Oper} {a : Act} {Q : Exit → Act → World → Prop} (hgd : o.guard = none) (s x : Operand) (t : TypeId)
  (ho : o.op = .call { callee := .builtin .append, args := #[s, x], argTypes := #[t, t] })
  (base : Nat) (e : TypeId) (i : TypeInfo) (z : Value) (size bytes : Nat) (ht : P.underlying t = some (.slice e)) (hi : P.info? e = some i) (hz : i.zero = some z)
  (hsize : i.size = size) (hby : i.bytes = bytes) (hzs : z.cells.size = size) (hs0 : 0 < size)
  (v : Value) (n : Nat) (xs : List Value) (hs : a.eval s = v) (hown : w.ownsRow base e size v n xs)
  (B : Nat) (A : Option Addr) (m c : Nat) (news : List Value) (hx : a.eval x = .slice A m c) (hl : news.length = m * size) (hr : Rd w B A news) (h1 : ∀ u ∈ news, u.oneCell' = true)
  (h63 : n + m ≤ 1000000000) (hbytes : (n + m) * bytes ≤ 1000000000000) (hbase : base ≤ w.heap.size)
  (h : ∀ v' w', w'.ownsRow base e size v' (n + m) (xs ++ news) → w.grownBy w' v.ownBlock → (v'.ownBlock = v.ownBlock ∨ v'.ownBlock = some w.heap.size) → wpList P ops Q rest (a.put o.dst v') w') : wpList P ops Q (o :: rest) a w :=
 wpList_plain hgd fun _ hK => wp_appM w s x t ho base e i z size bytes ht hi hz hsize hby hzs hs0 v n xs hs hown B A m c news hx hl hr h1 h63 hbytes hbase fun v' w' h2 h3 h4 => hK _ _ (h v' w' h2 h3 h4)
theorem wpList_app_zeros {ops : Array Oper} {rest : List Oper} {o : Oper} {a : Act} {Q : Exit → Act → World → Prop} (hgd : o.guard = none) (s x : Operand) (t tn : TypeId)
  (ho : o.op = .call { callee := .builtin .append, args := #[s, x], argTypes := #[t, tn] })
  (base : Nat) (e : TypeId) (i : TypeInfo) (z : Value) (kn kq : IntKind) (ht : P.underlying t = some (.slice e)) (htn : P.underlying tn = some (.int kn)) (hi : P.info? e = some i) (hz : i.zero = some z)
  (hsize : i.size = 1) (hby : i.bytes = 1) (hzs : z.cells = #[z]) (hz1 : z.oneCell' = true)
  (v : Value) (n : Nat) (xs : List Value) (hs : a.eval s = v) (hown : w.ownsRow base e 1 v n xs) (k : Nat) (hx : a.eval x = .int kq k) (h63 : n + k ≤ 1000000) (hbase : base ≤ w.heap.size)
  (h : ∀ v' w', w'.ownsRow base e 1 v' (n + k) (xs ++ List.replicate k z) → w.grownBy w' v.ownBlock → wpList P ops Q rest (a.put o.dst v') w') : wpList P ops Q (o :: rest) a w := by
 obtain ⟨v', w', hr, h2, h3⟩ := run_app_zeros (P := P) w base t tn o.type e i z kn kq ht htn hi hz hsize hby hzs hz1 v n xs hown k h63 hbase
 exact Lib.wpList_append_run w hgd s x t tn ho _ _ hs hx v' w' hr (h v' w' h2 h3)
end
theorem clone_any (A : Option Addr) (n c B : Nat) (bs : List Value) (w : World) (hl : bs.length = n) (h : Rd w w.heap.size A bs) (h1 : ∀ u ∈ bs, u.oneCell' = true) (hn : n ≤ 1000000) (hB : B ≤ w.heap.size) :
  Calls Tryz.prog 52 #[.slice A n c] w fun e w' => (∃ v, e = .returned v ∧ w'.ownsRow B 5 1 v n bs) ∧ Below w.heap.size w w' := by
 obtain ⟨i0, hi, hz0, hz1, hz2⟩ := info_parts infoB
 have HN := Lib.hid hn
 have q : ∀ (w : World) (a : Option Addr) (n c n' c' : Nat), (binOp .eql 47 (.slice a n c) (.slice none n' c')).run Tryz.prog w = .ok (.bool a.isNone) w := fun w a n c n' c' => Lib.run_eql_slice_nil w _ _ a n c n' c' Tryz.underlying47
 clear hn
 rcases A with _ | ad
 · have h0 : bs = [] := by
    rcases Nat.eq_zero_or_pos bs.length with g | g
    · exact List.eq_nil_of_length_eq_zero g
    · obtain ⟨ad, e, _⟩ := h g
      cases e
   subst h0
   simp at hl
   subst hl
   go_enter Tryz.func52, Tryz.ntmps52
   go_wp2_with fail
   go_ret
   exact ⟨⟨_, rfl, rfl, .inl ⟨rfl, rfl⟩⟩, Below.refl _ _⟩
 · go_enter Tryz.func52, Tryz.ntmps52
   go_wp2_with (at_builtin; go_must (refine wpList_appN _ rfl _ _ 47 rfl B 5 i0 (.int .u8 0) 1 Tryz.underlying47 hi hz0 hz1 hz2 rfl _ 0 [] (by rfl) (by exact World.ownsRow_lit w #[] 0 hB (by decide) rfl) w.heap.size (some ad) n c bs (by rfl) hl (by exact h.alloc (Nat.le_refl _) _) h1 (by have := HN.out; omega) (by have := HN.out; omega) (by simp; omega) ?_); intro v1 w1 hO1 hG1)
   have HB : Below w.heap.size w w1 := ((Below.refl _ _).alloc (Nat.le_refl _) _).grown hG1 (by simp) (fun g hg => Nat.le_of_eq (Option.some.inj (show some w.heap.size = some g from hg)))
   go_ret
   exact ⟨⟨v1, rfl, by simpa using hO1⟩, HB⟩
structure IsB (w : World) (A : Option Addr) (n c : Nat) (bs : List Int) : Prop where
 len : bs.length = n
 rd : Rd w w.heap.size A (bs.map (Value.int .u8))
 wf : ∀ x ∈ bs, 0 ≤ x ∧ x < 256
 cap : n ≤ c
 big : c ≤ maxLen
theorem IsB.next {w w' : World} {A : Option Addr} {n c : Nat} {bs : List Int} (h : IsB w A n c bs) (hb : Below w.heap.size w w') : IsB w' A n c bs := ⟨h.len, (h.rd.next (Nat.le_refl _) hb).more hb.size, h.wf, h.cap, h.big⟩
theorem Byt.isB {w : World} {B : Nat} {v : Value} {bs : List Int} (h : Byt w B v bs) : ∃ A c, v = .slice A bs.length c ∧ IsB w A bs.length c bs := by
 obtain ⟨A, c, rfl⟩ := own_shape h.1
 exact ⟨A, c, rfl, rfl, rd_of_own h.1, h.2, (own_caps h.1).1, (own_caps h.1).2⟩
theorem u8_wrap (x : Int) : 0 ≤ IntKind.u8.wrap x ∧ IntKind.u8.wrap x < 256 := by
 rw [IntKind.wrap_u8]
 omega
theorem run_makeB (W : World) (n : Nat) (hn : n ≤ 1000) : (Instr.makeSlice 47 (.int .i64 n) (.int .i64 n)).run Tryz.prog W = .ok (.slice (some ⟨W.heap.size, 0, none⟩) n n) (W.alloc (.cells (List.replicate n (Value.int .u8 0)).toArray 5)) := by
 obtain ⟨i0, hi, hz0, hz1, hz2⟩ := info_parts infoB
 have h := run_make (P := Tryz.prog) W 47 5 i0 (.int .u8 0) Tryz.underlying47 hi hz0 .i64 .i64 n n (by omega) (by omega) (by rw [hz2]; omega) (by omega)
 have e : madeCells (Value.int .u8 0).cells (n * 1) = (List.replicate n (Value.int .u8 0)).toArray := by
  apply Array.ext'
  refine List.ext_getElem (by simp [madeCells]) fun i h1 h2 => ?_
  simp [madeCells, Value.cells, Nat.mod_one]
 rw [hz1, Int.toNat_natCast, e] at h
 exact h
theorem byt_bk {w : World} {B g n : Nat} {bs : List Int} (hl : bs.length = n) (hn : n ≤ 1000) (h : Bk w g 5 (bs.map (Value.int .u8))) (hB : B ≤ g) (hw : ∀ x ∈ bs, 0 ≤ x ∧ x < 256) : Byt w B (.slice (some ⟨g, 0, none⟩) n n) bs := by
 subst hl
 exact ⟨⟨by simp, .inr ⟨g, bs.length, _, rfl, hB, h, Nat.le_refl _, by simp only [maxLen]; omega, by simp, List.take_of_length_le (by simp)⟩⟩, hw⟩
theorem set_u8 {bs : List Int} {k : Nat} (x : Int) : (bs.map (Value.int .u8)).set k (.int .u8 x) = (bs.set k x).map (Value.int .u8) := by rw [List.map_set]
theorem set_wf {bs : List Int} (h : ∀ x ∈ bs, 0 ≤ x ∧ x < 256) {k : Nat} {y : Int} (hy : 0 ≤ y ∧ y < 256) : ∀ x ∈ bs.set k y, 0 ≤ x ∧ x < 256 := fun x hx => by
 rcases List.mem_or_eq_of_mem_set hx with q | rfl
 · exact h x q
 · exact hy
theorem put_any (v : Int) (n : Nat) (w : World) (hn : n ≤ 8) :
  Calls Tryz.prog 163 #[.int .u64 v, .int .i64 (n : Int)] w fun e w' => (∃ u bs, e = .returned u ∧ Byt w' w.heap.size u bs ∧ bs.length = n) ∧ Below w.heap.size w w' := by
 have hmk := run_makeB w n (by omega)
 have hn8 : n ≤ 1000 := by omega
 have hb1 : Below w.heap.size w (w.alloc (.cells (List.replicate n (Value.int .u8 0)).toArray 5)) := (Below.refl _ _).alloc (Nat.le_refl _) _
 have hk1 : Bk (w.alloc (.cells (List.replicate n (Value.int .u8 0)).toArray 5)) w.heap.size 5 ((List.replicate n (0 : Int)).map (Value.int .u8)) := by rw [List.map_replicate]; exact Bk.new w _ _
 obtain ⟨w1, hw1⟩ : ∃ w1, w.alloc (.cells (List.replicate n (Value.int .u8 0)).toArray 5) = w1 := ⟨_, rfl⟩
 rw [hw1] at hmk hb1 hk1
 have H1 := Lib.hid (And.intro hb1 hk1)
 clear hb1 hk1 hw1
 go_enter Tryz.func163, Tryz.ntmps163
 go_wp2_with fail
 go_loopw [11] (fun i wr => ∃ (k : Nat) (bs : List Int), k ≤ n ∧ i = .int .i64 (k : Int) ∧ Below w.heap.size w wr ∧ bs.length = n ∧ Bk wr w.heap.size 5 (bs.map (Value.int .u8)) ∧ (∀ x ∈ bs, 0 ≤ x ∧ x < 256)) (fun i _ => n - (intOf i).toNat)
 case atStart => exact ⟨0, _, Nat.zero_le _, rfl, H1.out.1, List.length_replicate, H1.out.2, fun x hx => by rw [(List.mem_replicate.1 hx).2]; omega⟩
 case round =>
  obtain ⟨k, bs, hk, rfl, hW, hl, hB, hwf⟩ := hrel
  by_cases hlt : k < n
  · have n0 : (k : Int) < (n : Int) := by omega
    have n1 : (0 : Int) ≤ (k : Int) := by omega
    have c0 := hB.cell (i := k) (by rw [List.length_map]; omega)
    obtain ⟨old, hold⟩ : ∃ u, (bs.map (Value.int .u8))[k]'(by rw [List.length_map]; omega) = u := ⟨_, rfl⟩
    rw [hold] at c0
    have f0 := hB.free k
    have HB := Lib.hid (And.intro hW (And.intro hl (And.intro hB hwf)))
    have wk : wrap64 (8 * (k : Int)) = 8 * (k : Int) := by unfold wrap64; omega
    have n3 : ¬ (8 * (k : Int) < 0) := by omega
    clear hold hW hl hB hwf
    go_wp2_with fail
    go_roundw
    case rel =>
     refine ⟨k + 1, bs.set k ?yv, hlt, by go_num, HB.out.1.setCell (p := ⟨w.heap.size, k, none⟩) (Nat.le_refl _) _, ?la, ?lb, ?lc⟩
     case lb => rw [← set_u8]; exact HB.out.2.2.1.set k _
     case la => rw [List.length_set]; exact HB.out.2.1
     case lc => exact set_wf HB.out.2.2.2 (by first | exact u8_wrap _ | omega)
    case measure => exact meas hlt
  · obtain rfl : k = n := by omega
    have n0 : ¬ ((k : Int) < (k : Int)) := by omega
    have HB := Lib.hid (And.intro hW (And.intro hl (And.intro hB hwf)))
    clear hW hl hB hwf
    go_wp2_with fail
    go_ret
    exact ⟨⟨_, rfl, bs, byt_bk HB.out.2.1 hn8 HB.out.2.2.1 (Nat.le_refl _) HB.out.2.2.2, HB.out.2.1⟩, HB.out.1⟩
end
end Go.Proofs.YthhndleddlmgiaaGreatDoor.Tp
