/- Contracts of the program's functions, and laws on memory: a part of the proof of TopRoom. -/
import Derived.Test.YthhndleddlmgiaaGreatDoorZP
import Derived.Test.YthhndleddlmgiaaGreatDoorProg
import Derived.LoopTactic
import Derived.LoopN
import Derived.Lib.Hide
import Derived.Deep.DeepMust
import Derived.Laws.MakeOwn
import Derived.Laws.Entries
import Derived.WalkSpells
import Derived.WalkMore
import Derived.IntWalk
import Derived.Deep.QuietTactic
import Derived.BigQuiet
import Derived.Shelf.Abstract
namespace Go.Proofs.YthhndleddlmgiaaGreatDoor.Tp
set_option maxHeartbeats 8000000
set_option maxRecDepth 100000
set_option linter.unusedSimpArgs false
set_option linter.unusedVariables false
section
open Go.RowKit Go.Maps
section
open Go.ChangeShapes Go.WideShapes Go.Deep
variable {H : Type} {enc : TypeId × Value → H} {w : World} {base : Nat} {spare : Nat → Bool} {held : Bool}
theorem flat_one (f : Int → Value) (l : List Int) : l.flatMap (fun z => [f z]) = l.map f := by
 induction l with
 | nil => rfl
 | cons a r ih => simp [ih]
theorem wf_u8 {z : Int} (h : (Lit.int .u8 z).wf = true) : 0 ≤ z ∧ z < 256 := by
 have e1 : IntKind.u8.min = 0 := rfl
 have e2 : IntKind.u8.max = 255 := rfl
 simp [Lit.wf, e1, e2] at h
 omega
theorem ya_cs {fuel : Nat} {cs : List Value} {x : DataW H × List MemPlace} (h : DataW.trod enc Tryz.prog w base spare held fuel 47 cs = some x) :
  ∃ A n c bs, cs = [.slice A n c] ∧ IsYa w (fun b => b < w.heap.size) A n c bs := by
 obtain ⟨A, n, c, l, e, hl, hr, hp, h1, h2, h3⟩ := slice_cs (fun z : Int => [Value.int .u8 z]) (by decide) (fun _ => rfl) Tryz.underlying47 (by kernel_rfl) (fun z => 0 ≤ z ∧ z < 256) (fun fuel cs x htr hcl => by
  obtain ⟨z0, e0, _, w0⟩ := DataW.trod_int Tryz.underlying5 htr
  exact ⟨z0, e0.symm, wf_u8 w0⟩) h
 rw [flat_one] at hr
 exact ⟨A, n, c, l, e, ⟨hl, hr, hp, h1, h2⟩, fun ad q hn => ⟨_, Array.getElem?_eq_getElem (h3 ad q hn), .inl (h3 ad q hn)⟩⟩
theorem ints_le {fuel : Nat} {cs : List Value} {x : DataW H × List MemPlace} (h : DataW.trod enc Tryz.prog w base spare held fuel 29 cs = some x) :
  ∃ A n c, cs = [.slice A n c] ∧ n ≤ maxLen := by
 obtain ⟨A, n, c, l, e, hl, hr, hp, h1, h2, h3⟩ := slice_cs (fun z : Int => [Value.int .i64 z]) (by decide) (fun _ => rfl) Tryz.underlying29 (by kernel_rfl) (fun z => True) (fun fuel cs x htr hcl => by
  obtain ⟨z0, e0, _, w0⟩ := DataW.trod_int Tryz.underlying3 htr
  exact ⟨z0, e0.symm, trivial⟩) h
 exact ⟨A, n, c, e, Nat.le_trans h1 h2⟩
theorem pa_cs {fuel : Nat} {cs : List Value} {x : DataW H × List MemPlace} (h : DataW.trod enc Tryz.prog w base spare held fuel 43 cs = some x) :
  ∃ A n c ps, cs = [.slice A n c] ∧ IsPa w (fun b => b < w.heap.size) A n c ps ∧ ∀ ad, A = some ad → 0 < n → ad.block < w.heap.size := by
 obtain ⟨A, n, c, l, e, hl, hr, hp, h1, h2, h3⟩ := slice_cs PutD.cells (by decide) put_two Tryz.underlying43 (by kernel_rfl) (fun p => IsYa w (fun b => b < w.heap.size) p.A p.n p.c p.bs) (fun fuel cs x htr hcl => by
  match cs, hcl with
  | [v0, v1], _ =>
    obtain ⟨ys, n', _, _, _, hyl, hf2⟩ := DataW.trod_struct Tryz.underlying50 htr
    have hyl2 : ys.length = 2 := by rw [hyl]; rfl
    have f0 := hf2 0 _ rfl
    rw [List.getElem?_eq_getElem (show 0 < ys.length by omega)] at f0
    obtain ⟨z0, e0, _, _⟩ := DataW.trod_int Tryz.underlying3 f0
    have e0' : [v0] = [Value.int .i64 z0] := by
     rw [← e0]; show [v0] = (([v0, v1] : List Value).drop 0).take (Tryz.prog.cellsOf 3); rw [show Tryz.prog.cellsOf 3 = 1 by kernel_rfl]; rfl
    injection e0' with e0'
    have f1 := hf2 1 _ rfl
    rw [List.getElem?_eq_getElem (show 1 < ys.length by omega)] at f1
    obtain ⟨A1, n1, c1, l1, e1, hy1⟩ := ya_cs f1
    have e1' : [v1] = [Value.slice A1 n1 c1] := by
     rw [← e1]; show [v1] = (([v0, v1] : List Value).drop 1).take (Tryz.prog.cellsOf 47); rw [show Tryz.prog.cellsOf 47 = 1 by kernel_rfl]; rfl
    injection e1' with e1'
    subst e0' e1'
    exact ⟨⟨z0, A1, n1, c1, l1⟩, rfl, hy1⟩) h
 exact ⟨A, n, c, l, e, ⟨hl, hr, hp, h1, h2⟩, h3⟩
theorem ops_cs {fuel : Nat} {cs : List Value} {x : DataW H × List MemPlace} (h : DataW.trod enc Tryz.prog w base spare held fuel 28 cs = some x) :
  ∃ A n c os, cs = [.slice A n c] ∧ IsOps w (fun b => b < w.heap.size) A n c os := by
 obtain ⟨A, n, c, l, e, hl, hr, hp, h1, h2, h3⟩ := slice_cs OpD.cells (by decide) op_five Tryz.underlying28 (by kernel_rfl) (fun o => IsPa w (fun b => b < w.heap.size) o.A o.n o.c o.ps ∧ ∀ ad, o.A = some ad → 0 < o.n → ad.block < w.heap.size) (fun fuel cs x htr hcl => by
  match cs, hcl with
  | [v0, v1, v2, v3, v4], _ =>
    obtain ⟨ys, n', _, _, _, hyl, hf2⟩ := DataW.trod_struct Tryz.underlying45 htr
    have hyl2 : ys.length = 5 := by rw [hyl]; rfl
    have f0 := hf2 0 _ rfl
    rw [List.getElem?_eq_getElem (show 0 < ys.length by omega)] at f0
    obtain ⟨z0, e0, _, _⟩ := DataW.trod_int Tryz.underlying3 f0
    have e0' : [v0] = [Value.int .i64 z0] := by
     rw [← e0]; show [v0] = (([v0, v1, v2, v3, v4] : List Value).drop 0).take (Tryz.prog.cellsOf 3); rw [show Tryz.prog.cellsOf 3 = 1 by kernel_rfl]; rfl
    injection e0' with e0'
    have f1 := hf2 1 _ rfl
    rw [List.getElem?_eq_getElem (show 1 < ys.length by omega)] at f1
    obtain ⟨z1, e1, _, _⟩ := DataW.trod_int Tryz.underlying3 f1
    have e1' : [v1] = [Value.int .i64 z1] := by
     rw [← e1]; show [v1] = (([v0, v1, v2, v3, v4] : List Value).drop 1).take (Tryz.prog.cellsOf 3); rw [show Tryz.prog.cellsOf 3 = 1 by kernel_rfl]; rfl
    injection e1' with e1'
    have f2 := hf2 2 _ rfl
    rw [List.getElem?_eq_getElem (show 2 < ys.length by omega)] at f2
    obtain ⟨z2, e2, _, _⟩ := DataW.trod_int Tryz.underlying3 f2
    have e2' : [v2] = [Value.int .i64 z2] := by
     rw [← e2]; show [v2] = (([v0, v1, v2, v3, v4] : List Value).drop 2).take (Tryz.prog.cellsOf 3); rw [show Tryz.prog.cellsOf 3 = 1 by kernel_rfl]; rfl
    injection e2' with e2'
    have f3 := hf2 3 _ rfl
    rw [List.getElem?_eq_getElem (show 3 < ys.length by omega)] at f3
    obtain ⟨z3, e3, _, _⟩ := DataW.trod_int Tryz.underlying3 f3
    have e3' : [v3] = [Value.int .i64 z3] := by
     rw [← e3]; show [v3] = (([v0, v1, v2, v3, v4] : List Value).drop 3).take (Tryz.prog.cellsOf 3); rw [show Tryz.prog.cellsOf 3 = 1 by kernel_rfl]; rfl
    injection e3' with e3'
    have f4 := hf2 4 _ rfl
    rw [List.getElem?_eq_getElem (show 4 < ys.length by omega)] at f4
    obtain ⟨A4, n4, c4, l4, e4, hy4, hg4⟩ := pa_cs f4
    have e4' : [v4] = [Value.slice A4 n4 c4] := by
     rw [← e4]; show [v4] = (([v0, v1, v2, v3, v4] : List Value).drop 4).take (Tryz.prog.cellsOf 43); rw [show Tryz.prog.cellsOf 43 = 1 by kernel_rfl]; rfl
    injection e4' with e4'
    subst e0' e1' e2' e3' e4'
    exact ⟨⟨z0, z1, z2, z3, A4, n4, c4, l4⟩, rfl, hy4, hg4⟩) h
 exact ⟨A, n, c, l, e, hl, hr, fun o ho => (hp o ho).1, h1, h2, h3, fun o ho => (hp o ho).2⟩
theorem steps_cs {fuel : Nat} {cs : List Value} {x : DataW H × List MemPlace} (h : DataW.trod enc Tryz.prog w base spare held fuel 22 cs = some x) :
  ∃ A n c l, cs = [.slice A n c] ∧ IsSteps w (fun b => b < w.heap.size) A n c l := by
 obtain ⟨A, n, c, l, e, hl, hr, hp, h1, h2, h3⟩ := slice_cs StepD.cells (by decide) step_six Tryz.underlying22 (by kernel_rfl) (fun x => IsOps w (fun b => b < w.heap.size) x.A x.n x.c x.os ∧ x.pn ≤ maxLen ∧ x.tn ≤ maxLen) (fun fuel cs x htr hcl => by
  match cs, hcl with
  | [v0, v1, v2, v3, v4, v5], _ =>
    obtain ⟨ys, n', _, _, _, hyl, hf2⟩ := DataW.trod_struct Tryz.underlying31 htr
    have hyl2 : ys.length = 6 := by rw [hyl]; rfl
    have f0 := hf2 0 _ rfl
    rw [List.getElem?_eq_getElem (show 0 < ys.length by omega)] at f0
    obtain ⟨z0, e0, _, _⟩ := DataW.trod_int Tryz.underlying3 f0
    have e0' : [v0] = [Value.int .i64 z0] := by
     rw [← e0]; show [v0] = (([v0, v1, v2, v3, v4, v5] : List Value).drop 0).take (Tryz.prog.cellsOf 3); rw [show Tryz.prog.cellsOf 3 = 1 by kernel_rfl]; rfl
    injection e0' with e0'
    have f1 := hf2 1 _ rfl
    rw [List.getElem?_eq_getElem (show 1 < ys.length by omega)] at f1
    obtain ⟨z1, e1, _, _⟩ := DataW.trod_int Tryz.underlying3 f1
    have e1' : [v1] = [Value.int .i64 z1] := by
     rw [← e1]; show [v1] = (([v0, v1, v2, v3, v4, v5] : List Value).drop 1).take (Tryz.prog.cellsOf 3); rw [show Tryz.prog.cellsOf 3 = 1 by kernel_rfl]; rfl
    injection e1' with e1'
    have f2 := hf2 2 _ rfl
    rw [List.getElem?_eq_getElem (show 2 < ys.length by omega)] at f2
    obtain ⟨A2, n2, c2, l2, e2, hy2⟩ := ops_cs f2
    have e2' : [v2] = [Value.slice A2 n2 c2] := by
     rw [← e2]; show [v2] = (([v0, v1, v2, v3, v4, v5] : List Value).drop 2).take (Tryz.prog.cellsOf 28); rw [show Tryz.prog.cellsOf 28 = 1 by kernel_rfl]; rfl
    injection e2' with e2'
    have f3 := hf2 3 _ rfl
    rw [List.getElem?_eq_getElem (show 3 < ys.length by omega)] at f3
    obtain ⟨z3, e3, _, _⟩ := DataW.trod_int Tryz.underlying3 f3
    have e3' : [v3] = [Value.int .i64 z3] := by
     rw [← e3]; show [v3] = (([v0, v1, v2, v3, v4, v5] : List Value).drop 3).take (Tryz.prog.cellsOf 3); rw [show Tryz.prog.cellsOf 3 = 1 by kernel_rfl]; rfl
    injection e3' with e3'
    have f4 := hf2 4 _ rfl
    rw [List.getElem?_eq_getElem (show 4 < ys.length by omega)] at f4
    obtain ⟨A4, n4, c4, e4, hy4⟩ := ints_le f4
    have e4' : [v4] = [Value.slice A4 n4 c4] := by
     rw [← e4]; show [v4] = (([v0, v1, v2, v3, v4, v5] : List Value).drop 4).take (Tryz.prog.cellsOf 29); rw [show Tryz.prog.cellsOf 29 = 1 by kernel_rfl]; rfl
    injection e4' with e4'
    have f5 := hf2 5 _ rfl
    rw [List.getElem?_eq_getElem (show 5 < ys.length by omega)] at f5
    obtain ⟨A5, n5, c5, e5, hy5⟩ := ints_le f5
    have e5' : [v5] = [Value.slice A5 n5 c5] := by
     rw [← e5]; show [v5] = (([v0, v1, v2, v3, v4, v5] : List Value).drop 5).take (Tryz.prog.cellsOf 29); rw [show Tryz.prog.cellsOf 29 = 1 by kernel_rfl]; rfl
    injection e5' with e5'
    subst e0' e1' e2' e3' e4' e5'
    exact ⟨⟨z0, z1, A2, n2, c2, l2, z3, A4, n4, c4, A5, n5, c5⟩, rfl, hy2, hy4, hy5⟩) h
 exact ⟨A, n, c, l, e, hl, hr, hp, h1, h2, h3⟩
theorem open_steps {A : Option Addr} {n c : Nat} {d : DataW H} {ps : List MemPlace} (h : DataW.Trod enc Tryz.prog w base spare held 22 (.slice A n c) d ps) : ∃ l, IsSteps w (fun b => b < w.heap.size) A n c l := by
 obtain ⟨fuel, hf⟩ := h
 obtain ⟨A', n', c', l, e, hl⟩ := steps_cs hf
 simp [Value.cells] at e
 obtain ⟨rfl, rfl, rfl⟩ := e
 exact ⟨l, hl⟩
end
end
end Go.Proofs.YthhndleddlmgiaaGreatDoor.Tp
