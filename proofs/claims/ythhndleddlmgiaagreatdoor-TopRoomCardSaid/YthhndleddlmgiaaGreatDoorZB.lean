/- Contracts of the program's functions, and laws on memory: a part of the proof of TopRoom. -/
import Derived.Test.YthhndleddlmgiaaGreatDoorZA
import Derived.Test.YthhndleddlmgiaaGreatDoorProg
import Derived.LoopTactic
import Derived.LoopN
import Derived.Lib.Hide
import Derived.Deep.DeepMust
import Derived.Laws.MakeOwn
import Derived.Laws.Entries
import Derived.WalkSpells
import Derived.WalkMore
import Derived.IntWalk
import Derived.Deep.CutRange
import Derived.Deep.DeepCutAuto
import Derived.Deep.CutBlock
namespace Go.Proofs.YthhndleddlmgiaaGreatDoor.Tp
set_option maxHeartbeats 8000000
set_option maxRecDepth 100000
set_option linter.unusedSimpArgs false
set_option linter.unusedVariables false
section
open Go.RowKit
structure ZD where
 gz : Nat
 v : Value
 n : Nat
 rows : List Value
 good : Int
def zp (z : ZD) : Value := .pointer (some ⟨z.gz, 0, none⟩)
structure DevX (w : World) (F : Foot) (gd : Nat) (zsl : Value) (ops reads left : Int) (zs : List ZD) : Prop where
 bx : Bk w gd 142 [.int .i64 8, .int .i64 96, zsl, .int .i64 ops, .int .i64 reads, .bool false, .int .i64 left, .bool false]
 zl : zs.length = 8
 zr : w.ownsRow 0 143 1 zsl 8 (zs.map zp)
 zb : ∀ z ∈ zs, Bk w z.gz 146 [z.v, .int .i64 z.good]
 zo : ∀ z ∈ zs, w.ownsRow 0 47 1 z.v z.n z.rows
 nd : ∀ i j, (hi : i < zs.length) → (hj : j < zs.length) → i ≠ j → zs[i].gz ≠ zs[j].gz
 dj : ∀ i j, (hi : i < zs.length) → (hj : j < zs.length) → i ≠ j → zs[i].v.ownBlock = none ∨ zs[i].v.ownBlock ≠ zs[j].v.ownBlock
 mx : ∀ z ∈ zs, z.n ≤ 96
 f0 : F gd
 f1 : ∀ g, zsl.ownBlock = some g → F g
 f2 : ∀ z ∈ zs, F z.gz
 f3 : ∀ z ∈ zs, ∀ g, z.v.ownBlock = some g → F g
def Dev (w : World) (F : Foot) (gd : Nat) (ns : List Nat) : Prop := ∃ zsl ops reads left zs, DevX w F gd zsl ops reads left zs ∧ zs.map (·.n) = ns
theorem DevX.ag {w w' : World} {F : Foot} {gd : Nat} {zsl : Value} {ops reads left : Int} {zs : List ZD} (h : DevX w F gd zsl ops reads left zs) (k : Ag F w w') : DevX w' F gd zsl ops reads left zs :=
 ⟨Bk.ag h.bx k h.f0, h.zl, own_ag h.zr k h.f1, fun z hz => Bk.ag (h.zb z hz) k (h.f2 z hz), fun z hz => own_ag (h.zo z hz) k (h.f3 z hz), h.nd, h.dj, h.mx, h.f0, h.f1, h.f2, h.f3⟩
theorem Dev.ag {w w' : World} {F : Foot} {gd : Nat} {ns : List Nat} (h : Dev w F gd ns) (k : Ag F w w') : Dev w' F gd ns := by
 obtain ⟨a, b, c, d, e, h, hn⟩ := h
 exact ⟨a, b, c, d, e, h.ag k, hn⟩
theorem infoG : (Tryz.prog.info? 36).map (·.size) = some 2 := by kernel_rfl
theorem res_geo {fn : Func} {p : Tmp} (h : fn.results = #[.cell p 36]) (tmps : Array Value) (w : World) (g : Nat) (cs : List Value) (hp : tmps.getD p undef = .pointer (some ⟨g, 0, none⟩)) (hg : Bk w g 36 cs) (hl : cs.length = 2 := by rfl) :
  (results fn tmps).run Tryz.prog w = .ok (.agg cs.toArray) w := by
 exact results_cell_row h tmps w g _ _ _ _ hp hg Tryz.underlying36 rfl (by rw [infoG]; simp [hl])
theorem gone_any (F : Foot) (gd : Nat) (zsl : Value) (ops reads left : Int) (zs : List ZD) (w : World) (h : DevX w F gd zsl ops reads left zs) :
  Calls Tryz.prog 141 #[.pointer (some ⟨gd, 0, none⟩)] w fun e w' => e = .returned (.bool false) ∧ w = w' := by
 have hzr := h.zr
 obtain ⟨az, cz, hzs⟩ := own_slice hzr (by omega)
 subst hzs
 have c0 := h.bx.cell (i := 0) (by simp)
 have c1 := h.bx.cell (i := 1) (by simp)
 have c2 := h.bx.cell (i := 2) (by simp)
 have c3 := h.bx.cell (i := 3) (by simp)
 have c4 := h.bx.cell (i := 4) (by simp)
 have c5 := h.bx.cell (i := 5) (by simp)
 have c6 := h.bx.cell (i := 6) (by simp)
 have c7 := h.bx.cell (i := 7) (by simp)
 have f3 := h.bx.free 3
 have f6 := h.bx.free 6
 have f7 := h.bx.free 7
 simp only [List.getElem_cons_zero, List.getElem_cons_succ] at c0 c1 c2 c3 c4 c5 c6 c7
 go_enter Tryz.func141, Tryz.ntmps141
 go_wp2_with fail
 go_ret
 exact ⟨rfl, rfl⟩
theorem geo_any (F : Foot) (gd : Nat) (zsl : Value) (ops reads left : Int) (zs : List ZD) (w : World) (h : DevX w F gd zsl ops reads left zs) :
  Calls Tryz.prog 76 #[.pointer (some ⟨gd, 0, none⟩)] w fun e w' => e = .returned (.agg #[.int .i64 8, .int .i64 96]) ∧ Below w.heap.size w w' := by
 have hzr := h.zr
 obtain ⟨az, cz, hzs⟩ := own_slice hzr (by omega)
 subst hzs
 have c0 := h.bx.cell (i := 0) (by simp)
 have c1 := h.bx.cell (i := 1) (by simp)
 have c2 := h.bx.cell (i := 2) (by simp)
 have c3 := h.bx.cell (i := 3) (by simp)
 have c4 := h.bx.cell (i := 4) (by simp)
 have c5 := h.bx.cell (i := 5) (by simp)
 have c6 := h.bx.cell (i := 6) (by simp)
 have c7 := h.bx.cell (i := 7) (by simp)
 have f3 := h.bx.free 3
 have f6 := h.bx.free 6
 have f7 := h.bx.free 7
 simp only [List.getElem_cons_zero, List.getElem_cons_succ] at c0 c1 c2 c3 c4 c5 c6 c7
 obtain ⟨w1, hw1⟩ : ∃ w1, w.alloc (.cells #[.int .i64 0, .int .i64 0] 36) = w1 := ⟨_, rfl⟩
 have hb1 : Below w.heap.size w w1 := by rw [← hw1]; exact (Below.refl _ _).alloc (Nat.le_refl _) _
 have hp1 : Bk w1 w.heap.size 36 [.int .i64 0, .int .i64 0] := by rw [← hw1]; exact Bk.new w _ _
 have h1 : DevX w1 F gd (.slice (some ⟨az, 0, none⟩) 8 cz) ops reads left zs := h.ag (.of_below hb1)
 obtain ⟨d0, d1⟩ := h1.bx.c2
 have p0 := hp1.cell (i := 0) (by simp)
 have p1 := hp1.cell (i := 1) (by simp)
 have q0 := hp1.free 0
 have q1 := hp1.free 1
 have hg := gone_any F gd _ ops reads left zs w1 h1
 obtain ⟨w3, hw3⟩ : ∃ w3, (w1.setCell ⟨w.heap.size, 0, none⟩ (.int .i64 8)).setCell ⟨w.heap.size, 1, none⟩ (.int .i64 96) = w3 := ⟨_, rfl⟩
 have H3 := Lib.hid (show Bk w3 w.heap.size 36 [.int .i64 8, .int .i64 96] ∧ Below w.heap.size w w3 from by
  rw [← hw3]; exact ⟨(hp1.set 0 _).set 1 _, (hb1.setCell (p := ⟨w.heap.size, 0, none⟩) (Nat.le_refl _) _).setCell (p := ⟨w.heap.size, 1, none⟩) (Nat.le_refl _) _⟩)
 clear h1 hb1 hp1 h hzr
 go_enter Tryz.func76, Tryz.ntmps76
 go_wp2_with fail
 refine hg.mono ?_
 rintro e w' ⟨rfl, rfl⟩
 go_wp2_with fail
 refine bodyPost_ret (res_geo rfl _ _ _ _ (by rfl) H3.out.1) rfl ?_
 exact ⟨rfl, H3.out.2⟩
theorem at_any (F : Foot) (gd : Nat) (zsl : Value) (ops reads left : Int) (zs : List ZD) (i : Nat) (z : ZD) (w : World) (h : DevX w F gd zsl ops reads left zs) (hi : zs[i]? = some z) :
  Calls Tryz.prog 104 #[.pointer (some ⟨gd, 0, none⟩), .int .i64 (i : Int)] w fun e w' => e = .returned (zp z) ∧ w = w' := by
 obtain ⟨hil, hiz⟩ := List.getElem?_eq_some_iff.1 hi
 have hl := h.zl
 have hzr := h.zr
 obtain ⟨az, cz, hzs⟩ := own_slice hzr (by omega)
 subst hzs
 have c0 := h.bx.cell (i := 0) (by simp)
 have c1 := h.bx.cell (i := 1) (by simp)
 have c2 := h.bx.cell (i := 2) (by simp)
 have c3 := h.bx.cell (i := 3) (by simp)
 have c4 := h.bx.cell (i := 4) (by simp)
 have c5 := h.bx.cell (i := 5) (by simp)
 have c6 := h.bx.cell (i := 6) (by simp)
 have c7 := h.bx.cell (i := 7) (by simp)
 have f3 := h.bx.free 3
 have f6 := h.bx.free 6
 have f7 := h.bx.free 7
 simp only [List.getElem_cons_zero, List.getElem_cons_succ] at c0 c1 c2 c3 c4 c5 c6 c7
 have n0 : (0 : Int) ≤ (i : Int) := by omega
 have n1 : (i : Int) < 8 := by omega
 have n2 : ¬ ((i : Int) < 0) := by omega
 have n3 : ¬ ((8 : Int) ≤ (i : Int)) := by omega
 have e0 := h.zr.cellAt i (by omega)
 rw [List.getElem?_map, List.getElem?_eq_getElem hil, hiz] at e0
 have hg := gone_any F gd _ ops reads left zs w h
 clear h hzr hi hiz
 unfold zp at e0
 go_enter Tryz.func104, Tryz.ntmps104
 go_wp2_with fail
 refine hg.mono ?_
 rintro e w' ⟨rfl, rfl⟩
 go_wp2_with fail
 go_ret
 exact ⟨rfl, rfl⟩
theorem DevX.ops {w : World} {F : Foot} {gd : Nat} {zsl : Value} {ops reads left : Int} {zs : List ZD} (h : DevX w F gd zsl ops reads left zs) (ops' : Int) : DevX (w.setCell ⟨gd, 3, none⟩ (.int .i64 ops')) F gd zsl ops' reads left zs := by
 have far : ∀ {g t : Nat} {cs : List Value}, Bk w g t cs → t ≠ 142 → Bk (w.setCell ⟨gd, 3, none⟩ (.int .i64 ops')) g t cs := fun hb ht => hb.far (fun e => by
  have e : _ = gd := e
  subst e
  have h1 := h.bx
  unfold Bk at h1 hb
  rw [h1] at hb
  injection hb with hb
  injection hb with _ hb _
  exact ht hb.symm) _
 have faro : ∀ {e n : Nat} {v : Value} {xs : List Value}, w.ownsRow 0 e 1 v n xs → e ≠ 142 → (w.setCell ⟨gd, 3, none⟩ (.int .i64 ops')).ownsRow 0 e 1 v n xs := fun ho he => by
  rcases ho.2 with h0 | ⟨g, cap, cur, hv, hg, hh, hr⟩
  · exact ⟨ho.1, .inl h0⟩
  · refine ⟨ho.1, .inr ⟨g, cap, cur, hv, hg, ?_, hr⟩⟩
    rw [Below.heap_setCell _ _ _ _ (fun e => by
     have e : g = gd := e
     subst e
     have h1 := h.bx
     unfold Bk at h1
     rw [h1] at hh
     injection hh with hh
     injection hh with _ hh _
     exact he hh.symm)]
    exact hh
 exact ⟨h.bx.set 3 _, h.zl, faro h.zr (by decide), fun z hz => far (h.zb z hz) (by decide), fun z hz => faro (h.zo z hz) (by decide), h.nd, h.dj, h.mx, h.f0, h.f1, h.f2, h.f3⟩
theorem DevX.offed {w : World} {F : Foot} {gd : Nat} {zsl : Value} {ops reads left : Int} {zs : List ZD} (h : DevX w F gd zsl ops reads left zs) : DevX (w.setCell ⟨gd, 7, none⟩ (.bool false)) F gd zsl ops reads left zs := by
 have e : w.setCell ⟨gd, 7, none⟩ (.bool false) = w := by
  have hb := h.bx
  unfold Bk at hb
  have : (w.setCell ⟨gd, 7, none⟩ (.bool false)).heap = w.heap := by
   unfold World.setCell
   apply Array.ext
   · simp
   · intro i h1 h2
     simp only [Array.getElem_modify]
     split
     · rename_i hi
       subst hi
       obtain ⟨_, hb⟩ := Array.getElem?_eq_some_iff.1 hb
       rw [hb]
       rfl
     · rfl
  cases w
  simp only [World.setCell] at this ⊢
  simp only [this]
 rw [e]; exact h
theorem begin_any (F : Foot) (gd : Nat) (zsl : Value) (ops reads left : Int) (zs : List ZD) (w : World) (h : DevX w F gd zsl ops reads left zs) :
  Calls Tryz.prog 105 #[.pointer (some ⟨gd, 0, none⟩)] w fun e w' => e = .returned (.bool true) ∧ (∃ ops', DevX w' F gd zsl ops' reads left zs) ∧ Kf F w w' := by
 have hzr := h.zr
 obtain ⟨az, cz, hzs⟩ := own_slice hzr (by omega)
 subst hzs
 have c0 := h.bx.cell (i := 0) (by simp)
 have c1 := h.bx.cell (i := 1) (by simp)
 have c2 := h.bx.cell (i := 2) (by simp)
 have c3 := h.bx.cell (i := 3) (by simp)
 have c4 := h.bx.cell (i := 4) (by simp)
 have c5 := h.bx.cell (i := 5) (by simp)
 have c6 := h.bx.cell (i := 6) (by simp)
 have c7 := h.bx.cell (i := 7) (by simp)
 have f3 := h.bx.free 3
 have f6 := h.bx.free 6
 have f7 := h.bx.free 7
 simp only [List.getElem_cons_zero, List.getElem_cons_succ] at c0 c1 c2 c3 c4 c5 c6 c7
 obtain ⟨o2, ho2⟩ : ∃ o2, wrap64 (ops + 1) = o2 := ⟨_, rfl⟩
 obtain ⟨w1, hw1⟩ : ∃ w1, w.setCell ⟨gd, 3, none⟩ (.int .i64 o2) = w1 := ⟨_, rfl⟩
 have h1 : DevX w1 F gd (.slice (some ⟨az, 0, none⟩) 8 cz) o2 reads left zs := by rw [← hw1]; exact h.ops o2
 have k1 : Kf F w w1 := by rw [← hw1]; exact (Kf.refl F w).set h.bx (by decide) (.inl h.f0) _ _
 obtain ⟨w2, hw2⟩ : ∃ w2, w1.setCell ⟨gd, 7, none⟩ (.bool false) = w2 := ⟨_, rfl⟩
 have h2 : DevX w2 F gd (.slice (some ⟨az, 0, none⟩) 8 cz) o2 reads left zs := by rw [← hw2]; exact h1.offed
 have k2 : Kf F w w2 := by rw [← hw2]; exact k1.set h1.bx (by decide) (.inl h1.f0) _ _
 obtain ⟨d0, d1, d2, d3, d4, d5, d6, d7⟩ := h1.bx.c8
 have g7 := h1.bx.free 7
 obtain ⟨i0, i1, i2, i3, i4, i5, i6, i7⟩ := h2.bx.c8
 have HE := Lib.hid (And.intro h2 k2)
 clear h1 h2 k1 k2 h hzr
 go_enter Tryz.func105, Tryz.ntmps105
 go_wp2_with fail
 go_ret
 exact ⟨rfl, ⟨o2, HE.out.1⟩, HE.out.2⟩
theorem pointer_any (F : Foot) (gd : Nat) (zsl : Value) (ops reads left : Int) (zs : List ZD) (i : Nat) (z : ZD) (w : World) (h : DevX w F gd zsl ops reads left zs) (hi : zs[i]? = some z) :
  Calls Tryz.prog 47 #[.pointer (some ⟨gd, 0, none⟩), .int .i64 (i : Int)] w fun e w' => e = .returned (.tuple #[.int .i64 (z.n : Int), .int .i64 0]) ∧ w = w' := by
 have hz : z ∈ zs := List.mem_of_getElem? hi
 obtain ⟨c0, c1⟩ := (h.zb z hz).c2
 obtain ⟨va, vc, hv⟩ := own_shape (h.zo z hz)
 rw [hv] at c0
 have hg := at_any F gd _ ops reads left zs i z w h hi
 unfold zp at hg
 go_enter Tryz.func47, Tryz.ntmps47
 go_wp2_with fail
 refine hg.mono ?_
 rintro e w' ⟨rfl, rfl⟩
 go_wp2_with fail
 go_ret2
 exact ⟨rfl, rfl⟩
theorem DevX.setZ {w w' : World} {F F' : Foot} {gd : Nat} {zsl : Value} {ops reads left : Int} {zs : List ZD} (h : DevX w F gd zsl ops reads left zs) {i : Nat} {z : ZD} (hi : zs[i]? = some z) (v : Value) (n : Nat) (rows : List Value) (good : Int)
  (hk : Kp2 (fun b => b = z.gz ∨ z.v.ownBlock = some b) w w') (hb : Bk w' z.gz 146 [v, .int .i64 good]) (ho : w'.ownsRow 0 47 1 v n rows) (hn : n ≤ 96) (hv : ∀ g, v.ownBlock = some g → z.v.ownBlock = some g ∨ w.heap.size ≤ g)
  (hF : ∀ b, F b → F' b) (hF2 : ∀ g, v.ownBlock = some g → F' g) : DevX w' F' gd zsl ops reads left (zs.set i ⟨z.gz, v, n, rows, good⟩) := by
 obtain ⟨hil, hiz⟩ := List.getElem?_eq_some_iff.1 hi
 have hzm : z ∈ zs := by rw [← hiz]; exact List.getElem_mem hil
 have get : ∀ j (hj : j < (zs.set i ⟨z.gz, v, n, rows, good⟩).length), (zs.set i ⟨z.gz, v, n, rows, good⟩)[j] = if i = j then ⟨z.gz, v, n, rows, good⟩ else zs[j]'(by simpa using hj) := fun j hj => List.getElem_set ..
 have mem : ∀ y ∈ zs.set i ⟨z.gz, v, n, rows, good⟩, y = ⟨z.gz, v, n, rows, good⟩ ∨ ∃ j, ∃ hj : j < zs.length, j ≠ i ∧ zs[j] = y := fun y hy => by
  obtain ⟨j, hj, e⟩ := List.getElem_of_mem hy
  rw [get j hj] at e
  by_cases q : i = j
  · rw [if_pos q] at e; exact .inl e.symm
  · rw [if_neg q] at e; exact .inr ⟨j, by simpa using hj, fun r => q r.symm, e⟩
 have hzo := h.zo z hzm
 have far : ∀ {g t : Nat} {cs : List Value}, Bk w g t cs → g ≠ z.gz → t ≠ 47 → Bk w' g t cs := fun hg hne ht => hk.bk hg (fun q => q.elim hne (fun r => own_ne_bk hzo hg (fun e => ht e.symm) r))
 have hpz : (zs.set i ⟨z.gz, v, n, rows, good⟩).map zp = zs.map zp := by
  rw [List.map_set]
  refine List.ext_getElem (by simp) fun j h1 h2 => ?_
  rw [List.getElem_set]
  split
  · rename_i e
    subst e
    rw [List.getElem_map, hiz]
    rfl
  · rfl
 refine ⟨far h.bx (bk_ne h.bx (h.zb z hzm) (by decide)) (by decide), by rw [List.length_set]; exact h.zl, ?_, fun y hy => ?_, fun y hy => ?_, fun a c ha hc hne => ?_, fun a c ha hc hne => ?_, fun y hy => ?_, hF _ h.f0, fun g hg => hF _ (h.f1 g hg), fun y hy => ?_, fun y hy => ?_⟩
 · rw [hpz]
   exact hk.own h.zr (fun g hg q => q.elim (fun r => own_ne_bk h.zr (h.zb z hzm) (by decide) (by rw [hg, r])) (fun r => own_ne_own h.zr hzo (by decide) hg r))
 · rcases mem y hy with rfl | ⟨j, hj, hne, rfl⟩
   · exact hb
   · exact far (h.zb _ (List.getElem_mem hj)) (by have := h.nd j i hj hil hne; rw [hiz] at this; exact this) (by decide)
 · rcases mem y hy with rfl | ⟨j, hj, hne, rfl⟩
   · exact ho
   · exact hk.own (h.zo _ (List.getElem_mem hj)) (fun g hg q => q.elim (fun r => own_ne_bk (h.zo _ (List.getElem_mem hj)) (h.zb z hzm) (by decide) (by rw [hg, r])) (fun r => by
      rcases h.dj j i hj hil hne with q | q
      · rw [q] at hg; cases hg
      · rw [hiz, r] at q; exact q hg))
 · rw [get a ha, get c hc]
   rw [List.length_set] at ha hc
   by_cases p : i = a <;> by_cases q : i = c
   · omega
   · rw [if_pos p, if_neg q]; have := h.nd i c hil hc q; rw [hiz] at this; exact this
   · rw [if_neg p, if_pos q]; have := h.nd a i ha hil (fun r => p r.symm); rw [hiz] at this; exact this
   · rw [if_neg p, if_neg q]; exact h.nd a c ha hc hne
 · rw [get a ha, get c hc]
   rw [List.length_set] at ha hc
   have key : ∀ c (hc : c < zs.length), i ≠ c → v.ownBlock = none ∨ v.ownBlock ≠ zs[c].v.ownBlock := fun c hc hne => by
    by_cases e : v.ownBlock = none
    · exact .inl e
    · obtain ⟨g, hg⟩ := Option.ne_none_iff_exists'.1 e
      right
      intro r
      rw [hg] at r
      rcases hv g hg with q | q
      · rcases h.dj i c hil hc hne with s | s
        · rw [hiz, q] at s; cases s
        · rw [hiz, q] at s; exact s r
      · obtain ⟨_, _, hh⟩ := own_at (h.zo _ (List.getElem_mem hc)) r.symm
        have := lt_of hh
        omega
   by_cases p : i = a <;> by_cases q : i = c
   · omega
   · rw [if_pos p, if_neg q]; exact key c hc q
   · rw [if_neg p, if_pos q]
     rcases key a ha p with s | s
     · by_cases e : zs[a].v.ownBlock = none
       · exact .inl e
       · right; show zs[a].v.ownBlock ≠ v.ownBlock; rw [s]; exact e
     · exact .inr (fun r => s r.symm)
   · rw [if_neg p, if_neg q]; exact h.dj a c ha hc hne
 · rcases mem y hy with rfl | ⟨j, hj, hne, rfl⟩
   · exact hn
   · exact h.mx _ (List.getElem_mem hj)
 · rcases mem y hy with rfl | ⟨j, hj, hne, rfl⟩
   · exact hF _ (h.f2 z hzm)
   · exact hF _ (h.f2 _ (List.getElem_mem hj))
 · rcases mem y hy with rfl | ⟨j, hj, hne, rfl⟩
   · exact hF2
   · exact fun g hg => hF _ (h.f3 _ (List.getElem_mem hj) g hg)
end
section
open Go.RowKit
theorem put32_any (v : Int) (w : World) :
  Calls Tryz.prog 103 #[.int .u32 v] w fun e w' => (∃ u bs, e = .returned u ∧ Byt w' w.heap.size u bs ∧ bs.length = 4) ∧ Below w.heap.size w w' := by
 have hp : ∀ x, _ := fun x => put_any x 4 w (by omega)
 go_enter Tryz.func103, Tryz.ntmps103
 go_wp2_with fail
 refine (hp _).mono ?_
 rintro e w' ⟨⟨u, bs, rfl, h1, h2⟩, hb⟩
 go_wp2_with fail
 go_ret
 exact ⟨⟨_, bs, rfl, h1, h2⟩, hb⟩
theorem put64_any (v : Int) (w : World) :
  Calls Tryz.prog 100 #[.int .u64 v] w fun e w' => (∃ u bs, e = .returned u ∧ Byt w' w.heap.size u bs ∧ bs.length = 8) ∧ Below w.heap.size w w' := by
 have hp : ∀ x, _ := fun x => put_any x 8 w (by omega)
 go_enter Tryz.func100, Tryz.ntmps100
 go_wp2_with fail
 refine (hp _).mono ?_
 rintro e w' ⟨⟨u, bs, rfl, h1, h2⟩, hb⟩
 go_wp2_with fail
 go_ret
 exact ⟨⟨_, bs, rfl, h1, h2⟩, hb⟩
theorem crcadd_any (g : Nat) (t : Int) (A : Option Addr) (n c : Nat) (bs : List Int) (w : World) (hg : Bk w g 392 [.int .u32 t]) (h : IsB w A n c bs) (hn : n ≤ 1000000) :
  Calls Tryz.prog 264 #[.pointer (some ⟨g, 0, none⟩), .slice A n c] w fun e w' => e = .returned (.pointer (some ⟨g, 0, none⟩)) ∧ (∃ t', Bk w' g 392 [.int .u32 t']) ∧ Below g w w' := by
 have hl := h.len
 have c0 := hg.cell (i := 0) (by simp)
 have f0 := hg.free 0
 simp only [List.getElem_cons_zero] at c0
 have HG := Lib.hid (And.intro hg h)
 clear hg h
 go_enter Tryz.func264, Tryz.ntmps264
 go_wp2_with fail
 go_loop [5, 17] (fun r i => ∃ (k : Nat) (x : Int), k ≤ n ∧ i = .int .i64 (k : Int) ∧ r = .int .u32 x) (fun _ i => n - (intOf i).toNat)
 case atStart => exact ⟨0, _, Nat.zero_le _, rfl, rfl⟩
 case round =>
  obtain ⟨k, x, hk, rfl, rfl⟩ := hrel
  by_cases hlt : k < n
  · obtain ⟨ad, rfl, _, e0⟩ := HG.out.2.rd.get (k := k) (by rw [List.length_map]; omega)
    rw [List.getElem_map] at e0
    obtain ⟨y, hy⟩ : ∃ y, bs[k]'(by omega) = y := ⟨_, rfl⟩
    rw [hy] at e0
    have n0 : (k : Int) < (n : Int) := by omega
    have n1 : (0 : Int) ≤ (k : Int) := by omega
    clear hy
    go_wp2_with fail
    go_loop [5, 25] (fun r i => ∃ (j : Nat) (x : Int), j ≤ 8 ∧ i = .int .i64 (j : Int) ∧ r = .int .u32 x) (fun _ i => 8 - (intOf i).toNat)
    case atStart => exact ⟨0, _, Nat.zero_le _, rfl, rfl⟩
    case round =>
     obtain ⟨j, x, hj, rfl, rfl⟩ := hrel
     by_cases hjl : j < 8
     · have m0 : (j : Int) < 8 := by omega
       go_wp2_with fail
       go_round
       case rel => exact ⟨j + 1, _, hjl, by go_num, rfl⟩
       case measure => exact meas hjl
     · have m0 : ¬ ((j : Int) < 8) := by omega
       go_wp2_with fail
       go_round
       case rel => exact ⟨k + 1, _, hlt, by go_num, rfl⟩
       case measure => exact meas hlt
  · have n0 : ¬ ((k : Int) < (n : Int)) := by omega
    go_wp2_with fail
    go_ret
    exact ⟨rfl, ⟨_, HG.out.1.set 0 _⟩, (Below.refl _ _).setCell (p := ⟨g, 0, none⟩) (Nat.le_refl _) _⟩
theorem crcof_any (A : Option Addr) (n c : Nat) (bs : List Int) (w : World) (h : IsB w A n c bs) (hn : n ≤ 1000000) :
  Calls Tryz.prog 219 #[.slice A n c] w fun e w' => (∃ x, e = .returned (.int .u32 x)) ∧ Below w.heap.size w w' := by
 have hN : ∀ w : World, Calls Tryz.prog 263 #[] w fun e w' => e = .returned (.pointer (some ⟨w.heap.size, 0, none⟩)) ∧ w' = w.alloc (.cells #[.int .u32 0] 392) := fun w => by
  go_enter Tryz.func263, Tryz.ntmps263
  go_wp2_with fail
  go_ret
  exact ⟨rfl, rfl⟩
 have hV : ∀ (w : World) (g : Nat) (t : Int), Bk w g 392 [.int .u32 t] → Calls Tryz.prog 265 #[.pointer (some ⟨g, 0, none⟩)] w fun e w' => e = .returned (.int .u32 t) ∧ w' = w := fun w g t hg => by
  have c0 := hg.cell (i := 0) (by simp)
  simp only [List.getElem_cons_zero] at c0
  go_enter Tryz.func265, Tryz.ntmps265
  go_wp2_with fail
  go_ret
  exact ⟨rfl, rfl⟩
 go_enter Tryz.func219, Tryz.ntmps219
 go_wp2_with fail
 refine (hN _).mono ?_
 rintro e w1 ⟨rfl, rfl⟩
 have hb1 : Below w.heap.size w (w.alloc (.cells #[.int .u32 0] 392)) := (Below.refl _ _).alloc (Nat.le_refl _) _
 go_wp2_with fail
 refine (crcadd_any w.heap.size 0 A n c bs _ (Bk.new w _ _) (h.next hb1) hn).mono ?_
 rintro e w2 ⟨rfl, ⟨t, ht⟩, hb2⟩
 go_wp2_with fail
 refine (hV w2 _ t ht).mono ?_
 rintro e w3 ⟨rfl, rfl⟩
 go_wp2_with fail
 go_ret
 exact ⟨⟨t, rfl⟩, hb1.trans hb2⟩
end
section
open Go.RowKit
theorem own_zero {w : World} {B e n c : Nat} {A : Option Addr} {xs : List Value} (h : w.ownsRow B e 1 (.slice A n c) n xs) : w.ownsRow B e 1 (.slice A 0 c) 0 [] := by
 rcases h.2 with ⟨h0, hn⟩ | ⟨g, cap, cur, hv, hb, hh, hc, hm, hs, _⟩
 · injection h0 with h1 h2 h3
   subst h1 h2 h3
   exact ⟨rfl, .inl ⟨rfl, rfl⟩⟩
 · injection hv with h1 h2 h3
   subst h1 h3
   exact ⟨rfl, .inr ⟨g, c, cur, rfl, hb, hh, Nat.zero_le _, hm, hs, by simp⟩⟩
theorem grow_any (n : Nat) (w : World) (hn : n ≤ 1000) :
  Calls Tryz.prog 262 #[.slice none 0 0, .int .i64 (n : Int)] w fun e w' => (∃ v, e = .returned v ∧ w'.ownsRow w.heap.size 5 1 v 0 []) ∧ Below w.heap.size w w' := by
 obtain ⟨i0, hi, hz0, hz1, hz2⟩ := info_parts infoB
 have n0 : ¬ ((n : Int) < 0) := by omega
 have w0 : wrap64 (n : Int) = (n : Int) := by unfold wrap64; omega
 have hzc : (Value.int .u8 0).cells = #[Value.int .u8 0] := rfl
 by_cases h0 : n = 0
 · subst h0
   go_enter Tryz.func262, Tryz.ntmps262
   go_wp2_with fail
   go_ret
   exact ⟨⟨_, rfl, rfl, .inl ⟨rfl, rfl⟩⟩, Below.refl _ _⟩
 · have n1 : (0 : Int) < (n : Int) := by omega
   have HN := Lib.hid hn
   clear hn h0
   go_enter Tryz.func262, Tryz.ntmps262
   go_wp2_with (at_builtin; go_must (refine wpList_app_zeros _ rfl _ _ 47 3 rfl w.heap.size 5 i0 (.int .u8 0) .i64 .i64 Tryz.underlying47 Tryz.underlying3 hi hz0 hz1 hz2 hzc rfl _ 0 [] (by rfl) (by exact ⟨rfl, .inl ⟨rfl, rfl⟩⟩) n (by first | rfl | exact congrArg (Value.int .i64) w0) (by have := HN.out; omega) (Nat.le_refl _) ?_); intro v1 w1 hO1 hG1; have HB := Lib.hid (show Below w.heap.size w w1 from (Below.refl _ _).grown hG1 (Nat.le_refl _) (fun g hg => by cases hg)); rw [Nat.zero_add] at hO1; obtain ⟨vA, vc, rfl⟩ := own_shape hO1; have HO := Lib.hid (own_zero hO1); clear hO1 hG1)
   go_ret
   exact ⟨⟨_, rfl, HO.out⟩, HB.out⟩
theorem wrap_sum {a c : Nat} (h : a + c ≤ 1000) : wrap64 ((a : Int) + (c : Int)) = ((a + c : Nat) : Int) := by unfold wrap64; omega
structure RB where
 A : Option Addr
 n : Nat
 c : Nat
 bs : List Int
def RB.cell (x : RB) : Value := .slice x.A x.n x.c
theorem concat_any (A : Option Addr) (n c : Nat) (rs : List RB) (w : World) (hl : rs.length = n) (h : Rd w w.heap.size A (rs.map RB.cell)) (hb : ∀ x ∈ rs, IsB w x.A x.n x.c x.bs) (hn : n ≤ 1000) (ht : (rs.map (·.n)).sum ≤ 1000) :
  Calls Tryz.prog 218 #[.slice A n c] w fun e w' => (∃ v, e = .returned v ∧ Byt w' w.heap.size v (rs.flatMap (·.bs))) ∧ Below w.heap.size w w' := by
 obtain ⟨i0, hi, hz0, hz1, hz2⟩ := info_parts infoB
 have tk : ∀ k, k ≤ n → ((rs.take k).map (·.n)).sum ≤ (rs.map (·.n)).sum := fun k _ => by
  conv => rhs; rw [← List.take_append_drop k rs, List.map_append, List.sum_append]
  omega
 have ts : ∀ k, (hk : k < rs.length) → ((rs.take (k + 1)).map (·.n)).sum = ((rs.take k).map (·.n)).sum + rs[k].n := fun k hk => by rw [List.take_succ_eq_append_getElem hk, List.map_append, List.sum_append]; simp
 have tf : ∀ k, (hk : k < rs.length) → (rs.take (k + 1)).flatMap (·.bs) = (rs.take k).flatMap (·.bs) ++ rs[k].bs := fun k hk => by rw [List.take_succ_eq_append_getElem hk, List.flatMap_append]; simp
 have tn : ∀ k, k ≤ n → ((rs.take k).flatMap (·.bs)).length = ((rs.take k).map (·.n)).sum := fun k => by
  induction k with
  | zero => intro _; simp
  | succ k ih => intro hk; rw [tf k (by omega), ts k (by omega), List.length_append, ih (by omega), (hb _ (List.getElem_mem _)).len]
 have HT := Lib.hid (And.intro tk (And.intro ts (And.intro tf (And.intro tn ht))))
 have HB := Lib.hid hb
 clear tk ts tf tn ht hb
 go_enter Tryz.func218, Tryz.ntmps218
 go_wp2_with fail
 go_loop [3, 11] (fun s i => ∃ (k t : Nat), k ≤ n ∧ i = .int .i64 (k : Int) ∧ s = .int .i64 (t : Int) ∧ Hid (t = ((rs.take k).map (·.n)).sum) ∧ t ≤ 1000) (fun _ i => n - (intOf i).toNat)
 case atStart => exact ⟨0, 0, Nat.zero_le _, rfl, rfl, Lib.hid (by simp), by omega⟩
 case round =>
  obtain ⟨k, t, hk, rfl, rfl, HS, ht⟩ := hrel
  by_cases hlt : k < n
  · obtain ⟨ad, rfl, _, e0⟩ := h.get (k := k) (by rw [List.length_map]; omega)
    rw [List.getElem_map] at e0
    obtain ⟨y, hy⟩ : ∃ y, rs[k]'(by omega) = y := ⟨_, rfl⟩
    rw [hy] at e0
    unfold RB.cell at e0
    have n0 : (k : Int) < (n : Int) := by omega
    have n1 : (0 : Int) ≤ (k : Int) := by omega
    have h1 := HT.out.2.1 k (by omega)
    rw [hy] at h1
    have h2 := HT.out.1 (k + 1) hlt
    have h3 := HT.out.2.2.2.2
    have h4 := HS.out
    have ht2 : t + y.n ≤ 1000 := by omega
    have HS2 := Lib.hid (show t + y.n = ((rs.take (k + 1)).map (·.n)).sum by omega)
    have wk := wrap_sum ht2
    have m0 : ¬ (((t + y.n : Nat) : Int) < 0) := Int.not_lt.2 (Int.natCast_nonneg _)
    clear hy h1 h2 h3 h4
    go_wp2_with fail
    go_round
    case rel => exact ⟨k + 1, t + y.n, hlt, by go_num, by go_num, HS2, ht2⟩
    case measure => exact meas hlt
  · obtain rfl : k = n := by omega
    have n0 : ¬ ((k : Int) < (k : Int)) := by omega
    have hgr := grow_any t w ht
    go_wp2_with fail
    refine hgr.mono ?_
    rintro e w1 ⟨⟨v, rfl, hv⟩, hb1⟩
    go_wp2_with fail
    go_loopw [6, 27] (fun s i wr => ∃ j : Nat, j ≤ k ∧ i = .int .i64 (j : Int) ∧ wr.ownsRow w.heap.size 5 1 s ((rs.take j).flatMap (·.bs)).length (((rs.take j).flatMap (·.bs)).map (Value.int .u8)) ∧ Below w.heap.size w wr) (fun _ i _ => k - (intOf i).toNat)
    case atStart => exact ⟨0, Nat.zero_le _, rfl, by simpa using hv, hb1⟩
    case round =>
     clear hv hb1
     obtain ⟨j, hj, rfl, hO, hW⟩ := hrel
     by_cases hlt : j < k
     · obtain ⟨ad, rfl, _, e0⟩ := (h.next (Nat.le_refl _) hW).get (k := j) (by rw [List.length_map]; omega)
       rw [List.getElem_map] at e0
       obtain ⟨y, hy⟩ : ∃ y, rs[j]'(by omega) = y := ⟨_, rfl⟩
       rw [hy] at e0
       unfold RB.cell at e0
       have n1 : (j : Int) < (k : Int) := by omega
       have n2 : (0 : Int) ≤ (j : Int) := by omega
       have h1 := HT.out.2.1 j (by omega)
       have h5 := HT.out.2.2.1 j (by omega)
       rw [hy] at h1 h5
       have h2 := HT.out.1 (j + 1) hlt
       have h3 := HT.out.2.2.2.2
       have h4 := HT.out.2.2.2.1 j (by omega)
       have hyb := HB.out y (by rw [← hy]; exact List.getElem_mem _)
       have HY := Lib.hid (show IsB wr y.A y.n y.c y.bs ∧ ((rs.take j).flatMap (·.bs)).length + y.n ≤ 1000 from ⟨hyb.next hW, by omega⟩)
       have HW := Lib.hid (And.intro hO hW)
       have HF := Lib.hid (And.intro h5 hyb.len)
       clear hy h1 h2 h3 h4 h5 hyb hO hW
       go_wp2_with (at_builtin; go_must (refine wpList_appN _ rfl _ _ 47 rfl w.heap.size 5 i0 (.int .u8 0) 1 Tryz.underlying47 hi hz0 hz1 hz2 rfl _ _ _ (by rfl) (by exact HW.out.1) wr.heap.size y.A y.n y.c (y.bs.map (Value.int .u8)) (by rfl) (by rw [List.length_map]; exact HY.out.1.len) (by exact HY.out.1.rd) one_int (by have := HY.out.2; omega) (by have := HY.out.2; omega) (by exact HW.out.2.size) ?_); intro v1 w1 hO1 hG1)
       go_roundw
       case rel => exact ⟨j + 1, hlt, by go_num, by rw [HF.out.1, List.length_append, List.map_append, HF.out.2]; exact hO1, HW.out.2.grown hG1 HW.out.2.size (fun g hg => (own_at_ge HW.out.1 hg))⟩
       case measure => exact meas hlt
     · obtain rfl : j = k := by omega
       rw [List.take_of_length_le (by omega)] at hO
       have HW := Lib.hid (And.intro hO hW)
       clear hO hW
       go_wp2_with fail
       go_ret
       refine ⟨⟨_, rfl, HW.out.1, fun x hx => ?_⟩, HW.out.2⟩
       obtain ⟨y, hy, hxy⟩ := List.mem_flatMap.1 hx
       exact (HB.out y hy).wf x hxy
theorem within_any (n a z : Int) (w : World) :
  Calls Tryz.prog 217 #[.int .i64 n, .int .i64 a, .int .i64 z] w fun e w' => e = .returned (.bool (decide (a ≤ n) && decide (n ≤ z))) ∧ w' = w := by
 by_cases h1 : a ≤ n
 · have d1 : decide (a ≤ n) = true := decide_eq_true h1
   by_cases h2 : n ≤ z
   · have d2 : decide (n ≤ z) = true := decide_eq_true h2
     go_enter Tryz.func217, Tryz.ntmps217
     go_wp2_with fail
     go_ret
     exact ⟨by simp [h1, h2], rfl⟩
   · have d2 : decide (n ≤ z) = false := decide_eq_false h2
     go_enter Tryz.func217, Tryz.ntmps217
     go_wp2_with fail
     go_ret
     exact ⟨by simp [h1, h2], rfl⟩
 · have d1 : decide (a ≤ n) = false := decide_eq_false h1
   go_enter Tryz.func217, Tryz.ntmps217
   go_wp2_with fail
   go_ret
   exact ⟨by simp [h1], rfl⟩
end
section
open Go.RowKit
theorem In.of {w : World} {F : Foot} (h : ∀ b, F b → b < w.heap.size) : In w F := h
theorem dev_get {w : World} {F : Foot} {gd : Nat} {ns : List Nat} (h : Dev w F gd ns) {i k : Nat} (hi : ns[i]? = some k) : ∃ zsl ops reads left zs z, DevX w F gd zsl ops reads left zs ∧ zs.map (·.n) = ns ∧ zs[i]? = some z ∧ z.n = k := by
 obtain ⟨zsl, ops, reads, left, zs, hx, hn⟩ := h
 rw [← hn, List.getElem?_map] at hi
 cases hz : zs[i]? with
 | none => rw [hz] at hi; cases hi
 | some z => rw [hz] at hi; injection hi with hi; exact ⟨zsl, ops, reads, left, zs, z, hx, hn, hz, hi⟩
theorem map_set_n {zs : List ZD} {i : Nat} (z : ZD) : (zs.set i z).map (·.n) = (zs.map (·.n)).set i z.n := by rw [List.map_set]
theorem reset_any (F : Foot) (gd : Nat) (ns : List Nat) (i k : Nat) (w : World) (h : Dev w F gd ns) (hi : ns[i]? = some k) :
  Calls Tryz.prog 48 #[.pointer (some ⟨gd, 0, none⟩), .int .i64 (i : Int)] w fun e w' => e = .returned (.int .i64 0) ∧ Dev w' F gd (ns.set i 0) ∧ Kf F w w' := by
 obtain ⟨zsl, ops, reads, left, zs, z, hx, hn, hz, hzn⟩ := dev_get h hi
 have ha := at_any F gd zsl ops reads left zs i z w hx hz
 have hg := begin_any F gd zsl ops reads left zs w hx
 unfold zp at ha
 go_enter Tryz.func48, Tryz.ntmps48
 go_wp2_with fail
 refine ha.mono ?_
 rintro e w' ⟨rfl, rfl⟩
 go_wp2_with fail
 refine hg.mono ?_
 rintro e w1 ⟨rfl, ⟨ops', hx1⟩, hk1⟩
 have hzm := List.mem_of_getElem? hz
 have hb := hx1.zb z hzm
 obtain ⟨c0, c1⟩ := hb.c2
 have f0 := hb.free 0
 have f1 := hb.free 1
 obtain ⟨w2, hw2⟩ : ∃ w2, (w1.setCell ⟨z.gz, 0, none⟩ (.slice none 0 0)).setCell ⟨z.gz, 1, none⟩ (.int .i64 0) = w2 := ⟨_, rfl⟩
 have hb2 : Bk w2 z.gz 146 [.slice none 0 0, .int .i64 0] := by rw [← hw2]; exact (hb.set 0 _).set 1 _
 have hk2 : Kf F w w2 := by rw [← hw2]; exact (hk1.set hb (by decide) (.inl (hx1.f2 z hzm)) _ _).set (hb.set 0 _) (by decide) (.inl (hx1.f2 z hzm)) _ _
 have hq2 : Kp2 (fun b => b = z.gz ∨ z.v.ownBlock = some b) w1 w2 := by rw [← hw2]; exact ((Kp2.set w1 z.gz 0 _).trans (Kp2.set _ z.gz 1 _)).mono (fun b q => .inl q)
 have hD : Dev w2 F gd (ns.set i 0) := ⟨zsl, ops', reads, left, _, hx1.setZ hz (.slice none 0 0) 0 [] 0 hq2 hb2 ⟨rfl, .inl ⟨rfl, rfl⟩⟩ (by omega) (fun g hg => by cases hg) (fun b q => q) (fun g hg => by cases hg), by rw [map_set_n, hn]⟩
 have HE := Lib.hid (And.intro hD hk2)
 clear hD hk2 hq2 hb2 hb hx1 hk1 hx ha hg hzm hz h
 go_wp2_with fail
 go_ret
 exact ⟨rfl, HE.out⟩
theorem dflush_any (F : Foot) (gd : Nat) (ns : List Nat) (w : World) (h : Dev w F gd ns) :
  Calls Tryz.prog 93 #[.pointer (some ⟨gd, 0, none⟩)] w fun e w' => e = .returned (.int .i64 0) ∧ Dev w' F gd ns ∧ Kf F w w' := by
 obtain ⟨zsl, ops, reads, left, zs, hx, hn⟩ := h
 have hgo := gone_any F gd zsl ops reads left zs w hx
 have hg := begin_any F gd zsl ops reads left zs w hx
 go_enter Tryz.func93, Tryz.ntmps93
 go_wp2_with fail
 refine hgo.mono ?_
 rintro e w' ⟨rfl, rfl⟩
 go_wp2_with fail
 refine hg.mono ?_
 rintro e w1 ⟨rfl, ⟨ops', hx1⟩, hk1⟩
 obtain ⟨az, cz, hzs⟩ := own_slice hx1.zr (by omega)
 subst hzs
 have c2 := hx1.bx.cell (i := 2) (by simp)
 simp only [List.getElem_cons_zero, List.getElem_cons_succ] at c2
 have H1 := Lib.hid (And.intro hx1 (And.intro hk1 hn))
 clear hx1 hk1 hn hgo hg hx
 go_wp2_with fail
 go_loopw [17] (fun i wr => ∃ (k : Nat) (zs' : List ZD), k ≤ 8 ∧ i = .int .i64 (k : Int) ∧ Kf F w wr ∧ DevX wr F gd (.slice (some ⟨az, 0, none⟩) 8 cz) ops' reads left zs' ∧ zs'.map (·.n) = ns) (fun i _ => 8 - (intOf i).toNat)
 case atStart => exact ⟨0, zs, by omega, rfl, H1.out.2.1, H1.out.1, H1.out.2.2⟩
 case round =>
  clear c2
  obtain ⟨k, zs', hk, rfl, hkf, hx2, hn2⟩ := hrel
  by_cases hlt : k < 8
  · have hil : k < zs'.length := by rw [hx2.zl]; exact hlt
    obtain ⟨z, hz⟩ : ∃ z, zs'[k]? = some z := ⟨_, List.getElem?_eq_getElem hil⟩
    have hzm := List.mem_of_getElem? hz
    have e0 := hx2.zr.cellAt k (by omega)
    rw [List.getElem?_map, hz] at e0
    replace e0 : wr.cell? ⟨az, k, none⟩ = some (.pointer (some ⟨z.gz, 0, none⟩)) := e0
    have hb := hx2.zb z hzm
    obtain ⟨d0, d1⟩ := hb.c2
    have f1 := hb.free 1
    obtain ⟨vA, vc, hvs⟩ := own_shape (hx2.zo z hzm)
    rw [hvs] at d0
    have n0 : (k : Int) < 8 := by omega
    have n1 : (0 : Int) ≤ (k : Int) := by omega
    obtain ⟨w2, hw2⟩ : ∃ w2, wr.setCell ⟨z.gz, 1, none⟩ (.int .i64 (z.n : Int)) = w2 := ⟨_, rfl⟩
    have hb2 : Bk w2 z.gz 146 [z.v, .int .i64 (z.n : Int)] := by rw [← hw2]; exact hb.set 1 _
    have hk2 : Kf F w w2 := by rw [← hw2]; exact hkf.set hb (by decide) (.inl (hx2.f2 z hzm)) _ _
    have hq : Kp2 (fun b => b = z.gz) wr w2 := by rw [← hw2]; exact Kp2.set wr z.gz 1 _
    have ho2 : w2.ownsRow 0 47 1 z.v z.n z.rows := hq.own (hx2.zo z hzm) (fun g hg e => own_ne_bk (hx2.zo z hzm) hb (by decide) (by rw [hg, e]))
    have hD := hx2.setZ hz z.v z.n z.rows (z.n : Int) (hq.mono (fun b q => .inl q)) hb2 ho2 (hx2.mx z hzm) (fun g hg => .inl hg) (fun b q => q) (fun g hg => hx2.f3 z hzm g hg)
    have hn3 : (zs'.set k ⟨z.gz, z.v, z.n, z.rows, (z.n : Int)⟩).map (·.n) = ns := by
     rw [map_set_n, hn2]
     have : ns[k]? = some z.n := by rw [← hn2, List.getElem?_map, hz]; rfl
     exact List.ext_getElem? fun j => by
      rw [List.getElem?_set]
      split
      · rename_i e; subst e; rw [this]; simp; have := (List.getElem?_eq_some_iff.1 this).1; omega
      · rfl
    have HE := Lib.hid (And.intro hk2 (And.intro hD hn3))
    clear hk2 hD hn3 hq ho2 hb2 hb hx2 hn2 hkf hzm hz hvs
    go_wp2_with fail
    go_roundw
    case rel => exact ⟨k + 1, _, hlt, by go_num, HE.out.1, HE.out.2.1, HE.out.2.2⟩
    case measure => exact meas hlt
  · have n0 : ¬ ((k : Int) < 8) := by omega
    have HE := Lib.hid (And.intro hkf (And.intro hx2 hn2))
    clear hkf hx2 hn2
    go_wp2_with fail
    go_ret
    exact ⟨rfl, ⟨_, _, _, _, _, HE.out.2.1, HE.out.2.2⟩, HE.out.1⟩
end
section
open Go.RowKit
theorem within_yes (n a z : Int) (w : World) (h1 : a ≤ n) (h2 : n ≤ z) : Calls Tryz.prog 217 #[.int .i64 n, .int .i64 a, .int .i64 z] w fun e w' => e = .returned (.bool true) ∧ w = w' :=
 (within_any n a z w).mono fun e w' h => by rw [decide_eq_true h1, decide_eq_true h2] at h; exact ⟨h.1, h.2.symm⟩
theorem alloc_name {B : Nat} {a W : World} (_ : Below B a W) (t : TypeId) (cs : List Value) : ∃ g wA, W.heap.size = g ∧ W.alloc (.cells cs.toArray t) = wA ∧ Bk wA g t cs ∧ Below W.heap.size W wA := ⟨_, _, rfl, rfl, Bk.new W t cs, (Below.refl _ _).alloc (Nat.le_refl _) _⟩
theorem Byt.next {w w' : World} {B : Nat} {v : Value} {bs : List Int} (h : Byt w B v bs) (hb : Below w.heap.size w w') : Byt w' B v bs := ⟨own_bel' h.1 hb, h.2⟩
theorem Byt.base {w : World} {B C : Nat} {v : Value} {bs : List Int} (h : Byt w C v bs) (hB : B ≤ C) : Byt w B v bs := by
 refine ⟨⟨h.1.1, ?_⟩, h.2⟩
 rcases h.1.2 with h0 | ⟨g, cap, cur, hv, hb, r⟩
 · exact .inl h0
 · exact .inr ⟨g, cap, cur, hv, Nat.le_trans hB hb, r⟩
theorem five {W : World} {g7 g22 n n4 n8 n5 c c4 c8 c5 B4 B8 B5 : Nat} {A A4 A8 A5 : Option Addr} {x y : Int} {b4 b8 b5 bs : List Int} (h7 : Bk W g7 5 [.int .u8 x, .int .u8 y]) (hx : 0 ≤ x ∧ x < 256) (hy : 0 ≤ y ∧ y < 256) (h4 : Byt W B4 (.slice A4 n4 c4) b4) (l4 : b4.length = 4) (h8 : Byt W B8 (.slice A8 n8 c8) b8) (l8 : b8.length = 8) (h5 : Byt W B5 (.slice A5 n5 c5) b5) (l5 : b5.length = 4)
  (hb : IsB W A n c bs) (hn : n ≤ 40) (h22 : Bk W g22 47 [.slice (some ⟨g7, 0, none⟩) 2 2, .slice A4 n4 c4, .slice A8 n8 c8, .slice A5 n5 c5, .slice A n c]) :
  ∃ rs : List RB, rs.length = 5 ∧ Rd W W.heap.size (some ⟨g22, 0, none⟩) (rs.map RB.cell) ∧ (∀ x ∈ rs, IsB W x.A x.n x.c x.bs) ∧ (rs.map (·.n)).sum ≤ 1000 ∧ (rs.flatMap (·.bs)).length = 18 + n := by
 have e : ∀ {A : Option Addr} {n c B : Nat} {bs : List Int}, Byt W B (.slice A n c) bs → n = bs.length ∧ IsB W A n c bs := fun h => by
  obtain ⟨A', c', e, hi⟩ := h.isB
  injection e with e1 e2 e3
  subst e1 e2 e3
  exact ⟨rfl, hi⟩
 obtain ⟨e4, i4⟩ := e h4
 obtain ⟨e8, i8⟩ := e h8
 obtain ⟨e5, i5⟩ := e h5
 have i7 : IsB W (some ⟨g7, 0, none⟩) 2 2 [x, y] := ⟨rfl, h7.rd, by intro z hz; simp at hz; rcases hz with rfl | rfl <;> assumption, Nat.le_refl _, by simp [maxLen]⟩
 refine ⟨[⟨some ⟨g7, 0, none⟩, 2, 2, [x, y]⟩, ⟨A4, n4, c4, b4⟩, ⟨A8, n8, c8, b8⟩, ⟨A5, n5, c5, b5⟩, ⟨A, n, c, bs⟩], rfl, h22.rd, ?_, ?_, ?_⟩
 · intro z hz
   simp at hz
   rcases hz with rfl | rfl | rfl | rfl | rfl <;> assumption
 · simp; omega
 · have := hb.len
   simp; omega
theorem encode_any (kind ep seq lba : Int) (A : Option Addr) (n c : Nat) (bs : List Int) (w : World) (hk : 1 ≤ kind ∧ kind ≤ 4) (he : 0 ≤ ep ∧ ep ≤ 4294967295) (hs : 0 ≤ seq ∧ seq ≤ 1099511627776) (hl : 0 ≤ lba ∧ lba ≤ 1048576) (hb : IsB w A n c bs) (hn : n ≤ 40) :
  Calls Tryz.prog 155 #[.agg #[.int .i64 kind, .int .i64 ep, .int .i64 seq, .int .i64 lba, .slice A n c]] w fun e w' => (∃ v bs', e = .returned (.tuple #[v, .int .i64 0]) ∧ Byt w' w.heap.size v bs' ∧ bs'.length = 64) ∧ Below w.heap.size w w' := by
 obtain ⟨i0, hi, hz0, hz1, hz2⟩ := info_parts infoB
 obtain ⟨w1, hw1⟩ : ∃ w1, w.alloc (.cells #[.int .i64 kind, .int .i64 ep, .int .i64 seq, .int .i64 lba, .slice A n c] 248) = w1 := ⟨_, rfl⟩
 have hb1 : Below w.heap.size w w1 := by rw [← hw1]; exact (Below.refl _ _).alloc (Nat.le_refl _) _
 have hp1 : Bk w1 w.heap.size 248 [.int .i64 kind, .int .i64 ep, .int .i64 seq, .int .i64 lba, .slice A n c] := by rw [← hw1]; exact Bk.new w _ _
 obtain ⟨c0, c1, c2, c3, c4⟩ := hp1.c5
 have K := Lib.hid (fun w' (h : Below w1.heap.size w1 w') => (show w'.cell? ⟨w.heap.size, 0, none⟩ = some (.int .i64 kind) ∧ w'.cell? ⟨w.heap.size, 1, none⟩ = some (.int .i64 ep) ∧ w'.cell? ⟨w.heap.size, 2, none⟩ = some (.int .i64 seq) ∧ w'.cell? ⟨w.heap.size, 3, none⟩ = some (.int .i64 lba) ∧ w'.cell? ⟨w.heap.size, 4, none⟩ = some (.slice A n c) from by
  have h := hp1.next h hp1.lt
  exact ⟨h.cell (i := 0) (by simp), h.cell (i := 1) (by simp), h.cell (i := 2) (by simp), h.cell (i := 3) (by simp), h.cell (i := 4) (by simp)⟩))
 have H1 := Lib.hid (And.intro hb1 (And.intro hp1 (hb.next hb1)))
 have t0 : decide (40 < (n : Int)) = false := decide_eq_false (by omega)
 have HC := Lib.hid (And.intro hk (And.intro he (And.intro hs (And.intro hl hn))))
 clear hb1 hp1 hb hk he hs hl hn
 go_enter Tryz.func155, Tryz.ntmps155
 go_wp2_with fail
 refine (within_yes _ _ _ _ HC.out.1.1 HC.out.1.2).mono ?_
 rintro e w' ⟨rfl, rfl⟩
 go_wp2_with fail
 refine (within_yes _ _ _ _ HC.out.2.1.1 HC.out.2.1.2).mono ?_
 rintro e w' ⟨rfl, rfl⟩
 go_wp2_with fail
 refine (within_yes _ _ _ _ HC.out.2.2.1.1 HC.out.2.2.1.2).mono ?_
 rintro e w' ⟨rfl, rfl⟩
 go_wp2_with fail
 refine (within_yes _ _ _ _ HC.out.2.2.2.1.1 HC.out.2.2.2.1.2).mono ?_
 rintro e w' ⟨rfl, rfl⟩
 go_wp2_with fail
 go_cut [4] from 33 to 56 (fun v wx => ∃ bs', Byt wx w.heap.size v bs' ∧ bs'.length = 18 + n ∧ Below w.heap.size w wx)
 case first =>
  have Kq := K
  refine wp_region_held_drew (S := fun w' => Below w1.heap.size w1 w') (by kernel_rfl) (bdrew (Below.refl _ _)) (fun hHeld => ?_)
  obtain ⟨wd, hwd⟩ : ∃ wd, w1.drew = wd := ⟨_, rfl⟩
  rw [hwd] at hHeld ⊢
  clear hwd
  refine kF 0 ?_; refine kF 1 ?_; refine kF 2 ?_; refine kF 3 ?_; refine kF 4 ?_; refine kF 5 ?_; refine kF 6 ?_; refine kF 8 ?_; refine kF 9 ?_; refine kF 10 ?_; refine kF 12 ?_; refine kF 13 ?_
  refine kF 14 ?_; refine kF 16 ?_; refine kF 17 ?_; refine kF 18 ?_; refine kF 20 ?_; refine kF 21 ?_
  refine wpAnyH_ready (rs := [7, 11]) (by kernel_rfl) (by simp) ?_
  refine AllReadyH.cons (by simp only [List.getElem?_toArray, List.getElem?_cons_succ, List.getElem?_cons_zero]; rfl) (fun K' hK => ?_) (AllReadyH.cons (by simp only [List.getElem?_toArray, List.getElem?_cons_succ, List.getElem?_cons_zero]; rfl) (fun K' hK => ?_) AllReadyH.nil)
  · skip
    go_simp
    obtain ⟨g7, wA, hg7, hwA, hB7, hb'⟩ := alloc_name hHeld 5 [.int .u8 (IntKind.u8.wrap kind), .int .u8 (IntKind.u8.wrap (n : Int))]
    rw [hwA]
    clear hwA
    try simp only [World.size_drew] at hg7
    have hS' := hHeld.trans (hb'.mono hHeld.size)
    clear hb'
    refine hK.out _ _ (hS') (fun hHeld2 => ?_)
    clear hK K' hHeld
    have hHeld := hHeld2
    clear hHeld2
    try simp only [Act.put, List.setIfInBounds_toArray, List.set_cons_zero, List.set_cons_succ]
    clear hS'
    refine rF 11 (fun K' hK => ?_)
    go_simp
    refine (put32_any _ _).mono ?_
    rintro e w4 ⟨⟨u4, b4, rfl, hY4, l4⟩, hb'⟩
    obtain ⟨A4, c4, rfl⟩ := own_shape hY4.1
    have L4 := Lib.hid l4
    clear l4
    have hS' := hHeld.trans (hb'.mono hHeld.size)
    go_simp
    replace hB7 := hB7.next hb' hB7.lt
    clear hb'
    refine hK.out _ _ (hS') (fun hHeld2 => ?_)
    clear hK K' hHeld
    have hHeld := hHeld2
    clear hHeld2
    try simp only [Act.put, List.setIfInBounds_toArray, List.set_cons_zero, List.set_cons_succ]
    clear hS'
    refine rF 15 (fun K' hK => ?_)
    go_simp
    refine (put64_any _ _).mono ?_
    rintro e w8 ⟨⟨u8, b8, rfl, hY8, l8⟩, hb'⟩
    obtain ⟨A8, c8, rfl⟩ := own_shape hY8.1
    have L8 := Lib.hid l8
    clear l8
    have hS' := hHeld.trans (hb'.mono hHeld.size)
    go_simp
    replace hB7 := hB7.next hb' hB7.lt
    replace hY4 := hY4.next hb'
    clear hb'
    refine hK.out _ _ (hS') (fun hHeld2 => ?_)
    clear hK K' hHeld
    have hHeld := hHeld2
    clear hHeld2
    try simp only [Act.put, List.setIfInBounds_toArray, List.set_cons_zero, List.set_cons_succ]
    clear hS'
    refine rF 19 (fun K' hK => ?_)
    go_simp
    refine (put32_any _ _).mono ?_
    rintro e w5 ⟨⟨u5, b5, rfl, hY5, l5⟩, hb'⟩
    obtain ⟨A5, c5, rfl⟩ := own_shape hY5.1
    have L5 := Lib.hid l5
    clear l5
    have hS' := hHeld.trans (hb'.mono hHeld.size)
    go_simp
    replace hB7 := hB7.next hb' hB7.lt
    replace hY4 := hY4.next hb'
    replace hY8 := hY8.next hb'
    clear hb'
    refine hK.out _ _ (hS') (fun hHeld2 => ?_)
    clear hK K' hHeld
    have hHeld := hHeld2
    clear hHeld2
    try simp only [Act.put, List.setIfInBounds_toArray, List.set_cons_zero, List.set_cons_succ]
    clear hS'
    refine rF 22 (fun K' hK => ?_)
    go_simp
    obtain ⟨g22, wB, hg22, hwB, h22, hb'⟩ := alloc_name hHeld 47 [.slice (some ⟨g7, 0, none⟩) 2 2, .slice A4 b4.length c4, .slice A8 b8.length c8, .slice A5 b5.length c5, .slice A n c]
    rw [hwB]
    clear hwB
    have hS' := hHeld.trans (hb'.mono hHeld.size)
    replace hB7 := hB7.next hb' hB7.lt
    replace hY4 := hY4.next hb'
    replace hY8 := hY8.next hb'
    replace hY5 := hY5.next hb'
    clear hb'
    refine hK.out _ _ (hS') (fun hHeld2 => ?_)
    clear hK K' hHeld
    have hHeld := hHeld2
    clear hHeld2
    try simp only [Act.put, List.setIfInBounds_toArray, List.set_cons_zero, List.set_cons_succ]
    clear hS'
    refine rF 23 (fun K' hK => ?_)
    go_simp
    obtain ⟨rs, r1, r2, r3, r4, r5⟩ := five hB7 (u8_wrap _) (u8_wrap _) hY4 L4.out hY8 L8.out hY5 L5.out (H1.out.2.2.next hHeld) HC.out.2.2.2.2 h22
    refine (concat_any _ _ _ rs _ r1 r2 r3 (by omega) r4).mono ?_
    rintro e wc ⟨⟨v, rfl, hv⟩, hb'⟩
    have hS' := hHeld.trans (hb'.mono hHeld.size)
    have hvb := hv.base (B := w.heap.size) (Nat.le_trans H1.out.1.size hHeld.size)
    clear hv hb' r1 r2 r3 r4
    go_simp
    refine hK.out _ _ (hS') (fun hHeld2 => ?_)
    clear hK K' hHeld
    have hHeld := hHeld2
    clear hHeld2
    try simp only [Act.put, List.setIfInBounds_toArray, List.set_cons_zero, List.set_cons_succ]
    refine kF 24 ?_
    refine wpAnyH_done (by kernel_rfl) ?_ _
    go_wp2_with fail
    go_meet
    exact ⟨_, hvb, r5, H1.out.1.trans (hHeld.mono H1.out.1.size)⟩
  · skip
    go_simp
    refine (put32_any _ _).mono ?_
    rintro e w4 ⟨⟨u4, b4, rfl, hY4, l4⟩, hb'⟩
    obtain ⟨A4, c4, rfl⟩ := own_shape hY4.1
    have L4 := Lib.hid l4
    clear l4
    have hS' := hHeld.trans (hb'.mono hHeld.size)
    go_simp
    clear hb'
    refine hK.out _ _ (hS') (fun hHeld2 => ?_)
    clear hK K' hHeld
    have hHeld := hHeld2
    clear hHeld2
    try simp only [Act.put, List.setIfInBounds_toArray, List.set_cons_zero, List.set_cons_succ]
    clear hS'
    refine wpAnyH_ready (rs := [7, 15]) (by kernel_rfl) (by simp) ?_
    refine AllReadyH.cons (by simp only [List.getElem?_toArray, List.getElem?_cons_succ, List.getElem?_cons_zero]; rfl) (fun K' hK => ?_) (AllReadyH.cons (by simp only [List.getElem?_toArray, List.getElem?_cons_succ, List.getElem?_cons_zero]; rfl) (fun K' hK => ?_) AllReadyH.nil)
    · skip
      go_simp
      obtain ⟨g7, wA, hg7, hwA, hB7, hb'⟩ := alloc_name hHeld 5 [.int .u8 (IntKind.u8.wrap kind), .int .u8 (IntKind.u8.wrap (n : Int))]
      rw [hwA]
      clear hwA
      try simp only [World.size_drew] at hg7
      have hS' := hHeld.trans (hb'.mono hHeld.size)
      replace hY4 := hY4.next hb'
      clear hb'
      refine hK.out _ _ (hS') (fun hHeld2 => ?_)
      clear hK K' hHeld
      have hHeld := hHeld2
      clear hHeld2
      try simp only [Act.put, List.setIfInBounds_toArray, List.set_cons_zero, List.set_cons_succ]
      clear hS'
      refine rF 15 (fun K' hK => ?_)
      go_simp
      refine (put64_any _ _).mono ?_
      rintro e w8 ⟨⟨u8, b8, rfl, hY8, l8⟩, hb'⟩
      obtain ⟨A8, c8, rfl⟩ := own_shape hY8.1
      have L8 := Lib.hid l8
      clear l8
      have hS' := hHeld.trans (hb'.mono hHeld.size)
      go_simp
      replace hB7 := hB7.next hb' hB7.lt
      replace hY4 := hY4.next hb'
      clear hb'
      refine hK.out _ _ (hS') (fun hHeld2 => ?_)
      clear hK K' hHeld
      have hHeld := hHeld2
      clear hHeld2
      try simp only [Act.put, List.setIfInBounds_toArray, List.set_cons_zero, List.set_cons_succ]
      clear hS'
      refine rF 19 (fun K' hK => ?_)
      go_simp
      refine (put32_any _ _).mono ?_
      rintro e w5 ⟨⟨u5, b5, rfl, hY5, l5⟩, hb'⟩
      obtain ⟨A5, c5, rfl⟩ := own_shape hY5.1
      have L5 := Lib.hid l5
      clear l5
      have hS' := hHeld.trans (hb'.mono hHeld.size)
      go_simp
      replace hB7 := hB7.next hb' hB7.lt
      replace hY4 := hY4.next hb'
      replace hY8 := hY8.next hb'
      clear hb'
      refine hK.out _ _ (hS') (fun hHeld2 => ?_)
      clear hK K' hHeld
      have hHeld := hHeld2
      clear hHeld2
      try simp only [Act.put, List.setIfInBounds_toArray, List.set_cons_zero, List.set_cons_succ]
      clear hS'
      refine rF 22 (fun K' hK => ?_)
      go_simp
      obtain ⟨g22, wB, hg22, hwB, h22, hb'⟩ := alloc_name hHeld 47 [.slice (some ⟨g7, 0, none⟩) 2 2, .slice A4 b4.length c4, .slice A8 b8.length c8, .slice A5 b5.length c5, .slice A n c]
      rw [hwB]
      clear hwB
      have hS' := hHeld.trans (hb'.mono hHeld.size)
      replace hB7 := hB7.next hb' hB7.lt
      replace hY4 := hY4.next hb'
      replace hY8 := hY8.next hb'
      replace hY5 := hY5.next hb'
      clear hb'
      refine hK.out _ _ (hS') (fun hHeld2 => ?_)
      clear hK K' hHeld
      have hHeld := hHeld2
      clear hHeld2
      try simp only [Act.put, List.setIfInBounds_toArray, List.set_cons_zero, List.set_cons_succ]
      clear hS'
      refine rF 23 (fun K' hK => ?_)
      go_simp
      obtain ⟨rs, r1, r2, r3, r4, r5⟩ := five hB7 (u8_wrap _) (u8_wrap _) hY4 L4.out hY8 L8.out hY5 L5.out (H1.out.2.2.next hHeld) HC.out.2.2.2.2 h22
      refine (concat_any _ _ _ rs _ r1 r2 r3 (by omega) r4).mono ?_
      rintro e wc ⟨⟨v, rfl, hv⟩, hb'⟩
      have hS' := hHeld.trans (hb'.mono hHeld.size)
      have hvb := hv.base (B := w.heap.size) (Nat.le_trans H1.out.1.size hHeld.size)
      clear hv hb' r1 r2 r3 r4
      go_simp
      refine hK.out _ _ (hS') (fun hHeld2 => ?_)
      clear hK K' hHeld
      have hHeld := hHeld2
      clear hHeld2
      try simp only [Act.put, List.setIfInBounds_toArray, List.set_cons_zero, List.set_cons_succ]
      refine kF 24 ?_
      refine wpAnyH_done (by kernel_rfl) ?_ _
      go_wp2_with fail
      go_meet
      exact ⟨_, hvb, r5, H1.out.1.trans (hHeld.mono H1.out.1.size)⟩
    · skip
      go_simp
      refine (put64_any _ _).mono ?_
      rintro e w8 ⟨⟨u8, b8, rfl, hY8, l8⟩, hb'⟩
      obtain ⟨A8, c8, rfl⟩ := own_shape hY8.1
      have L8 := Lib.hid l8
      clear l8
      have hS' := hHeld.trans (hb'.mono hHeld.size)
      go_simp
      replace hY4 := hY4.next hb'
      clear hb'
      refine hK.out _ _ (hS') (fun hHeld2 => ?_)
      clear hK K' hHeld
      have hHeld := hHeld2
      clear hHeld2
      try simp only [Act.put, List.setIfInBounds_toArray, List.set_cons_zero, List.set_cons_succ]
      clear hS'
      refine wpAnyH_ready (rs := [7, 19]) (by kernel_rfl) (by simp) ?_
      refine AllReadyH.cons (by simp only [List.getElem?_toArray, List.getElem?_cons_succ, List.getElem?_cons_zero]; rfl) (fun K' hK => ?_) (AllReadyH.cons (by simp only [List.getElem?_toArray, List.getElem?_cons_succ, List.getElem?_cons_zero]; rfl) (fun K' hK => ?_) AllReadyH.nil)
      · skip
        go_simp
        obtain ⟨g7, wA, hg7, hwA, hB7, hb'⟩ := alloc_name hHeld 5 [.int .u8 (IntKind.u8.wrap kind), .int .u8 (IntKind.u8.wrap (n : Int))]
        rw [hwA]
        clear hwA
        try simp only [World.size_drew] at hg7
        have hS' := hHeld.trans (hb'.mono hHeld.size)
        replace hY4 := hY4.next hb'
        replace hY8 := hY8.next hb'
        clear hb'
        refine hK.out _ _ (hS') (fun hHeld2 => ?_)
        clear hK K' hHeld
        have hHeld := hHeld2
        clear hHeld2
        try simp only [Act.put, List.setIfInBounds_toArray, List.set_cons_zero, List.set_cons_succ]
        clear hS'
        refine rF 19 (fun K' hK => ?_)
        go_simp
        refine (put32_any _ _).mono ?_
        rintro e w5 ⟨⟨u5, b5, rfl, hY5, l5⟩, hb'⟩
        obtain ⟨A5, c5, rfl⟩ := own_shape hY5.1
        have L5 := Lib.hid l5
        clear l5
        have hS' := hHeld.trans (hb'.mono hHeld.size)
        go_simp
        replace hB7 := hB7.next hb' hB7.lt
        replace hY4 := hY4.next hb'
        replace hY8 := hY8.next hb'
        clear hb'
        refine hK.out _ _ (hS') (fun hHeld2 => ?_)
        clear hK K' hHeld
        have hHeld := hHeld2
        clear hHeld2
        try simp only [Act.put, List.setIfInBounds_toArray, List.set_cons_zero, List.set_cons_succ]
        clear hS'
        refine rF 22 (fun K' hK => ?_)
        go_simp
        obtain ⟨g22, wB, hg22, hwB, h22, hb'⟩ := alloc_name hHeld 47 [.slice (some ⟨g7, 0, none⟩) 2 2, .slice A4 b4.length c4, .slice A8 b8.length c8, .slice A5 b5.length c5, .slice A n c]
        rw [hwB]
        clear hwB
        have hS' := hHeld.trans (hb'.mono hHeld.size)
        replace hB7 := hB7.next hb' hB7.lt
        replace hY4 := hY4.next hb'
        replace hY8 := hY8.next hb'
        replace hY5 := hY5.next hb'
        clear hb'
        refine hK.out _ _ (hS') (fun hHeld2 => ?_)
        clear hK K' hHeld
        have hHeld := hHeld2
        clear hHeld2
        try simp only [Act.put, List.setIfInBounds_toArray, List.set_cons_zero, List.set_cons_succ]
        clear hS'
        refine rF 23 (fun K' hK => ?_)
        go_simp
        obtain ⟨rs, r1, r2, r3, r4, r5⟩ := five hB7 (u8_wrap _) (u8_wrap _) hY4 L4.out hY8 L8.out hY5 L5.out (H1.out.2.2.next hHeld) HC.out.2.2.2.2 h22
        refine (concat_any _ _ _ rs _ r1 r2 r3 (by omega) r4).mono ?_
        rintro e wc ⟨⟨v, rfl, hv⟩, hb'⟩
        have hS' := hHeld.trans (hb'.mono hHeld.size)
        have hvb := hv.base (B := w.heap.size) (Nat.le_trans H1.out.1.size hHeld.size)
        clear hv hb' r1 r2 r3 r4
        go_simp
        refine hK.out _ _ (hS') (fun hHeld2 => ?_)
        clear hK K' hHeld
        have hHeld := hHeld2
        clear hHeld2
        try simp only [Act.put, List.setIfInBounds_toArray, List.set_cons_zero, List.set_cons_succ]
        refine kF 24 ?_
        refine wpAnyH_done (by kernel_rfl) ?_ _
        go_wp2_with fail
        go_meet
        exact ⟨_, hvb, r5, H1.out.1.trans (hHeld.mono H1.out.1.size)⟩
      · skip
        go_simp
        refine (put32_any _ _).mono ?_
        rintro e w5 ⟨⟨u5, b5, rfl, hY5, l5⟩, hb'⟩
        obtain ⟨A5, c5, rfl⟩ := own_shape hY5.1
        have L5 := Lib.hid l5
        clear l5
        have hS' := hHeld.trans (hb'.mono hHeld.size)
        go_simp
        replace hY4 := hY4.next hb'
        replace hY8 := hY8.next hb'
        clear hb'
        refine hK.out _ _ (hS') (fun hHeld2 => ?_)
        clear hK K' hHeld
        have hHeld := hHeld2
        clear hHeld2
        try simp only [Act.put, List.setIfInBounds_toArray, List.set_cons_zero, List.set_cons_succ]
        clear hS'
        refine rF 7 (fun K' hK => ?_)
        go_simp
        obtain ⟨g7, wA, hg7, hwA, hB7, hb'⟩ := alloc_name hHeld 5 [.int .u8 (IntKind.u8.wrap kind), .int .u8 (IntKind.u8.wrap (n : Int))]
        rw [hwA]
        clear hwA
        try simp only [World.size_drew] at hg7
        have hS' := hHeld.trans (hb'.mono hHeld.size)
        replace hY4 := hY4.next hb'
        replace hY8 := hY8.next hb'
        replace hY5 := hY5.next hb'
        clear hb'
        refine hK.out _ _ (hS') (fun hHeld2 => ?_)
        clear hK K' hHeld
        have hHeld := hHeld2
        clear hHeld2
        try simp only [Act.put, List.setIfInBounds_toArray, List.set_cons_zero, List.set_cons_succ]
        clear hS'
        refine rF 22 (fun K' hK => ?_)
        go_simp
        obtain ⟨g22, wB, hg22, hwB, h22, hb'⟩ := alloc_name hHeld 47 [.slice (some ⟨g7, 0, none⟩) 2 2, .slice A4 b4.length c4, .slice A8 b8.length c8, .slice A5 b5.length c5, .slice A n c]
        rw [hwB]
        clear hwB
        have hS' := hHeld.trans (hb'.mono hHeld.size)
        replace hB7 := hB7.next hb' hB7.lt
        replace hY4 := hY4.next hb'
        replace hY8 := hY8.next hb'
        replace hY5 := hY5.next hb'
        clear hb'
        refine hK.out _ _ (hS') (fun hHeld2 => ?_)
        clear hK K' hHeld
        have hHeld := hHeld2
        clear hHeld2
        try simp only [Act.put, List.setIfInBounds_toArray, List.set_cons_zero, List.set_cons_succ]
        clear hS'
        refine rF 23 (fun K' hK => ?_)
        go_simp
        obtain ⟨rs, r1, r2, r3, r4, r5⟩ := five hB7 (u8_wrap _) (u8_wrap _) hY4 L4.out hY8 L8.out hY5 L5.out (H1.out.2.2.next hHeld) HC.out.2.2.2.2 h22
        refine (concat_any _ _ _ rs _ r1 r2 r3 (by omega) r4).mono ?_
        rintro e wc ⟨⟨v, rfl, hv⟩, hb'⟩
        have hS' := hHeld.trans (hb'.mono hHeld.size)
        have hvb := hv.base (B := w.heap.size) (Nat.le_trans H1.out.1.size hHeld.size)
        clear hv hb' r1 r2 r3 r4
        go_simp
        refine hK.out _ _ (hS') (fun hHeld2 => ?_)
        clear hK K' hHeld
        have hHeld := hHeld2
        clear hHeld2
        try simp only [Act.put, List.setIfInBounds_toArray, List.set_cons_zero, List.set_cons_succ]
        refine kF 24 ?_
        refine wpAnyH_done (by kernel_rfl) ?_ _
        go_wp2_with fail
        go_meet
        exact ⟨_, hvb, r5, H1.out.1.trans (hHeld.mono H1.out.1.size)⟩
 case rest =>
  obtain ⟨bs', hv, hl, hB⟩ := hcut
  obtain ⟨vA, vc, rfl⟩ := own_shape hv.1
  have hn := HC.out.2.2.2.2
  obtain ⟨m, hm⟩ : ∃ m, bs'.length = m := ⟨_, rfl⟩
  rw [hm] at hl
  have hv1 := hv.1
  rw [hm] at hv1 ⊢
  have wk : wrap64 (60 - (m : Int)) = ((60 - m : Nat) : Int) := by unfold wrap64; omega
  have HV := Lib.hid (And.intro hv1 (And.intro hv.2 (And.intro hl hB)))
  have HZ := Lib.hid (show m + (60 - m) = 60 ∧ m + (60 - m) ≤ 1000000 by omega)
  clear hv hv1 hl hB hm
  go_wp2_with (at_builtin; refine wpList_app_zeros _ rfl _ _ 47 3 rfl w.heap.size 5 i0 (.int .u8 0) .i64 .i64 Tryz.underlying47 Tryz.underlying3 hi hz0 hz1 hz2 rfl rfl _ m _ (by rfl) (by exact HV.out.1) (60 - m) (by first | rfl | exact congrArg (Value.int .i64) wk) HZ.out.2 (by exact HV.out.2.2.2.size) ?_; intro v1 wz hO1 hG1)
  rw [HZ.out.1] at hO1
  obtain ⟨xA, xc, rfl⟩ := own_shape hO1
  have hBy : Byt wz w.heap.size (.slice xA 60 xc) (bs' ++ List.replicate (60 - m) 0) := ⟨by
   have e : (bs' ++ List.replicate (60 - m) (0 : Int)).map (Value.int .u8) = bs'.map (Value.int .u8) ++ List.replicate (60 - m) (Value.int .u8 0) := by rw [List.map_append, List.map_replicate]
   rw [e]
   have hl := hO1.1
   rw [List.length_append, List.length_map, List.length_replicate] at hl
   have e2 : (bs' ++ List.replicate (60 - m) (0 : Int)).length = 60 := by rw [List.length_append, List.length_replicate]; omega
   rw [e2]; exact hO1, fun x hx => by
   rcases List.mem_append.1 hx with q | q
   · exact HV.out.2.1 x q
   · rw [(List.mem_replicate.1 q).2]; omega⟩
  obtain ⟨bz, hbz⟩ : ∃ bz, bs' ++ List.replicate (60 - m) 0 = bz := ⟨_, rfl⟩
  rw [hbz] at hBy
  have hlz : bz.length = 60 := by have := hBy.1.1; rw [List.length_map] at this; obtain ⟨A', c', e, _⟩ := hBy.isB; injection e with _ e _; exact e.symm
  have hBz : Below w.heap.size w wz := HV.out.2.2.2.grown hG1 HV.out.2.2.2.size (fun g hg => own_at_ge HV.out.1 hg)
  have hIz : IsB wz xA 60 xc bz := by
   obtain ⟨A', c', e, hi⟩ := hBy.isB
   rw [hlz] at e hi
   injection e with e1 _ e3
   subst e1 e3
   exact hi
  have H5 := Lib.hid (And.intro hBy (And.intro hlz hBz))
  clear hO1 hG1 hBy hbz hlz hBz
  refine (crcof_any xA 60 xc bz wz hIz (by omega)).mono ?_
  rintro e wy ⟨⟨x, rfl⟩, hby⟩
  go_wp2_with fail
  refine (put32_any x wy).mono ?_
  rintro e wx ⟨⟨u, b4, rfl, hu, hlu⟩, hbx⟩
  obtain ⟨uA, uc, eu, hui⟩ := hu.isB
  subst eu
  rw [hlu] at hui ⊢
  have hbyx := hby.trans (hbx.mono hby.size)
  have H6 := Lib.hid (And.intro (H5.out.1.next hbyx) (And.intro (H5.out.2.2.trans (hbyx.mono H5.out.2.2.size)) (And.intro hui hlu)))
  have hwf4 := Lib.hid hu.2
  clear hu hby hbx hbyx hui
  go_wp2_with (at_builtin; go_must (refine wpList_appN _ rfl _ _ 47 rfl w.heap.size 5 i0 (.int .u8 0) 1 Tryz.underlying47 hi hz0 hz1 hz2 rfl _ 60 (bz.map (Value.int .u8)) (by rfl) (by have := H6.out.1.1; rw [H5.out.2.1] at this; exact this) wx.heap.size uA 4 uc (b4.map (Value.int .u8)) (by rfl) (by rw [List.length_map]; exact H6.out.2.2.2) (by exact H6.out.2.2.1.rd) one_int (by omega) (by omega) (by exact H6.out.2.1.size) ?_); intro v2 wF hO2 hG2)
  have e64 : (bz ++ b4).length = 60 + 4 := by rw [List.length_append, H5.out.2.1, H6.out.2.2.2]
  have hF : Byt wF w.heap.size v2 (bz ++ b4) := ⟨by rw [e64, List.map_append]; exact hO2, fun y hy => by
   rcases List.mem_append.1 hy with q | q
   · exact H5.out.1.2 y q
   · exact hwf4.out y q⟩
  have hbF : Below w.heap.size w wF := H6.out.2.1.grown hG2 H6.out.2.1.size (fun g hg => own_at_ge H6.out.1.1 hg)
  have HF := Lib.hid (And.intro hF (And.intro e64 hbF))
  clear hF e64 hbF hO2 hG2
  go_ret2
  exact ⟨⟨_, _, rfl, HF.out.1, HF.out.2.1⟩, HF.out.2.2⟩
end
section
open Go.RowKit
theorem infoTB : (Tryz.prog.info? 47).map (fun i => (i.zero, i.size, i.bytes)) = some (some (.slice none 0 0), 1, 24) := by kernel_rfl
structure IsY (w : World) (A : Option Addr) (n c : Nat) (bs : List Int) : Prop where
 b : IsB w A n c bs
 y : ∀ ad, A = some ad → 0 < n → ∃ ob, w.heap[ad.block]? = some ob ∧ Dat ob
theorem IsY.ag {w w' : World} {F : Foot} {A : Option Addr} {n c : Nat} {bs : List Int} (h : IsY w A n c bs) (k : Ag F w w') : IsY w' A n c bs := by
 refine ⟨⟨h.b.len, fun hl => ?_, h.b.wf, h.b.cap, h.b.big⟩, fun ad e hn => ?_⟩
 · obtain ⟨ad, e, hb, hc⟩ := h.b.rd hl
   refine ⟨ad, e, Nat.lt_of_lt_of_le hb k.size, fun j u hu => ?_⟩
   obtain ⟨ob, ho, hd⟩ := h.y ad e (by have := h.b.len; rw [List.length_map] at hl; omega)
   have := hc j u hu
   rw [World.cell?_of_block (w := w) (w' := w') (by rw [add_block, ho, k.keep _ _ ho (.inr hd)])]
   exact this
 · obtain ⟨ob, ho, hd⟩ := h.y ad e hn
   exact ⟨ob, k.keep _ _ ho (.inr hd), hd⟩
theorem Byt.isY {w : World} {B : Nat} {v : Value} {bs : List Int} (h : Byt w B v bs) : ∃ A c, v = .slice A bs.length c ∧ IsY w A bs.length c bs := by
 obtain ⟨A, c, rfl, hi⟩ := h.isB
 refine ⟨A, c, rfl, hi, fun ad e _ => ?_⟩
 subst e
 obtain ⟨cs, fr, hh⟩ := own_at h.1 (g := ad.block) rfl
 exact ⟨_, hh, cs, fr, rfl⟩
theorem IsY.kp {w w' : World} {P : Nat → Prop} {A : Option Addr} {n c : Nat} {bs : List Int} (h : IsY w A n c bs) (k : Kp2 P w w') (hs : w.heap.size ≤ w'.heap.size) (hp : ∀ b ob, w.heap[b]? = some ob → Dat ob → ¬ P b) : IsY w' A n c bs :=
 h.ag (F := fun _ => False) ⟨hs, fun b ob hb hn => hn.elim (fun q => q.elim) (fun hd => k b ob hb (hp b ob hb hd))⟩
theorem alloc_of (W : World) (t : TypeId) (cs : List Value) : ∃ g wA, W.heap.size = g ∧ W.alloc (.cells cs.toArray t) = wA ∧ Bk wA g t cs ∧ Below W.heap.size W wA := ⟨_, _, rfl, rfl, Bk.new W t cs, (Below.refl _ _).alloc (Nat.le_refl _) _⟩
theorem append_any (F : Foot) (gd : Nat) (ns : List Nat) (i k : Nat) (A : Option Addr) (c : Nat) (bs : List Int) (w : World) (h : Dev w F gd ns) (hi : ns[i]? = some k) (hk : k < 96) (hp : IsY w A 64 c bs) (hI : In w F) :
  Calls Tryz.prog 92 #[.pointer (some ⟨gd, 0, none⟩), .int .i64 (i : Int), .slice A 64 c] w fun e w' => e = .returned (.tuple #[.int .i64 (k : Int), .int .i64 0]) ∧ ∃ F', Dev w' F' gd (ns.set i (k + 1)) ∧ Kf F w w' ∧ Sb w F F' ∧ In w' F' := by
 obtain ⟨zsl, ops, reads, left, zs, z, hx, hn, hz, hzn⟩ := dev_get h hi
 obtain ⟨i0, hi, hz0, hz1, hz2⟩ := info_parts infoTB
 have ha := at_any F gd zsl ops reads left zs i z w hx hz
 have hg := begin_any F gd zsl ops reads left zs w hx
 unfold zp at ha
 go_enter Tryz.func92, Tryz.ntmps92
 go_wp2_with fail
 refine ha.mono ?_
 rintro e w' ⟨rfl, rfl⟩
 go_wp2_with fail
 refine hg.mono ?_
 rintro e w1 ⟨rfl, ⟨ops', hx1⟩, hk1⟩
 have hzm := List.mem_of_getElem? hz
 have hb := hx1.zb z hzm
 obtain ⟨c0, c1⟩ := hb.c2
 have d1 := hx1.bx.cell (i := 1) (by simp)
 simp only [List.getElem_cons_zero, List.getElem_cons_succ] at d1
 have hzo := hx1.zo z hzm
 obtain ⟨va, vc, hvs⟩ := own_shape hzo
 rw [hvs] at c0
 have t0 : decide (96 ≤ (z.n : Int)) = false := decide_eq_false (by omega)
 have HP := Lib.hid (hp.ag (hk1.ag (F := fun _ => False) (fun _ q => q.elim)))
 have HX := Lib.hid (And.intro hx1 (And.intro hk1 (And.intro hn (And.intro hz (And.intro hzn hI)))))
 have HV := Lib.hid hvs
 have HZ := Lib.hid (And.intro hb hzo)
 have HN := Lib.hid (show z.n + 1 ≤ 96 by omega)
 clear ha hg h hp hI hn hzn hk hx hk1
 go_wp2_with fail
 refine wp_region_held_drew (S := Drawn w1) (by kernel_rfl) (by first | exact Drawn.of _ _ | exact Drawn.one _) (fun hHeld => ?_)
 refine kD 0 ?_; refine kD 1 ?_; refine kD 2 ?_; refine kD 3 ?_; refine kD 4 ?_; refine kD 5 ?_; refine kD 6 ?_; refine kD 7 ?_; refine kD 8 ?_; refine kD 9 ?_; refine kD 10 ?_; refine kD 11 ?_
 refine wpAnyH_done (by kernel_rfl) ?_ _
 go_wp2_with fail
 obtain ⟨w2, hw2⟩ : ∃ w2, w1.drew = w2 := ⟨_, rfl⟩
 have hb2 : Below w1.heap.size w1 w2 := by rw [← hw2]; exact bdrew (Below.refl _ _)
 have hsz : w2.heap.size = w1.heap.size := by rw [← hw2]; rfl
 rw [hw2]
 have hx2 : DevX w2 F gd zsl ops' reads left zs := hx1.ag (.of_below hb2)
 have hbz := hx2.zb z hzm
 have hoz := hx2.zo z hzm
 have HPY : Hid (IsY w2 A 64 c bs) := Lib.hid (HP.out.ag (F := fun _ => False) (.of_below hb2))
 have HND := Lib.hid (show ∀ b ob, w2.heap[b]? = some ob → Dat ob → ¬ z.v.ownBlock = some b from fun b ob hb hd q => by
  obtain ⟨cs, fr, rfl⟩ := hd
  obtain ⟨_, _, hh⟩ := own_at hoz q
  rw [hh] at hb
  injection hb with hb
  injection hb with _ hb _
  exact absurd hb (by decide))
 have K1 := Lib.hid (fun w' (h : Kp2 (fun b => z.v.ownBlock = some b) w2 w' ∧ w2.heap.size ≤ w'.heap.size) => (show w'.cell? ⟨z.gz, 0, none⟩ = some (.slice va z.n vc) from by
  have := (h.1.bk hbz (fun q => own_ne_bk hoz hbz (by decide) q)).cell (i := 0) (by simp)
  simp only [List.getElem_cons_zero, HV.out] at this
  exact this))
 have KF := Lib.hid (fun w' (h : Kp2 (fun b => z.v.ownBlock = some b) w2 w' ∧ w2.heap.size ≤ w'.heap.size) => (h.1.bk hbz (fun q => own_ne_bk hoz hbz (by decide) q)).free 0)
 have HBZ := Lib.hid (fun w' (h : Kp2 (fun b => z.v.ownBlock = some b) w2 w' ∧ w2.heap.size ≤ w'.heap.size) => h.1.bk hbz (fun q => own_ne_bk hoz hbz (by decide) q))
 have H2 := Lib.hid (And.intro hx2 (And.intro hb2 hsz))
 rw [HV.out] at hoz
 have HOZ := Lib.hid hoz
 clear hw2 hx1 hx2 hbz hoz hb hzo hvs hb2 hsz hzm c0 c1 d1 hHeld
 have Kq := K1
 refine anyL_start (fun w' => Kp2 (fun b => z.v.ownBlock = some b) w2 w' ∧ w2.heap.size ≤ w'.heap.size) 11 (by kernel_rfl) (⟨fun _ _ h _ => h, Nat.le_refl _⟩) (fun hHeld => ?_)
 refine kL 0 ?_; refine kL 1 ?_; refine kL 2 ?_; refine kL 3 ?_; refine kL 4 ?_; refine kL 5 ?_
 refine rL 6 (fun K hK => ?_)
 go_simp
 refine (clone_any A 64 c 0 (bs.map (Value.int .u8)) _ (by rw [List.length_map]; exact HP.out.b.len) ((HPY.out.kp hHeld.1 hHeld.2 HND.out).b.rd) one_int (by omega) (Nat.zero_le _)).mono ?_
 rintro e w4 ⟨⟨vc, rfl, hvc⟩, hb4⟩
 have hS4 := And.intro (hHeld.1.trans (Kp2.of_below hb4)) (Nat.le_trans hHeld.2 hb4.size)
 obtain ⟨xA, xc, rfl⟩ := own_shape hvc
 have HVC := Lib.hid hvc
 have HB4 := Lib.hid hb4
 clear hvc hb4
 go_simp
 refine hK.out _ _ (fun _ => hS4) ?_
 clear hK K hHeld
 have hHeld := hS4
 try simp only [Act.put, List.setIfInBounds_toArray, List.set_cons_zero, List.set_cons_succ]
 refine rL 7 (fun K hK => ?_)
 go_simp
 obtain ⟨g5, w5, hg5, hw5, hB5, hb5⟩ := alloc_of w4 47 [.slice xA 64 xc]
 rw [hw5]
 clear hw5
 subst hg5
 have hS5 := And.intro (hHeld.1.trans (Kp2.of_below hb5)) (Nat.le_trans hHeld.2 hb5.size)
 have HB5 := Lib.hid (And.intro hB5 hb5)
 clear hB5 hb5
 refine hK.out _ _ (fun _ => hS5) ?_
 clear hK K hHeld
 have hHeld := hS5
 try simp only [Act.put, List.setIfInBounds_toArray, List.set_cons_zero, List.set_cons_succ]
 refine rL 8 (fun K hK => ?_)
 have HROW := Lib.hid (own_bel' (own_bel' (w := w2.drew) HOZ.out HB4.out) HB5.out.2)
 refine if_wanted rfl (wp_appM _ _ _ 144 rfl 0 47 i0 (.slice none 0 0) 1 24 Tryz.underlying144 hi hz0 hz1 hz2 rfl (by omega) (.slice va z.n vc) z.n z.rows (by rfl) (by exact HROW.out) w5.heap.size (some ⟨w4.heap.size, 0, none⟩) 1 1 [.slice xA 64 xc] (by rfl) rfl (by simpa using HB5.out.1.rd) (by intro u hu; simp at hu; subst hu; rfl) (by have := HN.out; omega) (by have := HN.out; omega) (Nat.zero_le _) ?_)
 intro v9 w9 hO9 hG9 hn9
 obtain ⟨vA9, vc9, rfl⟩ := own_shape hO9
 have hsz5 := Lib.hid (show w2.heap.size ≤ w5.heap.size from hHeld.2)
 have ho5 := Lib.hid (show w9.os = w2.os ∧ w9.tape = w2.tape ∧ w9.output = w2.output from ⟨hG9.os.trans (HB5.out.2.os.trans HB4.out.os), hG9.tape.trans (HB5.out.2.tape.trans HB4.out.tape), hG9.output.trans (HB5.out.2.output.trans HB4.out.output)⟩)
 have hG9' : w5.grownBy w9 z.v.ownBlock := by rw [HV.out]; exact hG9
 have hS9 := And.intro (hHeld.1.trans (Kp2.grown hG9')) (Nat.le_trans hHeld.2 hG9.size)
 refine hK.out _ _ (fun _ => hS9) ?_
 clear hK K hHeld
 have hHeld := hS9
 try simp only [Act.put, List.setIfInBounds_toArray, List.set_cons_zero, List.set_cons_succ]
 refine rL 9 (fun K hK => ?_)
 have hS9b := hHeld
 go_simp
 refine hK.out _ _ (fun _ => hS9b) ?_
 clear hK K hHeld
 have hHeld := hS9b
 try simp only [Act.put, List.setIfInBounds_toArray, List.set_cons_zero, List.set_cons_succ]
 refine kL 10 ?_
 refine rL 11 (fun K hK => ?_)
 have kk := K1.out _ hHeld
 have kf := KF.out _ hHeld
 go_simp
 refine hK.out _ _ (fun h => absurd rfl h) ?_
 clear hK K
 try simp only [Act.put, List.setIfInBounds_toArray, List.set_cons_zero, List.set_cons_succ]
 refine anyL_done (by kernel_rfl) ?_ _
 clear Kq
 obtain ⟨w10, hw10⟩ : ∃ w10, w9.setCell ⟨z.gz, 0, none⟩ (.slice vA9 (z.n + 1) vc9) = w10 := ⟨_, rfl⟩
 have hzm := List.mem_of_getElem? HX.out.2.2.2.1
 have hb9 := HBZ.out w9 hHeld
 have hb10 : Bk w10 z.gz 146 [.slice vA9 (z.n + 1) vc9, .int .i64 z.good] := by rw [← hw10]; exact hb9.set 0 _
 have hq9 : Kp2 (fun b => b = z.gz) w9 w10 := by rw [← hw10]; exact Kp2.set w9 z.gz 0 _
 have hs10 : w10.heap.size = w9.heap.size := by rw [← hw10, World.size_setCell]
 have ho10 : w10.ownsRow 0 47 1 (.slice vA9 (z.n + 1) vc9) (z.n + 1) (z.rows ++ [.slice xA 64 xc]) := hq9.own hO9 (fun g hg e => own_ne_bk hO9 hb9 (by decide) (by rw [hg, e]))
 have hkp : Kp2 (fun b => b = z.gz ∨ z.v.ownBlock = some b) w2 w10 := (hHeld.1.mono (fun b q => .inr q)).trans (hq9.mono (fun b q => .inl q))
 have hnw : ∀ g, (Value.slice vA9 (z.n + 1) vc9).ownBlock = some g → z.v.ownBlock = some g ∨ w2.heap.size ≤ g := fun g hg => by
  rcases hn9 with q | q
  · left; rw [HV.out, ← q]; exact hg
  · right
    rw [q] at hg
    have : w5.heap.size = g := Option.some.inj hg
    have := Nat.le_trans hsz5.out (Nat.le_refl w5.heap.size)
    omega
 have hD := H2.out.1.setZ (F' := fun b => F b ∨ (w.heap.size ≤ b ∧ b < w10.heap.size)) HX.out.2.2.2.1 (.slice vA9 (z.n + 1) vc9) (z.n + 1) (z.rows ++ [.slice xA 64 xc]) z.good hkp hb10 ho10 (by have := HN.out; omega) hnw (fun b q => .inl q) (fun g hg => by
  obtain ⟨_, _, hh⟩ := own_at ho10 hg
  rcases hnw g hg with q | q
  · exact .inl (H2.out.1.f3 z hzm g q)
  · exact .inr ⟨by have := HX.out.2.1.size; have := H2.out.2.2; omega, lt_of hh⟩)
 have hkf : Kf F w w10 := by
  have h1 : Kf F w w2 := HX.out.2.1.next H2.out.2.1
  refine ⟨by rw [← hw10]; exact ho5.out.1.trans h1.os, by rw [← hw10]; exact ho5.out.2.1.trans h1.tape, by rw [← hw10]; exact ho5.out.2.2.trans h1.output, by have := h1.size; have := hHeld.2; omega, fun b ob hb hn => ?_⟩
  have h2 := h1.keep b ob hb hn
  refine hkp b ob h2 (fun q => ?_)
  have hFb : F b := q.elim (fun e => by rw [e]; exact H2.out.1.f2 z hzm) (fun e => H2.out.1.f3 z hzm b e)
  rcases hn with r | r
  · exact r hFb
  · rcases q with e | e
    · subst e
      exact no_dat (H2.out.1.zb z hzm) (by decide) (fun ob h1' h2' => h1.keep _ ob h1' (.inr h2')) hb r
    · exact HND.out b ob h2 r e
 have d0 := hb10.cell (i := 0) (by simp)
 simp only [List.getElem_cons_zero] at d0
 have wk : wrap64 (z.n : Int) = (z.n : Int) := by have := HN.out; unfold wrap64; omega
 have HE := Lib.hid (And.intro hD (And.intro hkf (And.intro (show Sb w F (fun b => F b ∨ (w.heap.size ≤ b ∧ b < w10.heap.size)) from fun b q => q.imp id (fun r => r.1)) (show In w10 (fun b => F b ∨ (w.heap.size ≤ b ∧ b < w10.heap.size)) from fun b q => q.elim (fun r => Nat.lt_of_lt_of_le (HX.out.2.2.2.2.2 b r) hkf.size) (fun r => r.2)))))
 clear hD hkf hnw hkp ho10 hq9 hb10 hb9 hzm hO9 hG9 hG9' hn9
 have hzk := HX.out.2.2.2.2.1
 subst hzk
 go_wp2_with fail
 go_ret2
 refine ⟨rfl, _, ⟨_, _, _, _, _, HE.out.1, ?_⟩, HE.out.2⟩
 rw [map_set_n, HX.out.2.2.1]
end
section
open Go.RowKit
theorem infoZP : (Tryz.prog.info? 143).map (fun i => (i.zero, i.size, i.bytes)) = some (some (.pointer none), 1, 8) := by kernel_rfl
def gp (g : Nat) : Value := .pointer (some ⟨g, 0, none⟩)
structure DevG (w0 w : World) (B gd k : Nat) (v : Value) (gs : List Nat) : Prop where
 bel : Below w0.heap.size w0 w
 bx : Bk w gd 142 [.int .i64 8, .int .i64 96, v, .int .i64 0, .int .i64 0, .bool false, .int .i64 0, .bool false]
 row : w.ownsRow B 143 1 v k (gs.map gp)
 gl : gs.length = k
 gb : ∀ g ∈ gs, Bk w g 146 [.slice none 0 0, .int .i64 0]
 nd : gs.Nodup
 ge : ∀ g ∈ gs, B ≤ g
theorem DevG.dev {w0 w : World} {B gd : Nat} {v : Value} {gs : List Nat} (h : DevG w0 w B gd 8 v gs) (hB : B ≤ gd) : Dev w (fun b => B ≤ b ∧ b < w.heap.size) gd (List.replicate 8 0) := by
 refine ⟨v, 0, 0, 0, gs.map (fun g => ⟨g, .slice none 0 0, 0, [], 0⟩), ⟨h.bx, by rw [List.length_map, h.gl], ?_, fun z hz => ?_, fun z hz => ?_, fun i j hi hj hne => ?_, fun i j hi hj hne => ?_, fun z hz => ?_, ⟨hB, h.bx.lt⟩, fun g hg => ⟨own_at_ge h.row hg, ?_⟩, fun z hz => ?_, fun z hz g hg => ?_⟩, ?_⟩
 · have e : (gs.map (fun g => (⟨g, .slice none 0 0, 0, [], 0⟩ : ZD))).map zp = gs.map gp := by rw [List.map_map]; rfl
   rw [e]
   refine ⟨h.row.1, ?_⟩
   rcases h.row.2 with h0 | ⟨g, cap, cur, hv, hb, r⟩
   · exact .inl h0
   · exact .inr ⟨g, cap, cur, hv, Nat.zero_le _, r⟩
 · obtain ⟨g, hg, rfl⟩ := List.mem_map.1 hz
   exact h.gb g hg
 · obtain ⟨g, hg, rfl⟩ := List.mem_map.1 hz
   exact ⟨rfl, .inl ⟨rfl, rfl⟩⟩
 · rw [List.getElem_map, List.getElem_map]
   rw [List.length_map] at hi hj
   intro e
   exact hne ((List.getElem_inj h.nd).1 e)
 · left
   rw [List.getElem_map]; rfl
 · obtain ⟨g, hg, rfl⟩ := List.mem_map.1 hz
   show 0 ≤ 96; omega
 · obtain ⟨_, _, hh⟩ := own_at h.row hg
   exact lt_of hh
 · obtain ⟨g, hg, rfl⟩ := List.mem_map.1 hz
   exact ⟨h.ge g hg, (h.gb g hg).lt⟩
 · obtain ⟨g', hg', rfl⟩ := List.mem_map.1 hz
   cases hg
 · rw [List.map_map, ← h.gl]
   exact List.map_const'
theorem dnew_any  (w : World) :
  Calls Tryz.prog 39 #[.agg #[.int .i64 8, .int .i64 96]] w fun e w' => ∃ gd F, e = .returned (.tuple #[.pointer (some ⟨gd, 0, none⟩), .int .i64 0]) ∧ Dev w' F gd (List.replicate 8 0) ∧ Below w.heap.size w w' ∧ (∀ b, F b → w.heap.size ≤ b ∧ b < w'.heap.size) := by
 obtain ⟨i0, hi, hz0, hz1, hz2⟩ := info_parts infoZP
 obtain ⟨g1, w1, hg1, hw1, hB1, hb1⟩ := alloc_of w 36 [.int .i64 8, .int .i64 96]
 obtain ⟨c0, c1⟩ := hB1.c2
 obtain ⟨gd, w2, hg2, hw2, hB2, hb2⟩ := alloc_of w1 142 [.int .i64 8, .int .i64 96, .slice none 0 0, .int .i64 0, .int .i64 0, .bool false, .int .i64 0, .bool false]
 have hb12 := hb1.trans (hb2.mono hb1.size)
 obtain ⟨d0, d1⟩ := (hB1.next hb2 hB1.lt).c2
 have HS := Lib.hid (And.intro hb12 hB2)
 have HG := Lib.hid (show w.heap.size ≤ gd by have := hb1.size; omega)
 subst hg1
 clear hb12 hB2 hb1 hb2 hB1
 go_enter Tryz.func39, Tryz.ntmps39
 go_wp2_with fail
 go_loopw [28] (fun i wr => ∃ (k : Nat) (v : Value) (gs : List Nat), k ≤ 8 ∧ i = .int .i64 (k : Int) ∧ DevG w wr w.heap.size gd k v gs) (fun i _ => 8 - (intOf i).toNat)
 case atStart => exact ⟨0, .slice none 0 0, [], by omega, rfl, HS.out.1, HS.out.2, ⟨rfl, .inl ⟨rfl, rfl⟩⟩, rfl, by simp, by simp, by simp⟩
 case round =>
  obtain ⟨k, v, gs, hk, rfl, hI⟩ := hrel
  by_cases hlt : k < 8
  · have n0 : (k : Int) < 8 := by omega
    have c2 := hI.bx.cell (i := 2) (by simp)
    simp only [List.getElem_cons_zero, List.getElem_cons_succ] at c2
    obtain ⟨g3, w3, hg3, hw3, hB3, hb3⟩ := alloc_of wr 146 [.slice none 0 0, .int .i64 0]
    subst hg3
    obtain ⟨g4, w4, hg4, hw4, hB4, hb4⟩ := alloc_of w3 143 [.pointer (some ⟨wr.heap.size, 0, none⟩)]
    subst hg4
    have hb34 := hb3.trans (hb4.mono hb3.size)
    have HL := Lib.hid (And.intro hB4 (And.intro (hB3.next hb4 hB3.lt) hb34))
    have HI := Lib.hid (And.intro (Nat.le_trans hI.bel.size hb34.size) (own_bel' hI.row hb34))
    have HJ := Lib.hid (And.intro hI (hI.bx.next hb34 hI.bx.lt))
    clear hI hB3 hB4 hb3 hb4 hb34
    go_wp2_with (at_builtin; go_must (refine wpList_appM _ rfl _ _ 140 rfl w.heap.size 143 i0 (.pointer none) 1 8 Tryz.underlying140 hi hz0 hz1 hz2 rfl (by omega) v k (gs.map gp) (by rfl) (by exact HI.out.2) w4.heap.size (some ⟨w3.heap.size, 0, none⟩) 1 1 [.pointer (some ⟨wr.heap.size, 0, none⟩)] (by rfl) rfl (by exact HL.out.1.rd.more (Nat.le_refl _)) (by intro u hu; simp at hu; subst hu; rfl) (by omega) (by omega) (by exact HI.out.1) ?_); intro v9 w9 hO9 hG9 hn9; obtain ⟨v9A, v9c, rfl⟩ := own_shape hO9; have hb9 : Bk w9 gd 142 [.int .i64 8, .int .i64 96, v, .int .i64 0, .int .i64 0, .bool false, .int .i64 0, .bool false] := (Kp2.grown hG9).bk HJ.out.2 (fun q => own_ne_bk HI.out.2 HJ.out.2 (by decide) q); have f2 := hb9.free 2; have e2 := hb9.cell (i := 2) (by simp); simp only [List.getElem_cons_zero, List.getElem_cons_succ] at e2; obtain ⟨w10, hw10⟩ : ∃ w10, w9.setCell ⟨gd, 2, none⟩ (.slice v9A (k + 1) v9c) = w10 := ⟨_, rfl⟩)
    have hN : DevG w w10 w.heap.size gd (k + 1) (.slice v9A (k + 1) v9c) (gs ++ [wr.heap.size]) := by
     have hq : Kp2 (fun b => b = gd) w9 w10 := by rw [← hw10]; exact Kp2.set w9 gd 2 _
     have hz : ∀ g, Bk w4 g 146 [.slice none 0 0, .int .i64 0] → Bk w10 g 146 [.slice none 0 0, .int .i64 0] := fun g hg =>
      hq.bk ((Kp2.grown hG9).bk hg (fun q => own_ne_bk HI.out.2 hg (by decide) q)) (fun e => by
       subst e
       exact bk_ne hb9 ((Kp2.grown hG9).bk hg (fun q => own_ne_bk HI.out.2 hg (by decide) q)) (by decide) rfl)
     have hbw : Below w.heap.size w w10 := by
      rw [← hw10]
      exact ((HJ.out.1.bel.trans (HL.out.2.2.mono HJ.out.1.bel.size)).grown hG9 HI.out.1 (fun g hg => own_at_ge HI.out.2 hg)).setCell (p := ⟨gd, 2, none⟩) HG.out _
     refine ⟨hbw, by rw [← hw10]; exact hb9.set 2 _, ?_, by rw [List.length_append, HJ.out.1.gl]; rfl, fun g hg => ?_, ?_, fun g hg => ?_⟩
     · rw [List.map_append]
       exact hq.own hO9 (fun g hg e => own_ne_bk hO9 hb9 (by decide) (by rw [hg, e]))
     · rcases List.mem_append.1 hg with q | q
       · exact hz g ((HJ.out.1.gb g q).next HL.out.2.2 (HJ.out.1.gb g q).lt)
       · obtain rfl : g = wr.heap.size := by simpa using q
         exact hz _ HL.out.2.1
     · refine List.nodup_append.2 ⟨HJ.out.1.nd, by simp, fun a ha c hc e => ?_⟩
       have := (HJ.out.1.gb a ha).lt
       have : c = wr.heap.size := by simpa using hc
       omega
     · rcases List.mem_append.1 hg with q | q
       · exact HJ.out.1.ge g q
       · obtain rfl : g = wr.heap.size := by simpa using q
         exact HJ.out.1.bel.size
    have HN := Lib.hid hN
    clear hN hb9 hO9 hG9 hn9
    go_wp2_with fail
    go_roundw
    case rel => exact ⟨k + 1, _, _, hlt, by go_num, HN.out⟩
    case measure => exact meas hlt
  · obtain rfl : k = 8 := by omega
    have n0 : ¬ (((8 : Nat) : Int) < 8) := by omega
    have HN := Lib.hid hI
    clear hI
    go_wp2_with fail
    go_ret2
    exact ⟨gd, rfl, _, HN.out.dev HG.out, HN.out.bel, fun b q => q⟩
end
section
open Go.RowKit
structure SloX (w : World) (gd gs : Nat) (inn : Int) (v : Value) (bs : List Int) (count : Nat) : Prop where
 bx : Bk w gs 186 [.pointer (some ⟨gd, 0, none⟩), .int .i64 0, .int .i64 3, .int .i64 6, .int .i64 96, .int .i64 inn, v, .int .i64 (count : Int), .bool false]
 txt : Byt w 0 v bs
 two : inn = 0 ∨ inn = 1
 big : bs.length ≤ 20000
def Slo (w : World) (F : Foot) (gd gs count : Nat) : Prop := F gs ∧ ∃ inn v bs, SloX w gd gs inn v bs count
theorem SloX.ag {w w' : World} {F : Foot} {gd gs count : Nat} {inn : Int} {v : Value} {bs : List Int} (h : SloX w gd gs inn v bs count) (k : Ag F w w') (hF : F gs) : SloX w' gd gs inn v bs count := ⟨Bk.ag h.bx k hF, h.txt.ag k, h.two, h.big⟩
theorem Slo.ag {w w' : World} {F : Foot} {gd gs count : Nat} (h : Slo w F gd gs count) (k : Ag F w w') : Slo w' F gd gs count := by
 obtain ⟨hF, inn, v, bs, hx⟩ := h
 exact ⟨hF, inn, v, bs, hx.ag k hF⟩
theorem pointerD {w : World} {F : Foot} {gd : Nat} {ns : List Nat} (h : Dev w F gd ns) {i k : Nat} (hi : ns[i]? = some k) : Calls Tryz.prog 47 #[.pointer (some ⟨gd, 0, none⟩), .int .i64 (i : Int)] w fun e w' => e = .returned (.tuple #[.int .i64 (k : Int), .int .i64 0]) ∧ w = w' := by
 obtain ⟨zsl, ops, reads, left, zs, z, hx, hn, hz, hzn⟩ := dev_get h hi
 subst hzn
 exact pointer_any F gd zsl ops reads left zs i z w hx hz
theorem geoD {w : World} {F : Foot} {gd : Nat} {ns : List Nat} (h : Dev w F gd ns) : Calls Tryz.prog 76 #[.pointer (some ⟨gd, 0, none⟩)] w fun e w' => e = .returned (.agg #[.int .i64 8, .int .i64 96]) ∧ Below w.heap.size w w' := by
 obtain ⟨zsl, ops, reads, left, zs, hx, hn⟩ := h
 exact geo_any F gd zsl ops reads left zs w hx
theorem sdead_any (gd gs count : Nat) (inn : Int) (v : Value) (bs : List Int) (w : World) (h : SloX w gd gs inn v bs count) :
  Calls Tryz.prog 98 #[.pointer (some ⟨gs, 0, none⟩)] w fun e w' => e = .returned (.bool false) ∧ w = w' := by
 obtain ⟨c0, c1, c2, c3, c4, c5, c6, c7, c8⟩ := h.bx.c9
 go_enter Tryz.func98, Tryz.ntmps98
 go_wp2_with fail
 go_ret
 exact ⟨rfl, rfl⟩
theorem room_any (gd gs count : Nat) (inn : Int) (v : Value) (bs : List Int) (w : World) (h : SloX w gd gs inn v bs count) :
  Calls Tryz.prog 97 #[.pointer (some ⟨gs, 0, none⟩)] w fun e w' => e = .returned (.int .i64 11440) ∧ ∃ q, w' = w.drewN q := by
 obtain ⟨c0, c1, c2, c3, c4, c5, c6, c7, c8⟩ := h.bx.c9
 clear h
 go_enter Tryz.func97, Tryz.ntmps97
 go_wp2_with fail
 refine wp_region_held_drew (S := Drawn w) (by kernel_rfl) (by first | exact Drawn.of _ _ | exact Drawn.one _) (fun hHeld => ?_)
 refine kD 0 ?_; refine kD 1 ?_; refine kD 2 ?_; refine kD 3 ?_; refine kD 4 ?_; refine kD 5 ?_; refine kD 6 ?_; refine kD 7 ?_; refine kD 8 ?_; refine kD 9 ?_; refine kD 10 ?_; refine kD 11 ?_
 refine kD 12 ?_; refine kD 13 ?_; refine kD 14 ?_; refine kD 15 ?_; refine kD 16 ?_; refine kD 17 ?_; refine kD 18 ?_; refine kD 19 ?_; refine kD 20 ?_; refine kD 21 ?_; refine kD 22 ?_; refine kD 23 ?_
 refine wpAnyH_done (by kernel_rfl) ?_ _
 go_wp2_with fail
 go_ret
 exact ⟨rfl, 1, rfl⟩
theorem load_any (gd gs count : Nat) (inn : Int) (v : Value) (bs : List Int) (w : World) (h : SloX w gd gs inn v bs count) :
  Calls Tryz.prog 78 #[.pointer (some ⟨gs, 0, none⟩)] w fun e w' => (∃ u, e = .returned (.tuple #[u, .int .i64 (count : Int)]) ∧ Byt w' 0 u bs) ∧ Below w.heap.size w w' := by
 obtain ⟨c0, c1, c2, c3, c4, c5, c6, c7, c8⟩ := h.bx.c9
 obtain ⟨A, c, rfl, hi⟩ := h.txt.isB
 have HT := Lib.hid (fun w' (k : Below w.heap.size w w') => hi.next k)
 have HBIG := Lib.hid h.big
 have HWF := Lib.hid h.txt.2
 have K1 := Lib.hid (fun w' (k : Below w.heap.size w w') => (show w'.cell? ⟨gs, 6, none⟩ = some (.slice A bs.length c) ∧ w'.cell? ⟨gs, 7, none⟩ = some (.int .i64 (count : Int)) from ⟨(h.bx.next k h.bx.lt).cell (i := 6) (by simp), (h.bx.next k h.bx.lt).cell (i := 7) (by simp)⟩))
 clear h hi
 go_enter Tryz.func78, Tryz.ntmps78
 go_wp2_with fail
 have Kq := K1
 refine wp_region_held_drew (S := fun w' => Below w.heap.size w w') (by kernel_rfl) (bdrew (Below.refl _ _)) (fun hHeld => ?_)
 refine kF 0 ?_; refine kF 1 ?_; refine kF 2 ?_; refine kF 3 ?_; refine kF 5 ?_; refine kF 6 ?_; refine kF 7 ?_; refine kF 8 ?_
 refine rF 4 (fun K hK => ?_)
 go_simp
 refine (clone_any A bs.length c 0 (bs.map (Value.int .u8)) _ (by rw [List.length_map]) (HT.out _ hHeld).rd one_int (by have := HBIG.out; omega) (Nat.zero_le _)).mono ?_
 rintro e w4 ⟨⟨vc, rfl, hvc⟩, hb4⟩
 have hS4 := hHeld.trans (hb4.mono hHeld.size)
 have HVC := Lib.hid hvc
 have h1c := own_one hvc
 clear hvc hb4
 go_simp
 refine hK.out _ _ (hS4) (fun hHeld2 => ?_)
 clear hK K hHeld
 have hHeld := hHeld2
 clear hHeld2
 try simp only [Act.put, List.setIfInBounds_toArray, List.set_cons_zero, List.set_cons_succ]
 refine kF 9 ?_; refine kF 10 ?_
 refine wpAnyH_done (by kernel_rfl) ?_ _
 clear Kq
 go_wp2_with fail
 go_ret2
 exact ⟨⟨_, rfl, by have := HVC.out; rw [← List.length_map (f := Value.int .u8)] at this; simpa [Byt] using ⟨by simpa using HVC.out, HWF.out⟩⟩, hHeld⟩
theorem read_nil  (w : World) :
  Calls Tryz.prog 144 #[.slice none 0 0] w fun e w' => e = .returned (.tuple #[.slice none 0 0, .int .i64 0]) ∧ w = w' := by
 go_enter Tryz.func144, Tryz.ntmps144
 go_wp2_with fail
 go_step3
 go_wp2_with fail
 go_step3
 go_wp2_with fail
 go_loop [10] (fun i => i = .int .i64 0) (fun _ => 0)
 case atStart => rfl
 case round =>
  obtain rfl := hrel
  go_wp2_with fail
  go_ret2
  exact ⟨rfl, rfl⟩
theorem has_nil (f : Value) (w : World) :
  Calls Tryz.prog 81 #[.slice none 0 0, f] w fun e w' => e = .returned (.bool false) ∧ w = w' := by
 have hI : Calls Tryz.prog 148 #[.slice none 0 0, f] w fun e w' => e = .returned (.int .i64 (-1)) ∧ w = w' := by
  go_enter Tryz.func148, Tryz.ntmps148
  go_wp2_with fail
  go_loop [8] (fun i => i = .int .i64 0) (fun _ => 0)
  case atStart => rfl
  case round =>
   obtain rfl := hrel
   go_wp2_with fail
   go_ret
   exact ⟨rfl, rfl⟩
 go_enter Tryz.func81, Tryz.ntmps81
 go_wp2_with fail
 refine hI.mono ?_
 rintro e w' ⟨rfl, rfl⟩
 go_wp2_with fail
 go_ret
 exact ⟨rfl, rfl⟩
theorem blocks0 (F : Foot) (gd gs count : Nat) (inn : Int) (v : Value) (bs : List Int) (w : World) (h : SloX w gd gs inn v bs count) (hd : Dev w F gd (List.replicate 8 0)) :
  Calls Tryz.prog 142 #[.pointer (some ⟨gs, 0, none⟩), .int .i64 0] w fun e w' => e = .returned (.slice none 0 0) ∧ w = w' := by
 obtain ⟨c0, c1, c2, c3, c4, c5, c6, c7, c8⟩ := h.bx.c9
 have hp := pointerD hd (i := 0) (k := 0) (by rfl)
 clear h
 go_enter Tryz.func142, Tryz.ntmps142
 go_wp2_with fail
 go_loop [4, 5] (fun o z => o = .slice none 0 0 ∧ z = .int .i64 0) (fun _ _ => 0)
 case atStart => exact ⟨rfl, rfl⟩
 case round =>
  obtain ⟨rfl, rfl⟩ := hrel
  go_wp2_with fail
  refine hp.mono ?_
  rintro e w' ⟨rfl, rfl⟩
  go_wp2_with fail
  go_loop [4, 38] (fun o i => o = .slice none 0 0 ∧ i = .int .i64 0) (fun _ _ => 0)
  case atStart => exact ⟨rfl, rfl⟩
  case round =>
   obtain ⟨rfl, rfl⟩ := hrel
   go_wp2_with fail
   go_ret
   exact ⟨rfl, rfl⟩
theorem blocks1 (F : Foot) (gd gs count : Nat) (inn : Int) (v : Value) (bs : List Int) (w : World) (h : SloX w gd gs inn v bs count) (hd : Dev w F gd (List.replicate 8 0)) :
  Calls Tryz.prog 142 #[.pointer (some ⟨gs, 0, none⟩), .int .i64 1] w fun e w' => e = .returned (.slice none 0 0) ∧ w = w' := by
 obtain ⟨c0, c1, c2, c3, c4, c5, c6, c7, c8⟩ := h.bx.c9
 have hp := pointerD hd (i := 3) (k := 0) (by rfl)
 clear h
 go_enter Tryz.func142, Tryz.ntmps142
 go_wp2_with fail
 go_loop [4, 5] (fun o z => o = .slice none 0 0 ∧ z = .int .i64 3) (fun _ _ => 0)
 case atStart => exact ⟨rfl, rfl⟩
 case round =>
  obtain ⟨rfl, rfl⟩ := hrel
  go_wp2_with fail
  refine hp.mono ?_
  rintro e w' ⟨rfl, rfl⟩
  go_wp2_with fail
  go_loop [4, 38] (fun o i => o = .slice none 0 0 ∧ i = .int .i64 0) (fun _ _ => 0)
  case atStart => exact ⟨rfl, rfl⟩
  case round =>
   obtain ⟨rfl, rfl⟩ := hrel
   go_wp2_with fail
   go_ret
   exact ⟨rfl, rfl⟩
end
section
open Go.RowKit
theorem sopen_any (F : Foot) (gd : Nat) (w : World) (h : Dev w F gd (List.replicate 8 0)) (hI : In w F) :
  Calls Tryz.prog 77 #[.pointer (some ⟨gd, 0, none⟩), .int .i64 0, .int .i64 3, .int .i64 6] w fun e w' => ∃ gs, e = .returned (.tuple #[.pointer (some ⟨gs, 0, none⟩), .int .i64 0]) ∧ Dev w' F gd (List.replicate 8 0) ∧ SloX w' gd gs 1 (.slice none 0 0) [] 0 ∧ w.heap.size ≤ gs ∧ gs < w'.heap.size ∧ Kf F w w' := by
 have hg := geoD h
 go_enter Tryz.func77, Tryz.ntmps77
 go_wp2_with fail
 refine hg.mono ?_
 rintro e w1 ⟨rfl, hb1⟩
 obtain ⟨g2, w2, hg2, hw2, hB2, hb2⟩ := alloc_of w1 36 [.int .i64 8, .int .i64 96]
 subst hg2
 obtain ⟨c0, c1⟩ := hB2.c2
 obtain ⟨gs, w3, hg3, hw3, hB3, hb3⟩ := alloc_of w2 186 [.pointer (some ⟨gd, 0, none⟩), .int .i64 0, .int .i64 3, .int .i64 6, .int .i64 96, .int .i64 1, .slice none 0 0, .int .i64 0, .bool false]
 have hb13 := hb1.trans ((hb2.trans (hb3.mono hb2.size)).mono hb1.size)
 have hd3 : Dev w3 F gd (List.replicate 8 0) := h.ag (.of_below hb13)
 have hs3 : SloX w3 gd gs 1 (.slice none 0 0) [] 0 := ⟨hB3, ⟨⟨rfl, .inl ⟨rfl, rfl⟩⟩, by simp⟩, .inr rfl, by simp⟩
 obtain ⟨d0, d1, d2, d3, d4, d5, d6, d7, d8⟩ := hB3.c9
 have HS := Lib.hid (And.intro hs3 (And.intro hd3 (And.intro hb13 (And.intro (show w.heap.size ≤ gs by have := hb1.size; have := hb2.size; omega) hB3.lt))))
 clear hs3 hd3 hb13 hb1 hb2 hb3 hB2 hB3 hg h
 go_wp2_with fail
 go_loop [51] (fun i => ∃ k : Nat, k ≤ 2 ∧ i = .int .i64 (k : Int)) (fun i => 2 - (intOf i).toNat)
 case atStart => exact ⟨0, by omega, rfl⟩
 case round =>
  obtain ⟨k, hk, rfl⟩ := hrel
  have hk3 : k = 0 ∨ k = 1 ∨ k = 2 := by omega
  rcases hk3 with rfl | rfl | rfl
  · skip
    go_wp2_with fail
    refine (blocks0 F gd gs 0 1 _ [] w3 HS.out.1 HS.out.2.1).mono ?_
    rintro e w' ⟨rfl, rfl⟩
    go_wp2_with fail
    refine (has_nil _ _).mono ?_
    rintro e w' ⟨rfl, rfl⟩
    go_wp2_with fail
    refine (read_nil _).mono ?_
    rintro e w' ⟨rfl, rfl⟩
    go_wp2_with fail
    go_round
    case rel => exact ⟨1, by omega, by go_num⟩
    case measure => simp [intOf]
  · skip
    go_wp2_with fail
    refine (blocks1 F gd gs 0 1 _ [] w3 HS.out.1 HS.out.2.1).mono ?_
    rintro e w' ⟨rfl, rfl⟩
    go_wp2_with fail
    refine (has_nil _ _).mono ?_
    rintro e w' ⟨rfl, rfl⟩
    go_wp2_with fail
    refine (read_nil _).mono ?_
    rintro e w' ⟨rfl, rfl⟩
    go_wp2_with fail
    go_round
    case rel => exact ⟨2, by omega, by go_num⟩
    case measure => simp [intOf]
  · have hfl := dflush_any F gd _ w3 HS.out.2.1
    go_wp2_with fail
    refine hfl.mono ?_
    rintro e w4 ⟨rfl, hd4, hk4⟩
    have hne : ¬ F gs := fun q => by have := hI gs q; have := HS.out.2.2.2.1; omega
    have hs4 : SloX w4 gd gs 1 (.slice none 0 0) [] 0 := HS.out.1.ag (hk4.ag (F := fun b => b = gs) (fun b q r => hne (by rw [← q]; exact r))) rfl
    have HE := Lib.hid (And.intro hd4 (And.intro hs4 (And.intro HS.out.2.2.2.1 (And.intro (Nat.lt_of_lt_of_le HS.out.2.2.2.2 hk4.size) ((Kf.of_below (F := F) HS.out.2.2.1).trans hk4 (fun b q => .inl q))))))
    clear hd4 hk4 hs4 hfl
    go_wp2_with fail
    go_ret2
    exact ⟨gs, rfl, HE.out⟩
end
section
open Go.RowKit
theorem tail_any (A : Option Addr) (n c : Nat) (bs : List Int) (w : World) (h : IsY w A n c bs) (hn : n ≤ 20000) :
  Calls Tryz.prog 162 #[.slice A n c] w fun e w' => (∃ v bs', e = .returned v ∧ Byt w' w.heap.size v bs' ∧ bs'.length = 8) ∧ Below w.heap.size w w' := by
 go_enter Tryz.func162, Tryz.ntmps162
 go_wp2_with fail
 refine (put32_any _ w).mono ?_
 rintro e w1 ⟨⟨u1, b1, rfl, hY1, l1⟩, hb1⟩
 obtain ⟨A1, c1, rfl, hY1'⟩ := hY1.isY
 have L1 := Lib.hid l1
 clear l1
 have h1 : IsY w1 A n c bs := h.ag (F := fun _ => False) (.of_below hb1)
 go_wp2_with fail
 refine (crcof_any A n c bs w1 h1.b (by omega)).mono ?_
 rintro e w2 ⟨⟨x, rfl⟩, hb2⟩
 go_wp2_with fail
 refine (put32_any x w2).mono ?_
 rintro e w3 ⟨⟨u3, b3, rfl, hY3, l3⟩, hb3⟩
 obtain ⟨A3, c3, rfl, hY3'⟩ := hY3.isY
 have L3 := Lib.hid l3
 clear l3
 have hb13 := hb2.trans (hb3.mono hb2.size)
 have h13 : IsY w3 A1 b1.length c1 b1 := hY1'.ag (F := fun _ => False) (.of_below hb13)
 obtain ⟨g4, w4, hg4, hw4, hB4, hb4⟩ := alloc_of w3 47 [.slice A1 b1.length c1, .slice A3 b3.length c3]
 subst hg4
 have hbT := hb1.trans ((hb13.trans (hb4.mono hb13.size)).mono hb1.size)
 have hc : Calls Tryz.prog 218 #[.slice (some ⟨w3.heap.size, 0, none⟩) 2 2] w4 _ := concat_any (some ⟨w3.heap.size, 0, none⟩) 2 2 [⟨A1, b1.length, c1, b1⟩, ⟨A3, b3.length, c3, b3⟩] w4 rfl hB4.rd (by
  intro x hx
  simp at hx
  rcases hx with rfl | rfl
  · exact (h13.b.next hb4)
  · exact (hY3'.b.next hb4)) (by omega) (by simp; have := L1.out; have := L3.out; omega)
 have HB := Lib.hid hbT
 clear hbT h13 hY1' hY3' hY1 hY3 hb13 hb1 hb2 hb3 hb4 hB4 h1
 go_wp2_with fail
 refine hc.mono ?_
 rintro e w5 ⟨⟨v, rfl, hv⟩, hb5⟩
 have hbF := HB.out.trans (hb5.mono HB.out.size)
 have HF := Lib.hid (And.intro (hv.base HB.out.size) (And.intro (show ([(⟨A1, b1.length, c1, b1⟩ : RB), ⟨A3, b3.length, c3, b3⟩].flatMap (·.bs)).length = 8 by simp; have := L1.out; have := L3.out; omega) hbF))
 clear hv hb5 hbF hc
 go_wp2_with fail
 go_ret
 exact ⟨⟨_, _, rfl, HF.out.1, HF.out.2.1⟩, HF.out.2.2⟩
theorem infoBl : (Tryz.prog.info? 248).map (fun i => (i.size, i.bytes, i.zero.map (·.cells.size))) = some (5, 56, some 5) := by kernel_rfl
theorem infoBls : ∃ i z, Tryz.prog.info? 248 = some i ∧ i.zero = some z ∧ i.size = 5 ∧ i.bytes = 56 ∧ z.cells.size = 5 := by
 have h := infoBl
 cases hi : Tryz.prog.info? 248 with
 | none => rw [hi] at h; cases h
 | some i =>
   rw [hi] at h
   simp at h
   obtain ⟨h1, h2, z, hz, h3⟩ := h
   exact ⟨i, z, rfl, hz, h1, h2, h3⟩
structure BD where
 kind : Int
 seq : Int
 lba : Int
 A : Option Addr
 n : Nat
 c : Nat
 bs : List Int
def BD.cells (x : BD) : List Value := [.int .i64 x.kind, .int .i64 0, .int .i64 x.seq, .int .i64 x.lba, .slice x.A x.n x.c]
structure BD.ok (x : BD) (w : World) : Prop where
 k : 1 ≤ x.kind ∧ x.kind ≤ 4
 s : 0 ≤ x.seq ∧ x.seq ≤ 1099511627776
 l : 0 ≤ x.lba ∧ x.lba ≤ 1048576
 y : IsY w x.A x.n x.c x.bs
 n : x.n ≤ 40
theorem BD.ok.ag {x : BD} {w w' : World} {F : Foot} (h : x.ok w) (k : Ag F w w') : x.ok w' := ⟨h.k, h.s, h.l, h.y.ag k, h.n⟩
theorem bd_five (p : BD) : p.cells.length = 5 := rfl
theorem IsY.sub {w : World} {ad : Addr} {n c : Nat} {bs : List Int} (h : IsY w (some ad) n c bs) {i j : Nat} (hij : i ≤ j) (hj : j ≤ n) (hic : i < c) : IsY w (some (ad.add i)) (j - i) (c - i) ((bs.drop i).take (j - i)) := by
 have hl := h.b.len
 refine ⟨⟨by rw [List.length_take, List.length_drop]; omega, ?_, fun x hx => h.b.wf x (List.mem_of_mem_drop (List.mem_of_mem_take hx)), by have := h.b.cap; omega, by have := h.b.big; omega⟩, fun ad' e hn => ?_⟩
 · have hd := (h.b.rd).drop (k := i) (c := c) (n := n) (by rw [List.length_map]; omega) (by omega) h.b.cap
   rw [if_neg (by omega)] at hd
   have ht := hd.take (j - i)
   rw [List.map_take, List.map_drop]
   exact ht
 · injection e with e
   subst e
   obtain ⟨ob, ho, hd⟩ := h.y ad rfl (by omega)
   exact ⟨ob, by rw [add_block]; exact ho, hd⟩
theorem IsY.nil (w : World) (c : Nat) (hc : c ≤ maxLen) : IsY w none 0 c [] := ⟨⟨rfl, Rd.nil _ _ _, by simp, Nat.zero_le _, hc⟩, fun ad e _ => by cases e⟩
end
end Go.Proofs.YthhndleddlmgiaaGreatDoor.Tp
