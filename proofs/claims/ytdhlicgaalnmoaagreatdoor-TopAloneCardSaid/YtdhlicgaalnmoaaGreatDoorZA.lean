/- Contracts of the program's functions, and laws on memory: a part of the proof of TopAlone. -/
import Derived.WalkKit
import Derived.Below
import Derived.Deep.Draws
import Derived.Deep.RegionHeld3
import Derived.Deep.Slices
import Derived.Deep.AppendLies
import Derived.Laws.OwnMore
import Derived.ProofKit
import Derived.ChangeSlices
import Derived.Laws.Cover2
import Derived.OwnWalk
import Derived.Maps.AppendAt
import Derived.RegionTactic
import Derived.KernelRfl
import Derived.LoopTactic
import Derived.WalkSpells
import Derived.Lib.Hide
import Derived.Deep.DeepMust
import Derived.Test.YtdhlicgaalnmoaaGreatDoorProg
import Derived.WalkLawsBesides
import Derived.Outline
import Derived.Handy
import Derived.Maps.Own
import Derived.Maps.OwnOps
import Derived.Laws.Rows
import Derived.Laws.ResultCell
import Derived.LoopN
import Derived.Lib.AppendZeros
import Derived.Lib.AppendZerosOnto
import Derived.Laws.MakeOwn
import Derived.Laws.Entries
import Derived.WalkMore
import Derived.IntWalk
set_option linter.unusedSimpArgs false
set_option linter.unusedVariables false
namespace Go.Proofs.YtdhlicgaalnmoaaGreatDoor
open Go Go.RowKit
theorem lR {n:Nat}:n≤n:=Nat.le_refl n
theorem zL {n:Nat}:0≤n:=Nat.zero_le n
theorem nB {b:Nat} {w:World}:Below b w w:=Below.refl b w
theorem nC {α :Type} (a: α):∃b,a=b:=⟨a,rfl⟩
abbrev nD (w w':World):Prop:=Below w.heap.size w w'
theorem _root_.Go.RowKit.Hid.o {p:Prop} (h:RowKit.Hid p):p:=h.out
theorem nF {p0 p1:Prop} (x0:p0) (x1:p1):RowKit.Hid (p0∧p1):=⟨x0,x1⟩
theorem nH {p0 p1 p2:Prop} (x0:p0) (x1:p1) (x2:p2):RowKit.Hid (p0∧p1∧p2):=⟨x0,x1,x2⟩
theorem nI {p0 p1 p2 p3:Prop} (x0:p0) (x1:p1) (x2:p2) (x3:p3):RowKit.Hid (p0∧p1∧p2∧p3):=⟨x0,x1,x2,x3⟩
theorem nJ {p0 p1 p2 p3 p4:Prop} (x0:p0) (x1:p1) (x2:p2) (x3:p3) (x4:p4):RowKit.Hid (p0∧p1∧p2∧p3∧p4):=⟨x0,x1,x2,x3,x4⟩
theorem nK {p0 p1 p2 p3 p4 p5:Prop} (x0:p0) (x1:p1) (x2:p2) (x3:p3) (x4:p4) (x5:p5):RowKit.Hid (p0∧p1∧p2∧p3∧p4∧p5):=⟨x0,x1,x2,x3,x4,x5⟩
theorem nL {p0 p1 p2 p3 p4 p5 p6:Prop} (x0:p0) (x1:p1) (x2:p2) (x3:p3) (x4:p4) (x5:p5) (x6:p6):RowKit.Hid (p0∧p1∧p2∧p3∧p4∧p5∧p6):=⟨x0,x1,x2,x3,x4,x5,x6⟩
theorem nM {p0 p1 p2 p3 p4 p5 p6 p7:Prop} (x0:p0) (x1:p1) (x2:p2) (x3:p3) (x4:p4) (x5:p5) (x6:p6) (x7:p7):RowKit.Hid (p0∧p1∧p2∧p3∧p4∧p5∧p6∧p7):=⟨x0,x1,x2,x3,x4,x5,x6,x7⟩
theorem nN {p0 p1 p2 p3 p4 p5 p6 p7 p8:Prop} (x0:p0) (x1:p1) (x2:p2) (x3:p3) (x4:p4) (x5:p5) (x6:p6) (x7:p7) (x8:p8):RowKit.Hid (p0∧p1∧p2∧p3∧p4∧p5∧p6∧p7∧p8):=⟨x0,x1,x2,x3,x4,x5,x6,x7,x8⟩
theorem nO {p0 p1 p2 p3 p4 p5 p6 p7 p8 p9:Prop} (x0:p0) (x1:p1) (x2:p2) (x3:p3) (x4:p4) (x5:p5) (x6:p6) (x7:p7) (x8:p8) (x9:p9):RowKit.Hid (p0∧p1∧p2∧p3∧p4∧p5∧p6∧p7∧p8∧p9):=⟨x0,x1,x2,x3,x4,x5,x6,x7,x8,x9⟩
theorem nP {p0 p1 p2 p3 p4 p5 p6 p7 p8 p9 p10 p11:Prop} (x0:p0) (x1:p1) (x2:p2) (x3:p3) (x4:p4) (x5:p5) (x6:p6) (x7:p7) (x8:p8) (x9:p9) (x10:p10) (x11:p11):RowKit.Hid (p0∧p1∧p2∧p3∧p4∧p5∧p6∧p7∧p8∧p9∧p10∧p11):=⟨x0,x1,x2,x3,x4,x5,x6,x7,x8,x9,x10,x11⟩
theorem nQ {p0 p1 p2 p3 p4 p5 p6 p7 p8 p9 p10 p11 p12:Prop} (x0:p0) (x1:p1) (x2:p2) (x3:p3) (x4:p4) (x5:p5) (x6:p6) (x7:p7) (x8:p8) (x9:p9) (x10:p10) (x11:p11) (x12:p12):RowKit.Hid (p0∧p1∧p2∧p3∧p4∧p5∧p6∧p7∧p8∧p9∧p10∧p11∧p12):=⟨x0,x1,x2,x3,x4,x5,x6,x7,x8,x9,x10,x11,x12⟩
theorem nR {p0 p1 p2 p3 p4 p5 p6 p7 p8 p9 p10 p11 p12 p13 p14:Prop} (x0:p0) (x1:p1) (x2:p2) (x3:p3) (x4:p4) (x5:p5) (x6:p6) (x7:p7) (x8:p8) (x9:p9) (x10:p10) (x11:p11) (x12:p12) (x13:p13) (x14:p14):RowKit.Hid (p0∧p1∧p2∧p3∧p4∧p5∧p6∧p7∧p8∧p9∧p10∧p11∧p12∧p13∧p14):=⟨x0,x1,x2,x3,x4,x5,x6,x7,x8,x9,x10,x11,x12,x13,x14⟩
theorem nS {p0 p1:Prop} (x0:p0) (x1:p1):p0∧p1:=⟨x0,x1⟩
theorem nT {p0 p1 p2:Prop} (x0:p0) (x1:p1) (x2:p2):p0∧p1∧p2:=⟨x0,x1,x2⟩
theorem nU {p0 p1 p2 p3:Prop} (x0:p0) (x1:p1) (x2:p2) (x3:p3):p0∧p1∧p2∧p3:=⟨x0,x1,x2,x3⟩
theorem nV {p0 p1 p2 p3 p4:Prop} (x0:p0) (x1:p1) (x2:p2) (x3:p3) (x4:p4):p0∧p1∧p2∧p3∧p4:=⟨x0,x1,x2,x3,x4⟩
theorem tC {α :Type} (l:List α) (i:Nat) (a: α):l.toArray.setIfInBounds i a=(l.set i a).toArray:=List.setIfInBounds_toArray l i a
theorem tD {α :Type} {x: α} {xs:List α} {a: α}:(x::xs).set 0 a=a::xs:=rfl
theorem tE {α :Type} {x: α} {xs:List α} {i:Nat} {a: α}:(x::xs).set (i+1) a=x::xs.set i a:=rfl
theorem tF {α :Type} {xs:List α} {i:Nat}:xs.toArray[i]? =xs[i]?:=List.getElem?_toArray
theorem tG {α :Type} {a: α} {i:Nat} {l:List α}:(a::l)[i+1]? =l[i]?:=rfl
theorem tH {α :Type} {a: α} {l:List α}:(a::l)[0]? =some a:=rfl
theorem tI {α :Type} (a: α) (l:List α) (h:0<(a::l).length):(a::l)[0]=a:=rfl
theorem tJ {α :Type} (a: α) (l:List α) (i:Nat) (h:i+1<(a::l).length):(a::l)[i+1]=l[i]'(Nat.lt_of_succ_lt_succ h):=rfl
theorem tK:type_of% (@Nat.le_trans):=@Nat.le_trans
theorem tL:type_of% (@Nat.lt_of_lt_of_le):=@Nat.lt_of_lt_of_le
theorem tM:type_of% (@Nat.le_succ_of_le):=@Nat.le_succ_of_le
theorem tN:type_of% (@Nat.lt_or_ge):=@Nat.lt_or_ge
theorem tO:type_of% (@Nat.le_of_eq):=@Nat.le_of_eq
theorem tP:type_of% (@Nat.eq_zero_or_pos):=@Nat.eq_zero_or_pos
theorem tQ:type_of% (@Nat.le_antisymm):=@Nat.le_antisymm
theorem tR:type_of% (@Nat.le_add_right):=@Nat.le_add_right
theorem tS:type_of% (@Nat.succ_le_succ):=@Nat.succ_le_succ
theorem tT:type_of% (@Nat.lt_irrefl):=@Nat.lt_irrefl
theorem tU:type_of% (@Nat.le_of_lt):=@Nat.le_of_lt
theorem tV:type_of% (@Nat.lt_of_lt_of_eq):=@Nat.lt_of_lt_of_eq
theorem tW:type_of% (@Nat.le_succ):=@Nat.le_succ
theorem tX:type_of% (@List.getElem?_eq_getElem.{0}):=@List.getElem?_eq_getElem
theorem tZ:type_of% (@List.mem_of_getElem?.{0}):=@List.mem_of_getElem?
theorem rB:type_of% (@List.getElem?_eq_some_iff.{0}):=@List.getElem?_eq_some_iff
theorem rC:type_of% (@List.getElem_mem.{0}):=@List.getElem_mem
theorem rD:type_of% (@List.getElem?_set.{0}):=@List.getElem?_set
theorem rE:type_of% (@List.mem_append.{0}):=@List.mem_append
theorem rG:type_of% (@List.take_of_length_le.{0}):=@List.take_of_length_le
theorem rH:type_of% (@List.length_append.{0}):=@List.length_append
theorem rI:type_of% (@List.map_append.{0}):=@List.map_append
theorem rJ:type_of% (@List.length_take.{0}):=@List.length_take
theorem rK:type_of% (@List.length_set.{0}):=@List.length_set
theorem rN:type_of% (@List.length_drop.{0}):=@List.length_drop
theorem rO:type_of% (@List.getElem?_append_left.{0}):=@List.getElem?_append_left
theorem rP:type_of% (@List.getElem?_append_right.{0}):=@List.getElem?_append_right
theorem rQ:type_of% (@List.mem_cons_self.{0}):=@List.mem_cons_self
theorem rR:type_of% (@List.mem_of_mem_take.{0}):=@List.mem_of_mem_take
theorem rS:type_of% (@List.mem_of_mem_drop.{0}):=@List.mem_of_mem_drop
theorem rT:type_of% (@Option.some.inj.{0}):=@Option.some.inj
theorem rU:type_of% (@List.length_map.{0,0}):=@List.length_map
theorem rV:type_of% (@List.getElem_map.{0,0}):=@List.getElem_map
theorem rW:type_of% (@List.getElem?_map.{0,0}):=@List.getElem?_map
theorem rX:type_of% (@List.flatMap_append.{0,0}):=@List.flatMap_append
theorem rY:type_of% (@decide_eq_false):=@decide_eq_false
theorem rZ:type_of% (@decide_eq_true):=@decide_eq_true
end Go.Proofs.YtdhlicgaalnmoaaGreatDoor
namespace Go.Proofs.YtdhlicgaalnmoaaGreatDoor
open Lib (hid)
open Tryz
open Go.RowKit Go.Maps
set_option maxHeartbeats 8000000
set_option maxRecDepth 100000
section
open Go.RowKit
structure Kp (L:List (Nat×Nat×Value)) (w0 w:World):Prop where
 cells:∀c∈L,c.1<w.heap.size∧w.cell? ⟨c.1,c.2.1,none⟩=some c.2.2
 bel:nD w0 w
theorem aEd {k:IntKind} {a b:Int} (h:a=b):Ending.returned (.int k a)=.returned (.int k b):=by rw[h]
end
def Ke (W w:World):Prop:=∃m,w=W.drewN m
theorem Ke.of (w:World) (q:Nat):Ke w (w.drewN q).drew:=⟨q+1,rfl⟩
theorem Ke.one (w:World):Ke w w.drew:=⟨1,rfl⟩
section
open Go.RowKit
theorem aAk (a:Addr) (n:Nat):(a.add n).block=a.block:=by unfold Addr.add;split<;>rfl
theorem aBi (a:Addr) (i j:Nat):(a.add i).add j=a.add (i+j):=by
 unfold Addr.add
 rcases tP i with hi|hi<;>rcases tP j with hj|hj<;>simp[hi,hj,Nat.add_assoc,Nat.ne_of_gt]
def Rd (w:World) (B:Nat) (A:Option Addr) (xs:List Value):Prop :=
 0<xs.length→∃ad,A=some ad∧ad.block<B∧∀j u,xs[j]? =some u→w.cell? (ad.add j)=some u
section
variable {w w':World} {B B':Nat} {A:Option Addr} {xs:List Value}
theorem Rd.nil (w:World) (B:Nat) (A:Option Addr):Rd w B A []:=fun h=>absurd h (by simp)
theorem Rd.get (h:Rd w B A xs) {k:Nat} (hk:k<xs.length):∃ad,A=some ad∧ad.block<B∧w.cell? (ad.add k)=some xs[k]:=by
 obtain⟨ad,e,hb,hc⟩:=h (by omega);exact⟨ad,e,hb,hc k _ (tX hk)⟩
theorem Rd.keep (h:Rd w B A xs) (hk:∀p:Addr,p.block<B→w'.cell? p=w.cell? p):Rd w' B A xs:=fun hn=>by
 obtain⟨ad,e,hb,hc⟩:=h hn;exact⟨ad,e,hb,fun j u hu=>(hk _ (by rw[aAk];exact hb)).trans (hc j u hu)⟩
theorem Rd.more (h:Rd w B A xs) (hB:B≤B'):Rd w B' A xs:=fun hn=>by
 obtain⟨ad,e,hb,hc⟩:=h hn;exact⟨ad,e,by omega,hc⟩
theorem Rd.next (h:Rd w B A xs) {W:World} (hB:B≤w.heap.size) (hb:nD w W):Rd W B A xs:=h.keep fun _ hp=>hb.cell (by omega)
theorem Rd.drew (h:Rd w B A xs):Rd w.drew B A xs:=h
theorem Rd.alloc (h:Rd w B A xs) (hB:B≤w.heap.size) (o:Obj):Rd (w.alloc o) B A xs:=h.keep fun p hp=>World.cell?_alloc_lt w o p (by omega)
theorem Rd.drop (h:Rd w B A xs) {k c n:Nat} (hn:n=xs.length) (hk:k≤n) (hc:n≤c):Rd w B (if c=k then A else A.map (·.add k)) (xs.drop k):=fun hl=>by
 rw[rN] at hl;obtain⟨ad,rfl,hb,hcell⟩:=h (by omega);rw[if_neg (by omega)];refine⟨ad.add k,rfl,by rw[aAk];exact hb,fun j u hu=>?_⟩;rw[aBi];exact hcell _ u (by rw[←hu,List.getElem?_drop])
theorem Rd.take (h:Rd w B A xs) (k:Nat):Rd w B A (xs.take k):=fun hl=>by
 rw[rJ] at hl;obtain⟨ad,e,hb,hcell⟩:=h (by omega);refine⟨ad,e,hb,fun j u hu=>hcell j u ?_⟩;rw[List.getElem?_take] at hu;split at hu
 · exact hu
 · cases hu
end
def Bk (w:World) (g:Nat) (t:TypeId) (cs:List Value):Prop:=w.heap[g]? =some (.cells cs.toArray t (0,0))
section
variable {w w':World} {g:Nat} {t:TypeId} {cs:List Value}
theorem Bk.lt (h:Bk w g t cs):g<w.heap.size:=by
 rcases tN g w.heap.size with hl|hl
 · exact hl
 · unfold Bk at h;rw[Array.getElem?_eq_none hl] at h;cases h
theorem Bk.cell (h:Bk w g t cs) {i:Nat} (hi:i<cs.length):w.cell? ⟨g,i,none⟩=some cs[i]:=by
 rw[cell_of_row w g i cs.toArray t (0,0) h,tF,tX hi]
theorem Bk.c2 {u0 u1:Value} {r:List Value} (h:Bk w g t (u0::u1::r)):w.cell? ⟨g,0,none⟩=some u0∧w.cell? ⟨g,1,none⟩=some u1 :=
 ⟨h.cell (i:=0) (by simp),h.cell (i:=1) (by simp)⟩
theorem Bk.c3 {u0 u1 u2:Value} {r:List Value} (h:Bk w g t (u0::u1::u2::r)):w.cell? ⟨g,0,none⟩=some u0∧w.cell? ⟨g,1,none⟩=some u1∧w.cell? ⟨g,2,none⟩=some u2 :=
 ⟨h.cell (i:=0) (by simp),h.cell (i:=1) (by simp),h.cell (i:=2) (by simp)⟩
theorem Bk.c4 {u0 u1 u2 u3:Value} {r:List Value} (h:Bk w g t (u0::u1::u2::u3::r)):w.cell? ⟨g,0,none⟩=some u0∧w.cell? ⟨g,1,none⟩=some u1∧w.cell? ⟨g,2,none⟩=some u2∧w.cell? ⟨g,3,none⟩=some u3 :=
 ⟨h.cell (i:=0) (by simp),h.cell (i:=1) (by simp),h.cell (i:=2) (by simp),h.cell (i:=3) (by simp)⟩
theorem Bk.c5 {u0 u1 u2 u3 u4:Value} {r:List Value} (h:Bk w g t (u0::u1::u2::u3::u4::r)):w.cell? ⟨g,0,none⟩=some u0∧w.cell? ⟨g,1,none⟩=some u1∧w.cell? ⟨g,2,none⟩=some u2∧w.cell? ⟨g,3,none⟩=some u3∧w.cell? ⟨g,4,none⟩=some u4 :=
 ⟨h.cell (i:=0) (by simp),h.cell (i:=1) (by simp),h.cell (i:=2) (by simp),h.cell (i:=3) (by simp),h.cell (i:=4) (by simp)⟩
theorem Bk.c6 {u0 u1 u2 u3 u4 u5:Value} {r:List Value} (h:Bk w g t (u0::u1::u2::u3::u4::u5::r)):w.cell? ⟨g,0,none⟩=some u0∧w.cell? ⟨g,1,none⟩=some u1∧w.cell? ⟨g,2,none⟩=some u2∧w.cell? ⟨g,3,none⟩=some u3∧w.cell? ⟨g,4,none⟩=some u4∧w.cell? ⟨g,5,none⟩=some u5 :=
 ⟨h.cell (i:=0) (by simp),h.cell (i:=1) (by simp),h.cell (i:=2) (by simp),h.cell (i:=3) (by simp),h.cell (i:=4) (by simp),h.cell (i:=5) (by simp)⟩
theorem Bk.c8 {u0 u1 u2 u3 u4 u5 u6 u7:Value} {r:List Value} (h:Bk w g t (u0::u1::u2::u3::u4::u5::u6::u7::r)):w.cell? ⟨g,0,none⟩=some u0∧w.cell? ⟨g,1,none⟩=some u1∧w.cell? ⟨g,2,none⟩=some u2∧w.cell? ⟨g,3,none⟩=some u3∧w.cell? ⟨g,4,none⟩=some u4∧w.cell? ⟨g,5,none⟩=some u5∧w.cell? ⟨g,6,none⟩=some u6∧w.cell? ⟨g,7,none⟩=some u7 :=
 ⟨h.cell (i:=0) (by simp),h.cell (i:=1) (by simp),h.cell (i:=2) (by simp),h.cell (i:=3) (by simp),h.cell (i:=4) (by simp),h.cell (i:=5) (by simp),h.cell (i:=6) (by simp),h.cell (i:=7) (by simp)⟩
theorem Bk.c9 {u0 u1 u2 u3 u4 u5 u6 u7 u8:Value} {r:List Value} (h:Bk w g t (u0::u1::u2::u3::u4::u5::u6::u7::u8::r)):w.cell? ⟨g,0,none⟩=some u0∧w.cell? ⟨g,1,none⟩=some u1∧w.cell? ⟨g,2,none⟩=some u2∧w.cell? ⟨g,3,none⟩=some u3∧w.cell? ⟨g,4,none⟩=some u4∧w.cell? ⟨g,5,none⟩=some u5∧w.cell? ⟨g,6,none⟩=some u6∧w.cell? ⟨g,7,none⟩=some u7∧w.cell? ⟨g,8,none⟩=some u8 :=
 ⟨h.cell (i:=0) (by simp),h.cell (i:=1) (by simp),h.cell (i:=2) (by simp),h.cell (i:=3) (by simp),h.cell (i:=4) (by simp),h.cell (i:=5) (by simp),h.cell (i:=6) (by simp),h.cell (i:=7) (by simp),h.cell (i:=8) (by simp)⟩
theorem Bk.free (h:Bk w g t cs) (i:Nat):w.frozen? ⟨g,i,none⟩=false:=by
 unfold Bk at h;simp[World.frozen?,h]
theorem Bk.new (w:World) (t:TypeId) (cs:List Value):Bk (w.alloc (.cells cs.toArray t)) w.heap.size t cs:=heap_alloc_new w _
theorem Bk.drewN (h:Bk w g t cs) (n:Nat):Bk (w.drewN n) g t cs:=h
theorem Bk.drew (h:Bk w g t cs):Bk w.drew g t cs:=h
theorem Bk.set (h:Bk w g t cs) (i:Nat) (u:Value):Bk (w.setCell ⟨g,i,none⟩ u) g t (cs.set i u):=by
 unfold Bk at h ⊢;simp[World.setCell,Array.getElem?_modify,h]
theorem Bk.far (h:Bk w g t cs) {p:Addr} (hp:g≠p.block) (u:Value):Bk (w.setCell p u) g t cs:=(Below.heap_setCell w p u g hp).trans h
theorem Bk.next {B:Nat} (h:Bk w g t cs) (hb:Below B w w') (hg:g<B):Bk w' g t cs:=(hb.block g hg).trans h
theorem Bk.rd (h:Bk w g t cs):Rd w w.heap.size (some ⟨g,0,none⟩) cs:=fun _=>⟨⟨g,0,none⟩,rfl,h.lt,fun j u hu=>by
 obtain⟨hj,rfl⟩:=rB.1 hu
 have e:(⟨g,0,none⟩:Addr).add j=⟨g,j,none⟩:=by
  unfold Addr.add
  rcases tP j with h0|h0
  · subst h0;rfl
  · simp[Nat.ne_of_gt h0]
 rw[e];exact h.cell hj⟩
end
structure bHp (w:World) (A:Option Addr) (n c:Nat) (l:List Nat):Prop where
 len:l.length=n
 rd:Rd w w.heap.size A (l.map (Value.float .f64))
 wf:∀x∈l,x<18446744073709551616
 cap:n≤c
 big:c≤maxLen
structure aFm (k:IntKind) (w:World) (A:Option Addr) (n c:Nat) (l:List Int):Prop where
 len:l.length=n
 rd:Rd w w.heap.size A (l.map (Value.int k))
 wf:∀x∈l,(Lit.int k x).wf=true
 cap:n≤c
 big:c≤maxLen
theorem aFm.next {k:IntKind} {w w':World} {A:Option Addr} {n c:Nat} {l:List Int} (h:aFm k w A n c l) (hb:nD w w'):aFm k w' A n c l:=⟨h.len,(h.rd.next lR hb).more hb.size,h.wf,h.cap,h.big⟩
section
open Go.ChangeShapes Go.WideShapes Go.Deep
variable {H:Type} {enc:TypeId×Value→H} {P:Program} {w:World} {base:Nat} {spare:Nat→Bool} {held:Bool}
theorem aZi {α :Type} (n:Nat) (p:Nat→α→Prop) (h:∀i,i<n→∃x,p i x):∃l:List α,l.length=n∧∀i (hi:i<l.length),p i l[i]:=by
 induction n with
 | zero=>exact⟨[],rfl,fun i hi=>absurd hi (by simp)⟩
 | succ n ih =>
   obtain⟨l,hl,hp⟩:=ih fun i hi=>h i (by omega)
   obtain⟨x,hx⟩:=h n (by omega);refine⟨l++[x],by simp[hl],fun i hi=>?_⟩;rw[rH,List.length_singleton] at hi;rcases tN i l.length with g|g
   · rw[List.getElem_append_left g];exact hp i g
   · obtain rfl:i=l.length:=by omega
     rw[List.getElem_append_right lR];simp only[Nat.sub_self,tI];rw[hl];exact hx
theorem aHs {t e:TypeId} {k:IntKind} {A:Option Addr} {n c:Nat} {d:DataW H} {ps:List MemPlace} (ht:P.underlying t=some (.slice e)) (he:P.underlying e=some (.int k)) (hc:P.cellsOf e=1)
  (h:DataW.Trod enc P w base spare held t (.slice A n c) d ps) (lt:∀x∈ps,x.block<w.heap.size):∃l,aFm k w A n c l:=by
 obtain⟨fuel,hf⟩:=h;rcases open_ints ht he hc hf with ⟨hcs,_⟩|⟨a,len,cap,zs,hcs,_,hl,hm,hz,hx,hcell,hwz⟩
 · simp[Value.cells] at hcs
   obtain⟨rfl,rfl,rfl⟩:=hcs;exact⟨[],rfl,Rd.nil _ _ _,by simp,lR,by simp[maxLen]⟩
 · simp[Value.cells] at hcs
   obtain⟨rfl,rfl,rfl⟩:=hcs;have hlm:n≤zs.length:=by rw[hz];split<;>omega
   refine⟨zs.take n,by simp;omega,fun hn=>⟨a,rfl,?_,fun j u hu=>?_⟩,fun x hx'=>hwz x (rR hx'),hl,hm⟩
   · rw[rU,rJ] at hn;have hx2:=(Prod.mk.inj hx).2;exact lt (MemPlace.cell a.block (a.off+0)) (by rw[hx2];exact List.mem_map.2 ⟨0,by simp;omega,rfl⟩)
   · rw[rW] at hu;obtain⟨b,hb',rfl⟩:=Option.map_eq_some_iff.1 hu;obtain⟨hj,rfl⟩:=rB.1 hb';rw[rJ] at hj;rw[hcell j (by omega),List.getElem_take,List.getD_eq_getElem?_getD,tX (by omega)];rfl
end
end
section
open Go.RowKit
section
variable {P:Program} (w:World)
theorem aMp (base:Nat) (t ty e:TypeId) (i:TypeInfo) (ht:P.underlying t=some (.slice e)) (hi:P.info? e=some i)
  (v:Value) (n:Nat) (xs:List Value) (hown:w.ownsRow base e 1 v n xs) (c:Nat):(Builtin.append_ #[t,t] ty #[v,.slice none 0 c]).run P w=.ok v w:=by
 rcases hown.2 with ⟨rfl,rfl⟩|⟨g,cap,cur,rfl,_,_,hnc,_⟩
 · simp[Builtin.append_,run_underlying ht,sizeOf,typeInfo,hi,Builtin.lenOf,Builtin.firstCells]
 · simp[Builtin.append_,run_underlying ht,sizeOf,typeInfo,hi,Builtin.lenOf,Builtin.firstCells,hnc,storeCells]
theorem aWf (base:Nat) (t ty e:TypeId) (i:TypeInfo) (z:Value) (bytes:Nat) (ht:P.underlying t=some (.slice e)) (hi:P.info? e=some i) (hz:i.zero=some z)
  (hsize:i.size=1) (hby:i.bytes=bytes) (hzs:z.cells.size=1)
  (v:Value) (n:Nat) (xs:List Value) (hown:w.ownsRow base e 1 v n xs)
  (B:Nat) (A:Option Addr) (m c:Nat) (news:List Value) (hl:news.length=m) (hr:Rd w B A news) (h1:∀u∈news,u.oneCell'=true)
  (h63:n+m≤1000000000) (hbytes:(n+m)*bytes≤1000000000000) (hbase:base≤w.heap.size) :
  ∃v' w',(Builtin.append_ #[t,t] ty #[v,.slice A m c]).run P w=.ok v' w'∧w'.ownsRow base e 1 v' (n+m) (xs++news)∧w.grownBy w' v.ownBlock:=by
 rcases A with _|ad
 · have hm:m=0:=by
    rcases tP m with h0|h0
    · exact h0
    · obtain⟨ad,h,_⟩:=hr (by omega);cases h
   subst hm;have hn:news=[]:=List.eq_nil_of_length_eq_zero hl;subst hn;exact⟨v,w,aMp w base t ty e i ht hi v n xs hown c,by simpa using hown,World.grownBy.refl w _⟩
 · have hcells:∀j u,news[j]? =some u→w.cell? (ad.add j)=some u:=by
    intro j u hu;rcases tP m with h0|h0
    · obtain rfl:news=[]:=List.eq_nil_of_length_eq_zero (by omega);simp at hu
    · obtain⟨ad',h,_,hc⟩:=hr (by omega);injection h with h;subst h;exact hc j u hu
   obtain⟨v',w',hrun,h2,h3,_⟩:=run_append_own_at (P:=P) w base t ty e i z 1 bytes ht hi hz hsize hby hzs (by omega) v n xs hown ad m c news (by omega) hcells h1 (by unfold maxLen;omega) (by omega) hbase;exact⟨v',w',hrun,h2,h3⟩
theorem bBd {o:Oper} {a:Act} {K:Act→World→Prop} {Q:Exit→Act→World→Prop} (s x:Operand) (t:TypeId)
  (ho:o.op=.call {callee:=.builtin .append,args:=#[s,x],argTypes:=#[t,t]})
  (base:Nat) (e:TypeId) (i:TypeInfo) (z:Value) (bytes:Nat) (ht:P.underlying t=some (.slice e)) (hi:P.info? e=some i) (hz:i.zero=some z)
  (hsize:i.size=1) (hby:i.bytes=bytes) (hzs:z.cells.size=1)
  (v:Value) (n:Nat) (xs:List Value) (hs:a.eval s=v) (hown:w.ownsRow base e 1 v n xs)
  (B:Nat) (A:Option Addr) (m c:Nat) (news:List Value) (hx:a.eval x=.slice A m c) (hl:news.length=m) (hr:Rd w B A news) (h1:∀u∈news,u.oneCell'=true)
  (h63:n+m≤1000000000) (hbytes:(n+m)*bytes≤1000000000000) (hbase:base≤w.heap.size)
  (h:∀v' w',w'.ownsRow base e 1 v' (n+m) (xs++news)→w.grownBy w' v.ownBlock→K (a.put o.dst v') w'):o.wp P a w K Q:=by
 obtain⟨v',w',hrun,h2,h3⟩:=aWf (P:=P) w base t o.type e i z bytes ht hi hz hsize hby hzs v n xs hown B A m c news hl hr h1 h63 hbytes hbase;unfold Oper.wp execOp
 simp only[ho,resolve,invoke,builtin,Sem.run_bind,Sem.run_pure,Result.andThen_ok,List.map_toArray,List.map_cons,List.map_nil,hs,hx,hrun];exact h v' w' h2 h3
theorem aDu {ops:Array Oper} {rest:List Oper} {o:Oper} {a:Act} {Q:Exit→Act→World→Prop} (hgd:o.guard=none) (s x:Operand) (t:TypeId)
  (ho:o.op=.call {callee:=.builtin .append,args:=#[s,x],argTypes:=#[t,t]})
  (base:Nat) (e:TypeId) (i:TypeInfo) (z:Value) (bytes:Nat) (ht:P.underlying t=some (.slice e)) (hi:P.info? e=some i) (hz:i.zero=some z)
  (hsize:i.size=1) (hby:i.bytes=bytes) (hzs:z.cells.size=1)
  (v:Value) (n:Nat) (xs:List Value) (hs:a.eval s=v) (hown:w.ownsRow base e 1 v n xs)
  (B:Nat) (A:Option Addr) (m c:Nat) (news:List Value) (hx:a.eval x=.slice A m c) (hl:news.length=m) (hr:Rd w B A news) (h1:∀u∈news,u.oneCell'=true)
  (h63:n+m≤1000000000) (hbytes:(n+m)*bytes≤1000000000000) (hbase:base≤w.heap.size)
  (h:∀v' w',w'.ownsRow base e 1 v' (n+m) (xs++news)→w.grownBy w' v.ownBlock→wpList P ops Q rest (a.put o.dst v') w'):wpList P ops Q (o::rest) a w :=
 wpList_plain hgd fun _ hK=>bBd w s x t ho base e i z bytes ht hi hz hsize hby hzs v n xs hs hown B A m c news hx hl hr h1 h63 hbytes hbase fun v' w' h2 h3=>hK _ _ (h v' w' h2 h3)
end
theorem Ui {k:IntKind} {l:List Int}:∀u∈l.map (Value.int k),u.oneCell'=true:=by
 intro u hu;obtain⟨x,_,rfl⟩:=List.mem_map.1 hu;rfl
theorem Xu {B:Nat} {a w:World} (h:Below B a w):Below B a w.drew:=⟨h.os,h.tape,h.output,h.size,h.block⟩
theorem Vw {B:Nat} {a w:World} (h:Below B a w) (k:Nat):Below B a (w.drewN k):=⟨h.os,h.tape,h.output,h.size,h.block⟩
end
section
open Go.RowKit
section
variable {P:Program} (w:World)
theorem aKp (base:Nat) (t ty e:TypeId) (i:TypeInfo) (size:Nat) (ht:P.underlying t=some (.slice e)) (hi:P.info? e=some i)
  (v:Value) (n:Nat) (xs:List Value) (hown:w.ownsRow base e size v n xs) (c:Nat):(Builtin.append_ #[t,t] ty #[v,.slice none 0 c]).run P w=.ok v w:=by
 rcases hown.2 with ⟨rfl,rfl⟩|⟨g,cap,cur,rfl,_,_,hnc,_⟩
 · simp[Builtin.append_,run_underlying ht,sizeOf,typeInfo,hi,Builtin.lenOf,Builtin.firstCells]
 · simp[Builtin.append_,run_underlying ht,sizeOf,typeInfo,hi,Builtin.lenOf,Builtin.firstCells,hnc,storeCells]
end
end
section
variable {P:Program} {ops:Array Oper} {Q:Exit→Act→World→Prop} {md:Region.Mode} {S:World→Prop} {last:Nat}
def aEh (P:Program) (md:Region.Mode) (ops:Array Oper) (Q:Exit→Act→World→Prop) (S:World→Prop) (last:Nat):Nat→Array Bool→Act→World→Prop
 | 0,l,a,w=>Region.ready md ops l=[]∧Q .normal a w
 | n+1,l,a,w=>(Region.ready md ops l=[]→Q .normal a w)∧
    ∀i∈Region.ready md ops l,wpOp P ops Q i (fun a' w'=>(i≠last→S w')∧aEh P md ops Q S last n (l.setIfInBounds i true) a' w') a w
theorem aLb:∀(n:Nat) (l:Array Bool) (a:Act) (w:World),aEh P md ops Q S last n l a w→wpAny P md ops Q n l a w
 | 0,_,_,_,h=>h
 | n+1,_,_,_,h=>⟨h.1,fun i hi=>wpOp_mono (fun a' w' k=>aLb n _ a' w' k.2) (h.2 i hi)⟩
def aId (md:Region.Mode) (ops:Array Oper) (last i:Nat):Bool:=match ops[last]? with
 | some o=>o.after.any fun e=>Region.binds md e&&e.on==i
 | none=>false
theorem aGi {i j:Nat} {l:Array Bool} (hw:aId md ops last i=true) (hi:i∈Region.ready md ops l) (hj:j∈Region.ready md ops l):j≠last:=by
 rintro rfl;obtain⟨_,o,ho,hall⟩:=mem_ready.1 hj;unfold aId at hw;rw[ho] at hw;obtain⟨k,hk,he⟩:=Array.any_eq_true.1 hw;rw[Bool.and_eq_true,beq_iff_eq] at he;have h1:=hall _ (Array.getElem_mem hk) he.1;have h0:=(mem_ready.1 hi).1;rw[he.2] at h1;rcases tN i l.size with g|g
 · simp[g] at h0 h1
   rw[h0] at h1;cases h1
 · simp[Array.getElem?_eq_none g] at h1
theorem aNj {i:Nat} {oi:Oper} {v:Value} (hi:ops[i]? =some oi) (hsel:∀(j:Nat) (o:Oper) cs b,ops[j]? =some o→o.op≠.select cs b)
  (hQ:∀c a w,Q (.panic c) (a.put oi.dst v) w→Q (.panic c) a w) (hw:aId md ops last i=true) :
  ∀(n:Nat) (l:Array Bool) (a:Act) (w:World),
   (∀j oj,ops[j]? =some oj→j≠i→l.getD j true=false→(∀e∈oj.after,Region.binds md e=true→e.on≠i)→oi.apart ops oj=true)→
   i∈Region.ready md ops l→YieldsIf P ops S oi v a→S w→
   aEh P md ops Q S last n (l.setIfInBounds i true) (a.put oi.dst v) w→aEh P md ops Q S last (n+1) l a w:=by
 intro n
 induction n with
 | zero =>
   intro l a w _ hr hy hS H;refine⟨(fun h=>by rw[h] at hr;cases hr),fun j hj=>?_⟩;rcases Decidable.em (j=i) with e|e
   · subst e;exact hy.wpOp hi hS ⟨fun _=>hS,H⟩
   · have:=ready_mono hj e;rw[H.1] at this;cases this
 | succ n ih =>
   intro l a w hf hr hy hS H;refine⟨(fun h=>by rw[h] at hr;cases hr),fun j hj=>?_⟩;rcases Decidable.em (j=i) with e|e
   · subst e;exact hy.wpOp hi hS ⟨fun _=>hS,H⟩
   · obtain⟨hu,oj,hoj,hall⟩:=mem_ready.1 hj
     have hno:∀x∈oj.after,Region.binds md x=true→x.on≠i:=fun x hx hb he=>by
      have h1:=hall x hx hb;have h0:=(mem_ready.1 hr).1;rw[he] at h1;rcases tN i l.size with g|g
      · simp[g] at h0 h1
        rw[h0] at h1;cases h1
      · simp[Array.getElem?_eq_none g] at h1
     have hl:=aGi hw hr hj;have h2:=wpOp_putIf hoj (hf j oj hoj e hu hno) (fun cs b=>hsel i oi cs b hi) (fun cs b=>hsel j oj cs b hoj) hQ hy (H.2 j (ready_mono hj e));refine wpOp_mono (fun a' w' k=>⟨fun _=>k.2.1 hl,ih _ a' w' (fun m om hm hmi hun hn=>hf m om hm hmi ?_ hn) (ready_mono hr (Ne.symm e)) k.1 (k.2.1 hl) ?_⟩) h2
     · rcases Decidable.em (j=m) with g|g
       · subst g;exact hu
       · rw[getD_set_ne true g] at hun;exact hun
     · rw[Array.setIfInBounds_comm _ _ e];exact k.2.2
theorem aIq {i:Nat} {oi:Oper} {v:Value} {n:Nat} {l:Array Bool} {a:Act} {w:World} (hi:ops[i]? =some oi)
  (hs:Region.noSelect ops=true) (hf:Region.free md ops l i=true) (hr:(Region.ready md ops l).contains i=true) (hw:aId md ops last i=true)
  (hQ:∀c a w,Q (.panic c) (a.put oi.dst v) w→Q (.panic c) a w) (hy:YieldsIf P ops S oi v a) (hS:S w)
  (h:aEh P md ops Q S last n (l.setIfInBounds i true) (a.put oi.dst v) w):aEh P md ops Q S last (n+1) l a w :=
 aNj hi (Region.noSelect_spec hs) hQ hw n l a w (Region.free_spec hi hf) (by simpa using hr) hy hS h
theorem aTh {i:Nat} {o:Oper} {n:Nat} {l:Array Bool} {a:Act} {w:World} (hr:Region.ready md ops l=[i]) (ho:ops[i]? =some o)
  (h:∀K:Act→World→Prop,Shut (∀a w,(i≠last→S w)→aEh P md ops Q S last n (l.setIfInBounds i true) a w→K a w)→if Region.wanted o (yielded ops a.tmps)=true then Oper.wp P o a w K Q else K (a.put o.dst undef) w):aEh P md ops Q S last (n+1) l a w :=
 ⟨(fun h0=>by rw[hr] at h0;cases h0),fun j hj=>by
  rw[hr] at hj;obtain rfl:j=i:=by simpa using hj
  exact wpOp_step ho fun K hK=>h K fun a w h1 h2=>hK a w ⟨h1,h2⟩⟩
theorem aAz {l:Array Bool} {a:Act} {w:World} (hr:Region.ready md ops l=[]) (h:Q .normal a w):∀n,aEh P md ops Q S last n l a w
 | 0=>⟨hr,h⟩
 | _+1=>⟨fun _=>h,by rw[hr];simp⟩
theorem aAn (S:World→Prop) (last:Nat) {id:Nat} {a:Act} {w:World} (hm:P.follows .mixedOrders=true) (hS:S w.drew)
  (h:S w.drew→aEh P .any ops Q S last ops.size (Array.replicate ops.size false) a w.drew):(Code.region id ops true).wp P Q a w:=wp_region_any hm (aLb _ _ _ _ (h hS))
end
section
variable {P:Program} {ops:Array Oper} {Q:Exit→Act→World→Prop} {md:Region.Mode} {S:World→Prop} {late:List Nat}
def Ko (P:Program) (md:Region.Mode) (ops:Array Oper) (Q:Exit→Act→World→Prop) (S:World→Prop) (late:List Nat):Nat→Array Bool→Act→World→Prop
 | 0,l,a,w=>Region.ready md ops l=[]∧Q .normal a w
 | n+1,l,a,w=>(Region.ready md ops l=[]→Q .normal a w)∧
    ∀i∈Region.ready md ops l,wpOp P ops Q i (fun a' w'=>(i∉late→S w→S w')∧Ko P md ops Q S late n (l.setIfInBounds i true) a' w') a w
theorem aLc:∀(n:Nat) (l:Array Bool) (a:Act) (w:World),Ko P md ops Q S late n l a w→wpAny P md ops Q n l a w
 | 0,_,_,_,h=>h
 | n+1,_,_,_,h=>⟨h.1,fun i hi=>wpOp_mono (fun a' w' k=>aLc n _ a' w' k.2) (h.2 i hi)⟩
def aFj (md:Region.Mode) (ops:Array Oper) (late:List Nat) (i:Nat):Bool:=late.all fun j=>aId md ops j i
theorem aIe {i j:Nat} {l:Array Bool} {late:List Nat} (hw:aFj md ops late i=true) (hi:i∈Region.ready md ops l) (hj:j∈Region.ready md ops l):j∉late:=fun hm=>by
 have h:=List.all_eq_true.1 hw j hm;exact aGi h hi hj rfl
theorem aNk {i:Nat} {oi:Oper} {v:Value} (hi:ops[i]? =some oi) (hsel:∀(j:Nat) (o:Oper) cs b,ops[j]? =some o→o.op≠.select cs b)
  (hQ:∀c a w,Q (.panic c) (a.put oi.dst v) w→Q (.panic c) a w) (hw:aFj md ops late i=true) :
  ∀(n:Nat) (l:Array Bool) (a:Act) (w:World),
   (∀j oj,ops[j]? =some oj→j≠i→l.getD j true=false→(∀e∈oj.after,Region.binds md e=true→e.on≠i)→oi.apart ops oj=true)→
   i∈Region.ready md ops l→YieldsIf P ops S oi v a→S w→
   Ko P md ops Q S late n (l.setIfInBounds i true) (a.put oi.dst v) w→Ko P md ops Q S late (n+1) l a w:=by
 intro n
 induction n with
 | zero =>
   intro l a w _ hr hy hS H;refine⟨(fun h=>by rw[h] at hr;cases hr),fun j hj=>?_⟩;rcases Decidable.em (j=i) with e|e
   · subst e;exact hy.wpOp hi hS ⟨fun _ _=>hS,H⟩
   · have:=ready_mono hj e;rw[H.1] at this;cases this
 | succ n ih =>
   intro l a w hf hr hy hS H;refine⟨(fun h=>by rw[h] at hr;cases hr),fun j hj=>?_⟩;rcases Decidable.em (j=i) with e|e
   · subst e;exact hy.wpOp hi hS ⟨fun _ _=>hS,H⟩
   · obtain⟨hu,oj,hoj,hall⟩:=mem_ready.1 hj
     have hno:∀x∈oj.after,Region.binds md x=true→x.on≠i:=fun x hx hb he=>by
      have h1:=hall x hx hb;have h0:=(mem_ready.1 hr).1;rw[he] at h1;rcases tN i l.size with g|g
      · simp[g] at h0 h1
        rw[h0] at h1;cases h1
      · simp[Array.getElem?_eq_none g] at h1
     have hl:=aIe hw hr hj;have h2:=wpOp_putIf hoj (hf j oj hoj e hu hno) (fun cs b=>hsel i oi cs b hi) (fun cs b=>hsel j oj cs b hoj) hQ hy (H.2 j (ready_mono hj e));refine wpOp_mono (fun a' w' k=>⟨fun _ _=>k.2.1 hl hS,ih _ a' w' (fun m om hm hmi hun hn=>hf m om hm hmi ?_ hn) (ready_mono hr (Ne.symm e)) k.1 (k.2.1 hl hS) ?_⟩) h2
     · rcases Decidable.em (j=m) with g|g
       · subst g;exact hu
       · rw[getD_set_ne true g] at hun;exact hun
     · rw[Array.setIfInBounds_comm _ _ e];exact k.2.2
theorem aNl {i:Nat} {oi:Oper} {v:Value} (hi:ops[i]? =some oi) (hsel:∀(j:Nat) (o:Oper) cs b,ops[j]? =some o→o.op≠.select cs b)
  (hQ:∀c a w,Q (.panic c) (a.put oi.dst v) w→Q (.panic c) a w) :
  ∀(n:Nat) (l:Array Bool) (a:Act) (w:World),
   (∀j oj,ops[j]? =some oj→j≠i→l.getD j true=false→(∀e∈oj.after,Region.binds md e=true→e.on≠i)→oi.apart ops oj=true)→
   i∈Region.ready md ops l→YieldsIf P ops (fun _=>True) oi v a→
   Ko P md ops Q S late n (l.setIfInBounds i true) (a.put oi.dst v) w→Ko P md ops Q S late (n+1) l a w:=by
 intro n
 induction n with
 | zero =>
   intro l a w _ hr hy H;refine⟨(fun h=>by rw[h] at hr;cases hr),fun j hj=>?_⟩;rcases Decidable.em (j=i) with e|e
   · subst e;exact hy.wpOp hi trivial ⟨fun _ h=>h,H⟩
   · have:=ready_mono hj e;rw[H.1] at this;cases this
 | succ n ih =>
   intro l a w hf hr hy H;refine⟨(fun h=>by rw[h] at hr;cases hr),fun j hj=>?_⟩;rcases Decidable.em (j=i) with e|e
   · subst e;exact hy.wpOp hi trivial ⟨fun _ h=>h,H⟩
   · obtain⟨hu,oj,hoj,hall⟩:=mem_ready.1 hj
     have hno:∀x∈oj.after,Region.binds md x=true→x.on≠i:=fun x hx hb he=>by
      have h1:=hall x hx hb;have h0:=(mem_ready.1 hr).1;rw[he] at h1;rcases tN i l.size with g|g
      · simp[g] at h0 h1
        rw[h0] at h1;cases h1
      · simp[Array.getElem?_eq_none g] at h1
     have h2:=wpOp_putIf hoj (hf j oj hoj e hu hno) (fun cs b=>hsel i oi cs b hi) (fun cs b=>hsel j oj cs b hoj) hQ hy (H.2 j (ready_mono hj e));refine wpOp_mono (fun a' w' k=>⟨k.2.1,ih _ a' w' (fun m om hm hmi hun hn=>hf m om hm hmi ?_ hn) (ready_mono hr (Ne.symm e)) k.1 ?_⟩) h2
     · rcases Decidable.em (j=m) with g|g
       · subst g;exact hu
       · rw[getD_set_ne true g] at hun;exact hun
     · rw[Array.setIfInBounds_comm _ _ e];exact k.2.2
theorem aQt {i:Nat} {oi:Oper} {v:Value} {n:Nat} {l:Array Bool} {a:Act} {w:World} (hi:ops[i]? =some oi)
  (hs:Region.noSelect ops=true) (hf:Region.free md ops l i=true) (hr:(Region.ready md ops l).contains i=true)
  (hQ:∀c a w,Q (.panic c) (a.put oi.dst v) w→Q (.panic c) a w) (hy:YieldsIf P ops (fun _=>True) oi v a)
  (h:Ko P md ops Q S late n (l.setIfInBounds i true) (a.put oi.dst v) w):Ko P md ops Q S late (n+1) l a w :=
 aNl hi (Region.noSelect_spec hs) hQ n l a w (Region.free_spec hi hf) (by simpa using hr) hy h
theorem aQu {i:Nat} {oi:Oper} {v:Value} {n:Nat} {l:Array Bool} {a:Act} {w:World} (hi:ops[i]? =some oi)
  (hs:Region.noSelect ops=true) (hf:Region.free md ops l i=true) (hr:(Region.ready md ops l).contains i=true) (hw:aFj md ops late i=true)
  (hQ:∀c a w,Q (.panic c) (a.put oi.dst v) w→Q (.panic c) a w) (hy:YieldsIf P ops S oi v a) (hS:S w)
  (h:Ko P md ops Q S late n (l.setIfInBounds i true) (a.put oi.dst v) w):Ko P md ops Q S late (n+1) l a w :=
 aNk hi (Region.noSelect_spec hs) hQ hw n l a w (Region.free_spec hi hf) (by simpa using hr) hy hS h
theorem aTi {i:Nat} {o:Oper} {n:Nat} {l:Array Bool} {a:Act} {w:World} (hr:Region.ready md ops l=[i]) (ho:ops[i]? =some o)
  (h:∀K:Act→World→Prop,Shut (∀a w',(i∉late→S w→S w')→Ko P md ops Q S late n (l.setIfInBounds i true) a w'→K a w')→if Region.wanted o (yielded ops a.tmps)=true then Oper.wp P o a w K Q else K (a.put o.dst undef) w):Ko P md ops Q S late (n+1) l a w :=
 ⟨(fun h0=>by rw[hr] at h0;cases h0),fun j hj=>by
  rw[hr] at hj;obtain rfl:j=i:=by simpa using hj
  exact wpOp_step ho fun K hK=>h K fun a w h1 h2=>hK a w ⟨h1,h2⟩⟩
theorem Vs {l:Array Bool} {a:Act} {w:World} (hr:Region.ready md ops l=[]) (h:Q .normal a w):∀n,Ko P md ops Q S late n l a w
 | 0=>⟨hr,h⟩
 | _+1=>⟨fun _=>h,by rw[hr];simp⟩
theorem Vn (S:World→Prop) (late:List Nat) {id:Nat} {a:Act} {w:World} (hm:P.follows .mixedOrders=true) (hS:S w.drew)
  (h:S w.drew→Ko P .any ops Q S late ops.size (Array.replicate ops.size false) a w.drew):(Code.region id ops true).wp P Q a w:=wp_region_any hm (aLc _ _ _ _ (h hS))
end
end Go.Proofs.YtdhlicgaalnmoaaGreatDoor
namespace Go.Proofs.YtdhlicgaalnmoaaGreatDoor.Tp
open Lib (hid)
open Tryz
open Go.RowKit Go.Maps
set_option maxHeartbeats 8000000
set_option maxRecDepth 100000
section
variable {P:Program} {md:Region.Mode} {ops:Array Oper} {Q:Exit→Act→World→Prop} {S:World→Prop} {late:List Nat} {last:Nat}
theorem kF (i:Nat) {oi:Oper} {v:Value} {n:Nat} {l l':Array Bool} {a a':Act} {w:World} (h:wpAnyH P md ops Q S n l' a' w) (hi:ops[i]? =some oi:=by (simp only[tF,tG,tH];rfl)) (hs:Region.noSelect ops=true:=by kernel_rfl) (hf:Region.free md ops l i=true:=by kernel_rfl) (hr:(Region.ready md ops l).contains i=true:=by kernel_rfl) (hQ:∀c a w,Q (.panic c) (a.put oi.dst v) w→Q (.panic c) a w:=by first|exact fun _ _ _ h=>h|exact fun c a w h=>hpan c a _ _ w h) (y:YieldsIf P ops S oi v a:=by exact .inl ⟨by rfl,fun w' hSw=>by (have k0:=Kq.o w' hSw);(go_simp<;>with_reducible rfl)⟩) (s:S w:=by exact nE) (el:l.setIfInBounds i true=l':=by ((try simp only[tC,tD,tE]);rfl)) (ea:a.put oi.dst v=a':=by ((try simp only[Act.put,tC,tD,tE]);rfl)):wpAnyH P md ops Q S (n+1) l a w:=by
 subst el ea;exact wpAnyH_take hi hs hf hr hQ y s h
theorem kD (i:Nat) {oi:Oper} {v:Value} {n:Nat} {l l':Array Bool} {a a':Act} {w:World} (h:wpAnyH P md ops Q S n l' a' w) (hi:ops[i]? =some oi:=by (simp only[tF,tG,tH];rfl)) (hs:Region.noSelect ops=true:=by kernel_rfl) (hf:Region.free md ops l i=true:=by kernel_rfl) (hr:(Region.ready md ops l).contains i=true:=by kernel_rfl) (hQ:∀c a w,Q (.panic c) (a.put oi.dst v) w→Q (.panic c) a w:=by first|exact fun _ _ _ h=>h|exact fun c a w h=>hpan c a _ _ w h) (y:YieldsIf P ops S oi v a:=by exact .inl ⟨by rfl,fun w' hSw=>by (obtain⟨m,rfl⟩:=hSw);(go_simp<;>with_reducible rfl)⟩) (s:S w:=by exact nE) (el:l.setIfInBounds i true=l':=by ((try simp only[tC,tD,tE]);rfl)) (ea:a.put oi.dst v=a':=by ((try simp only[Act.put,tC,tD,tE]);rfl)):wpAnyH P md ops Q S (n+1) l a w:=by
 subst el ea;exact wpAnyH_take hi hs hf hr hQ y s h
theorem kS (i:Nat) {oi:Oper} {n:Nat} {l l':Array Bool} {a a':Act} {w:World} (h:wpAnyH P md ops Q S n l' a' w) (hi:ops[i]? =some oi:=by (simp only[tF,tG,tH];rfl)) (hs:Region.noSelect ops=true:=by kernel_rfl) (hf:Region.free md ops l i=true:=by kernel_rfl) (hr:(Region.ready md ops l).contains i=true:=by kernel_rfl) (hQ:∀c a w,Q (.panic c) (a.put oi.dst undef) w→Q (.panic c) a w:=by first|exact fun _ _ _ h=>h|exact fun c a w h=>hpan c a _ _ w h) (y:YieldsIf P ops S oi undef a:=by exact .inr ⟨by rfl,rfl⟩) (s:S w:=by exact nE) (el:l.setIfInBounds i true=l':=by ((try simp only[tC,tD,tE]);rfl)) (ea:a.put oi.dst undef=a':=by ((try simp only[Act.put,tC,tD,tE]);rfl)):wpAnyH P md ops Q S (n+1) l a w:=by
 subst el ea;exact wpAnyH_take hi hs hf hr hQ y s h
theorem kL (i:Nat) {oi:Oper} {v:Value} {n:Nat} {l l':Array Bool} {a a':Act} {w:World} (h:aEh P md ops Q S last n l' a' w) (hi:ops[i]? =some oi:=by (simp only[tF,tG,tH];rfl)) (hs:Region.noSelect ops=true:=by kernel_rfl) (hf:Region.free md ops l i=true:=by kernel_rfl) (hr:(Region.ready md ops l).contains i=true:=by kernel_rfl) (hw:aId md ops last i=true:=by kernel_rfl) (hQ:∀c a w,Q (.panic c) (a.put oi.dst v) w→Q (.panic c) a w:=by first|exact fun _ _ _ h=>h|exact fun c a w h=>hpan c a _ _ w h) (y:YieldsIf P ops S oi v a:=by exact .inl ⟨by rfl,fun w' hSw=>by (have k0:=Kq.o w' hSw);(go_simp<;>with_reducible rfl)⟩) (s:S w:=by exact nE) (el:l.setIfInBounds i true=l':=by ((try simp only[tC,tD,tE]);rfl)) (ea:a.put oi.dst v=a':=by ((try simp only[Act.put,tC,tD,tE]);rfl)):aEh P md ops Q S last (n+1) l a w:=by
 subst el ea;exact aIq hi hs hf hr hw hQ y s h
theorem kE (i:Nat) {oi:Oper} {v:Value} {n:Nat} {l l':Array Bool} {a a':Act} {w:World} (h:aEh P md ops Q S last n l' a' w) (hi:ops[i]? =some oi:=by (simp only[tF,tG,tH];rfl)) (hs:Region.noSelect ops=true:=by kernel_rfl) (hf:Region.free md ops l i=true:=by kernel_rfl) (hr:(Region.ready md ops l).contains i=true:=by kernel_rfl) (hw:aId md ops last i=true:=by kernel_rfl) (hQ:∀c a w,Q (.panic c) (a.put oi.dst v) w→Q (.panic c) a w:=by first|exact fun _ _ _ h=>h|exact fun c a w h=>hpan c a _ _ w h) (y:YieldsIf P ops S oi v a:=by exact .inl ⟨by rfl,fun w' hSw=>by (obtain⟨m,rfl⟩:=hSw);(go_simp<;>with_reducible rfl)⟩) (s:S w:=by exact nE) (el:l.setIfInBounds i true=l':=by ((try simp only[tC,tD,tE]);rfl)) (ea:a.put oi.dst v=a':=by ((try simp only[Act.put,tC,tD,tE]);rfl)):aEh P md ops Q S last (n+1) l a w:=by
 subst el ea;exact aIq hi hs hf hr hw hQ y s h
theorem kM (i:Nat) {oi:Oper} {v:Value} {n:Nat} {l l':Array Bool} {a a':Act} {w:World} (h:Ko P md ops Q S late n l' a' w) (hi:ops[i]? =some oi:=by (simp only[tF,tG,tH];rfl)) (hs:Region.noSelect ops=true:=by kernel_rfl) (hf:Region.free md ops l i=true:=by kernel_rfl) (hr:(Region.ready md ops l).contains i=true:=by kernel_rfl) (hw:aFj md ops late i=true:=by kernel_rfl) (hQ:∀c a w,Q (.panic c) (a.put oi.dst v) w→Q (.panic c) a w:=by first|exact fun _ _ _ h=>h|exact fun c a w h=>hpan c a _ _ w h) (y:YieldsIf P ops S oi v a:=by exact .inl ⟨by rfl,fun w' hSw=>by (have k0:=Kq.o w' hSw);(go_simp<;>with_reducible rfl)⟩) (s:S w:=by exact nE) (el:l.setIfInBounds i true=l':=by ((try simp only[tC,tD,tE]);rfl)) (ea:a.put oi.dst v=a':=by ((try simp only[Act.put,tC,tD,tE]);rfl)):Ko P md ops Q S late (n+1) l a w:=by
 subst el ea;exact aQu hi hs hf hr hw hQ y s h
theorem kR (i:Nat) {oi:Oper} {v:Value} {n:Nat} {l l':Array Bool} {a a':Act} {w:World} (h:Ko P md ops Q S late n l' a' w) (hi:ops[i]? =some oi:=by (simp only[tF,tG,tH];rfl)) (hs:Region.noSelect ops=true:=by kernel_rfl) (hf:Region.free md ops l i=true:=by kernel_rfl) (hr:(Region.ready md ops l).contains i=true:=by kernel_rfl) (hQ:∀c a w,Q (.panic c) (a.put oi.dst v) w→Q (.panic c) a w:=by first|exact fun _ _ _ h=>h|exact fun c a w h=>hpan c a _ _ w h) (y:YieldsIf P ops (fun _=>True) oi v a:=by exact .inl ⟨by rfl,fun w' _=>by (go_simp<;>with_reducible rfl)⟩) (el:l.setIfInBounds i true=l':=by ((try simp only[tC,tD,tE]);rfl)) (ea:a.put oi.dst v=a':=by ((try simp only[Act.put,tC,tD,tE]);rfl)):Ko P md ops Q S late (n+1) l a w:=by
 subst el ea;exact aQt hi hs hf hr hQ y h
theorem rF (i:Nat) {o:Oper} {n:Nat} {l:Array Bool} {a:Act} {w:World} (h:∀K:Act→World→Prop,Shut (∀a w,S w→(S w→wpAnyH P md ops Q S n (l.setIfInBounds i true) a w)→K a w)→if Region.wanted o (yielded ops a.tmps)=true then Oper.wp P o a w K Q else K (a.put o.dst undef) w) (hr:Region.ready md ops l=[i]:=by kernel_rfl) (ho:ops[i]? =some o:=by (simp only[tF,tG,tH];rfl)):wpAnyH P md ops Q S (n+1) l a w :=
 wpAnyH_ready hr (by simp) (AllReadyH.cons ho h AllReadyH.nil)
theorem rL (i:Nat) {o:Oper} {n:Nat} {l:Array Bool} {a:Act} {w:World} (h:∀K:Act→World→Prop,Shut (∀a w,(i≠last→S w)→aEh P md ops Q S last n (l.setIfInBounds i true) a w→K a w)→if Region.wanted o (yielded ops a.tmps)=true then Oper.wp P o a w K Q else K (a.put o.dst undef) w) (hr:Region.ready md ops l=[i]:=by kernel_rfl) (ho:ops[i]? =some o:=by (simp only[tF,tG,tH];rfl)):aEh P md ops Q S last (n+1) l a w:=aTh hr ho h
theorem rM (i:Nat) {o:Oper} {n:Nat} {l:Array Bool} {a:Act} {w:World} (h:∀K:Act→World→Prop,Shut (∀a w',(i∉late→S w→S w')→Ko P md ops Q S late n (l.setIfInBounds i true) a w'→K a w')→if Region.wanted o (yielded ops a.tmps)=true then Oper.wp P o a w K Q else K (a.put o.dst undef) w) (hr:Region.ready md ops l=[i]:=by kernel_rfl) (ho:ops[i]? =some o:=by (simp only[tF,tG,tH];rfl)):Ko P md ops Q S late (n+1) l a w:=aTi hr ho h
end
end Go.Proofs.YtdhlicgaalnmoaaGreatDoor.Tp
namespace Go.Proofs.YtdhlicgaalnmoaaGreatDoor.Sp
open Lib (hid)
open Tryz
open Go.RowKit Go.Maps
set_option maxHeartbeats 8000000
set_option maxRecDepth 100000
section
open Go.RowKit
theorem Uf {a b:Bool} (h:a=b):Ending.returned (.bool a)=.returned (.bool b):=by rw[h]
def Kg (z s:Int):Bool:=decide (8≤z∧z≤64∧96≤s∧s≤192)
theorem aMd {z s:Int} (h:Kg z s=true):8≤z∧z≤64∧96≤s∧s≤192:=by simpa [Kg] using h
theorem aRu (z s:Int):(z<8∧decide (8≤z)=false)∨(8≤z∧64<z∧decide (z≤64)=false)∨(8≤z∧z≤64∧s<96∧decide (96≤s)=false)∨(8≤z∧z≤64∧96≤s∧192<s∧decide (s≤192)=false)∨(8≤z∧z≤64∧96≤s∧s≤192∧decide (s≤192)=true):=by
 simp only[decide_eq_false_iff_not,decide_eq_true_eq];omega
theorem bEg (a b A B:Int) (h0:0≤a) (h1:a≤A) (h2:0≤b) (h3:b≤B):0≤a*b∧a*b≤A*B :=
 ⟨Int.mul_nonneg h0 h2,Int.mul_le_mul h1 h3 h2 (by omega)⟩
theorem bEh (a b A B:Int) (hA:0≤A) (h1:A≤a) (h2:0≤B) (h3:B≤b):A*B≤a*b:=Int.mul_le_mul h1 h3 h2 (by omega)
theorem bBk {W w1:World} (hb:Below W.heap.size W w1):(∀b o,b<W.heap.size→w1.cell? ⟨b,o,none⟩=W.cell? ⟨b,o,none⟩)∧(∀b o,b<W.heap.size→w1.frozen? ⟨b,o,none⟩=W.frozen? ⟨b,o,none⟩) :=
 ⟨fun b o h=>hb.cell (p:=⟨b,o,none⟩) h,fun b o h=>hb.frozen (p:=⟨b,o,none⟩) h⟩
theorem aGs (z s:Int) (w:World) :
  Calls prog 135 #[.agg #[.int .i64 z,.int .i64 s]] w fun e w'=>e=.returned (.bool (Kg z s))∧nD w w':=by
 rcases aRu z s with ⟨h1,h2⟩|⟨h1,h2,h3⟩|⟨h1,h2,h3,h4⟩|⟨h1,h2,h3,h4,h5⟩|⟨h1,h2,h3,h4,h5⟩
 all_goals
  go_enter func135,ntmps135
  go_wp2
  go_ret;exact⟨Uf (by unfold Kg;symm;simp only[decide_eq_true_eq,decide_eq_false_iff_not];omega),nB.alloc lR _⟩
theorem bGk {B:Nat} {a b c:World} (h:Below B a b) (k:nD b c) (hB:B≤b.heap.size):Below B a c:=h.trans (k.mono hB)
theorem aSp (z s:Int) (w:World) (h:Kg z s=true) :
  Calls prog 71 #[.agg #[.int .i64 z,.int .i64 s]] w fun e w'=>e=.returned (.tuple #[.agg #[.int .i64 0,.int .i64 (3*z / 8),.int .i64 (2*(3*z / 8)),.int .i64 (z - 1)],.int .i64 0])∧nD w w':=by
 obtain⟨h1,h2,h3,h4⟩:=aMd h;go_enter func71,ntmps71
 go_wp2_with (go_at_call 135;refine(aGs _ _ _).mono ?_;rintro e w1 ⟨rfl,hb⟩;obtain⟨hc,hf⟩:=bBk hb;have hz:w.heap.size<w1.heap.size:=by (have:=hb.size;simp only[World.size_alloc] at this;omega))
 have hb':nD w w1:=bGk (by go_grown) hb (by go_size);refine bodyPost_ret (v:=.tuple #[.agg #[.int .i64 0,.int .i64 (3*z / 8),.int .i64 (2*(3*z / 8)),.int .i64 (z - 1)],.int .i64 0]) (by simp[results,Tryz.results71,go_sem,hc]) rfl ⟨rfl,?_⟩;go_grown
theorem bHo (z s:Int) (w:World) (h:Kg z s=true) :
  Calls prog 81 #[.agg #[.int .i64 z,.int .i64 s]] w fun e w'=>e=.returned (.int .i64 ((40*(3*z / 8*s - 2) - 64) / 44))∧nD w w':=by
 obtain⟨h1,h2,h3,h4⟩:=aMd h;obtain⟨hp1,hp2⟩:=bEg (3*z / 8) s 24 192 (by omega) (by omega) (by omega) (by omega);have hq:=bEh (3*z / 8) s 3 96 (by omega) (by omega) (by omega) (by omega);go_enter func81,ntmps81
 go_wp2_with (go_at_call 71;refine(aSp _ _ _ h).mono ?_;rintro e w1 ⟨rfl,hb⟩;obtain⟨hc,hf⟩:=bBk hb;have hz:w.heap.size<w1.heap.size:=by (have:=hb.size;simp only[World.size_alloc] at this;omega))
 have hb':nD w w1:=bGk (by go_grown) hb (by go_size);go_ret;exact⟨rfl,by go_grown⟩
end
end Go.Proofs.YtdhlicgaalnmoaaGreatDoor.Sp
namespace Go.Proofs.YtdhlicgaalnmoaaGreatDoor.Tp
open Lib (hid)
open Tryz
open Go.RowKit Go.Maps
set_option maxHeartbeats 8000000
set_option maxRecDepth 100000
def Dat (ob:Obj):Prop:=∃cs fr,ob=.cells cs 5 fr
abbrev Xt:=Nat→Prop
structure Kf (F:Xt) (w w':World):Prop where
 os:w'.os=w.os
 tape:w'.tape=w.tape
 output:w'.output=w.output
 size:w.heap.size≤w'.heap.size
 keep:∀(b:Nat) (ob:Obj),w.heap[b]? =some ob→(¬F b∨Dat ob)→w'.heap[b]? =some ob
def Sb (w:World) (F F':Xt):Prop:=∀b,F' b→F b∨w.heap.size≤b
def Dis (F G:Xt):Prop:=∀b,F b→¬G b
def In (w:World) (F:Xt):Prop:=∀b,F b→b<w.heap.size
structure Ag (F:Xt) (w w':World):Prop where
 size:w.heap.size≤w'.heap.size
 keep:∀(b:Nat) (ob:Obj),w.heap[b]? =some ob→(F b∨Dat ob)→w'.heap[b]? =some ob
section
variable {F G H:Xt} {a w w' c:World}
theorem Kf.refl (F:Xt) (w:World):Kf F w w:=⟨rfl,rfl,rfl,lR,fun _ _ h _=>h⟩
theorem Kf.mono (h:Kf F w w') (hs:∀b,F b→G b):Kf G w w':=⟨h.os,h.tape,h.output,h.size,fun b ob hb hn=>h.keep b ob hb (hn.imp (fun q r=>q (hs b r)) id)⟩
theorem Vz {b:Nat} {ob:Obj} (h:w.heap[b]? =some ob):b<w.heap.size:=(Array.getElem?_eq_some_iff.1 h).1
theorem Kf.trans (h:Kf F a w) (k:Kf G w c) (hs:Sb a F G):Kf F a c :=
 ⟨k.os.trans h.os,k.tape.trans h.tape,k.output.trans h.output,tK h.size k.size,fun b ob hb hn=>k.keep b ob (h.keep b ob hb hn) (hn.imp (fun q r=>(hs b r).elim q (fun e=>absurd (Vz hb) (by omega))) id)⟩
theorem Kf.of_below (h:nD w w'):Kf F w w':=⟨h.os,h.tape,h.output,h.size,fun b ob hb _=>(h.block b (Vz hb)).trans hb⟩
theorem Kf.next (h:Kf F a w) (k:nD w c):Kf F a c:=h.trans (G:=fun _=>False) (.of_below k) (fun _ q=>q.elim)
theorem Kf.drew (h:Kf F a w):Kf F a w.drew:=⟨h.os,h.tape,h.output,h.size,h.keep⟩
theorem Kf.below (h:Kf F w w') {B:Nat} (hF:∀b,F b→B≤b) (hB:B≤w.heap.size):Below B w w' :=
 ⟨h.os,h.tape,h.output,h.size,fun b hb=>by
  have hl:b<w.heap.size:=by omega
  have e:w.heap[b]? =some w.heap[b]:=Array.getElem?_eq_getElem hl;rw[e];exact h.keep b _ e (.inl fun q=>by have:=hF b q;omega)⟩
theorem aVi {g t:Nat} {cs:List Value} (hg:Bk w g t cs) (ht:t≠5) (hk:∀ob,a.heap[g]? =some ob→Dat ob→w.heap[g]? =some ob) {ob:Obj} (ha:a.heap[g]? =some ob):¬Dat ob:=fun hd=>by
 have h1:=hk ob ha hd;obtain⟨c,fr,rfl⟩:=hd;rw[show w.heap[g]? =_ from hg] at h1;injection h1 with h1;injection h1 with _ h1 _;exact ht h1
theorem Kf.set (h:Kf F a w) {g t:Nat} {cs:List Value} (hg:Bk w g t cs) (ht:t≠5) (hF:F g∨a.heap.size≤g) (i:Nat) (u:Value):Kf F a (w.setCell ⟨g,i,none⟩ u):=by
 refine⟨h.os,h.tape,h.output,by rw[World.size_setCell];exact h.size,fun b ob hb hn=>?_⟩;have hk:=h.keep b ob hb hn
 rw[Below.heap_setCell w _ u b (fun e=>by
  have e:b=g:=e;subst e;rcases hF with q|q
  · rcases hn with r|r
    · exact r q
    · exact aVi hg ht (fun ob h1 h2=>h.keep _ ob h1 (.inr h2)) hb r
  · have:=Vz hb;omega)]
 exact hk
theorem Kf.grown (h:Kf F a w) {B e size n:Nat} {v:Value} {xs:List Value} (ho:w.ownsRow B e size v n xs) (hg:w.grownBy w' v.ownBlock) (hF:∀g,v.ownBlock=some g→(F g∧e≠5)∨a.heap.size≤g):Kf F a w' :=
 ⟨hg.os.trans h.os,hg.tape.trans h.tape,hg.output.trans h.output,tK h.size hg.size,fun b ob hb hn=>by
  have hk:=h.keep b ob hb hn
  rw[hg.block b (Vz hk) (fun q=>by
   rcases hF b q.symm with ⟨r,he⟩|r
   · rcases hn with s|s
     · exact s r
     · rcases ho.2 with ⟨h0,_⟩|⟨g,cap,cur,hv,_,hh,_⟩
       · rw[h0] at q;cases q
       · rw[hv] at q;have q:b=g:=rT q;subst q;obtain⟨c,fr,rfl⟩:=s;rw[hk] at hh;injection hh with hh;injection hh with _ hh _;exact he hh.symm
   · have:=Vz hb;omega)]
  exact hk⟩
theorem Kf.ag (h:Kf G w w') (hd:Dis F G):Ag F w w':=⟨h.size,fun b ob hb hn=>h.keep b ob hb (hn.imp (hd b) id)⟩
theorem Kf.agNew (h:Kf (fun _=>False) w w'):Ag F w w':=h.ag fun _ _ q=>q
theorem Ag.of_below (h:nD w w'):Ag F w w':=(Kf.of_below (F:=fun _=>False) h).agNew
theorem Ag.mono (h:Ag F w w') (hs:∀b,G b→F b):Ag G w w':=⟨h.size,fun b ob hb hn=>h.keep b ob hb (hn.imp (hs b) id)⟩
theorem Ag.trans (h:Ag F a w) (k:Ag F w c):Ag F a c:=⟨tK h.size k.size,fun b ob hb hn=>k.keep b ob (h.keep b ob hb hn) hn⟩
theorem Dis.symm (h:Dis F G):Dis G F:=fun b q r=>h b r q
theorem In.next (h:In w F) (hs:w.heap.size≤w'.heap.size):In w' F:=fun b q=>tL (h b q) hs
theorem Sb.refl (w:World) (F:Xt):Sb w F F:=fun _ h=>.inl h
theorem Sb.trans {F' F2:Xt} (h:Sb a F F') (k:Sb w F' F2) (hs:a.heap.size≤w.heap.size):Sb a F F2:=fun b q=>(k b q).elim (h b) (fun e=>.inr (by omega))
theorem Bk.ag {g t:Nat} {cs:List Value} (h:Bk w g t cs) (k:Ag F w w') (hF:F g):Bk w' g t cs:=k.keep g _ h (.inl hF)
theorem Vj {B e size n:Nat} {v:Value} {xs:List Value} (ho:w.ownsRow B e size v n xs) (k:Ag F w w') (hF:∀g,v.ownBlock=some g→F g):w'.ownsRow B e size v n xs:=by
 rcases ho.2 with h0|⟨g,cap,cur,hv,hg,hh,hr⟩
 · exact⟨ho.1,.inl h0⟩
 · exact⟨ho.1,.inr ⟨g,cap,cur,hv,hg,k.keep _ _ hh (.inl (hF g (by rw[hv];rfl))),hr⟩⟩
theorem aPy {B size n:Nat} {v:Value} {xs:List Value} (ho:w.ownsRow B 5 size v n xs) (k:Ag F w w'):w'.ownsRow B 5 size v n xs:=by
 rcases ho.2 with h0|⟨g,cap,cur,hv,hg,hh,hr⟩
 · exact⟨ho.1,.inl h0⟩
 · exact⟨ho.1,.inr ⟨g,cap,cur,hv,hg,k.keep _ _ hh (.inr ⟨_,_,rfl⟩),hr⟩⟩
theorem bEd {H:Type} {P:Program} {t b n:Nat} {R:Value→Option (DataW H×List MemPlace)} {D:DataW H} (h:w.ownsMap P t R b n D) (k:Ag F w w') (hF:F b):w'.ownsMap P t R b n D:=by
 obtain⟨es,cl,hb,r⟩:=h;exact⟨es,cl,k.keep _ _ hb (.inl hF),r⟩
def Byt (w:World) (B:Nat) (v:Value) (bs:List Int):Prop:=w.ownsRow B 5 1 v bs.length (bs.map (Value.int .u8))∧∀x∈bs,0≤x∧x<256
theorem Byt.ag {B:Nat} {v:Value} {bs:List Int} (h:Byt w B v bs) (k:Ag F w w'):Byt w' B v bs:=⟨aPy h.1 k,h.2⟩
end
theorem aZw {w:World} {B e size n:Nat} {v:Value} {xs:List Value} (h:w.ownsRow B e size v n xs):v.oneCell'=true:=by
 rcases h.2 with ⟨rfl,_⟩|⟨g,cap,cur,rfl,_⟩<;>rfl
theorem Xs {w:World} {B e size n:Nat} {v:Value} {xs:List Value} (h:w.ownsRow B e size v n xs):∃A c,v=.slice A n c:=by
 rcases h.2 with ⟨hv,h0⟩|⟨g,cap,cur,hv,_⟩
 · exact⟨none,0,by rw[h0];exact hv⟩
 · exact⟨_,_,hv⟩
theorem aGn {n k:Nat} (h:k<n):n - (intOf (.int .i64 ((k:Int)+1))).toNat<n - (intOf (.int .i64 (k:Int))).toNat:=by simp[intOf];omega
theorem Ve {w:World} {A:Option Addr} {base:Nat} {e:TypeId} {n c size:Nat} {xs:List Value} (h:w.ownsRow base e size (.slice A n c) n xs):Rd w w.heap.size A xs:=fun hn=>by
 have hl:=h.1;obtain⟨g,cap,hv,_,hlt⟩:=h.form (by rcases tP n with g|g;rw[g,Nat.zero_mul] at hl;omega;exact g);have hA:A=some ⟨g,0,none⟩:=by injection hv
 subst hA;exact⟨_,rfl,hlt,h.cells (g:=g) rfl⟩
theorem aKk {w:World} {B e size n:Nat} {v:Value} {xs:List Value} (h:w.ownsRow B e size v n xs) {p:Addr} (hp:p.block<B) (u:Value):(w.setCell p u).ownsRow B e size v n xs:=by
 rcases h.2 with h0|⟨g,cap,cur,hv,hg,hh,hr⟩
 · exact⟨h.1,.inl h0⟩
 · exact⟨h.1,.inr ⟨g,cap,cur,hv,hg,(Below.heap_setCell w p u g (by omega)).trans hh,hr⟩⟩
theorem Vg {w w':World} {B e size n:Nat} {v:Value} {xs:List Value} (h:w.ownsRow B e size v n xs) (hb:nD w w'):w'.ownsRow B e size v n xs:=by
 rcases h.2 with h0|⟨g,cap,cur,hv,hg,hh,hr⟩
 · exact⟨h.1,.inl h0⟩
 · exact⟨h.1,.inr ⟨g,cap,cur,hv,hg,(hb.block g (Array.getElem?_eq_some_iff.1 hh).1).trans hh,hr⟩⟩
theorem Vv {w:World} {B e size n c:Nat} {A:Option Addr} {xs:List Value} (h:w.ownsRow B e size (.slice A n c) n xs):n≤c∧c≤maxLen:=by
 rcases h.2 with ⟨hv,h0⟩|⟨g,cap,cur,hv,_,_,hnc,hcm,_⟩
 · injection hv with _ e1 e2;subst e1 e2;exact⟨lR,by simp[maxLen]⟩
 · injection hv with _ _ e;subst e;exact⟨hnc,hcm⟩
theorem aBd {w:World} {B e n:Nat} {v:Value} {xs:List Value} (h:w.ownsRow B e 1 v n xs) (hn:0<n):∃g c,v=.slice (some ⟨g,0,none⟩) n c:=by
 rcases h.2 with ⟨_,h0⟩|⟨g,cap,cur,hv,_⟩
 · omega
 · exact⟨g,cap,hv⟩
theorem Vt {α :Type} {f: α→List Value} {s:Nat} (hs:∀x,(f x).length=s) (l:List α):(l.flatMap f).length=l.length*s:=by
 induction l with
 | nil=>simp
 | cons x l ih=>rw[List.flatMap_cons,rH,ih,hs,List.length_cons,Nat.succ_mul];omega
theorem aAs {α :Type} {f: α→List Value} {s:Nat} (hs:∀x,(f x).length=s) {l:List α} {k j:Nat} (hk:k<l.length) (hj:j<s):(l.flatMap f)[k*s+j]? =(f l[k])[j]?:=by
 induction l generalizing k with
 | nil=>simp at hk
 | cons x l ih =>
   rw[List.flatMap_cons]
   cases k with
   | zero=>rw[rO (by rw[hs];omega)];simp
   | succ k =>
     have e:(k+1)*s+j=s+(k*s+j):=by rw[Nat.succ_mul];omega
     rw[rP (by rw[hs,e];omega),hs,e,Nat.add_sub_cancel_left,ih (by simpa using hk)];simp
theorem Vk {α :Type} {f: α→List Value} (hs:∀x,(f x).length=2) {w:World} {B:Nat} {A:Option Addr} {l:List α} (h:Rd w B A (l.flatMap f)) {k:Nat} (hk:k<l.length) {u v:Value} (hf:f l[k]=[u,v]) :
  ∃ad,A=some ad∧ad.block<B∧w.cell? (ad.add (k*2))=some u∧w.cell? ⟨(ad.add (k*2)).block,(ad.add (k*2)).off+1,none⟩=some v:=by
 obtain⟨ad,e,hb,hc⟩:=h (by rw[Vt hs];omega);have h0:=hc (k*2) u (by have:=aAs hs hk (j:=0) (by omega);rw[Nat.add_zero] at this;rw[this,hf];rfl);have h1:=hc (k*2+1) v (by rw[aAs hs hk (by omega),hf];rfl);rw[←aBi] at h1;exact⟨ad,e,hb,h0,h1⟩
theorem aIs {w:World} {g1 g2 t1 t2:Nat} {c1 c2:List Value} (h1:Bk w g1 t1 c1) (h2:Bk w g2 t2 c2) (ht:t1≠t2):g1≠g2:=fun e=>by
 subst e;unfold Bk at h1 h2;rw[h1] at h2;injection h2 with h2;injection h2 with _ h2 _;exact ht h2
theorem Vc {w:World} {B e s n g t:Nat} {v:Value} {xs cs:List Value} (h:w.ownsRow B e s v n xs) (hb:Bk w g t cs) (ht:e≠t):v.ownBlock≠some g:=fun q=>by
 obtain⟨_,c,fr,hh⟩:0≤g∧∃c fr,w.heap[g]? =some (.cells c e fr):=by
  rcases h.2 with ⟨h0,_⟩|⟨g',cap,cur,hv,_,hh,_⟩
  · rw[h0] at q;cases q
  · rw[hv] at q;have q:g'=g:=rT q;subst q;exact⟨zL,_,_,hh⟩
 unfold Bk at hb;rw[hb] at hh;injection hh with hh;injection hh with _ hh _;exact ht hh.symm
theorem Vx {w:World} {B e s n g:Nat} {v:Value} {xs:List Value} (h:w.ownsRow B e s v n xs) (q:v.ownBlock=some g):∃c fr,w.heap[g]? =some (.cells c e fr):=by
 rcases h.2 with ⟨h0,_⟩|⟨g',cap,cur,hv,_,hh,_⟩
 · rw[h0] at q;cases q
 · rw[hv] at q;have q:g'=g:=rT q;subst q;exact⟨_,_,hh⟩
theorem aBl {w:World} {B1 B2 e1 e2 s1 s2 n1 n2 g:Nat} {v1 v2:Value} {x1 x2:List Value} (h1:w.ownsRow B1 e1 s1 v1 n1 x1) (h2:w.ownsRow B2 e2 s2 v2 n2 x2) (ht:e1≠e2) (q:v1.ownBlock=some g):v2.ownBlock≠some g:=fun r=>by
 obtain⟨_,_,a⟩:=Vx h1 q;obtain⟨_,_,c⟩:=Vx h2 r;rw[a] at c;injection c with c;injection c with _ c _;exact ht c
def Kp2 (P:Nat→Prop) (w w':World):Prop:=∀(b:Nat) (ob:Obj),w.heap[b]? =some ob→¬P b→w'.heap[b]? =some ob
theorem Kp2.bk {P:Nat→Prop} {w w':World} (h:Kp2 P w w') {g t:Nat} {cs:List Value} (hb:Bk w g t cs) (hp:¬P g):Bk w' g t cs:=h _ _ hb hp
theorem Kp2.own {P:Nat→Prop} {w w':World} (h:Kp2 P w w') {B e s n:Nat} {v:Value} {xs:List Value} (ho:w.ownsRow B e s v n xs) (hp:∀g,v.ownBlock=some g→¬P g):w'.ownsRow B e s v n xs:=by
 rcases ho.2 with h0|⟨g,cap,cur,hv,hg,hh,hr⟩
 · exact⟨ho.1,.inl h0⟩
 · exact⟨ho.1,.inr ⟨g,cap,cur,hv,hg,h _ _ hh (hp g (by rw[hv];rfl)),hr⟩⟩
theorem Kp2.set (w:World) (g i:Nat) (u:Value):Kp2 (fun b=>b=g) w (w.setCell ⟨g,i,none⟩ u):=fun b ob hb hn=>by
 rw[Below.heap_setCell _ _ _ _ hn];exact hb
theorem Kp2.trans {P:Nat→Prop} {a b c:World} (h:Kp2 P a b) (k:Kp2 P b c):Kp2 P a c:=fun x ob hx hn=>k x ob (h x ob hx hn) hn
theorem Kp2.of_below {P:Nat→Prop} {w w':World} (h:nD w w'):Kp2 P w w':=fun b ob hb _=>(h.block b (Vz hb)).trans hb
theorem Kp2.grown {w w':World} {v:Value} (hg:w.grownBy w' v.ownBlock):Kp2 (fun b=>v.ownBlock=some b) w w':=fun b ob hb hn=>by
 rw[hg.block b (Vz hb) (fun e=>hn e.symm)];exact hb
theorem Kp2.mono {P Q:Nat→Prop} {w w':World} (h:Kp2 P w w') (hs:∀b,P b→Q b):Kp2 Q w w':=fun b ob hb hn=>h b ob hb (fun q=>hn (hs b q))
theorem Xv {w:World} {B e s n g:Nat} {v:Value} {xs:List Value} (h:w.ownsRow B e s v n xs) (q:v.ownBlock=some g):B≤g:=by
 rcases h.2 with ⟨h0,_⟩|⟨g',cap,cur,hv,hb,hh,_⟩
 · rw[h0] at q;cases q
 · rw[hv] at q;have q:g'=g:=rT q;subst q;exact hb
theorem aAf {ops:Array Oper} {o:Oper} {t:Array Value} {A E:Prop} (hgd:o.guard=none) (h:A):if Region.wanted o (yielded ops t)=true then A else E:=by
 have hw:Region.wanted o (yielded ops t)=true:=by simp[Region.wanted,hgd]
 rw[if_pos hw];exact h
section
open Go.RowKit
theorem aBq:(prog.info? 5).map (fun i=>(i.zero,i.size,i.bytes))=some (some (.int .u8 0),1,1):=by kernel_rfl
theorem aCs (z:Value) (k:Nat):(Builtin.zeroCells #[z] k).toList=List.replicate k z:=by
 refine List.ext_getElem (by simp[Builtin.zeroCells]) fun i h1 h2=>?_
 simp[Builtin.zeroCells,Nat.mod_one]
section
variable {P:Program} (w:World)
theorem aIl (base:Nat) (t tn ty e:TypeId) (i:TypeInfo) (z:Value) (kn kq:IntKind) (ht:P.underlying t=some (.slice e)) (htn:P.underlying tn=some (.int kn)) (hi:P.info? e=some i) (hz:i.zero=some z)
  (hsize:i.size=1) (hby:i.bytes=1) (hzs:z.cells=#[z]) (hz1:z.oneCell'=true)
  (v:Value) (n:Nat) (xs:List Value) (hown:w.ownsRow base e 1 v n xs) (k:Nat) (h63:n+k≤1000000) (hbase:base≤w.heap.size) :
  ∃v' w',(Builtin.append_ #[t,tn] ty #[v,.int kq k]).run P w=.ok v' w'∧w'.ownsRow base e 1 v' (n+k) (xs++List.replicate k z)∧w.grownBy w' v.ownBlock:=by
 have hw:IntKind.i64.wrap (k:Int)=k:=by rw[IntKind.wrap_i64];omega
 have hneg:¬((k:Int)<0):=by omega
 have hxl:=hown.1;have hmx:n+k≤maxLen:=by simp only[maxLen];omega
 have h48i:¬(281474976710656<(k:Int)*((1:Nat):Int)):=by omega
 have hlen:(xs++List.replicate k z).length=(n+k)*1:=by rw[rH,hxl,List.length_replicate];omega
 have grown:∀(old:Nat),old<n+k→∀(row:Option Nat),
   (w.drew.alloc (.cells (xs.toArray++Builtin.zeroCells z.cells k++Builtin.zeroCells z.cells (grownCap w (n+k) old e - (n+k))) e)).ownsRow base e 1
    (.slice (some ⟨w.heap.size,0,none⟩) (n+k) (grownCap w (n+k) old e)) (n+k) (xs++List.replicate k z)∧
   w.grownBy (w.drew.alloc (.cells (xs.toArray++Builtin.zeroCells z.cells k++Builtin.zeroCells z.cells (grownCap w (n+k) old e - (n+k))) e)) row:=by
  intro old ho row;have hge:=grownCap_ge w (n+k) old e;have hcm:grownCap w (n+k) old e≤maxLen:=grownCap_le_maxLen w (n+k) old e hmx;refine⟨⟨hlen,.inr ⟨w.heap.size,_,_,rfl,hbase,heap_alloc_new w.drew _,hge,hcm,?_,?_⟩⟩,⟨rfl,rfl,rfl,by simp,fun j hj _=>Below.heap_alloc w.drew _ j hj⟩⟩
  · simp only[Array.size_append,List.size_toArray,size_zeroCells,hzs,hxl];simp
    omega
  · simp only[Array.toList_append,hzs,aCs];rw[←hlen];exact List.take_left
 rcases hown.2 with ⟨rfl,rfl⟩|⟨g,cap,cur,rfl,hbg,hg,hnc,hcm,hcs,htake⟩
 · have hx:xs=[]:=List.eq_nil_of_length_eq_zero (by simpa using hown.1);subst hx;by_cases hk:k=0
   · subst hk;refine⟨.slice none 0 0,w,?_,by simpa using hown,⟨rfl,rfl,rfl,lR,fun _ _ _=>rfl⟩⟩;simp[Builtin.append_,run_underlying ht,run_underlying htn,sizeOf,typeInfo,hi,asInt,asIntOf,show IntKind.i64.wrap 0=0 from rfl]
   · have hr:=Lib.run_append_nil_zeros (P:=P) w t tn ty e i z kq kn ht htn hi hz k (by omega) (by omega) (by omega) (by rw[hby];omega);have hgr:=grown 0 (by omega) (Value.ownBlock (.slice none 0 0));simp only[Nat.zero_add,List.nil_append,Array.empty_append] at hgr ⊢;exact⟨_,_,hr,hgr.1,hgr.2⟩
 · by_cases hroom:n+k≤cap
   · have hst:=run_storeCells_at P g (n*1) e (Builtin.zeroCells z.cells k).toList 0 cur w hg (by rw[hzs,aCs,List.length_replicate,hcs];omega) (fun u hu=>by rw[hzs,aCs] at hu;rw[(List.mem_replicate.1 hu).2];exact hz1);simp only[Nat.add_zero] at hst;by_cases hk:k=0
     · subst hk;refine⟨_,w,?_,by simpa using hown,⟨rfl,rfl,rfl,lR,fun _ _ _=>rfl⟩⟩;simp[Builtin.append_,run_underlying ht,run_underlying htn,sizeOf,typeInfo,hi,asInt,asIntOf,hnc,storeCells,show IntKind.i64.wrap 0=0 from rfl]
     · refine⟨.slice (some ⟨g,0,none⟩) (n+k) cap,w.setRow g (cur.toList.take (n*1)++(Builtin.zeroCells z.cells k).toList++cur.toList.drop (n*1+(Builtin.zeroCells z.cells k).toList.length)).toArray,?_,⟨hlen,.inr ⟨g,cap,_,rfl,hbg,setRow_heap w g cur _ e _ hg,hroom,hcm,?_,?_⟩⟩,⟨rfl,rfl,rfl,by simp,fun k _ hk=>setRow_other w g k _ (fun e=>hk (by simp[Value.ownBlock,e]))⟩⟩
       · have hns:¬(k*i.size=0):=by rw[hsize];omega
         rw[Nat.mul_one] at hst;simp[Builtin.append_,run_underlying ht,run_underlying htn,sizeOf,typeInfo,zeroValue,hi,hz,asInt,asIntOf,hw,hneg,hk,hsize,hby,h48i,hroom,Addr.add_lit,hst]
         omega
       · rw[hzs,aCs];simp only[List.size_toArray,rH,rJ,rN,Array.length_toList,List.length_replicate];omega
       · rw[htake,hzs,aCs,←hlen];exact List.take_left
   · have holds:∀j u,xs[j]? =some u→w.cell? ((⟨g,0,none⟩:Addr).add j)=some u:=hown.cells (g:=g) rfl
     have hold:=run_firstCells_some (P:=P) w.drew i.size n ⟨g,0,none⟩ n cap xs (by rw[hsize];exact hxl) holds;have hr:=Lib.run_append_grow_zeros (P:=P) w t tn ty e i z kq kn ht htn hi hz (some ⟨g,0,none⟩) n cap xs hold k (by omega) (by omega) (by omega) (by omega) (by rw[hby];omega) (growslice_fits (by omega) (by rw[hby];omega));have hgr:=grown cap (by omega) (Value.ownBlock (.slice (some ⟨g,0,none⟩) n cap));exact⟨_,_,hr,hgr.1,hgr.2⟩
theorem aWe (base:Nat) (t ty e:TypeId) (i:TypeInfo) (z:Value) (size bytes:Nat) (ht:P.underlying t=some (.slice e)) (hi:P.info? e=some i) (hz:i.zero=some z)
  (hsize:i.size=size) (hby:i.bytes=bytes) (hzs:z.cells.size=size) (hs0:0<size)
  (v:Value) (n:Nat) (xs:List Value) (hown:w.ownsRow base e size v n xs)
  (B:Nat) (A:Option Addr) (m c:Nat) (news:List Value) (hl:news.length=m*size) (hr:Rd w B A news) (h1:∀u∈news,u.oneCell'=true)
  (h63:n+m≤1000000000) (hbytes:(n+m)*bytes≤1000000000000) (hbase:base≤w.heap.size) :
  ∃v' w',(Builtin.append_ #[t,t] ty #[v,.slice A m c]).run P w=.ok v' w'∧w'.ownsRow base e size v' (n+m) (xs++news)∧w.grownBy w' v.ownBlock∧(v'.ownBlock=v.ownBlock∨v'.ownBlock=some w.heap.size):=by
 rcases A with _|ad
 · have hm:m=0:=by
    rcases tP m with h0|h0
    · exact h0
    · obtain⟨ad,h,_⟩:=hr (by rw[hl];exact Nat.mul_pos h0 hs0);cases h
   subst hm;have hn:news=[]:=List.eq_nil_of_length_eq_zero (by simpa using hl);subst hn;exact⟨v,w,aKp w base t ty e i size ht hi v n xs hown c,by simpa using hown,World.grownBy.refl w _,.inl rfl⟩
 · have hcells:∀j u,news[j]? =some u→w.cell? (ad.add j)=some u:=by
    intro j u hu;rcases tP m with h0|h0
    · subst h0;obtain rfl:news=[]:=List.eq_nil_of_length_eq_zero (by simpa using hl);simp at hu
    · obtain⟨ad',h,_,hc⟩:=hr (by rw[hl];exact Nat.mul_pos h0 hs0);injection h with h;subst h;exact hc j u hu
   obtain⟨v',w',hrun,h2,h3,_,h5⟩:=run_append_own_at (P:=P) w base t ty e i z size bytes ht hi hz hsize hby hzs hs0 v n xs hown ad m c news hl hcells h1 (by unfold maxLen;omega) (by omega) hbase;exact⟨v',w',hrun,h2,h3,h5⟩
theorem aAw {o:Oper} {a:Act} {K:Act→World→Prop} {Q:Exit→Act→World→Prop} (s x:Operand) (t:TypeId)
  (ho:o.op=.call {callee:=.builtin .append,args:=#[s,x],argTypes:=#[t,t]})
  (base:Nat) (e:TypeId) (i:TypeInfo) (z:Value) (size bytes:Nat) (ht:P.underlying t=some (.slice e)) (hi:P.info? e=some i) (hz:i.zero=some z)
  (hsize:i.size=size) (hby:i.bytes=bytes) (hzs:z.cells.size=size) (hs0:0<size)
  (v:Value) (n:Nat) (xs:List Value) (hs:a.eval s=v) (hown:w.ownsRow base e size v n xs)
  (B:Nat) (A:Option Addr) (m c:Nat) (news:List Value) (hx:a.eval x=.slice A m c) (hl:news.length=m*size) (hr:Rd w B A news) (h1:∀u∈news,u.oneCell'=true)
  (h63:n+m≤1000000000) (hbytes:(n+m)*bytes≤1000000000000) (hbase:base≤w.heap.size)
  (h:∀v' w',w'.ownsRow base e size v' (n+m) (xs++news)→w.grownBy w' v.ownBlock→(v'.ownBlock=v.ownBlock∨v'.ownBlock=some w.heap.size)→K (a.put o.dst v') w'):o.wp P a w K Q:=by
 obtain⟨v',w',hrun,h2,h3,h4⟩:=aWe (P:=P) w base t o.type e i z size bytes ht hi hz hsize hby hzs hs0 v n xs hown B A m c news hl hr h1 h63 hbytes hbase;unfold Oper.wp execOp
 simp only[ho,resolve,invoke,builtin,Sem.run_bind,Sem.run_pure,Result.andThen_ok,List.map_toArray,List.map_cons,List.map_nil,hs,hx,hrun];exact h v' w' h2 h3 h4
theorem aAa {ops:Array Oper} {rest:List Oper} {o:Oper} {a:Act} {Q:Exit→Act→World→Prop} (hgd:o.guard=none) (s x:Operand) (t:TypeId)
  (ho:o.op=.call {callee:=.builtin .append,args:=#[s,x],argTypes:=#[t,t]})
  (base:Nat) (e:TypeId) (i:TypeInfo) (z:Value) (size bytes:Nat) (ht:P.underlying t=some (.slice e)) (hi:P.info? e=some i) (hz:i.zero=some z)
  (hsize:i.size=size) (hby:i.bytes=bytes) (hzs:z.cells.size=size) (hs0:0<size)
  (v:Value) (n:Nat) (xs:List Value) (hs:a.eval s=v) (hown:w.ownsRow base e size v n xs)
  (B:Nat) (A:Option Addr) (m c:Nat) (news:List Value) (hx:a.eval x=.slice A m c) (hl:news.length=m*size) (hr:Rd w B A news) (h1:∀u∈news,u.oneCell'=true)
  (h63:n+m≤1000000000) (hbytes:(n+m)*bytes≤1000000000000) (hbase:base≤w.heap.size)
  (h:∀v' w',w'.ownsRow base e size v' (n+m) (xs++news)→w.grownBy w' v.ownBlock→(v'.ownBlock=v.ownBlock∨v'.ownBlock=some w.heap.size)→wpList P ops Q rest (a.put o.dst v') w'):wpList P ops Q (o::rest) a w :=
 wpList_plain hgd fun _ hK=>aAw w s x t ho base e i z size bytes ht hi hz hsize hby hzs hs0 v n xs hs hown B A m c news hx hl hr h1 h63 hbytes hbase fun v' w' h2 h3 h4=>hK _ _ (h v' w' h2 h3 h4)
theorem aCr {ops:Array Oper} {rest:List Oper} {o:Oper} {a:Act} {Q:Exit→Act→World→Prop} (hgd:o.guard=none) (s x:Operand) (t tn:TypeId)
  (ho:o.op=.call {callee:=.builtin .append,args:=#[s,x],argTypes:=#[t,tn]})
  (base:Nat) (e:TypeId) (i:TypeInfo) (z:Value) (kn kq:IntKind) (ht:P.underlying t=some (.slice e)) (htn:P.underlying tn=some (.int kn)) (hi:P.info? e=some i) (hz:i.zero=some z)
  (hsize:i.size=1) (hby:i.bytes=1) (hzs:z.cells=#[z]) (hz1:z.oneCell'=true)
  (v:Value) (n:Nat) (xs:List Value) (hs:a.eval s=v) (hown:w.ownsRow base e 1 v n xs) (k:Nat) (hx:a.eval x=.int kq k) (h63:n+k≤1000000) (hbase:base≤w.heap.size)
  (h:∀v' w',w'.ownsRow base e 1 v' (n+k) (xs++List.replicate k z)→w.grownBy w' v.ownBlock→wpList P ops Q rest (a.put o.dst v') w'):wpList P ops Q (o::rest) a w:=by
 obtain⟨v',w',hr,h2,h3⟩:=aIl (P:=P) w base t tn o.type e i z kn kq ht htn hi hz hsize hby hzs hz1 v n xs hown k h63 hbase;exact Lib.wpList_append_run w hgd s x t tn ho _ _ hs hx v' w' hr (h v' w' h2 h3)
end
theorem aAh (A:Option Addr) (n c B:Nat) (bs:List Value) (w:World) (hl:bs.length=n) (h:Rd w w.heap.size A bs) (h1:∀u∈bs,u.oneCell'=true) (hn:n≤1000000) (hB:B≤w.heap.size) :
  Calls prog 100 #[.slice A n c] w fun e w'=>(∃v,e=.returned v∧w'.ownsRow B 5 1 v n bs)∧nD w w':=by
 obtain⟨i0,hi,hz0,hz1,hz2⟩:=info_parts aBq;have HN:=hid hn;have q:∀(w:World) (a:Option Addr) (n c n' c':Nat),(binOp .eql 41 (.slice a n c) (.slice none n' c')).run prog w=.ok (.bool a.isNone) w:=fun w a n c n' c'=>Lib.run_eql_slice_nil w _ _ a n c n' c' underlying41
 clear hn;rcases A with _|ad
 · have h0:bs=[]:=by
    rcases tP bs.length with g|g
    · exact List.eq_nil_of_length_eq_zero g
    · obtain⟨ad,e,_⟩:=h g;cases e
   subst h0;simp at hl
   subst hl;go_enter func100,ntmps100
   go_wp2_with fail
   go_ret;exact⟨⟨_,rfl,rfl,.inl ⟨rfl,rfl⟩⟩,nB⟩
 · go_enter func100,ntmps100
   go_wp2_with (at_builtin;go_must (refine aDu _ rfl _ _ 41 rfl B 5 i0 (.int .u8 0) 1 underlying41 hi hz0 hz1 hz2 rfl _ 0 [] (by rfl) (by exact World.ownsRow_lit w #[] 0 hB (by decide) rfl) w.heap.size (some ad) n c bs (by rfl) hl (by exact h.alloc lR _) h1 (by have:=HN.o;omega) (by have:=HN.o;omega) (by simp;omega) ?_);intro v1 w1 hO1 hG1)
   have HB:nD w w1:=(nB.alloc lR _).grown hG1 (by simp) (fun g hg=>tO (rT (show some w.heap.size=some g from hg)));go_ret;exact⟨⟨v1,rfl,by simpa using hO1⟩,HB⟩
structure IsB (w:World) (A:Option Addr) (n c:Nat) (bs:List Int):Prop where
 len:bs.length=n
 rd:Rd w w.heap.size A (bs.map (Value.int .u8))
 wf:∀x∈bs,0≤x∧x<256
 cap:n≤c
 big:c≤maxLen
theorem IsB.next {w w':World} {A:Option Addr} {n c:Nat} {bs:List Int} (h:IsB w A n c bs) (hb:nD w w'):IsB w' A n c bs:=⟨h.len,(h.rd.next lR hb).more hb.size,h.wf,h.cap,h.big⟩
theorem Byt.isB {w:World} {B:Nat} {v:Value} {bs:List Int} (h:Byt w B v bs):∃A c,v=.slice A bs.length c∧IsB w A bs.length c bs:=by
 obtain⟨A,c,rfl⟩:=Xs h.1;exact⟨A,c,rfl,rfl,Ve h.1,h.2,(Vv h.1).1,(Vv h.1).2⟩
theorem aBo (x:Int):0≤IntKind.u8.wrap x∧IntKind.u8.wrap x<256:=by
 rw[IntKind.wrap_u8];omega
theorem aGb (W:World) (n:Nat) (hn:n≤1000):(Instr.makeSlice 41 (.int .i64 n) (.int .i64 n)).run prog W=.ok (.slice (some ⟨W.heap.size,0,none⟩) n n) (W.alloc (.cells (List.replicate n (Value.int .u8 0)).toArray 5)):=by
 obtain⟨i0,hi,hz0,hz1,hz2⟩:=info_parts aBq;have h:=run_make (P:=prog) W 41 5 i0 (.int .u8 0) underlying41 hi hz0 .i64 .i64 n n (by omega) (by omega) (by rw[hz2];omega) (by omega)
 have e:madeCells (Value.int .u8 0).cells (n*1)=(List.replicate n (Value.int .u8 0)).toArray:=by
  apply Array.ext';refine List.ext_getElem (by simp[madeCells]) fun i h1 h2=>?_
  simp[madeCells,Value.cells,Nat.mod_one]
 rw[hz1,Int.toNat_natCast,e] at h;exact h
theorem aNs {w:World} {B g n:Nat} {bs:List Int} (hl:bs.length=n) (hn:n≤1000) (h:Bk w g 5 (bs.map (Value.int .u8))) (hB:B≤g) (hw:∀x∈bs,0≤x∧x<256):Byt w B (.slice (some ⟨g,0,none⟩) n n) bs:=by
 subst hl;exact⟨⟨by simp,.inr ⟨g,bs.length,_,rfl,hB,h,lR,by simp only[maxLen];omega,by simp,rG (by simp)⟩⟩,hw⟩
theorem aWq {bs:List Int} {k:Nat} (x:Int):(bs.map (Value.int .u8)).set k (.int .u8 x)=(bs.set k x).map (Value.int .u8):=by rw[List.map_set]
theorem aWr {bs:List Int} (h:∀x∈bs,0≤x∧x<256) {k:Nat} {y:Int} (hy:0≤y∧y<256):∀x∈bs.set k y,0≤x∧x<256:=fun x hx=>by
 rcases List.mem_or_eq_of_mem_set hx with q|rfl
 · exact h x q
 · exact hy
theorem bAa (v:Int) (n:Nat) (w:World) (hn:n≤8) :
  Calls prog 165 #[.int .u64 v,.int .i64 (n:Int)] w fun e w'=>(∃u bs,e=.returned u∧Byt w' w.heap.size u bs∧bs.length=n)∧nD w w':=by
 have hmk:=aGb w n (by omega);have hn8:n≤1000:=by omega
 have hb1:nD w (w.alloc (.cells (List.replicate n (Value.int .u8 0)).toArray 5)):=nB.alloc lR _;have hk1:Bk (w.alloc (.cells (List.replicate n (Value.int .u8 0)).toArray 5)) w.heap.size 5 ((List.replicate n (0:Int)).map (Value.int .u8)):=by rw[List.map_replicate];exact Bk.new w _ _
 obtain⟨w1,hw1⟩:=nC (w.alloc (.cells (List.replicate n (Value.int .u8 0)).toArray 5));rw[hw1] at hmk hb1 hk1;have H1:=nF hb1 hk1;clear hb1 hk1 hw1;go_enter func165,ntmps165
 go_wp2_with fail
 go_loopw [11] (fun i wr=>∃(k:Nat) (bs:List Int),k≤n∧i=.int .i64 (k:Int)∧nD w wr∧bs.length=n∧Bk wr w.heap.size 5 (bs.map (Value.int .u8))∧(∀x∈bs,0≤x∧x<256)) (fun i _=>n - (intOf i).toNat)
 case atStart=>exact⟨0,_,zL,rfl,H1.o.1,List.length_replicate,H1.o.2,fun x hx=>by rw[(List.mem_replicate.1 hx).2];omega⟩
 case round =>
  obtain⟨k,bs,hk,rfl,hW,hl,hB,hwf⟩:=hrel;by_cases hlt:k<n
  · have n0:(k:Int)<(n:Int):=by omega
    have n1:(0:Int)≤(k:Int):=by omega
    have c0:=hB.cell (i:=k) (by rw[rU];omega);obtain⟨old,hold⟩:=nC ((bs.map (Value.int .u8))[k]'(by rw[rU];omega));rw[hold] at c0;have f0:=hB.free k;have HB:=nI hW hl hB hwf;have wk:wrap64 (8*(k:Int))=8*(k:Int):=by unfold wrap64;omega
    have n3:¬(8*(k:Int)<0):=by omega
    clear hold hW hl hB hwf;go_wp2_with fail
    go_roundw
    case rel =>
     refine⟨k+1,bs.set k ?yv,hlt,by go_num,HB.o.1.setCell (p:=⟨w.heap.size,k,none⟩) lR _,?la,?lb,?lc⟩
     case lb=>rw[←aWq];exact HB.o.2.2.1.set k _
     case la=>rw[rK];exact HB.o.2.1
     case lc=>exact aWr HB.o.2.2.2 (by first|exact aBo _|omega)
    case measure=>exact aGn hlt
  · obtain rfl:k=n:=by omega
    have n0:¬((k:Int)<(k:Int)):=by omega
    have HB:=nI hW hl hB hwf;clear hW hl hB hwf;go_wp2_with fail
    go_ret;exact⟨⟨_,rfl,bs,aNs HB.o.2.1 hn8 HB.o.2.2.1 lR HB.o.2.2.2,HB.o.2.1⟩,HB.o.1⟩
end
section
open Go.RowKit
structure ZD where
 gz:Nat
 v:Value
 n:Nat
 rows:List Value
 good:Int
def zp (z:ZD):Value:=.pointer (some ⟨z.gz,0,none⟩)
structure Uo (w:World) (F:Xt) (gd:Nat) (zsl:Value) (ops reads left:Int) (zs:List ZD):Prop where
 bx:Bk w gd 131 [.int .i64 8,.int .i64 96,zsl,.int .i64 ops,.int .i64 reads,.bool false,.int .i64 left,.bool false]
 zl:zs.length=8
 zr:w.ownsRow 0 132 1 zsl 8 (zs.map zp)
 zb:∀z∈zs,Bk w z.gz 135 [z.v,.int .i64 z.good]
 zo:∀z∈zs,w.ownsRow 0 41 1 z.v z.n z.rows
 nd:∀i j,(hi:i<zs.length)→(hj:j<zs.length)→i≠j→zs[i].gz≠zs[j].gz
 dj:∀i j,(hi:i<zs.length)→(hj:j<zs.length)→i≠j→zs[i].v.ownBlock=none∨zs[i].v.ownBlock≠zs[j].v.ownBlock
 mx:∀z∈zs,z.n≤96
 f0:F gd
 f1:∀g,zsl.ownBlock=some g→F g
 f2:∀z∈zs,F z.gz
 f3:∀z∈zs,∀g,z.v.ownBlock=some g→F g
def Dev (w:World) (F:Xt) (gd:Nat) (ns:List Nat):Prop:=∃zsl ops reads left zs,Uo w F gd zsl ops reads left zs∧zs.map (·.n)=ns
theorem Uo.ag {w w':World} {F:Xt} {gd:Nat} {zsl:Value} {ops reads left:Int} {zs:List ZD} (h:Uo w F gd zsl ops reads left zs) (k:Ag F w w'):Uo w' F gd zsl ops reads left zs :=
 ⟨Bk.ag h.bx k h.f0,h.zl,Vj h.zr k h.f1,fun z hz=>Bk.ag (h.zb z hz) k (h.f2 z hz),fun z hz=>Vj (h.zo z hz) k (h.f3 z hz),h.nd,h.dj,h.mx,h.f0,h.f1,h.f2,h.f3⟩
theorem Dev.ag {w w':World} {F:Xt} {gd:Nat} {ns:List Nat} (h:Dev w F gd ns) (k:Ag F w w'):Dev w' F gd ns:=by
 obtain⟨a,b,c,d,e,h,hn⟩:=h;exact⟨a,b,c,d,e,h.ag k,hn⟩
theorem bGq:(prog.info? 75).map (·.size)=some 2:=by kernel_rfl
theorem aQd {fn:Func} {p:Tmp} (h:fn.results=#[.cell p 75]) (tmps:Array Value) (w:World) (g:Nat) (cs:List Value) (hp:tmps.getD p undef=.pointer (some ⟨g,0,none⟩)) (hg:Bk w g 75 cs) (hl:cs.length=2:=by rfl) :
  (results fn tmps).run prog w=.ok (.agg cs.toArray) w:=by
 exact results_cell_row h tmps w g _ _ _ _ hp hg underlying75 rfl (by rw[bGq];simp[hl])
theorem aFb (F:Xt) (gd:Nat) (zsl:Value) (ops reads left:Int) (zs:List ZD) (w:World) (h:Uo w F gd zsl ops reads left zs) :
  Calls prog 66 #[.pointer (some ⟨gd,0,none⟩)] w fun e w'=>e=.returned (.bool false)∧w=w':=by
 have hzr:=h.zr;obtain⟨az,cz,hzs⟩:=aBd hzr (by omega);subst hzs;have c0:=h.bx.cell (i:=0) (by simp);have c1:=h.bx.cell (i:=1) (by simp);have c2:=h.bx.cell (i:=2) (by simp);have c3:=h.bx.cell (i:=3) (by simp);have c4:=h.bx.cell (i:=4) (by simp);have c5:=h.bx.cell (i:=5) (by simp);have c6:=h.bx.cell (i:=6) (by simp);have c7:=h.bx.cell (i:=7) (by simp);have f3:=h.bx.free 3;have f6:=h.bx.free 6;have f7:=h.bx.free 7;simp only[tI,tJ] at c0 c1 c2 c3 c4 c5 c6 c7;go_enter func66,ntmps66
 go_wp2_with fail
 go_ret;exact⟨rfl,rfl⟩
theorem aYt (F:Xt) (gd:Nat) (zsl:Value) (ops reads left:Int) (zs:List ZD) (w:World) (h:Uo w F gd zsl ops reads left zs) :
  Calls prog 72 #[.pointer (some ⟨gd,0,none⟩)] w fun e w'=>e=.returned (.agg #[.int .i64 8,.int .i64 96])∧nD w w':=by
 have hzr:=h.zr;obtain⟨az,cz,hzs⟩:=aBd hzr (by omega);subst hzs;have c0:=h.bx.cell (i:=0) (by simp);have c1:=h.bx.cell (i:=1) (by simp);have c2:=h.bx.cell (i:=2) (by simp);have c3:=h.bx.cell (i:=3) (by simp);have c4:=h.bx.cell (i:=4) (by simp);have c5:=h.bx.cell (i:=5) (by simp);have c6:=h.bx.cell (i:=6) (by simp);have c7:=h.bx.cell (i:=7) (by simp);have f3:=h.bx.free 3;have f6:=h.bx.free 6;have f7:=h.bx.free 7;simp only[tI,tJ] at c0 c1 c2 c3 c4 c5 c6 c7;obtain⟨w1,hw1⟩:=nC (w.alloc (.cells #[.int .i64 0,.int .i64 0] 75));have hb1:nD w w1:=by rw[←hw1];exact nB.alloc lR _
 have hp1:Bk w1 w.heap.size 75 [.int .i64 0,.int .i64 0]:=by rw[←hw1];exact Bk.new w _ _
 have h1:Uo w1 F gd (.slice (some ⟨az,0,none⟩) 8 cz) ops reads left zs:=h.ag (.of_below hb1);obtain⟨d0,d1⟩:=h1.bx.c2;have p0:=hp1.cell (i:=0) (by simp);have p1:=hp1.cell (i:=1) (by simp);have q0:=hp1.free 0;have q1:=hp1.free 1;have hg:=aFb F gd _ ops reads left zs w1 h1;obtain⟨w3,hw3⟩:=nC ((w1.setCell ⟨w.heap.size,0,none⟩ (.int .i64 8)).setCell ⟨w.heap.size,1,none⟩ (.int .i64 96))
 have H3:=hid (show Bk w3 w.heap.size 75 [.int .i64 8,.int .i64 96]∧nD w w3 from by
  rw[←hw3];exact⟨(hp1.set 0 _).set 1 _,(hb1.setCell (p:=⟨w.heap.size,0,none⟩) lR _).setCell (p:=⟨w.heap.size,1,none⟩) lR _⟩)
 clear h1 hb1 hp1 h hzr;go_enter func72,ntmps72
 go_wp2_with fail
 refine hg.mono ?_;rintro e w' ⟨rfl,rfl⟩;go_wp2_with fail
 refine bodyPost_ret (aQd rfl _ _ _ _ (by rfl) H3.o.1) rfl ?_;exact⟨rfl,H3.o.2⟩
theorem aJu (F:Xt) (gd:Nat) (zsl:Value) (ops reads left:Int) (zs:List ZD) (i:Nat) (z:ZD) (w:World) (h:Uo w F gd zsl ops reads left zs) (hi:zs[i]? =some z) :
  Calls prog 105 #[.pointer (some ⟨gd,0,none⟩),.int .i64 (i:Int)] w fun e w'=>e=.returned (zp z)∧w=w':=by
 obtain⟨hil,hiz⟩:=rB.1 hi;have hl:=h.zl;have hzr:=h.zr;obtain⟨az,cz,hzs⟩:=aBd hzr (by omega);subst hzs;have c0:=h.bx.cell (i:=0) (by simp);have c1:=h.bx.cell (i:=1) (by simp);have c2:=h.bx.cell (i:=2) (by simp);have c3:=h.bx.cell (i:=3) (by simp);have c4:=h.bx.cell (i:=4) (by simp);have c5:=h.bx.cell (i:=5) (by simp);have c6:=h.bx.cell (i:=6) (by simp);have c7:=h.bx.cell (i:=7) (by simp);have f3:=h.bx.free 3;have f6:=h.bx.free 6;have f7:=h.bx.free 7;simp only[tI,tJ] at c0 c1 c2 c3 c4 c5 c6 c7;have n0:(0:Int)≤(i:Int):=by omega
 have n1:(i:Int)<8:=by omega
 have n2:¬((i:Int)<0):=by omega
 have n3:¬((8:Int)≤(i:Int)):=by omega
 have e0:=h.zr.cellAt i (by omega);rw[rW,tX hil,hiz] at e0;have hg:=aFb F gd _ ops reads left zs w h;clear h hzr hi hiz;unfold zp at e0;go_enter func105,ntmps105
 go_wp2_with fail
 refine hg.mono ?_;rintro e w' ⟨rfl,rfl⟩;go_wp2_with fail
 go_ret;exact⟨rfl,rfl⟩
theorem Uo.put {w:World} {F:Xt} {gd:Nat} {zsl:Value} {ops reads left ops' reads':Int} {zs:List ZD} (h:Uo w F gd zsl ops reads left zs) (j:Nat) (u:Value) (hbx:Bk (w.setCell ⟨gd,j,none⟩ u) gd 131 [.int .i64 8,.int .i64 96,zsl,.int .i64 ops',.int .i64 reads',.bool false,.int .i64 left,.bool false]):Uo (w.setCell ⟨gd,j,none⟩ u) F gd zsl ops' reads' left zs:=by
 have far:∀{g t:Nat} {cs:List Value},Bk w g t cs→t≠131→Bk (w.setCell ⟨gd,j,none⟩ u) g t cs:=fun hb ht=>hb.far (fun e=>by
  have e:_=gd:=e;subst e;have h1:=h.bx;unfold Bk at h1 hb;rw[h1] at hb;injection hb with hb;injection hb with _ hb _;exact ht hb.symm) _
 have faro:∀{e n:Nat} {v:Value} {xs:List Value},w.ownsRow 0 e 1 v n xs→e≠131→(w.setCell ⟨gd,j,none⟩ u).ownsRow 0 e 1 v n xs:=fun ho he=>by
  rcases ho.2 with h0|⟨g,cap,cur,hv,hg,hh,hr⟩
  · exact⟨ho.1,.inl h0⟩
  · refine⟨ho.1,.inr ⟨g,cap,cur,hv,hg,?_,hr⟩⟩
    rw[Below.heap_setCell _ _ _ _ (fun e=>by
     have e:g=gd:=e;subst e;have h1:=h.bx;unfold Bk at h1;rw[h1] at hh;injection hh with hh;injection hh with _ hh _;exact he hh.symm)]
    exact hh
 exact⟨hbx,h.zl,faro h.zr (by decide),fun z hz=>far (h.zb z hz) (by decide),fun z hz=>faro (h.zo z hz) (by decide),h.nd,h.dj,h.mx,h.f0,h.f1,h.f2,h.f3⟩
theorem Uo.ops {w:World} {F:Xt} {gd:Nat} {zsl:Value} {ops reads left:Int} {zs:List ZD} (h:Uo w F gd zsl ops reads left zs) (ops':Int):Uo (w.setCell ⟨gd,3,none⟩ (.int .i64 ops')) F gd zsl ops' reads left zs:=h.put 3 _ (h.bx.set 3 _)
theorem Uo.rds {w:World} {F:Xt} {gd:Nat} {zsl:Value} {ops reads left:Int} {zs:List ZD} (h:Uo w F gd zsl ops reads left zs) (reads':Int):Uo (w.setCell ⟨gd,4,none⟩ (.int .i64 reads')) F gd zsl ops reads' left zs:=h.put 4 _ (h.bx.set 4 _)
theorem Uo.offed {w:World} {F:Xt} {gd:Nat} {zsl:Value} {ops reads left:Int} {zs:List ZD} (h:Uo w F gd zsl ops reads left zs):Uo (w.setCell ⟨gd,7,none⟩ (.bool false)) F gd zsl ops reads left zs:=by
 have e:w.setCell ⟨gd,7,none⟩ (.bool false)=w:=by
  have hb:=h.bx;unfold Bk at hb
  have:(w.setCell ⟨gd,7,none⟩ (.bool false)).heap=w.heap:=by
   unfold World.setCell
   apply Array.ext
   · simp
   · intro i h1 h2;simp only[Array.getElem_modify];split
     · rename_i hi;subst hi;obtain⟨_,hb⟩:=Array.getElem?_eq_some_iff.1 hb;rw[hb];rfl
     · rfl
  cases w;simp only[World.setCell] at this ⊢;simp only[this]
 rw[e];exact h
theorem aFr (F:Xt) (gd:Nat) (zsl:Value) (ops reads left:Int) (zs:List ZD) (w:World) (h:Uo w F gd zsl ops reads left zs) :
  Calls prog 106 #[.pointer (some ⟨gd,0,none⟩)] w fun e w'=>e=.returned (.bool true)∧(∃ops',Uo w' F gd zsl ops' reads left zs)∧Kf F w w':=by
 have hzr:=h.zr;obtain⟨az,cz,hzs⟩:=aBd hzr (by omega);subst hzs;have c0:=h.bx.cell (i:=0) (by simp);have c1:=h.bx.cell (i:=1) (by simp);have c2:=h.bx.cell (i:=2) (by simp);have c3:=h.bx.cell (i:=3) (by simp);have c4:=h.bx.cell (i:=4) (by simp);have c5:=h.bx.cell (i:=5) (by simp);have c6:=h.bx.cell (i:=6) (by simp);have c7:=h.bx.cell (i:=7) (by simp);have f3:=h.bx.free 3;have f6:=h.bx.free 6;have f7:=h.bx.free 7;simp only[tI,tJ] at c0 c1 c2 c3 c4 c5 c6 c7;obtain⟨o2,ho2⟩:=nC (wrap64 (ops+1));obtain⟨w1,hw1⟩:=nC (w.setCell ⟨gd,3,none⟩ (.int .i64 o2));have h1:Uo w1 F gd (.slice (some ⟨az,0,none⟩) 8 cz) o2 reads left zs:=by rw[←hw1];exact h.ops o2
 have k1:Kf F w w1:=by rw[←hw1];exact(Kf.refl F w).set h.bx (by decide) (.inl h.f0) _ _
 obtain⟨w2,hw2⟩:=nC (w1.setCell ⟨gd,7,none⟩ (.bool false));have h2:Uo w2 F gd (.slice (some ⟨az,0,none⟩) 8 cz) o2 reads left zs:=by rw[←hw2];exact h1.offed
 have k2:Kf F w w2:=by rw[←hw2];exact k1.set h1.bx (by decide) (.inl h1.f0) _ _
 obtain⟨d0,d1,d2,d3,d4,d5,d6,d7⟩:=h1.bx.c8;have g7:=h1.bx.free 7;obtain⟨i0,i1,i2,i3,i4,i5,i6,i7⟩:=h2.bx.c8;have HE:=nF h2 k2;clear h1 h2 k1 k2 h hzr;go_enter func106,ntmps106
 go_wp2_with fail
 go_ret;exact⟨rfl,⟨o2,HE.o.1⟩,HE.o.2⟩
theorem aMl (F:Xt) (gd:Nat) (zsl:Value) (ops reads left:Int) (zs:List ZD) (i:Nat) (z:ZD) (w:World) (h:Uo w F gd zsl ops reads left zs) (hi:zs[i]? =some z) :
  Calls prog 48 #[.pointer (some ⟨gd,0,none⟩),.int .i64 (i:Int)] w fun e w'=>e=.returned (.tuple #[.int .i64 (z.n:Int),.int .i64 0])∧w=w':=by
 have hz:z∈zs:=tZ hi;obtain⟨c0,c1⟩:=(h.zb z hz).c2;obtain⟨va,vc,hv⟩:=Xs (h.zo z hz);rw[hv] at c0;have hg:=aJu F gd _ ops reads left zs i z w h hi;unfold zp at hg;go_enter func48,ntmps48
 go_wp2_with fail
 refine hg.mono ?_;rintro e w' ⟨rfl,rfl⟩;go_wp2_with fail
 go_ret2
 exact⟨rfl,rfl⟩
theorem Uo.setZ {w w':World} {F F':Xt} {gd:Nat} {zsl:Value} {ops reads left:Int} {zs:List ZD} (h:Uo w F gd zsl ops reads left zs) {i:Nat} {z:ZD} (hi:zs[i]? =some z) (v:Value) (n:Nat) (rows:List Value) (good:Int)
  (hk:Kp2 (fun b=>b=z.gz∨z.v.ownBlock=some b) w w') (hb:Bk w' z.gz 135 [v,.int .i64 good]) (ho:w'.ownsRow 0 41 1 v n rows) (hn:n≤96) (hv:∀g,v.ownBlock=some g→z.v.ownBlock=some g∨w.heap.size≤g)
  (hF:∀b,F b→F' b) (hF2:∀g,v.ownBlock=some g→F' g):Uo w' F' gd zsl ops reads left (zs.set i ⟨z.gz,v,n,rows,good⟩):=by
 obtain⟨hil,hiz⟩:=rB.1 hi;have hzm:z∈zs:=by rw[←hiz];exact rC hil
 have get:∀j (hj:j<(zs.set i ⟨z.gz,v,n,rows,good⟩).length),(zs.set i ⟨z.gz,v,n,rows,good⟩)[j]=if i=j then ⟨z.gz,v,n,rows,good⟩ else zs[j]'(by simpa using hj):=fun j hj=>List.getElem_set ..
 have mem:∀y∈zs.set i ⟨z.gz,v,n,rows,good⟩,y=⟨z.gz,v,n,rows,good⟩∨∃j,∃hj:j<zs.length,j≠i∧zs[j]=y:=fun y hy=>by
  obtain⟨j,hj,e⟩:=List.getElem_of_mem hy;rw[get j hj] at e;by_cases q:i=j
  · rw[if_pos q] at e;exact .inl e.symm
  · rw[if_neg q] at e;exact .inr ⟨j,by simpa using hj,fun r=>q r.symm,e⟩
 have hzo:=h.zo z hzm;have far:∀{g t:Nat} {cs:List Value},Bk w g t cs→g≠z.gz→t≠41→Bk w' g t cs:=fun hg hne ht=>hk.bk hg (fun q=>q.elim hne (fun r=>Vc hzo hg (fun e=>ht e.symm) r))
 have hpz:(zs.set i ⟨z.gz,v,n,rows,good⟩).map zp=zs.map zp:=by
  rw[List.map_set];refine List.ext_getElem (by simp) fun j h1 h2=>?_
  rw[List.getElem_set];split
  · rename_i e;subst e;rw[rV,hiz];rfl
  · rfl
 refine⟨far h.bx (aIs h.bx (h.zb z hzm) (by decide)) (by decide),by rw[rK];exact h.zl,?_,fun y hy=>?_,fun y hy=>?_,fun a c ha hc hne=>?_,fun a c ha hc hne=>?_,fun y hy=>?_,hF _ h.f0,fun g hg=>hF _ (h.f1 g hg),fun y hy=>?_,fun y hy=>?_⟩
 · rw[hpz];exact hk.own h.zr (fun g hg q=>q.elim (fun r=>Vc h.zr (h.zb z hzm) (by decide) (by rw[hg,r])) (fun r=>aBl h.zr hzo (by decide) hg r))
 · rcases mem y hy with rfl|⟨j,hj,hne,rfl⟩
   · exact hb
   · exact far (h.zb _ (rC hj)) (by have:=h.nd j i hj hil hne;rw[hiz] at this;exact this) (by decide)
 · rcases mem y hy with rfl|⟨j,hj,hne,rfl⟩
   · exact ho
   · exact hk.own (h.zo _ (rC hj)) (fun g hg q=>q.elim (fun r=>Vc (h.zo _ (rC hj)) (h.zb z hzm) (by decide) (by rw[hg,r])) (fun r=>by
      rcases h.dj j i hj hil hne with q|q
      · rw[q] at hg;cases hg
      · rw[hiz,r] at q;exact q hg))
 · rw[get a ha,get c hc];rw[rK] at ha hc;by_cases p:i=a<;>by_cases q:i=c
   · omega
   · rw[if_pos p,if_neg q];have:=h.nd i c hil hc q;rw[hiz] at this;exact this
   · rw[if_neg p,if_pos q];have:=h.nd a i ha hil (fun r=>p r.symm);rw[hiz] at this;exact this
   · rw[if_neg p,if_neg q];exact h.nd a c ha hc hne
 · rw[get a ha,get c hc];rw[rK] at ha hc
   have key:∀c (hc:c<zs.length),i≠c→v.ownBlock=none∨v.ownBlock≠zs[c].v.ownBlock:=fun c hc hne=>by
    by_cases e:v.ownBlock=none
    · exact .inl e
    · obtain⟨g,hg⟩:=Option.ne_none_iff_exists'.1 e;right
      intro r;rw[hg] at r;rcases hv g hg with q|q
      · rcases h.dj i c hil hc hne with s|s
        · rw[hiz,q] at s;cases s
        · rw[hiz,q] at s;exact s r
      · obtain⟨_,_,hh⟩:=Vx (h.zo _ (rC hc)) r.symm;have:=Vz hh;omega
   by_cases p:i=a<;>by_cases q:i=c
   · omega
   · rw[if_pos p,if_neg q];exact key c hc q
   · rw[if_neg p,if_pos q];rcases key a ha p with s|s
     · by_cases e:zs[a].v.ownBlock=none
       · exact .inl e
       · right;show zs[a].v.ownBlock≠v.ownBlock;rw[s];exact e
     · exact .inr (fun r=>s r.symm)
   · rw[if_neg p,if_neg q];exact h.dj a c ha hc hne
 · rcases mem y hy with rfl|⟨j,hj,hne,rfl⟩
   · exact hn
   · exact h.mx _ (rC hj)
 · rcases mem y hy with rfl|⟨j,hj,hne,rfl⟩
   · exact hF _ (h.f2 z hzm)
   · exact hF _ (h.f2 _ (rC hj))
 · rcases mem y hy with rfl|⟨j,hj,hne,rfl⟩
   · exact hF2
   · exact fun g hg=>hF _ (h.f3 _ (rC hj) g hg)
end
section
open Go.RowKit
theorem aGa (v:Int) (w:World) :
  Calls prog 104 #[.int .u32 v] w fun e w'=>(∃u bs,e=.returned u∧Byt w' w.heap.size u bs∧bs.length=4)∧nD w w':=by
 have hp:∀x,_:=fun x=>bAa x 4 w (by omega)
 go_enter func104,ntmps104
 go_wp2_with fail
 refine(hp _).mono ?_;rintro e w' ⟨⟨u,bs,rfl,h1,h2⟩,hb⟩;go_wp2_with fail
 go_ret;exact⟨⟨_,bs,rfl,h1,h2⟩,hb⟩
theorem aNw (g:Nat) (t:Int) (A:Option Addr) (n c:Nat) (bs:List Int) (w:World) (hg:Bk w g 387 [.int .u32 t]) (h:IsB w A n c bs) (hn:n≤1000000) :
  Calls prog 271 #[.pointer (some ⟨g,0,none⟩),.slice A n c] w fun e w'=>e=.returned (.pointer (some ⟨g,0,none⟩))∧(∃t',Bk w' g 387 [.int .u32 t'])∧Below g w w':=by
 have hl:=h.len;have c0:=hg.cell (i:=0) (by simp);have f0:=hg.free 0;simp only[tI] at c0;have HG:=nF hg h;clear hg h;go_enter func271,ntmps271
 go_wp2_with fail
 go_loop [5,17] (fun r i=>∃(k:Nat) (x:Int),k≤n∧i=.int .i64 (k:Int)∧r=.int .u32 x) (fun _ i=>n - (intOf i).toNat)
 case atStart=>exact⟨0,_,zL,rfl,rfl⟩
 case round =>
  obtain⟨k,x,hk,rfl,rfl⟩:=hrel;by_cases hlt:k<n
  · obtain⟨ad,rfl,_,e0⟩:=HG.o.2.rd.get (k:=k) (by rw[rU];omega);rw[rV] at e0;obtain⟨y,hy⟩:=nC (bs[k]'(by omega));rw[hy] at e0;have n0:(k:Int)<(n:Int):=by omega
    have n1:(0:Int)≤(k:Int):=by omega
    clear hy;go_wp2_with fail
    go_loop [5,25] (fun r i=>∃(j:Nat) (x:Int),j≤8∧i=.int .i64 (j:Int)∧r=.int .u32 x) (fun _ i=>8 - (intOf i).toNat)
    case atStart=>exact⟨0,_,zL,rfl,rfl⟩
    case round =>
     obtain⟨j,x,hj,rfl,rfl⟩:=hrel;by_cases hjl:j<8
     · have m0:(j:Int)<8:=by omega
       go_wp2_with fail
       go_round
       case rel=>exact⟨j+1,_,hjl,by go_num,rfl⟩
       case measure=>exact aGn hjl
     · have m0:¬((j:Int)<8):=by omega
       go_wp2_with fail
       go_round
       case rel=>exact⟨k+1,_,hlt,by go_num,rfl⟩
       case measure=>exact aGn hlt
  · have n0:¬((k:Int)<(n:Int)):=by omega
    go_wp2_with fail
    go_ret;exact⟨rfl,⟨_,HG.o.1.set 0 _⟩,nB.setCell (p:=⟨g,0,none⟩) lR _⟩
theorem aIw (A:Option Addr) (n c:Nat) (bs:List Int) (w:World) (h:IsB w A n c bs) (hn:n≤1000000) :
  Calls prog 218 #[.slice A n c] w fun e w'=>(∃x,e=.returned (.int .u32 x))∧nD w w':=by
 have hN:∀w:World,Calls prog 270 #[] w fun e w'=>e=.returned (.pointer (some ⟨w.heap.size,0,none⟩))∧w'=w.alloc (.cells #[.int .u32 0] 387):=fun w=>by
  go_enter func270,ntmps270
  go_wp2_with fail
  go_ret;exact⟨rfl,rfl⟩
 have hV:∀(w:World) (g:Nat) (t:Int),Bk w g 387 [.int .u32 t]→Calls prog 272 #[.pointer (some ⟨g,0,none⟩)] w fun e w'=>e=.returned (.int .u32 t)∧w'=w:=fun w g t hg=>by
  have c0:=hg.cell (i:=0) (by simp);simp only[tI] at c0;go_enter func272,ntmps272
  go_wp2_with fail
  go_ret;exact⟨rfl,rfl⟩
 go_enter func218,ntmps218
 go_wp2_with fail
 refine(hN _).mono ?_;rintro e w1 ⟨rfl,rfl⟩;have hb1:nD w (w.alloc (.cells #[.int .u32 0] 387)):=nB.alloc lR _;go_wp2_with fail
 refine(aNw w.heap.size 0 A n c bs _ (Bk.new w _ _) (h.next hb1) hn).mono ?_;rintro e w2 ⟨rfl,⟨t,ht⟩,hb2⟩;go_wp2_with fail
 refine(hV w2 _ t ht).mono ?_;rintro e w3 ⟨rfl,rfl⟩;go_wp2_with fail
 go_ret;exact⟨⟨t,rfl⟩,hb1.trans hb2⟩
end
end Go.Proofs.YtdhlicgaalnmoaaGreatDoor.Tp
