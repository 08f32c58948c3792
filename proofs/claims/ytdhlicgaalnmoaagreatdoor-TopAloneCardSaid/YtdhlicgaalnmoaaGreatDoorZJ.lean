/- Contracts of the program's functions, and laws on memory: a part of the proof of TopAlone. -/
import Derived.Test.YtdhlicgaalnmoaaGreatDoorZI
set_option linter.unusedSimpArgs false
set_option linter.unusedVariables false
namespace Go.Proofs.YtdhlicgaalnmoaaGreatDoor.Tp
open Lib (hid)
open Tryz
open Go.RowKit Go.Maps
set_option maxHeartbeats 8000000
set_option maxRecDepth 100000
theorem bDq:(prog.info? 3).map (fun i=>(i.size,i.bytes,i.zero.map (·.cells.size)))=some (1,8,some 1):=by kernel_rfl
theorem bBr:∃i z,prog.info? 3=some i∧i.zero=some z∧i.size=1∧i.bytes=8∧z.cells.size=1:=by
 have h:=bDq
 cases hi:prog.info? 3 with
 | none=>rw[hi] at h;cases h
 | some i =>
   rw[hi] at h;simp at h
   obtain⟨h1,h2,z,hz,h3⟩:=h;exact⟨i,z,rfl,hz,h1,h2,h3⟩
theorem aMe (F:Xt) (Ft:Nat→Xt) (mb gm kb am:Nat) (qv:Value) (out:Nat) (m:MS) (es:List TE) (N R i:Nat) (t:TX) (x:TE) (w:World) (h:Vl w F Ft mb gm kb am qv out m es N R) (ht:m.txs[i]? =some t) (hx:es[i]? =some x) (hi:i≤1000000) (hq:∀i∈m.queue,∃t,m.txs[i]? =some t) (hl:es.length≤100000) (hql:m.queue.length≤100000) (hg:m.given≤1000) :
  Calls prog 45 #[.pointer (some ⟨mb,0,none⟩),.int .i64 ((i:Int)+1)] w fun e w'=>bCu w F mb gm kb am out m es N R i t e w':=by
 have ho:=aEe F Ft mb gm kb am qv out m es N R i t x w h ht hx hi;have htx:=h.tx i t x ht hx;obtain⟨code,hb,-⟩:=htx.bx;obtain⟨_,_,_,d3,d4,_⟩:=aAg hb;have hbl:=aNo _ x.bb t.keys w htx.buf;have HX:=hid h;have HI:=nL ht hx hi hq hl hql hg;clear h ht hx hq hl hql hg hb htx hi;by_cases h1:t.st=1;rotate_left
 · rw[if_neg h1] at ho;clear hbl;go_enter func45,ntmps45
   go_wp2_with fail
   refine ho.mono ?_;rintro e w' ⟨rfl,rfl⟩;clear ho;go_wp2_with fail
   go_ret;exact⟨_,rfl,F,Ft,qv,m,HX.o,Kf.refl _ _,fun b q=>.inl q,HX.o.fam.lt,.inl ⟨h1,rfl,rfl⟩⟩
 rw[if_pos h1] at ho;by_cases hk:t.keys=[]
 · have hl0:t.keys.length=0:=by rw[hk];rfl
   rw[hl0] at hbl;go_enter func45,ntmps45
   go_wp2_with fail
   refine ho.mono ?_;rintro e w' ⟨rfl,rfl⟩;clear ho;go_wp2_with fail
   refine hbl.mono ?_;rintro e w1 ⟨rfl,hb1⟩;clear hbl d3 d4;have hX1:=HX.o.next hb1;obtain⟨code1,hb,hcd⟩:=(hX1.tx i t x HI.o.1 HI.o.2.1).bx;obtain⟨_,_,_,d3,_,_⟩:=aAg hb;have f1:=hb.free 1;obtain⟨w2,hw2⟩:=nC (w1.setCell ⟨x.tb,1,none⟩ (.int .i64 (t.at':Int)));have hb2:Bk w2 x.tb 174 (aAr {t with time:=t.at'} code1 x):=by rw[←hw2];exact hb.set 1 _
   have k2:Kf (fun b=>b=x.tb) w1 w2:=by rw[←hw2];exact(Kf.refl (fun b=>b=x.tb) w1).set hb (by decide) (.inl rfl) 1 _
   have e2:=hX1.state (t':={t with time:=t.at'}) HI.o.1 HI.o.2.1 k2 hb2 hcd rfl rfl;have he:=aDm F Ft mb gm kb am qv out (m.put i {t with time:=t.at'}) es N R i 3 3 0 _ x w2 e2.1 (MS.put_at HI.o.1 _) HI.o.2.1 HI.o.2.2.1 rfl (fun _=>rfl);rw[if_neg (by decide),MS.put_put] at he;have HE:=hid ((Kf.of_below (F:=F) hb1).trans e2.2 (fun b q=>.inl q));clear hb hb2 k2 e2 hX1 hb1 hcd;go_wp2_with fail
   refine he.mono ?_;rintro e w3 ⟨rfl,hm3,hk3⟩;have HM:=nF hm3 (HE.o.trans hk3 (fun b q=>.inl q));clear he hm3 hk3;go_wp2_with fail
   go_ret;exact⟨_,rfl,F,Ft,qv,_,HM.o.1,HM.o.2,fun b q=>.inl q,HM.o.1.fam.lt,.inr ⟨h1,.inl ⟨hk,rfl,rfl⟩⟩⟩
 obtain⟨L,hL⟩:∃L,t.keys.length=L+1:=by
  cases h2:t.keys with
  | nil=>exact absurd h2 hk
  | cons a l=>exact⟨l.length,rfl⟩
 rw[hL] at hbl
 have n1:(((L+1:Nat):Int)==0)=false:=by
  have:¬((L+1:Nat):Int)=0:=by omega
  simpa using this
 have HL:=nF h1 hk;clear hL hk;go_enter func45,ntmps45
 go_wp2_with fail
 refine ho.mono ?_;rintro e w' ⟨rfl,rfl⟩;clear ho;go_wp2_with fail
 refine hbl.mono ?_;rintro e w1 ⟨rfl,hb1⟩;clear hbl d3 d4;have hX1:=HX.o.next hb1;have hmay:=bEe F Ft mb gm kb am qv out m es N R i t x w1 hX1 HI.o.1 HI.o.2.1 HI.o.2.2.2.1 HI.o.2.2.2.2.1 HI.o.2.2.2.2.2.1 HI.o.2.2.2.2.2.2;have HB1:=hid hb1;clear hX1 hb1;go_wp2_with fail
 refine hmay.mono ?_;rintro e w2 ⟨⟨r,rfl,hr⟩,hb2⟩;have HB2:=nF (HB1.o.trans (hb2.mono HB1.o.size)) hr;clear hmay hr hb2;have hX2:=HX.o.next HB2.o.1;by_cases h0:r=0;rotate_left
 · have n2:(r==0)=false:=by simpa using h0
   have n3:(r !=0)=true:=by simpa using h0
   have he:=aDm F Ft mb gm kb am qv out m es N R i 4 4 r t x w2 hX2 HI.o.1 HI.o.2.1 HI.o.2.2.1 rfl (fun q=>by cases q);rw[if_pos rfl] at he;clear hX2;go_wp2_with fail
   refine he.mono ?_;rintro e w3 ⟨rfl,hm3,hk3⟩;have HM:=nF hm3 ((Kf.of_below (F:=F) HB2.o.1).trans hk3 (fun b q=>.inl q));clear he hm3 hk3;go_wp2_with fail
   go_ret;exact⟨_,rfl,F,Ft,qv,_,HM.o.1,HM.o.2,fun b q=>.inl q,HM.o.1.fam.lt,.inr ⟨HL.o.1,.inr ⟨HL.o.2,.inl ⟨h0,fun q=>h0 (HB2.o.2 q.1 q.2.1 q.2.2),rfl⟩⟩⟩⟩
 subst h0;obtain⟨xi,xz,hxi,hxz,hx5,hx56,hxc⟩:=bBr;have gg:((m.given+1:Nat):Int)=(m.given:Int)+1:=rfl;have m1:wrap64 ((m.given:Int)+1)=(m.given:Int)+1:=by have:=HI.o.2.2.2.2.2.2;unfold wrap64;omega
 have m2:IntKind.i64.wrap ((m.given:Int)+1)=(m.given:Int)+1:=IntWalk.i64_in _ (by have:=HI.o.2.2.2.2.2.2;omega);obtain⟨_,_,_,_,_,_,_,_,c8,_⟩:=Xz hX2.bx;have f8:=hX2.bx.free 8;obtain⟨w3,hw3⟩:=nC (w2.setCell ⟨mb,8,none⟩ (.int .i64 ((m.given:Int)+1)));have hb3:Bk w3 mb 166 (Vp gm kb am qv out {m with given:=m.given+1}):=by rw[←hw3];exact hX2.bx.set 8 (.int .i64 ((m.given:Int)+1))
 have k3:Kf (fun b=>b=mb) w2 w3:=by rw[←hw3];exact(Kf.refl (fun b=>b=mb) w2).set hX2.bx (by decide) (.inl rfl) 8 _
 have e3:=hX2.cell k3 {m with given:=m.given+1} out hb3 rfl rfl lR;obtain⟨_,_,_,_,_,_,_,_,c8',_⟩:=Xz hb3;rw[show (({m with given:=m.given+1}:MS).given:Int)=(m.given:Int)+1 from rfl] at c8';obtain⟨code3,hbt,-⟩:=(e3.1.tx i t x HI.o.1 HI.o.2.1).bx;have f0:=hbt.free 0;have g0:=(aAg hbt).1;obtain⟨w4,hw4⟩:=nC (w3.setCell ⟨x.tb,0,none⟩ (.int .i64 2));have hb4:Bk w4 x.tb 174 (aAr {t with st:=2} code3 x):=by rw[←hw4];exact hbt.set 0 (.int .i64 2)
 have k4:Kf (fun b=>b=x.tb) w3 w4:=by rw[←hw4];exact(Kf.refl (fun b=>b=x.tb) w3).set hbt (by decide) (.inl rfl) 0 _
 have f1:=hb4.free 1;have g1:=(aAg hb4).2.1;obtain⟨w5,hw5⟩:=nC (w4.setCell ⟨x.tb,1,none⟩ (.int .i64 ((m.given:Int)+1)));have hb5:Bk w5 x.tb 174 (aAr ⟨2,m.given+1,t.at',t.keys⟩ code3 x):=by rw[←hw5];exact hb4.set 1 (.int .i64 ((m.given:Int)+1))
 have k5:Kf (fun b=>b=x.tb) w3 w5:=by rw[←hw5];exact k4.set hb4 (by decide) (.inl rfl) 1 _
 have e5:=e3.1.state (t':=⟨2,m.given+1,t.at',t.keys⟩) HI.o.1 HI.o.2.1 k5 hb5 (fun q=>by cases q) rfl rfl;obtain⟨_,_,_,c3,_⟩:=Xz e5.1.bx;obtain⟨qA,qc,hq⟩:=Xs e5.1.own;rw[hq] at c3;have HE:=nF e5.1 (((Kf.of_below (F:=F) HB2.o.1).trans e3.2 (fun b q=>.inl q)).trans e5.2 (fun b q=>.inl q));rw[hq] at HE;obtain⟨w6,hw6⟩:=nC (w5.alloc (.cells #[.int .i64 ((i:Int)+1)] 3));have hB6:Bk w6 w5.heap.size 3 [.int .i64 ((i:Int)+1)]:=by rw[←hw6];exact Bk.new w5 _ _
 have hb6:nD w5 w6:=by rw[←hw6];exact nB.alloc lR _
 have hO6:=(HE.o.1.next hb6).own;have HB6:=nF hb6 hB6;have HM6:=nF (HE.o.1.next hb6).bx (HE.o.1.next hb6).q_ne.1;obtain⟨qn,hqn⟩:=nC (m.queue.length);have hql:qn≤100000:=by rw[←hqn];exact HI.o.2.2.2.2.2.1
 have HO6:=hid hO6;simp only[MS.put] at HO6 c3 HM6;rw[hqn] at HO6 c3 HM6;clear hX2 hb3 k3 e3 hbt hb4 k4 hb5 k5 e5 hb6 hB6 hO6;go_wp2_with (at_builtin;go_must (refine aAc _ rfl _ _ 23 rfl 0 3 xi xz 1 8 underlying23 hxi hxz hx5 hx56 hxc (by decide) _ _ _ (by rfl) (by exact HO6.o) _ [.int .i64 ((i:Int)+1)] (by rfl) (by exact HB6.o.2) rfl (by intro u hu;simp at hu;rcases hu with rfl<;>rfl) (by omega) (by decide) (by exact zL) ?_);intro v7 w7 hO7 hG7 hv7;have hG7:w6.grownBy w7 (Value.slice qA qn qc).ownBlock:=hG7;have hv7:v7.ownBlock=(Value.slice qA qn qc).ownBlock∨v7.ownBlock=some w6.heap.size:=hv7;obtain⟨zA,zc,rfl⟩:=Xs hO7;have b7:=aCt HM6.o.1 hG7 HM6.o.2;obtain⟨_,_,_,q3,_⟩:=Xz b7;have q3f:=b7.free 3)
 have HF:=nH hO7 hG7 hv7;clear hO7 hG7 hv7 b7;go_ret;subst hqn;obtain⟨F',Ft',g1,g2,g3,g4⟩:=HE.o.1.qpush (i:=i) HB6.o.1 HF.o.1 HF.o.2.1 HF.o.2.2 rfl;exact⟨0,rfl,F',Ft',_,m.pend i t,g1,HE.o.2.trans g2 (fun b q=>.inl q),fun b q=>(g3 b q).imp id (tK HE.o.2.size),g4,.inr ⟨HL.o.1,.inr ⟨HL.o.2,.inr ⟨rfl,rfl⟩⟩⟩⟩
theorem aFt {α V:Type} {f: α→List V} {n:Nat} (hf:∀a,(f a).length=n) {i:Nat} (hi:i<n) {a': α} {u:V}:∀(l:List α) (j:Nat) (hj:j<l.length),f a'=(f l[j]).set i u→(l.flatMap f).set (j*n+i) u=(l.set j a').flatMap f
 | [],j,hj,_=>absurd hj (Nat.not_lt_zero j)
 | a::l,0,hj,h=>by
   have h:f a'=(f a).set i u:=h;simp only[List.flatMap_cons,tD,Nat.zero_mul,Nat.zero_add];rw[List.set_append_left _ _ (by rw[hf];exact hi),h]
 | a::l,j+1,hj,h=>by
   have ih:=aFt hf hi l j (by simpa using hj) h;simp only[List.flatMap_cons,tE];rw[List.set_append_right _ _ (by rw[hf];have:n≤(j+1)*n:=Nat.le_mul_of_pos_left n (Nat.succ_pos j);omega),hf,show (j+1)*n+i - n=j*n+i by rw[Nat.succ_mul];omega,ih]
theorem aLj {α V:Type} {f: α→List V} {n:Nat} (hf:∀a,(f a).length=n) {i:Nat} (hi:i<n):∀(l:List α) (j:Nat) (hj:j<l.length),(l.flatMap f)[j*n+i]? =(f l[j])[i]?
 | [],j,hj=>absurd hj (Nat.not_lt_zero j)
 | a::l,0,hj=>by
   simp only[List.flatMap_cons,Nat.zero_mul,Nat.zero_add,tI];rw[rO (by rw[hf];exact hi)]
 | a::l,j+1,hj=>by
   have ih:=aLj hf hi l j (by simpa using hj);simp only[List.flatMap_cons,tJ];rw[rP (by rw[hf];have:n≤(j+1)*n:=Nat.le_mul_of_pos_left n (Nat.succ_pos j);omega),hf,show (j+1)*n+i - n=j*n+i by rw[Nat.succ_mul];omega,ih]
theorem aRb {α V:Type} {f: α→List V} {n:Nat} (hf:∀a,(f a).length=n) (l:List α):(l.flatMap f).length=l.length*n:=by
 induction l with
 | nil=>simp
 | cons a l ih=>simp only[List.flatMap_cons,rH,hf,ih,List.length_cons,Nat.succ_mul];omega
theorem aZo {V:Type} {a b c d u:V} {l:List V} {k:Nat} (hk:k<l.length):([a,b]++l++[c,d]).set (2+k) u=[a,b]++l.set k u++[c,d]:=by
 rw[List.append_assoc,List.append_assoc,List.set_append_right _ _ (by simp),show 2+k - [a,b].length=k by simp,List.set_append_left _ _ hk]
theorem bEf {V:Type} {a b c d:V} {l:List V} {k:Nat} (hk:k<l.length):([a,b]++l++[c,d])[2+k]? =l[k]?:=by
 rw[List.append_assoc,rP (by simp),show 2+k - [a,b].length=k by simp,rO hk]
structure OpD where
 kind:Int
 h:Int
 lba:Int
 len:Int
 A:Option Addr
 n:Nat
 c:Nat
 ps:List Vd
def OpD.cells (o:OpD):List Value:=[.int .i64 o.kind,.int .i64 o.h,.int .i64 o.lba,.int .i64 o.len,.slice o.A o.n o.c]
theorem aEb (o:OpD):o.cells.length=5:=rfl
def Uj (e:Nat):Value:=.pointer (some ⟨e,0,none⟩)
def Vr (i:Nat) (b:BG):List Value:=[.int .i64 ((i:Int)+1),.int .i64 (b.fr:Int),.int .i64 (b.til:Int),.int .i64 0,.int .i64 0,.int .i64 0,.int .i64 0,.int .i64 0,.slice none 0 0,.slice none 0 0]
structure CLD where
 ov:Value
 bv:Value
 av:Value
 asked:Bool
 ops:List OpD
 bgs:List Nat
 na:Nat
def CLD.cells (c:CLD):List Value:=[c.ov,c.bv,c.av,.bool c.asked]
theorem aJx (c:CLD):c.cells.length=4:=rfl
structure ClX (w:World) (F:Xt) (c:CLD) (m:MS) (es:List Nat):Prop where
 ops:Kb w 60 5 c.ov c.ops.length (c.ops.flatMap OpD.cells)
 puts:∀o∈c.ops,Uh w o.A o.n o.c o.ps
 beg:w.ownsRow 0 89 1 c.bv c.bgs.length (c.bgs.map fun k=>Uj (es.getD k 0))
 ans:∃xs,w.ownsRow 0 63 5 c.av c.na xs
 bin:∀k∈c.bgs,k<es.length
 ask:c.asked=true→∃o l,c.ops=o::l∧o.kind=4∧∃i k t,o.h=(i:Nat)∧c.bgs[i]? =some k∧m.txs[k]? =some t∧t.st≠1
 len:c.ops.length≤200
 fo:∀g,c.ov.ownBlock=some g→F g
 fb:∀g,c.bv.ownBlock=some g→F g
 fa:∀g,c.av.ownBlock=some g→F g
 fp:∀o∈c.ops,∀ad,o.A=some ad→F ad.block
 py:∀o∈c.ops,∀ad,o.A=some ad→∃cs fr,w.heap[ad.block]? =some (.cells cs 50 fr)
def Vm (dp:Value) (st:Nat) (cls:List CLD) (alv:Value) (ev:Nat):List Value:=[dp,.pointer (some ⟨st,0,none⟩)]++cls.flatMap CLD.cells++[alv,.int .i64 (ev:Int)]
structure Vo (w:World) (F:Xt) (Ft:Nat→Xt) (sb st:Nat) (dp alv:Value) (cls:List CLD) (al es:List Nat) (bg:List BG) (m:MS) (ev pos g:Nat):Prop where
 fam:Fam w F Ft
 bx:Bk w sb 85 (Vm dp st cls alv ev)
 sto:Sto w (Ft 1) st dp pos m g
 all:w.ownsRow 0 89 1 alv al.length (al.map Uj)
 beg:∀(i e:Nat) (b:BG),es[i]? =some e→bg[i]? =some b→Bk w e 91 (Vr i b)
 nd:∀(i j x:Nat),es[i]? =some x→es[j]? =some x→i=j
 cl8:cls.length=8
 cl:∀(j:Nat) (c:CLD),cls[j]? =some c→ClX w (Ft (3+j)) c m es
 len:es.length=bg.length
 f0:Ft 0 sb
 f1:∀b,alv.ownBlock=some b→Ft 0 b
 f2:∀e∈es,Ft 2 e
section
variable {w w':World} {F:Xt} {Ft:Nat→Xt} {sb st:Nat} {dp alv:Value} {cls:List CLD} {al es:List Nat} {bg:List BG} {m m':MS} {ev pos g:Nat}
theorem ClX.ag {c:CLD} (h:ClX w F c m es) (k:Ag F w w'):ClX w' F c m es:=by
 obtain⟨xs,ha⟩:=h.ans
 exact⟨h.ops.ag k h.fo,fun o ho=>(h.puts o ho).ag k (h.fp o ho),Vj h.beg k h.fb,⟨xs,Vj ha k h.fa⟩,h.bin,h.ask,h.len,h.fo,h.fb,h.fa,h.fp,fun o ho ad e=>by
  obtain⟨cs,fr,q⟩:=h.py o ho ad e;exact⟨cs,fr,k.keep _ _ q (.inl (h.fp o ho ad e))⟩⟩
theorem ClX.man {c:CLD} (h:ClX w F c m es) (he:Ext m m'):ClX w F c m' es :=
 ⟨h.ops,h.puts,h.beg,h.ans,h.bin,fun q=>by
  obtain⟨o,l,e1,e2,i,k,t,e3,e4,e5,e6⟩:=h.ask q;obtain⟨t',e7,_,_,e8⟩:=he.tx k t e5;exact⟨o,l,e1,e2,i,k,t',e3,e4,e7,e8 e6⟩,h.len,h.fo,h.fb,h.fa,h.fp,h.py⟩
theorem ClX.more {c:CLD} (h:ClX w F c m es) (e:Nat):ClX w F c m (es++[e]) :=
 ⟨h.ops,h.puts,by
  have:(c.bgs.map fun k=>Uj ((es++[e]).getD k 0))=c.bgs.map fun k=>Uj (es.getD k 0):=by
   apply List.map_congr_left;intro k hk;rw[List.getD_eq_getElem?_getD,List.getD_eq_getElem?_getD,rO (h.bin k hk)]
  rw[this];exact h.beg,h.ans,fun k hk=>by rw[rH];exact Nat.lt_add_right _ (h.bin k hk),h.ask,h.len,h.fo,h.fb,h.fa,h.fp,h.py⟩
theorem Vo.ag (h:Vo w F Ft sb st dp alv cls al es bg m ev pos g) (k:Ag F w w'):Vo w' F Ft sb st dp alv cls al es bg m ev pos g:=by
 have a:∀i,Ag (Ft i) w w':=fun i=>k.mono (h.fam.sub i)
 exact⟨h.fam.next k.size,Bk.ag h.bx (a 0) h.f0,h.sto.ag (a 1),Vj h.all (a 0) h.f1,fun i e b q r=>Bk.ag (h.beg i e b q r) (a 2) (h.f2 e (tZ q)),h.nd,h.cl8,fun j c q=>(h.cl j c q).ag (a _),h.len,h.f0,h.f1,h.f2⟩
theorem Vo.next (h:Vo w F Ft sb st dp alv cls al es bg m ev pos g) (k:nD w w'):Vo w' F Ft sb st dp alv cls al es bg m ev pos g:=h.ag (.of_below k)
theorem Vo.inF (h:Vo w F Ft sb st dp alv cls al es bg m ev pos g):F sb:=h.fam.sub 0 _ h.f0
theorem aCg (cls:List CLD) (h:cls.length=8):(cls.flatMap CLD.cells).length=32:=by rw[aRb aJx,h]
theorem aCq (h8:cls.length=8) {j i:Nat} {c:CLD} {u:Value} (hj:cls[j]? =some c) (hi:i<4) (hu:c.cells[i]? =some u):(Vm dp st cls alv ev)[2+(j*4+i)]? =some u:=by
 have hl:=Vi hj;unfold Vm
 rw[bEf (by rw[aCg cls h8];omega),aLj aJx hi cls j hl];rw[tX hl] at hj;injection hj with hj;rw[hj];exact hu
theorem aDo (h8:cls.length=8) {j i:Nat} {c c':CLD} {u:Value} (hj:cls[j]? =some c) (hi:i<4) (hu:c'.cells=c.cells.set i u):(Vm dp st cls alv ev).set (2+(j*4+i)) u=Vm dp st (cls.set j c') alv ev:=by
 have hl:=Vi hj;unfold Vm
 rw[aZo (by rw[aCg cls h8];omega),aFt aJx hi cls j hl];rw[tX hl] at hj;injection hj with hj;rw[hj];exact hu
theorem aWl (h8:cls.length=8):(Vm dp st cls alv ev)[34]? =some alv:=by
 unfold Vm
 rw[rP (by simp[aCg cls h8]),rH,aCg cls h8];rfl
theorem bHa (h8:cls.length=8):(Vm dp st cls alv ev)[35]? =some (.int .i64 (ev:Int)):=by
 unfold Vm
 rw[rP (by simp[aCg cls h8]),rH,aCg cls h8];rfl
theorem aWm (h8:cls.length=8) (ev':Nat):(Vm dp st cls alv ev).set 35 (.int .i64 (ev':Int))=Vm dp st cls alv ev':=by
 unfold Vm
 rw[List.set_append_right _ _ (by simp[aCg cls h8]),rH,aCg cls h8];rfl
theorem aSl (h8:cls.length=8) (u:Value):(Vm dp st cls alv ev).set 34 u=Vm dp st cls u ev:=by
 unfold Vm
 rw[List.set_append_right _ _ (by simp[aCg cls h8]),rH,aCg cls h8];rfl
theorem Bk.at' {g t i:Nat} {cs:List Value} {u:Value} (h:Bk w g t cs) (hu:cs[i]? =some u):w.cell? ⟨g,i,none⟩=some u:=by
 obtain⟨hi,e⟩:=rB.1 hu;rw[←e];exact h.cell hi
theorem Vo.all_ne (h:Vo w F Ft sb st dp alv cls al es bg m ev pos g):alv.ownBlock≠some sb:=Vc h.all h.bx (by decide)
theorem Vo.block (h:Vo w F Ft sb st dp alv cls al es bg m ev pos g) (k:Kf (fun b=>b=sb) w w') {cls':List CLD} {ev':Nat} (hb:Bk w' sb 85 (Vm dp st cls' alv ev')) (h8:cls'.length=8) (hc:∀(j:Nat) (c:CLD),cls'[j]? =some c→ClX w (Ft (3+j)) c m es) :
  Vo w' F Ft sb st dp alv cls' al es bg m ev' pos g∧Kf F w w':=by
 have k0:Kf (Ft 0) w w':=k.mono (fun b q=>by have q:b=sb:=q;rw[q];exact h.f0);have a:∀i,i≠0→Ag (Ft i) w w':=fun i hn=>h.fam.ag k0 hn
 exact⟨⟨h.fam.next k.size,hb,h.sto.ag (a 1 (by decide)),Vj (F:=fun b=>b≠sb) h.all (k.ag (fun b q r=>q r)) (fun g q r=>h.all_ne (r▸q)),fun i e b q r=>Bk.ag (h.beg i e b q r) (a 2 (by decide)) (h.f2 e (tZ q)),h.nd,h8,fun j c q=>(hc j c q).ag (a _ (by omega)),h.len,h.f0,h.f1,h.f2⟩,h.fam.kf k0⟩
theorem Vo.stod (h:Vo w F Ft sb st dp alv cls al es bg m ev pos g) {pos':Nat} (hr:Kc w w' (Ft 1) st dp pos' m' (g+1)) (he:Ext m m') :
  ∃F' Ft',Vo w' F' Ft' sb st dp alv cls al es bg m' ev pos' (g+1)∧Kf F w w'∧Sb w F F'∧In w' F'∧∀j,j≠1→Ft' j=Ft j:=by
 obtain⟨G,hs,k,hG,hi⟩:=hr;have hf:=h.fam.step k.size hG hi;have a:∀j,j≠1→Ag (Ft j) w w':=fun j hn=>h.fam.ag k hn
 have pe:∀j,j≠1→Uu Ft 1 G j=Ft j:=fun j hn=>aAb Ft G hn
 exact⟨orF F G,Uu Ft 1 G,⟨hf,Bk.ag h.bx (a 0 (by decide)) h.f0,by rw[Ua];exact hs,Vj h.all (a 0 (by decide)) h.f1,fun i e b q r=>Bk.ag (h.beg i e b q r) (a 2 (by decide)) (h.f2 e (tZ q)),h.nd,h.cl8,fun j c q=>by rw[pe _ (by omega)];exact((h.cl j c q).ag (a _ (by omega))).man he,h.len,by rw[pe 0 (by decide)];exact h.f0,fun b q=>by rw[pe 0 (by decide)];exact h.f1 b q,fun e q=>by rw[pe 2 (by decide)];exact h.f2 e q⟩,h.fam.kf k,h.fam.sb hG,hf.lt,pe⟩
theorem Vo.told (h:Vo w F Ft sb st dp alv cls al es bg m ev pos g) {i e:Nat} {b:BG} (he:es[i]? =some e) (hb:bg[i]? =some b) {tn:Nat} (ew:w'=w.setCell ⟨e,2,none⟩ (.int .i64 (tn:Int))) :
  Vo w' F Ft sb st dp alv cls al es (bg.set i ⟨b.fr,tn⟩) m ev pos g∧Kf F w w':=by
 have hbk:=h.beg i e b he hb;have hb':Bk w' e 91 (Vr i ⟨b.fr,tn⟩):=by rw[ew];exact hbk.set 2 (.int .i64 (tn:Int))
 have k:Kf (fun b=>b=e) w w':=by rw[ew];exact(Kf.refl (fun b=>b=e) w).set hbk (by decide) (.inl rfl) 2 _
 have k2:Kf (Ft 2) w w':=k.mono (fun b q=>by have q:b=e:=q;rw[q];exact h.f2 e (tZ he));have a:∀j,j≠2→Ag (Ft j) w w':=fun j hn=>h.fam.ag k2 hn
 refine⟨⟨h.fam.next k.size,Bk.ag h.bx (a 0 (by decide)) h.f0,h.sto.ag (a 1 (by decide)),Vj h.all (a 0 (by decide)) h.f1,fun j x c q r=>?_,h.nd,h.cl8,fun j c q=>(h.cl j c q).ag (a _ (by omega)),by rw[rK];exact h.len,h.f0,h.f1,h.f2⟩,h.fam.kf k2⟩;rcases Ub r with ⟨rfl,rfl⟩|⟨hn,r⟩
 · rw[he] at q;injection q with q;subst q;exact hb'
 · refine Bk.ag (F:=fun b=>b≠e) (h.beg j x c q r) (k.ag (fun b q r=>q r)) (fun ex=>hn (h.nd j i x q (by rw[ex];exact he)))
theorem Vo.cld (h:Vo w F Ft sb st dp alv cls al es bg m ev pos g) {j:Nat} {c c':CLD} {G:Xt} {w5:World} (hj:cls[j]? =some c) (k:Kf (Ft (3+j)) w w5) (hG:Sb w (Ft (3+j)) G) (hi:In w5 G) (hx:ClX w5 G c' m es) (k6:Kf (fun b=>b=sb) w5 w') (hb:Bk w' sb 85 (Vm dp st (cls.set j c') alv ev)) :
  ∃F' Ft',Vo w' F' Ft' sb st dp alv (cls.set j c') al es bg m ev pos g∧Kf F w w'∧Sb w F F'∧In w' F':=by
 have hf5:=h.fam.step k.size hG hi;have pe:∀i,i≠3+j→Uu Ft (3+j) G i=Ft i:=fun i hn=>aAb Ft G hn
 have k6':Kf (Uu Ft (3+j) G 0) w5 w':=k6.mono (fun b q=>by have q:b=sb:=q;rw[q,pe 0 (by omega)];exact h.f0);have a:∀i,i≠3+j→Ag (Ft i) w w5:=fun i hn=>h.fam.ag k hn
 have a6:∀i,i≠0→Ag (Uu Ft (3+j) G i) w5 w':=fun i hn=>hf5.ag k6' hn
 have z:∀i,i≠0→i≠3+j→Ag (Ft i) w5 w':=fun i h0 h1=>by have:=a6 i h0;rw[pe i h1] at this;exact this
 have kk:Kf F w w':=(h.fam.kf k).trans (G:=F) (k6.mono (fun b q=>by have q:b=sb:=q;rw[q];exact h.inF)) (fun b q=>.inl q);have hf:=hf5.next k6.size;refine⟨orF F G,Uu Ft (3+j) G,⟨hf,hb,by rw[pe 1 (by omega)];exact(h.sto.ag (a 1 (by omega))).ag (z 1 (by decide) (by omega)),Vj (F:=fun b=>b≠sb) (Vj h.all (a 0 (by omega)) h.f1) (k6.ag (fun b q r=>q r)) (fun g q r=>h.all_ne (r▸q)),fun i e b q r=>Bk.ag (Bk.ag (h.beg i e b q r) (a 2 (by omega)) (h.f2 e (tZ q))) (z 2 (by decide) (by omega)) (h.f2 e (tZ q)),h.nd,by rw[rK];exact h.cl8,fun i x q=>?_,h.len,by rw[pe 0 (by omega)];exact h.f0,fun b q=>by rw[pe 0 (by omega)];exact h.f1 b q,fun e q=>by rw[pe 2 (by omega)];exact h.f2 e q⟩,kk,h.fam.sb hG,hf.lt⟩;rcases Ub q with ⟨rfl,rfl⟩|⟨hn,q⟩
 · rw[Ua];have:=a6 (3+i) (by omega);rw[Ua] at this;exact hx.ag this
 · rw[pe _ (by omega)];exact((h.cl i x q).ag (a _ (by omega))).ag (z _ (by omega) (by omega))
theorem Vo.newb (h:Vo w F Ft sb st dp alv cls al es bg m ev pos g) (k:nD w w') {e:Nat} {b:BG} (hb:Bk w' e 91 (Vr es.length b)) (he:w.heap.size≤e) :
  ∃F' Ft',Vo w' F' Ft' sb st dp alv cls al (es++[e]) (bg++[b]) m ev pos g∧Sb w F F'∧In w' F'∧∀j,j≠2→Ft' j=Ft j:=by
 have hG:Sb w (Ft 2) (orF (Ft 2) (fun b=>b=e)):=fun b q=>q.elim .inl (fun r=>.inr (by have r:b=e:=r;omega))
 have hi:In w' (orF (Ft 2) (fun b=>b=e)):=fun b q=>q.elim (fun r=>tL (h.fam.inn 2 b r) k.size) (fun r=>by have r:b=e:=r;rw[r];exact hb.lt)
 have hf:=h.fam.step k.size hG hi;have pe:∀j,j≠2→Uu Ft 2 (orF (Ft 2) (fun b=>b=e)) j=Ft j:=fun j hn=>aAb Ft _ hn
 have h':=h.next k;refine⟨_,_,⟨hf,h'.bx,by rw[pe 1 (by decide)];exact h'.sto,h'.all,fun i x c q r=>?_,fun i j x q r=>?_,h.cl8,fun j c q=>by rw[pe _ (by omega)];exact(h'.cl j c q).more e,by rw[rH,rH,h.len];rfl,by rw[pe 0 (by decide)];exact h.f0,fun b q=>by rw[pe 0 (by decide)];exact h.f1 b q,fun x q=>?_⟩,h.fam.sb hG,hf.lt,pe⟩
 · rcases Uk q with q1|⟨q1,rfl⟩
   · rcases Uk r with r1|⟨r1,_⟩
     · exact h'.beg i x c q1 r1
     · have:=Vi q1;have:=h.len;omega
   · rcases Uk r with r1|⟨_,rfl⟩
     · have:=Vi r1;have:=h.len;omega
     · rw[q1];exact hb
 · have old:∀{i:Nat} {x:Nat},es[i]? =some x→x<w.heap.size:=fun q=>h.fam.inn 2 _ (h.f2 _ (tZ q))
   rcases Uk q with q|⟨q,q2⟩
   · rcases Uk r with r|⟨_,r2⟩
     · exact h.nd i j x q r
     · have:=old q;omega
   · rcases Uk r with r|⟨r,_⟩
     · have:=old r;omega
     · omega
 · rw[Ua];rcases rE.1 q with q|q
   · exact .inl (h.f2 x q)
   · exact .inr (by simpa using q)
theorem Vo.alls (h:Vo w F Ft sb st dp alv cls al es bg m ev pos g) {w5:World} {alv':Value} {al':List Nat} (ho:w5.ownsRow 0 89 1 alv' al'.length (al'.map Uj)) (hg:w.grownBy w5 alv.ownBlock) (hv:alv'.ownBlock=alv.ownBlock∨alv'.ownBlock=some w.heap.size) (e:w'=w5.setCell ⟨sb,34,none⟩ alv') :
  ∃F' Ft',Vo w' F' Ft' sb st dp alv' cls al' es bg m ev pos g∧Kf F w w'∧Sb w F F'∧In w' F':=by
 have k5:Kf (fun b=>alv.ownBlock=some b) w w5:=(Kf.refl _ w).grown h.all hg (fun g q=>.inl ⟨q,by decide⟩);have b5:Bk w5 sb 85 (Vm dp st cls alv ev):=Bk.ag (F:=fun b=>b=sb) h.bx (k5.ag (fun b q s=>by have q:b=sb:=q;subst q;exact h.all_ne s)) rfl;have k6:Kf (fun b=>b=sb) w5 w':=by rw[e];exact(Kf.refl (fun b=>b=sb) w5).set b5 (by decide) (.inl rfl) 34 alv'
 have b':Bk w' sb 85 (Vm dp st cls alv' ev):=by rw[e];have:=b5.set 34 alv';rw[aSl h.cl8] at this;exact this
 have k0:Kf (Ft 0) w w':=(k5.mono h.f1).trans (G:=Ft 0) (k6.mono (fun b q=>by have q:b=sb:=q;rw[q];exact h.f0)) (fun b q=>.inl q);have a:∀i,i≠0→Ag (Ft i) w w':=fun i hn=>h.fam.ag k0 hn
 have hG:Sb w (Ft 0) (orF (Ft 0) (fun b=>alv'.ownBlock=some b)):=Sb.or (fun b q=>by
  rcases hv with s|s
  · exact .inl (h.f1 b (s.symm.trans q))
  · rw[s] at q;injection q with q;exact .inr (by omega))
 have hi:In w' (orF (Ft 0) (fun b=>alv'.ownBlock=some b)):=fun b q=>by
  rcases q with q|q
  · exact tL (h.fam.inn 0 b q) k0.size
  · obtain⟨_,_,hh⟩:=Vx ho q;exact tL (Vz hh) k6.size
 have hf:=h.fam.step k0.size hG hi;have pe:∀j,j≠0→Uu Ft 0 (orF (Ft 0) (fun b=>alv'.ownBlock=some b)) j=Ft j:=fun j hn=>aAb Ft _ hn
 exact⟨_,_,⟨hf,b',by rw[pe 1 (by decide)];exact h.sto.ag (a 1 (by decide)),Vj (F:=fun b=>b≠sb) ho (k6.ag (fun b q r=>q r)) (fun g q r=>Vc ho b5 (by decide) (r▸q)),fun i e b q r=>Bk.ag (h.beg i e b q r) (a 2 (by decide)) (h.f2 e (tZ q)),h.nd,h.cl8,fun j c q=>by rw[pe _ (by omega)];exact(h.cl j c q).ag (a _ (by omega)),h.len,by rw[Ua];exact .inl h.f0,fun b q=>by rw[Ua];exact .inr q,fun e q=>by rw[pe 2 (by decide)];exact h.f2 e q⟩,h.fam.kf k0,h.fam.sb hG,hf.lt⟩
end
section
variable {w w' w5:World} {F:Xt} {Ft:Nat→Xt} {sb st:Nat} {dp alv:Value} {cls:List CLD} {al es:List Nat} {bg:List BG} {m:MS} {ev pos g j:Nat} {c:CLD}
theorem aAp {b:Nat} {c1 c2:Array Value} {t1 t2:TypeId} {f1 f2:Nat×Nat} (h1:w.heap[b]? =some (.cells c1 t1 f1)) (h2:w.heap[b]? =some (.cells c2 t2 f2)):t1=t2:=by
 rw[h1] at h2;injection h2 with h2;injection h2
theorem ClX.grownB (h:ClX w F c m es) (hg:w.grownBy w5 c.bv.ownBlock) {bv':Value} {k:Nat} (hk:k<es.length) (ho:w5.ownsRow 0 89 1 bv' (c.bgs.length+1) ((c.bgs.map fun k=>Uj (es.getD k 0))++[Uj (es.getD k 0)])) :
  ClX w5 (orF F (fun b=>bv'.ownBlock=some b)) {c with bv:=bv',bgs:=c.bgs++[k]} m es:=by
 obtain⟨xs,ha⟩:=h.ans;have ag:Ag (fun b=>c.bv.ownBlock≠some b) w w5:=Ag.grown h.beg (by decide) hg (fun g q r=>r q)
 have npy:∀o∈c.ops,∀ad,o.A=some ad→c.bv.ownBlock≠some ad.block:=fun o hm ad q r=>by
  obtain⟨_,_,h1⟩:=h.py o hm ad q;obtain⟨_,_,h2⟩:=Vx h.beg r;exact absurd (aAp h1 h2) (by decide)
 refine⟨h.ops.ag ag (fun g q r=>?_),fun o hm=>(h.puts o hm).ag ag (npy o hm),?_,⟨xs,Vj ha ag (fun g q=>aBl ha h.beg (by decide) q)⟩,fun x hx=>?_,fun q=>?_,h.len,fun g q=>.inl (h.fo g q),fun g q=>.inr q,fun g q=>.inl (h.fa g q),fun o hm ad q=>.inl (h.fp o hm ad q),fun o hm ad q=>?_⟩
 · obtain⟨_,_,h1⟩:=h.ops.at_ q;obtain⟨_,_,h2⟩:=Vx h.beg r;exact absurd (aAp h1 h2) (by decide)
 · rw[rH,rI];exact ho
 · rcases rE.1 hx with q|q
   · exact h.bin x q
   · obtain rfl:x=k:=by simpa using q
     exact hk
 · obtain⟨o,l,e1,e2,i,k',t,e3,e4,e5,e6⟩:=h.ask q;exact⟨o,l,e1,e2,i,k',t,e3,by show (c.bgs++[k])[i]? =_;rw[rO (Vi e4)];exact e4,e5,e6⟩
 · obtain⟨cs,fr,h1⟩:=h.py o hm ad q;exact⟨cs,fr,ag.keep _ _ h1 (.inl (npy o hm ad q))⟩
theorem ClX.grownA (h:ClX w F c m es) {xs:List Value} (ha:w.ownsRow 0 63 5 c.av c.na xs) (hg:w.grownBy w5 c.av.ownBlock) {av':Value} {ys:List Value} (ho:w5.ownsRow 0 63 5 av' (c.na+1) ys) :
  ClX w5 (orF F (fun b=>av'.ownBlock=some b)) {c with av:=av',na:=c.na+1} m es:=by
 have ag:Ag (fun b=>c.av.ownBlock≠some b) w w5:=Ag.grown ha (by decide) hg (fun g q r=>r q)
 have npy:∀o∈c.ops,∀ad,o.A=some ad→c.av.ownBlock≠some ad.block:=fun o hm ad q r=>by
  obtain⟨_,_,h1⟩:=h.py o hm ad q;obtain⟨_,_,h2⟩:=Vx ha r;exact absurd (aAp h1 h2) (by decide)
 refine⟨h.ops.ag ag (fun g q r=>?_),fun o hm=>(h.puts o hm).ag ag (npy o hm),Vj h.beg ag (fun g q=>aBl h.beg ha (by decide) q),⟨ys,ho⟩,h.bin,h.ask,h.len,fun g q=>.inl (h.fo g q),fun g q=>.inl (h.fb g q),fun g q=>.inr q,fun o hm ad q=>.inl (h.fp o hm ad q),fun o hm ad q=>?_⟩
 · obtain⟨_,_,h1⟩:=h.ops.at_ q;obtain⟨_,_,h2⟩:=Vx ha r;exact absurd (aAp h1 h2) (by decide)
 · obtain⟨cs,fr,h1⟩:=h.py o hm ad q;exact⟨cs,fr,ag.keep _ _ h1 (.inl (npy o hm ad q))⟩
theorem ClX.grownO (h:ClX w F c m es) {o:OpD} (hg:w.grownBy w5 c.ov.ownBlock) {ov':Value} (hp:Uh w o.A o.n o.c o.ps) (hpy:∀ad,o.A=some ad→∃cs fr,w.heap[ad.block]? =some (.cells cs 50 fr)) (ho:Kb w5 60 5 ov' (c.ops.length+1) (c.ops.flatMap OpD.cells++o.cells)) (hl:c.ops.length+1≤200) :
  ClX w5 (orF F (fun b=>ov'.ownBlock=some b∨∃ad,o.A=some ad∧b=ad.block)) {c with ov:=ov',ops:=c.ops++[o]} m es:=by
 obtain⟨xs,ha⟩:=h.ans
 have ag:Ag (fun b=>c.ov.ownBlock≠some b) w w5:=by
  refine⟨hg.size,fun b ob hb q=>?_⟩;by_cases e:c.ov.ownBlock=some b
  · rcases q with q|q
    · exact absurd e q
    · obtain⟨_,_,h1⟩:=h.ops.at_ e;obtain⟨cs,fr,rfl⟩:=q;exact absurd (aAp h1 hb) (by decide)
  · rw[hg.block b (Vz hb) (fun r=>e r.symm)];exact hb
 have nty:∀{b:Nat} {cs:Array Value} {t:TypeId} {fr:Nat×Nat},w.heap[b]? =some (.cells cs t fr)→t≠60→c.ov.ownBlock≠some b:=fun h1 hn r=>by
  obtain⟨_,_,h2⟩:=h.ops.at_ r;exact hn (aAp h1 h2)
 have npy:∀x∈c.ops,∀ad,x.A=some ad→c.ov.ownBlock≠some ad.block:=fun x hm ad q=>by
  obtain⟨_,_,h1⟩:=h.py x hm ad q;exact nty h1 (by decide)
 have nnew:∀ad,o.A=some ad→c.ov.ownBlock≠some ad.block:=fun ad q=>by
  obtain⟨_,_,h1⟩:=hpy ad q;exact nty h1 (by decide)
 refine⟨?_,fun x hm=>?_,Vj h.beg ag (fun g q=>?_),⟨xs,Vj ha ag (fun g q=>?_)⟩,h.bin,fun q=>?_,by show (c.ops++[o]).length≤200;rw[rH];exact hl,fun g q=>.inr (.inl q),fun g q=>.inl (h.fb g q),fun g q=>.inl (h.fa g q),fun x hm ad q=>?_,fun x hm ad q=>?_⟩
 · show Kb w5 _ 5 ov' (c.ops++[o]).length _
   rw[rH,rX];simpa using ho
 · rcases rE.1 hm with s|s
   · exact(h.puts x s).ag ag (npy x s)
   · obtain rfl:x=o:=by simpa using s
     exact hp.ag ag nnew
 · obtain⟨_,_,h1⟩:=Vx h.beg q;exact nty h1 (by decide)
 · obtain⟨_,_,h1⟩:=Vx ha q;exact nty h1 (by decide)
 · obtain⟨o',l,e1,e2,r⟩:=h.ask q;exact⟨o',l++[o],by show c.ops++[o]=_;rw[e1];rfl,e2,r⟩
 · rcases rE.1 hm with s|s
   · exact .inl (h.fp x s ad q)
   · obtain rfl:x=o:=by simpa using s
     exact .inr (.inr ⟨ad,q,rfl⟩)
 · rcases rE.1 hm with s|s
   · obtain⟨cs,fr,h1⟩:=h.py x s ad q;exact⟨cs,fr,ag.keep _ _ h1 (.inl (npy x s ad q))⟩
   · obtain rfl:x=o:=by simpa using s
     obtain⟨cs,fr,h1⟩:=hpy ad q;exact⟨cs,fr,ag.keep _ _ h1 (.inl (nnew ad q))⟩
theorem ClX.tail (h:ClX w F c m es) {o:OpD} {l:List OpD} (ho:c.ops=o::l) {gq off cap:Nat} (hov:c.ov=.slice (some ⟨gq,off,none⟩) (l.length+1) cap) {ov':Value} (hov':ov'=.slice (some ⟨gq,if cap=1 then off else off+5,none⟩) l.length (cap - 1)) :
  ClX w F {c with ov:=ov',ops:=l,asked:=false} m es:=by
 have hops:=h.ops;rw[ho,hov] at hops
 have ht:Kb w 60 5 ov' l.length (l.flatMap OpD.cells):=by
  rw[hov'];by_cases e:cap=1
  · rw[if_pos e]
    obtain rfl:l=[]:=by
     obtain⟨A,c',e1,e2,_⟩:=hops.shape;injection e1 with _ _ e1;have:l.length+1≤cap:=by rw[e1];simpa using e2
     exact List.eq_nil_of_length_eq_zero (by omega)
    subst e;exact hops.empty (A:=none) (c:=0) gq off 1
  · rw[if_neg e];have:=hops.tail;rwa [show (o::l).flatMap OpD.cells=o.cells++l.flatMap OpD.cells from rfl,List.drop_left' (aEb o)] at this
 have mem:∀x∈l,x∈c.ops:=fun x hx=>by rw[ho];exact List.mem_cons_of_mem _ hx
 refine⟨ht,fun x hx=>h.puts x (mem x hx),h.beg,h.ans,h.bin,(fun q=>by cases q),?_,fun g q=>?_,h.fb,h.fa,fun x hx=>h.fp x (mem x hx),fun x hx=>h.py x (mem x hx)⟩
 · have:=h.len;rw[ho] at this;exact Nat.le_of_succ_le this
 · have q:ov'.ownBlock=some g:=q;rw[hov'] at q;refine h.fo g ?_;rw[hov];exact q
theorem ClX.asks (h:ClX w F c m es) {o:OpD} {l:List OpD} (ho:c.ops=o::l) (hk:o.kind=4) {i k:Nat} {t:TX} (e1:o.h=(i:Nat)) (e2:c.bgs[i]? =some k) (e3:m.txs[k]? =some t) (e4:t.st≠1):ClX w F {c with asked:=true} m es :=
 ⟨h.ops,h.puts,h.beg,h.ans,h.bin,fun _=>⟨o,l,ho,hk,i,k,t,e1,e2,e3,e4⟩,h.len,h.fo,h.fb,h.fa,h.fp,h.py⟩
theorem aQa {v v':Value} {w:World} {B e s n:Nat} {xs:List Value} (ho:w5.ownsRow B e s v' n xs) {Fj:Xt} {g0:Nat} (hF:∀b,v.ownBlock=some b→Fj b) (hv:v'.ownBlock=v.ownBlock∨v'.ownBlock=some g0) (hg:w.heap.size≤g0) (hin:∀b,Fj b→b<w5.heap.size):Sb w Fj (orF Fj (fun b=>v'.ownBlock=some b))∧In w5 (orF Fj (fun b=>v'.ownBlock=some b)) :=
 ⟨Sb.or (fun b q=>by
  rcases hv with s|s
  · exact .inl (hF b (s.symm.trans q))
  · rw[s] at q;injection q with q;exact .inr (by omega)),fun b q=>by
  rcases q with q|q
  · exact hin b q
  · obtain⟨_,_,hh⟩:=Vx ho q;exact Vz hh⟩
theorem Vo.begc (h:Vo w F Ft sb st dp alv cls al es bg m ev pos g) (hj:cls[j]? =some c) {bv':Value} {k:Nat} (hk:k<es.length) (ho:w5.ownsRow 0 89 1 bv' (c.bgs.length+1) ((c.bgs.map fun k=>Uj (es.getD k 0))++[Uj (es.getD k 0)])) (hg:w.grownBy w5 c.bv.ownBlock) (hv:bv'.ownBlock=c.bv.ownBlock∨bv'.ownBlock=some w.heap.size) (e:w'=w5.setCell ⟨sb,2+(j*4+1),none⟩ bv') :
  ∃F' Ft',Vo w' F' Ft' sb st dp alv (cls.set j {c with bv:=bv',bgs:=c.bgs++[k]}) al es bg m ev pos g∧Kf F w w'∧Sb w F F'∧In w' F':=by
 have hc:=h.cl j c hj;have k5:Kf (Ft (3+j)) w w5:=((Kf.refl (fun b=>c.bv.ownBlock=some b) w).grown hc.beg hg (fun g q=>.inl ⟨q,by decide⟩)).mono hc.fb;have b5:Bk w5 sb 85 (Vm dp st cls alv ev):=Bk.ag h.bx (h.fam.ag k5 (by omega:0≠3+j)) h.f0;obtain⟨s1,s2⟩:=aQa (w:=w) ho hc.fb hv lR (fun b q=>tL (h.fam.inn _ b q) k5.size);refine h.cld hj k5 s1 s2 (hc.grownB hg hk ho) (by rw[e];exact(Kf.refl (fun b=>b=sb) w5).set b5 (by decide) (.inl rfl) _ _) ?_;rw[e];have:=b5.set (2+(j*4+1)) bv';rwa [aDo (c':={c with bv:=bv',bgs:=c.bgs++[k]}) h.cl8 hj (by decide) rfl] at this
theorem Vo.ansc (h:Vo w F Ft sb st dp alv cls al es bg m ev pos g) (hj:cls[j]? =some c) {av':Value} {xs ys:List Value} (ha:w.ownsRow 0 63 5 c.av c.na xs) (ho:w5.ownsRow 0 63 5 av' (c.na+1) ys) (hg:w.grownBy w5 c.av.ownBlock) (hv:av'.ownBlock=c.av.ownBlock∨av'.ownBlock=some w.heap.size) (e:w'=w5.setCell ⟨sb,2+(j*4+2),none⟩ av') :
  ∃F' Ft',Vo w' F' Ft' sb st dp alv (cls.set j {c with av:=av',na:=c.na+1}) al es bg m ev pos g∧Kf F w w'∧Sb w F F'∧In w' F':=by
 have hc:=h.cl j c hj;have k5:Kf (Ft (3+j)) w w5:=((Kf.refl (fun b=>c.av.ownBlock=some b) w).grown ha hg (fun g q=>.inl ⟨q,by decide⟩)).mono hc.fa;have b5:Bk w5 sb 85 (Vm dp st cls alv ev):=Bk.ag h.bx (h.fam.ag k5 (by omega:0≠3+j)) h.f0;obtain⟨s1,s2⟩:=aQa (w:=w) ho hc.fa hv lR (fun b q=>tL (h.fam.inn _ b q) k5.size);refine h.cld hj k5 s1 s2 (hc.grownA ha hg ho) (by rw[e];exact(Kf.refl (fun b=>b=sb) w5).set b5 (by decide) (.inl rfl) _ _) ?_;rw[e];have:=b5.set (2+(j*4+2)) av';rwa [aDo (c':={c with av:=av',na:=c.na+1}) h.cl8 hj (by decide) rfl] at this
theorem Vo.addc {w1:World} (h:Vo w F Ft sb st dp alv cls al es bg m ev pos g) (hb:nD w w1) (hj:cls[j]? =some c) {ov':Value} {o:OpD} (hp:Uh w1 o.A o.n o.c o.ps) (hpy:∀ad,o.A=some ad→w.heap.size≤ad.block∧∃cs fr,w1.heap[ad.block]? =some (.cells cs 50 fr)) (ho:Kb w5 60 5 ov' (c.ops.length+1) (c.ops.flatMap OpD.cells++o.cells)) (hg:w1.grownBy w5 c.ov.ownBlock) (hv:ov'.ownBlock=c.ov.ownBlock∨∀b,ov'.ownBlock=some b→w1.heap.size≤b) (hl:c.ops.length+1≤200) (e:w'=w5.setCell ⟨sb,2+(j*4+0),none⟩ ov') :
  ∃F' Ft',Vo w' F' Ft' sb st dp alv (cls.set j {c with ov:=ov',ops:=c.ops++[o]}) al es bg m ev pos g∧Kf F w w'∧Sb w F F'∧In w' F':=by
 have h1:=h.next hb;have hc:=h1.cl j c hj
 have k5:Kf (Ft (3+j)) w1 w5:=by
  refine⟨hg.os,hg.tape,hg.output,hg.size,fun b ob hb q=>?_⟩;by_cases e:c.ov.ownBlock=some b
  · rcases q with q|q
    · exact absurd (hc.fo b e) q
    · obtain⟨_,_,h1⟩:=hc.ops.at_ e;obtain⟨cs,fr,rfl⟩:=q;exact absurd (aAp h1 hb) (by decide)
  · rw[hg.block b (Vz hb) (fun r=>e r.symm)];exact hb
 have k05:Kf (Ft (3+j)) w w5:=(Kf.of_below (F:=Ft (3+j)) hb).trans k5 (fun b q=>.inl q);have b5:Bk w5 sb 85 (Vm dp st cls alv ev):=Bk.ag h.bx (h.fam.ag k05 (by omega:0≠3+j)) h.f0;have hx:=hc.grownO hg hp (fun ad q=>(hpy ad q).2) ho hl
 have s1:Sb w (Ft (3+j)) (orF (Ft (3+j)) (fun b=>ov'.ownBlock=some b∨∃ad,o.A=some ad∧b=ad.block)):=Sb.or (fun b q=>by
  rcases q with q|⟨ad,q,rfl⟩
  · rcases hv with s|s
    · exact .inl (hc.fo b (s.symm.trans q))
    · exact .inr (tK hb.size (s b q))
  · exact .inr (hpy ad q).1)
 have s2:In w5 (orF (Ft (3+j)) (fun b=>ov'.ownBlock=some b∨∃ad,o.A=some ad∧b=ad.block)):=fun b q=>by
  rcases q with q|q|⟨ad,q,rfl⟩
  · exact tL (h.fam.inn _ b q) k05.size
  · obtain⟨_,_,hh⟩:=ho.at_ q;exact Vz hh
  · obtain⟨_,_,hh⟩:=(hpy ad q).2;exact tL (Vz hh) k5.size
 refine h.cld hj k05 s1 s2 hx (by rw[e];exact(Kf.refl (fun b=>b=sb) w5).set b5 (by decide) (.inl rfl) _ _) ?_;rw[e];have:=b5.set (2+(j*4+0)) ov';rwa [aDo (c':={c with ov:=ov',ops:=c.ops++[o]}) h.cl8 hj (by decide) rfl] at this
end
theorem aPh {m m':MS} {i:Nat} {t:TX} {r:Int} (h:Vq m) (ht:m.txs[i]? =some t) (hc:m.given<1000) (hr:cmR m i t r m') :
  Vq m'∧Ext m m'∧m'.txs.length=m.txs.length∧m'.given≤m.given+1∧m'.num=m.num:=by
 have hk:=(h.rng i t ht).2.2;have hl:∀u:TX,(m.txs.set i u).length=m.txs.length:=fun u=>rK
 rcases hr with ⟨_,_,rfl⟩|⟨h1,⟨h2,_,rfl⟩|⟨h2,⟨_,_,rfl⟩|⟨_,rfl⟩⟩⟩
 · exact⟨h,Ext.refl _,rfl,tW _,rfl⟩
 · obtain⟨a,b⟩:=h.put (t':={t with st:=3,time:=t.at'}) ht h1 rfl hk (.inr (.inr ⟨rfl,h2,rfl⟩));exact⟨a,b,hl _,tW _,rfl⟩
 · obtain⟨a,b⟩:=h.put (t':={t with st:=4,time:=0}) ht h1 rfl hk (.inr (.inl rfl));exact⟨a,b,hl _,tW _,rfl⟩
 · obtain⟨a,b⟩:=h.pend ht h1 h2 hc;exact⟨a,b,hl _,lR,rfl⟩
theorem aQo {m m':MS} {i n:Nat} {t:TX} {ps:List Vd} {r:Int} (h:Vq m) (ht:m.txs[i]? =some t) (hr:wrR m i t n ps r m') :
  Vq m'∧Ext m m'∧m'.txs.length=m.txs.length:=by
 rcases hr with ⟨_,rfl⟩|⟨h1,ks',rfl,hk,_⟩
 · exact⟨h,Ext.refl _,rfl⟩
 · obtain⟨a,b⟩:=h.put (t':={t with keys:=ks'}) ht h1 rfl hk (.inl h1);exact⟨a,b,rK⟩
def flR (m:MS) (pos:Nat) (r:Int) (pos':Nat) (m':MS):Prop :=
 (m.queue=[]∧r=14∧m'=m∧pos'=pos)∨(m.queue≠[]∧∃n L,0<n∧n≤m.queue.length∧L≤33∧((pos+L≤192∧r=0∧pos'=pos+L∧m'={m.pops true n with num:=m.num+1})∨(192<pos+L∧r=9∧pos'=pos∧m'=m.pops false n)))
theorem aZz (m:MS) (ok:Bool):(m.pop ok).num=m.num∧(m.pop ok).given=m.given∧(m.pop ok).txs.length=m.txs.length∧(m.pop ok).read=m.read:=by
 unfold MS.pop
 split
 · exact⟨rfl,rfl,rfl,rfl⟩
 · split
   · exact⟨rfl,rfl,rfl,rfl⟩
   · exact⟨rfl,rfl,rK,rfl⟩
theorem aCo (ok:Bool):∀(n:Nat) (m:MS),(m.pops ok n).num=m.num∧(m.pops ok n).given=m.given∧(m.pops ok n).txs.length=m.txs.length∧(m.pops ok n).read=m.read
 | 0,m=>⟨rfl,rfl,rfl,rfl⟩
 | n+1,m=>by
   obtain⟨a,b,c,d⟩:=aCo ok n (m.pop ok);obtain⟨a',b',c',d'⟩:=aZz m ok;exact⟨a.trans a',b.trans b',c.trans c',d.trans d'⟩
theorem aYs {m m':MS} {pos pos':Nat} {r:Int} (h:Vq m) (hn:m.num<1000) (hr:flR m pos r pos' m') :
  Vq m'∧Ext m m'∧m'.txs.length=m.txs.length∧m'.given=m.given∧m'.num≤m.num+1:=by
 rcases hr with ⟨_,_,rfl,_⟩|⟨_,n,L,_,h2,_,⟨_,_,_,rfl⟩|⟨_,_,_,rfl⟩⟩
 · exact⟨h,Ext.refl _,rfl,rfl,tW _⟩
 · obtain⟨a,b⟩:=h.pops true n h2;obtain⟨p1,p2,p3,_⟩:=aCo true n m;obtain⟨c,d⟩:=a.num (k:=m.num+1) (by omega);exact⟨c,b.trans d,p3,p2,lR⟩
 · obtain⟨a,b⟩:=h.pops false n h2;obtain⟨p1,p2,p3,_⟩:=aCo false n m;exact⟨a,b,p3,p2,by rw[p1];exact tW _⟩
theorem aCx (ok:Bool):∀(n:Nat) (m:MS),Vq m→n≤m.queue.length→(m.pops ok n).queue=m.queue.drop n
 | 0,m,_,_=>rfl
 | n+1,m,h,hn=>by
   match hq:m.queue with
   | []=>rw[hq] at hn;simp at hn
   | i::q =>
     obtain⟨t,hi,_⟩:=h.que i (by rw[hq];exact rQ);have hl:(m.pop ok).queue=q:=by rw[aFz ok hq hi]
     have:=aCx ok n (m.pop ok) (h.pop ok hq).1 (by rw[hl];rw[hq] at hn;simpa using hn);show ((m.pop ok).pops ok n).queue=_
     rw[this,hl];rfl
theorem aJk (ok:Bool):∀(n:Nat) (m:MS),Vq m→n≤m.queue.length→∀i,i∉m.queue.take n→(m.pops ok n).txs[i]? =m.txs[i]?
 | 0,m,_,_,_,_=>rfl
 | n+1,m,h,hn,i,hi=>by
   match hq:m.queue with
   | []=>rw[hq] at hn;simp at hn
   | j::q =>
     obtain⟨t,hj,_⟩:=h.que j (by rw[hq];exact rQ);rw[hq] at hi;have e:=aFz ok hq hj;have:=aJk ok n (m.pop ok) (h.pop ok hq).1 (by rw[e];rw[hq] at hn;simpa using hn) i (by rw[e];exact fun r=>hi (by simp only[List.take_succ_cons];exact List.mem_cons_of_mem _ r));show ((m.pop ok).pops ok n).txs[i]? =_
     rw[this,e];show (m.txs.set j (t.done ok))[i]? =_
     rw[rD,if_neg (fun r=>hi (by simp only[List.take_succ_cons,r];exact rQ))]
theorem aMm {m:MS} (h:Vq m) {n i:Nat} (hi:m.queue[n]? =some i):i∉m.queue.take n:=fun q=>by
 obtain⟨k,hk,e⟩:=List.getElem_of_mem q;have hkn:k<n:=by rw[rJ] at hk;omega
 have hn:=Vi hi;have hs:=h.srt;rw[List.pairwise_iff_getElem] at hs;have:=hs k n (by omega) hn hkn;obtain⟨t,ht,_⟩:=h.que i (tZ hi);rw[List.getElem_take] at e;rw[tX hn] at hi;rw[e,rT hi] at this;exact absurd (this t t ht ht) (tT _)
theorem aSg {m:MS} (h:Vq m) (ok:Bool) {n i:Nat} (hi:m.queue[n]? =some i):∃t,m.txs[i]? =some t∧(m.pops ok n).txs[i]? =some t∧t.st=2∧(m.pops ok n).last≤t.time∧m.pops ok (n+1)={m.pops ok n with txs:=(m.pops ok n).txs.set i (t.done ok),last:=if ok then t.time else (m.pops ok n).last,queue:=m.queue.drop (n+1)}:=by
 have hn:=Vi hi;have hg:=(h.pops ok n (tU hn)).1;have hq:=aCx ok n m h (tU hn)
 have hc:(m.pops ok n).queue=i::m.queue.drop (n+1):=by
  rw[hq,List.drop_eq_getElem_cons hn];rw[tX hn] at hi;rw[rT hi]
 obtain⟨t,ht,h2,h3,h4,_⟩:=hg.que i (by rw[hc];exact rQ);exact⟨t,by rw[←aJk ok n m h (tU hn) i (aMm h hi)];exact ht,ht,h2,by omega,by rw[aJl,aFz ok hc ht]⟩
theorem Xx {w:World} {sb gd mb gs pos num:Nat} (h:Bk w sb 99 (Vh gd mb gs pos num)) :
  w.cell? ⟨sb,0,none⟩=some (.pointer (some ⟨gd,0,none⟩))∧w.cell? ⟨sb,3,none⟩=some (.int .i64 6)∧w.cell? ⟨sb,4,none⟩=some (.int .i64 7)∧w.cell? ⟨sb,5,none⟩=some (.pointer (some ⟨mb,0,none⟩))∧w.cell? ⟨sb,6,none⟩=some (.pointer (some ⟨gs,0,none⟩))∧w.cell? ⟨sb,7,none⟩=some (.int .i64 (pos:Int))∧w.cell? ⟨sb,8,none⟩=some (.int .i64 (num:Int))∧w.cell? ⟨sb,9,none⟩=some (.bool false) :=
 ⟨h.cell (i:=0) (by simp[Vh]),h.cell (i:=3) (by simp[Vh]),h.cell (i:=4) (by simp[Vh]),h.cell (i:=5) (by simp[Vh]),h.cell (i:=6) (by simp[Vh]),h.cell (i:=7) (by simp[Vh]),h.cell (i:=8) (by simp[Vh]),h.cell (i:=9) (by simp[Vh])⟩
theorem aAq (sb gd mb gs pos num:Nat) (w:World) (h:Bk w sb 99 (Vh gd mb gs pos num)) :
  Calls prog 38 #[.pointer (some ⟨sb,0,none⟩)] w fun e w'=>e=.returned (.bool false)∧w=w':=by
 obtain⟨c0,_,_,_,_,_,_,c9⟩:=Xx h;clear h;go_enter func38,ntmps38
 go_wp2_with fail
 go_ret;exact⟨rfl,rfl⟩
theorem aBm (sb gd mb gs pos num:Nat) (w:World) (h:Bk w sb 99 (Vh gd mb gs pos num)) :
  Calls prog 40 #[.pointer (some ⟨sb,0,none⟩)] w fun e w'=>e=.returned (.pointer (some ⟨mb,0,none⟩))∧w=w':=by
 obtain⟨_,_,_,c5,_⟩:=Xx h;clear h;go_enter func40,ntmps40
 go_wp2_with fail
 go_ret;exact⟨rfl,rfl⟩
theorem bCb {w:World} {F:Xt} {Ft:Nat→Xt} {sb gd mb gs pos num count g:Nat} {ns:List Nat} {m:MS} (h:Kh w F Ft sb gd mb gs pos num count ns m g) :
  Calls prog 172 #[.pointer (some ⟨sb,0,none⟩)] w fun e w'=>e=.returned (.int .i64 (m.last:Int))∧w=w':=by
 have hd:=aBm sb gd mb gs pos num w h.bx;obtain⟨_,_,_,c5,_⟩:=Xx h.bx;have hm:=bBt h.man;have H:=hid h;clear h;go_enter func172,ntmps172
 go_wp2_with fail
 refine hd.mono ?_;rintro e w' ⟨rfl,rfl⟩;clear hd;go_wp2_with fail
 refine hm.mono ?_;rintro e w' ⟨rfl,rfl⟩;clear hm;go_wp2_with fail
 go_ret;exact⟨rfl,rfl⟩
theorem bEz {w:World} {F:Xt} {Ft:Nat→Xt} {sb gd mb gs pos num count g:Nat} {ns:List Nat} {m:MS} (h:Kh w F Ft sb gd mb gs pos num count ns m g) :
  Calls prog 186 #[.pointer (some ⟨sb,0,none⟩)] w fun e w'=>e=.returned (.int .i64 (m.queue.length:Int))∧w=w':=by
 have hd:=aBm sb gd mb gs pos num w h.bx;obtain⟨_,_,_,c5,_⟩:=Xx h.bx;have hm:=bDz h.man;have H:=hid h;clear h;go_enter func186,ntmps186
 go_wp2_with fail
 refine hd.mono ?_;rintro e w' ⟨rfl,rfl⟩;clear hd;go_wp2_with fail
 refine hm.mono ?_;rintro e w' ⟨rfl,rfl⟩;clear hm;go_wp2_with fail
 go_ret;exact⟨rfl,rfl⟩
theorem bGy {w:World} {F:Xt} {Ft:Nat→Xt} {sb gd mb gs pos num count g:Nat} {ns:List Nat} {m:MS} (h:Kh w F Ft sb gd mb gs pos num count ns m g) :
  Calls prog 12 #[.pointer (some ⟨sb,0,none⟩)] w fun e w'=>(∃k:Nat,e=.returned (.int .i64 (k:Int))∧(m.txs=[]→k=0))∧nD w w':=by
 have hd:=aBm sb gd mb gs pos num w h.bx;obtain⟨_,_,_,c5,_⟩:=Xx h.bx;have hm:=bGs h.man;have H:=hid h;clear h;go_enter func12,ntmps12
 go_wp2_with fail
 refine hd.mono ?_;rintro e w' ⟨rfl,rfl⟩;clear hd;go_wp2_with fail
 refine hm.mono ?_;rintro e w' ⟨⟨k,rfl,hk⟩,hb⟩;clear hm;go_wp2_with fail
 go_ret;exact⟨⟨k,rfl,hk⟩,hb⟩
theorem aFf {w:World} {F:Xt} {Ft:Nat→Xt} {sb gd mb gs pos num count g:Nat} {ns:List Nat} {m:MS} (h:Kh w F Ft sb gd mb gs pos num count ns m g) {i:Nat} {t:TX} (ht:m.txs[i]? =some t) :
  Calls prog 20 #[.pointer (some ⟨sb,0,none⟩),.int .i64 ((i:Int)+1)] w fun e w'=>(∃code:Int,e=.returned (.tuple #[.int .i64 (t.st:Int),.int .i64 (t.time:Int),.int .i64 code])∧(t.st=3→code=0))∧nD w w':=by
 have hd:=aBm sb gd mb gs pos num w h.bx;obtain⟨_,_,_,c5,_⟩:=Xx h.bx;have hm:=aZm h.man ht;have H:=hid h;clear h;go_enter func20,ntmps20
 go_wp2_with fail
 refine hd.mono ?_;rintro e w' ⟨rfl,rfl⟩;clear hd;go_wp2_with fail
 refine hm.mono ?_;rintro e w' ⟨⟨code,rfl,hz⟩,hb⟩;have HZ:=hid hz;clear hz;clear hm;go_wp2_with fail
 go_ret3
 exact⟨⟨code,rfl,HZ.o⟩,hb⟩
theorem aJn {w:World} {F:Xt} {Ft:Nat→Xt} {sb gd mb gs pos num count g:Nat} {ns:List Nat} {m:MS} (h:Kh w F Ft sb gd mb gs pos num count ns m g) (hg:g+1≤700) (yes:Bool) :
  Calls prog 37 #[.pointer (some ⟨sb,0,none⟩),.bool yes] w fun e w'=>e=.returned (.tuple #[])∧Kc w w' F sb (gp gd) pos {m with read:=yes} (g+1):=by
 have hd:=aBm sb gd mb gs pos num w h.bx;obtain⟨_,_,_,c5,_⟩:=Xx h.bx;have hm:=aRt h.man hg yes;have H:=hid h;clear h;go_enter func37,ntmps37
 go_wp2_with fail
 refine hd.mono ?_;rintro e w' ⟨rfl,rfl⟩;clear hd;go_wp2_with fail
 refine hm.mono ?_;rintro e w' ⟨rfl,hr⟩;have HR:=hid (H.o.mandR hr);clear hr;clear hm;go_wp2_with fail
 go_end0
 exact⟨rfl,HR.o⟩
theorem bEv {w:World} {F:Xt} {Ft:Nat→Xt} {sb gd mb gs pos num count g:Nat} {ns:List Nat} {m:MS} (h:Kh w F Ft sb gd mb gs pos num count ns m g) (hg:g+1≤700) {i:Nat} {t:TX} (ht:m.txs[i]? =some t) :
  Calls prog 173 #[.pointer (some ⟨sb,0,none⟩),.int .i64 ((i:Int)+1)] w fun e w'=>∃r:Int,e=.returned (.int .i64 r)∧((t.st=1∧r=0∧Kc w w' F sb (gp gd) pos (m.put i {t with st:=4,time:=0}) (g+1))∨(t.st≠1∧r=5∧Kc w w' F sb (gp gd) pos m (g+1))):=by
 have hd:=aAq sb gd mb gs pos num w h.bx;obtain⟨_,_,_,c5,_⟩:=Xx h.bx;have hm:=bDw h.man hg ht;have H:=hid h;clear h;go_enter func173,ntmps173
 go_wp2_with fail
 refine hd.mono ?_;rintro e w' ⟨rfl,rfl⟩;clear hd;go_wp2_with fail
 refine hm.mono ?_;rintro e w' ⟨r,rfl,hr⟩;have HR:=hid (hr.imp (fun a=>nT a.1 a.2.1 (H.o.mandR a.2.2)) (fun a=>nT a.1 a.2.1 (H.o.mandR a.2.2)));clear hr;clear hm;go_wp2_with fail
 go_ret;exact⟨r,rfl,HR.o⟩
theorem aWj {w:World} {F:Xt} {Ft:Nat→Xt} {sb gd mb gs pos num count g:Nat} {ns:List Nat} {m:MS} (h:Kh w F Ft sb gd mb gs pos num count ns m g) (hg:g+1≤700) {i:Nat} {t:TX} (ht:m.txs[i]? =some t) {A:Option Addr} {n c:Nat} {ps:List Vd} (hp:Uh w A n c ps) (hn:n≤20000) :
  Calls prog 15 #[.pointer (some ⟨sb,0,none⟩),.int .i64 ((i:Int)+1),.slice A n c] w fun e w'=>∃r:Int,e=.returned (.int .i64 r)∧∃m',wrR m i t n ps r m'∧Kc w w' F sb (gp gd) pos m' (g+1):=by
 have hd:=aAq sb gd mb gs pos num w h.bx;obtain⟨_,_,_,c5,_⟩:=Xx h.bx;have hm:=bEb h.man hg ht hp hn;have H:=hid h;clear h;go_enter func15,ntmps15
 go_wp2_with fail
 refine hd.mono ?_;rintro e w' ⟨rfl,rfl⟩;clear hd;go_wp2_with fail
 refine hm.mono ?_;rintro e w' ⟨r,rfl,m',hw,hr⟩;have HR:=nF hw (H.o.mandR hr);clear hr hw;clear hm;go_wp2_with fail
 go_ret;exact⟨r,rfl,m',HR.o⟩
theorem bFk {w w5 w':World} {F:Xt} {P:Xt→(Nat→Xt)→Prop} (hb:nD w w5) (h:∃F' Ft',P F' Ft'∧Kf F w5 w'∧Sb w5 F F'∧In w' F'):∃F' Ft',P F' Ft'∧Kf F w w'∧Sb w F F'∧In w' F':=by
 obtain⟨F',Ft',h1,h2,h3,h4⟩:=h;exact⟨F',Ft',h1,(Kf.of_below (F:=F) hb).trans h2 (fun b q=>.inl q),fun b q=>(h3 b q).imp id (tK hb.size),h4⟩
theorem aWi {w:World} {F:Xt} {Ft:Nat→Xt} {sb gd mb gs pos num count g:Nat} {ns:List Nat} {m:MS} (h:Kh w F Ft sb gd mb gs pos num count ns m g) {R:Nat} (ho:One w (Ft 1) mb m g R) (hR:R≤17*g) (hg:g+1≤700) {i:Nat} {t:TX} (ht:m.txs[i]? =some t) (f l:Int) :
  Calls prog 13 #[.pointer (some ⟨sb,0,none⟩),.int .i64 ((i:Int)+1),.agg #[.int .i64 f,.int .i64 l]] w fun e w'=>(∃v,∃r:Int,e=.returned (.tuple #[v,.int .i64 r])∧(t.st=1→aIh f l R→r=0)∧∃bs,Byt w' w.heap.size v bs∧bs.length≤640)∧∃F' Ft',(Kh w' F' Ft' sb gd mb gs pos num count ns m (g+1)∧∃k,(k≤17∧(l=1→k≤2))∧One w' (Ft' 1) mb m (g+1) (R+k))∧Kf F w w'∧Sb w F F'∧In w' F':=by
 obtain⟨w5,hw5⟩:=nC (w.alloc (.cells #[.int .i64 f,.int .i64 l] 46));have hB5:Bk w5 w.heap.size 46 [.int .i64 f,.int .i64 l]:=by rw[←hw5];exact Bk.new w _ _
 have hb5:nD w w5:=by rw[←hw5];exact nB.alloc lR _
 obtain⟨d0,d1⟩:=hB5.c2;have h5:=h.next hb5;have hd:=aAq sb gd mb gs pos num w5 h5.bx;have KK:=hid (fun (w':World) (hS:nD w5 w')=>nT (Xx (h5.next hS).bx).2.2.2.1 ((hB5.next hS hB5.lt).cell (i:=0) (by simp)) ((hB5.next hS hB5.lt).cell (i:=1) (by simp)));have H:=nF h5 hb5;have HT:=nI hg ht hR (ho.ag (.of_below hb5));clear h h5 hb5 hB5 d0 d1 hg ht ho hR;go_enter func13,ntmps13
 go_wp2_with fail
 refine hd.mono ?_;rintro e w' ⟨rfl,rfl⟩;clear hd;go_wp2_with fail
 have Kq:=KK;refine Vn (fun w'=>nD w5 w') [6] (by kernel_rfl) (Xu nB) (fun nE=>?_);refine kR 0 ?_;refine kR 1 ?_;refine kR 2 ?_;refine kR 4 ?_;refine kM 3 ?_;refine kM 5 ?_;refine rM 6 (fun K hK=>?_);go_simp;have hS:=H.o.1.next nE;refine(bEa hS.man (HT.o.2.2.2.ag (.of_below nE)) HT.o.2.2.1 HT.o.1 HT.o.2.1 f l).mono ?_;rintro e w7 ⟨⟨v,r,rfl,hrr,bs,hbs,hbl⟩,hr⟩;have hb:=H.o.2.trans (nE.mono H.o.2.size);have HR:=nI (hbs.base hb.size) hbl hrr (bFk hb (hS.mandP _ hr));obtain⟨vA,vc,rfl⟩:=Xs hbs.1;clear hS hbs hbl hr hb hrr;go_simp;refine hK.out _ _ (fun h=>absurd (by decide) h) ?_;clear hK K;try simp only[Act.put,tC,tD,tE]
 refine kR 7 ?_;refine kR 8 ?_;refine kR 9 ?_;refine kR 10 ?_;refine Vs (by kernel_rfl) ?_ _;clear Kq;go_wp2_with fail
 go_ret2
 exact⟨⟨_,r,rfl,HR.o.2.2.1,bs,HR.o.1,HR.o.2.1⟩,HR.o.2.2.2⟩
theorem bGz {w:World} {F:Xt} {Ft:Nat→Xt} {sb gd mb gs pos num count g:Nat} {ns:List Nat} {m:MS} (h:Kh w F Ft sb gd mb gs pos num count ns m g) (hg:g+1≤700) {i:Nat} {t:TX} (ht:m.txs[i]? =some t) (f l:Int) :
  Calls prog 13 #[.pointer (some ⟨sb,0,none⟩),.int .i64 ((i:Int)+1),.agg #[.int .i64 f,.int .i64 l]] w fun e w'=>(∃v,∃r:Int,e=.returned (.tuple #[v,.int .i64 r])∧∃bs,Byt w' w.heap.size v bs∧bs.length≤640)∧Kc w w' F sb (gp gd) pos m (g+1):=by
 refine(aWi h h.man.x lR hg ht f l).mono ?_;rintro e w' ⟨⟨v,r,h0,-,h1⟩,F',Ft',⟨h2,-⟩,h3⟩;exact⟨⟨v,r,h0,h1⟩,F',⟨Ft',gd,mb,gs,num,count,ns,rfl,h2⟩,h3⟩
def msB (t:Nat):MS:=⟨t,t,0,false,[],[],t⟩
abbrev ms0:MS:=msB 0
theorem bBq {t:Nat} (ht:t≤1000):Vq (msB t):=⟨lR,(fun i t h=>by simp[msB] at h),(fun i t h=>by simp[msB] at h),(fun i h=>by simp[msB] at h),List.Pairwise.nil,(fun i t h=>by simp[msB] at h),ht,zL⟩
def bGu (F0 F1 F2:Xt):Nat→Xt:=fun j=>match j with
 | 0=>F0
 | 1=>F1
 | 2=>F2
 | _=>fun _=>False
theorem Vl.made {w w1 w2 w3 w4:World} {gm kb t:Nat} (he:Kn w1 (fun b=>w.heap.size≤b∧b<w1.heap.size) gm 0 0) (hb1:nD w w1) (hk:aBu w2 (fun b=>w1.heap.size≤b∧b<w2.heap.size) kb 0 0) (hb2:nD w1 w2)
  (e3:w2.alloc (.map #[] 0)=w3) (e4:w3.alloc (.cells (Vp gm kb w2.heap.size (.slice none 0 0) 0 (msB t)).toArray 166)=w4) :
  (∃F Ft,Vl w4 F Ft w3.heap.size gm kb w2.heap.size (.slice none 0 0) 0 (msB t) [] 0 0∧Kn w4 (Ft 1) gm 0 0∧∀b,F b→w.heap.size≤b∧b<w4.heap.size)∧nD w w4:=by
 have z1:=hb1.size;have z2:=hb2.size;have z3:w3.heap.size=w2.heap.size+1:=by rw[←e3];simp
 have z4:w4.heap.size=w3.heap.size+1:=by rw[←e4];simp
 have hb3:nD w2 w3:=by rw[←e3];exact nB.alloc lR _
 have hb4:nD w3 w4:=by rw[←e4];exact nB.alloc lR _
 have hb24:=hb3.trans (hb4.mono hb3.size);have hb14:=hb2.trans (hb24.mono hb2.size);refine⟨⟨fun b=>w.heap.size≤b∧b<w4.heap.size,bGu (fun b=>b=w2.heap.size∨b=w3.heap.size) (fun b=>w.heap.size≤b∧b<w1.heap.size) (fun b=>w1.heap.size≤b∧b<w2.heap.size),⟨⟨fun b q=>q.2,fun i b q=>?_,fun i j hn b q r=>?_⟩,fun j hj b=>?_,?_,⟨0,he.ag (.of_below hb14),Int.natCast_nonneg _⟩,⟨0,hk.ag (.of_below hb24)⟩,?_,⟨rfl,.inl ⟨rfl,rfl⟩⟩,fun i t e q=>by simp[msB] at q,rfl,.inr rfl,.inl rfl,fun b q=>by cases q⟩,he.ag (.of_below hb14),fun b q=>q⟩,hb1.trans (hb14.mono hb1.size)⟩
 · match i with
   | 0=>rcases q with q|q<;>constructor<;>omega
   | 1=>exact⟨q.1,by have:=q.2;omega⟩
   | 2=>exact⟨by have:=q.1;omega,by have:=q.2;omega⟩
   | n+3=>exact q.elim
 · have hi:∀{i:Nat},bGu (fun b=>b=w2.heap.size∨b=w3.heap.size) (fun b=>w.heap.size≤b∧b<w1.heap.size) (fun b=>w1.heap.size≤b∧b<w2.heap.size) i b→(i=0∧w2.heap.size≤b)∨(i=1∧b<w1.heap.size)∨(i=2∧w1.heap.size≤b∧b<w2.heap.size):=fun {i} q=>by
    match i with
    | 0=>exact .inl ⟨rfl,by rcases q with q|q<;>omega⟩
    | 1=>exact .inr (.inl ⟨rfl,q.2⟩)
    | 2=>exact .inr (.inr ⟨rfl,q.1,q.2⟩)
    | n+3=>exact q.elim
   rcases hi q with h1|h1|h1<;>rcases hi r with h2|h2|h2<;>omega
 · match j with
   | 0=>simp at hj
   | 1=>simp at hj
   | 2=>simp at hj
   | n+3=>exact id
 · rw[←e4];exact Bk.new w3 _ _
 · have:IM w3 prog 3 w2.heap.size 0 (fun _=>none):=by rw[←e3];exact IM.made w2 _ _
   have h0:(fun _=>none:Int→Option Value)=Km []:=by funext x;rw[aIp];simp;omega
   rw[h0] at this;exact this.next hb4
def aNh (w:World) (F:Xt) (mb t:Nat):Prop:=∃Ft gm kb am,Vl w F Ft mb gm kb am (.slice none 0 0) 0 (msB t) [] 0 0∧Kn w (Ft 1) gm 0 0
theorem aNh.ag {w w':World} {F:Xt} {mb t:Nat} (h:aNh w F mb t) (k:Ag F w w'):aNh w' F mb t:=by
 obtain⟨Ft,gm,kb,am,hx,he⟩:=h;exact⟨Ft,gm,kb,am,hx.ag k,he.ag (k.mono (hx.fam.sub 1))⟩
theorem Vl.manB {w:World} {F:Xt} {Ft:Nat→Xt} {mb gm kb am t N:Nat} (h:Vl w F Ft mb gm kb am (.slice none 0 0) 0 (msB t) [] N 0) (hN:N≤258) (ht:t≤690):Man w F mb (msB t) (t+3) :=
 ⟨⟨Ft,_,_,_,_,_,h.up (by omega) (by omega) zL (by omega)⟩,bBq (by omega),tR t 3,zL,zL,by omega⟩
theorem aOi {w w1 w2:World} {F G:Xt} {Ft:Nat→Xt} {mb g gm kb am:Nat} {qv:Value} {es:List TE} {m:MS} {el:Int} (h:Man w F mb m g) (hg:g+1≤700) (hb:nD w w1) (hx:Vl w F Ft mb gm kb am qv 0 m es (128*g) (17*g)) (k:Kf (Ft 1) w1 w2) (hG:Sb w1 (Ft 1) G) (hi:In w2 G) (he:Kn w2 G gm (128*g) el) (hl:el≤(m.last:Int)):Kj w w2 F mb m g:=by
 obtain⟨h1,h2,h3,h4⟩:=(hx.next hb).extd k hG hi he hl;exact Kj.of h hg h1 (by omega) (by omega) ((Kf.of_below (F:=F) hb).trans h2 (fun b q=>.inl q)) (fun b q=>(h3 b q).imp id (tK hb.size)) h4 h.good (tM h.giv) (tM h.num) (tM h.txs)
theorem aMf (t:Nat) (w:World) (ht:t≤700) :
  Calls prog 80 #[.int .i64 258,.int .i64 (t:Int)] w fun e w'=>(∃mb,e=.returned (.tuple #[.pointer (some ⟨mb,0,none⟩),.int .i64 0])∧∃F,aNh w' F mb t∧∀b,F b→w.heap.size≤b∧b<w'.heap.size)∧nD w w':=by
 have hmm:=@run_makeMap prog;have t0:¬((t:Int)<0):=by omega
 have t1:¬(1099511627776<(t:Int)):=by omega
 have t2:decide ((t:Int)<0)=false:=rY t0;have t3:decide (1099511627776<(t:Int))=false:=rY t1;have hn:=aNz w;go_enter func80,ntmps80
 go_wp2_with fail
 refine hn.mono ?_;rintro e w1 ⟨⟨gm,rfl,he,_,_⟩,hb1⟩;have hk:=aLh w1;have HE:=nF he hb1;clear hn he hb1;go_wp2_with fail
 refine hk.mono ?_;rintro e w2 ⟨⟨kb,rfl,hk,_,_⟩,hb2⟩;have HK:=nF hk hb2;clear hk hb2;obtain⟨w3,hw3⟩:=nC (w2.alloc (.map #[] 0));obtain⟨w4,hw4⟩:=nC (w3.alloc (.cells #[.pointer (some ⟨gm,0,none⟩),.pointer (some ⟨kb,0,none⟩),.map (some w2.heap.size),.slice none 0 0,.int .i64 0,.int .i64 0,.int .i64 (t:Int),.int .i64 (t:Int),.int .i64 (t:Int),.bool false] 166));have HM:=hid (Vl.made (t:=t) HE.o.1 HE.o.2 HK.o.1 HK.o.2 hw3 hw4);go_wp2_with fail
 go_ret2
 obtain⟨⟨F,Ft,h1,h2,h3⟩,hb⟩:=HM.o;exact⟨⟨_,rfl,F,⟨Ft,_,_,_,h1,h2⟩,h3⟩,hb⟩
theorem aJg (F:Xt) (mb t n c:Nat) (A:Option Addr) (ps:List Vd) (w:World) (h:aNh w F mb t) (hp:Uh w A n c ps) (hok:n=0∨(1≤t∧OkL (t:Int) n ps)) (hAF:∀ad,A=some ad→¬F ad.block) (ht:t≤690) :
  Calls prog 82 #[.pointer (some ⟨mb,0,none⟩),.slice A n c] w fun e w'=>e=.returned (.int .i64 0)∧∃F',Man w' F' mb (msB t) (t+3)∧Kf F w w'∧Sb w F F'∧In w' F':=by
 obtain⟨Ft,gm,kb,am,hx,hext⟩:=h;have hg:=aAl mb gm kb am 0 (.slice none 0 0) (msB t) w hx.bx;obtain⟨c0,_,c2,_,_,_,c6,_⟩:=Xz hx.bx;have hl:=hx.all;have hlen:(Builtin.len_ #[164] 3 #[.map (some am)]).run prog w=.ok (.int .i64 0) w:=hl.len aHa _;have hin:=hx.fam.inn;have HX:=nJ hx hext hp hAF ht;have c6':w.cell? ⟨mb,6,none⟩=some (.int .i64 (t:Int)):=c6;clear c6;rcases tP n with h0|h0
 · subst h0;clear hx hl hext hp hAF hok hin;have HE:=hid (show ∃F',Man w F' mb (msB t) (t+3)∧Kf F w w∧Sb w F F'∧In w F' from⟨F,HX.o.1.manB zL HX.o.2.2.2.2,Kf.refl F w,fun b q=>.inl q,HX.o.1.fam.lt⟩);go_enter func82,ntmps82
   by_cases q:t=0
   · subst q;go_wp2_with fail
     refine hg.mono ?_;rintro e w' ⟨rfl,rfl⟩;clear hg;go_wp2_with fail
     go_ret;exact⟨rfl,HE.o⟩
   · have t1:((t:Int)==0)=false:=by simpa using q
     go_wp2_with fail
     refine hg.mono ?_;rintro e w' ⟨rfl,rfl⟩;clear hg;go_wp2_with fail
     go_ret;exact⟨rfl,HE.o⟩
 · have hok':1≤t∧OkL (t:Int) n ps:=hok.resolve_left (Nat.ne_of_gt h0);have t1:((t:Int)==0)=false:=by have:=hok'.1;simp;omega
   have t2:((n:Int)==0)=false:=by simp;omega
   have t2':¬n=0:=Nat.ne_of_gt h0;have HO:=hid hok';have hS0:w.drew.cell? ⟨mb,0,none⟩=some (.pointer (some ⟨gm,0,none⟩))∧w.drew.cell? ⟨mb,6,none⟩=some (.int .i64 (t:Int)):=⟨c0,c6'⟩;have KK:=hid (fun (w':World) (hS:w'.cell? ⟨mb,0,none⟩=some (.pointer (some ⟨gm,0,none⟩))∧w'.cell? ⟨mb,6,none⟩=some (.int .i64 (t:Int)))=>hS);clear hx hl hext hp hAF hok hok' hin h0;go_enter func82,ntmps82
   go_wp2_with fail
   refine hg.mono ?_;rintro e w' ⟨rfl,rfl⟩;clear hg;go_wp2_with fail
   have Kq:=KK;refine wp_region_held_drew (S:=fun w'=>w'.cell? ⟨mb,0,none⟩=some (.pointer (some ⟨gm,0,none⟩))∧w'.cell? ⟨mb,6,none⟩=some (.int .i64 (t:Int))) (by kernel_rfl) (hS0) (fun nE=>?_);refine kF 0 ?_;refine kF 1 ?_;refine kF 2 ?_;refine kF 3 ?_;refine kF 4 ?_;refine kF 5 ?_;refine kF 6 ?_;refine kF 7 ?_;refine kF 8 ?_;refine kF 9 ?_;refine rF 10 (fun K hK=>?_);go_simp;have hD:nD w w.drew:=Xu nB;refine(aIr (Ft 1) gm 0 n c 0 (t:Int) A ps _ (HX.o.2.1.ag (.of_below hD)) ((HX.o.1.next hD).fam.inn 1) (by have:=HO.o.2.n.2;omega) (HX.o.2.2.1.next hD) HO.o.2 (fun ad e q=>HX.o.2.2.2.1 ad e (HX.o.1.fam.sub 1 _ q))).mono ?_;rintro e w7 ⟨⟨r,rfl,hr⟩,G,el2,hG0,hle2,hk7,hsb7,hin7⟩;obtain rfl:r=0:=hr (by have:=HO.o.1;omega)
   have HE:=hid (show (∃F',Man w7 F' mb (msB t) (t+3)∧Kf F w w7∧Sb w F F'∧In w7 F')∧w7.cell? ⟨mb,0,none⟩=some (.pointer (some ⟨gm,0,none⟩))∧w7.cell? ⟨mb,6,none⟩=some (.int .i64 (t:Int)) from by
    obtain⟨h1,h2,h3,h4⟩:=(HX.o.1.next hD).extd hk7 hsb7 hin7 hG0 (by rcases hle2 with q|q<;>rw[q]<;>first|exact Int.natCast_nonneg _|exact Int.le_refl _);exact⟨⟨_,h1.manB (by have:=HO.o.2.n.2;omega) HX.o.2.2.2.2,(Kf.of_below (F:=F) hD).trans h2 (fun b q=>.inl q),fun b q=>(h3 b q).imp id (tK hD.size),h4⟩,(Xz h1.bx).1,(Xz h1.bx).2.2.2.2.2.2.1⟩)
   clear hr hG0 hle2 hk7 hsb7 hin7;go_simp;refine hK.out _ _ (HE.o.2) (fun hHeld2=>?_);clear hK K nE;have nE:=hHeld2;clear hHeld2;try simp only[Act.put,tC,tD,tE]
   refine kF 11 ?_;refine wpAnyH_done (by kernel_rfl) ?_ _;clear Kq;go_wp2_with fail
   go_ret;exact⟨rfl,HE.o.1⟩
theorem aRw (F:Xt) (mb g B:Nat) (m:MS) (w:World) (h:Man w F mb m g) (hB:B≤w.heap.size) :
  Calls prog 103 #[.pointer (some ⟨mb,0,none⟩)] w fun e w'=>(∃v,e=.returned v∧∃ks,(∃ps,Ud w' B v ks ps)∧ks.length≤258∧(∀k∈ks,0≤k∧k<258)∧(m.last=0→ks=[]))∧nD w w':=by
 obtain⟨Ft,gm,kb,am,qv,es,hx⟩:=h.x;have hg:=aAl mb gm kb am 0 qv m w hx.bx;obtain⟨c0,_⟩:=Xz hx.bx;obtain⟨el,⟨bm,s,f,hext,hex0⟩,hel⟩:=hx.ext;have HL0:=hid (show m.last=0→∀x,f x=none from fun q=>hex0 (by have:=hext.pos;omega));have hd:=aRg _ gm bm s _ B el f w hext hB;clear h hx hext hex0 hel;go_enter func103,ntmps103
 go_wp2_with fail
 refine hg.mono ?_;rintro e w' ⟨rfl,rfl⟩;clear hg;go_wp2_with fail
 refine hd.mono ?_;rintro e w' ⟨⟨v,rfl,ks,⟨ps,hps⟩,h1,h2,h3⟩,hb⟩;obtain⟨vA,vc,rfl⟩:=Xs hps.own;have HE:=nJ hps h1 h2 hb (fun q=>h3 (HL0.o q));clear hd hps h1 h2 hb h3;go_wp2_with fail
 go_ret;exact⟨⟨_,rfl,ks,⟨ps,HE.o.1⟩,HE.o.2.1,HE.o.2.2.1,HE.o.2.2.2.2⟩,HE.o.2.2.2.1⟩
theorem aOl (F:Xt) (mb g:Nat) (m:MS) (w:World) (h:Man w F mb m g) (hgg:g+1≤700) :
  Calls prog 134 #[.pointer (some ⟨mb,0,none⟩)] w fun e w'=>(∃r:Int,e=.returned (.int .i64 r))∧Kj w w' F mb m g:=by
 obtain⟨Ft,gm,kb,am,qv,es,hx⟩:=h.x;have hg:=aAl mb gm kb am 0 qv m w hx.bx;have KK:=hid (fun (w':World) (hS:Bk w' mb 166 (Vp gm kb am qv 0 m))=>nT (Xz hS).1 (Xz hS).2.1 (Xz hS).2.2.2.2.2.2.2.1);have HX:=hid hx;have HM:=nF h hgg;clear h hx;go_enter func134,ntmps134
 go_wp2_with fail
 refine hg.mono ?_;rintro e w' ⟨rfl,rfl⟩;clear hg;go_wp2_with fail
 have Kq:=KK;refine wp_region_held_drew (S:=fun w'=>Bk w' mb 166 (Vp gm kb am qv 0 m)) (by kernel_rfl) (HX.o.bx.drew) (fun nE=>?_);refine kF 0 ?_;refine kF 1 ?_;refine kF 2 ?_;refine kF 3 ?_;refine kF 4 ?_;refine kF 5 ?_;refine kF 6 ?_;refine kF 7 ?_;refine kF 8 ?_;refine kF 9 ?_;refine kF 10 ?_;refine kF 11 ?_;refine rF 12 (fun K hK=>?_);go_simp;have hX1:=HX.o.next (Xu (Below.refl w.heap.size w));obtain⟨s,tb,f,hbk⟩:=hX1.book;refine(aLg _ kb es.length s tb f (m.last:Int) _ hbk).mono ?_;rintro e w1 ⟨⟨r1,rfl⟩,hb1⟩;have HS1:=hid (show nD w w1 from(Xu nB).trans hb1);have hS1:=(HX.o.next HS1.o).bx;clear hX1 hbk hb1;go_simp;clear nE;refine hK.out _ _ hS1 (fun nE=>?_);clear hK K;try simp only[Act.put,tC,tD,tE]
 refine rF 13 (fun K hK=>?_);go_simp;have hX2:=HX.o.next HS1.o;obtain⟨el,hel,hle⟩:=hX2.ext;refine(aSh _ gm _ el r1 _ hel (hX2.fam.inn 1)).mono ?_;rintro e w2 ⟨⟨r2,rfl⟩,G,hG,hk,hsb,hin⟩;have HR:=hid (aOi HM.o.1 HM.o.2 HS1.o HX.o hk hsb hin hG hle);have hS2:=(hX2.extd hk hsb hin hG hle).1.bx;clear hX2 hel hle hG hk hsb hin;go_simp;clear nE;refine hK.out _ _ hS2 (fun nE=>?_);clear hK K;try simp only[Act.put,tC,tD,tE]
 refine kF 14 ?_;refine wpAnyH_done (by kernel_rfl) ?_ _;clear Kq;go_wp2_with fail
 go_ret;exact⟨⟨_,rfl⟩,HR.o⟩
theorem aJf {w w1 w2 w3 w4 w5:World} {F:Xt} {Ft:Nat→Xt} {mb g gm kb am:Nat} {qv:Value} {es:List TE} {m:MS} (h:Man w F mb m g) (hg:g+1≤700) {R:Nat} (hR:R≤17*g) (hx:Vl w F Ft mb gm kb am qv 0 m es (128*g) R) {bb vb s:Nat}
  (k1:Kf (Ft 2) w w1) (hbk:aBu w1 (Ft 2) kb (es.length+1) s) (hb12:nD w1 w2) (hbuf:aDh w2 (fun b=>w1.heap.size≤b∧b<w2.heap.size) bb []) (hb23:nD w2 w3) (hv:aBw w3 (fun b=>w2.heap.size≤b∧b<w3.heap.size) vb gm bb 0 (m.last:Int))
  (e4:w3.alloc (.cells #[.int .i64 1,.int .i64 0,.int .i64 0,.int .i64 (m.last:Int),.pointer (some ⟨bb,0,none⟩),.pointer (some ⟨vb,0,none⟩)] 174)=w4)
  (hM:IM w5 prog 3 am (Uv es.length (Km es ((es.length:Int)+1))) (upd (Km es) ((es.length:Int)+1) (some (.pointer (some ⟨w3.heap.size,0,none⟩))))) (hgr:w4.grownBy w5 (some am)):∃F',(Man w5 F' mb m.begin (g+1)∧One w5 F' mb m.begin (g+1) R∧∃Ft' es',Vl w5 F' Ft' mb gm kb am qv 0 m.begin es' (128*g) R∧aBu w5 (Ft' 2) kb es'.length s)∧Kf F w w5∧Sb w F F'∧In w5 F':=by
 have hb34:nD w3 w4:=by rw[←e4];exact nB.alloc lR _
 have hb14:=hb12.trans ((hb23.trans (hb34.mono hb23.size)).mono hb12.size);have hb24:=hb23.trans (hb34.mono hb23.size);have z4:w4.heap.size=w3.heap.size+1:=by rw[←e4];simp
 obtain⟨F',Ft',⟨h1,hb1⟩,h2⟩:=hx.begun (e:=⟨w3.heap.size,bb,vb⟩) (s:=s) k1 hbk hb14 (hbuf.ag (.of_below hb24)) (fun b q=>⟨q.1,tL q.2 hb24.size⟩) ((hv.up (Nat.zero_le R) (by have:=h.big;omega)).ag (.of_below hb34)) (fun b q=>⟨tK hb12.size q.1,tL q.2 hb34.size⟩)
  (by rw[←e4];exact Bk.new w3 _ _) (tK hb12.size hb23.size) (fun q=>by have:=q.2;have:=hb23.size;show False;simp only at *;omega) (fun q=>by have:=q.2;show False;simp only at *;omega) (fun b q r=>by have:=q.2;have:=r.1;omega) hM hgr
 have hb:=h.big;exact⟨F',⟨⟨⟨Ft',gm,kb,am,qv,_,h1.up (by omega) (by omega) (by omega) (by omega)⟩,h.good.begin.1,tM h.giv,tM h.num,by show (m.txs++[_]).length≤_;rw[rH];exact tS h.txs,hg⟩,⟨Ft',gm,kb,am,qv,_,h1.up (by omega) (by omega) lR (by omega)⟩,Ft',_,h1,hb1⟩,h2⟩
def Bk1 (w:World) (F:Xt) (mb:Nat) (m:MS):Prop:=∃Ft gm kb am qv es N R,Vl w F Ft mb gm kb am qv 0 m es N R∧aBu w (Ft 2) kb es.length 1
def aXh (w w':World) (F:Xt) (mb:Nat) (m:MS) (g:Nat):Prop:=∃F',(Man w' F' mb m.begin (g+1)∧(m.txs=[]→One w' F' mb m.begin (g+1) 0∧Bk1 w' F' mb m.begin))∧Kf F w w'∧Sb w F F'∧In w' F'
theorem aXh.man {w w':World} {F:Xt} {mb g:Nat} {m:MS} (h:aXh w w' F mb m g):Kj w w' F mb m.begin g:=by
 obtain⟨F',h1,h2⟩:=h;exact⟨F',h1.1,h2⟩
theorem aOh {w w1 w2 w3 w4 w5:World} {F:Xt} {Ft:Nat→Xt} {mb g gm kb am:Nat} {qv:Value} {es:List TE} {m:MS} (h:Man w F mb m g) (hg:g+1≤700) (hx:Vl w F Ft mb gm kb am qv 0 m es (128*g) (17*g)) {bb vb s:Nat}
  (k1:Kf (Ft 2) w w1) (hbk:aBu w1 (Ft 2) kb (es.length+1) s) (hb12:nD w1 w2) (hbuf:aDh w2 (fun b=>w1.heap.size≤b∧b<w2.heap.size) bb []) (hb23:nD w2 w3) (hv:aBw w3 (fun b=>w2.heap.size≤b∧b<w3.heap.size) vb gm bb 0 (m.last:Int))
  (e4:w3.alloc (.cells #[.int .i64 1,.int .i64 0,.int .i64 0,.int .i64 (m.last:Int),.pointer (some ⟨bb,0,none⟩),.pointer (some ⟨vb,0,none⟩)] 174)=w4)
  (hM:IM w5 prog 3 am (Uv es.length (Km es ((es.length:Int)+1))) (upd (Km es) ((es.length:Int)+1) (some (.pointer (some ⟨w3.heap.size,0,none⟩))))) (hgr:w4.grownBy w5 (some am)) (hs:m.txs=[]→s=1):aXh w w5 F mb m g:=by
 by_cases hn:m.txs=[]
 · obtain rfl:=hs hn;obtain⟨F',⟨h1,h2,Ft',es',h3⟩,h4⟩:=aJf h hg zL ⟨hx.fam,hx.rest,hx.bx,hx.ext,hx.book,hx.all,hx.own,fun i t e q=>by rw[hn] at q;simp at q,hx.len,hx.f0,hx.f1,hx.f2⟩ k1 hbk hb12 hbuf hb23 hv e4 hM hgr;exact⟨F',⟨h1,fun _=>⟨h2,Ft',gm,kb,am,qv,es',_,_,h3⟩⟩,h4⟩
 · obtain⟨F',⟨h1,-⟩,h4⟩:=aJf h hg lR hx k1 hbk hb12 hbuf hb23 hv e4 hM hgr;exact⟨F',⟨h1,fun q=>absurd q hn⟩,h4⟩
theorem aHr (F:Xt) (mb g:Nat) (m:MS) (w:World) (h:Man w F mb m g) (hgg:g+1≤700) :
  Calls prog 39 #[.pointer (some ⟨mb,0,none⟩)] w fun e w'=>(m.txs≠[]∧(∃r:Int,r≠0∧e=.returned (.tuple #[.int .i64 0,.int .i64 r]))∧Kj w w' F mb m g)∨(e=.returned (.tuple #[.int .i64 ((m.txs.length:Int)+1),.int .i64 0])∧aXh w w' F mb m g):=by
 obtain⟨Ft,gm,kb,am,qv,es,hx⟩:=h.x;have hg:=aAl mb gm kb am 0 qv m w hx.bx;have hbig:=h.big;have hlen:=hx.len;have htx:=h.txs;have hgood:=h.good;have hla:m.last≤1000:=tK hgood.lg hgood.cap.1;obtain⟨s,tb,f,hbk0⟩:=hx.book;have hsle:es.length=0→s=0:=fun q=>by have:=hbk0.le;omega
 have KK:=hid (fun (w':World) (hS:Bk w' mb 166 (Vp gm kb am qv 0 m))=>nU (Xz hS).1 (Xz hS).2.1 (Xz hS).2.2.1 (Xz hS).2.2.2.2.2.2.2.1);have HX:=hid hx;have HM:=nF h hgg;have HS:=nM hbk0 hsle hlen htx hla hbig (show (m.last:Int)≤1000000 by omega) (show es.length+1≤100000 by omega);have HL:=nF (show es.length≤1000000 by omega) (wfN (i:=es.length) (by omega));clear h hx hbk0 hsle hlen htx hla hbig hgood;go_enter func39,ntmps39
 go_wp2_with fail
 refine hg.mono ?_;rintro e w' ⟨rfl,rfl⟩;clear hg;go_wp2_with fail
 by_cases h16:16≤s
 · have HC:=hid h16;clear h16;have Kq:=KK;refine wp_region_held_drew (S:=fun w'=>Bk w' mb 166 (Vp gm kb am qv 0 m)) (by kernel_rfl) (HX.o.bx.drew) (fun nE=>?_);refine kF 0 ?_;refine kF 1 ?_;refine kF 2 ?_;refine kF 3 ?_;refine kF 4 ?_;refine kF 5 ?_;refine kF 6 ?_;refine kF 7 ?_;refine rF 8 (fun K hK=>?_);go_simp;refine(aEv _ kb es.length s tb f (m.last:Int) _ (HS.o.1.ag (.of_below (Xu (Below.refl w.heap.size w)))) ⟨Int.natCast_nonneg _,HS.o.2.2.2.2.2.2.1⟩ HS.o.2.2.2.2.2.2.2).mono ?_;rintro e w1 (⟨_,rfl,hb1⟩|⟨hlt,_⟩);rotate_left
   · exact absurd hlt (Nat.not_lt.2 HC.o)
   have HS1:=hid (show nD w w1 from(Xu nB).trans hb1);have hS1:=(HX.o.next HS1.o).bx;clear hb1;go_simp;clear nE;refine hK.out _ _ hS1 (fun nE=>?_);clear hK K;try simp only[Act.put,tC,tD,tE]
   refine kF 9 ?_;refine kF 10 ?_;refine kF 11 ?_;refine kF 12 ?_;refine kF 13 ?_;refine wpAnyH_done (by kernel_rfl) ?_ _;clear Kq;go_wp2_with fail
   go_ret2
   refine .inl ⟨fun q=>?_,⟨6,by decide,rfl⟩,Kj.of_same HM.o.1 HM.o.2 HS1.o⟩;have:=HS.o.2.1 (by rw[HS.o.2.2.1,q];rfl);have:=HC.o;omega
 have HC:=hid (Nat.not_le.1 h16);clear h16;have Kq:=KK;refine wp_region_held_drew (S:=fun w'=>Bk w' mb 166 (Vp gm kb am qv 0 m)) (by kernel_rfl) (HX.o.bx.drew) (fun nE=>?_);refine kF 0 ?_;refine kF 1 ?_;refine kF 2 ?_;refine kF 3 ?_;refine kF 4 ?_;refine kF 5 ?_;refine kF 6 ?_;refine kF 7 ?_;refine rF 8 (fun K hK=>?_);go_simp;refine(aEv _ kb es.length s tb f (m.last:Int) _ (HS.o.1.ag (.of_below (Xu (Below.refl w.heap.size w)))) ⟨Int.natCast_nonneg _,HS.o.2.2.2.2.2.2.1⟩ HS.o.2.2.2.2.2.2.2).mono ?_;rintro e w1 (⟨hle,_⟩|⟨_,rfl,hb1,hk1⟩)
 · exact absurd hle (Nat.not_le.2 HC.o)
 rw[show ((es.length+1:Nat):Int)=(es.length:Int)+1 from rfl];have HB1:=hid (show aBu w1 (Ft 2) kb (es.length+1) (s+1)∧Kf (Ft 2) w w1 from⟨hb1,(Kf.of_below (F:=Ft 2) (Xu nB)).trans hk1 (fun b q=>.inl q)⟩);have hS1:Bk w1 mb 166 (Vp gm kb am qv 0 m):=Bk.ag HX.o.bx (HX.o.fam.ag HB1.o.2 (by decide:(0:Nat)≠2)) HX.o.f0;clear hb1 hk1;go_simp;clear nE;refine hK.out _ _ hS1 (fun nE=>?_);clear hK K;try simp only[Act.put,tC,tD,tE]
 refine kF 9 ?_;refine kF 10 ?_;refine kF 11 ?_;refine kF 12 ?_;refine kF 13 ?_;refine wpAnyH_done (by kernel_rfl) ?_ _;clear Kq;obtain⟨k0,_⟩:=KK.o _ hS1;obtain⟨el,⟨bm,sx,fx,hext,_⟩,_⟩:=HX.o.ext;have hbl:=aAx gm _ _ w1 (hext.ag (HX.o.fam.ag HB1.o.2 (by decide:(1:Nat)≠2))).bx;clear hext;go_wp2_with fail
 refine hbl.mono ?_;rintro e w' ⟨rfl,rfl⟩;clear hbl;go_wp2_with fail
 refine(aNp _).mono ?_;rintro e w2 ⟨⟨bb,rfl,hbuf,_,_⟩,hb2⟩;have HB2:=nI hbuf hb2 (hS1.next hb2 hS1.lt) trivial;clear hbuf hb2 hS1 k0;go_wp2_with fail
 have Kq:=KK;refine wp_region_held_drew (S:=fun w'=>Bk w' mb 166 (Vp gm kb am qv 0 m)) (by kernel_rfl) (HB2.o.2.2.1.drew) (fun nE=>?_);refine kF 0 ?_;refine kF 1 ?_;refine kF 2 ?_;refine kF 3 ?_;refine kF 4 ?_;refine kF 5 ?_;refine kF 6 ?_;refine kF 7 ?_;refine kF 8 ?_;refine kF 9 ?_;refine kF 10 ?_;refine kF 11 ?_;refine kF 12 ?_;refine kF 13 ?_;refine kF 14 ?_;refine kF 15 ?_;refine kF 16 ?_;refine kF 17 ?_;refine kF 18 ?_;refine rF 19 (fun K hK=>?_);go_simp;refine(aNb gm bb (m.last:Int) _).mono ?_;rintro e w3 ⟨⟨vb,rfl,hv,_,_⟩,hb3⟩;have hb23:nD w2 w3:=(Xu nB).trans hb3;have hS3:Bk w3 mb 166 (Vp gm kb am qv 0 m):=HB2.o.2.2.1.next hb23 HB2.o.2.2.1.lt;have HV3:=nF hv hb23;clear hv hb3 hb23;go_simp;clear nE;refine hK.out _ _ hS3 (fun nE=>?_);clear hK K;try simp only[Act.put,tC,tD,tE]
 refine kF 20 ?_;refine rF 21 (fun K hK=>?_);go_simp;obtain⟨w4,hw4⟩:=nC (w3.alloc (.cells #[.int .i64 1,.int .i64 0,.int .i64 0,.int .i64 (m.last:Int),.pointer (some ⟨bb,0,none⟩),.pointer (some ⟨vb,0,none⟩)] 174));have hb34:nD w3 w4:=by rw[←hw4];exact nB.alloc lR _
 have HW4:=nF hw4 hb34;have hS4:Bk w4 mb 166 (Vp gm kb am qv 0 m):=nE.next hb34 nE.lt;have HI4:=hid ((((HX.o.all.ag (HX.o.fam.ag HB1.o.2 (by decide:(0:Nat)≠2)) HX.o.f1).next HB2.o.2.1).next HV3.o.2).next hb34);rw[hw4];clear hb34 hw4;clear nE;refine hK.out _ _ hS4 (fun nE=>?_);clear hK K;try simp only[Act.put,tC,tD,tE]
 refine rF 22 (fun K hK=>?_);refine aAf rfl (aDc _ _ _ _ 164 rfl 3 170 Uy Ug aHa am es.length (Km es) (by rfl) HI4.o HL.o.1 ((es.length:Int)+1) (.pointer (some ⟨w3.heap.size,0,none⟩)) (by rfl) (by rfl) HL.o.2 ?_);intro w5 hI5 hG5;have HR:=hid (aOh HM.o.1 HM.o.2 HX.o HB1.o.2 HB1.o.1 HB2.o.2.1 HB2.o.1 HV3.o.2 HV3.o.1 HW4.o.1 hI5 hG5 (fun q=>by rw[HS.o.2.1 (by rw[HS.o.2.2.1,q];rfl)]));have hS5:Bk w5 mb 166 (Vp gm kb am qv 0 m):=(hG5.block _ nE.lt (fun e=>by injection e with e;exact HX.o.am_ne e)).trans nE;clear hI5 hG5;clear nE;refine hK.out _ _ hS5 (fun nE=>?_);clear hK K;try simp only[Act.put,tC,tD,tE]
 refine wpAnyH_done (by kernel_rfl) ?_ _;clear Kq;go_wp2_with fail
 go_ret2
 exact .inr ⟨by rw[←HS.o.2.2.1];rfl,HR.o⟩
theorem aUx:(prog.info? 107).map (·.size)=some 2:=by kernel_rfl
theorem aBa {fn:Func} {p u:Tmp} (h:fn.results=#[.cell p 107,.tmp u]) (tmps:Array Value) (w:World) (g:Nat) (cs:List Value) (hp:tmps.getD p undef=.pointer (some ⟨g,0,none⟩)) (hg:Bk w g 107 cs) (hl:cs.length=2:=by rfl) :
  (results fn tmps).run prog w=.ok (.tuple #[.agg cs.toArray,tmps.getD u undef]) w:=by
 rw[results_cell_tmp h,hp];simp[asAddr,run_loadVar_row w g 107 107 cs.toArray (0,0) _ hg underlying107 rfl (by rw[aUx];simp[hl]),Result.andThen]
theorem aJc {α V:Type} {f: α→List V} {n:Nat} (hf:∀a,(f a).length=n):∀(l:List α) (k:Nat),(l.flatMap f).take (k*n)=(l.take k).flatMap f
 | [],k=>by simp
 | a::l,0=>by simp
 | a::l,k+1=>by
   simp only[List.flatMap_cons,List.take_succ_cons];have:=aJc hf l k;have hl:(f a).length=n:=hf a;rw[List.take_append,rG (by rw[hl,Nat.succ_mul];omega),hl,show (k+1)*n - n=k*n by rw[Nat.succ_mul];omega,this]
theorem Ki.take {w:World} {A:Option Addr} {n c:Nat} {ts:List TxD} (h:Ki w A n c ts) {k:Nat} (hk:k≤n):Ki w A k c (ts.take k):=by
 have hl:=h.len;refine⟨by rw[rJ];omega,?_,fun t ht=>h.y t (rR ht),tK hk h.cap,h.big⟩;have:=h.rd.take (k*2);rwa [aJc aAu ts k] at this
theorem Us.far {w wr w9:World} {m:MS} {pv:Value} {ts:List TxD} {k g:Nat} (h:Us w wr m pv ts k) (kf:Kf (fun b=>b=g) wr w9) (hg:g<w.heap.size):Us w w9 m pv ts k:=by
 have ag:Ag (fun b=>w.heap.size≤b) wr w9:=kf.ag (fun b q r=>by have r:b=g:=r;omega);exact⟨Vj h.own ag (fun b q=>Xv h.own q),fun x hx=>⟨(h.y x hx).1,(h.y x hx).2.ag ag (fun b q=>Xv (h.y x hx).2.own q)⟩,h.at_,h.len⟩
theorem Us.is {w wr:World} {m:MS} {A:Option Addr} {c q:Nat} {ts:List TxD} (h:Us w wr m (.slice A q c) ts q):Ki wr A q c ts:=⟨h.len,Ve h.own,h.ps,(Vv h.own).1,(Vv h.own).2⟩
structure BaX (w w':World) (F:Xt) (Ft:Nat→Xt) (mb gm kb am:Nat) (qv:Value) (m:MS) (es:List TE) (N R n c:Nat) (A:Option Addr) (ts:List TxD):Prop where
 pos:0<n
 le:n≤m.queue.length
 is:Ki w' A n c ts
 ok:OkB ((m.num:Int)+1) ts
 man:Vl w' F Ft mb gm kb am qv n m es N R
 kf:Kf F w w'
 tm:∀t∈ts,t.time≤(m.given:Int)
def bCj (w:World) (F:Xt) (Ft:Nat→Xt) (mb gm kb am:Nat) (qv:Value) (m:MS) (es:List TE) (N R:Nat) (e:Ending) (w':World):Prop :=
 (m.queue=[]∧e=.returned (.tuple #[.agg #[.int .i64 0,.slice none 0 0],.int .i64 14])∧nD w w')∨(m.queue≠[]∧∃n c A ts,e=.returned (.tuple #[.agg #[.int .i64 ((m.num:Int)+1),.slice A n c],.int .i64 0])∧BaX w w' F Ft mb gm kb am qv m es N R n c A ts)
theorem aOj (F:Xt) (Ft:Nat→Xt) (mb gm kb am:Nat) (qv:Value) (m:MS) (es:List TE) (N R:Nat) (w:World) (h:Vl w F Ft mb gm kb am qv 0 m es N R) (good:Vq m) (hl:es.length≤100000) (hql:m.queue.length≤100000) (hnum:m.num<1000) :
  Calls prog 50 #[.pointer (some ⟨mb,0,none⟩)] w fun e w'=>bCj w F Ft mb gm kb am qv m es N R e w':=by
 obtain⟨w0,hw0⟩:=nC (w.alloc (.cells #[.int .i64 0,.slice none 0 0] 107));have hB0:Bk w0 w.heap.size 107 [.int .i64 0,.slice none 0 0]:=by rw[←hw0];exact Bk.new w _ _
 have hb0:nD w w0:=by rw[←hw0];exact nB.alloc lR _
 have h0:=h.next hb0;have hg:=aAl mb gm kb am 0 qv m w0 h0.bx;obtain⟨_,_,_,c3,c4,_⟩:=Xz h0.bx;obtain⟨qA,qc,hqv⟩:=Xs h0.own;rw[hqv] at c3;have HX:=hid h;have H0:=nH h0 hb0 hB0;have HG:=nI good hl hql hnum;have f00:=hB0.free 0;have z00:=hB0.cell (i:=0) (by simp);simp only[tI] at z00;have c4:w0.cell? ⟨mb,4,none⟩=some (.int .i64 0):=c4;obtain⟨q,hq⟩:=nC (m.queue.length);rw[hq] at c3;have HQ:=hid hq;by_cases hq0:m.queue=[]
 · obtain rfl:q=0:=by rw[←hq,hq0];rfl
   obtain⟨w8,hw8⟩:=nC ((w0.setCell ⟨w.heap.size,0,none⟩ (.int .i64 0)).setCell ⟨w.heap.size,1,none⟩ (.slice none 0 0));have hB8:Bk w8 w.heap.size 107 [.int .i64 0,.slice none 0 0]:=by rw[←hw8];exact(hB0.set 0 (.int .i64 0)).set 1 (.slice none 0 0)
   have hb8:nD w w8:=by rw[←hw8];exact(hb0.setCell (p:=⟨w.heap.size,0,none⟩) lR _).setCell (p:=⟨w.heap.size,1,none⟩) lR _
   have H8:=nH hB8 hb8 hq0;have f01:=(hB0.set 0 (.int .i64 0)).free 1;have z01:=(hB0.set 0 (.int .i64 0)).cell (i:=1) (by simp);simp only[tD,tJ,tI] at z01;clear h h0 good hl hql hnum hqv hB0 hb0 hB8 hb8 hq hq0;go_enter func50,ntmps50
   go_wp2_with fail
   try rw[hw0]
   refine hg.mono ?_;rintro e w' ⟨rfl,rfl⟩;clear hg;go_wp2_with fail
   (try simp only[Exit.inBlock,Exit.then,Exit.noGoto_ret])
   refine bodyPost_ret (aBa rfl _ _ _ _ (by rfl) H8.o.1) rfl ?_;exact .inl ⟨H8.o.2.2,rfl,H8.o.2.1⟩
 obtain⟨q',rfl⟩:∃q',q=q'+1:=⟨q - 1,by have:m.queue.length≠0:=fun e=>hq0 (List.length_eq_zero_iff.1 e);omega⟩
 have n1:(((q'+1:Nat):Int)==0)=false:=by
  have:¬((q'+1:Nat):Int)=0:=by omega
  simpa using this
 have hwt:=aDs F Ft mb gm kb am qv 0 m es N R w0 h0 (fun i hi=>by obtain⟨t,ht,_⟩:=good.que i hi;exact⟨t,ht⟩) hl hql;rw[hq] at hwt;have HN:=hid hq0;clear h h0 good hl hql hnum hqv hB0 hb0 hq hq0 f00 z00;go_enter func50,ntmps50
 go_wp2_with fail
 try rw[hw0]
 refine hg.mono ?_;rintro e w' ⟨rfl,rfl⟩;clear hg;go_wp2_with fail
 refine hwt.mono ?_;rintro e w1 ⟨⟨v1,ts,rfl,hwl⟩,hb1⟩;obtain⟨tA,tc,rfl⟩:=Xs hwl.own;have hok:=(Us.wait (by rw[HQ.o];exact hwl)).ok HG.o.1;have hf:=aUq tA (q'+1) tc ts w1 hwl.is (fun t ht=>(hok t ht).n.2);have h1:=H0.o.1.next hb1;have H1:=nI h1 hwl hok hb1;clear hwt hwl hok h1 hb1 c3 c4;go_wp2_with fail
 refine hf.mono ?_;rintro e w2 ⟨⟨k,rfl,hk,hk8,hks,hk0⟩,hb2⟩;have h2:=H1.o.1.next hb2;have f4:=h2.bx.free 4;have zN:w2.cell? ⟨mb,4,none⟩=some (.int .i64 0):=(Xz h2.bx).2.2.2.2.1;obtain⟨w3,hw3⟩:=nC (w2.setCell ⟨mb,4,none⟩ (.int .i64 (k:Int)));have hb3:Bk w3 mb 166 (Vp gm kb am qv k m):=by rw[←hw3];exact h2.bx.set 4 (.int .i64 (k:Int))
 have k3:Kf (fun b=>b=mb) w2 w3:=by rw[←hw3];exact(Kf.refl (fun b=>b=mb) w2).set h2.bx (by decide) (.inl rfl) 4 _
 have e3:=h2.cell k3 m k hb3 rfl rfl lR;have hlt:mb<w.heap.size:=HX.o.bx.lt;have hB3:Bk w3 w.heap.size 107 [.int .i64 0,.slice none 0 0]:=Bk.ag (F:=fun b=>b≠mb) ((H0.o.2.2.next H1.o.2.2.2 H0.o.2.2.lt).next hb2 (tL H0.o.2.2.lt H1.o.2.2.2.size)) (k3.ag (fun b q r=>q r)) (by show w.heap.size≠mb;omega);have hw3':=(H1.o.2.1.next hb2).far k3 (tL hlt H0.o.2.1.size);have kf3:Kf F w w3:=(Kf.of_below (F:=F) (H0.o.2.1.trans ((H1.o.2.2.2.trans (hb2.mono H1.o.2.2.2.size)).mono H0.o.2.1.size))).trans e3.2 (fun b q=>.inl q);have H3:=nJ e3.1 hw3' kf3 hB3 hlt;have HK:=nI hk hk8 hks (hk0 (Nat.succ_pos _));have KK:=hid (fun (w':World) (hS:Bk w' mb 166 (Vp gm kb am qv k m))=>nS (Xz hS).2.2.2.2.1 (Xz hS).2.2.2.2.2.1);have m1:wrap64 ((m.num:Int)+1)=(m.num:Int)+1:=by have:=HG.o.2.2.2;unfold wrap64;omega
 have m2:IntKind.i64.wrap ((m.num:Int)+1)=(m.num:Int)+1:=IntWalk.i64_in _ (by have:=HG.o.2.2.2;omega);have p1:(0:Int)≤(k:Int):=by omega
 have p2:(k:Int)≤(tc:Int):=by have:=(Vv H1.o.2.1.own).1;omega
 obtain⟨wd,hwd⟩:=nC (w3.drew);have hBd:Bk wd w.heap.size 107 [.int .i64 0,.slice none 0 0]:=by rw[←hwd];exact hB3.drew
 have f30:=hBd.free 0;have f31:=(hBd.set 0 (.int .i64 ((m.num:Int)+1))).free 1;have z30:=hBd.cell (i:=0) (by simp);have z31:=(hBd.set 0 (.int .i64 ((m.num:Int)+1))).cell (i:=1) (by simp);simp only[tD,tJ,tI] at z30 z31;obtain⟨w9,hw9⟩:=nC ((wd.setCell ⟨w.heap.size,0,none⟩ (.int .i64 ((m.num:Int)+1))).setCell ⟨w.heap.size,1,none⟩ (.slice tA k tc));have hB9:Bk w9 w.heap.size 107 [.int .i64 ((m.num:Int)+1),.slice tA k tc]:=by rw[←hw9];exact(hBd.set 0 (.int .i64 ((m.num:Int)+1))).set 1 (.slice tA k tc)
 have k9:Kf (fun b=>b=w.heap.size) w3 w9:=by rw[←hw9];exact((show Kf (fun b=>b=w.heap.size) w3 wd by rw[←hwd];exact(Kf.refl (fun b=>b=w.heap.size) w3).drew).set hBd (by decide) (.inl rfl) 0 _).set (hBd.set 0 (.int .i64 ((m.num:Int)+1))) (by decide) (.inl rfl) 1 _
 have hm9:=e3.1.ag (k9.ag (fun b q r=>by have:=HX.o.fam.lt b q;have r:b=w.heap.size:=r;omega));have hw9':=hw3'.far k9 H0.o.2.2.lt;have kf9:Kf F w w9:=kf3.trans (G:=fun b=>b=w.heap.size) k9 (fun b q=>.inr (by have q:b=w.heap.size:=q;omega));have hok9:=(Us.wait (by rw[HQ.o];exact hw9')).okB HG.o.1 (k:=k) (by rw[hw9'.len];exact hk) hk8 (hk0 (Nat.succ_pos _)) hks (num:=(m.num:Int)+1) (by have:=HG.o.2.2.2;omega);have H9:=nF hB9 (show BaX w w9 F Ft mb gm kb am qv m es N R k tc tA (ts.take k) from⟨hk0 (Nat.succ_pos _),by rw[HQ.o];exact hk,hw9'.is.take hk,hok9,hm9,kf9,fun t ht=>(Us.wait (by rw[HQ.o];exact hw9')).tm HG.o.1 t (rR ht)⟩);have hS9:=hm9.bx;clear hf h2 hb3 k3 e3 hlt hB3 hw3' kf3 hk hk8 hks hk0 hb2 hB9 k9 hm9 hw9' kf9 hok9 hBd;go_wp2_with fail
 have Kq:=KK;refine wp_region_held_drew (S:=fun w'=>Bk w' mb 166 (Vp gm kb am qv k m)) (by kernel_rfl) (H3.o.1.bx.drew) (fun nE=>?_);rw[hwd] at nE ⊢;refine kF 0 ?_;refine kF 1 ?_;refine kF 2 ?_;refine kF 3 ?_;refine kF 4 ?_;refine kF 5 ?_;refine kF 6 ?_;refine kF 7 ?_;refine kF 8 ?_;refine kF 9 ?_;refine kF 10 ?_;refine kF 11 ?_;refine rF 12 (fun K hK=>?_);go_simp;try rw[hw9]
 clear nE;refine hK.out _ _ hS9 (fun nE=>?_);clear hK K;try simp only[Act.put,tC,tD,tE]
 refine kF 13 ?_;refine wpAnyH_done (by kernel_rfl) ?_ _;clear Kq;go_wp2_with fail
 (try simp only[Exit.inBlock,Exit.then,Exit.noGoto_ret])
 refine bodyPost_ret (aBa rfl _ _ _ _ (by rfl) H9.o.1) rfl ?_;exact .inr ⟨HN.o,_,_,_,_,rfl,H9.o.2⟩
end Go.Proofs.YtdhlicgaalnmoaaGreatDoor.Tp
