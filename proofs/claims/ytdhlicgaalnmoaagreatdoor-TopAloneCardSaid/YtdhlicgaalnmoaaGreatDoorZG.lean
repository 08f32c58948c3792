/- Contracts of the program's functions, and laws on memory: a part of the proof of TopAlone. -/
import Derived.Test.YtdhlicgaalnmoaaGreatDoorZF
set_option linter.unusedSimpArgs false
set_option linter.unusedVariables false
namespace Go.Proofs.YtdhlicgaalnmoaaGreatDoor.Tp
open Lib (hid)
open Tryz
open Go.RowKit Go.Maps
set_option maxHeartbeats 8000000
set_option maxRecDepth 100000
def aGc (gm bb sb:Nat) (at':Int) (rv:Value):List Value:=[.pointer (some ⟨gm,0,none⟩),.pointer (some ⟨bb,0,none⟩),.int .i64 at',.pointer (some ⟨sb,0,none⟩),rv]
def ViS (vb g5 gm bb sb:Nat) (at' f l:Int) (rv:Value) (w:World):Prop:=Bk w vb 246 (aGc gm bb sb at' rv)∧Bk w g5 46 [.int .i64 f,.int .i64 l]
theorem ViS.cells {vb g5 gm bb sb:Nat} {at' f l:Int} {rv:Value} {w:World} (h:ViS vb g5 gm bb sb at' f l rv w):w.cell? ⟨vb,0,none⟩=some (.pointer (some ⟨gm,0,none⟩))∧w.cell? ⟨vb,1,none⟩=some (.pointer (some ⟨bb,0,none⟩))∧w.cell? ⟨vb,2,none⟩=some (.int .i64 at')∧w.cell? ⟨vb,3,none⟩=some (.pointer (some ⟨sb,0,none⟩))∧w.cell? ⟨vb,4,none⟩=some rv∧
  w.cell? ⟨g5,0,none⟩=some (.int .i64 f)∧w.cell? ⟨g5,1,none⟩=some (.int .i64 l) :=
 ⟨h.1.cell (i:=0) (by simp[aGc]),h.1.cell (i:=1) (by simp[aGc]),h.1.cell (i:=2) (by simp[aGc]),h.1.cell (i:=3) (by simp[aGc]),h.1.cell (i:=4) (by simp[aGc]),h.2.cell (i:=0) (by simp),h.2.cell (i:=1) (by simp)⟩
theorem ViS.next {vb g5 gm bb sb:Nat} {at' f l:Int} {rv:Value} {w w':World} (h:ViS vb g5 gm bb sb at' f l rv w) (hb:nD w w'):ViS vb g5 gm bb sb at' f l rv w':=⟨h.1.next hb h.1.lt,h.2.next hb h.2.lt⟩
theorem ViS.ag {vb g5 gm bb sb:Nat} {at' f l:Int} {rv:Value} {w w':World} {F:Xt} (h:ViS vb g5 gm bb sb at' f l rv w) (k:Kf F w w') (h1:¬F vb) (h2:¬F g5):ViS vb g5 gm bb sb at' f l rv w' :=
 ⟨Bk.ag (F:=fun b=>¬F b) h.1 (k.ag (fun b q r=>q r)) h1,Bk.ag (F:=fun b=>¬F b) h.2 (k.ag (fun b q r=>q r)) h2⟩
def aPa (w:World) (F:Xt) (vb gm bb nr:Nat) (at' l:Int) (w':World):Prop:=∃k F',(k≤17∧(l=1→k≤2))∧aBw w' F' vb gm bb (nr+k) at'∧Kf F w w'∧Sb w F F'∧In w' F'
def aIh (f l:Int) (nr:Nat):Prop:=l=1∧0≤f∧f<258∧nr<64
theorem aIh.with_ {f l:Int} {nr:Nat} (h:aIh f l nr):aBg ⟨f,l⟩=true:=by
 obtain⟨rfl,h1,h2,_⟩:=h;simp only[aBg,Bool.and_eq_true,decide_eq_true_eq];omega
theorem aYq {f:Int} {L:Nat} (h1:1≤L∧L≤16) (h2:0≤f∧f+(L:Int)≤258):∀y∈([⟨f,(L:Int)⟩]:List ExD),Kg y=true:=by
 intro y hy;obtain rfl:y=⟨f,(L:Int)⟩:=by simpa using hy
 simp only[Kg,Bool.and_eq_true,decide_eq_true_eq];omega
theorem Ka.reset {wA wB wC:World} {F Fs Fs2:Xt} {vb gm bb sb nr:Nat} {at':Int} {rv:Value} {rs:List RdD} (h:Ka wA F Fs vb gm bb sb nr at' rv rs) (hI:In wA F) (hb:nD wA wB) (hk:Kf Fs wB wC) (hs:aDf wC Fs2 sb 64 (nr+1)) (hbg:nr+1≤100000) (hsb:Sb wB Fs Fs2) (hin:In wC Fs2) :
  Ka wC (orF F Fs2) Fs2 vb gm bb sb (nr+1) at' rv rs∧Kf F wA wC∧Sb wA F (orF F Fs2)∧In wC (orF F Fs2):=by
 have hB:=h.ag (.of_below hb);have hlt:∀b,F b→¬Fs b→¬Fs2 b:=fun b q r s=>(hsb b s).elim r (fun t=>by have:=hI b q;have:=hb.size;omega)
 have ag:Ag (fun b=>¬Fs b) wB wC:=hk.ag (fun b q r=>q r)
 exact⟨⟨Bk.ag (F:=fun b=>¬Fs b) hB.bx ag h.ns,hs,Vj (F:=fun b=>¬Fs b) hB.own ag (fun g e=>(h.fr g e).2),fun r hr=>(hB.y r hr).ag (F:=fun _=>False) (hk.ag (fun _ s=>s.elim)),tM h.le,hbg,fun b q=>.inr q,hlt vb h.f0 h.ns,fun g e=>⟨.inl (h.fr g e).1,hlt g (h.fr g e).1 (h.fr g e).2⟩,.inl h.f0⟩,
  (Kf.of_below (F:=F) hb).trans (G:=F) (hk.mono h.sub) (fun b q=>.inl q),fun b q=>q.elim .inl (fun s=>(hsb b s).imp (h.sub b) (fun t=>tK hb.size t)),fun b q=>q.elim (fun s=>tL (hI b s) (tK hb.size hk.size)) (hin b)⟩
theorem aTv {w:World} {B:Nat} {v:Value} {bs:List Int} (h:Byt w B v bs) (h0:0<bs.length):∃g cap,v=.slice (some ⟨g,0,none⟩) bs.length cap∧B≤g∧g<w.heap.size∧bs.length≤cap:=by
 rcases h.1.2 with ⟨_,h1⟩|⟨g,cap,cur,hv,hB,hh,hnc,_⟩
 · omega
 · exact⟨g,cap,hv,hB,Vz hh,hnc⟩
theorem bCr {w w':World} {B B':Nat} {v:Value} {bs:List Int} {F:Xt} (h:Byt w B v bs) (k:Ag F w w') (hF:∀g,v.ownBlock=some g→F g) (hB:B'≤B):Byt w' B' v bs:=⟨ownsRow_base_a (Vj h.1 k hF) hB,h.2⟩
structure VwL (w wr:World) (F Fk:Xt) (vb g5 gm bb nr go n cap:Nat) (at' f l:Int):Prop where
 vw:∃Fs sb rv rs,Ka wr Fk Fs vb gm bb sb nr at' rv rs∧aXf rs go
 out:∃bs,Byt wr w.heap.size (.slice (some ⟨go,0,none⟩) n cap) bs∧bs.length=n
 kf:Kf F w wr
 sb:Sb w F Fk
 inn:In wr Fk
 ng:¬Fk go
 n5:¬Fk g5
 b5:Bk wr g5 46 [.int .i64 f,.int .i64 l]
 go1:w.heap.size≤go
theorem VwL.post {w wr:World} {F Fk:Xt} {vb g5 gm bb nr go n cap m:Nat} {at' f l:Int} (h:VwL w wr F Fk vb g5 gm bb m go n cap at' f l) (k:Nat) (hk:k≤17∧(l=1→k≤2)) (hm:m≤nr+k) (hb:nr+k≤100000):aPa w F vb gm bb nr at' l wr:=by
 obtain⟨Fs,sb,rv,rs,hv,_⟩:=h.vw;exact⟨k,Fk,hk,⟨Fs,sb,rv,rs,hv.up hm hb⟩,h.kf,h.sb,h.inn⟩
theorem VwL.step {w wr w6 w7 wB wC wD:World} {F Fk Fs:Xt} {vb g5 gm bb sb go n cap m:Nat} {at' f l:Int} {rv rv':Value} {rs:List RdD} (h:VwL w wr F Fk vb g5 gm bb m go n cap at' f l) (hv:Ka wr Fk Fs vb gm bb sb m at' rv rs) (ha:aXf rs go) (h6:nD wr w6) (h7:w6.grownBy w7 (some go)) (hgo:go<wr.heap.size) (h5:g5≠go)
  (ho7:∃bs,Byt w7 w.heap.size (.slice (some ⟨go,0,none⟩) n cap) bs∧bs.length=n) (hb:nD w7 wB) (r:RdD) (hy:IsY wB r.A 40 r.c r.bs) (hra:∀ad,r.A=some ad→ad.block≠go) (ho:wC.ownsRow 0 204 3 rv' (rs.length+1) (rs.flatMap RdD.cells++r.cells)) (hg:wB.grownBy wC rv.ownBlock)
  (hvv:rv'.ownBlock=rv.ownBlock∨rv'.ownBlock=some wB.heap.size) (e:wD=wC.setCell ⟨vb,4,none⟩ rv') (hbig:m+1≤100000):∃F',VwL w wD F F' vb g5 gm bb (m+1) go n cap at' f l:=by
 have v7:=(hv.ag (.of_below h6)).but h7 h.ng ha;have I7:In w7 Fk:=h.inn.next (tK h6.size h7.size);obtain⟨hX,hK,hS,hI⟩:=v7.push I7 hb r hy ho hg hvv e hbig;have k7:Kf F w w7:=(h.kf.next h6).growNew h7 h.go1;have hz:=h7.size;have hz6:=h6.size;have b7:Bk w7 g5 46 [.int .i64 f,.int .i64 l]:=aJv (h.b5.next h6 h.b5.lt) h7 h5;obtain⟨bs,hbs,hl⟩:=ho7
 refine⟨_,⟨⟨Fs,sb,rv',rs++[r],hX,fun x hx ad q=>?_⟩,⟨bs,hbs.ag (F:=fun _=>False) (hK.ag (fun _ q=>q.elim)),hl⟩,k7.trans hK h.sb,fun b q=>(hS b q).elim (h.sb b) (fun t=>.inr (tK k7.size t)),hI,fun q=>(hS go q).elim h.ng (fun t=>by omega),
  fun q=>(hS g5 q).elim h.n5 (fun t=>by have:=b7.lt;omega),Bk.ag (F:=fun b=>¬Fk b) b7 (hK.ag (fun b q s=>q s)) h.n5,h.go1⟩⟩
 rcases rE.1 hx with s|s
 · exact ha x s ad q
 · obtain rfl:x=r:=by simpa using s
   exact hra ad q
theorem aOd (w:World) (g:Option Nat):w.grownBy w g:=⟨rfl,rfl,rfl,lR,fun _ _ _=>rfl⟩
theorem bBw {k cap L:Nat} (h:k<L) (hL:L≤16) (hc:40*L≤cap):∃lo hi:Nat,Hid (lo=k*40∧hi=lo+40∧hi≤40*L)∧wrap64 ((k:Int)*40)=(lo:Int)∧wrap64 ((k:Int)+1)=(k:Int)+1∧wrap64 (((k:Int)+1)*40)=(hi:Int)∧(0:Int)≤(lo:Int)∧(lo:Int)≤(hi:Int)∧(hi:Int)≤(cap:Int)∧(0:Int)≤(hi:Int)∧¬cap=lo∧hi - lo=40:=by
 refine⟨k*40,k*40+40,hid ⟨rfl,rfl,by omega⟩,?_,?_,?_,?_,?_,?_,?_,?_,?_⟩<;>first|omega|(unfold wrap64;omega)
def VWI (F:Xt) (w:World) (vb gm bb nr go L cap:Nat) (at' f:Int) (c1 c2 c4 c5 c7 qX jC jK jL jM jN jO jP jQ jR jS jT jU jV jW jX jY jZ zB zC zD zE zF zG zH zI zJ zK Xr zM zN zO zP zQ zR zS zT zU zV zW zX zY qQ:Value) (a:Act) (wr:World):Prop :=
 ∃u8 u9 xW vI hC hJ hU gA gB gC gD gE gF gG gH gI gJ gK gL gM gN gO gP gQ gR gT gU gV gW gX gY gZ fA fC fD fE fF fG fH fI fJ fK fL fM fN fO fP fQ fR xX xY xZ vB vC vD vE vF vG vH vJ vK vL:Value,(∃k Fk,k≤L∧hC=.int .i64 (k:Int)∧VwL w wr F Fk vb w.heap.size gm bb (nr+k) go (40*L) cap at' f L)∧a=⟨#[.pointer (some ⟨vb,0,none⟩),c1,c2,.pointer (some ⟨w.heap.size,0,none⟩),c4,c5,.slice (some ⟨go,0,none⟩) (40*L) cap,c7,u8,u9,xW,vI,qX,jC,jK,jL,jM,jN,jO,jP,jQ,jR,jS,jT,jU,jV,jW,jX,jY,jZ,zB,zC,zD,zE,zF,zG,zH,zI,zJ,zK,Xr,zM,zN,zO,zP,zQ,zR,zS,zT,zU,zV,zW,zX,zY,.int .i64 (L:Int),hC,hJ,hU,gA,gB,gC,gD,gE,gF,gG,gH,gI,gJ,gK,gL,gM,gN,gO,gP,gQ,gR,gT,gU,gV,gW,gX,gY,gZ,fA,fC,fD,fE,fF,fG,fH,fI,fJ,fK,fL,fM,fN,fO,fP,fQ,fR,xX,xY,xZ,vB,vC,vD,vE,vF,vG,vH,vJ,vK,vL,qQ],[]⟩
theorem VWI.mk {F:Xt} {w wr:World} {vb gm bb nr go L cap:Nat} {at' f:Int} {c1 c2 c4 c5 c7 qX jC jK jL jM jN jO jP jQ jR jS jT jU jV jW jX jY jZ zB zC zD zE zF zG zH zI zJ zK Xr zM zN zO zP zQ zR zS zT zU zV zW zX zY qQ:Value} {u8 u9 xW vI hC hJ hU gA gB gC gD gE gF gG gH gI gJ gK gL gM gN gO gP gQ gR gT gU gV gW gX gY gZ fA fC fD fE fF fG fH fI fJ fK fL fM fN fO fP fQ fR xX xY xZ vB vC vD vE vF vG vH vJ vK vL:Value} (h:∃k Fk,k≤L∧hC=.int .i64 (k:Int)∧VwL w wr F Fk vb w.heap.size gm bb (nr+k) go (40*L) cap at' f L) :
  VWI F w vb gm bb nr go L cap at' f c1 c2 c4 c5 c7 qX jC jK jL jM jN jO jP jQ jR jS jT jU jV jW jX jY jZ zB zC zD zE zF zG zH zI zJ zK Xr zM zN zO zP zQ zR zS zT zU zV zW zX zY qQ ⟨#[.pointer (some ⟨vb,0,none⟩),c1,c2,.pointer (some ⟨w.heap.size,0,none⟩),c4,c5,.slice (some ⟨go,0,none⟩) (40*L) cap,c7,u8,u9,xW,vI,qX,jC,jK,jL,jM,jN,jO,jP,jQ,jR,jS,jT,jU,jV,jW,jX,jY,jZ,zB,zC,zD,zE,zF,zG,zH,zI,zJ,zK,Xr,zM,zN,zO,zP,zQ,zR,zS,zT,zU,zV,zW,zX,zY,.int .i64 (L:Int),hC,hJ,hU,gA,gB,gC,gD,gE,gF,gG,gH,gI,gJ,gK,gL,gM,gN,gO,gP,gQ,gR,gT,gU,gV,gW,gX,gY,gZ,fA,fC,fD,fE,fF,fG,fH,fI,fJ,fK,fL,fM,fN,fO,fP,fQ,fR,xX,xY,xZ,vB,vC,vD,vE,vF,vG,vH,vJ,vK,vL,qQ],[]⟩ wr:=⟨u8,u9,xW,vI,hC,hJ,hU,gA,gB,gC,gD,gE,gF,gG,gH,gI,gJ,gK,gL,gM,gN,gO,gP,gQ,gR,gT,gU,gV,gW,gX,gY,gZ,fA,fC,fD,fE,fF,fG,fH,fI,fJ,fK,fL,fM,fN,fO,fP,fQ,fR,xX,xY,xZ,vB,vC,vD,vE,vF,vG,vH,vJ,vK,vL,h,rfl⟩
def vmu (L:Nat) (a:Act) (_:World):Nat:=L - (intOf (a.tmps.getD 55 undef)).toNat
theorem aKx {vb go L cap:Nat} {w wr:World} {x:Int} {c1 c2 c4 c5 c7 qX jC jK jL jM jN jO jP jQ jR jS jT jU jV jW jX jY jZ zB zC zD zE zF zG zH zI zJ zK Xr zM zN zO zP zQ zR zS zT zU zV zW zX zY qQ u8 u9 xW vI hJ hU gA gB gC gD gE gF gG gH gI gJ gK gL gM gN gO gP gQ gR gT gU gV gW gX gY gZ fA fC fD fE fF fG fH fI fJ fK fL fM fN fO fP fQ fR xX xY xZ vB vC vD vE vF vG vH vJ vK vL:Value}:vmu L ⟨#[.pointer (some ⟨vb,0,none⟩),c1,c2,.pointer (some ⟨w.heap.size,0,none⟩),c4,c5,.slice (some ⟨go,0,none⟩) (40*L) cap,c7,u8,u9,xW,vI,qX,jC,jK,jL,jM,jN,jO,jP,jQ,jR,jS,jT,jU,jV,jW,jX,jY,jZ,zB,zC,zD,zE,zF,zG,zH,zI,zJ,zK,Xr,zM,zN,zO,zP,zQ,zR,zS,zT,zU,zV,zW,zX,zY,.int .i64 (L:Int),.int .i64 x,hJ,hU,gA,gB,gC,gD,gE,gF,gG,gH,gI,gJ,gK,gL,gM,gN,gO,gP,gQ,gR,gT,gU,gV,gW,gX,gY,gZ,fA,fC,fD,fE,fF,fG,fH,fI,fJ,fK,fL,fM,fN,fO,fP,fQ,fR,xX,xY,xZ,vB,vC,vD,vE,vF,vG,vH,vJ,vK,vL,qQ],[]⟩ wr=L - x.toNat:=rfl
theorem bFu (F Fb Fk:Xt) (w wr:World) (vb gm bb nr go L cap mb sB k:Nat) (at' f:Int) (ks:List Int) (fB:Int→Option Value) (c1 c2 c4 c5 c7 qX jC jK jL jM jN jO jP jQ jR jS jT jU jV jW jX jY jZ zB zC zD zE zF zG zH zI zJ zK Xr zM zN zO zP zQ zR zS zT zU zV zW zX zY qQ u8 u9 xW vI hJ hU gA gB gC gD gE gF gG gH gI gJ gK gL gM gN gO gP gQ gR gT gU gV gW gX gY gZ fA fC fD fE fF fG fH fI fJ fK fL fM fN fO fP fQ fR xX xY xZ vB vC vD vE vF vG vH vJ vK vL:Value) (Q0:Exit→Act→World→Prop) (hpan:∀c a d v w,Q0 (.panic c) (Act.put a d v) w→Q0 (.panic c) a w)
  (hbig:nr+16≤100000) (hL:VwL w wr F Fk vb w.heap.size gm bb (nr+k) go (40*L) cap at' f L) (hB:aDd w Fb bb mb sB ks fB) (hD:Dis Fb F) (hN:(1≤L∧L≤16)∧w.heap.size≤go∧40*L≤cap∧(0≤f∧f+(L:Int)≤258)) (hlt:k<L) (hok:(fB (f+(k:Int))).isSome=true) :
  Code.wp prog (Ur Tryz.f92) (Exit.then (fun a' w''=>VWI F w vb gm bb nr go L cap at' f c1 c2 c4 c5 c7 qX jC jK jL jM jN jO jP jQ jR jS jT jU jV jW jX jY jZ zB zC zD zE zF zG zH zI zJ zK Xr zM zN zO zP zQ zR zS zT zU zV zW zX zY qQ a' w''∧vmu L a' w'' <vmu L ⟨#[.pointer (some ⟨vb,0,none⟩),c1,c2,.pointer (some ⟨w.heap.size,0,none⟩),c4,c5,.slice (some ⟨go,0,none⟩) (40*L) cap,c7,u8,u9,xW,vI,qX,jC,jK,jL,jM,jN,jO,jP,jQ,jR,jS,jT,jU,jV,jW,jX,jY,jZ,zB,zC,zD,zE,zF,zG,zH,zI,zJ,zK,Xr,zM,zN,zO,zP,zQ,zR,zS,zT,zU,zV,zW,zX,zY,.int .i64 (L:Int),.int .i64 (k:Int),hJ,hU,gA,gB,gC,gD,gE,gF,gG,gH,gI,gJ,gK,gL,gM,gN,gO,gP,gQ,gR,gT,gU,gV,gW,gX,gY,gZ,fA,fC,fD,fE,fF,fG,fH,fI,fJ,fK,fL,fM,fN,fO,fP,fQ,fR,xX,xY,xZ,vB,vC,vD,vE,vF,vG,vH,vJ,vK,vL,qQ],[]⟩ wr) Q0) ⟨#[.pointer (some ⟨vb,0,none⟩),c1,c2,.pointer (some ⟨w.heap.size,0,none⟩),c4,c5,.slice (some ⟨go,0,none⟩) (40*L) cap,c7,u8,u9,xW,vI,qX,jC,jK,jL,jM,jN,jO,jP,jQ,jR,jS,jT,jU,jV,jW,jX,jY,jZ,zB,zC,zD,zE,zF,zG,zH,zI,zJ,zK,Xr,zM,zN,zO,zP,zQ,zR,zS,zT,zU,zV,zW,zX,zY,.int .i64 (L:Int),.int .i64 (k:Int),hJ,hU,gA,gB,gC,gD,gE,gF,gG,gH,gI,gJ,gK,gL,gM,gN,gO,gP,gQ,gR,gT,gU,gV,gW,gX,gY,gZ,fA,fC,fD,fE,fF,fG,fH,fI,fJ,fK,fL,fM,fN,fO,fP,fQ,fR,xX,xY,xZ,vB,vC,vD,vE,vF,vG,vH,vJ,vK,vL,qQ],[]⟩ wr:=by
 obtain⟨i0,hi,hz0,hz1,hz2⟩:=info_parts aBq;obtain⟨xi,xz,hxi,hxz,hx5,hx56,hxc⟩:=aHo;have HL:=hid hL;have HBF:=hid hB;have HD2:=hid hD;have HN2:=hid hN;clear hL hB hD hN;conv=>arg 2;whnf
 have n0:(k:Int)<(L:Int):=by omega
 obtain⟨Fs,sb,rv,rs,hX,ha⟩:=HL.o.vw;obtain⟨rA,rc,hrv⟩:=Xs hX.own;subst hrv;have hrl:rs.length≤100000:=tK hX.le hX.big;obtain⟨m,hm⟩:=nC (rs.length);rw[hm] at hX hrl;obtain⟨bs,hbs,hbl⟩:=HL.o.out;have hbx:=hX.bx;have hsr:ViS vb w.heap.size gm bb sb at' f L (.slice rA m rc) wr:=⟨hbx,HL.o.b5⟩;have KR:=hid (fun (w':World) (hS:nD wr w')=>(hsr.next hS).cells);have m0:wrap64 (f+(k:Int))=f+(k:Int):=by have:=HN2.o.2.2.2;unfold wrap64;omega
 have m0w:IntKind.i64.wrap (f+(k:Int))=f+(k:Int):=IntWalk.i64_in _ (by have:=HN2.o.2.2.2;omega);have hxw:Un (f+(k:Int)):=by have:=HN2.o.2.2.2;exact aDt (by omega) (by omega)
 have HSR:=hid hsr;have HX2:=nF hX ha;have HO2:=nF hbs hbl;have HB2:=hid (HBF.o.ag (HL.o.kf.ag HD2.o));obtain⟨lo,hi',HLO,m1,m2,m3,m4,m5,m6,m7,m8,m9⟩:=bBw hlt HN2.o.1.2 HN2.o.2.2.1;have HLT:=hid hlt;clear hlt;clear hX ha hbs hbl hbx hsr;go_wp2_with fail
 have Kq:=KR;refine wp_region_held_drew (S:=fun w'=>nD wr w') (by kernel_rfl) (Xu nB) (fun nE=>?_);refine kF 0 ?_;refine kF 1 ?_;refine kF 2 ?_;refine kF 3 ?_;refine kF 4 ?_;refine kF 5 ?_;refine kF 6 ?_;refine kF 7 ?_;refine rF 8 (fun K hK=>?_);go_simp;refine(aHd Fb bb mb sB ks fB (f+(k:Int)) _ (HB2.o.ag (.of_below nE)) hxw).mono ?_;rintro e w6 ⟨⟨v6,n6,bs6,rfl,hy6,hl6,h406⟩,hb6⟩;have hB6:nD wr w6:=nE.trans (hb6.mono nE.size);have HY6:=nH hy6 hl6 nE.size;try rw[hok]
 have H40:=hid h406;clear hy6 hl6 h406 hb6;go_simp;clear nE;refine hK.out _ _ hB6 (fun nE=>?_);clear hK K;try simp only[Act.put,tC,tD,tE]
 refine kF 9 ?_;refine kF 10 ?_;refine kF 11 ?_;refine kF 12 ?_;refine kF 13 ?_;refine wpAnyH_done (by kernel_rfl) ?_ _;clear Kq;have HM:=nF m2 m9;have HME:=hid (show L - (k+1)<L - k from Nat.sub_lt_sub_left HLT.o (Nat.lt_succ_self k));clear m1 m2 m3 m4 m5 m6 m7 m8 m9 hxw;have HGO:=hid (show go<wr.heap.size from by obtain⟨_,_,q⟩:=Vx HO2.o.1.1 (g:=go) rfl;exact Vz q);have hX6:=HX2.o.1.ag (.of_below nE);have hO6:=HO2.o.1.next nE;have hsr6:=HSR.o.next nE;have HH6:=nI nE hX6 hO6 hsr6;obtain rfl:n6=40:=H40.o hok;obtain⟨yA,yc,rfl,hy6⟩:=HY6.o.1.isY;have hl6:=HY6.o.2.1;rw[hl6] at hy6;rw[hl6];have HY7:=hid hy6;clear hX6 hO6 hsr6 nE hy6 hl6;go_wp2_with ((with_reducible refine aKy rfl (.tmp 78) (.tmp 79) rfl go (40*L) cap lo (cap - lo) ?c1 yA yc bs6 ?c2 ?c3 w.heap.size bs ?c4 ?c5 ?c6 ?_);(case c1=>rfl);(case c2=>rfl);(case c3=>exact HY7.o);(case c4=>exact HH6.o.2.2.1);(case c5=>exact HO2.o.2);(case c6=>(have:=HLO.o;omega));intro w7 bs7 hO7 hl7 hG7)
 have hne:w.heap.size≠go:=fun q=>Vc HH6.o.2.2.1.1 HH6.o.2.2.2.2 (by decide) (congrArg some q.symm)
 have hX7:=HH6.o.2.1.but hG7 HL.o.ng HX2.o.2;have b57:=aJv HH6.o.2.2.2.2 hG7 hne;have KS:=hid (fun (w':World) (hS:Ag (aDg (.slice rA m rc)) w7 w')=>nT ((Bk.ag hX7.bx hS (fun e=>Vc hX7.own hX7.bx (by decide) e)).cell (i:=4) (by simp)) ((Bk.ag b57 hS (fun e=>Vc hX7.own b57 (by decide) e)).cell (i:=0) (by simp)) ((Bk.ag b57 hS (fun e=>Vc hX7.own b57 (by decide) e)).cell (i:=1) (by simp)));have HX7:=nJ hX7 hG7 hne hO7 hl7
 have hyg:∀ad,yA=some ad→ad.block≠go:=fun ad q=>by
  have h1:=Xv (g:=ad.block) HY6.o.1.1 (by rw[q];rfl);have h2:=HGO.o;have h3:wr.drew.heap.size=wr.heap.size:=rfl;omega
 have HNY:=hid hyg;have HY77:=hid (HY7.o.but HX7.o.2.1 hyg);clear hX7 b57 hG7 hne hO7 hl7 hyg;have Kq:=KS;refine Vn (Ag (aDg (.slice rA m rc)) w7) [15] (by kernel_rfl) (Ag.of_below (Xu nB)) (fun nE=>?_);refine kM 0 ?_;refine kM 1 ?_;refine kM 2 ?_;refine kM 3 ?_;refine kM 4 ?_;refine kM 5 ?_;refine kM 6 ?_;refine kM 7 ?_;refine kM 8 ?_;refine kM 9 ?_;refine kM 10 ?_;refine rM 11 (fun K hK=>?_);go_simp;refine hK.out _ _ (fun _ _=>Ag.of_below (F:=aDg (.slice rA m rc)) ((Xu (Below.refl w7.heap.size w7)).alloc lR (.cells #[.int .i64 (f+(k:Int)),.slice yA 40 yc,.bool true] 204))) ?_;clear hK K nE;have nE:=Ag.of_below (F:=aDg (.slice rA m rc)) ((Xu (Below.refl w7.heap.size w7)).alloc lR (.cells #[.int .i64 (f+(k:Int)),.slice yA 40 yc,.bool true] 204));try simp only[Act.put,tC,tD,tE]
 refine rM 12 (fun K hK=>?_);obtain⟨w9,hw9⟩:=nC ((w7.alloc (.cells #[.int .i64 (f+(k:Int)),.slice yA 40 yc,.bool true] 204)).drew);have hk90:Bk (w7.alloc (.cells #[.int .i64 (f+(k:Int)),.slice yA 40 yc,.bool true] 204)) w7.heap.size 204 [.int .i64 (f+(k:Int)),.slice yA 40 yc,.bool true]:=Bk.new w7 _ _;have hk9:Bk w9 w7.heap.size 204 [.int .i64 (f+(k:Int)),.slice yA 40 yc,.bool true]:=by rw[←hw9];exact hk90.next (Xu nB) hk90.lt
 have hb89:nD w7 w9:=by rw[←hw9];exact Xu ((Below.refl w7.heap.size w7).alloc lR _)
 have hb9:nD w7 w9:=hb89;have hx9:=HX7.o.1.ag (.of_below hb9);have hy9:=HY77.o.ag (F:=fun _=>True) (.of_below hb9);try rw[hw9]
 refine aAf rfl (aAw w9 _ _ 68 rfl 0 204 xi xz 3 40 underlying68 hxi hxz hx5 hx56 hxc (by omega) (.slice rA m rc) rs.length (rs.flatMap RdD.cells) (by rfl) hx9.own w9.heap.size (some ⟨w7.heap.size,0,none⟩) 1 1 [.int .i64 (f+(k:Int)),.slice yA 40 yc,.bool true] (by rfl) rfl hk9.rd (by intro u hu;simp at hu;rcases hu with rfl|rfl|rfl<;>rfl) (by omega) (by omega) zL ?_);intro fS w10 hO10 hG10 hv10;obtain⟨zA,zc,rfl⟩:=Xs hO10;have hA10:Ag (aDg (.slice rA m rc)) w9 w10:=Ag.grown hx9.own (by decide) hG10 (fun g e q=>q e);have hS10:Ag (aDg (.slice rA m rc)) w7 w10:=(Ag.of_below hb9).trans hA10;have bx10:=Bk.ag hx9.bx hA10 (fun e=>Vc hx9.own hx9.bx (by decide) e);have q4:=bx10.cell (i:=4) (by simp);simp only[tI,tJ] at q4;have f4:=bx10.free 4;obtain⟨w11,hw11⟩:=nC (w10.setCell ⟨vb,4,none⟩ (.slice zA (rs.length+1) zc));have hw11':w10.setCell ⟨vb,4,none⟩ (.slice zA (m+1) zc)=w11:=by rw[←hm];exact hw11
 have HE:=hid (HL.o.step HX2.o.1 HX2.o.2 HH6.o.1 HX7.o.2.1 HGO.o HX7.o.2.2.1 ⟨_,HX7.o.2.2.2⟩ hb9 ⟨f+(k:Int),yA,yc,_,true⟩ hy9 (fun ad q=>HNY.o ad q) hO10 hG10 hv10 hw11.symm (by have:=HLT.o;have:=HN2.o.1;omega));clear hO10 hG10 hv10 hb9 hk9 hk90 hb89 hx9 hy9 hA10 bx10;refine hK.out _ _ (fun _ _=>hS10) ?_;clear hK K nE;have nE:=hS10;try simp only[Act.put,tC,tD,tE]
 refine kR 13 ?_;refine kR 14 ?_;refine rM 15 (fun K hK=>?_);go_simp;refine hK.out _ _ (fun h=>absurd (by decide) h) ?_;clear hK K;try simp only[Act.put,tC,tD,tE]
 refine Vs (by kernel_rfl) ?_ _;clear Kq;have HE2:=HE;clear HE hS10 q4 f4 hw11 hw11';have m2:=HM.o.1;go_wp2_with fail
 obtain⟨F',hV⟩:=HE2.o;refine⟨?_,?_⟩
 · refine VWI.mk ?_;exact⟨k+1,F',HLT.o,Va (by first|rfl|exact m2),hV⟩
 · rw[aKx,aKx];exact Xw HLT.o (by first|rfl|exact m2)
theorem bFt (F Fb Fk:Xt) (w wr:World) (vb gm bb nr go L cap mb sB k:Nat) (at' f:Int) (ks:List Int) (fB:Int→Option Value) (c1 c2 c4 c5 c7 qX jC jK jL jM jN jO jP jQ jR jS jT jU jV jW jX jY jZ zB zC zD zE zF zG zH zI zJ zK Xr zM zN zO zP zQ zR zS zT zU zV zW zX zY qQ u8 u9 xW vI hJ hU gA gB gC gD gE gF gG gH gI gJ gK gL gM gN gO gP gQ gR gT gU gV gW gX gY gZ fA fC fD fE fF fG fH fI fJ fK fL fM fN fO fP fQ fR xX xY xZ vB vC vD vE vF vG vH vJ vK vL:Value) (Q0:Exit→Act→World→Prop) (hpan:∀c a d v w,Q0 (.panic c) (Act.put a d v) w→Q0 (.panic c) a w)
  (hbig:nr+16≤100000) (hL:VwL w wr F Fk vb w.heap.size gm bb (nr+k) go (40*L) cap at' f L) (hB:aDd w Fb bb mb sB ks fB) (hD:Dis Fb F) (hN:(1≤L∧L≤16)∧w.heap.size≤go∧40*L≤cap∧(0≤f∧f+(L:Int)≤258)) (hlt:k<L) (hok:(fB (f+(k:Int))).isSome=false) :
  Code.wp prog (Ur Tryz.f92) (Exit.then (fun a' w''=>VWI F w vb gm bb nr go L cap at' f c1 c2 c4 c5 c7 qX jC jK jL jM jN jO jP jQ jR jS jT jU jV jW jX jY jZ zB zC zD zE zF zG zH zI zJ zK Xr zM zN zO zP zQ zR zS zT zU zV zW zX zY qQ a' w''∧vmu L a' w'' <vmu L ⟨#[.pointer (some ⟨vb,0,none⟩),c1,c2,.pointer (some ⟨w.heap.size,0,none⟩),c4,c5,.slice (some ⟨go,0,none⟩) (40*L) cap,c7,u8,u9,xW,vI,qX,jC,jK,jL,jM,jN,jO,jP,jQ,jR,jS,jT,jU,jV,jW,jX,jY,jZ,zB,zC,zD,zE,zF,zG,zH,zI,zJ,zK,Xr,zM,zN,zO,zP,zQ,zR,zS,zT,zU,zV,zW,zX,zY,.int .i64 (L:Int),.int .i64 (k:Int),hJ,hU,gA,gB,gC,gD,gE,gF,gG,gH,gI,gJ,gK,gL,gM,gN,gO,gP,gQ,gR,gT,gU,gV,gW,gX,gY,gZ,fA,fC,fD,fE,fF,fG,fH,fI,fJ,fK,fL,fM,fN,fO,fP,fQ,fR,xX,xY,xZ,vB,vC,vD,vE,vF,vG,vH,vJ,vK,vL,qQ],[]⟩ wr) Q0) ⟨#[.pointer (some ⟨vb,0,none⟩),c1,c2,.pointer (some ⟨w.heap.size,0,none⟩),c4,c5,.slice (some ⟨go,0,none⟩) (40*L) cap,c7,u8,u9,xW,vI,qX,jC,jK,jL,jM,jN,jO,jP,jQ,jR,jS,jT,jU,jV,jW,jX,jY,jZ,zB,zC,zD,zE,zF,zG,zH,zI,zJ,zK,Xr,zM,zN,zO,zP,zQ,zR,zS,zT,zU,zV,zW,zX,zY,.int .i64 (L:Int),.int .i64 (k:Int),hJ,hU,gA,gB,gC,gD,gE,gF,gG,gH,gI,gJ,gK,gL,gM,gN,gO,gP,gQ,gR,gT,gU,gV,gW,gX,gY,gZ,fA,fC,fD,fE,fF,fG,fH,fI,fJ,fK,fL,fM,fN,fO,fP,fQ,fR,xX,xY,xZ,vB,vC,vD,vE,vF,vG,vH,vJ,vK,vL,qQ],[]⟩ wr:=by
 obtain⟨i0,hi,hz0,hz1,hz2⟩:=info_parts aBq;obtain⟨xi,xz,hxi,hxz,hx5,hx56,hxc⟩:=aHo;have HL:=hid hL;have HBF:=hid hB;have HD2:=hid hD;have HN2:=hid hN;clear hL hB hD hN;conv=>arg 2;whnf
 have n0:(k:Int)<(L:Int):=by omega
 obtain⟨Fs,sb,rv,rs,hX,ha⟩:=HL.o.vw;obtain⟨rA,rc,hrv⟩:=Xs hX.own;subst hrv;have hrl:rs.length≤100000:=tK hX.le hX.big;obtain⟨m,hm⟩:=nC (rs.length);rw[hm] at hX hrl;obtain⟨bs,hbs,hbl⟩:=HL.o.out;have hbx:=hX.bx;have hsr:ViS vb w.heap.size gm bb sb at' f L (.slice rA m rc) wr:=⟨hbx,HL.o.b5⟩;have KR:=hid (fun (w':World) (hS:nD wr w')=>(hsr.next hS).cells);have m0:wrap64 (f+(k:Int))=f+(k:Int):=by have:=HN2.o.2.2.2;unfold wrap64;omega
 have m0w:IntKind.i64.wrap (f+(k:Int))=f+(k:Int):=IntWalk.i64_in _ (by have:=HN2.o.2.2.2;omega);have hxw:Un (f+(k:Int)):=by have:=HN2.o.2.2.2;exact aDt (by omega) (by omega)
 have HSR:=hid hsr;have HX2:=nF hX ha;have HO2:=nF hbs hbl;have HB2:=hid (HBF.o.ag (HL.o.kf.ag HD2.o));obtain⟨lo,hi',HLO,m1,m2,m3,m4,m5,m6,m7,m8,m9⟩:=bBw hlt HN2.o.1.2 HN2.o.2.2.1;have HLT:=hid hlt;clear hlt;clear hX ha hbs hbl hbx hsr;go_wp2_with fail
 have Kq:=KR;refine wp_region_held_drew (S:=fun w'=>nD wr w') (by kernel_rfl) (Xu nB) (fun nE=>?_);refine kF 0 ?_;refine kF 1 ?_;refine kF 2 ?_;refine kF 3 ?_;refine kF 4 ?_;refine kF 5 ?_;refine kF 6 ?_;refine kF 7 ?_;refine rF 8 (fun K hK=>?_);go_simp;refine(aHd Fb bb mb sB ks fB (f+(k:Int)) _ (HB2.o.ag (.of_below nE)) hxw).mono ?_;rintro e w6 ⟨⟨v6,n6,bs6,rfl,hy6,hl6,h406⟩,hb6⟩;have hB6:nD wr w6:=nE.trans (hb6.mono nE.size);have HY6:=nH hy6 hl6 nE.size;try rw[hok]
 have H40:=hid h406;clear hy6 hl6 h406 hb6;go_simp;clear nE;refine hK.out _ _ hB6 (fun nE=>?_);clear hK K;try simp only[Act.put,tC,tD,tE]
 refine kF 9 ?_;refine kF 10 ?_;refine kF 11 ?_;refine kF 12 ?_;refine kF 13 ?_;refine wpAnyH_done (by kernel_rfl) ?_ _;clear Kq;have HM:=nF m2 m9;have HME:=hid (show L - (k+1)<L - k from Nat.sub_lt_sub_left HLT.o (Nat.lt_succ_self k));clear m1 m2 m3 m4 m5 m6 m7 m8 m9 hxw;have HGO:=hid (show go<wr.heap.size from by obtain⟨_,_,q⟩:=Vx HO2.o.1.1 (g:=go) rfl;exact Vz q);have hX6:=HX2.o.1.ag (.of_below nE);have hO6:=HO2.o.1.next nE;have hsr6:=HSR.o.next nE;have HH6:=nI nE hX6 hO6 hsr6;clear hok;have hne:w.heap.size≠go:=fun q=>Vc HH6.o.2.2.1.1 HH6.o.2.2.2.2 (by decide) (congrArg some q.symm)
 obtain⟨A',c',hA',hyo⟩:=HH6.o.2.2.1.isY;rw[HO2.o.2] at hyo;injection hA' with hA' hmid hc';subst hA' hc';clear hmid
 obtain⟨pb,hpb⟩:∃pb,IsY w6 (some ⟨go,lo,none⟩) 40 (cap - lo) pb:=⟨_,by
  have h1:=hyo.sub (i:=lo) (j:=hi') (by have:=HLO.o;omega) (by have:=HLO.o;omega) (by have:=HLO.o;have:=hyo.b.cap;omega);have e:(⟨go,0,none⟩:Addr).add lo=⟨go,lo,none⟩:=by by_cases h:lo=0<;>simp[Addr.add,h]
  rw[HM.o.2,e] at h1;exact h1⟩
 have HY7:=hid hpb;have KS:=hid (fun (w':World) (hS:Ag (aDg (.slice rA m rc)) w6 w')=>nT ((Bk.ag hX6.bx hS (fun e=>Vc hX6.own hX6.bx (by decide) e)).cell (i:=4) (by simp)) ((Bk.ag hsr6.2 hS (fun e=>Vc hX6.own hsr6.2 (by decide) e)).cell (i:=0) (by simp)) ((Bk.ag hsr6.2 hS (fun e=>Vc hX6.own hsr6.2 (by decide) e)).cell (i:=1) (by simp)));have HX7:=nJ hX6 (aOd w6 (some go)) hne hO6 HO2.o.2;clear hX6 hO6 hsr6 nE hyo hpb hne;go_wp2_with fail
 have Kq:=KS;refine Vn (Ag (aDg (.slice rA m rc)) w6) [16] (by kernel_rfl) (Ag.of_below (Xu nB)) (fun nE=>?_);refine kM 0 ?_;refine kM 1 ?_;refine kM 2 ?_;refine kM 3 ?_;refine kM 4 ?_;refine kM 5 ?_;refine kM 6 ?_;refine kM 7 ?_;refine kM 8 ?_;refine kM 9 ?_;refine rM 10 (fun K hK=>?_);go_simp;refine(aAh (some ⟨go,lo,none⟩) 40 (cap - lo) w6.heap.size (pb.map (Value.int .u8)) _ (by rw[rU];exact HY7.o.b.len) (HY7.o.ag (F:=fun _=>False) (.of_below (Xu nB))).b.rd Ui (by omega) lR).mono ?_;rintro e w8 ⟨⟨vc,rfl,hvc⟩,hb8⟩;have hB8:nD w6 w8:=(Xu nB).trans hb8;have hS8:Ag (aDg (.slice rA m rc)) w6 w8:=Ag.of_below hB8;obtain⟨yA,yc,rfl⟩:=Xs hvc;have HYC:=hid (aTw HY7.o (ownsRow_base_a hvc zL))
 have HNY:=hid (show ∀ad,yA=some ad→ad.block≠go from fun ad q=>by
  have h1:=Xv (g:=ad.block) hvc (by rw[q];rfl);have h2:=HGO.o;have h3:=HH6.o.1.size;omega)
 clear hvc hb8;go_simp;refine hK.out _ _ (fun _ _=>hS8) ?_;clear hK K nE;have nE:=hS8;try simp only[Act.put,tC,tD,tE]
 refine kM 11 ?_;refine rM 12 (fun K hK=>?_);go_simp;refine hK.out _ _ (fun _ _=>Ag.of_below (F:=aDg (.slice rA m rc)) (hB8.alloc hB8.size (.cells #[.int .i64 (f+(k:Int)),.slice yA 40 yc,.bool false] 204))) ?_;clear hK K nE;have nE:=Ag.of_below (F:=aDg (.slice rA m rc)) (hB8.alloc hB8.size (.cells #[.int .i64 (f+(k:Int)),.slice yA 40 yc,.bool false] 204));try simp only[Act.put,tC,tD,tE]
 refine rM 13 (fun K hK=>?_);obtain⟨w9,hw9⟩:=nC ((w8.alloc (.cells #[.int .i64 (f+(k:Int)),.slice yA 40 yc,.bool false] 204)));have hk90:Bk (w8.alloc (.cells #[.int .i64 (f+(k:Int)),.slice yA 40 yc,.bool false] 204)) w8.heap.size 204 [.int .i64 (f+(k:Int)),.slice yA 40 yc,.bool false]:=Bk.new w8 _ _;have hk9:Bk w9 w8.heap.size 204 [.int .i64 (f+(k:Int)),.slice yA 40 yc,.bool false]:=by rw[←hw9];exact hk90
 have hb89:nD w8 w9:=by rw[←hw9];exact(Below.refl w8.heap.size w8).alloc lR _
 have hb9:nD w6 w9:=hB8.trans (hb89.mono hB8.size);have hx9:=HX7.o.1.ag (.of_below hb9);have hy9:=HYC.o.ag (F:=fun _=>True) (.of_below hb89);try rw[hw9]
 refine aAf rfl (aAw w9 _ _ 68 rfl 0 204 xi xz 3 40 underlying68 hxi hxz hx5 hx56 hxc (by omega) (.slice rA m rc) rs.length (rs.flatMap RdD.cells) (by rfl) hx9.own w9.heap.size (some ⟨w8.heap.size,0,none⟩) 1 1 [.int .i64 (f+(k:Int)),.slice yA 40 yc,.bool false] (by rfl) rfl hk9.rd (by intro u hu;simp at hu;rcases hu with rfl|rfl|rfl<;>rfl) (by omega) (by omega) zL ?_);intro fS w10 hO10 hG10 hv10;obtain⟨zA,zc,rfl⟩:=Xs hO10;have hA10:Ag (aDg (.slice rA m rc)) w9 w10:=Ag.grown hx9.own (by decide) hG10 (fun g e q=>q e);have hS10:Ag (aDg (.slice rA m rc)) w6 w10:=(Ag.of_below hb9).trans hA10;have bx10:=Bk.ag hx9.bx hA10 (fun e=>Vc hx9.own hx9.bx (by decide) e);have q4:=bx10.cell (i:=4) (by simp);simp only[tI,tJ] at q4;have f4:=bx10.free 4;obtain⟨w11,hw11⟩:=nC (w10.setCell ⟨vb,4,none⟩ (.slice zA (rs.length+1) zc));have hw11':w10.setCell ⟨vb,4,none⟩ (.slice zA (m+1) zc)=w11:=by rw[←hm];exact hw11
 have HE:=hid (HL.o.step HX2.o.1 HX2.o.2 HH6.o.1 HX7.o.2.1 HGO.o HX7.o.2.2.1 ⟨_,HX7.o.2.2.2⟩ hb9 ⟨f+(k:Int),yA,yc,_,false⟩ hy9 (fun ad q=>HNY.o ad q) hO10 hG10 hv10 hw11.symm (by have:=HLT.o;have:=HN2.o.1;omega));clear hO10 hG10 hv10 hb9 hk9 hk90 hb89 hx9 hy9 hA10 bx10;refine hK.out _ _ (fun _ _=>hS10) ?_;clear hK K nE;have nE:=hS10;try simp only[Act.put,tC,tD,tE]
 refine kR 14 ?_;refine kR 15 ?_;refine rM 16 (fun K hK=>?_);go_simp;refine hK.out _ _ (fun h=>absurd (by decide) h) ?_;clear hK K;try simp only[Act.put,tC,tD,tE]
 refine Vs (by kernel_rfl) ?_ _;clear Kq;have HE2:=HE;clear HE hS10 q4 f4 hw11 hw11';have m2:=HM.o.1;go_wp2_with fail
 obtain⟨F',hV⟩:=HE2.o;refine⟨?_,?_⟩
 · refine VWI.mk ?_;exact⟨k+1,F',HLT.o,Va (by first|rfl|exact m2),hV⟩
 · rw[aKx,aKx];exact Xw HLT.o (by first|rfl|exact m2)
theorem bFs (L k:Nat) (w'':World) (vb go cap:Nat) (w:World) (c1 c2 c4 c5 c7 qX jC jK jL jM jN jO jP jQ jR jS jT jU jV jW jX jY jZ zB zC zD zE zF zG zH zI zJ zK Xr zM zN zO zP zQ zR zS zT zU zV zW zX zY qQ u8 u9 xW vI hJ hU gA gB gC gD gE gF gG gH gI gJ gK gL gM gN gO gP gQ gR gT gU gV gW gX gY gZ fA fC fD fE fF fG fH fI fJ fK fL fM fN fO fP fQ fR xX xY xZ vB vC vD vE vF vG vH vJ vK vL:Value) (Q:Exit→Act→World→Prop) (hk:k=L) (h:∀u8 u9 xW vI hC hJ hU gA gB gC gD gE gF gG gH gI gJ gK gL gM gN gO gP gQ gR gT gU gV gW gX gY gZ fA fC fD fE fF fG fH fI fJ fK fL fM fN fO fP fQ fR xX xY xZ vB vC vD vE vF vG vH vJ vK vL:Value,Q (.exit 0) ⟨#[.pointer (some ⟨vb,0,none⟩),c1,c2,.pointer (some ⟨w.heap.size,0,none⟩),c4,c5,.slice (some ⟨go,0,none⟩) (40*L) cap,c7,u8,u9,xW,vI,qX,jC,jK,jL,jM,jN,jO,jP,jQ,jR,jS,jT,jU,jV,jW,jX,jY,jZ,zB,zC,zD,zE,zF,zG,zH,zI,zJ,zK,Xr,zM,zN,zO,zP,zQ,zR,zS,zT,zU,zV,zW,zX,zY,.int .i64 (L:Int),hC,hJ,hU,gA,gB,gC,gD,gE,gF,gG,gH,gI,gJ,gK,gL,gM,gN,gO,gP,gQ,gR,gT,gU,gV,gW,gX,gY,gZ,fA,fC,fD,fE,fF,fG,fH,fI,fJ,fK,fL,fM,fN,fO,fP,fQ,fR,xX,xY,xZ,vB,vC,vD,vE,vF,vG,vH,vJ,vK,vL,qQ],[]⟩ w'') :
  Code.wp prog (Ur Tryz.f92) Q ⟨#[.pointer (some ⟨vb,0,none⟩),c1,c2,.pointer (some ⟨w.heap.size,0,none⟩),c4,c5,.slice (some ⟨go,0,none⟩) (40*L) cap,c7,u8,u9,xW,vI,qX,jC,jK,jL,jM,jN,jO,jP,jQ,jR,jS,jT,jU,jV,jW,jX,jY,jZ,zB,zC,zD,zE,zF,zG,zH,zI,zJ,zK,Xr,zM,zN,zO,zP,zQ,zR,zS,zT,zU,zV,zW,zX,zY,.int .i64 (L:Int),.int .i64 (k:Int),hJ,hU,gA,gB,gC,gD,gE,gF,gG,gH,gI,gJ,gK,gL,gM,gN,gO,gP,gQ,gR,gT,gU,gV,gW,gX,gY,gZ,fA,fC,fD,fE,fF,fG,fH,fI,fJ,fK,fL,fM,fN,fO,fP,fQ,fR,xX,xY,xZ,vB,vC,vD,vE,vF,vG,vH,vJ,vK,vL,qQ],[]⟩ w'':=by
 subst hk;have n0:¬(k:Int)<(k:Int):=by omega
 conv=>arg 2;whnf
 go_wp2_with fail
 exact h _ _ _ _ _ _ _ _ _ _ _ _ _ _ _ _ _ _ _ _ _ _ _ _ _ _ _ _ _ _ _ _ _ _ _ _ _ _ _ _ _ _ _ _ _ _ _ _ _ _ _ _ _ _ _ _ _ _ _ _ _ _
theorem bBa (F Fb:Xt) (w wr:World) (vb gm bb nr go L cap mb sB:Nat) (at' f:Int) (ks:List Int) (fB:Int→Option Value) (c1 c2 c4 c5 c7 qX jC jK jL jM jN jO jP jQ jR jS jT jU jV jW jX jY jZ zB zC zD zE zF zG zH zI zJ zK Xr zM zN zO zP zQ zR zS zT zU zV zW zX zY qQ u8 u9 xW vI hC hJ hU gA gB gC gD gE gF gG gH gI gJ gK gL gM gN gO gP gQ gR gT gU gV gW gX gY gZ fA fC fD fE fF fG fH fI fJ fK fL fM fN fO fP fQ fR xX xY xZ vB vC vD vE vF vG vH vJ vK vL:Value) (Q0:Exit→Act→World→Prop) (hpan:∀c a d v w,Q0 (.panic c) (Act.put a d v) w→Q0 (.panic c) a w)
  (hbig:nr+16≤100000) (hB:aDd w Fb bb mb sB ks fB) (hD:Dis Fb F) (hN:(1≤L∧L≤16)∧w.heap.size≤go∧40*L≤cap∧(0≤f∧f+(L:Int)≤258)) (h0:∃k Fk,k≤L∧hC=.int .i64 (k:Int)∧VwL w wr F Fk vb w.heap.size gm bb (nr+k) go (40*L) cap at' f L)
  (hexit:∀(u8 u9 xW vI hC hJ hU gA gB gC gD gE gF gG gH gI gJ gK gL gM gN gO gP gQ gR gT gU gV gW gX gY gZ fA fC fD fE fF fG fH fI fJ fK fL fM fN fO fP fQ fR xX xY xZ vB vC vD vE vF vG vH vJ vK vL:Value) (w':World) (Fk:Xt),VwL w w' F Fk vb w.heap.size gm bb (nr+L) go (40*L) cap at' f L→Q0 (.exit 0) ⟨#[.pointer (some ⟨vb,0,none⟩),c1,c2,.pointer (some ⟨w.heap.size,0,none⟩),c4,c5,.slice (some ⟨go,0,none⟩) (40*L) cap,c7,u8,u9,xW,vI,qX,jC,jK,jL,jM,jN,jO,jP,jQ,jR,jS,jT,jU,jV,jW,jX,jY,jZ,zB,zC,zD,zE,zF,zG,zH,zI,zJ,zK,Xr,zM,zN,zO,zP,zQ,zR,zS,zT,zU,zV,zW,zX,zY,.int .i64 (L:Int),hC,hJ,hU,gA,gB,gC,gD,gE,gF,gG,gH,gI,gJ,gK,gL,gM,gN,gO,gP,gQ,gR,gT,gU,gV,gW,gX,gY,gZ,fA,fC,fD,fE,fF,fG,fH,fI,fJ,fK,fL,fM,fN,fO,fP,fQ,fR,xX,xY,xZ,vB,vC,vD,vE,vF,vG,vH,vJ,vK,vL,qQ],[]⟩ w') :
  Code.wp prog (Code.loop (Ur Tryz.f92)) Q0 ⟨#[.pointer (some ⟨vb,0,none⟩),c1,c2,.pointer (some ⟨w.heap.size,0,none⟩),c4,c5,.slice (some ⟨go,0,none⟩) (40*L) cap,c7,u8,u9,xW,vI,qX,jC,jK,jL,jM,jN,jO,jP,jQ,jR,jS,jT,jU,jV,jW,jX,jY,jZ,zB,zC,zD,zE,zF,zG,zH,zI,zJ,zK,Xr,zM,zN,zO,zP,zQ,zR,zS,zT,zU,zV,zW,zX,zY,.int .i64 (L:Int),hC,hJ,hU,gA,gB,gC,gD,gE,gF,gG,gH,gI,gJ,gK,gL,gM,gN,gO,gP,gQ,gR,gT,gU,gV,gW,gX,gY,gZ,fA,fC,fD,fE,fF,fG,fH,fI,fJ,fK,fL,fM,fN,fO,fP,fQ,fR,xX,xY,xZ,vB,vC,vD,vE,vF,vG,vH,vJ,vK,vL,qQ],[]⟩ wr:=by
 refine wp_loop (VWI F w vb gm bb nr go L cap at' f c1 c2 c4 c5 c7 qX jC jK jL jM jN jO jP jQ jR jS jT jU jV jW jX jY jZ zB zC zD zE zF zG zH zI zJ zK Xr zM zN zO zP zQ zR zS zT zU zV zW zX zY qQ) (vmu L) (VWI.mk h0) (fun a w'' hI=>?_);unfold VWI at hI;obtain⟨v8,v9,fS,bF,v55,dQ,v57,dR,dS,dT,dU,dV,v63,v64,dW,v66,dX,dY,dZ,v70,mA,v72,mB,mC,v75,v76,v77,mD,mE,mF,mG,mH,mI,mJ,mL,mM,mN,mO,mP,mQ,mR,mT,mU,mV,mW,mX,mY,mZ,tB,fT,fU,fV,fW,fX,fY,fZ,bB,bD,bE,bG,bH,bI,hI⟩:=hI;obtain⟨⟨k,Fk,hk,e55,hV⟩,rfl⟩:=hI;subst e55;rcases tN k L with hlt|hge
 · cases hok:(fB (f+(k:Int))).isSome with
   | false=>exact bFt F Fb Fk w w'' vb gm bb nr go L cap mb sB k at' f ks fB _ _ _ _ _ _ _ _ _ _ _ _ _ _ _ _ _ _ _ _ _ _ _ _ _ _ _ _ _ _ _ _ _ _ _ _ _ _ _ _ _ _ _ _ _ _ _ _ _ _ _ _ _ _ _ _ _ _ _ _ _ _ _ _ _ _ _ _ _ _ _ _ _ _ _ _ _ _ _ _ _ _ _ _ _ _ _ _ _ _ _ _ _ _ _ _ _ _ _ _ _ _ _ _ _ _ _ _ _ Q0 hpan hbig hV hB hD hN hlt hok
   | true=>exact bFu F Fb Fk w w'' vb gm bb nr go L cap mb sB k at' f ks fB _ _ _ _ _ _ _ _ _ _ _ _ _ _ _ _ _ _ _ _ _ _ _ _ _ _ _ _ _ _ _ _ _ _ _ _ _ _ _ _ _ _ _ _ _ _ _ _ _ _ _ _ _ _ _ _ _ _ _ _ _ _ _ _ _ _ _ _ _ _ _ _ _ _ _ _ _ _ _ _ _ _ _ _ _ _ _ _ _ _ _ _ _ _ _ _ _ _ _ _ _ _ _ _ _ _ _ _ _ Q0 hpan hbig hV hB hD hN hlt hok
 · obtain rfl:k=L:=by omega
   exact bFs k k w'' vb go cap w _ _ _ _ _ _ _ _ _ _ _ _ _ _ _ _ _ _ _ _ _ _ _ _ _ _ _ _ _ _ _ _ _ _ _ _ _ _ _ _ _ _ _ _ _ _ _ _ _ _ _ _ _ _ _ _ _ _ _ _ _ _ _ _ _ _ _ _ _ _ _ _ _ _ _ _ _ _ _ _ _ _ _ _ _ _ _ _ _ _ _ _ _ _ _ _ _ _ _ _ _ _ _ _ _ _ _ _ _ _ rfl (fun u8 u9 xW vI hC hJ hU gA gB gC gD gE gF gG gH gI gJ gK gL gM gN gO gP gQ gR gT gU gV gW gX gY gZ fA fC fD fE fF fG fH fI fJ fK fL fM fN fO fP fQ fR xX xY xZ vB vC vD vE vF vG vH vJ vK vL=>hexit u8 u9 xW vI hC hJ hU gA gB gC gD gE gF gG gH gI gJ gK gL gM gN gO gP gQ gR gT gU gV gW gX gY gZ fA fC fD fE fF fG fH fI fJ fK fL fM fN fO fP fQ fR xX xY xZ vB vC vD vE vF vG vH vJ vK vL w'' Fk hV)
theorem aKw (F Fe Fb:Xt) (vb gm bb nr N:Nat) (at' last f l:Int) (ks:List Int) (w:World) (h:aBw w F vb gm bb nr at') (he:Kn w Fe gm N last) (hbf:aDh w Fb bb ks) (hI:In w F) (hde:Dis Fe F) (hdb:Dis Fb F) (hbig:nr+17≤100000) :
  Calls prog 92 #[.pointer (some ⟨vb,0,none⟩),.agg #[.int .i64 f,.int .i64 l]] w fun e w'=>(∃v,∃r:Int,e=.returned (.tuple #[v,.int .i64 r])∧(aIh f l nr→r=0)∧∃bs,Byt w' w.heap.size v bs∧bs.length≤640)∧aPa w F vb gm bb nr at' l w':=by
 obtain⟨i0,hi,hz0,hz1,hz2⟩:=info_parts aBq;obtain⟨xi,xz,hxi,hxz,hx5,hx56,hxc⟩:=aHo;obtain⟨Fs,sb,rv,rs,hv⟩:=h;obtain⟨bm,s,fe,hX,_⟩:=he;obtain⟨mb,sB,fB,hB⟩:=hbf;obtain⟨w5,hw5⟩:=nC (w.alloc (.cells #[.int .i64 f,.int .i64 l] 46));have hB5:Bk w5 w.heap.size 46 [.int .i64 f,.int .i64 l]:=by rw[←hw5];exact Bk.new w _ _
 have hb5:nD w w5:=by rw[←hw5];exact nB.alloc lR _
 obtain⟨d0,d1⟩:=hB5.c2;have HB5:=nF hB5 hb5;have HV:=nF hv hI;have HX:=hid hX;have HBF:=hid hB;have HD:=nF hde hdb;have same:∀w',nD w w'→aPa w F vb gm bb nr at' l w':=fun w' hb=>⟨0,F,⟨zL,fun _=>zL⟩,⟨Fs,sb,rv,rs,hv.ag (.of_below hb)⟩,.of_below hb,.refl _ _,hI.next hb.size⟩
 have HS:=hid same;have hs5:ViS vb w.heap.size gm bb sb at' f l rv w5:=⟨(hv.ag (.of_below hb5)).bx,hB5⟩;have HS5:=hid hs5;obtain⟨c0,c1,c2,c3,c4,c5',c6'⟩:=hs5.cells;have nilY:∀W:World,Byt W w.heap.size (.slice none 0 0) []:=fun W=>⟨⟨rfl,.inl ⟨rfl,rfl⟩⟩,by simp⟩
 have HN:=hid nilY;clear hv hX hB hI hB5 hs5 hde hdb same nilY;go_enter func92,ntmps92
 go_wp2_with fail
 go_step3;by_cases g0:l<1
 · have t0:decide (l<1)=true:=rZ g0;go_wp2_with fail
   (try simp only[Exit.inBlock,Exit.then,Exit.noGoto_ret])
   go_ret2
   exact⟨⟨_,_,rfl,fun q=>by have:=q.1;omega,[],HN.o _,by simp⟩,HS.o _ HB5.o.2⟩
 have t0:decide (l<1)=false:=rY g0;by_cases g1:16<l
 · have t1:decide (16<l)=true:=rZ g1;go_wp2_with fail
   (try simp only[Exit.inBlock,Exit.then,Exit.noGoto_ret])
   go_ret2
   exact⟨⟨_,_,rfl,fun q=>by have:=q.1;omega,[],HN.o _,by simp⟩,HS.o _ HB5.o.2⟩
 have t1:decide (16<l)=false:=rY g1;obtain⟨L,rfl⟩:∃L:Nat,l=(L:Int):=⟨l.toNat,by omega⟩
 have hL16:1≤L∧L≤16:=by omega
 have KK:=hid (fun (w':World) (hS:nD w5 w')=>(HS5.o.next hS).cells)
 cases hwb:aBg ⟨f,(L:Int)⟩ with
 | false =>
   have HWB:=hid (show aIh f (L:Int) nr→False from fun q=>by have:=q.with_;rw[hwb] at this;cases this);go_wp2_with fail
   have Kq:=KK;refine wp_region_held_drew (S:=fun w'=>nD w5 w') (by kernel_rfl) (Xu nB) (fun nE=>?_);refine kF 0 ?_;refine kF 1 ?_;refine kF 2 ?_;refine kF 3 ?_;refine kF 4 ?_;refine kF 5 ?_;refine kF 6 ?_;refine kF 7 ?_;refine kF 8 ?_;refine rF 9 (fun K hK=>?_);go_simp;refine(aHi Fe gm bm s N last at' fe ⟨f,(L:Int)⟩ _ (HX.o.ag (.of_below (HB5.o.2.trans (nE.mono HB5.o.2.size))))).mono ?_;rintro e w7 ⟨hcase,hb7⟩;have hB7:nD w5 w7:=(Xu nB).trans hb7;rcases hcase with ⟨_,rfl⟩|⟨hh,_⟩
   rotate_left
   · rw[hwb] at hh;cases hh
   go_simp;clear nE;refine hK.out _ _ hB7 (fun nE=>?_);clear hK K;try simp only[Act.put,tC,tD,tE]
   refine kF 10 ?_;refine kF 11 ?_;refine kF 12 ?_;refine kF 13 ?_;refine kF 14 ?_;refine wpAnyH_done (by kernel_rfl) ?_ _;clear Kq;clear c0 c1 c2 c3 c4 c5' c6' d0 d1;go_wp2_with fail
   (try simp only[Exit.inBlock,Exit.then,Exit.noGoto_ret])
   go_ret2
   exact⟨⟨_,_,rfl,fun q=>(HWB.o q).elim,[],HN.o _,by simp⟩,HS.o _ (HB5.o.2.trans (nE.mono HB5.o.2.size))⟩
 | true =>
   go_wp2_with fail
   have Kq:=KK;refine wp_region_held_drew (S:=fun w'=>nD w5 w') (by kernel_rfl) (Xu nB) (fun nE=>?_);refine kF 0 ?_;refine kF 1 ?_;refine kF 2 ?_;refine kF 3 ?_;refine kF 4 ?_;refine kF 5 ?_;refine kF 6 ?_;refine kF 7 ?_;refine kF 8 ?_;refine rF 9 (fun K hK=>?_);go_simp;refine(aHi Fe gm bm s N last at' fe ⟨f,(L:Int)⟩ _ (HX.o.ag (.of_below (HB5.o.2.trans (nE.mono HB5.o.2.size))))).mono ?_;rintro e w7 ⟨hcase,hb7⟩;have hB7:nD w5 w7:=(Xu nB).trans hb7;rcases hcase with ⟨hh,_⟩|⟨_,vo,rfl,bo,hbo,hlo⟩
   · rw[hwb] at hh;cases hh
   go_simp;clear nE;refine hK.out _ _ hB7 (fun nE=>?_);clear hK K;try simp only[Act.put,tC,tD,tE]
   refine kF 10 ?_;refine kF 11 ?_;refine kF 12 ?_;refine kF 13 ?_;refine kF 14 ?_;refine wpAnyH_done (by kernel_rfl) ?_ _;clear Kq;have hl40:bo.length=40*L:=by have:(bo.length:Int)=40*(L:Int):=hlo;omega
   obtain⟨go,cap,rfl,hgo1,hgo2,hgo3⟩:=aTv hbo (by omega);have hgo0:w.heap.size≤go:=by have:=HB5.o.2.size;exact tK this hgo1
   rw[hl40] at hgo3;rw[show bo.length=40*L from hl40];rw[show bo.length=40*L from hl40] at hbo;have hwb2:=aJq hwb;have hf0:0≤f∧f+(L:Int)≤258:=⟨hwb2.1,hwb2.2.2⟩;have HO:=nF hbo hl40;have HMY:=hid (aYq hL16 hf0);have hs7:=HS5.o.next hB7;have hbw7:nD w w7:=HB5.o.2.trans (hB7.mono HB5.o.2.size);have HB7:=hid hbw7;have KK7:=hid (fun (w':World) (hS:ViS vb w.heap.size gm bb sb at' f L rv w')=>hS.cells);have HS7:=hid (show ViS vb w.heap.size gm bb sb at' f L rv w7.drew from hs7.next (Xu nB));have hgp:go<w7.heap.size:=hgo2;clear c0 c1 c2 c3 c4 c5' c6' d0 d1 hbo hlo hl40 hgo2 hgo1 hs7 hbw7 nE hB7 hb7 hwb2 hwb;go_wp2_with fail
   have Kq:=KK7;refine wp_region_held_drew (S:=ViS vb w.heap.size gm bb sb at' f L rv) (by kernel_rfl) (HS7.o) (fun nE=>?_);refine kF 0 ?_;refine kF 1 ?_;refine kF 2 ?_;refine kF 3 ?_;refine kF 4 ?_;refine rF 5 (fun K hK=>?_);go_simp;refine hK.out _ _ (nE.next (nB.alloc lR _)) (fun hHeld2=>?_);clear hK K nE;have nE:=hHeld2;clear hHeld2;try simp only[Act.put,tC,tD,tE]
   refine rF 6 (fun K hK=>?_);obtain⟨w8,hw8⟩:=nC ((w7.alloc (.cells #[.int .i64 f,.int .i64 (L:Int)] 46)).drew);have hb8:nD w7 w8:=by rw[←hw8];exact Xu ((Below.refl w7.heap.size w7).alloc lR _)
   have hk70:Bk (w7.alloc (.cells #[.int .i64 f,.int .i64 (L:Int)] 46)) w7.heap.size 46 [.int .i64 f,.int .i64 (L:Int)]:=Bk.new w7 _ _;have hk8:Bk w8 w7.heap.size 46 [.int .i64 f,.int .i64 (L:Int)]:=by rw[←hw8];exact hk70.next (Xu nB) hk70.lt
   rw[hw8] at nE;have hv7:Ka w7 F Fs vb gm bb sb nr at' rv rs:=HV.o.1.ag (.of_below HB7.o);obtain⟨sv,sx,hsx,hsn⟩:=hv7.set.ag (F:=Fs) (.of_below hb8);have hI7:=HV.o.2.next HB7.o.size;have hIs:In w8 Fs:=fun b q=>tL (hI7 b (HV.o.1.sub b q)) hb8.size
   go_simp;try rw[hw8]
   refine(aJt Fs sb 64 1 1 sv sx [⟨f,L⟩] (some ⟨w7.heap.size,0,none⟩) w8 hsx (by omega) ⟨rfl,hk8.rd,lR,by simp[maxLen]⟩ (by omega) hIs).mono ?_;rintro e w9 ⟨⟨r,rfl,hrr⟩,Fs2,hs9,hk9,hsb9,hin9⟩;have HRR:=hid (show aIh f (L:Int) nr→r=0 from fun q=>hrr HMY.o (Nat.succ_le_of_lt (Nat.lt_of_le_of_lt hsn q.2.2.2)));have HR9:=hid (hv7.reset hI7 hb8 hk9 (hs9.up (tS hsn)) (by omega) hsb9 hin9);have hS9:ViS vb w.heap.size gm bb sb at' f L rv w9:=nE.ag hk9 HV.o.1.ns (fun q=>by have:=HV.o.2 _ (HV.o.1.sub _ q);omega);clear hs9 hk9 hsb9 hin9 hsx hIs hI7 hv7 hk8 hb8 hw8 hrr hsn;go_simp;clear nE;refine hK.out _ _ hS9 (fun nE=>?_);clear hK K;try simp only[Act.put,tC,tD,tE]
   refine kF 7 ?_;refine wpAnyH_done (by kernel_rfl) ?_ _;clear Kq;have HS9:=hid nE
   have hV0:VwL w w9 F (orF F Fs2) vb w.heap.size gm bb (nr+1) go (40*L) cap at' f L :=
    ⟨⟨Fs2,sb,rv,rs,HR9.o.1,HV.o.1.away hgo0⟩,⟨bo,bCr (F:=fun b=>¬F b) HO.o.1 (HR9.o.2.1.ag (fun b q r=>q r)) (fun g e q=>by have e:some go=some g:=e;injection e with e;have:=HV.o.2 _ q;omega) HB5.o.2.size,HO.o.2⟩,(Kf.of_below (F:=F) HB7.o).trans (G:=F) HR9.o.2.1 (fun b q=>.inl q),
     fun b q=>(HR9.o.2.2.1 b q).imp id (fun t=>tK HB7.o.size t),HR9.o.2.2.2,fun q=>(HR9.o.2.2.1 _ q).elim (fun t=>by have:=HV.o.2 _ t;omega) (fun t=>by omega),fun q=>(HR9.o.2.2.1 _ q).elim (fun t=>by have:=HV.o.2 _ t;omega) (fun t=>by omega),nE.2,hgo0⟩
   have HV0:=hid hV0;clear hV0 nE;by_cases hr:r=0
   · subst hr;have HD2:=hid HD.o.2;have HN2:=nJ hL16 hgo0 hgo3 hgp hf0;clear hL16 hgo0 hgo3 hgp hf0 g0 g1 t0 t1;have d1:=HS9.o.cells.2.2.2.2.2.2;go_wp2_with fail
     go_step3;go_wp2_with fail
     refine bBa F Fb w w9 vb gm bb (nr+1) go L cap mb sB at' f ks fB _ _ _ _ _ _ _ _ _ _ _ _ _ _ _ _ _ _ _ _ _ _ _ _ _ _ _ _ _ _ _ _ _ _ _ _ _ _ _ _ _ _ _ _ _ _ _ _ _ _ _ _ _ _ _ _ _ _ _ _ _ _ _ _ _ _ _ _ _ _ _ _ _ _ _ _ _ _ _ _ _ _ _ _ _ _ _ _ _ _ _ _ _ _ _ _ _ _ _ _ _ _ _ _ _ _ _ _ _ _ _ (fun _ _ d _ _ h=>by cases d<;>exact h) (by omega) HBF.o HD2.o ⟨HN2.o.1,HN2.o.2.1,HN2.o.2.2.1,HN2.o.2.2.2.2⟩ ⟨0,_,zL,rfl,HV0.o⟩ ?_;intro u8 u9 xW vI hC hJ hU gA gB gC gD gE gF gG gH gI gJ gK gL gM gN gO gP gQ gR gT gU gV gW gX gY gZ fA fC fD fE fF fG fH fI fJ fK fL fM fN fO fP fQ fR xX xY xZ vB vC vD vE vF vG vH vJ vK vL wr Fk hV;have HVW:=hid hV;clear hV;go_wp2_with fail
     (try simp only[Exit.inBlock,Exit.then,Exit.noGoto_ret])
     go_ret2
     obtain⟨ob,hob,hobl⟩:=HVW.o.out;have:=HN2.o.1;exact⟨⟨_,_,rfl,fun _=>rfl,ob,hob,by omega⟩,HVW.o.post (1+L) ⟨by omega,fun q=>by omega⟩ (by omega) (by omega)⟩
   · go_wp2_with fail
     (try simp only[Exit.inBlock,Exit.then,Exit.noGoto_ret])
     go_ret2
     exact⟨⟨_,_,rfl,fun q=>absurd (HRR.o q) hr,[],HN.o _,by simp⟩,HV0.o.post 1 ⟨by omega,fun _=>by omega⟩ (by omega) (by omega)⟩
structure TE where
 tb:Nat
 bb:Nat
 vb:Nat
def Km (es:List TE):Int→Option Value:=fun x=>if 1≤x then (es[(x - 1).toNat]?).map (fun (e:TE)=>Value.pointer (some ⟨e.tb,0,none⟩)) else none
theorem aPd {es:List TE} {i:Nat} {e:TE} (h:es[i]? =some e):Km es ((i:Int)+1)=some (.pointer (some ⟨e.tb,0,none⟩)):=by
 unfold Km;rw[if_pos (by omega),show ((i:Int)+1 - 1).toNat=i by omega,h];rfl
theorem aIp {es:List TE} {x:Int} (h:x<1∨(es.length:Int)<x):Km es x=none:=by
 unfold Km;split
 · rw[List.getElem?_eq_none (by omega)];rfl
 · rfl
theorem aQs (es:List TE) (e:TE):Km (es++[e])=upd (Km es) ((es.length:Int)+1) (some (.pointer (some ⟨e.tb,0,none⟩))):=by
 funext x
 by_cases h:x=(es.length:Int)+1
 · subst h;rw[aAj,aPd (e:=e) (by rw[rP lR];simp)]
 · rw[aAd _ _ h];unfold Km;split
   · by_cases h2:(x - 1).toNat<es.length
     · rw[rO h2]
     · rw[List.getElem?_eq_none (by simp;omega),List.getElem?_eq_none (by omega)]
   · rfl
def aAr (t:TX) (code:Int) (e:TE):List Value:=[.int .i64 (t.st:Int),.int .i64 (t.time:Int),.int .i64 code,.int .i64 (t.at':Int),.pointer (some ⟨e.bb,0,none⟩),.pointer (some ⟨e.vb,0,none⟩)]
structure TxX (w:World) (Ft:Nat→Xt) (i gm R:Nat) (t:TX) (e:TE):Prop where
 bx:∃code:Int,Bk w e.tb 174 (aAr t code e)∧(t.st=3→code=0)
 buf:aDh w (Ft (4+3*i)) e.bb t.keys
 view:aBw w (Ft (5+3*i)) e.vb gm e.bb R (t.at':Int)
 f:Ft (3+3*i) e.tb
def Vp (gm kb am:Nat) (qv:Value) (out:Nat) (m:MS):List Value:=[.pointer (some ⟨gm,0,none⟩),.pointer (some ⟨kb,0,none⟩),.map (some am),qv,.int .i64 (out:Int),.int .i64 (m.num:Int),.int .i64 (m.base:Int),.int .i64 (m.last:Int),.int .i64 (m.given:Int),.bool m.read]
def aCp (i:Nat):Value:=.int .i64 ((i:Int)+1)
structure Vl (w:World) (F:Xt) (Ft:Nat→Xt) (mb gm kb am:Nat) (qv:Value) (out:Nat) (m:MS) (es:List TE) (N R:Nat):Prop where
 fam:Fam w F Ft
 rest:∀j,3+3*es.length≤j→∀b,¬Ft j b
 bx:Bk w mb 166 (Vp gm kb am qv out m)
 ext:∃el:Int,Kn w (Ft 1) gm N el∧el≤(m.last:Int)
 book:∃s,aBu w (Ft 2) kb es.length s
 all:IM w prog 3 am es.length (Km es)
 own:w.ownsRow 0 3 1 qv m.queue.length (m.queue.map aCp)
 tx:∀i t e,m.txs[i]? =some t→es[i]? =some e→TxX w Ft i gm R t e
 len:es.length=m.txs.length
 f0:Ft 0 mb
 f1:Ft 0 am
 f2:∀b,qv.ownBlock=some b→Ft 0 b
section
variable {w w':World} {F:Xt} {Ft:Nat→Xt} {mb gm kb am:Nat} {qv:Value} {out:Nat} {m:MS} {es:List TE} {N R:Nat}
theorem TxX.ag {i:Nat} {t:TX} {e:TE} (h:TxX w Ft i gm R t e) (k1:Ag (Ft (3+3*i)) w w') (k2:Ag (Ft (4+3*i)) w w') (k3:Ag (Ft (5+3*i)) w w'):TxX w' Ft i gm R t e:=by
 obtain⟨c,hb,hz⟩:=h.bx;exact⟨⟨c,Bk.ag hb k1 h.f,hz⟩,h.buf.ag k2,h.view.ag k3,h.f⟩
theorem Vl.ag (h:Vl w F Ft mb gm kb am qv out m es N R) (k:Ag F w w'):Vl w' F Ft mb gm kb am qv out m es N R:=by
 have a:∀i,Ag (Ft i) w w':=fun i=>k.mono (h.fam.sub i)
 obtain⟨el,he,hl⟩:=h.ext;obtain⟨s,hs⟩:=h.book;exact⟨h.fam.next k.size,h.rest,Bk.ag h.bx (a 0) h.f0,⟨el,he.ag (a 1),hl⟩,⟨s,hs.ag (a 2)⟩,h.all.ag (a 0) h.f1,Vj h.own (a 0) h.f2,fun i t e q r=>(h.tx i t e q r).ag (a _) (a _) (a _),h.len,h.f0,h.f1,h.f2⟩
theorem Vl.next (h:Vl w F Ft mb gm kb am qv out m es N R) (k:nD w w'):Vl w' F Ft mb gm kb am qv out m es N R:=h.ag (.of_below k)
theorem aBw.up {vb gm bb nr n:Nat} {at':Int} (h:aBw w F vb gm bb nr at') (hn:nr≤n) (hb:n≤100000):aBw w F vb gm bb n at':=by
 obtain⟨Fs,sb,rv,rs,h⟩:=h;exact⟨Fs,sb,rv,rs,h.up hn hb⟩
theorem Kn.up {gm N M:Nat} {el:Int} (h:Kn w F gm N el) (hM:N≤M) (hb:M≤100000):Kn w F gm M el:=by
 obtain⟨bm,s,f,h,e⟩:=h;exact⟨bm,s,f,h.mono hM hb,e⟩
theorem Vl.up (h:Vl w F Ft mb gm kb am qv out m es N R) {N' R':Nat} (h1:N≤N') (h2:N'≤100000) (h3:R≤R') (h4:R'≤100000):Vl w F Ft mb gm kb am qv out m es N' R':=by
 obtain⟨el,he,hl⟩:=h.ext;exact⟨h.fam,h.rest,h.bx,⟨el,he.up h1 h2,hl⟩,h.book,h.all,h.own,fun i t e q r=>⟨(h.tx i t e q r).bx,(h.tx i t e q r).buf,(h.tx i t e q r).view.up h3 h4,(h.tx i t e q r).f⟩,h.len,h.f0,h.f1,h.f2⟩
theorem Vl.am_ne (h:Vl w F Ft mb gm kb am qv out m es N R):mb≠am:=fun e=>by
 obtain⟨D,hD⟩:=h.all.at_;obtain⟨cl,hD⟩:=hD;have:=h.bx;unfold Bk at this;rw[e,hD] at this;cases this
theorem Vl.q_ne (h:Vl w F Ft mb gm kb am qv out m es N R):qv.ownBlock≠some mb∧qv.ownBlock≠some am:=⟨Vc h.own h.bx (by decide),fun e=>by
 obtain⟨_,_,hq⟩:=Vx h.own e;obtain⟨D,cl,hD⟩:=h.all.at_;rw[hD] at hq;cases hq⟩
theorem Vl.inF (h:Vl w F Ft mb gm kb am qv out m es N R):F mb:=h.fam.sub 0 _ h.f0
theorem Vl.cell (h:Vl w F Ft mb gm kb am qv out m es N R) (k:Kf (fun b=>b=mb) w w') (m':MS) (out':Nat) (hb:Bk w' mb 166 (Vp gm kb am qv out' m')) (ht:m'.txs=m.txs) (hq:m'.queue=m.queue) (hl:m.last≤m'.last) :
  Vl w' F Ft mb gm kb am qv out' m' es N R∧Kf F w w':=by
 have k0:Kf (Ft 0) w w':=k.mono (fun b q=>by have q:b=mb:=q;rw[q];exact h.f0);have a:∀i,i≠0→Ag (Ft i) w w':=fun i hn=>h.fam.ag k0 hn
 have a0:Ag (fun b=>b≠mb) w w':=k.ag (fun b q r=>q r);obtain⟨el,he,hle⟩:=h.ext;obtain⟨s,hs⟩:=h.book;refine⟨⟨h.fam.next k.size,h.rest,hb,⟨el,he.ag (a 1 (by decide)),Int.le_trans hle (Int.ofNat_le.2 hl)⟩,⟨s,hs.ag (a 2 (by decide))⟩,h.all.ag a0 (fun q=>h.am_ne q.symm),?_,fun i t e q r=>?_,by rw[ht];exact h.len,h.f0,h.f1,h.f2⟩,h.fam.kf k0⟩
 · rw[hq];exact Vj h.own a0 (fun g q r=>h.q_ne.1 (by rw[q,r]))
 · rw[ht] at q;exact(h.tx i t e q r).ag (a _ (by omega)) (a _ (by omega)) (a _ (by omega))
theorem Vl.row (h:Vl w F Ft mb gm kb am qv out m es N R) {G:Xt} {qv':Value} (k:Kf (Ft 0) w w') (hG:Sb w (Ft 0) G) (hi:In w' G) (hsub:∀b,Ft 0 b→G b) (hall:IM w' prog 3 am es.length (Km es)) (m':MS) (out':Nat) (hb:Bk w' mb 166 (Vp gm kb am qv' out' m')) (ho:w'.ownsRow 0 3 1 qv' m'.queue.length (m'.queue.map aCp))
  (h2:∀b,qv'.ownBlock=some b→G b) (ht:m'.txs=m.txs) (hl:m.last≤m'.last):Vl w' (orF F G) (Uu Ft 0 G) mb gm kb am qv' out' m' es N R∧Kf F w w'∧Sb w F (orF F G)∧In w' (orF F G):=by
 have hf:=h.fam.step k.size hG hi;have a:∀i,i≠0→Ag (Ft i) w w':=fun i hn=>h.fam.ag k hn
 have e:∀i,i≠0→Uu Ft 0 G i=Ft i:=fun i hn=>aAb Ft G hn
 obtain⟨el,he,hle⟩:=h.ext;obtain⟨s,hs⟩:=h.book;have hG0:Uu Ft 0 G 0=G:=Ua Ft 0 G;refine⟨⟨hf,fun j hj b=>by rw[e j (by omega)];exact h.rest j hj b,hb,⟨el,by rw[e 1 (by decide)];exact he.ag (a 1 (by decide)),Int.le_trans hle (Int.ofNat_le.2 hl)⟩,⟨s,by rw[e 2 (by decide)];exact hs.ag (a 2 (by decide))⟩,hall,ho,fun i t x q r=>?_,by rw[ht];exact h.len,by rw[hG0];exact hsub _ h.f0,by rw[hG0];exact hsub _ h.f1,fun b q=>by rw[hG0];exact h2 b q⟩,h.fam.kf k,h.fam.sb hG,hf.lt⟩;rw[ht] at q;have hx:=(h.tx i t x q r).ag (a _ (by omega)) (a _ (by omega)) (a _ (by omega));exact⟨hx.bx,by rw[e _ (by omega)];exact hx.buf,by rw[e _ (by omega)];exact hx.view,by rw[e _ (by omega)];exact hx.f⟩
theorem Vl.state (h:Vl w F Ft mb gm kb am qv out m es N R) {i:Nat} {t t':TX} {e:TE} {code:Int} (ht:m.txs[i]? =some t) (he:es[i]? =some e) (k:Kf (fun b=>b=e.tb) w w') (hb:Bk w' e.tb 174 (aAr t' code e)) (hz:t'.st=3→code=0) (hk:t'.keys=t.keys) (ha:t'.at'=t.at') :
  Vl w' F Ft mb gm kb am qv out (m.put i t') es N R∧Kf F w w':=by
 have hx:=h.tx i t e ht he;have k0:Kf (Ft (3+3*i)) w w':=k.mono (fun b q=>by have q:b=e.tb:=q;rw[q];exact hx.f);have a:∀j,j≠3+3*i→Ag (Ft j) w w':=fun j hn=>h.fam.ag k0 hn
 obtain⟨el,hel,hle⟩:=h.ext;obtain⟨s,hs⟩:=h.book;refine⟨⟨h.fam.next k.size,h.rest,Bk.ag h.bx (a 0 (by omega)) h.f0,⟨el,hel.ag (a 1 (by omega)),hle⟩,⟨s,hs.ag (a 2 (by omega))⟩,h.all.ag (a 0 (by omega)) h.f1,Vj h.own (a 0 (by omega)) h.f2,fun j u x q r=>?_,?_,h.f0,h.f1,h.f2⟩,h.fam.kf k0⟩
 · rcases Ub q with ⟨rfl,rfl⟩|⟨hn,q⟩
   · rw[he] at r;injection r with r;subst r;exact⟨⟨code,hb,hz⟩,by rw[hk];exact hx.buf.ag (a _ (by omega)),by rw[ha];exact hx.view.ag (a _ (by omega)),hx.f⟩
   · exact(h.tx j u x q r).ag (a _ (by omega)) (a _ (by omega)) (a _ (by omega))
 · show es.length=(m.txs.set i t').length
   rw[rK];exact h.len
theorem Vl.bookd (h:Vl w F Ft mb gm kb am qv out m es N R) (k:Kf (Ft 2) w w') {s:Nat} (hb:aBu w' (Ft 2) kb es.length s):Vl w' F Ft mb gm kb am qv out m es N R∧Kf F w w':=by
 have a:∀j,j≠2→Ag (Ft j) w w':=fun j hn=>h.fam.ag k hn
 obtain⟨el,hel,hle⟩:=h.ext;exact⟨⟨h.fam.next k.size,h.rest,Bk.ag h.bx (a 0 (by decide)) h.f0,⟨el,hel.ag (a 1 (by decide)),hle⟩,⟨s,hb⟩,h.all.ag (a 0 (by decide)) h.f1,Vj h.own (a 0 (by decide)) h.f2,fun j u x q r=>(h.tx j u x q r).ag (a _ (by omega)) (a _ (by omega)) (a _ (by omega)),h.len,h.f0,h.f1,h.f2⟩,h.fam.kf k⟩
theorem Vl.bufd (h:Vl w F Ft mb gm kb am qv out m es N R) {i:Nat} {t:TX} {e:TE} (ht:m.txs[i]? =some t) (he:es[i]? =some e) (k:Kf (Ft (4+3*i)) w w') {ks:List Int} (hb:aDh w' (Ft (4+3*i)) e.bb ks):Vl w' F Ft mb gm kb am qv out (m.put i {t with keys:=ks}) es N R∧Kf F w w':=by
 have hx:=h.tx i t e ht he;have a:∀j,j≠4+3*i→Ag (Ft j) w w':=fun j hn=>h.fam.ag k hn
 obtain⟨el,hel,hle⟩:=h.ext;obtain⟨s,hs⟩:=h.book;refine⟨⟨h.fam.next k.size,h.rest,Bk.ag h.bx (a 0 (by omega)) h.f0,⟨el,hel.ag (a 1 (by omega)),hle⟩,⟨s,hs.ag (a 2 (by omega))⟩,h.all.ag (a 0 (by omega)) h.f1,Vj h.own (a 0 (by omega)) h.f2,fun j u x q r=>?_,?_,h.f0,h.f1,h.f2⟩,h.fam.kf k⟩
 · rcases Ub q with ⟨rfl,rfl⟩|⟨hn,q⟩
   · rw[he] at r;injection r with r;subst r;obtain⟨c,hc,hz⟩:=hx.bx;exact⟨⟨c,Bk.ag hc (a _ (by omega)) hx.f,hz⟩,hb,hx.view.ag (a _ (by omega)),hx.f⟩
   · exact(h.tx j u x q r).ag (a _ (by omega)) (a _ (by omega)) (a _ (by omega))
 · show es.length=(m.txs.set i _).length
   rw[rK];exact h.len
theorem Vl.viewd (h:Vl w F Ft mb gm kb am qv out m es N R) {i R':Nat} {t:TX} {e:TE} {G:Xt} (ht:m.txs[i]? =some t) (he:es[i]? =some e) (k:Kf (Ft (5+3*i)) w w') (hG:Sb w (Ft (5+3*i)) G) (hi:In w' G) (hv:aBw w' G e.vb gm e.bb R' (t.at':Int)) (hR:R≤R') (hR':R'≤100000) :
  Vl w' (orF F G) (Uu Ft (5+3*i) G) mb gm kb am qv out m es N R'∧Kf F w w'∧Sb w F (orF F G)∧In w' (orF F G):=by
 have hx:=h.tx i t e ht he;have hf:=h.fam.step k.size hG hi;have hlt:=Vi he;have a:∀j,j≠5+3*i→Ag (Ft j) w w':=fun j hn=>h.fam.ag k hn
 have pe:∀j,j≠5+3*i→Uu Ft (5+3*i) G j=Ft j:=fun j hn=>aAb Ft G hn
 obtain⟨el,hel,hle⟩:=h.ext;obtain⟨s,hs⟩:=h.book;refine⟨⟨hf,fun j hj b=>by rw[pe j (by omega)];exact h.rest j hj b,Bk.ag h.bx (a 0 (by omega)) h.f0,⟨el,by rw[pe 1 (by omega)];exact hel.ag (a 1 (by omega)),hle⟩,⟨s,by rw[pe 2 (by omega)];exact hs.ag (a 2 (by omega))⟩,h.all.ag (a 0 (by omega)) h.f1,Vj h.own (a 0 (by omega)) h.f2,fun j u x q r=>?_,h.len,by rw[pe 0 (by omega)];exact h.f0,by rw[pe 0 (by omega)];exact h.f1,fun b q=>by rw[pe 0 (by omega)];exact h.f2 b q⟩,h.fam.kf k,h.fam.sb hG,hf.lt⟩;by_cases hj:j=i
 · subst hj;rw[ht] at q;injection q with q;subst q;rw[he] at r;injection r with r;subst r;obtain⟨c,hc,hz⟩:=hx.bx;exact⟨⟨c,Bk.ag hc (a _ (by omega)) hx.f,hz⟩,by rw[pe _ (by omega)];exact hx.buf.ag (a _ (by omega)),by rw[Ua];exact hv,by rw[pe _ (by omega)];exact hx.f⟩
 · have hy:=(h.tx j u x q r).ag (a _ (by omega)) (a _ (by omega)) (a _ (by omega));exact⟨hy.bx,by rw[pe _ (by omega)];exact hy.buf,by rw[pe _ (by omega)];exact hy.view.up hR hR',by rw[pe _ (by omega)];exact hy.f⟩
theorem Vl.extd (h:Vl w F Ft mb gm kb am qv out m es N R) {N':Nat} {el:Int} {G:Xt} (k:Kf (Ft 1) w w') (hG:Sb w (Ft 1) G) (hi:In w' G) (he:Kn w' G gm N' el) (hl:el≤(m.last:Int)) :
  Vl w' (orF F G) (Uu Ft 1 G) mb gm kb am qv out m es N' R∧Kf F w w'∧Sb w F (orF F G)∧In w' (orF F G):=by
 have hf:=h.fam.step k.size hG hi;have a:∀j,j≠1→Ag (Ft j) w w':=fun j hn=>h.fam.ag k hn
 have pe:∀j,j≠1→Uu Ft 1 G j=Ft j:=fun j hn=>aAb Ft G hn
 obtain⟨s,hs⟩:=h.book;refine⟨⟨hf,fun j hj b=>by rw[pe j (by omega)];exact h.rest j hj b,Bk.ag h.bx (a 0 (by omega)) h.f0,⟨el,by rw[Ua];exact he,hl⟩,⟨s,by rw[pe 2 (by omega)];exact hs.ag (a 2 (by omega))⟩,h.all.ag (a 0 (by omega)) h.f1,Vj h.own (a 0 (by omega)) h.f2,fun j u x q r=>?_,h.len,by rw[pe 0 (by omega)];exact h.f0,by rw[pe 0 (by omega)];exact h.f1,fun b q=>by rw[pe 0 (by omega)];exact h.f2 b q⟩,h.fam.kf k,h.fam.sb hG,hf.lt⟩;have hy:=(h.tx j u x q r).ag (a _ (by omega)) (a _ (by omega)) (a _ (by omega));exact⟨hy.bx,by rw[pe _ (by omega)];exact hy.buf,by rw[pe _ (by omega)];exact hy.view,by rw[pe _ (by omega)];exact hy.f⟩
end
def aBr (Ft:Nat→Xt) (c:Nat) (tb:Nat) (Fb Fv:Xt):Nat→Xt:=fun j=>if j<c then Ft j else if j=c then (fun b=>b=tb) else if j=c+1 then Fb else if j=c+2 then Fv else fun _=>False
section
variable {Ft:Nat→Xt} {c tb:Nat} {Fb Fv:Xt}
theorem aCn {j:Nat} (h:j<c):aBr Ft c tb Fb Fv j=Ft j:=by unfold aBr;rw[if_pos h]
theorem aKi:aBr Ft c tb Fb Fv c=fun b=>b=tb:=by unfold aBr;rw[if_neg (by omega),if_pos rfl]
theorem aGt:aBr Ft c tb Fb Fv (c+1)=Fb:=by unfold aBr;rw[if_neg (by omega),if_neg (by omega),if_pos rfl]
theorem aGu:aBr Ft c tb Fb Fv (c+2)=Fv:=by unfold aBr;rw[if_neg (by omega),if_neg (by omega),if_neg (by omega),if_pos rfl]
theorem aKj {j:Nat} (h:c+2<j):aBr Ft c tb Fb Fv j=fun _=>False:=by unfold aBr;rw[if_neg (by omega),if_neg (by omega),if_neg (by omega),if_neg (by omega)]
theorem aJi {w w':World} (h1:w.heap.size≤tb∧tb<w'.heap.size) (h2:∀b,Fb b→w.heap.size≤b∧b<w'.heap.size) (h3:∀b,Fv b→w.heap.size≤b∧b<w'.heap.size) {j:Nat} (hj:c≤j) {b:Nat} (q:aBr Ft c tb Fb Fv j b):w.heap.size≤b∧b<w'.heap.size:=by
 rcases Nat.lt_trichotomy j (c+1) with e|e|e
 · obtain rfl:j=c:=by omega
   rw[aKi] at q;have q:b=tb:=q;rw[q];exact h1
 · subst e;rw[aGt] at q;exact h2 b q
 · by_cases e2:j=c+2
   · subst e2;rw[aGu] at q;exact h3 b q
   · rw[aKj (by omega)] at q;exact q.elim
theorem aJh (d1:¬Fb tb) (d2:¬Fv tb) (d3:Dis Fb Fv) {i j:Nat} (hi:c≤i) (hij:i<j):Dis (aBr Ft c tb Fb Fv i) (aBr Ft c tb Fb Fv j):=by
 intro b q r;by_cases e1:c+2<j
 · rw[aKj e1] at r;exact r
 by_cases e2:i=c
 · subst e2;rw[aKi] at q;have q:b=tb:=q;subst q;by_cases e3:j=i+1
   · subst e3;rw[aGt] at r;exact d1 r
   · obtain rfl:j=i+2:=by omega
     rw[aGu] at r;exact d2 r
 · obtain rfl:i=c+1:=by omega
   obtain rfl:j=c+2:=by omega
   rw[aGt] at q;rw[aGu] at r;exact d3 b q r
theorem Fam.more {w w':World} {F:Xt} (h:Fam w F Ft) (hz:w.heap.size≤w'.heap.size) (h1:w.heap.size≤tb∧tb<w'.heap.size) (h2:∀b,Fb b→w.heap.size≤b∧b<w'.heap.size) (h3:∀b,Fv b→w.heap.size≤b∧b<w'.heap.size)
  (d1:¬Fb tb) (d2:¬Fv tb) (d3:Dis Fb Fv):Fam w' (orF F (fun b=>w.heap.size≤b∧b<w'.heap.size)) (aBr Ft c tb Fb Fv):=by
 refine⟨fun b q=>q.elim (fun r=>tL (h.lt b r) hz) (fun r=>r.2),fun i b q=>?_,?_⟩
 · by_cases e:i<c
   · rw[aCn e] at q;exact .inl (h.sub i b q)
   · exact .inr (aJi h1 h2 h3 (by omega) q)
 · have old:∀i j,i<c→c≤j→Dis (aBr Ft c tb Fb Fv i) (aBr Ft c tb Fb Fv j):=fun i j hi hj b q r=>by
    rw[aCn hi] at q;have:=h.inn i b q;have:=(aJi h1 h2 h3 hj r).1;omega
   intro i j hn;by_cases e1:i<c<;>by_cases e2:j<c
   · rw[aCn e1,aCn e2];exact h.dis i j hn
   · exact old i j e1 (by omega)
   · exact(old j i e2 (by omega)).symm
   · rcases Nat.lt_or_gt_of_ne hn with g|g
     · exact aJh d1 d2 d3 (by omega) g
     · exact(aJh d1 d2 d3 (by omega) g).symm
end
theorem Vl.begun {w w1 w4 w5:World} {F:Xt} {Ft:Nat→Xt} {mb gm kb am:Nat} {qv:Value} {out:Nat} {m:MS} {es:List TE} {N R:Nat} (h:Vl w F Ft mb gm kb am qv out m es N R) {e:TE} {Fb Fv:Xt} {s:Nat}
  (k1:Kf (Ft 2) w w1) (hbk:aBu w1 (Ft 2) kb (es.length+1) s) (b4:nD w1 w4) (hb:aDh w4 Fb e.bb []) (hFb:∀b,Fb b→w1.heap.size≤b∧b<w4.heap.size) (hv:aBw w4 Fv e.vb gm e.bb R (m.last:Int)) (hFv:∀b,Fv b→w1.heap.size≤b∧b<w4.heap.size)
  (htb:Bk w4 e.tb 174 (aAr ⟨1,0,m.last,[]⟩ 0 e)) (ht1:w1.heap.size≤e.tb) (d1:¬Fb e.tb) (d2:¬Fv e.tb) (d3:Dis Fb Fv)
  (hM:IM w5 prog 3 am (Uv es.length (Km es ((es.length:Int)+1))) (upd (Km es) ((es.length:Int)+1) (some (.pointer (some ⟨e.tb,0,none⟩))))) (hg:w4.grownBy w5 (some am)) :
  ∃F' Ft',(Vl w5 F' Ft' mb gm kb am qv out m.begin (es++[e]) N R∧aBu w5 (Ft' 2) kb (es++[e]).length s)∧Kf F w w5∧Sb w F F'∧In w5 F':=by
 obtain⟨h1,kF1⟩:((∀j,j≠2→Ag (Ft j) w w1))∧Kf F w w1:=⟨fun j hn=>h.fam.ag k1 hn,h.fam.kf k1⟩;have am4:IM w4 prog 3 am es.length (Km es):=(h.all.ag (h1 0 (by decide)) h.f1).next b4;have k45:Kf (fun b=>b=am) w4 w5:=aDa am4 hg;have a45:Ag (fun b=>b≠am) w4 w5:=k45.ag (fun b q r=>q r);have hlt:am<w1.heap.size:=(h.all.ag (h1 0 (by decide)) h.f1).lt;have a15:Ag (fun b=>b≠am) w1 w5:=(Ag.of_below b4).trans a45;have nam:∀j,j≠0→∀b,Ft j b→b≠am:=fun j hj b q r=>h.fam.dis j 0 hj b q (r▸h.f1)
 have aj:∀j,j≠0→Ag (Ft j) w1 w5:=fun j hj=>a15.mono (nam j hj)
 have f1:Fam w1 F Ft:=h.fam.next k1.size;have hF:=f1.more (c:=3+3*es.length) (w':=w5) (tK b4.size k45.size) ⟨ht1,tL htb.lt k45.size⟩ (fun b q=>⟨(hFb b q).1,tL (hFb b q).2 k45.size⟩) (fun b q=>⟨(hFv b q).1,tL (hFv b q).2 k45.size⟩) d1 d2 d3;have old:∀{j},j<3+3*es.length→aBr Ft (3+3*es.length) e.tb Fb Fv j=Ft j:=aCn
 have nFb:∀b,Fb b→b≠am:=fun b q r=>by have:=(hFb b q).1;omega
 have nFv:∀b,Fv b→b≠am:=fun b q r=>by have:=(hFv b q).1;omega
 obtain⟨el,hel,hle⟩:=h.ext;refine⟨_,_,⟨⟨hF,fun j hj b=>?_,?_,⟨el,?_,hle⟩,⟨s,?_⟩,?_,?_,fun i t x q r=>?_,?_,?_,?_,fun b q=>?_⟩,?_⟩,kF1.trans (G:=F) (((Kf.of_below b4).trans k45 (fun b q=>.inl q)).mono (fun b q=>by have q:b=am:=q;rw[q];exact h.fam.sub 0 _ h.f1)) (fun b q=>.inl q),fun b q=>q.imp id (fun r=>tK k1.size r.1),hF.lt⟩
 · rw[rH] at hj;rw[aKj (by simp at hj;omega)];exact id
 · exact Bk.ag (Bk.ag h.bx (h1 0 (by decide)) h.f0) a15 h.am_ne
 · rw[old (by omega)];exact(hel.ag (h1 1 (by decide))).ag (aj 1 (by decide))
 · rw[old (by omega),rH];exact hbk.ag (aj 2 (by decide))
 · have:Uv es.length (Km es ((es.length:Int)+1))=es.length+1:=by rw[aIp (.inr (by omega))];rfl
   rw[this] at hM;rw[aQs,rH];exact hM
 · exact Vj (Vj h.own (h1 0 (by decide)) h.f2) a15 (fun g q r=>h.q_ne.2 (by rw[q,r]))
 · rcases Uk q with q|⟨hi,rfl⟩
   · have hl:=Vi q;rw[rO (by rw[h.len];exact hl)] at r;have hl2:=Vi r;have hy:=(h.tx i t x q r).ag (w':=w1) (h1 _ (by omega)) (h1 _ (by omega)) (h1 _ (by omega));have hy:=hy.ag (w':=w5) (aj _ (by omega)) (aj _ (by omega)) (aj _ (by omega));exact⟨hy.bx,by rw[old (by omega)];exact hy.buf,by rw[old (by omega)];exact hy.view,by rw[old (by omega)];exact hy.f⟩
   · rw[←h.len] at hi;subst hi;rw[rP lR] at r;simp at r
     subst r;refine⟨⟨0,Bk.ag htb a45 (by show e.tb≠am;omega),fun _=>rfl⟩,?_,?_,?_⟩
     · rw[show 4+3*es.length=3+3*es.length+1 by omega,aGt];exact hb.ag (a45.mono nFb)
     · rw[show 5+3*es.length=3+3*es.length+2 by omega,aGu];exact hv.ag (a45.mono nFv)
     · rw[aKi]
 · show (es++[e]).length=(m.txs++[_]).length
   rw[rH,rH,h.len];rfl
 · rw[old (by omega)];exact h.f0
 · rw[old (by omega)];exact h.f1
 · rw[old (by omega)];exact h.f2 b q
 · rw[old (by omega),rH];exact hbk.ag (aj 2 (by decide))
structure aDj (B:Nat) (m:MS) (ts:List TxD):Prop where
 len:ts.length=m.queue.length
 at_:∀(j i:Nat) (t:TX) (x:TxD),m.queue[j]? =some i→m.txs[i]? =some t→ts[j]? =some x→x.time=(t.time:Int)∧x.ps.map Vd.lba=t.keys∧x.n=t.keys.length∧∀p∈x.ps,p.n=40
 new:∀x∈ts,∀ad,x.A=some ad→B≤ad.block
theorem bEk {t:TX} {x:TxD} (h1:x.time=(t.time:Int)) (h2:x.ps.map Vd.lba=t.keys) (h3:x.n=t.keys.length) (h4:∀p∈x.ps,p.n=40) (hk:aEm t.keys) (hne:t.keys≠[]) (ht:1≤t.time∧t.time≤1000):OkT x:=by
 have hl:x.ps.length=t.keys.length:=by rw[←h2,rU]
 refine⟨by omega,?_,fun j hj=>?_,fun p hp=>?_⟩
 · have:=hk.2.1;have:t.keys.length≠0:=fun e=>hne (List.length_eq_zero_iff.1 e)
   omega
 · have hp:=hk.1;rw[←h2,List.pairwise_iff_getElem] at hp;have:=hp j (j+1) (by simp;omega) (by simpa using hj) (by omega);simpa using this
 · have:p.lba∈t.keys:=by rw[←h2];exact List.mem_map_of_mem hp
   have:=hk.2.2 _ this;exact⟨this.1,this.2,h4 p hp⟩
theorem aDj.tx {B:Nat} {m:MS} {ts:List TxD} (h:aDj B m ts) (g:Vq m) {j:Nat} {x:TxD} (hj:ts[j]? =some x):∃(i:Nat) (t:TX),m.queue[j]? =some i∧m.txs[i]? =some t∧t.st=2∧x.time=(t.time:Int)∧x.ps.map Vd.lba=t.keys∧x.n=t.keys.length∧(∀p∈x.ps,p.n=40)∧t.keys≠[]∧t.at' <t.time∧m.last<t.time∧t.time≤m.given:=by
 have hl:=Vi hj;rw[h.len] at hl;obtain⟨t,ht,s2,s3,s4,s5,s6⟩:=g.que _ (rC hl);obtain⟨a,b,c,d⟩:=h.at_ j _ t x (tX hl) ht hj;exact⟨_,t,tX hl,ht,s2,a,b,c,d,s6,s3,s4,s5⟩
theorem aDj.tm {B:Nat} {m:MS} {ts:List TxD} (h:aDj B m ts) (g:Vq m):∀x∈ts,x.time≤(m.given:Int):=fun x hx=>by
 obtain⟨j,hj,rfl⟩:=List.getElem_of_mem hx;obtain⟨i,t,_,_,_,a,_,_,_,_,_,_,k⟩:=h.tx g (tX hj);rw[a];exact Int.ofNat_le.2 k
theorem aDj.ok {B:Nat} {m:MS} {ts:List TxD} (h:aDj B m ts) (g:Vq m):∀x∈ts,OkT x:=fun x hx=>by
 obtain⟨j,hj,rfl⟩:=List.getElem_of_mem hx;obtain⟨i,t,_,ht,_,a,b,c,d,e,f,_,k⟩:=h.tx g (tX hj);have:=g.cap;exact bEk a b c d (g.rng i t ht).2.2 e (by omega)
theorem aDj.up {B:Nat} {m:MS} {ts:List TxD} (h:aDj B m ts) (g:Vq m):∀j,(hj:j+1<ts.length)→ts[j].time<ts[j+1].time:=fun j hj=>by
 obtain⟨i1,t1,q1,e1,_,a1,_⟩:=h.tx g (tX (show j<ts.length by omega));obtain⟨i2,t2,q2,e2,_,a2,_⟩:=h.tx g (tX hj);have hs:=g.srt;rw[List.pairwise_iff_getElem] at hs;have hl:=h.len;have:=hs j (j+1) (by omega) (by omega) (by omega);have r1:m.queue[j]'(by omega)=i1:=by rw[tX (by omega)] at q1;exact rT q1
 have r2:m.queue[j+1]'(by omega)=i2:=by rw[tX (by omega)] at q2;exact rT q2
 rw[r1,r2] at this;have:=this t1 t2 e1 e2;rw[a1,a2];omega
theorem aDj.okB {B:Nat} {m:MS} {ts:List TxD} (h:aDj B m ts) (g:Vq m) {k:Nat} (hk:k≤ts.length) (h8:k≤8) (h0:0<k) (hs:((ts.take k).map (·.n)).sum≤32) {num:Int} (hn:1≤num∧num≤1000):OkB num (ts.take k) :=
 ⟨hn,by rw[rJ];omega,fun j hj=>by
  rw[rJ] at hj;rw[List.getElem_take,List.getElem_take];exact h.up g j (by omega),fun t ht=>h.ok g t (rR ht),hs⟩
theorem bHw:∀args w,(callFunc 267 args).run prog w=.ok (.enter 267 args) w:=enters_of func267 (by kernel_rfl) rfl
theorem aXk (x:Vd) (F:Xt) (gb gs most:Nat) (v:Value) (xs:List ExD) (w:World) (hg:Bk w gb 243 [.pointer (some ⟨gs,0,none⟩)]) (hs:aFo w F gs most v xs) :
  Calls prog 267 #[.agg #[.int .i64 x.lba,.slice x.A x.n x.c],.pointer (some ⟨gb,0,none⟩)] w fun e w'=>e=.returned (.bool (aCi xs ⟨x.lba,1⟩))∧nD w w':=by
 obtain⟨w5,hw5⟩:=nC (w.alloc (.cells #[.int .i64 x.lba,.slice x.A x.n x.c] 50));have hB5:Bk w5 w.heap.size 50 [.int .i64 x.lba,.slice x.A x.n x.c]:=by rw[←hw5];exact Bk.new w _ _
 have hb5:nD w w5:=by rw[←hw5];exact nB.alloc lR _
 obtain⟨d0,d1⟩:=hB5.c2;have hg5:=hg.next hb5 hg.lt;have hc:=aYv F gs most v xs x.lba w5 (hs.ag (.of_below hb5));generalize aCi xs ⟨x.lba,1⟩=rb at hc ⊢;have g0:=hg5.cell (i:=0) (by simp);simp only[tI] at g0;have HB5:=hid hb5;clear hg hs hg5 hB5 hb5;go_enter func267,ntmps267
 go_wp2_with fail
 refine hc.mono ?_;rintro e w2 ⟨rfl,hb2⟩;go_wp2_with fail
 go_ret;exact⟨rfl,HB5.o.trans (hb2.mono HB5.o.size)⟩
theorem aLa (T:Int) (A:Option Addr) (n c:Nat) (ps:List Vd) (F:Xt) (gs most:Nat) (v:Value) (xs:List ExD) (w:World) (hp:Uh w A n c ps) (hs:aFo w F gs most v xs) :
  Calls prog 216 #[.agg #[.int .i64 T,.slice A n c],.pointer (some ⟨gs,0,none⟩)] w fun e w'=>(∃r,e=.returned (.bool r))∧nD w w':=by
 have hmf:∀(fn:Fn) (first cap:Array Value) (w:World),(Instr.makeFunc fn first cap).run prog w=.ok (.func fn first cap) w:=fun _ _ _ _=>rfl
 obtain⟨w5,hw5⟩:=nC (w.alloc (.cells #[.int .i64 T,.slice A n c] 196));have hB5:Bk w5 w.heap.size 196 [.int .i64 T,.slice A n c]:=by rw[←hw5];exact Bk.new w _ _
 have hb5:nD w w5:=by rw[←hw5];exact nB.alloc lR _
 obtain⟨d0,d1⟩:=hB5.c2;obtain⟨w6,hw6⟩:=nC (w5.alloc (.cells #[.pointer (some ⟨gs,0,none⟩)] 243));have hB6:Bk w6 w5.heap.size 243 [.pointer (some ⟨gs,0,none⟩)]:=by rw[←hw6];exact Bk.new w5 _ _
 have hb56:nD w5 w6:=by rw[←hw6];exact nB.alloc lR _
 have hb6:nD w w6:=hb5.trans (hb56.mono hb5.size);have hB5':=hB5.next hb56 hB5.lt;have hc:=aCd A n c ps 267 #[.pointer (some ⟨w5.heap.size,0,none⟩)] (fun p=>aCi xs ⟨p.lba,1⟩) w6 (hp.next hb6) bHw (fun p _ w' hb=>aXk p F w5.heap.size gs most v xs w' (hB6.next hb hB6.lt) ((hs.ag (.of_below hb6)).ag (.of_below hb)));clear d0 d1;obtain⟨d0,d1⟩:=hB5'.c2;have HB6:=hid hb6;clear hp hs hB5 hB6 hb5 hb56 hb6 hB5';go_enter func216,ntmps216
 go_wp2_with fail
 refine hc.mono ?_;rintro e w2 ⟨⟨r,rfl,_⟩,hb2⟩;go_wp2_with fail
 go_ret;exact⟨⟨_,rfl⟩,HB6.o.trans (hb2.mono HB6.o.size)⟩
theorem aOz (F F1 F2:Xt) (gm bm s N n c g1 g2 m1 m2:Nat) (last at':Int) (f:Int→Option Value) (A:Option Addr) (ts:List TxD) {tb:Int} (w:World) (h:Up w F gm bm s N last tb f) (ht:Ki w A n c ts) (h1:aFn w F1 g1 m1) (h2:aFn w F2 g2 m2) (hm1:m1≤1000) (hm2:m2≤1000) :
  Calls prog 160 #[.pointer (some ⟨gm,0,none⟩),.slice A n c,.int .i64 at',.pointer (some ⟨g1,0,none⟩),.pointer (some ⟨g2,0,none⟩)] w fun e w'=>(∃r:Int,e=.returned (.int .i64 r)∧(n=0→tb≤at'→r=0))∧nD w w':=by
 have hl:=ht.len;have hcn:=aRf F2 g2 m2 w h2 hm2;have HX:=nI h ht h1 h2;have HM:=nF hm1 hm2;clear h ht h1 h2 hm1 hm2;go_enter func160,ntmps160
 go_wp2_with fail
 go_step3;go_wp2_with fail
 refine hcn.mono ?_;rintro e w1 ⟨⟨r,rfl⟩,hb1⟩;clear hcn;by_cases hr:r=0
 · subst hr;go_wp2_with fail
   (try simp only[Exit.inBlock,Exit.then,Exit.noGoto_ret])
   go_ret;exact⟨⟨_,rfl,fun _ _=>rfl⟩,hb1⟩
 have hr':(r==0)=false:=by simp;exact hr
 have HR:=hid hr;clear hr;go_wp2_with fail
 go_step3;go_wp2_with fail
 go_loopw [24,11] (fun iv ev wr=>∃k:Nat,k≤2∧iv=.int .i64 (k:Int)∧ev=.int .i64 0∧nD w wr) (fun iv _ _=>2 - (intOf iv).toNat)
 case atStart=>exact⟨0,by omega,rfl,rfl,hb1⟩
 case round =>
  obtain⟨k,hk,rfl,rfl,hW⟩:=hrel;clear hb1 hr' HR;by_cases hlt:k<2
  · obtain⟨gS,mS,FS,hgS,HS⟩:∃gS mS FS,(if k=0 then g1 else g2)=gS∧Hid (aFn w FS gS mS∧mS≤1000):=by
     by_cases h0:k=0
     · exact⟨g1,m1,F1,if_pos h0,hid ⟨HX.o.2.2.1,HM.o.1⟩⟩
     · exact⟨g2,m2,F2,if_neg h0,hid ⟨HX.o.2.2.2,HM.o.2⟩⟩
    have hS:=HS.o.1;obtain⟨vS,xs,hS⟩:=hS;have hex:=aDk FS gS mS 0 vS xs wr (hS.ag (.of_below hW)) HS.o.2 zL;have HSX:=hid hS;have HW:=hid hW;clear hS hW;have n0:(k:Int)<2:=by omega
    have hI:∀W:World,(Instr.index 307 (.agg #[.pointer (some ⟨g1,0,none⟩),.pointer (some ⟨g2,0,none⟩)]) (.int .i64 (k:Int))).run prog W=.ok (.pointer (some ⟨gS,0,none⟩)) W:=by
     rcases(show k=0∨k=1 by omega) with rfl|rfl
     · rw[if_pos rfl] at hgS;subst hgS;intro W;kernel_rfl
     · rw[if_neg (by decide)] at hgS;subst hgS;intro W;kernel_rfl
    clear hgS;go_wp2_with fail
    refine hex.mono ?_;rintro e w2 ⟨⟨u,rfl,hu⟩,hb2⟩;obtain⟨uA,uc,rfl,hxe⟩:=ExO.is hu;obtain⟨L,hL⟩:=nC (xs.length);rw[hL] at hxe ⊢;have hLb:L≤1000:=by have:=HSX.o.2.2.1;have:=HS.o.2;omega
    have HE:=hid hxe;have HB2:=hid (HW.o.trans (hb2.mono HW.o.size));clear hex hu hxe hb2;go_wp2_with fail
    go_loopw [11,30] (fun ev iv wr=>∃k:Nat,k≤L∧iv=.int .i64 (k:Int)∧ev=.int .i64 0∧nD w2 wr) (fun _ iv _=>L - (intOf iv).toNat)
    case atStart=>exact⟨0,zL,rfl,rfl,nB⟩
    case round =>
     clear hI n0;obtain⟨j,hj,rfl,rfl,hWr⟩:=hrel;by_cases hjl:j<L
     · have hr:=HE.o.rd.next lR hWr;obtain⟨x,hpx⟩:=nC (xs[j]'(by omega));have hmx:x∈xs:=by rw[←hpx];exact rC _
       obtain⟨adx,eAx,hadx,e0,e1⟩:=Vk aBb (hr) (k:=j) (by omega) (u:=.int .i64 x.f) (v:=.int .i64 x.l) (by rw[hpx];rfl);subst eAx;have n1:(j:Int)<(L:Int):=by omega
       have n2:(0:Int)≤(j:Int):=by omega
       clear hpx hmx hr;obtain⟨w6,hw6⟩:=nC (wr.alloc (.cells #[.int .i64 x.f,.int .i64 x.l] 46));have hB6:Bk w6 wr.heap.size 46 [.int .i64 x.f,.int .i64 x.l]:=by rw[←hw6];exact Bk.new wr _ _
       have hb6:nD wr w6:=by rw[←hw6];exact nB.alloc lR _
       obtain⟨d0,d1⟩:=hB6.c2;have hwr:=aKc F gm bm s N last at' f x w6 (HX.o.1.ag (.of_below (HB2.o.trans ((hWr.trans (hb6.mono hWr.size)).mono HB2.o.size))));have HB6:=hid (hWr.trans (hb6.mono hWr.size));clear hB6 hb6 hWr;go_wp2_with fail
       refine hwr.mono ?_;rintro e w7 ⟨⟨rb,rfl,hrb⟩,hb7⟩;have HB7:=hid (HB6.o.trans (hb7.mono HB6.o.size));have HRB:=hid hrb;clear hwr hb7 hrb
       cases rb with
       | true =>
         have HN:=hid (show ¬tb≤at' from fun q=>by have:=HRB.o q;cases this);go_wp2_with fail
         (try simp only[Exit.inBlock,Exit.then,Exit.noGoto_ret])
         go_ret;exact⟨⟨_,rfl,fun _ q=>absurd q (by have:=HN.o;omega)⟩,HB2.o.trans (HB7.o.mono HB2.o.size)⟩
       | false =>
         go_wp2_with fail
         go_roundw
         case rel=>exact⟨j+1,by omega,by go_num,rfl,HB7.o⟩
         case measure=>simp[intOf];omega
     · obtain rfl:j=L:=by omega
       have n1:¬(j:Int)<(j:Int):=by omega
       have HB3:=hid (HB2.o.trans (hWr.mono HB2.o.size));clear hWr;go_wp2_with fail
       go_loopw [11,41] (fun ev iv wr=>∃k:Nat,k≤n∧iv=.int .i64 (k:Int)∧ev=.int .i64 0∧nD w wr) (fun _ iv _=>n - (intOf iv).toNat)
       case atStart=>exact⟨0,zL,rfl,rfl,HB3.o⟩
       case round =>
        clear n1;obtain⟨i2,hp,rfl,rfl,hWr⟩:=hrel;by_cases hpl:i2<n
        · have hr:=HX.o.2.1.rd.next lR hWr;have hl:=HX.o.2.1.len
          have hnb:n≤9223372036854775807:=by have h1:=HX.o.2.1.cap;have h2:=HX.o.2.1.big;have h3:maxLen≤9223372036854775807:=by decide
                                             omega
          obtain⟨x,hpx⟩:=nC (ts[i2]'(by omega));have hmx:x∈ts:=by rw[←hpx];exact rC _
          obtain⟨adx,eAx,hadx,e0,e1⟩:=Vk aAu (hr) (k:=i2) (by omega) (u:=.int .i64 x.time) (v:=.slice x.A x.n x.c) (by rw[hpx];rfl);subst eAx;have n1:(i2:Int)<(n:Int):=by omega
          have n2:(0:Int)≤(i2:Int):=by omega
          have HPS:=hid (HX.o.2.1.y x hmx);clear hpx hmx hr;obtain⟨w6,hw6⟩:=nC (wr.alloc (.cells #[.int .i64 x.time,.slice x.A x.n x.c] 196));have hB6:Bk w6 wr.heap.size 196 [.int .i64 x.time,.slice x.A x.n x.c]:=by rw[←hw6];exact Bk.new wr _ _
          have hb6:nD wr w6:=by rw[←hw6];exact nB.alloc lR _
          obtain⟨d0,d1⟩:=hB6.c2;have hb06:=hWr.trans (hb6.mono hWr.size);have hag:=aLa x.time x.A x.n x.c x.ps FS gS mS vS xs w6 (HPS.o.next hb06) (HSX.o.ag (.of_below hb06));have HB6:=hid hb06;clear hB6 hb6 hWr hb06;go_wp2_with fail
          refine hag.mono ?_;rintro e w7 ⟨⟨rb,rfl⟩,hb7⟩;have HB7:=hid (HB6.o.trans (hb7.mono HB6.o.size));clear hag hb7
          cases rb with
          | true =>
            have HN:=hid (show n≠0 by omega);go_wp2_with fail
            (try simp only[Exit.inBlock,Exit.then,Exit.noGoto_ret])
            go_ret;exact⟨⟨_,rfl,fun q _=>absurd q HN.o⟩,HB7.o⟩
          | false =>
            go_wp2_with fail
            go_roundw
            case rel=>exact⟨i2+1,by omega,by go_num,rfl,HB7.o⟩
            case measure=>simp[intOf];omega
        · obtain rfl:i2=n:=by omega
          have n1:¬(i2:Int)<(i2:Int):=by omega
          go_wp2_with fail
          go_roundw
          case rel=>exact⟨k+1,by omega,by go_num,rfl,hWr⟩
          case measure=>simp[intOf];omega
  · obtain rfl:k=2:=by omega
    have n0:¬((2:Nat):Int)<2:=by omega
    go_wp2_with fail
    (try simp only[Exit.inBlock,Exit.then,Exit.noGoto_ret])
    go_ret;exact⟨⟨_,rfl,fun _ _=>rfl⟩,hW⟩
end Go.Proofs.YtdhlicgaalnmoaaGreatDoor.Tp
