/- Contracts of the program's functions, and laws on memory: a part of the proof of TopAlone. -/
import Derived.Test.YtdhlicgaalnmoaaGreatDoorZK
set_option linter.unusedSimpArgs false
set_option linter.unusedVariables false
namespace Go.Proofs.YtdhlicgaalnmoaaGreatDoor.Tp
open Lib (hid)
open Tryz
open Go.RowKit Go.Maps
set_option maxHeartbeats 8000000
set_option maxRecDepth 100000
theorem bDk (g n c k:Nat) (ad:Addr) (ep:Int) (w'':World) (c0 c3 c5 c6 c9 qM jM jN jO jP jQ jR jS jT jU jV jW jX jY jZ zB zC zD zE zF zG zH zI zJ zK Xr zM zN zO zP zQ zR xO xP xQ xR xS xT xU xV qC qD qE qF qG qH qI qJ qK qL qN qO qP qQ qR qS qT qU qV qW qY qZ u4 u7 u8 xW vU pE pF pG kU kV kW kX kZ hC hJ hU gA gB gC gD gE gF gG gH gI gJ gK gL gM gN gO gP gQ gR gT gU gV gW gX gY gZ fA fC fD fE fF fG fH fI fJ:Value) (Q:Exit→Act→World→Prop) (hk:k=n) (h:∀kU:Value,Q (.exit 0) ⟨#[c0,.int .i64 ep,.pointer (some ⟨g,0,none⟩),c3,u4,c5,c6,u7,u8,c9,xW,qM,vU,pE,pF,pG,jM,jN,jO,jP,jQ,jR,jS,jT,jU,jV,jW,jX,jY,jZ,zB,zC,zD,zE,zF,zG,zH,zI,zJ,zK,Xr,zM,zN,zO,zP,zQ,zR,.slice (some ad) n c,.int .i64 (n:Int),.int .i64 (k:Int),kU,kV,kW,kX,kZ,hC,hJ,hU,gA,gB,gC,gD,gE,gF,gG,gH,gI,gJ,gK,gL,gM,gN,gO,gP,gQ,gR,gT,gU,gV,gW,gX,gY,gZ,fA,fC,fD,fE,fF,fG,fH,fI,fJ,xO,xP,xQ,xR,xS,xT,xU,xV,qC,qD,qE,qF,qG,qH,qI,qJ,qK,qL,qN,qO,qP,qQ,qR,qS,qT,qU,qV,qW,qY,qZ],[]⟩ w'') :
  Code.wp prog (aEq f109 0) Q ⟨#[c0,.int .i64 ep,.pointer (some ⟨g,0,none⟩),c3,u4,c5,c6,u7,u8,c9,xW,qM,vU,pE,pF,pG,jM,jN,jO,jP,jQ,jR,jS,jT,jU,jV,jW,jX,jY,jZ,zB,zC,zD,zE,zF,zG,zH,zI,zJ,zK,Xr,zM,zN,zO,zP,zQ,zR,.slice (some ad) n c,.int .i64 (n:Int),.int .i64 (k:Int),kU,kV,kW,kX,kZ,hC,hJ,hU,gA,gB,gC,gD,gE,gF,gG,gH,gI,gJ,gK,gL,gM,gN,gO,gP,gQ,gR,gT,gU,gV,gW,gX,gY,gZ,fA,fC,fD,fE,fF,fG,fH,fI,fJ,xO,xP,xQ,xR,xS,xT,xU,xV,qC,qD,qE,qF,qG,qH,qI,qJ,qK,qL,qN,qO,qP,qQ,qR,qS,qT,qU,qV,qW,qY,qZ],[]⟩ w'':=by
 subst hk;have n0:¬(k:Int)<(k:Int):=Int.lt_irrefl _;conv=>arg 2;whnf
 go_wp2_with fail
 exact h _
theorem aYo (w6 wr:World) (g n c:Nat) (ad:Addr) (ep num:Int) (ts:List TxD) (c0 c3 c5 c6 c9 qM jM jN jO jP jQ jR jS jT jU jV jW jX jY jZ zB zC zD zE zF zG zH zI zJ zK Xr zM zN zO zP zQ zR xO xP xQ xR xS xT xU xV qC qD qE qF qG qH qI qJ qK qL qN qO qP qQ qR qS qT qU qV qW qY qZ u4 u7 u8 xW vU pE pF pG kT kU kV kW kX kZ hC hJ hU gA gB gC gD gE gF gG gH gI gJ gK gL gM gN gO gP gQ gR gT gU gV gW gX gY gZ fA fC fD fE fF fG fH fI fJ:Value) (Q0:Exit→Act→World→Prop)
  (hB:Bk w6 g 107 [.int .i64 num,.slice (some ad) n c]) (hT:Ki w6 (some ad) n c ts) (hok:OkB num ts) (hep:0≤ep∧ep≤4294967295) (hn:n≤8)
  (h0:∃(k:Nat) (lt:Int) (xs:List BR) (bs:List Int),k≤n∧kT=.int .i64 (k:Int)∧u8=.int .i64 lt∧EnX w6 wr u4 u7 xs bs∧xs.length=((ts.take k).map (·.n)).sum∧LtT ts bs k lt)
  (hexit:∀(u4 u7 u8 xW vU pE pF pG kT kU kV kW kX kZ hC hJ hU gA gB gC gD gE gF gG gH gI gJ gK gL gM gN gO gP gQ gR gT gU gV gW gX gY gZ fA fC fD fE fF fG fH fI fJ:Value) (w':World),(∃(xs:List BR) (bs:List Int),EnX w6 w' u4 u7 xs bs∧xs.length=((ts.take n).map (·.n)).sum∧LkT ts bs n 0)→Q0 (.exit 0) ⟨#[c0,.int .i64 ep,.pointer (some ⟨g,0,none⟩),c3,u4,c5,c6,u7,u8,c9,xW,qM,vU,pE,pF,pG,jM,jN,jO,jP,jQ,jR,jS,jT,jU,jV,jW,jX,jY,jZ,zB,zC,zD,zE,zF,zG,zH,zI,zJ,zK,Xr,zM,zN,zO,zP,zQ,zR,.slice (some ad) n c,.int .i64 (n:Int),kT,kU,kV,kW,kX,kZ,hC,hJ,hU,gA,gB,gC,gD,gE,gF,gG,gH,gI,gJ,gK,gL,gM,gN,gO,gP,gQ,gR,gT,gU,gV,gW,gX,gY,gZ,fA,fC,fD,fE,fF,fG,fH,fI,fJ,xO,xP,xQ,xR,xS,xT,xU,xV,qC,qD,qE,qF,qG,qH,qI,qJ,qK,qL,qN,qO,qP,qQ,qR,qS,qT,qU,qV,qW,qY,qZ],[]⟩ w') :
  Code.wp prog (Code.loop (aEq f109 0)) Q0 ⟨#[c0,.int .i64 ep,.pointer (some ⟨g,0,none⟩),c3,u4,c5,c6,u7,u8,c9,xW,qM,vU,pE,pF,pG,jM,jN,jO,jP,jQ,jR,jS,jT,jU,jV,jW,jX,jY,jZ,zB,zC,zD,zE,zF,zG,zH,zI,zJ,zK,Xr,zM,zN,zO,zP,zQ,zR,.slice (some ad) n c,.int .i64 (n:Int),kT,kU,kV,kW,kX,kZ,hC,hJ,hU,gA,gB,gC,gD,gE,gF,gG,gH,gI,gJ,gK,gL,gM,gN,gO,gP,gQ,gR,gT,gU,gV,gW,gX,gY,gZ,fA,fC,fD,fE,fF,fG,fH,fI,fJ,xO,xP,xQ,xR,xS,xT,xU,xV,qC,qD,qE,qF,qG,qH,qI,qJ,qK,qL,qN,qO,qP,qQ,qR,qS,qT,qU,qV,qW,qY,qZ],[]⟩ wr:=by
 refine wp_loop (EOI w6 g n c ad ep ts c0 c3 c5 c6 c9 qM jM jN jO jP jQ jR jS jT jU jV jW jX jY jZ zB zC zD zE zF zG zH zI zJ zK Xr zM zN zO zP zQ zR xO xP xQ xR xS xT xU xV qC qD qE qF qG qH qI qJ qK qL qN qO qP qQ qR qS qT qU qV qW qY qZ) (aYp n) (EOI.mk h0) (fun a w'' hI=>?_);unfold EOI at hI;obtain⟨v4,v7,v8,fS,bQ,bY,bZ,dA,dN,v50,v51,dO,v53,dP,v55,dQ,v57,dR,dS,dT,dU,dV,v63,v64,dW,v66,dX,dY,dZ,v70,mA,v72,mB,mC,v75,v76,v77,mD,mE,mF,mG,mH,mI,mJ,mL,mM,mN,mO,mP,mQ,mR,hI⟩:=hI;obtain⟨⟨k,lt,xs,bs,hk,e49,e8,hE,hl,hbl⟩,rfl⟩:=hI;subst e49 e8;rcases tN k n with hlt|hge
 · exact aUm w6 w'' g n c k ad ep num lt ts xs bs _ _ _ _ _ _ _ _ _ _ _ _ _ _ _ _ _ _ _ _ _ _ _ _ _ _ _ _ _ _ _ _ _ _ _ _ _ _ _ _ _ _ _ _ _ _ _ _ _ _ _ _ _ _ _ _ _ _ _ _ _ _ _ _ _ _ _ _ _ _ _ _ _ _ _ _ _ _ _ _ _ _ _ _ _ _ _ _ _ _ _ _ _ _ _ _ _ _ _ _ _ _ _ _ _ _ _ _ _ _ _ _ _ _ _ _ Q0 hB hT hok hep hn hE hl hbl hlt
 · have e:k=n:=tQ hk hge;subst e;exact bDk g k c k ad ep w'' _ _ _ _ _ _ _ _ _ _ _ _ _ _ _ _ _ _ _ _ _ _ _ _ _ _ _ _ _ _ _ _ _ _ _ _ _ _ _ _ _ _ _ _ _ _ _ _ _ _ _ _ _ _ _ _ _ _ _ _ _ _ _ _ _ _ _ _ _ _ _ _ _ _ _ _ _ _ _ _ _ _ _ _ _ _ _ _ _ _ _ _ _ _ _ _ _ _ _ _ _ _ _ _ _ _ _ _ _ _ _ _ _ _ _ _ _ _ rfl (fun _=>hexit _ _ _ _ _ _ _ _ _ _ _ _ _ _ _ _ _ _ _ _ _ _ _ _ _ _ _ _ _ _ _ _ _ _ _ _ _ _ _ _ _ _ _ _ _ _ _ _ _ _ _ w'' ⟨xs,bs,hE,hl,hbl.lk⟩)
def ELI (w6:World) (n c:Nat) (ad:Addr) (xs:List BR) (ts:List TxD) (c0 c1 c2 c3 c4 c5 c6 c8 c9 qB qM qX jC jK jL jM jO jP jQ jR jS jT jU jV jW jX jY jZ zB zC zD zE zF zG zH zI zJ zK Xr zM zN zO zP zQ zR zS zT zU zV zW zX zY zZ yB yC yE yF yG yH yI yJ yK yL yM yN yO yP yQ yR yS yT yU yV yW yX yY yZ xB xC xD xE xF xG xH xI xJ xK xL xM xN xO qJ qK qL qN qO qP qQ qR qS qT qU qV qW qY qZ:Value) (a:Act) (wr:World):Prop :=
 ∃u7 pI fN fO fP fQ fR xX xY xZ vB vC vD vE:Value,(∃(k:Nat) (bs:List Int),k≤n∧fN=.int .i64 (k:Int)∧EnX w6 wr c4 u7 xs bs∧LkT ts bs n k)∧a=⟨#[c0,c1,c2,c3,c4,c5,c6,u7,c8,c9,qB,qM,qX,jC,jK,jL,jM,pI,jO,jP,jQ,jR,jS,jT,jU,jV,jW,jX,jY,jZ,zB,zC,zD,zE,zF,zG,zH,zI,zJ,zK,Xr,zM,zN,zO,zP,zQ,zR,zS,zT,zU,zV,zW,zX,zY,zZ,yB,yC,yE,yF,yG,yH,yI,yJ,yK,yL,yM,yN,yO,yP,yQ,yR,yS,yT,yU,yV,yW,yX,yY,yZ,xB,xC,xD,xE,xF,xG,xH,xI,xJ,xK,xL,xM,xN,xO,.slice (some ad) n c,.int .i64 (n:Int),fN,fO,fP,fQ,fR,xX,xY,xZ,vB,vC,vD,vE,qJ,qK,qL,qN,qO,qP,qQ,qR,qS,qT,qU,qV,qW,qY,qZ],[]⟩
theorem ELI.mk {w6 wr:World} {n c:Nat} {ad:Addr} {xs:List BR} {ts:List TxD} {c0 c1 c2 c3 c4 c5 c6 c8 c9 qB qM qX jC jK jL jM jO jP jQ jR jS jT jU jV jW jX jY jZ zB zC zD zE zF zG zH zI zJ zK Xr zM zN zO zP zQ zR zS zT zU zV zW zX zY zZ yB yC yE yF yG yH yI yJ yK yL yM yN yO yP yQ yR yS yT yU yV yW yX yY yZ xB xC xD xE xF xG xH xI xJ xK xL xM xN xO qJ qK qL qN qO qP qQ qR qS qT qU qV qW qY qZ:Value} {u7 pI fN fO fP fQ fR xX xY xZ vB vC vD vE:Value} (h:∃(k:Nat) (bs:List Int),k≤n∧fN=.int .i64 (k:Int)∧EnX w6 wr c4 u7 xs bs∧LkT ts bs n k):ELI w6 n c ad xs ts c0 c1 c2 c3 c4 c5 c6 c8 c9 qB qM qX jC jK jL jM jO jP jQ jR jS jT jU jV jW jX jY jZ zB zC zD zE zF zG zH zI zJ zK Xr zM zN zO zP zQ zR zS zT zU zV zW zX zY zZ yB yC yE yF yG yH yI yJ yK yL yM yN yO yP yQ yR yS yT yU yV yW yX yY yZ xB xC xD xE xF xG xH xI xJ xK xL xM xN xO qJ qK qL qN qO qP qQ qR qS qT qU qV qW qY qZ ⟨#[c0,c1,c2,c3,c4,c5,c6,u7,c8,c9,qB,qM,qX,jC,jK,jL,jM,pI,jO,jP,jQ,jR,jS,jT,jU,jV,jW,jX,jY,jZ,zB,zC,zD,zE,zF,zG,zH,zI,zJ,zK,Xr,zM,zN,zO,zP,zQ,zR,zS,zT,zU,zV,zW,zX,zY,zZ,yB,yC,yE,yF,yG,yH,yI,yJ,yK,yL,yM,yN,yO,yP,yQ,yR,yS,yT,yU,yV,yW,yX,yY,yZ,xB,xC,xD,xE,xF,xG,xH,xI,xJ,xK,xL,xM,xN,xO,.slice (some ad) n c,.int .i64 (n:Int),fN,fO,fP,fQ,fR,xX,xY,xZ,vB,vC,vD,vE,qJ,qK,qL,qN,qO,qP,qQ,qR,qS,qT,qU,qV,qW,qY,qZ],[]⟩ wr:=⟨u7,pI,fN,fO,fP,fQ,fR,xX,xY,xZ,vB,vC,vD,vE,h,rfl⟩
def aYl (n:Nat) (a:Act) (_:World):Nat:=n - (intOf (a.tmps.getD 95 undef)).toNat
theorem aPn {n c:Nat} {ad:Addr} {w:World} {x:Int} {c0 c1 c2 c3 c4 c5 c6 c8 c9 qB qM qX jC jK jL jM jO jP jQ jR jS jT jU jV jW jX jY jZ zB zC zD zE zF zG zH zI zJ zK Xr zM zN zO zP zQ zR zS zT zU zV zW zX zY zZ yB yC yE yF yG yH yI yJ yK yL yM yN yO yP yQ yR yS yT yU yV yW yX yY yZ xB xC xD xE xF xG xH xI xJ xK xL xM xN xO qJ qK qL qN qO qP qQ qR qS qT qU qV qW qY qZ u7 pI fO fP fQ fR xX xY xZ vB vC vD vE:Value}:aYl n ⟨#[c0,c1,c2,c3,c4,c5,c6,u7,c8,c9,qB,qM,qX,jC,jK,jL,jM,pI,jO,jP,jQ,jR,jS,jT,jU,jV,jW,jX,jY,jZ,zB,zC,zD,zE,zF,zG,zH,zI,zJ,zK,Xr,zM,zN,zO,zP,zQ,zR,zS,zT,zU,zV,zW,zX,zY,zZ,yB,yC,yE,yF,yG,yH,yI,yJ,yK,yL,yM,yN,yO,yP,yQ,yR,yS,yT,yU,yV,yW,yX,yY,yZ,xB,xC,xD,xE,xF,xG,xH,xI,xJ,xK,xL,xM,xN,xO,.slice (some ad) n c,.int .i64 (n:Int),.int .i64 x,fO,fP,fQ,fR,xX,xY,xZ,vB,vC,vD,vE,qJ,qK,qL,qN,qO,qP,qQ,qR,qS,qT,qU,qV,qW,qY,qZ],[]⟩ w=n - x.toNat:=rfl
theorem bGn {a k n:Nat} (e:a=9+2*n+k) (h:k<n) (hn:n≤8):a+1≤1000000000:=by omega
theorem bGo {a k n:Nat} (e:a=9+2*n+k) (h:k<n) (hn:n≤8):(a+1)*1≤1000000000000:=by omega
theorem bDh (d:Int):∀x∈[d % 256],0≤x∧x<256:=by
 intro x hx;simp at hx
 subst hx;constructor<;>omega
theorem aUj (w6 wr:World) (n c k:Nat) (ad:Addr) (num:Int) (ts:List TxD) (xs:List BR) (bs:List Int) (c0 c1 c2 c3 c4 c5 c6 c8 c9 qB qM qX jC jK jL jM jO jP jQ jR jS jT jU jV jW jX jY jZ zB zC zD zE zF zG zH zI zJ zK Xr zM zN zO zP zQ zR zS zT zU zV zW zX zY zZ yB yC yE yF yG yH yI yJ yK yL yM yN yO yP yQ yR yS yT yU yV yW yX yY yZ xB xC xD xE xF xG xH xI xJ xK xL xM xN xO qJ qK qL qN qO qP qQ qR qS qT qU qV qW qY qZ u7 pI fO fP fQ fR xX xY xZ vB vC vD vE:Value) (Q0:Exit→Act→World→Prop)
  (hT:Ki w6 (some ad) n c ts) (hok:OkB num ts) (hn:n≤8) (hE:EnX w6 wr c4 u7 xs bs) (hbl:LkT ts bs n k) (hlt:k<n) :
  Code.wp prog (aEq f109 1) (Exit.then (fun a' w''=>ELI w6 n c ad xs ts c0 c1 c2 c3 c4 c5 c6 c8 c9 qB qM qX jC jK jL jM jO jP jQ jR jS jT jU jV jW jX jY jZ zB zC zD zE zF zG zH zI zJ zK Xr zM zN zO zP zQ zR zS zT zU zV zW zX zY zZ yB yC yE yF yG yH yI yJ yK yL yM yN yO yP yQ yR yS yT yU yV yW yX yY yZ xB xC xD xE xF xG xH xI xJ xK xL xM xN xO qJ qK qL qN qO qP qQ qR qS qT qU qV qW qY qZ a' w''∧aYl n a' w'' <aYl n ⟨#[c0,c1,c2,c3,c4,c5,c6,u7,c8,c9,qB,qM,qX,jC,jK,jL,jM,pI,jO,jP,jQ,jR,jS,jT,jU,jV,jW,jX,jY,jZ,zB,zC,zD,zE,zF,zG,zH,zI,zJ,zK,Xr,zM,zN,zO,zP,zQ,zR,zS,zT,zU,zV,zW,zX,zY,zZ,yB,yC,yE,yF,yG,yH,yI,yJ,yK,yL,yM,yN,yO,yP,yQ,yR,yS,yT,yU,yV,yW,yX,yY,yZ,xB,xC,xD,xE,xF,xG,xH,xI,xJ,xK,xL,xM,xN,xO,.slice (some ad) n c,.int .i64 (n:Int),.int .i64 (k:Int),fO,fP,fQ,fR,xX,xY,xZ,vB,vC,vD,vE,qJ,qK,qL,qN,qO,qP,qQ,qR,qS,qT,qU,qV,qW,qY,qZ],[]⟩ wr) Q0) ⟨#[c0,c1,c2,c3,c4,c5,c6,u7,c8,c9,qB,qM,qX,jC,jK,jL,jM,pI,jO,jP,jQ,jR,jS,jT,jU,jV,jW,jX,jY,jZ,zB,zC,zD,zE,zF,zG,zH,zI,zJ,zK,Xr,zM,zN,zO,zP,zQ,zR,zS,zT,zU,zV,zW,zX,zY,zZ,yB,yC,yE,yF,yG,yH,yI,yJ,yK,yL,yM,yN,yO,yP,yQ,yR,yS,yT,yU,yV,yW,yX,yY,yZ,xB,xC,xD,xE,xF,xG,xH,xI,xJ,xK,xL,xM,xN,xO,.slice (some ad) n c,.int .i64 (n:Int),.int .i64 (k:Int),fO,fP,fQ,fR,xX,xY,xZ,vB,vC,vD,vE,qJ,qK,qL,qN,qO,qP,qQ,qR,qS,qT,qU,qV,qW,qY,qZ],[]⟩ wr:=by
 obtain⟨i0,hi,hz0,hz1,hz2⟩:=info_parts aBq;obtain⟨x,e0,e1,_,_,hx16,_,_,_⟩:=bBp hT hok hE.bel hlt;obtain⟨n1,n2,m2⟩:=aFv hlt (tK hn (by decide));obtain⟨bA,bc,rfl⟩:=Xs hE.body.1;obtain⟨wA,hwA⟩:=nC (wr.alloc (.cells #[.int .i64 x.time,.slice x.A x.n x.c] 196));have hBA:Bk wA wr.heap.size 196 [.int .i64 x.time,.slice x.A x.n x.c]:=by rw[←hwA];exact Bk.new wr _ _
 have hbA:nD wr wA:=by rw[←hwA];exact nB.alloc lR _
 obtain⟨d0,d1⟩:=hBA.c2;obtain⟨wB,hwB⟩:=nC (wA.alloc (.cells #[.int .u8 ((x.n:Int) % 256)] 5));have hBB:Bk wB wA.heap.size 5 [.int .u8 ((x.n:Int) % 256)]:=by rw[←hwB];exact Bk.new wA _ _
 have hbB:nD wr wB:=by rw[←hwB];exact hbA.alloc hbA.size _
 have hu8:IntKind.u8.wrap (x.n:Int)=(x.n:Int) % 256:=rfl;have H:=nL hbl hlt hn hE hBB hbB (hE.next hbB);clear hT hok hn hE hbl hlt hBA hbA hBB hbB hx16;conv=>arg 2;whnf
 go_wp2_with (at_builtin;go_must (refine aAa _ rfl _ _ 41 rfl w6.heap.size 5 i0 (.int .u8 0) 1 1 underlying41 hi hz0 hz1 hz2 rfl (by decide) _ _ _ (by rfl) (by exact H.o.2.2.2.2.2.2.body.1) _ _ 1 1 [.int .u8 ((x.n:Int) % 256)] (by rfl) (by rfl) (by exact(H.o.2.2.2.2.1).rd) (by intro u hu;simp at hu;rcases hu with rfl<;>rfl) (by exact bGn H.o.1.len H.o.2.1 H.o.2.2.1) (by exact bGo H.o.1.len H.o.2.1 H.o.2.2.1) (by exact H.o.2.2.2.2.2.2.bel.size) ?_);intro v9 w9 hO9 hG9 hv9;obtain⟨sA,sc,rfl⟩:=Xs hO9)
 have HY:=hid (EnX.more H.o.2.2.2.1 H.o.2.2.2.2.2.1 (ys:=[(x.n:Int) % 256]) hO9 (bDh _) hG9 hv9);clear hO9 hG9 hv9;go_wp2_with fail
 refine⟨?_,?_⟩
 · refine ELI.mk ?_;exact⟨k+1,_,H.o.2.1,Va (by first|rfl|exact m2),HY.o,H.o.1.step _⟩
 · rw[aPn,aPn];exact Xw H.o.2.1 (by first|rfl|exact m2)
theorem bDf (n c k:Nat) (ad:Addr) (w'':World) (c0 c1 c2 c3 c4 c5 c6 c8 c9 qB qM qX jC jK jL jM jO jP jQ jR jS jT jU jV jW jX jY jZ zB zC zD zE zF zG zH zI zJ zK Xr zM zN zO zP zQ zR zS zT zU zV zW zX zY zZ yB yC yE yF yG yH yI yJ yK yL yM yN yO yP yQ yR yS yT yU yV yW yX yY yZ xB xC xD xE xF xG xH xI xJ xK xL xM xN xO qJ qK qL qN qO qP qQ qR qS qT qU qV qW qY qZ u7 pI fO fP fQ fR xX xY xZ vB vC vD vE:Value) (Q:Exit→Act→World→Prop) (hk:k=n) (h:∀fO:Value,Q (.exit 4) ⟨#[c0,c1,c2,c3,c4,c5,c6,u7,c8,c9,qB,qM,qX,jC,jK,jL,jM,pI,jO,jP,jQ,jR,jS,jT,jU,jV,jW,jX,jY,jZ,zB,zC,zD,zE,zF,zG,zH,zI,zJ,zK,Xr,zM,zN,zO,zP,zQ,zR,zS,zT,zU,zV,zW,zX,zY,zZ,yB,yC,yE,yF,yG,yH,yI,yJ,yK,yL,yM,yN,yO,yP,yQ,yR,yS,yT,yU,yV,yW,yX,yY,yZ,xB,xC,xD,xE,xF,xG,xH,xI,xJ,xK,xL,xM,xN,xO,.slice (some ad) n c,.int .i64 (n:Int),.int .i64 (k:Int),fO,fP,fQ,fR,xX,xY,xZ,vB,vC,vD,vE,qJ,qK,qL,qN,qO,qP,qQ,qR,qS,qT,qU,qV,qW,qY,qZ],[]⟩ w'') :
  Code.wp prog (aEq f109 1) Q ⟨#[c0,c1,c2,c3,c4,c5,c6,u7,c8,c9,qB,qM,qX,jC,jK,jL,jM,pI,jO,jP,jQ,jR,jS,jT,jU,jV,jW,jX,jY,jZ,zB,zC,zD,zE,zF,zG,zH,zI,zJ,zK,Xr,zM,zN,zO,zP,zQ,zR,zS,zT,zU,zV,zW,zX,zY,zZ,yB,yC,yE,yF,yG,yH,yI,yJ,yK,yL,yM,yN,yO,yP,yQ,yR,yS,yT,yU,yV,yW,yX,yY,yZ,xB,xC,xD,xE,xF,xG,xH,xI,xJ,xK,xL,xM,xN,xO,.slice (some ad) n c,.int .i64 (n:Int),.int .i64 (k:Int),fO,fP,fQ,fR,xX,xY,xZ,vB,vC,vD,vE,qJ,qK,qL,qN,qO,qP,qQ,qR,qS,qT,qU,qV,qW,qY,qZ],[]⟩ w'':=by
 subst hk;have n0:¬(k:Int)<(k:Int):=Int.lt_irrefl _;conv=>arg 2;whnf
 go_wp2_with fail
 exact h _
theorem aYk (w6 wr:World) (n c:Nat) (ad:Addr) (num:Int) (ts:List TxD) (xs:List BR) (c0 c1 c2 c3 c4 c5 c6 c8 c9 qB qM qX jC jK jL jM jO jP jQ jR jS jT jU jV jW jX jY jZ zB zC zD zE zF zG zH zI zJ zK Xr zM zN zO zP zQ zR zS zT zU zV zW zX zY zZ yB yC yE yF yG yH yI yJ yK yL yM yN yO yP yQ yR yS yT yU yV yW yX yY yZ xB xC xD xE xF xG xH xI xJ xK xL xM xN xO qJ qK qL qN qO qP qQ qR qS qT qU qV qW qY qZ u7 pI fN fO fP fQ fR xX xY xZ vB vC vD vE:Value) (Q0:Exit→Act→World→Prop)
  (hT:Ki w6 (some ad) n c ts) (hok:OkB num ts) (hn:n≤8) (h0:∃(k:Nat) (bs:List Int),k≤n∧fN=.int .i64 (k:Int)∧EnX w6 wr c4 u7 xs bs∧LkT ts bs n k)
  (hexit:∀(u7 pI fN fO fP fQ fR xX xY xZ vB vC vD vE:Value) (w':World),(∃bs:List Int,EnX w6 w' c4 u7 xs bs∧LkT ts bs n n)→Q0 (.exit 4) ⟨#[c0,c1,c2,c3,c4,c5,c6,u7,c8,c9,qB,qM,qX,jC,jK,jL,jM,pI,jO,jP,jQ,jR,jS,jT,jU,jV,jW,jX,jY,jZ,zB,zC,zD,zE,zF,zG,zH,zI,zJ,zK,Xr,zM,zN,zO,zP,zQ,zR,zS,zT,zU,zV,zW,zX,zY,zZ,yB,yC,yE,yF,yG,yH,yI,yJ,yK,yL,yM,yN,yO,yP,yQ,yR,yS,yT,yU,yV,yW,yX,yY,yZ,xB,xC,xD,xE,xF,xG,xH,xI,xJ,xK,xL,xM,xN,xO,.slice (some ad) n c,.int .i64 (n:Int),fN,fO,fP,fQ,fR,xX,xY,xZ,vB,vC,vD,vE,qJ,qK,qL,qN,qO,qP,qQ,qR,qS,qT,qU,qV,qW,qY,qZ],[]⟩ w') :
  Code.wp prog (Code.loop (aEq f109 1)) Q0 ⟨#[c0,c1,c2,c3,c4,c5,c6,u7,c8,c9,qB,qM,qX,jC,jK,jL,jM,pI,jO,jP,jQ,jR,jS,jT,jU,jV,jW,jX,jY,jZ,zB,zC,zD,zE,zF,zG,zH,zI,zJ,zK,Xr,zM,zN,zO,zP,zQ,zR,zS,zT,zU,zV,zW,zX,zY,zZ,yB,yC,yE,yF,yG,yH,yI,yJ,yK,yL,yM,yN,yO,yP,yQ,yR,yS,yT,yU,yV,yW,yX,yY,yZ,xB,xC,xD,xE,xF,xG,xH,xI,xJ,xK,xL,xM,xN,xO,.slice (some ad) n c,.int .i64 (n:Int),fN,fO,fP,fQ,fR,xX,xY,xZ,vB,vC,vD,vE,qJ,qK,qL,qN,qO,qP,qQ,qR,qS,qT,qU,qV,qW,qY,qZ],[]⟩ wr:=by
 refine wp_loop (ELI w6 n c ad xs ts c0 c1 c2 c3 c4 c5 c6 c8 c9 qB qM qX jC jK jL jM jO jP jQ jR jS jT jU jV jW jX jY jZ zB zC zD zE zF zG zH zI zJ zK Xr zM zN zO zP zQ zR zS zT zU zV zW zX zY zZ yB yC yE yF yG yH yI yJ yK yL yM yN yO yP yQ yR yS yT yU yV yW yX yY yZ xB xC xD xE xF xG xH xI xJ xK xL xM xN xO qJ qK qL qN qO qP qQ qR qS qT qU qV qW qY qZ) (aYl n) (ELI.mk h0) (fun a w'' hI=>?_);unfold ELI at hI;obtain⟨v7,dC,mW,mX,mY,mZ,tB,fT,fU,fV,fW,fX,fY,fZ,hI⟩:=hI;obtain⟨⟨k,bs,hk,e95,hE,hbl⟩,rfl⟩:=hI;subst e95;rcases tN k n with hlt|hge
 · exact aUj w6 w'' n c k ad num ts xs bs _ _ _ _ _ _ _ _ _ _ _ _ _ _ _ _ _ _ _ _ _ _ _ _ _ _ _ _ _ _ _ _ _ _ _ _ _ _ _ _ _ _ _ _ _ _ _ _ _ _ _ _ _ _ _ _ _ _ _ _ _ _ _ _ _ _ _ _ _ _ _ _ _ _ _ _ _ _ _ _ _ _ _ _ _ _ _ _ _ _ _ _ _ _ _ _ _ _ _ _ _ _ _ _ _ _ _ _ _ _ _ _ _ _ _ _ _ _ _ Q0 hT hok hn hE hbl hlt
 · have e:k=n:=tQ hk hge;subst e;exact bDf k c k ad w'' _ _ _ _ _ _ _ _ _ _ _ _ _ _ _ _ _ _ _ _ _ _ _ _ _ _ _ _ _ _ _ _ _ _ _ _ _ _ _ _ _ _ _ _ _ _ _ _ _ _ _ _ _ _ _ _ _ _ _ _ _ _ _ _ _ _ _ _ _ _ _ _ _ _ _ _ _ _ _ _ _ _ _ _ _ _ _ _ _ _ _ _ _ _ _ _ _ _ _ _ _ _ _ _ _ _ _ _ _ _ _ _ _ _ _ _ _ _ _ _ rfl (fun _=>hexit _ _ _ _ _ _ _ _ _ _ _ _ _ _ w'' ⟨bs,hE,hbl⟩)
theorem aPo {a:Nat} (h:a≤32):0≤(a:Int)∧(a:Int)≤1048576:=by omega
theorem bDg {a n:Nat} (h:a=9+2*n+n) (hn:n≤8):a≤40:=by omega
theorem aLp {b8:List Int} {t x:Int} (e:b8=leB 8 (IntKind.u64.wrap t)) (ht:0≤t∧t≤1000):Um ((b8++[x]).take 8)=t:=by
 rw[List.take_append_of_le_length (by rw[e,aAv];exact lR),e,rG (by rw[aAv];exact lR),show IntKind.u64.wrap t=t by rw[IntKind.wrap_u64];omega,bFr ⟨ht.1,by omega⟩]
theorem aYn {a n:Nat} (h:a=9+2*n+n):a=9+3*n:=by omega
theorem bDi {ts:List TxD} {bs:List Int} {n k T:Nat} (h:LkT ts bs n k) (hT:∀t∈ts,t.time≤(T:Int)):Uw bs n≤(T:Int):=by
 obtain⟨x,hx,e⟩:=h.tim;rw[e];exact hT x (tZ hx)
theorem bHz {a:Nat} (h:a≤32):a≤1000000:=by omega
theorem aLe (num ep:Int) (A:Option Addr) (n c:Nat) (ts:List TxD) (T:Nat) (w:World) (h:Ki w A n c ts) (hok:OkB num ts) (hTm:∀t∈ts,t.time≤(T:Int)) (hep:0≤ep∧ep≤4294967295) :
  Calls prog 109 #[.agg #[.int .i64 num,.slice A n c],.int .i64 ep] w fun e w'=>(∃v xs,e=.returned (.tuple #[v,.int .i64 0])∧Ux w' w.heap.size v xs∧xs.length=1+(ts.map (·.n)).sum∧∀x∈xs,aDi T x.bs)∧nD w w':=by
 obtain⟨i0,hi,hz0,hz1,hz2⟩:=info_parts aBq;obtain⟨xi,xz,hxi,hxz,hx5,hx56,hxc⟩:=aFw;have hl:=h.len;have hn8:1≤n∧n≤8:=by rw[←hl];exact hok.len
 obtain⟨w5,hw5⟩:=nC (w.alloc (.cells #[.int .i64 num,.slice A n c] 107));have hB5:Bk w5 w.heap.size 107 [.int .i64 num,.slice A n c]:=by rw[←hw5];exact Bk.new w _ _
 have hb5:nD w w5:=by rw[←hw5];exact nB.alloc lR _
 obtain⟨d0,d1⟩:=hB5.c2;have h5:=h.next hb5;have hck:=aNm num A n c ts w5 h5 hok;have t1:decide (ep<0)=false:=rY (by omega);have t2:decide (4294967295<ep)=false:=rY (by omega);have HX:=nH h5 hok hl;have HB5:=nF hB5 hb5;have HN:=nF hn8 hep;have HTM:=hid hTm;clear h h5 hok hB5 hb5 hl hep hTm;go_enter func109,ntmps109
 go_wp2_with fail
 refine hck.mono ?_;rintro e w6 ⟨rfl,hb6⟩;have hB6:=HB5.o.1.next hb6 HB5.o.1.lt;have HB6:=nH (HB5.o.2.trans (hb6.mono HB5.o.2.size)) hB6 (HX.o.1.next hb6);have KB:=hid (fun (w':World) (hS:nD w6 w')=>nS ((hB6.next hS hB6.lt).cell (i:=0) (by simp)) ((hB6.next hS hB6.lt).cell (i:=1) (by simp)));clear hck hb6 d0 d1;obtain⟨d0,d1⟩:=hB6.c2;clear hB6;obtain⟨x0,hx0⟩:=nC (ts[0]'(by have:=HX.o.2.2;omega));obtain⟨ad0,eA,had0,e0,e1⟩:=Vk aAu HB6.o.2.2.rd (k:=0) (by have:=HX.o.2.2;omega) (u:=.int .i64 x0.time) (v:=.slice x0.A x0.n x0.c) (by rw[hx0];rfl);rw[Nat.zero_mul] at e0 e1;simp only[Addr.add,if_true] at e0 e1;subst eA;have HX0:=hid (show (0≤x0.time∧x0.time≤1000)∧ts[0 - 1]? =some x0 from⟨by have:=HX.o.2.1.tx x0 (by rw[←hx0];exact rC _);exact⟨by have:=this.time;omega,by have:=this.time;omega⟩,by rw[←hx0];exact tX _⟩);clear e1 hx0;have hn1:(0:Int)<(n:Int):=by omega
 have hn2:0<n:=by omega
 go_wp2_with fail
 go_cut [7] from 36 to 44 (fun v wx=>∃bs',Byt wx w6.heap.size v bs'∧bs'.length=9∧Um (bs'.take 8)=x0.time∧nD w6 wx)
 case first =>
  refine wp_region_held_drew (S:=fun w'=>nD w6 w') (by kernel_rfl) (Xu nB) (fun nE=>?_);obtain⟨wd,hwd⟩:=nC (w6.drew);rw[hwd] at nE ⊢;clear hwd;refine wpAnyH_take (i:=0) (v:=?vq1_0) (by simp only[tF,tG,tH];rfl) (by kernel_rfl) (by kernel_rfl) (by kernel_rfl) (by exact fun _ _ _ h=>h) (Or.inl ⟨by rfl,?hq1_0⟩) nE ?_
  case hq1_0=>(intro w' hSw;have k0:=KB.o w' hSw;obtain⟨k0,k1⟩:=k0;go_simp<;>with_reducible rfl)
  try simp only[Act.put,tC,tD,tE]
  refine wpAnyH_take (i:=1) (v:=?vq2_1) (by simp only[tF,tG,tH];rfl) (by kernel_rfl) (by kernel_rfl) (by kernel_rfl) (by exact fun _ _ _ h=>h) (Or.inl ⟨by rfl,?hq2_1⟩) nE ?_
  case hq2_1=>(intro w' hSw;have k0:=KB.o w' hSw;obtain⟨k0,k1⟩:=k0;go_simp<;>with_reducible rfl)
  try simp only[Act.put,tC,tD,tE]
  refine wpAnyH_take (i:=3) (v:=?vq3_3) (by simp only[tF,tG,tH];rfl) (by kernel_rfl) (by kernel_rfl) (by kernel_rfl) (by exact fun _ _ _ h=>h) (Or.inl ⟨by rfl,?hq3_3⟩) nE ?_
  case hq3_3=>(intro w' hSw;have k0:=KB.o w' hSw;obtain⟨k0,k1⟩:=k0;go_simp<;>with_reducible rfl)
  try simp only[Act.put,tC,tD,tE]
  refine wpAnyH_take (i:=4) (v:=?vq4_4) (by simp only[tF,tG,tH];rfl) (by kernel_rfl) (by kernel_rfl) (by kernel_rfl) (by exact fun _ _ _ h=>h) (Or.inl ⟨by rfl,?hq4_4⟩) nE ?_
  case hq4_4=>(intro w' hSw;have k0:=KB.o w' hSw;obtain⟨k0,k1⟩:=k0;go_simp<;>with_reducible rfl)
  try simp only[Act.put,tC,tD,tE]
  refine wpAnyH_take (i:=5) (v:=?vq5_5) (by simp only[tF,tG,tH];rfl) (by kernel_rfl) (by kernel_rfl) (by kernel_rfl) (by exact fun _ _ _ h=>h) (Or.inl ⟨by rfl,?hq5_5⟩) nE ?_
  case hq5_5=>(intro w' hSw;have k0:=KB.o w' hSw;obtain⟨k0,k1⟩:=k0;go_simp<;>with_reducible rfl)
  try simp only[Act.put,tC,tD,tE]
  refine wpAnyH_take (i:=6) (v:=?vq6_6) (by simp only[tF,tG,tH];rfl) (by kernel_rfl) (by kernel_rfl) (by kernel_rfl) (by exact fun _ _ _ h=>h) (Or.inl ⟨by rfl,?hq6_6⟩) nE ?_
  case hq6_6=>(intro w' hSw;have k0:=KB.o w' hSw;obtain⟨k0,k1⟩:=k0;go_simp<;>with_reducible rfl)
  try simp only[Act.put,tC,tD,tE]
  refine wpAnyH_ready (rs:=[2,7]) (by kernel_rfl) (by simp) ?_;refine AllReadyH.cons (by simp only[tF,tG,tH];rfl) (fun K hK=>?_) (AllReadyH.cons (by simp only[tF,tG,tH];rfl) (fun K hK=>?_) AllReadyH.nil)
  · skip;have hHeld0:=hid nE.size;go_simp;refine(aEc _ _).mono ?_;rintro e w8 ⟨⟨u8,b8,rfl,hY8,l8,l9⟩,hb'⟩;obtain⟨A8,c8,rfl⟩:=Xs hY8.1;have L8:=hid l8;have L9:=hid l9;clear l8 l9;have hS':=nE.trans (hb'.mono nE.size);go_simp;clear hb';clear nE;refine hK.out _ _ hS' (fun nE=>?_);clear hK K;try simp only[Act.put,tC,tD,tE]
    clear hS';refine rF 7 (fun K hK=>?_);go_simp;obtain⟨g7,wA,hg7,hwA,hB7,hb'⟩:=aAi nE 5 [.int .u8 (IntKind.u8.wrap (n:Int))];rw[hwA];clear hwA;try simp only[World.size_drew] at hg7
    have hS':=nE.trans (hb'.mono nE.size);try rw[hg7]
    clear hg7;replace hY8:=hY8.next hb'
    clear hb';clear nE;refine hK.out _ _ hS' (fun nE=>?_);clear hK K;try simp only[Act.put,tC,tD,tE]
    clear hS';refine rF 8 (fun K hK=>?_);refine aAf rfl (aAw _ _ _ 41 rfl w6.heap.size 5 i0 (.int .u8 0) 1 1 underlying41 hi hz0 hz1 hz2 rfl (by decide) (.slice A8 b8.length c8) b8.length (b8.map (Value.int .u8)) (by rfl) (ownsRow_base_a hY8.1 (by first|exact hHeld0.out|exact lR)) _ (some ⟨g7,0,none⟩) 1 1 [.int .u8 (IntKind.u8.wrap (n:Int))] (by rfl) rfl hB7.rd (by intro u hu;simp at hu;rcases hu with rfl<;>rfl) (by rw[L8.o];decide) (by rw[L8.o];decide) nE.size ?_);intro fS w10 hO10 hG10 hv10;have hS':=nE.grown hG10 nE.size (fun g e=>tK hHeld0.out (Xv hY8.1 e));have hby:=aLi hY8 lR hO10;clear nE;refine hK.out _ _ hS' (fun nE=>?_);clear hK K;try simp only[Act.put,tC,tD,tE]
    refine wpAnyH_take (i:=9) (v:=?vq7_9) (by simp only[tF,tG,tH];rfl) (by kernel_rfl) (by kernel_rfl) (by kernel_rfl) (by exact fun _ _ _ h=>h) (Or.inl ⟨by rfl,?hq7_9⟩) nE ?_
    case hq7_9=>(intro w' hSw;have k0:=KB.o w' hSw;obtain⟨k0,k1⟩:=k0;go_simp<;>with_reducible rfl)
    try simp only[Act.put,tC,tD,tE]
    refine wpAnyH_done (by kernel_rfl) ?_ _;go_wp2_with fail
    go_meet
    exact⟨_,hby.1,by rw[hby.2,L8.o],aLp L9.o HX0.o.1,nE⟩
  · skip;go_simp;obtain⟨g7,wA,hg7,hwA,hB7,hb'⟩:=aAi nE 5 [.int .u8 (IntKind.u8.wrap (n:Int))];rw[hwA];clear hwA;try simp only[World.size_drew] at hg7
    have hS':=nE.trans (hb'.mono nE.size);try rw[hg7]
    clear hg7;clear hb';clear nE;refine hK.out _ _ hS' (fun nE=>?_);clear hK K;try simp only[Act.put,tC,tD,tE]
    clear hS';refine rF 2 (fun K hK=>?_);have hHeld0:=hid nE.size;go_simp;refine(aEc _ _).mono ?_;rintro e w8 ⟨⟨u8,b8,rfl,hY8,l8,l9⟩,hb'⟩;obtain⟨A8,c8,rfl⟩:=Xs hY8.1;have L8:=hid l8;have L9:=hid l9;clear l8 l9;have hS':=nE.trans (hb'.mono nE.size);go_simp;replace hB7:=hB7.next hb' hB7.lt
    clear hb';clear nE;refine hK.out _ _ hS' (fun nE=>?_);clear hK K;try simp only[Act.put,tC,tD,tE]
    clear hS';refine rF 8 (fun K hK=>?_);refine aAf rfl (aAw _ _ _ 41 rfl w6.heap.size 5 i0 (.int .u8 0) 1 1 underlying41 hi hz0 hz1 hz2 rfl (by decide) (.slice A8 b8.length c8) b8.length (b8.map (Value.int .u8)) (by rfl) (ownsRow_base_a hY8.1 (by first|exact hHeld0.out|exact lR)) _ (some ⟨g7,0,none⟩) 1 1 [.int .u8 (IntKind.u8.wrap (n:Int))] (by rfl) rfl hB7.rd (by intro u hu;simp at hu;rcases hu with rfl<;>rfl) (by rw[L8.o];decide) (by rw[L8.o];decide) nE.size ?_);intro fS w10 hO10 hG10 hv10;have hS':=nE.grown hG10 nE.size (fun g e=>tK hHeld0.out (Xv hY8.1 e));have hby:=aLi hY8 lR hO10;clear nE;refine hK.out _ _ hS' (fun nE=>?_);clear hK K;try simp only[Act.put,tC,tD,tE]
    refine wpAnyH_take (i:=9) (v:=?vq8_9) (by simp only[tF,tG,tH];rfl) (by kernel_rfl) (by kernel_rfl) (by kernel_rfl) (by exact fun _ _ _ h=>h) (Or.inl ⟨by rfl,?hq8_9⟩) nE ?_
    case hq8_9=>(intro w' hSw;have k0:=KB.o w' hSw;obtain⟨k0,k1⟩:=k0;go_simp<;>with_reducible rfl)
    try simp only[Act.put,tC,tD,tE]
    refine wpAnyH_done (by kernel_rfl) ?_ _;go_wp2_with fail
    go_meet
    exact⟨_,hby.1,by rw[hby.2,L8.o],aLp L9.o HX0.o.1,nE⟩
 case rest =>
  obtain⟨b0,hby,hbl,hv8,hbx⟩:=hcut;obtain⟨c7A,c7c,rfl⟩:=Xs hby.1;have HY0:=nF (show EnX w6 wc (.slice none 0 0) (.slice c7A b0.length c7c) [] b0 from⟨hbx,⟨⟨rfl,.inl ⟨rfl,rfl⟩⟩,by simp⟩,hby,by simp,by simp⟩) (show LtT ts b0 0 x0.time from⟨hbl,hv8,x0,HX0.o.2,rfl⟩);clear d0 d1;obtain⟨d0,d1⟩:=KB.o wc hbx;simp only[tI,tJ] at d0 d1;clear e0 had0 hby hbl hv8 hbx hn1 hn2 t1 t2;go_wp2_with fail
  refine aYo w6 wc w.heap.size n c ad0 ep num ts _ _ _ _ _ _ _ _ _ _ _ _ _ _ _ _ _ _ _ _ _ _ _ _ _ _ _ _ _ _ _ _ _ _ _ _ _ _ _ _ _ _ _ _ _ _ _ _ _ _ _ _ _ _ _ _ _ _ _ _ _ _ _ _ _ _ _ _ _ _ _ _ _ _ _ _ _ _ _ _ _ _ _ _ _ _ _ _ _ _ _ _ _ _ _ _ _ _ _ _ _ _ _ _ _ _ _ _ _ _ _ _ _ _ _ _ _ _ _ HB6.o.2.1 HB6.o.2.2 HX.o.2.1 HN.o.2 HN.o.1.2 ⟨0,x0.time,[],b0,zL,rfl,rfl,HY0.o.1,by simp,HY0.o.2⟩ ?_;intro u4 u7 u8 xW vU pE pF pG kT kU kV kW kX kZ hC hJ hU gA gB gC gD gE gF gG gH gI gJ gK gL gM gN gO gP gQ gR gT gU gV gW gX gY gZ fA fC fD fE fF fG fH fI fJ wr hX;obtain⟨xs,bs,hE,hl,hb⟩:=hX;clear d0 d1;obtain⟨d0,d1⟩:=KB.o wr hE.bel;simp only[tI,tJ] at d0 d1;obtain⟨oA,oc,rfl⟩:=Xs hE.row.own;have hx32:xs.length≤32:=by rw[hl];exact tK (aPw ts n) HX.o.2.1.sum
  have HE:=nI hE hl hb hx32;clear hE hl hb hx32;go_wp2_with fail
  refine aYk w6 wr n c ad0 num ts xs _ _ _ _ _ _ _ _ _ _ _ _ _ _ _ _ _ _ _ _ _ _ _ _ _ _ _ _ _ _ _ _ _ _ _ _ _ _ _ _ _ _ _ _ _ _ _ _ _ _ _ _ _ _ _ _ _ _ _ _ _ _ _ _ _ _ _ _ _ _ _ _ _ _ _ _ _ _ _ _ _ _ _ _ _ _ _ _ _ _ _ _ _ _ _ _ _ _ _ _ _ _ _ _ _ _ _ _ _ _ _ _ _ _ _ _ _ _ _ _ _ HB6.o.2.2 HX.o.2.1 HN.o.1.2 ⟨0,bs,zL,rfl,HE.o.1,HE.o.2.2.1⟩ ?_;intro v7 dC mW mX mY mZ tB fT fU fV fW fX fY fZ w3 hX3;obtain⟨bs3,hE3,hb3⟩:=hX3;clear d0 d1;obtain⟨d0,d1⟩:=KB.o w3 hE3.bel;simp only[tI,tJ] at d0 d1;obtain⟨bA,bc,e7,hib⟩:=hE3.body.isB;subst e7;have hen:=aDx 2 ep num (xs.length:Int) bA bs3.length bc bs3 w3 (by decide) HN.o.2 (aKb HX.o.2.1.num) (aPo HE.o.2.2.2) hib (bDg hb3.len HN.o.1.2);have H3:=nF hE3 hb3;clear hE3 hb3 hib;go_wp2_with fail
  refine hen.mono ?_;rintro e wC ⟨⟨v,b2,rfl,hby,hl64,e60⟩,hbC⟩;have HLG:=nF HE.o.1.log (aMb (T:=T) e60 rfl HN.o.2 (aKb HX.o.2.1.num) (aPo HE.o.2.2.2) (aYn H3.o.2.len) (bDi H3.o.2 HTM.o));clear e60;obtain⟨zA,zc,rfl⟩:=Xs (aBs hl64 hby.1);obtain⟨wD,hwD⟩:=nC (wC.alloc (.cells #[.slice zA 64 zc] 41));have hBD:Bk wD wC.heap.size 41 [.slice zA 64 zc]:=by rw[←hwD];exact Bk.new wC _ _
  have hbD:nD wC wD:=by rw[←hwD];exact nB.alloc lR _
  have hrD:nD w3 wD:=hbC.trans (hbD.mono hbC.size);have HD:=nJ hBD hrD (hby.next hbD) hl64 (H3.o.1.next hrD);have hy5:=bHz HE.o.2.2.2;clear hen hby hl64 hbC hBD hbD hrD d0 d1;go_wp2_with (at_builtin;go_must (refine aAc _ rfl _ _ 133 rfl w6.heap.size 41 xi xz 1 24 underlying133 hxi hxz hx5 hx56 hxc (by decide) _ _ _ (by rfl) (by exact HD.o.2.2.2.2.row.own) _ [.slice zA 64 zc] (by rfl) (by exact HD.o.1) rfl (by intro u hu;simp at hu;rcases hu with rfl<;>rfl) (by exact hy5) (by decide) (by exact HD.o.2.2.2.2.bel.size) ?_);intro v9 w9 hO9 hG9 hv9;obtain⟨sA,sc,rfl⟩:=Xs hO9)
  have HZ:=hid (EnX.outR H3.o.1 HD.o.2.1 HD.o.2.2.1 HD.o.2.2.2.1 rfl hO9 hG9);clear hO9 hG9 hv9;go_wp2_with fail
  go_ret2
  refine⟨⟨_,_,rfl,HZ.o.2.1.base HB6.o.1.size,?_,fun x hx=>(rE.1 hx).elim (fun q=>.inl (HLG.o.1 x q)) (fun q=>(List.mem_singleton.1 q)▸HLG.o.2)⟩,HB6.o.1.trans (HZ.o.1.mono HB6.o.1.size)⟩;rw[rH,HE.o.2.1,rG (by rw[HX.o.2.2];exact lR)];exact Nat.add_comm _ _
theorem bFy {w w':World} {o:Option Nat} {A:Option Addr} {n c:Nat} {bs:List Int} (h:IsY w A n c bs) (hG:w.grownBy w' o) (ha:∀ad,A=some ad→o≠some ad.block):IsY w' A n c bs:=by
 cases o with
 | none=>exact h.ag (F:=fun _=>True) ⟨hG.size,fun b ob hb _=>(hG.block b (Vz hb) (fun q=>by cases q)).trans hb⟩
 | some g=>exact h.but hG (fun ad q e=>ha ad q (by rw[e]))
theorem bAh {w w':World} {o:Option Nat} {B e s n:Nat} {v:Value} {xs:List Value} (h:w.ownsRow B e s v n xs) (hG:w.grownBy w' o) (ha:∀g,o=some g→v.ownBlock≠some g):w'.ownsRow B e s v n xs:=by
 cases o with
 | none=>exact Vj (F:=fun _=>True) h ⟨hG.size,fun b ob hb _=>(hG.block b (Vz hb) (fun q=>by cases q)).trans hb⟩ (fun _ _=>trivial)
 | some g=>exact aGv h hG (fun g' e q=>ha g rfl (q▸e))
structure aKz (w wr:World) (bv:Value) (bs:List Int) (B:Nat) (v:Value) (ks:List Int) (ps:List Vd):Prop where
 bel:nD w wr
 body:Byt wr w.heap.size bv bs
 puts:Ud wr B v ks ps
 away:∀p∈ps,∀ad,p.A=some ad→bv.ownBlock≠some ad.block
section
variable {w wr w9 w':World} {bv v':Value} {bs:List Int} {B:Nat} {v:Value} {ks:List Int} {ps:List Vd}
theorem aKz.next (h:aKz w wr bv bs B v ks ps) (hb:nD wr w'):aKz w w' bv bs B v ks ps :=
 ⟨h.bel.trans (hb.mono h.bel.size),h.body.next hb,h.puts.next hb,h.away⟩
theorem aKz.more (h9:aKz w w9 bv bs B v ks ps) {ys:List Int} (hO:w'.ownsRow w.heap.size 5 1 v' (bs.length+ys.length) (bs.map (Value.int .u8)++ys.map (Value.int .u8))) (hw:∀x∈ys,0≤x∧x<256) (hG:w9.grownBy w' bv.ownBlock) (hv:v'.ownBlock=bv.ownBlock∨v'.ownBlock=some w9.heap.size) :
  aKz w w' v' (bs++ys) B v ks ps:=by
 refine⟨h9.bel.grown hG h9.bel.size (fun g e=>Xv h9.body.1 e),⟨?_,fun x hx=>?_⟩,⟨bAh h9.puts.own hG (fun g e=>aBl h9.body.1 h9.puts.own (by decide) e),h9.puts.lba,h9.puts.n40,fun p hp=>bFy (h9.puts.y p hp) hG (h9.away p hp),h9.puts.new⟩,fun p hp ad q e=>?_⟩
 · rw[rH,rI];exact hO
 · rcases rE.1 hx with s|s
   · exact h9.body.2 x s
   · exact hw x s
 · rcases hv with s|s
   · exact h9.away p hp ad q (s.symm.trans e)
   · rw[s] at e;injection e with e;obtain⟨ob,ho,_⟩:=(h9.puts.y p hp).y ad q (by rw[h9.puts.n40 p hp];decide);have:=Vz ho;omega
end
structure aEs (bs:List Int) (k:Nat) (last:Int):Prop where
 len:bs.length=8+44*k
 last:Um (bs.take 8)=last
 lba:∀j,j<k→Um ((bs.drop (8+44*j)).take 4)<258
theorem aEs.zero {b:List Int} {t:Int} (e:b=leB 8 (IntKind.u64.wrap t)) (h:0≤t∧t≤1000):aEs b 0 t :=
 ⟨by rw[e,aAv],by rw[e,rG (by rw[aAv];exact lR),show IntKind.u64.wrap t=t by rw[IntKind.wrap_u64];omega,bFr ⟨h.1,by omega⟩],fun j hj=>absurd hj (by omega)⟩
theorem aEs.more {bs b4 ys:List Int} {k:Nat} {last lba:Int} (h:aEs bs k last) (e:b4=leB 4 (IntKind.u64.wrap (IntKind.u32.wrap lba))) (hl:0≤lba∧lba<258) (hy:ys.length=40):aEs ((bs++b4)++ys) (k+1) last:=by
 have l4:b4.length=4:=by rw[e,aAv]
 have hn:=h.len;refine⟨by rw[rH,rH,h.len,l4,hy];omega,by rw[List.append_assoc,List.take_append_of_le_length (by omega)];exact h.last,fun j hj=>?_⟩;rcases tN j k with q|q
 · rw[List.append_assoc,List.drop_append_of_le_length (by omega),List.take_append_of_le_length (by rw[rN];omega)];exact h.lba j q
 · obtain rfl:j=k:=by omega
   rw[←hn,List.append_assoc,List.drop_left,List.take_append_of_le_length (by omega),rG (by omega),e,show IntKind.u32.wrap lba=lba by rw[IntKind.wrap_u32];omega,show IntKind.u64.wrap lba=lba by rw[IntKind.wrap_u64];omega,bFq ⟨hl.1,by omega⟩];exact hl.2
theorem aEs.ok {bs:List Int} {n g:Nat} {last:Nat} (h:aEs bs n (last:Int)) (hg:last≤g) (h0:0<n→last≠0):aBh g bs :=
 .inr ⟨n,h.len,by rw[h.last];exact Int.ofNat_le.2 hg,fun q=>by rw[h.last];have:=h0 q;omega,h.lba⟩
theorem aKu {w:World} {B:Nat} {v:Value} {ks:List Int} {ps:List Vd} (h:Ud w B v ks ps) {x:Vd} (hx:x∈ps) (h40:x.n=40):x.bs.length=40:=by
 have:=(h.y x hx).b.len;omega
theorem bFo {w:World} {B:Nat} {v:Value} {ks:List Int} {ps:List Vd} (h:Ud w B v ks ps) {x:Vd} (hx:x∈ps):Rd w w.heap.size x.A (x.bs.map (Value.int .u8)):=(h.y x hx).b.rd
theorem bHg {a b:Nat} (h:a≤11360) (e:b=4):a+b≤1000000000:=by omega
theorem bHh {a b:Nat} (h:a≤11360) (e:b=4):(a+b)*1≤1000000000000:=by omega
theorem bHi {a b:Nat} (h:a≤11360) (e:b=4):a+b+40≤1000000000:=by omega
theorem bHj {a b:Nat} (h:a≤11360) (e:b=4):(a+b+40)*1≤1000000000000:=by omega
theorem aSw {n k:Nat} (h:k<n) (hn:n≤258) {L:Nat} (hL:L=8+44*k):L+4+40=8+44*(k+1)∧L≤11360:=by omega
theorem aWv (F:Xt) (Ft:Nat→Xt) (sb gd mb gs lz pos num count g:Nat) (ns:List Nat) (m:MS) (w:World) (h:Kd w F Ft sb gd mb gs lz pos num count ns m g) :
  Calls prog 47 #[.pointer (some ⟨sb,0,none⟩)] w fun e w'=>(∃v bs,e=.returned v∧Byt w' w.heap.size v bs∧bs.length≤11360∧aBh g bs)∧nD w w':=by
 obtain⟨i0,hi,hz0,hz1,hz2⟩:=info_parts aBq;obtain⟨_,_,_,c5,_⟩:=Xx h.bx;have hl:=bBt h.man;have HX:=hid h;have HLT:=hid (show m.last≤g∧m.last≤1000 from⟨tK h.man.good.lg h.man.giv,tK h.man.good.lg h.man.good.cap.1⟩);clear h;go_enter func47,ntmps47
 go_wp2_with fail
 refine hl.mono ?_;rintro e w' ⟨rfl,rfl⟩;clear hl;go_wp2_with fail
 refine(aEc _ _).mono ?_;rintro e w1 ⟨⟨u1,b1,rfl,hY1,l1,l1b⟩,hb1⟩;have HT0:=hid (aEs.zero l1b ⟨by omega,by have:=HLT.o.2;omega⟩);clear l1b;clear c5;have hX1:=HX.o.next hb1;obtain⟨_,_,_,c5,_⟩:=Xx hX1.bx;have hd:=aRw _ mb g w1.heap.size m w1 hX1.man lR;have HY1:=nH hY1 l1 hb1;obtain⟨u1A,u1c,rfl⟩:=Xs hY1.1;clear hX1 hY1 l1 hb1;go_wp2_with fail
 refine hd.mono ?_;rintro e w2 ⟨⟨v2,rfl,ks,⟨ps,hps⟩,hk1,hk2,hk3⟩,hb2⟩;obtain⟨kA,kc,rfl⟩:=Xs hps.own
 have HT:=hid (show aKz w w2 (.slice u1A b1.length u1c) b1 w1.heap.size (.slice kA ks.length kc) ks ps from⟨HY1.o.2.2.trans (hb2.mono HY1.o.2.2.size),HY1.o.1.next hb2,hps,fun p hp ad q e=>by
  have h1:=hps.new p hp ad q;obtain⟨_,_,hh⟩:=Vx HY1.o.1.1 e;have:=Vz hh;omega⟩)
 obtain⟨n,hn⟩:=nC (ks.length);have HK:=nF hk1 hn;have HKL:=hid (show (∀x∈ps,0≤x.lba∧x.lba<258)∧(0<n→m.last≠0) from⟨fun x hx=>hk2 _ (by rw[←hps.lba];exact List.mem_map_of_mem hx),fun q e=>by have:=hk3 e;rw[this] at hn;simp at hn;omega⟩);have hpl:=hps.len;rw[hn] at HT hpl ⊢;clear hd hps hk1 hk2 hk3 c5 hb2 hn;go_wp2_with fail
 go_loopw [3,19] (fun bv iv wr=>∃(k:Nat) (bs:List Int),k≤n∧iv=.int .i64 (k:Int)∧Hid (aKz w wr bv bs w1.heap.size (.slice kA n kc) ks ps∧aEs bs k (m.last:Int))) (fun _ iv _=>n - (intOf iv).toNat)
 case atStart=>exact⟨0,b1,zL,rfl,HT.o,HT0.o⟩
 case round =>
  obtain⟨k,bs,hk,rfl,HE⟩:=hrel;by_cases hlt:k<n
  · obtain⟨x,hx⟩:∃x,ps[k]'(by omega)=x:=⟨_,rfl⟩
    have hmx:x∈ps:=by rw[←hx];exact rC _
    have hx40:=HE.o.1.puts.n40 x hmx;obtain⟨adk,eAk,hadk,e0,e1⟩:=Vk (l:=ps) Vy (Ve (aBs HK.o.2 HE.o.1.puts.own)) (k:=k) (by omega) (u:=.int .i64 x.lba) (v:=.slice x.A x.n x.c) (by rw[hx];rfl);subst eAk;rw[hx40] at e1;have n1:(k:Int)<(n:Int):=by omega
    have n2:(0:Int)≤(k:Int):=by omega
    have m2:wrap64 ((k:Int)+1)=(k:Int)+1:=by have:=HK.o.1;have:=HK.o.2;unfold wrap64;omega
    obtain⟨wA,hwA⟩:=nC (wr.alloc (.cells #[.int .i64 x.lba,.slice x.A 40 x.c] 50));have hBA:Bk wA wr.heap.size 50 [.int .i64 x.lba,.slice x.A 40 x.c]:=by rw[←hwA];exact Bk.new wr _ _
    have hbA:nD wr wA:=by rw[←hwA];exact nB.alloc lR _
    obtain⟨d0,d1⟩:=hBA.c2;have HM:=nI hmx hx40 hlt (aSw hlt (by have:=HK.o.1;have:=HK.o.2;omega) HE.o.2.len);have HA:=nF hBA hbA;have KK:=hid (fun (w':World) (hS:Bk w' wr.heap.size 50 [.int .i64 x.lba,.slice x.A 40 x.c])=>nS (hS.cell (i:=0) (by simp)) (hS.cell (i:=1) (by simp)));simp only[tI,tJ] at KK;obtain⟨bA,bc,rfl⟩:=Xs HE.o.1.body.1;clear hx hmx hx40 hBA hbA d0 d1;go_wp2_with fail
    have Kq:=KK;refine wp_region_held_drew (S:=fun w'=>Bk w' wr.heap.size 50 [.int .i64 x.lba,.slice x.A 40 x.c]) (by kernel_rfl) (HA.o.1.drew) (fun nE=>?_);refine kF 0 ?_;refine kF 1 ?_;refine kF 2 ?_;refine kF 3 ?_;refine kF 6 ?_;refine kF 7 ?_;refine rF 4 (fun K hK=>?_);go_simp;refine(aCy _ _).mono ?_;rintro e w4 ⟨⟨u4,b4,rfl,hY4,l4,l4b⟩,hb4⟩;obtain⟨A4,c4,rfl⟩:=Xs hY4.1;have hbd:nD wr w4:=(HA.o.2.trans ((Xu nB).mono HA.o.2.size)).trans (hb4.mono HA.o.2.size);have hS4:Bk w4 wr.heap.size 50 [.int .i64 x.lba,.slice x.A 40 x.c]:=nE.next hb4 nE.lt;have H4:=nH (HE.o.1.next hbd) hY4 l4;have HB4:=hid l4b;clear hbd hY4 l4 l4b hb4;go_simp;clear nE;refine hK.out _ _ hS4 (fun nE=>?_);clear hK K;try simp only[Act.put,tC,tD,tE]
    refine rF 5 (fun K hK=>?_);refine aAf rfl (aAw w4 _ _ 41 rfl w.heap.size 5 i0 (.int .u8 0) 1 1 underlying41 hi hz0 hz1 hz2 rfl (by decide) (.slice bA bs.length bc) bs.length (bs.map (Value.int .u8)) (by rfl) H4.o.1.body.1 _ A4 b4.length c4 (b4.map (Value.int .u8)) (by rfl) (by rw[rU,Nat.mul_one]) (Ve H4.o.2.1.1) Ui (bHg HM.o.2.2.2.2 H4.o.2.2) (bHh HM.o.2.2.2.2 H4.o.2.2) H4.o.1.bel.size ?_);intro v5 w5 hO5 hG5 hv5;have H5:=hid (H4.o.1.more hO5 H4.o.2.1.2 hG5 hv5);have hS5:Bk w5 wr.heap.size 50 [.int .i64 x.lba,.slice x.A 40 x.c]:=aCt hS4 hG5 (Vc H4.o.1.body.1 hS4 (by decide));obtain⟨A5,c5,rfl⟩:=Xs hO5;have HO5:=hid hO5;clear hO5 hG5 hv5;clear nE;refine hK.out _ _ hS5 (fun nE=>?_);clear hK K;try simp only[Act.put,tC,tD,tE]
    refine rF 8 (fun K hK=>?_);refine aAf rfl (aAw w5 _ _ 41 rfl w.heap.size 5 i0 (.int .u8 0) 1 1 underlying41 hi hz0 hz1 hz2 rfl (by decide) (.slice A5 (bs.length+b4.length) c5) (bs.length+b4.length) (bs.map (Value.int .u8)++b4.map (Value.int .u8)) (by rfl) HO5.o _ x.A 40 x.c (x.bs.map (Value.int .u8)) (by rfl) (by rw[rU,Nat.mul_one,aKu H5.o.puts HM.o.1 HM.o.2.1]) (bFo H5.o.puts HM.o.1) Ui (bHi HM.o.2.2.2.2 H4.o.2.2) (bHj HM.o.2.2.2.2 H4.o.2.2) H5.o.bel.size ?_);intro v8 w8 hO8 hG8 hv8;have HZ:=nF (H5.o.more (by rw[rH,rI,aKu H5.o.puts HM.o.1 HM.o.2.1];exact hO8) (H5.o.puts.y x HM.o.1).b.wf hG8 hv8) (HE.o.2.more HB4.o (HKL.o.1 x HM.o.1) (aKu H5.o.puts HM.o.1 HM.o.2.1));have hS8:Bk w8 wr.heap.size 50 [.int .i64 x.lba,.slice x.A 40 x.c]:=aCt hS5 hG8 (Vc HO5.o hS5 (by decide));obtain⟨A8,c8,rfl⟩:=Xs hO8;clear hO8 hG8 hv8;clear nE;refine hK.out _ _ hS8 (fun nE=>?_);clear hK K;try simp only[Act.put,tC,tD,tE]
    refine kF 9 ?_;refine wpAnyH_done (by kernel_rfl) ?_ _;clear Kq;clear e0 e1;go_wp2_with fail
    go_roundw
    case rel=>exact⟨k+1,_,HM.o.2.2.1,Va (by first|rfl|exact m2),HZ.o⟩
    case measure=>(rw[m2];exact Xw (x:=(k:Int)+1) HM.o.2.2.1 rfl)
  · obtain rfl:k=n:=by omega
    have n1:¬(k:Int)<(k:Int):=by omega
    obtain⟨oA,oc,rfl⟩:=Xs HE.o.1.body.1;go_wp2_with fail
    go_ret;exact⟨⟨_,rfl,bs,HE.o.1.body,by have:=HE.o.2.len;have:=HK.o.1;have:=HK.o.2;omega,HE.o.2.ok HLT.o.1 HKL.o.2⟩,HE.o.1.bel⟩
theorem aZh {ns:List Nat} {p:Nat} (h6:ns[6]? =some (zc p 0)) (h7:ns[7]? =some (zc p 1)) (hp:p<192):ns[6+p / 96]? =some (zc p (p / 96))∧zc p (p / 96)<96∧(ns.set (6+p / 96) (zc p (p / 96)+1))[6]? =some (zc (p+1) 0)∧(ns.set (6+p / 96) (zc p (p / 96)+1))[7]? =some (zc (p+1) 1):=by
 have l6:=Vi h6;have l7:=Vi h7;have hq:p / 96=0∨p / 96=1:=by omega
 refine⟨?_,bHn p,?_,?_⟩
 · rcases hq with e|e<;>rw[e]<;>assumption
 · rw[rD];rcases hq with e|e
   · have hs:=aQp p;rw[e] at hs ⊢;rw[if_pos rfl,if_pos l6,hs]
   · rw[e,if_neg (by decide),h6,aNf (by omega)]
 · rw[rD];rcases hq with e|e
   · rw[e,if_neg (by decide),h7,aNf (by omega)]
   · have hs:=aQp p;rw[e] at hs ⊢;rw[if_pos rfl,if_pos l7,hs]
theorem bDv {pos i q:Nat} (h:pos+i<192) (hq:q=(pos+i) / 96):wrap64 ((pos:Int)+(i:Int))=(pos:Int)+(i:Int)∧((pos:Int)+(i:Int)).tdiv 96=(q:Int)∧wrap64 (q:Int)=(q:Int)∧wrap64 (6+(q:Int))=6+(q:Int)∧IntKind.i64.wrap ((pos:Int)+(i:Int))=(pos:Int)+(i:Int)∧IntKind.i64.wrap (q:Int)=(q:Int)∧IntKind.i64.wrap (6+(q:Int))=6+(q:Int):=by
 have h2:((pos:Int)+(i:Int)).tdiv 96=(q:Int):=by rw[hq,←bBz];rfl
 exact⟨by unfold wrap64;omega,h2,by unfold wrap64;omega,by unfold wrap64;omega,IntWalk.i64_in _ (by omega),IntWalk.i64_in _ (by omega),IntWalk.i64_in _ (by omega)⟩
structure aNg (T:Nat) (w5 wr:World) (F2:Xt) (sb gd mb gs pos num i:Nat):Prop where
 dev:∃Fi nsi,aJs T wr Fi gd nsi∧nsi[6]? =some (zc (pos+i) 0)∧nsi[7]? =some (zc (pos+i) 1)∧Sb w5 F2 Fi∧In wr Fi
 kf:Kf F2 w5 wr
def WLI (T:Nat) (w5:World) (F2:Xt) (sb gd mb gs pos num L lc:Nat) (lA:Option Addr) (c1 c2 c3 c4 c5 c6 c7 c8 jK jL jM jN jO jP jQ jR jS jT jU jV jW jX jY jZ zB zC zD zE zF zG zH zI zJ zK Xr zM zN zO zP zQ zR zS zT zU zV zW zX zY zZ yB yC yE yF yG yH yI yJ yK yL yM xV qC qD qE qF qG qH qI qJ qK qL qN qO qP qQ qR qS qT qU qV qW qY:Value) (a:Act) (wr:World):Prop :=
 ∃xW vI vU pE gK gL gM gN gO gP gQ gR gT gU gV gW gX gY gZ fA fC fD fE fF fG fH fI fJ fK fL fM fN fO fP fQ:Value,(∃i:Nat,i≤L∧gK=.int .i64 (i:Int)∧aNg T w5 wr F2 sb gd mb gs pos num i)∧a=⟨#[.pointer (some ⟨sb,0,none⟩),c1,c2,c3,c4,c5,c6,c7,c8,.int .i64 96,xW,vI,vU,pE,jK,jL,jM,jN,jO,jP,jQ,jR,jS,jT,jU,jV,jW,jX,jY,jZ,zB,zC,zD,zE,zF,zG,zH,zI,zJ,zK,Xr,zM,zN,zO,zP,zQ,zR,zS,zT,zU,zV,zW,zX,zY,zZ,yB,yC,yE,yF,yG,yH,yI,yJ,yK,yL,yM,.slice lA L lc,.int .i64 (L:Int),gK,gL,gM,gN,gO,gP,gQ,gR,gT,gU,gV,gW,gX,gY,gZ,fA,fC,fD,fE,fF,fG,fH,fI,fJ,fK,fL,fM,fN,fO,fP,fQ,xV,qC,qD,qE,qF,qG,qH,qI,qJ,qK,qL,qN,qO,qP,qQ,qR,qS,qT,qU,qV,qW,qY],[]⟩
theorem WLI.mk {T:Nat} {w5 wr:World} {F2:Xt} {sb gd mb gs pos num L lc:Nat} {lA:Option Addr} {c1 c2 c3 c4 c5 c6 c7 c8 jK jL jM jN jO jP jQ jR jS jT jU jV jW jX jY jZ zB zC zD zE zF zG zH zI zJ zK Xr zM zN zO zP zQ zR zS zT zU zV zW zX zY zZ yB yC yE yF yG yH yI yJ yK yL yM xV qC qD qE qF qG qH qI qJ qK qL qN qO qP qQ qR qS qT qU qV qW qY:Value} {xW vI vU pE gK gL gM gN gO gP gQ gR gT gU gV gW gX gY gZ fA fC fD fE fF fG fH fI fJ fK fL fM fN fO fP fQ:Value} (h:∃i:Nat,i≤L∧gK=.int .i64 (i:Int)∧aNg T w5 wr F2 sb gd mb gs pos num i):WLI T w5 F2 sb gd mb gs pos num L lc lA c1 c2 c3 c4 c5 c6 c7 c8 jK jL jM jN jO jP jQ jR jS jT jU jV jW jX jY jZ zB zC zD zE zF zG zH zI zJ zK Xr zM zN zO zP zQ zR zS zT zU zV zW zX zY zZ yB yC yE yF yG yH yI yJ yK yL yM xV qC qD qE qF qG qH qI qJ qK qL qN qO qP qQ qR qS qT qU qV qW qY ⟨#[.pointer (some ⟨sb,0,none⟩),c1,c2,c3,c4,c5,c6,c7,c8,.int .i64 96,xW,vI,vU,pE,jK,jL,jM,jN,jO,jP,jQ,jR,jS,jT,jU,jV,jW,jX,jY,jZ,zB,zC,zD,zE,zF,zG,zH,zI,zJ,zK,Xr,zM,zN,zO,zP,zQ,zR,zS,zT,zU,zV,zW,zX,zY,zZ,yB,yC,yE,yF,yG,yH,yI,yJ,yK,yL,yM,.slice lA L lc,.int .i64 (L:Int),gK,gL,gM,gN,gO,gP,gQ,gR,gT,gU,gV,gW,gX,gY,gZ,fA,fC,fD,fE,fF,fG,fH,fI,fJ,fK,fL,fM,fN,fO,fP,fQ,xV,qC,qD,qE,qF,qG,qH,qI,qJ,qK,qL,qN,qO,qP,qQ,qR,qS,qT,qU,qV,qW,qY],[]⟩ wr:=⟨xW,vI,vU,pE,gK,gL,gM,gN,gO,gP,gQ,gR,gT,gU,gV,gW,gX,gY,gZ,fA,fC,fD,fE,fF,fG,fH,fI,fJ,fK,fL,fM,fN,fO,fP,fQ,h,rfl⟩
def bBc (n:Nat) (a:Act) (_:World):Nat:=n - (intOf (a.tmps.getD 68 undef)).toNat
theorem aQn {L sb lc:Nat} {lA:Option Addr} {w:World} {x:Int} {c1 c2 c3 c4 c5 c6 c7 c8 jK jL jM jN jO jP jQ jR jS jT jU jV jW jX jY jZ zB zC zD zE zF zG zH zI zJ zK Xr zM zN zO zP zQ zR zS zT zU zV zW zX zY zZ yB yC yE yF yG yH yI yJ yK yL yM xV qC qD qE qF qG qH qI qJ qK qL qN qO qP qQ qR qS qT qU qV qW qY xW vI vU pE gL gM gN gO gP gQ gR gT gU gV gW gX gY gZ fA fC fD fE fF fG fH fI fJ fK fL fM fN fO fP fQ:Value}:bBc L ⟨#[.pointer (some ⟨sb,0,none⟩),c1,c2,c3,c4,c5,c6,c7,c8,.int .i64 96,xW,vI,vU,pE,jK,jL,jM,jN,jO,jP,jQ,jR,jS,jT,jU,jV,jW,jX,jY,jZ,zB,zC,zD,zE,zF,zG,zH,zI,zJ,zK,Xr,zM,zN,zO,zP,zQ,zR,zS,zT,zU,zV,zW,zX,zY,zZ,yB,yC,yE,yF,yG,yH,yI,yJ,yK,yL,yM,.slice lA L lc,.int .i64 (L:Int),.int .i64 x,gL,gM,gN,gO,gP,gQ,gR,gT,gU,gV,gW,gX,gY,gZ,fA,fC,fD,fE,fF,fG,fH,fI,fJ,fK,fL,fM,fN,fO,fP,fQ,xV,qC,qD,qE,qF,qG,qH,qI,qJ,qK,qL,qN,qO,qP,qQ,qR,qS,qT,qU,qV,qW,qY],[]⟩ w=L - x.toNat:=rfl
structure WlH (T:Nat) (w5:World) (F2:Xt) (sb gd mb gs pos num L lc:Nat) (lA:Option Addr) (xs:List BR):Prop where
 bx:Bk w5 sb 99 (Vh gd mb gs pos num)
 row:∃B,Ux w5 B (.slice lA L lc) xs∧∀b,F2 b→b<B
 len:xs.length=L
 f2:¬F2 sb
 fit:pos+L≤192
 l33:L≤33
 log:∀x∈xs,aDi T x.bs
theorem bFw {T:Nat} {w5 wr:World} {F2:Xt} {sb gd mb gs pos num L lc i:Nat} {lA:Option Addr} {xs:List BR} (H:WlH T w5 F2 sb gd mb gs pos num L lc lA xs) (hx:aNg T w5 wr F2 sb gd mb gs pos num i) (hlt:i<L) :
  ∃(Fi:Xt) (nsi:List Nat) (ad:Addr) (x:BR),lA=some ad∧wr.cell? (ad.add i)=some (.slice x.A 64 x.c)∧(IsY wr x.A 64 x.c x.bs∧aDi T x.bs)∧aJs T wr Fi gd nsi∧In wr Fi∧Sb w5 F2 Fi∧Bk wr sb 99 (Vh gd mb gs pos num)∧¬Fi sb∧(nsi[6+(pos+i) / 96]? =some (zc (pos+i) ((pos+i) / 96))∧zc (pos+i) ((pos+i) / 96)<96∧(nsi.set (6+(pos+i) / 96) (zc (pos+i) ((pos+i) / 96)+1))[6]? =some (zc (pos+i+1) 0)∧(nsi.set (6+(pos+i) / 96) (zc (pos+i) ((pos+i) / 96)+1))[7]? =some (zc (pos+i+1) 1))∧Kf F2 w5 wr:=by
 obtain⟨⟨Fi,nsi,hd,z6,z7,hsb,hin⟩,hkf⟩:=hx;obtain⟨B,hrow,hB⟩:=H.row;have ho:=Vj (F:=fun b=>B≤b) hrow.own (hkf.ag (fun b q r=>by have:=hB b r;omega)) (fun g q=>Xv hrow.own q);have hil:i<xs.length:=by rw[H.len];exact hlt
 obtain⟨ad,eA,_,hc⟩:=(Ve (aBs H.len ho)).get (k:=i) (by rw[rU];exact hil);rw[rV] at hc;exact⟨Fi,nsi,ad,xs[i],eA,hc,⟨(hrow.y _ (rC hil)).ag (F:=fun _=>False) (hkf.ag (fun _ q=>q.elim)),H.log _ (rC hil)⟩,hd,hin,hsb,Bk.ag (F:=fun b=>b=sb) H.bx (hkf.ag (fun b q r=>H.f2 (by have q:b=sb:=q;exact q▸r))) rfl,fun q=>(hsb sb q).elim H.f2 (fun r=>by have:=H.bx.lt;omega),aZh z6 z7 (by have:=H.fit;omega),hkf⟩
theorem aWy (T:Nat) (w5 wr:World) (F2:Xt) (sb gd mb gs pos num L lc i:Nat) (lA:Option Addr) (xs:List BR) (c1 c2 c3 c4 c5 c6 c7 c8 jK jL jM jN jO jP jQ jR jS jT jU jV jW jX jY jZ zB zC zD zE zF zG zH zI zJ zK Xr zM zN zO zP zQ zR zS zT zU zV zW zX zY zZ yB yC yE yF yG yH yI yJ yK yL yM xV qC qD qE qF qG qH qI qJ qK qL qN qO qP qQ qR qS qT qU qV qW qY xW vI vU pE gL gM gN gO gP gQ gR gT gU gV gW gX gY gZ fA fC fD fE fF fG fH fI fJ fK fL fM fN fO fP fQ:Value) (Q0:Exit→Act→World→Prop) (hpan:∀c a d v w,Q0 (.panic c) (Act.put a d v) w→Q0 (.panic c) a w)
  (H:WlH T w5 F2 sb gd mb gs pos num L lc lA xs) (hx:aNg T w5 wr F2 sb gd mb gs pos num i) (hlt:i<L) :
  Code.wp prog (Ur Tryz.f51) (Exit.then (fun a' w''=>WLI T w5 F2 sb gd mb gs pos num L lc lA c1 c2 c3 c4 c5 c6 c7 c8 jK jL jM jN jO jP jQ jR jS jT jU jV jW jX jY jZ zB zC zD zE zF zG zH zI zJ zK Xr zM zN zO zP zQ zR zS zT zU zV zW zX zY zZ yB yC yE yF yG yH yI yJ yK yL yM xV qC qD qE qF qG qH qI qJ qK qL qN qO qP qQ qR qS qT qU qV qW qY a' w''∧bBc L a' w'' <bBc L ⟨#[.pointer (some ⟨sb,0,none⟩),c1,c2,c3,c4,c5,c6,c7,c8,.int .i64 96,xW,vI,vU,pE,jK,jL,jM,jN,jO,jP,jQ,jR,jS,jT,jU,jV,jW,jX,jY,jZ,zB,zC,zD,zE,zF,zG,zH,zI,zJ,zK,Xr,zM,zN,zO,zP,zQ,zR,zS,zT,zU,zV,zW,zX,zY,zZ,yB,yC,yE,yF,yG,yH,yI,yJ,yK,yL,yM,.slice lA L lc,.int .i64 (L:Int),.int .i64 (i:Int),gL,gM,gN,gO,gP,gQ,gR,gT,gU,gV,gW,gX,gY,gZ,fA,fC,fD,fE,fF,fG,fH,fI,fJ,fK,fL,fM,fN,fO,fP,fQ,xV,qC,qD,qE,qF,qG,qH,qI,qJ,qK,qL,qN,qO,qP,qQ,qR,qS,qT,qU,qV,qW,qY],[]⟩ wr) Q0) ⟨#[.pointer (some ⟨sb,0,none⟩),c1,c2,c3,c4,c5,c6,c7,c8,.int .i64 96,xW,vI,vU,pE,jK,jL,jM,jN,jO,jP,jQ,jR,jS,jT,jU,jV,jW,jX,jY,jZ,zB,zC,zD,zE,zF,zG,zH,zI,zJ,zK,Xr,zM,zN,zO,zP,zQ,zR,zS,zT,zU,zV,zW,zX,zY,zZ,yB,yC,yE,yF,yG,yH,yI,yJ,yK,yL,yM,.slice lA L lc,.int .i64 (L:Int),.int .i64 (i:Int),gL,gM,gN,gO,gP,gQ,gR,gT,gU,gV,gW,gX,gY,gZ,fA,fC,fD,fE,fF,fG,fH,fI,fJ,fK,fL,fM,fN,fO,fP,fQ,xV,qC,qD,qE,qF,qG,qH,qI,qJ,qK,qL,qN,qO,qP,qQ,qR,qS,qT,qU,qV,qW,qY],[]⟩ wr:=by
 obtain⟨Fi,nsi,ad,x,rfl,e0,hy,hd,hin,hsb,hbx,hnf,hz,hkf⟩:=bFw H hx hlt;obtain⟨n1,n2,m2⟩:=aFv hlt (tK H.l33 (by decide));obtain⟨q,hq⟩:∃q,q=(pos+i) / 96:=⟨_,rfl⟩
 obtain⟨a1,a2,a3,a4,a5,a6,a7⟩:=bDv (show pos+i<192 by have:=H.fit;omega) hq;rw[←hq] at hz;clear hq;obtain⟨xA,xc,xb⟩:=x;simp only at e0 hy
 have KK:=hid (fun (w':World) (hS:Bk w' sb 99 (Vh gd mb gs pos num))=>nT (Xx hS).1 (Xx hS).2.1 (Xx hS).2.2.2.2.2.1);have H:=nN hz hbx hd hin hy hnf hlt hkf hsb;clear hx hlt hy hd hin hsb hnf hz hkf;conv=>arg 2;whnf
 go_wp2_with fail
 have Kq:=KK;refine wp_region_held_drew (S:=fun w'=>Bk w' sb 99 (Vh gd mb gs pos num)) (by kernel_rfl) (H.o.2.1.drew) (fun nE=>?_);refine kF 0 ?_;refine kF 1 ?_;refine kF 2 ?_;refine kF 3 ?_;refine kF 4 ?_;refine kF 5 ?_;refine kF 6 ?_;refine kF 7 ?_;refine kF 8 ?_;refine kF 9 ?_;refine kF 10 ?_;refine kF 11 ?_;refine kF 12 ?_;refine kF 13 ?_;refine kF 14 ?_;refine kF 15 ?_;refine kF 16 ?_;refine kF 17 ?_;refine kF 18 ?_;refine rF 19 (fun K hK=>?_);go_simp;have happ:=aTk (H.o.2.2.1.ag (.of_below (Xu nB))) H.o.1.1 (tR _ _) H.o.1.2.1 (H.o.2.2.2.2.1.1.ag (F:=fun _=>False) (.of_below (Xu nB))) H.o.2.2.2.2.1.2 H.o.2.2.2.1;rw[show ((6+q:Nat):Int)=6+(q:Int) from rfl] at happ;refine happ.mono ?_;rintro e w7 ⟨rfl,G,hG,hk7,hsb7,hin7⟩;have H7:=nI hG ((Kf.of_below (F:=Fi) (Xu nB)).trans hk7 (fun b q=>.inl q)) hsb7 hin7;have hS7:Bk w7 sb 99 (Vh gd mb gs pos num):=Bk.ag (F:=fun b=>b=sb) H.o.2.1 (H7.o.2.1.ag (fun b q r=>H.o.2.2.2.2.2.1 (by have q:b=sb:=q;exact q▸r))) rfl;clear happ hG hk7 hsb7 hin7;go_simp;clear nE;refine hK.out _ _ hS7 (fun nE=>?_);clear hK K;try simp only[Act.put,tC,tD,tE]
 refine kF 20 ?_;refine kF 21 ?_;refine kF 22 ?_;refine kF 23 ?_;refine kF 24 ?_;refine wpAnyH_done (by kernel_rfl) ?_ _;clear Kq;have HE:=hid (show aNg T w5 w7 F2 sb gd mb gs pos num (i+1) from⟨⟨G,_,H7.o.1,H.o.1.2.2.1,H.o.1.2.2.2,fun b r=>(H7.o.2.2.1 b r).elim (H.o.2.2.2.2.2.2.2.2 b) (fun s=>.inr (tK H.o.2.2.2.2.2.2.2.1.size s)),H7.o.2.2.2⟩,H.o.2.2.2.2.2.2.2.1.trans H7.o.2.1 H.o.2.2.2.2.2.2.2.2⟩);clear e0 n1 n2 a1 a2 a3 a4 a5 a6 a7;go_wp2_with fail
 refine⟨?_,?_⟩
 · refine WLI.mk ?_;exact⟨i+1,H.o.2.2.2.2.2.2.1,Va (by first|rfl|exact m2),HE.o⟩
 · rw[aQn,aQn];exact Xw H.o.2.2.2.2.2.2.1 (by first|rfl|exact m2)
theorem bFv (sb L lc i:Nat) (lA:Option Addr) (w'':World) (c1 c2 c3 c4 c5 c6 c7 c8 jK jL jM jN jO jP jQ jR jS jT jU jV jW jX jY jZ zB zC zD zE zF zG zH zI zJ zK Xr zM zN zO zP zQ zR zS zT zU zV zW zX zY zZ yB yC yE yF yG yH yI yJ yK yL yM xV qC qD qE qF qG qH qI qJ qK qL qN qO qP qQ qR qS qT qU qV qW qY xW vI vU pE gL gM gN gO gP gQ gR gT gU gV gW gX gY gZ fA fC fD fE fF fG fH fI fJ fK fL fM fN fO fP fQ:Value) (Q:Exit→Act→World→Prop) (hk:i=L) (h:∀gL:Value,Q (.exit 0) ⟨#[.pointer (some ⟨sb,0,none⟩),c1,c2,c3,c4,c5,c6,c7,c8,.int .i64 96,xW,vI,vU,pE,jK,jL,jM,jN,jO,jP,jQ,jR,jS,jT,jU,jV,jW,jX,jY,jZ,zB,zC,zD,zE,zF,zG,zH,zI,zJ,zK,Xr,zM,zN,zO,zP,zQ,zR,zS,zT,zU,zV,zW,zX,zY,zZ,yB,yC,yE,yF,yG,yH,yI,yJ,yK,yL,yM,.slice lA L lc,.int .i64 (L:Int),.int .i64 (i:Int),gL,gM,gN,gO,gP,gQ,gR,gT,gU,gV,gW,gX,gY,gZ,fA,fC,fD,fE,fF,fG,fH,fI,fJ,fK,fL,fM,fN,fO,fP,fQ,xV,qC,qD,qE,qF,qG,qH,qI,qJ,qK,qL,qN,qO,qP,qQ,qR,qS,qT,qU,qV,qW,qY],[]⟩ w'') :
  Code.wp prog (Ur Tryz.f51) Q ⟨#[.pointer (some ⟨sb,0,none⟩),c1,c2,c3,c4,c5,c6,c7,c8,.int .i64 96,xW,vI,vU,pE,jK,jL,jM,jN,jO,jP,jQ,jR,jS,jT,jU,jV,jW,jX,jY,jZ,zB,zC,zD,zE,zF,zG,zH,zI,zJ,zK,Xr,zM,zN,zO,zP,zQ,zR,zS,zT,zU,zV,zW,zX,zY,zZ,yB,yC,yE,yF,yG,yH,yI,yJ,yK,yL,yM,.slice lA L lc,.int .i64 (L:Int),.int .i64 (i:Int),gL,gM,gN,gO,gP,gQ,gR,gT,gU,gV,gW,gX,gY,gZ,fA,fC,fD,fE,fF,fG,fH,fI,fJ,fK,fL,fM,fN,fO,fP,fQ,xV,qC,qD,qE,qF,qG,qH,qI,qJ,qK,qL,qN,qO,qP,qQ,qR,qS,qT,qU,qV,qW,qY],[]⟩ w'':=by
 subst hk;have n0:¬(i:Int)<(i:Int):=Int.lt_irrefl _;conv=>arg 2;whnf
 go_wp2_with fail
 exact h _
theorem bBb (T:Nat) (w5 wr:World) (F2:Xt) (sb gd mb gs pos num L lc:Nat) (lA:Option Addr) (xs:List BR) (c1 c2 c3 c4 c5 c6 c7 c8 jK jL jM jN jO jP jQ jR jS jT jU jV jW jX jY jZ zB zC zD zE zF zG zH zI zJ zK Xr zM zN zO zP zQ zR zS zT zU zV zW zX zY zZ yB yC yE yF yG yH yI yJ yK yL yM xV qC qD qE qF qG qH qI qJ qK qL qN qO qP qQ qR qS qT qU qV qW qY xW vI vU pE gK gL gM gN gO gP gQ gR gT gU gV gW gX gY gZ fA fC fD fE fF fG fH fI fJ fK fL fM fN fO fP fQ:Value) (Q0:Exit→Act→World→Prop) (hpan:∀c a d v w,Q0 (.panic c) (Act.put a d v) w→Q0 (.panic c) a w)
  (H:WlH T w5 F2 sb gd mb gs pos num L lc lA xs) (h0:∃i:Nat,i≤L∧gK=.int .i64 (i:Int)∧aNg T w5 wr F2 sb gd mb gs pos num i)
  (hexit:∀(xW vI vU pE gK gL gM gN gO gP gQ gR gT gU gV gW gX gY gZ fA fC fD fE fF fG fH fI fJ fK fL fM fN fO fP fQ:Value) (w':World),aNg T w5 w' F2 sb gd mb gs pos num L→Q0 (.exit 0) ⟨#[.pointer (some ⟨sb,0,none⟩),c1,c2,c3,c4,c5,c6,c7,c8,.int .i64 96,xW,vI,vU,pE,jK,jL,jM,jN,jO,jP,jQ,jR,jS,jT,jU,jV,jW,jX,jY,jZ,zB,zC,zD,zE,zF,zG,zH,zI,zJ,zK,Xr,zM,zN,zO,zP,zQ,zR,zS,zT,zU,zV,zW,zX,zY,zZ,yB,yC,yE,yF,yG,yH,yI,yJ,yK,yL,yM,.slice lA L lc,.int .i64 (L:Int),gK,gL,gM,gN,gO,gP,gQ,gR,gT,gU,gV,gW,gX,gY,gZ,fA,fC,fD,fE,fF,fG,fH,fI,fJ,fK,fL,fM,fN,fO,fP,fQ,xV,qC,qD,qE,qF,qG,qH,qI,qJ,qK,qL,qN,qO,qP,qQ,qR,qS,qT,qU,qV,qW,qY],[]⟩ w') :
  Code.wp prog (Code.loop (Ur Tryz.f51)) Q0 ⟨#[.pointer (some ⟨sb,0,none⟩),c1,c2,c3,c4,c5,c6,c7,c8,.int .i64 96,xW,vI,vU,pE,jK,jL,jM,jN,jO,jP,jQ,jR,jS,jT,jU,jV,jW,jX,jY,jZ,zB,zC,zD,zE,zF,zG,zH,zI,zJ,zK,Xr,zM,zN,zO,zP,zQ,zR,zS,zT,zU,zV,zW,zX,zY,zZ,yB,yC,yE,yF,yG,yH,yI,yJ,yK,yL,yM,.slice lA L lc,.int .i64 (L:Int),gK,gL,gM,gN,gO,gP,gQ,gR,gT,gU,gV,gW,gX,gY,gZ,fA,fC,fD,fE,fF,fG,fH,fI,fJ,fK,fL,fM,fN,fO,fP,fQ,xV,qC,qD,qE,qF,qG,qH,qI,qJ,qK,qL,qN,qO,qP,qQ,qR,qS,qT,qU,qV,qW,qY],[]⟩ wr:=by
 refine wp_loop (WLI T w5 F2 sb gd mb gs pos num L lc lA c1 c2 c3 c4 c5 c6 c7 c8 jK jL jM jN jO jP jQ jR jS jT jU jV jW jX jY jZ zB zC zD zE zF zG zH zI zJ zK Xr zM zN zO zP zQ zR zS zT zU zV zW zX zY zZ yB yC yE yF yG yH yI yJ yK yL yM xV qC qD qE qF qG qH qI qJ qK qL qN qO qP qQ qR qS qT qU qV qW qY) (bBc L) (WLI.mk h0) (fun a w'' hI=>?_);unfold WLI at hI;obtain⟨fS,bF,bQ,bY,dY,dZ,v70,mA,v72,mB,mC,v75,v76,v77,mD,mE,mF,mG,mH,mI,mJ,mL,mM,mN,mO,mP,mQ,mR,mT,mU,mV,mW,mX,mY,mZ,hI⟩:=hI;obtain⟨⟨i,hi,e68,hx⟩,rfl⟩:=hI;subst e68;rcases tN i L with hlt|hge
 · exact aWy T w5 w'' F2 sb gd mb gs pos num L lc i lA xs _ _ _ _ _ _ _ _ _ _ _ _ _ _ _ _ _ _ _ _ _ _ _ _ _ _ _ _ _ _ _ _ _ _ _ _ _ _ _ _ _ _ _ _ _ _ _ _ _ _ _ _ _ _ _ _ _ _ _ _ _ _ _ _ _ _ _ _ _ _ _ _ _ _ _ _ _ _ _ _ _ _ _ _ _ _ _ _ _ _ _ _ _ _ _ _ _ _ _ _ _ _ _ _ _ _ _ _ _ _ _ _ _ _ _ _ Q0 hpan H hx hlt
 · have e:i=L:=tQ hi hge;subst e;exact bFv sb i lc i lA w'' _ _ _ _ _ _ _ _ _ _ _ _ _ _ _ _ _ _ _ _ _ _ _ _ _ _ _ _ _ _ _ _ _ _ _ _ _ _ _ _ _ _ _ _ _ _ _ _ _ _ _ _ _ _ _ _ _ _ _ _ _ _ _ _ _ _ _ _ _ _ _ _ _ _ _ _ _ _ _ _ _ _ _ _ _ _ _ _ _ _ _ _ _ _ _ _ _ _ _ _ _ _ _ _ _ _ _ _ _ _ _ _ _ _ _ _ _ rfl (fun _=>hexit _ _ _ _ _ _ _ _ _ _ _ _ _ _ _ _ _ _ _ _ _ _ _ _ _ _ _ _ _ _ _ _ _ _ _ w'' hx)
def aHz (T:Nat) (w w':World) (F2:Xt) (sb gd mb gs pos num L:Nat) (r:Int):Prop:=(192<pos+L∧r=9∧nD w w')∨(pos+L≤192∧r=0∧∃G ns' w5,Ut T w5 G gd ns'∧ns'[6]? =some (zc (pos+L) 0)∧ns'[7]? =some (zc (pos+L) 1)∧Kf F2 w w5∧Sb w F2 G∧In w5 G∧Kf (fun b=>b=sb) w5 w'∧Bk w' sb 99 (Vh gd mb gs (pos+L) (num+1)))
theorem bFn {pos L:Nat} (hp:pos≤192) (hl:L≤33):wrap64 ((pos:Int)+(L:Int))=(pos:Int)+(L:Int)∧IntKind.i64.wrap ((pos:Int)+(L:Int))=(pos:Int)+(L:Int):=⟨by unfold wrap64;omega,IntWalk.i64_in _ (by omega)⟩
theorem bFl {pos L:Nat} (h:192<pos+L):(192:Int)<(pos:Int)+(L:Int)∧decide ((192:Int)<(pos:Int)+(L:Int))=true:=⟨by omega,rZ (by omega)⟩
theorem bFm {pos L:Nat} (h:pos+L≤192):¬(192:Int)<(pos:Int)+(L:Int)∧decide ((192:Int)<(pos:Int)+(L:Int))=false:=⟨by omega,rY (by omega)⟩
theorem aLs (w:World):(Instr.field 75 (.agg #[.int .i64 8,.int .i64 96]) 1).run prog w=.ok (.int .i64 96) w:=by kernel_rfl
theorem aOw (F2:Xt) (sb gd mb gs pos num count n c:Nat) (ns:List Nat) (inn bn:Int) (v:Value) (bs:List Int) (A:Option Addr) (ts:List TxD) (T:Nat) (w:World) (hb:Bk w sb 99 (Vh gd mb gs pos num)) (hd:Ut T w F2 gd ns) (hI:In w F2) (hn:¬F2 sb) (hs:Uz w gd gs inn v bs count) (h6:ns[6]? =some (zc pos 0)) (h7:ns[7]? =some (zc pos 1)) (hp:pos≤192) (hnum:num≤700) (hcnt:count≤1000000) (ht:Ki w A n c ts) (hok:OkB ((num:Int)+1) ts) (hTm:∀t∈ts,t.time≤(T:Int)) :
  Calls prog 51 #[.pointer (some ⟨sb,0,none⟩),.agg #[.int .i64 bn,.slice A n c]] w fun e w'=>∃r:Int,e=.returned (.int .i64 r)∧aHz T w w' F2 sb gd mb gs pos num (1+(ts.map (·.n)).sum) r:=by
 obtain⟨w0,hw0⟩:=nC (w.alloc (.cells #[.int .i64 bn,.slice A n c] 107));have hB0:Bk w0 w.heap.size 107 [.int .i64 bn,.slice A n c]:=by rw[←hw0];exact Bk.new w _ _
 have hb0:nD w w0:=by rw[←hw0];exact nB.alloc lR _
 have hlo:=aHq gd gs count inn v bs w0 (hs.ag (F:=fun b=>b=gs) (.of_below hb0) rfl);have c6:=(Xx (hb.next hb0 hb.lt)).2.2.2.2.1;have m1:wrap64 ((num:Int)+1)=(num:Int)+1:=by unfold wrap64;omega
 have m2:IntKind.i64.wrap ((num:Int)+1)=(num:Int)+1:=IntWalk.i64_in _ (by omega);have HX:=nO hb hd hI hn h6 h7 hp ht hok hcnt;have H0:=nF hB0 hb0;have HL:=hid hok.sum;have HTM:=hid hTm;obtain⟨L,hL⟩:=nC (1+(ts.map (·.n)).sum);rw[hL];have HL2:=hid hL;clear hL;clear hb hd hI hn hs h6 h7 hp ht hok hB0 hb0 hcnt hTm;go_enter func51,ntmps51
 go_wp2_with fail
 refine hlo.mono ?_;rintro e w1 ⟨⟨u,rfl,_⟩,hb1⟩;have hB1:=H0.o.1.next hb1 H0.o.1.lt;have hb01:=H0.o.2.trans (hb1.mono H0.o.2.size);have c8:=(Xx (HX.o.1.next hb01 HX.o.1.lt)).2.2.2.2.2.2.1;have f10:=hB1.free 0;have z10:=hB1.cell (i:=0) (by simp);simp only[tI] at z10;obtain⟨w2,hw2⟩:=nC (w1.setCell ⟨w.heap.size,0,none⟩ (.int .i64 ((num:Int)+1)));have hB2:Bk w2 w.heap.size 107 [.int .i64 ((num:Int)+1),.slice A n c]:=by rw[←hw2];exact hB1.set 0 (.int .i64 ((num:Int)+1))
 have hb2:nD w w2:=by rw[←hw2];exact hb01.setCell (p:=⟨w.heap.size,0,none⟩) lR _
 obtain⟨z20,z21⟩:=aDv hB2;have hen:=aLe ((num:Int)+1) (count:Int) A n c ts T w2 (HX.o.2.2.2.2.2.2.2.1.next hb2) HX.o.2.2.2.2.2.2.2.2.1 HTM.o ⟨Int.natCast_nonneg _,by have:=HX.o.2.2.2.2.2.2.2.2.2;omega⟩;have H2:=hid hb2;clear hlo hB1 hb1 hb01 hB2 hb2 c6;go_wp2_with fail
 refine hen.mono ?_;rintro e w3 ⟨⟨lv,xs,rfl,hrow,hxl,hxg⟩,hb3⟩;have HXG:=hid hxg;clear hxg;rw[HL2.o] at hxl;have hl33:L≤33:=by have:=HL.o;have:=HL2.o;omega
 obtain⟨lA,lc,rfl⟩:=Xs (aBs hxl hrow.own);have hb03:=H2.o.trans (hb3.mono H2.o.size);have hst3:=HX.o.1.next hb03 HX.o.1.lt;obtain⟨c0,c3,c4,_,_,c7,_,_⟩:=Xx hst3;have hgeo:=aOc (HX.o.2.1.dev.ag (.of_below hb03));have H3:=nI hrow hxl hb03 hl33;clear hen hrow hxl hb3 hb03 hst3 z20 z21 hl33;go_wp2_with fail
 refine hgeo.mono ?_;rintro e w4 ⟨rfl,hb4⟩;have hb04:=H3.o.2.2.1.trans (hb4.mono H3.o.2.2.1.size);have hst4:=HX.o.1.next hb04 HX.o.1.lt;have H4:=nH (show Ux w4 w2.heap.size (.slice lA L lc) xs from⟨Vg H3.o.1.own hb4,fun x hx=>(H3.o.1.y x hx).ag (F:=fun _=>True) (.of_below hb4)⟩) hb04 hst4;clear c0 c3 c4 c7 hgeo hb4;obtain⟨c0,c3,c4,_,_,c7,_,_⟩:=Xx hst4;have hgs:=aLs w4;obtain⟨p1,p2⟩:=bFn HX.o.2.2.2.2.2.2.1 H3.o.2.2.2;clear hst4 hb04;have KS:=hid (fun (w':World) (hS:Bk w' sb 99 (Vh gd mb gs pos num))=>nT (Xx hS).2.1 (Xx hS).2.2.1 (Xx hS).2.2.2.2.2.1);have j1:IntKind.i64.wrap 1=1:=IntWalk.i64_in _ (by decide);have j2:IntKind.i64.wrap 2=2:=IntWalk.i64_in _ (by decide);have j3:IntKind.i64.wrap 192=192:=IntWalk.i64_in _ (by decide);by_cases hfit:192<pos+L
 · obtain⟨q1,q2⟩:=bFl hfit;have HF:=hid hfit;clear hfit;go_wp2_with fail
   have Kq:=KS;refine wp_region_held_drew (S:=fun w'=>Bk w' sb 99 (Vh gd mb gs pos num)) (by kernel_rfl) (H4.o.2.2.drew) (fun nE=>?_);refine kF 0 ?_;refine kF 1 ?_;refine kF 2 ?_;refine kF 3 ?_;refine kF 4 ?_;refine kF 5 ?_;refine kF 6 ?_;refine kF 7 ?_;refine kF 8 ?_;refine kF 9 ?_;refine kF 10 ?_;refine kF 11 ?_;refine kF 12 ?_;refine kF 13 ?_;refine kF 14 ?_;refine kF 15 ?_;refine kF 16 ?_;refine kF 17 ?_;refine kF 18 ?_;refine kF 19 ?_;refine kF 20 ?_;refine kF 21 ?_;refine kF 22 ?_;refine kF 23 ?_;refine kF 24 ?_;refine kF 25 ?_;refine wpAnyH_done (by kernel_rfl) ?_ _;clear Kq;go_wp2_with fail
   go_ret;exact⟨_,rfl,.inl ⟨HF.o,rfl,H4.o.2.1.trans ((Xu nB).mono H4.o.2.1.size)⟩⟩
 · obtain⟨q1,q2⟩:=bFm (Nat.not_lt.1 hfit);have HF:=hid (Nat.not_lt.1 hfit);clear hfit;go_wp2_with fail
   have Kq:=KS;refine wp_region_held_drew (S:=fun w'=>Bk w' sb 99 (Vh gd mb gs pos num)) (by kernel_rfl) (H4.o.2.2.drew) (fun nE=>?_);refine kF 0 ?_;refine kF 1 ?_;refine kF 2 ?_;refine kF 3 ?_;refine kF 4 ?_;refine kF 5 ?_;refine kF 6 ?_;refine kF 7 ?_;refine kF 8 ?_;refine kF 9 ?_;refine kF 10 ?_;refine kF 11 ?_;refine kF 12 ?_;refine kF 13 ?_;refine kF 14 ?_;refine kF 15 ?_;refine kF 16 ?_;refine kF 17 ?_;refine kF 18 ?_;refine kF 19 ?_;refine kF 20 ?_;refine kF 21 ?_;refine kF 22 ?_;refine kF 23 ?_;refine kF 24 ?_;refine kF 25 ?_;refine wpAnyH_done (by kernel_rfl) ?_ _;clear Kq;go_wp2_with fail
   have hb5:=H4.o.2.1.trans ((Xu (Below.refl w4.heap.size w4)).mono H4.o.2.1.size);have HW:=hid hb5;refine bBb T w4.drew w4.drew F2 sb gd mb gs pos num L lc lA xs _ _ _ _ _ _ _ _ _ _ _ _ _ _ _ _ _ _ _ _ _ _ _ _ _ _ _ _ _ _ _ _ _ _ _ _ _ _ _ _ _ _ _ _ _ _ _ _ _ _ _ _ _ _ _ _ _ _ _ _ _ _ _ _ _ _ _ _ _ _ _ _ _ _ _ _ _ _ _ _ _ _ _ _ _ _ _ _ _ _ _ _ _ _ _ _ _ _ _ _ _ _ _ _ _ _ _ _ _ _ _ _ _ _ _ _ _ _ (fun _ _ d _ _ h=>by cases d<;>exact h) ⟨H4.o.2.2.drew,⟨w2.heap.size,⟨H4.o.1.own,fun x hx=>(H4.o.1.y x hx).ag (F:=fun _=>True) (.of_below (Xu (Below.refl w4.heap.size w4)))⟩,fun b q=>tL (HX.o.2.2.1 b q) H2.o.size⟩,H3.o.2.1,HX.o.2.2.2.1,HF.o,H3.o.2.2.2,HXG.o⟩ ⟨0,zL,rfl,⟨F2,ns,(HX.o.2.1.ag (.of_below hb5)).l,HX.o.2.2.2.2.1,HX.o.2.2.2.2.2.1,fun b q=>.inl q,fun b q=>tL (HX.o.2.2.1 b q) hb5.size⟩,Kf.refl _ _⟩ ?_;intro xW vI vU pE gK gL gM gN gO gP gQ gR gT gU gV gW gX gY gZ fA fC fD fE fF fG fH fI fJ fK fL fM fN fO fP fQ w7 hx;obtain⟨⟨Fi,nsi,hd,z6,z7,hsb,hin⟩,hkf⟩:=hx;have hnf:¬Fi sb:=fun q=>(hsb sb q).elim HX.o.2.2.2.1 (fun r=>by have h1:=HX.o.1.lt;have h2:=HW.o.size;omega)
   have hk7:Kf F2 w w7:=(Kf.of_below (F:=F2) HW.o).trans hkf (fun b q=>.inl q);have hb7:Bk w7 sb 99 (Vh gd mb gs pos num):=Bk.ag (F:=fun b=>b=sb) HX.o.1 (hk7.ag (fun b q r=>HX.o.2.2.2.1 (by have q:b=sb:=q;exact q▸r))) rfl;have hfl:=aPq hd;have hsbw:Sb w F2 Fi:=fun b q=>(hsb b q).imp id (tK HW.o.size)
   have H7:=nL hk7 hsbw hin hnf hb7 z6 z7;clear c0 c3 c4 c7 q1 q2 hb5 hd z6 z7 hsb hin hkf hnf hk7 hsbw;obtain⟨c0,_⟩:=Xx hb7;clear hb7;go_wp2_with fail
   refine hfl.mono ?_;rintro e w8 ⟨rfl,hd8,hk8⟩;have hb8:Bk w8 sb 99 (Vh gd mb gs pos num):=Bk.ag (F:=fun b=>b=sb) H7.o.2.2.2.2.1 (hk8.ag (fun b q r=>H7.o.2.2.2.1 (by have q:b=sb:=q;exact q▸r))) rfl;obtain⟨_,_,_,_,_,c7,c8,_⟩:=Xx hb8;have f7:=hb8.free 7;obtain⟨w9,hw9⟩:=nC (w8.setCell ⟨sb,7,none⟩ (.int .i64 ((pos:Int)+(L:Int))));have hb9:Bk w9 sb 99 (Vh gd mb gs (pos+L) num):=by rw[←hw9];exact hb8.set 7 (.int .i64 ((pos:Int)+(L:Int)))
   obtain⟨_,_,_,_,_,_,xL,_⟩:=Xx hb9;have f8:=hb9.free 8;obtain⟨w10,hw10⟩:=nC (w9.setCell ⟨sb,8,none⟩ (.int .i64 ((num:Int)+1)));have hb10:Bk w10 sb 99 (Vh gd mb gs (pos+L) (num+1)):=by rw[←hw10];exact hb9.set 8 (.int .i64 ((num:Int)+1))
   have k10:Kf (fun b=>b=sb) w8 w10:=by rw[←hw10,←hw9];exact((Kf.refl (fun b=>b=sb) w8).set hb8 (by decide) (.inl rfl) 7 _).set (by rw[hw9];exact hb9) (by decide) (.inl rfl) 8 _
   have HE:=hid (show aHz T w w10 F2 sb gd mb gs pos num L 0 from .inr ⟨HF.o,rfl,Fi,nsi,w8,hd8,H7.o.2.2.2.2.2.1,H7.o.2.2.2.2.2.2,H7.o.1.trans hk8 H7.o.2.1,H7.o.2.1,fun b q=>tL (H7.o.2.2.1 b q) hk8.size,k10,hb10⟩);clear hfl hd8 hk8 hb8 hb9 hb10 k10;go_wp2_with fail
   go_ret;exact⟨_,rfl,HE.o⟩
theorem aPr:∀(l:List Nat) (a B:Nat),l.Pairwise (· < ·)→(∀x∈l,a<x∧x≤B)→l.length≤B - a
 | [],a,B,_,_=>zL
 | x::l,a,B,hp,hb=>by
   rw[List.pairwise_cons] at hp;have h1:=hb x rQ;have ih:=aPr l x B hp.2 (fun y hy=>⟨hp.1 y hy,(hb y (List.mem_cons_of_mem _ hy)).2⟩);simp only[List.length_cons];omega
theorem Vq.qlen {m:MS} (h:Vq m):m.queue.length≤1000:=by
 have hp:(m.queue.map fun i=>((m.txs[i]?).map TX.time).getD 0).Pairwise (· < ·):=by
  rw[List.pairwise_map];refine List.Pairwise.imp_of_mem ?_ h.srt;intro a b ha hb hab;obtain⟨t,ht,_⟩:=h.que a ha;obtain⟨u,hu,_⟩:=h.que b hb;rw[ht,hu];exact hab t u ht hu
 have:=aPr _ 0 1000 hp (fun x hx=>by
  obtain⟨i,hi,rfl⟩:=List.mem_map.1 hx;obtain⟨t,ht,_,_,h4,h5,_⟩:=h.que i hi;rw[ht];have:=h.cap.1;show 0<t.time∧t.time≤1000
  omega)
 rw[rU] at this;exact this
section
variable {w:World} {F:Xt} {mb g:Nat} {m:MS}
theorem aZl (h:Man w F mb m g) (hg:g+1≤700) {i:Nat} {t:TX} (ht:m.txs[i]? =some t):Calls prog 45 #[.pointer (some ⟨mb,0,none⟩),.int .i64 ((i:Int)+1)] w fun e w'=>∃r:Int,e=.returned (.int .i64 r)∧∃m',cmR m i t r m'∧Kj w w' F mb m' g:=by
 obtain⟨Ft,gm,kb,am,qv,es,hx⟩:=h.x;obtain⟨x,he⟩:=aHh hx ht;have hb:=h.big;have hq:=h.good.qlen;have hl:=hx.len;have htl:=h.txs;have hgv:=h.giv;have hil:=Vi ht;refine(aMe F Ft mb gm kb am qv 0 m es _ _ i t x w hx ht he (by omega) (fun i hi=>by obtain⟨t,ht,_⟩:=h.good.que i hi;exact⟨t,ht⟩) (by omega) (by omega) h.good.cap.1).mono ?_;rintro e w' ⟨r,rfl,F',Ft',qv',m',h1,h2,h3,h4,h5⟩;obtain⟨g1,g2,g3,g4,g5⟩:=aPh h.good ht (by omega) h5;exact⟨r,rfl,m',h5,Kj.of h hg h1 (by omega) (by omega) h2 h3 h4 g1 (by omega) (by have:=h.num;omega) (by omega)⟩
end
theorem aQg {w:World} {F:Xt} {Ft:Nat→Xt} {sb gd mb gs pos num count g:Nat} {ns:List Nat} {m:MS} (h:Kh w F Ft sb gd mb gs pos num count ns m g) (hg:g+1≤700) {i:Nat} {t:TX} (ht:m.txs[i]? =some t) :
  Calls prog 17 #[.pointer (some ⟨sb,0,none⟩),.int .i64 ((i:Int)+1)] w fun e w'=>∃r:Int,e=.returned (.int .i64 r)∧∃m',cmR m i t r m'∧Kc w w' F sb (gp gd) pos m' (g+1):=by
 have hd:=aAq sb gd mb gs pos num w h.bx;obtain⟨_,_,_,c5,_⟩:=Xx h.bx;have hm:=aZl h.man hg ht;have H:=hid h;clear h;go_enter func17,ntmps17
 go_wp2_with fail
 refine hd.mono ?_;rintro e w' ⟨rfl,rfl⟩;clear hd;go_wp2_with fail
 refine hm.mono ?_;rintro e w' ⟨r,rfl,m',hw,hr⟩;have HR:=nF hw (H.o.mandR hr);clear hr hw;clear hm;go_wp2_with fail
 go_ret;exact⟨r,rfl,m',HR.o⟩
theorem bEx {w:World} {F:Xt} {Ft:Nat→Xt} {sb gd mb gs pos num count g:Nat} {ns:List Nat} {m:MS} (h:Kh w F Ft sb gd mb gs pos num count ns m g) (hg:g+1≤700) :
  Calls prog 65 #[.pointer (some ⟨sb,0,none⟩)] w fun e w'=>(∃r:Int,e=.returned (.int .i64 r))∧Kc w w' F sb (gp gd) pos m (g+1):=by
 have hd:=aAq sb gd mb gs pos num w h.bx;obtain⟨_,_,_,c5,_⟩:=Xx h.bx;have hm:=aOl _ _ _ _ w h.man hg;have H:=hid h;clear h;go_enter func65,ntmps65
 go_wp2_with fail
 refine hd.mono ?_;rintro e w' ⟨rfl,rfl⟩;clear hd;go_wp2_with fail
 refine hm.mono ?_;rintro e w' ⟨⟨r,rfl⟩,hr⟩;have HR:=hid (H.o.mandR hr);clear hr;clear hm;go_wp2_with fail
 go_ret;exact⟨⟨r,rfl⟩,HR.o⟩
def bFc (w:World) (F:Xt) (sb:Nat) (dv:Value) (pos:Nat) (m:MS) (g:Nat) (e:Ending) (w':World):Prop:=∃h r:Int,e=.returned (.tuple #[.int .i64 h,.int .i64 r])∧((m.txs≠[]∧r≠0∧Kc w w' F sb dv pos m (g+1))∨(r=0∧h=(m.txs.length:Int)+1∧Kc w w' F sb dv pos m.begin (g+1)))
theorem bDx {w:World} {F:Xt} {mb g:Nat} {m:MS} (h:Man w F mb m g) (hg:g+1≤700):Calls prog 39 #[.pointer (some ⟨mb,0,none⟩)] w fun e w'=>∃x r:Int,e=.returned (.tuple #[.int .i64 x,.int .i64 r])∧((m.txs≠[]∧r≠0∧Kj w w' F mb m g)∨(r=0∧x=(m.txs.length:Int)+1∧Kj w w' F mb m.begin g)):=by
 refine(aHr F mb g m w h hg).mono ?_;rintro e w' (⟨h1,⟨r,h2,rfl⟩,h3⟩|⟨rfl,h3⟩)
 · exact⟨0,r,rfl,.inl ⟨h1,h2,h3⟩⟩
 · exact⟨_,0,rfl,.inr ⟨rfl,rfl,h3.man⟩⟩
theorem bEw {w:World} {F:Xt} {Ft:Nat→Xt} {sb gd mb gs pos num count g:Nat} {ns:List Nat} {m:MS} (h:Kh w F Ft sb gd mb gs pos num count ns m g) (hg:g+1≤700) :
  Calls prog 11 #[.pointer (some ⟨sb,0,none⟩)] w fun e w'=>bFc w F sb (gp gd) pos m g e w':=by
 have hd:=aAq sb gd mb gs pos num w h.bx;obtain⟨_,_,_,c5,_⟩:=Xx h.bx;have hm:=bDx h.man hg;have H:=hid h;clear h;go_enter func11,ntmps11
 go_wp2_with fail
 refine hd.mono ?_;rintro e w' ⟨rfl,rfl⟩;clear hd;go_wp2_with fail
 refine hm.mono ?_;rintro e w' ⟨x,r,rfl,hr⟩;have HR:=hid (hr.imp (fun a=>nT a.1 a.2.1 (H.o.mandR a.2.2)) (fun a=>nT a.1 a.2.1 (H.o.mandR a.2.2)));clear hr;clear hm;go_wp2_with fail
 go_ret2
 exact⟨x,r,rfl,HR.o⟩
theorem aZk {w:World} {F:Xt} {mb g:Nat} {m:MS} (h:Man w F mb m g) (hg:g+1≤700) (hn:m.txs=[]):Calls prog 39 #[.pointer (some ⟨mb,0,none⟩)] w fun e w'=>e=.returned (.tuple #[.int .i64 1,.int .i64 0])∧∃F',(Man w' F' mb m.begin (g+1)∧One w' F' mb m.begin (g+1) 0∧Bk1 w' F' mb m.begin)∧Kf F w w'∧Sb w F F'∧In w' F':=by
 refine(aHr F mb g m w h hg).mono ?_;rintro e w' (⟨h1,_⟩|⟨rfl,F',⟨h1,h2⟩,h3⟩)
 · exact absurd hn h1
 · exact⟨by rw[hn];rfl,F',⟨h1,h2 hn⟩,h3⟩
theorem bDy {w:World} {F:Xt} {mb:Nat} {m:MS} (h:Bk1 w F mb m):Calls prog 41 #[.pointer (some ⟨mb,0,none⟩)] w fun e w'=>e=.returned (.int .i64 1)∧nD w w':=by
 obtain⟨Ft,gm,kb,am,qv,es,N,R,hx,tb,f,hb⟩:=h;exact aPv _ mb gm kb am 0 _ _ _ qv m _ w hx.bx hb
theorem bAm {w:World} {F:Xt} {Ft:Nat→Xt} {sb gd mb gs pos num count g:Nat} {ns:List Nat} {m:MS} (h:Kh w F Ft sb gd mb gs pos num count ns m g) (hg:g+1≤700) (hn:m.txs=[]) :
  Calls prog 11 #[.pointer (some ⟨sb,0,none⟩)] w fun e w'=>e=.returned (.tuple #[.int .i64 1,.int .i64 0])∧∃F' Ft',(Kh w' F' Ft' sb gd mb gs pos num count ns m.begin (g+1)∧One w' (Ft' 1) mb m.begin (g+1) 0∧Bk1 w' (Ft' 1) mb m.begin)∧Kf F w w'∧Sb w F F'∧In w' F':=by
 have hd:=aAq sb gd mb gs pos num w h.bx;obtain⟨_,_,_,c5,_⟩:=Xx h.bx;have hm:=aZk h.man hg hn;have H:=hid h;clear h;go_enter func11,ntmps11
 go_wp2_with fail
 refine hd.mono ?_;rintro e w' ⟨rfl,rfl⟩;clear hd;go_wp2_with fail
 refine hm.mono ?_;rintro e w' ⟨rfl,hr⟩;have HR:=hid (H.o.mandP _ hr);clear hr;clear hm;go_wp2_with fail
 go_ret2
 exact⟨rfl,HR.o⟩
theorem bEy {w:World} {F:Xt} {Ft:Nat→Xt} {sb gd mb gs pos num count g:Nat} {ns:List Nat} {m:MS} (h:Kh w F Ft sb gd mb gs pos num count ns m g) (ho:Bk1 w (Ft 1) mb m) :
  Calls prog 12 #[.pointer (some ⟨sb,0,none⟩)] w fun e w'=>e=.returned (.int .i64 1)∧nD w w':=by
 have hd:=aBm sb gd mb gs pos num w h.bx;obtain⟨_,_,_,c5,_⟩:=Xx h.bx;have hm:=bDy ho;have H:=hid h;clear h;go_enter func12,ntmps12
 go_wp2_with fail
 refine hd.mono ?_;rintro e w' ⟨rfl,rfl⟩;clear hd;go_wp2_with fail
 refine hm.mono ?_;rintro e w' ⟨rfl,hb⟩;clear hm;go_wp2_with fail
 go_ret;exact⟨rfl,hb⟩
end Go.Proofs.YtdhlicgaalnmoaaGreatDoor.Tp
