/- Contracts of the program's functions, and laws on memory: a part of the proof of TopAlone. -/
import Derived.Test.YtdhlicgaalnmoaaGreatDoorZO
set_option linter.unusedSimpArgs false
set_option linter.unusedVariables false
namespace Go.Proofs.YtdhlicgaalnmoaaGreatDoor.Tp
open Lib (hid)
open Tryz
open Go.RowKit Go.Maps
set_option maxHeartbeats 8000000
set_option maxRecDepth 100000
noncomputable def aKg (f:Func) (i j k:Nat):Code:=(aBx (aBn f i j)).getD k .skip
theorem aOp {w w':World} {A:Option Addr} {n c B st mb s t z:Nat} {ps:List Vd} {f:Int→Option Value} (hp:Uh w A n c ps) (hpt:PtB w A) (h:StZ w B st mb s t z f) (k:Kf (fun b=>b=st∨b=mb) w w'):Uh w' A n c ps∧PtB w' A:=by
 have hne:∀ad,A=some ad→¬(ad.block=st∨ad.block=mb):=fun ad e q=>by
  obtain⟨cs',fr,hh⟩:=hpt ad e;rcases q with q|q
  · rw[q] at hh;exact absurd (aAp hh h.bx) (by decide)
  · obtain⟨es,cl,hm⟩:=h.im.at_;rw[q,hm] at hh;cases hh
 exact⟨hp.agn (G:=fun b=>¬(b=st∨b=mb)) (k.ag (fun b q r=>q r)) (fun ad e _=>hne ad e),fun ad e=>by
  obtain⟨cs',fr,hh⟩:=hpt ad e;exact⟨cs',fr,k.keep _ _ hh (.inl (hne ad e))⟩⟩
def R3I (w5:World) (B st mb t z m pc:Nat) (pA:Option Addr) (c0 c2 c3 c4 c5 c6 c7 c8 c9 qB qM qX jC jK jL jN jO jP jQ jR jS jT jU jV jW jX jY jZ zB zC zD zE zF zG zH zI zJ zK Xr zM zN zO zP zQ zR zS zT zU zV zW zX zY zZ yB yC yE yF yG yH yI yJ yK yL yM yN yO yP yQ yR yS yT yU yV yW yX yY yZ xB xC xS xT xU xV qC qD qE qF qG qH qI qJ qK qL qN qO qP qQ qR qS qT qU:Value) (a:Act) (wr:World):Prop :=
 ∃pH fA fC fD fE fF fG fH fI fJ fK fL fM fN:Value,(∃(j s:Nat) (f:Int→Option Value),j≤m∧fA=.int .i64 (j:Int)∧StZ wr B st mb s t z f∧Kf (fun b=>b=st∨b=mb) w5 wr)∧a=⟨#[c0,.pointer (some ⟨st,0,none⟩),c2,c3,c4,c5,c6,c7,c8,c9,qB,qM,qX,jC,jK,jL,pH,jN,jO,jP,jQ,jR,jS,jT,jU,jV,jW,jX,jY,jZ,zB,zC,zD,zE,zF,zG,zH,zI,zJ,zK,Xr,zM,zN,zO,zP,zQ,zR,zS,zT,zU,zV,zW,zX,zY,zZ,yB,yC,yE,yF,yG,yH,yI,yJ,yK,yL,yM,yN,yO,yP,yQ,yR,yS,yT,yU,yV,yW,yX,yY,yZ,xB,xC,.slice pA m pc,.int .i64 (m:Int),fA,fC,fD,fE,fF,fG,fH,fI,fJ,fK,fL,fM,fN,xS,xT,xU,xV,qC,qD,qE,qF,qG,qH,qI,qJ,qK,qL,qN,qO,qP,qQ,qR,qS,qT,qU],[]⟩
theorem R3I.mk {w5 wr:World} {B st mb t z m pc:Nat} {pA:Option Addr} {c0 c2 c3 c4 c5 c6 c7 c8 c9 qB qM qX jC jK jL jN jO jP jQ jR jS jT jU jV jW jX jY jZ zB zC zD zE zF zG zH zI zJ zK Xr zM zN zO zP zQ zR zS zT zU zV zW zX zY zZ yB yC yE yF yG yH yI yJ yK yL yM yN yO yP yQ yR yS yT yU yV yW yX yY yZ xB xC xS xT xU xV qC qD qE qF qG qH qI qJ qK qL qN qO qP qQ qR qS qT qU:Value} {pH fA fC fD fE fF fG fH fI fJ fK fL fM fN:Value} (h:∃(j s:Nat) (f:Int→Option Value),j≤m∧fA=.int .i64 (j:Int)∧StZ wr B st mb s t z f∧Kf (fun b=>b=st∨b=mb) w5 wr):R3I w5 B st mb t z m pc pA c0 c2 c3 c4 c5 c6 c7 c8 c9 qB qM qX jC jK jL jN jO jP jQ jR jS jT jU jV jW jX jY jZ zB zC zD zE zF zG zH zI zJ zK Xr zM zN zO zP zQ zR zS zT zU zV zW zX zY zZ yB yC yE yF yG yH yI yJ yK yL yM yN yO yP yQ yR yS yT yU yV yW yX yY yZ xB xC xS xT xU xV qC qD qE qF qG qH qI qJ qK qL qN qO qP qQ qR qS qT qU ⟨#[c0,.pointer (some ⟨st,0,none⟩),c2,c3,c4,c5,c6,c7,c8,c9,qB,qM,qX,jC,jK,jL,pH,jN,jO,jP,jQ,jR,jS,jT,jU,jV,jW,jX,jY,jZ,zB,zC,zD,zE,zF,zG,zH,zI,zJ,zK,Xr,zM,zN,zO,zP,zQ,zR,zS,zT,zU,zV,zW,zX,zY,zZ,yB,yC,yE,yF,yG,yH,yI,yJ,yK,yL,yM,yN,yO,yP,yQ,yR,yS,yT,yU,yV,yW,yX,yY,yZ,xB,xC,.slice pA m pc,.int .i64 (m:Int),fA,fC,fD,fE,fF,fG,fH,fI,fJ,fK,fL,fM,fN,xS,xT,xU,xV,qC,qD,qE,qF,qG,qH,qI,qJ,qK,qL,qN,qO,qP,qQ,qR,qS,qT,qU],[]⟩ wr:=⟨pH,fA,fC,fD,fE,fF,fG,fH,fI,fJ,fK,fL,fM,fN,h,rfl⟩
def bAe (m:Nat) (a:Act) (_:World):Nat:=m - (intOf (a.tmps.getD 83 undef)).toNat
theorem aQc {st m pc:Nat} {pA:Option Addr} {w:World} {x:Int} {c0 c2 c3 c4 c5 c6 c7 c8 c9 qB qM qX jC jK jL jN jO jP jQ jR jS jT jU jV jW jX jY jZ zB zC zD zE zF zG zH zI zJ zK Xr zM zN zO zP zQ zR zS zT zU zV zW zX zY zZ yB yC yE yF yG yH yI yJ yK yL yM yN yO yP yQ yR yS yT yU yV yW yX yY yZ xB xC xS xT xU xV qC qD qE qF qG qH qI qJ qK qL qN qO qP qQ qR qS qT qU pH fC fD fE fF fG fH fI fJ fK fL fM fN:Value}:bAe m ⟨#[c0,.pointer (some ⟨st,0,none⟩),c2,c3,c4,c5,c6,c7,c8,c9,qB,qM,qX,jC,jK,jL,pH,jN,jO,jP,jQ,jR,jS,jT,jU,jV,jW,jX,jY,jZ,zB,zC,zD,zE,zF,zG,zH,zI,zJ,zK,Xr,zM,zN,zO,zP,zQ,zR,zS,zT,zU,zV,zW,zX,zY,zZ,yB,yC,yE,yF,yG,yH,yI,yJ,yK,yL,yM,yN,yO,yP,yQ,yR,yS,yT,yU,yV,yW,yX,yY,yZ,xB,xC,.slice pA m pc,.int .i64 (m:Int),.int .i64 x,fC,fD,fE,fF,fG,fH,fI,fJ,fK,fL,fM,fN,xS,xT,xU,xV,qC,qD,qE,qF,qG,qH,qI,qJ,qK,qL,qN,qO,qP,qQ,qR,qS,qT,qU],[]⟩ w=m - x.toNat:=rfl
theorem aVu {j m:Nat} (h:j<m) (hm:m≤1000):(j:Int)<(m:Int)∧(0:Int)≤(j:Int)∧wrap64 ((j:Int)+1)=(j:Int)+1:=⟨by omega,by omega,by unfold wrap64;omega⟩
theorem aVv (w5 wr:World) (B st mb s t z m pc j:Nat) (f:Int→Option Value) (pA:Option Addr) (ps:List Vd) (c0 c2 c3 c4 c5 c6 c7 c8 c9 qB qM qX jC jK jL jN jO jP jQ jR jS jT jU jV jW jX jY jZ zB zC zD zE zF zG zH zI zJ zK Xr zM zN zO zP zQ zR zS zT zU zV zW zX zY zZ yB yC yE yF yG yH yI yJ yK yL yM yN yO yP yQ yR yS yT yU yV yW yX yY yZ xB xC xS xT xU xV qC qD qE qF qG qH qI qJ qK qL qN qO qP qQ qR qS qT qU pH fC fD fE fF fG fH fI fJ fK fL fM fN:Value) (Q0:Exit→Act→World→Prop) (hpan:∀c a d v w,Q0 (.panic c) (Act.put a d v) w→Q0 (.panic c) a w)
  (h5:∀wr,Kf (fun b=>b=st∨b=mb) w5 wr→Uh wr pA m pc ps) (hpg:∀p∈ps,0≤p.lba∧p.lba<258∧p.n=40) (hm:m≤1000) (hz:z≠0) (hS:StZ wr B st mb s t z f) (hk:Kf (fun b=>b=st∨b=mb) w5 wr) (hlt:j<m) :
  Code.wp prog (aKg Tryz.f79 0 0 0) (Exit.then (fun a' w''=>R3I w5 B st mb t z m pc pA c0 c2 c3 c4 c5 c6 c7 c8 c9 qB qM qX jC jK jL jN jO jP jQ jR jS jT jU jV jW jX jY jZ zB zC zD zE zF zG zH zI zJ zK Xr zM zN zO zP zQ zR zS zT zU zV zW zX zY zZ yB yC yE yF yG yH yI yJ yK yL yM yN yO yP yQ yR yS yT yU yV yW yX yY yZ xB xC xS xT xU xV qC qD qE qF qG qH qI qJ qK qL qN qO qP qQ qR qS qT qU a' w''∧bAe m a' w'' <bAe m ⟨#[c0,.pointer (some ⟨st,0,none⟩),c2,c3,c4,c5,c6,c7,c8,c9,qB,qM,qX,jC,jK,jL,pH,jN,jO,jP,jQ,jR,jS,jT,jU,jV,jW,jX,jY,jZ,zB,zC,zD,zE,zF,zG,zH,zI,zJ,zK,Xr,zM,zN,zO,zP,zQ,zR,zS,zT,zU,zV,zW,zX,zY,zZ,yB,yC,yE,yF,yG,yH,yI,yJ,yK,yL,yM,yN,yO,yP,yQ,yR,yS,yT,yU,yV,yW,yX,yY,yZ,xB,xC,.slice pA m pc,.int .i64 (m:Int),.int .i64 (j:Int),fC,fD,fE,fF,fG,fH,fI,fJ,fK,fL,fM,fN,xS,xT,xU,xV,qC,qD,qE,qF,qG,qH,qI,qJ,qK,qL,qN,qO,qP,qQ,qR,qS,qT,qU],[]⟩ wr) Q0) ⟨#[c0,.pointer (some ⟨st,0,none⟩),c2,c3,c4,c5,c6,c7,c8,c9,qB,qM,qX,jC,jK,jL,pH,jN,jO,jP,jQ,jR,jS,jT,jU,jV,jW,jX,jY,jZ,zB,zC,zD,zE,zF,zG,zH,zI,zJ,zK,Xr,zM,zN,zO,zP,zQ,zR,zS,zT,zU,zV,zW,zX,zY,zZ,yB,yC,yE,yF,yG,yH,yI,yJ,yK,yL,yM,yN,yO,yP,yQ,yR,yS,yT,yU,yV,yW,yX,yY,yZ,xB,xC,.slice pA m pc,.int .i64 (m:Int),.int .i64 (j:Int),fC,fD,fE,fF,fG,fH,fI,fJ,fK,fL,fM,fN,xS,xT,xU,xV,qC,qD,qE,qF,qG,qH,qI,qJ,qK,qL,qN,qO,qP,qQ,qR,qS,qT,qU],[]⟩ wr:=by
 have hp:=h5 wr hk;have hl:=hp.len;have hr:=hp.rd;obtain⟨x,hpx⟩:=nC (ps[j]'(by omega));have hmx:x∈ps:=by rw[←hpx];exact rC _
 obtain⟨adx,eAx,hadx,e0,e1⟩:=Vk Vy (hr) (k:=j) (by omega) (u:=.int .i64 x.lba) (v:=.slice x.A x.n x.c) (by rw[hpx];rfl);obtain⟨n1,n2,m2⟩:=aVu hlt hm;have hy:=hp.y x hmx;have hx:=hpg x hmx;obtain⟨lb,xA,xn,xc,xb⟩:=x;obtain⟨hx0,hx1,hx2⟩:=hx;have hx2:xn=40:=hx2;subst hx2;obtain⟨hvw,hv2,hv3⟩:=aVe (x:=lb) ⟨hx0,hx1⟩;obtain⟨w8,hw8⟩:=nC (wr.alloc (.cells #[.int .i64 lb,.slice xA 40 xc] 50));have hB8:Bk w8 wr.heap.size 50 [.int .i64 lb,.slice xA 40 xc]:=by rw[←hw8];exact Bk.new wr _ _
 have hb8:nD wr w8:=by rw[←hw8];exact nB.alloc lR _
 obtain⟨d0,d1⟩:=hB8.c2;have HW:=nF hS hk;have HK:=nI hlt (show 0≤lb∧lb<258 from⟨hx0,hx1⟩) hz trivial;have HY:=hid hy;have KK:=hid (fun (w':World) (hS':nD w8 w')=>nT ((hS.bx.next (hb8.trans (hS'.mono hb8.size)) hS.bx.lt).cell (i:=1) (by simp)) ((hB8.next hS' hB8.lt).cell (i:=0) (by simp)) ((hB8.next hS' hB8.lt).cell (i:=1) (by simp)));simp only[tI,tJ] at KK;subst eAx;clear hpx hmx hr hp hS hk hB8 hy hlt hz hx0 hx1 h5 hpg hm;conv=>arg 2;whnf
 go_wp2_with fail
 have Kq:=KK;refine aAn (fun w'=>nD w8 w') 8 (by kernel_rfl) (Xu nB) (fun nE=>?_);refine kL 0 ?_;refine kL 1 ?_;refine kL 2 ?_;refine kL 3 ?_;refine kL 4 ?_;refine kL 5 ?_;refine kL 6 ?_;refine kL 7 ?_;refine rL 8 (fun K hK=>?_);refine aDc _ _ _ _ 157 rfl 3 41 Uy Ug aGz mb s f (by rfl) (by exact(HW.o.1.next (hb8.trans (nE.mono hb8.size))).im) (by have:=HW.o.1.size;omega) lb (.slice xA 40 xc) (by rfl) (by rfl) hvw ?_;intro w9 hI9 hG9;have HP:=hid (HW.o.1.put HK.o.2.1 HK.o.2.2.1 (hb8.trans (nE.mono hb8.size)) (HY.o.ag (F:=fun _=>False) (.of_below (hb8.trans (nE.mono hb8.size)))) hI9 hG9);have HF:=hid ((HW.o.2.trans (Kf.of_below (F:=fun _=>False) (hb8.trans (nE.mono hb8.size))) (fun b q=>q.elim)).trans (aDa (HW.o.1.next (hb8.trans (nE.mono hb8.size))).im hG9) (fun b q=>.inl (.inr q)));clear hI9 hG9;try go_simp
 refine hK.out _ _ (fun h=>absurd rfl h) ?_;clear hK K;try simp only[Act.put,tC,tD,tE]
 refine aAz (by kernel_rfl) ?_ _;clear Kq;clear d0 d1 e0 e1;go_wp2_with fail
 refine⟨?_,?_⟩
 · refine R3I.mk ?_;exact⟨j+1,_,_,HK.o.1,Va (by first|rfl|exact m2),HP.o.1,HF.o⟩
 · rw[aQc,aQc];exact Xw HK.o.1 (by first|rfl|exact m2)
theorem bEq (st m pc j:Nat) (pA:Option Addr) (w'':World) (c0 c2 c3 c4 c5 c6 c7 c8 c9 qB qM qX jC jK jL jN jO jP jQ jR jS jT jU jV jW jX jY jZ zB zC zD zE zF zG zH zI zJ zK Xr zM zN zO zP zQ zR zS zT zU zV zW zX zY zZ yB yC yE yF yG yH yI yJ yK yL yM yN yO yP yQ yR yS yT yU yV yW yX yY yZ xB xC xS xT xU xV qC qD qE qF qG qH qI qJ qK qL qN qO qP qQ qR qS qT qU pH fC fD fE fF fG fH fI fJ fK fL fM fN:Value) (Q:Exit→Act→World→Prop) (hj:j=m) (h:∀pH fA fC fD fE fF fG fH fI fJ fK fL fM fN:Value,Q (.exit 4) ⟨#[c0,.pointer (some ⟨st,0,none⟩),c2,c3,c4,c5,c6,c7,c8,c9,qB,qM,qX,jC,jK,jL,pH,jN,jO,jP,jQ,jR,jS,jT,jU,jV,jW,jX,jY,jZ,zB,zC,zD,zE,zF,zG,zH,zI,zJ,zK,Xr,zM,zN,zO,zP,zQ,zR,zS,zT,zU,zV,zW,zX,zY,zZ,yB,yC,yE,yF,yG,yH,yI,yJ,yK,yL,yM,yN,yO,yP,yQ,yR,yS,yT,yU,yV,yW,yX,yY,yZ,xB,xC,.slice pA m pc,.int .i64 (m:Int),fA,fC,fD,fE,fF,fG,fH,fI,fJ,fK,fL,fM,fN,xS,xT,xU,xV,qC,qD,qE,qF,qG,qH,qI,qJ,qK,qL,qN,qO,qP,qQ,qR,qS,qT,qU],[]⟩ w'') :
  Code.wp prog (aKg Tryz.f79 0 0 0) Q ⟨#[c0,.pointer (some ⟨st,0,none⟩),c2,c3,c4,c5,c6,c7,c8,c9,qB,qM,qX,jC,jK,jL,pH,jN,jO,jP,jQ,jR,jS,jT,jU,jV,jW,jX,jY,jZ,zB,zC,zD,zE,zF,zG,zH,zI,zJ,zK,Xr,zM,zN,zO,zP,zQ,zR,zS,zT,zU,zV,zW,zX,zY,zZ,yB,yC,yE,yF,yG,yH,yI,yJ,yK,yL,yM,yN,yO,yP,yQ,yR,yS,yT,yU,yV,yW,yX,yY,yZ,xB,xC,.slice pA m pc,.int .i64 (m:Int),.int .i64 (j:Int),fC,fD,fE,fF,fG,fH,fI,fJ,fK,fL,fM,fN,xS,xT,xU,xV,qC,qD,qE,qF,qG,qH,qI,qJ,qK,qL,qN,qO,qP,qQ,qR,qS,qT,qU],[]⟩ w'':=by
 subst hj;have n0:¬(j:Int)<(j:Int):=Int.lt_irrefl _;conv=>arg 2;whnf
 go_wp2_with fail
 exact h _ _ _ _ _ _ _ _ _ _ _ _ _ _
theorem bAd (w5 wr:World) (B st mb t z m pc:Nat) (pA:Option Addr) (ps:List Vd) (c0 c2 c3 c4 c5 c6 c7 c8 c9 qB qM qX jC jK jL jN jO jP jQ jR jS jT jU jV jW jX jY jZ zB zC zD zE zF zG zH zI zJ zK Xr zM zN zO zP zQ zR zS zT zU zV zW zX zY zZ yB yC yE yF yG yH yI yJ yK yL yM yN yO yP yQ yR yS yT yU yV yW yX yY yZ xB xC xS xT xU xV qC qD qE qF qG qH qI qJ qK qL qN qO qP qQ qR qS qT qU pH fA fC fD fE fF fG fH fI fJ fK fL fM fN:Value) (Q0:Exit→Act→World→Prop) (hpan:∀c a d v w,Q0 (.panic c) (Act.put a d v) w→Q0 (.panic c) a w)
  (h5:∀wr,Kf (fun b=>b=st∨b=mb) w5 wr→Uh wr pA m pc ps) (hpg:∀p∈ps,0≤p.lba∧p.lba<258∧p.n=40) (hm:m≤1000) (hz:z≠0)
  (h0:∃(j s:Nat) (f:Int→Option Value),j≤m∧fA=.int .i64 (j:Int)∧StZ wr B st mb s t z f∧Kf (fun b=>b=st∨b=mb) w5 wr)
  (hexit:∀(pH fA fC fD fE fF fG fH fI fJ fK fL fM fN:Value) (w':World) (s:Nat) (f:Int→Option Value),StZ w' B st mb s t z f→Kf (fun b=>b=st∨b=mb) w5 w'→Q0 (.exit 4) ⟨#[c0,.pointer (some ⟨st,0,none⟩),c2,c3,c4,c5,c6,c7,c8,c9,qB,qM,qX,jC,jK,jL,pH,jN,jO,jP,jQ,jR,jS,jT,jU,jV,jW,jX,jY,jZ,zB,zC,zD,zE,zF,zG,zH,zI,zJ,zK,Xr,zM,zN,zO,zP,zQ,zR,zS,zT,zU,zV,zW,zX,zY,zZ,yB,yC,yE,yF,yG,yH,yI,yJ,yK,yL,yM,yN,yO,yP,yQ,yR,yS,yT,yU,yV,yW,yX,yY,yZ,xB,xC,.slice pA m pc,.int .i64 (m:Int),fA,fC,fD,fE,fF,fG,fH,fI,fJ,fK,fL,fM,fN,xS,xT,xU,xV,qC,qD,qE,qF,qG,qH,qI,qJ,qK,qL,qN,qO,qP,qQ,qR,qS,qT,qU],[]⟩ w') :
  Code.wp prog (Code.loop (aKg Tryz.f79 0 0 0)) Q0 ⟨#[c0,.pointer (some ⟨st,0,none⟩),c2,c3,c4,c5,c6,c7,c8,c9,qB,qM,qX,jC,jK,jL,pH,jN,jO,jP,jQ,jR,jS,jT,jU,jV,jW,jX,jY,jZ,zB,zC,zD,zE,zF,zG,zH,zI,zJ,zK,Xr,zM,zN,zO,zP,zQ,zR,zS,zT,zU,zV,zW,zX,zY,zZ,yB,yC,yE,yF,yG,yH,yI,yJ,yK,yL,yM,yN,yO,yP,yQ,yR,yS,yT,yU,yV,yW,yX,yY,yZ,xB,xC,.slice pA m pc,.int .i64 (m:Int),fA,fC,fD,fE,fF,fG,fH,fI,fJ,fK,fL,fM,fN,xS,xT,xU,xV,qC,qD,qE,qF,qG,qH,qI,qJ,qK,qL,qN,qO,qP,qQ,qR,qS,qT,qU],[]⟩ wr:=by
 refine wp_loop (R3I w5 B st mb t z m pc pA c0 c2 c3 c4 c5 c6 c7 c8 c9 qB qM qX jC jK jL jN jO jP jQ jR jS jT jU jV jW jX jY jZ zB zC zD zE zF zG zH zI zJ zK Xr zM zN zO zP zQ zR zS zT zU zV zW zX zY zZ yB yC yE yF yG yH yI yJ yK yL yM yN yO yP yQ yR yS yT yU yV yW yX yY yZ xB xC xS xT xU xV qC qD qE qF qG qH qI qJ qK qL qN qO qP qQ qR qS qT qU) (bAe m) (R3I.mk h0) (fun a w'' hI=>?_);unfold R3I at hI;obtain⟨dB,mI,mJ,mL,mM,mN,mO,mP,mQ,mR,mT,mU,mV,mW,hI⟩:=hI;obtain⟨⟨j,s,f,hj,e83,hS,hk⟩,rfl⟩:=hI;subst e83;rcases tN j m with hlt|hge
 · exact aVv w5 w'' B st mb s t z m pc j f pA ps _ _ _ _ _ _ _ _ _ _ _ _ _ _ _ _ _ _ _ _ _ _ _ _ _ _ _ _ _ _ _ _ _ _ _ _ _ _ _ _ _ _ _ _ _ _ _ _ _ _ _ _ _ _ _ _ _ _ _ _ _ _ _ _ _ _ _ _ _ _ _ _ _ _ _ _ _ _ _ _ _ _ _ _ _ _ _ _ _ _ _ _ _ _ _ _ _ _ _ _ _ _ _ _ _ _ _ _ _ _ _ _ _ _ Q0 hpan h5 hpg hm hz hS hk hlt
 · exact bEq st m pc j pA w'' _ _ _ _ _ _ _ _ _ _ _ _ _ _ _ _ _ _ _ _ _ _ _ _ _ _ _ _ _ _ _ _ _ _ _ _ _ _ _ _ _ _ _ _ _ _ _ _ _ _ _ _ _ _ _ _ _ _ _ _ _ _ _ _ _ _ _ _ _ _ _ _ _ _ _ _ _ _ _ _ _ _ _ _ _ _ _ _ _ _ _ _ _ _ _ _ _ _ _ _ _ _ _ _ _ _ _ _ _ _ _ _ _ _ _ (tQ hj hge) (fun pH fA fC fD fE fF fG fH fI fJ fK fL fM fN=>hexit pH fA fC fD fE fF fG fH fI fJ fK fL fM fN w'' s f hS hk)
theorem bBn {w w':World} {g t st mb:Nat} {cs:List Value} (h:Bk w g t cs) (k:Kf (fun b=>b=st∨b=mb) w w') (h1:g≠st) (h2:g≠mb):Bk w' g t cs:=k.keep _ _ h (.inl (fun q=>q.elim h1 h2))
theorem StZ.lts {w:World} {B st mb s t z:Nat} {f:Int→Option Value} (h:StZ w B st mb s t z f):st<w.heap.size∧mb<w.heap.size:=by
 obtain⟨es,cl,hm⟩:=h.im.at_;exact⟨h.bx.lt,aKh hm⟩
def R2I (w4:World) (B st mb T tn tc:Nat) (tA:Option Addr) (c0 c2 c3 c4 c5 c6 c7 c8 c9 qB qM qX jC jL jN jO jP jQ jR jS jT jU jV jW jX jY jZ zB zC zD zE zF zG zH zI zJ zK Xr zM zN zO zP zQ zR zS zT zU zV zW zX zY zZ yB yC yE yF yG yH yI yJ yK yL yM yN yO yP yQ yR yS yT yU qE qF qG qH qI qJ qK qL qN qO qP qQ qR qS qT qU:Value) (a:Act) (wr:World):Prop :=
 ∃pF pH gT gU gV gW gX gY gZ fA fC fD fE fF fG fH fI fJ fK fL fM fN fO fP fQ fR xX xY:Value,(∃(i s t:Nat) (f:Int→Option Value),i≤tn∧gT=.int .i64 (i:Int)∧StZ wr B st mb s t 1 f∧Kf (fun b=>b=st∨b=mb) w4 wr∧t≤T∧(0<i→t≠0))∧a=⟨#[c0,.pointer (some ⟨st,0,none⟩),c2,c3,c4,c5,c6,c7,c8,c9,qB,qM,qX,jC,pF,jL,pH,jN,jO,jP,jQ,jR,jS,jT,jU,jV,jW,jX,jY,jZ,zB,zC,zD,zE,zF,zG,zH,zI,zJ,zK,Xr,zM,zN,zO,zP,zQ,zR,zS,zT,zU,zV,zW,zX,zY,zZ,yB,yC,yE,yF,yG,yH,yI,yJ,yK,yL,yM,yN,yO,yP,yQ,yR,yS,yT,yU,.slice tA tn tc,.int .i64 (tn:Int),gT,gU,gV,gW,gX,gY,gZ,fA,fC,fD,fE,fF,fG,fH,fI,fJ,fK,fL,fM,fN,fO,fP,fQ,fR,xX,xY,qE,qF,qG,qH,qI,qJ,qK,qL,qN,qO,qP,qQ,qR,qS,qT,qU],[]⟩
theorem R2I.mk {w4 wr:World} {B st mb T tn tc:Nat} {tA:Option Addr} {c0 c2 c3 c4 c5 c6 c7 c8 c9 qB qM qX jC jL jN jO jP jQ jR jS jT jU jV jW jX jY jZ zB zC zD zE zF zG zH zI zJ zK Xr zM zN zO zP zQ zR zS zT zU zV zW zX zY zZ yB yC yE yF yG yH yI yJ yK yL yM yN yO yP yQ yR yS yT yU qE qF qG qH qI qJ qK qL qN qO qP qQ qR qS qT qU:Value} {pF pH gT gU gV gW gX gY gZ fA fC fD fE fF fG fH fI fJ fK fL fM fN fO fP fQ fR xX xY:Value} (h:∃(i s t:Nat) (f:Int→Option Value),i≤tn∧gT=.int .i64 (i:Int)∧StZ wr B st mb s t 1 f∧Kf (fun b=>b=st∨b=mb) w4 wr∧t≤T∧(0<i→t≠0)):R2I w4 B st mb T tn tc tA c0 c2 c3 c4 c5 c6 c7 c8 c9 qB qM qX jC jL jN jO jP jQ jR jS jT jU jV jW jX jY jZ zB zC zD zE zF zG zH zI zJ zK Xr zM zN zO zP zQ zR zS zT zU zV zW zX zY zZ yB yC yE yF yG yH yI yJ yK yL yM yN yO yP yQ yR yS yT yU qE qF qG qH qI qJ qK qL qN qO qP qQ qR qS qT qU ⟨#[c0,.pointer (some ⟨st,0,none⟩),c2,c3,c4,c5,c6,c7,c8,c9,qB,qM,qX,jC,pF,jL,pH,jN,jO,jP,jQ,jR,jS,jT,jU,jV,jW,jX,jY,jZ,zB,zC,zD,zE,zF,zG,zH,zI,zJ,zK,Xr,zM,zN,zO,zP,zQ,zR,zS,zT,zU,zV,zW,zX,zY,zZ,yB,yC,yE,yF,yG,yH,yI,yJ,yK,yL,yM,yN,yO,yP,yQ,yR,yS,yT,yU,.slice tA tn tc,.int .i64 (tn:Int),gT,gU,gV,gW,gX,gY,gZ,fA,fC,fD,fE,fF,fG,fH,fI,fJ,fK,fL,fM,fN,fO,fP,fQ,fR,xX,xY,qE,qF,qG,qH,qI,qJ,qK,qL,qN,qO,qP,qQ,qR,qS,qT,qU],[]⟩ wr:=⟨pF,pH,gT,gU,gV,gW,gX,gY,gZ,fA,fC,fD,fE,fF,fG,fH,fI,fJ,fK,fL,fM,fN,fO,fP,fQ,fR,xX,xY,h,rfl⟩
def bAc (m:Nat) (a:Act) (_:World):Nat:=m - (intOf (a.tmps.getD 76 undef)).toNat
theorem aQb {st tn tc:Nat} {tA:Option Addr} {w:World} {x:Int} {c0 c2 c3 c4 c5 c6 c7 c8 c9 qB qM qX jC jL jN jO jP jQ jR jS jT jU jV jW jX jY jZ zB zC zD zE zF zG zH zI zJ zK Xr zM zN zO zP zQ zR zS zT zU zV zW zX zY zZ yB yC yE yF yG yH yI yJ yK yL yM yN yO yP yQ yR yS yT yU qE qF qG qH qI qJ qK qL qN qO qP qQ qR qS qT qU pF pH gU gV gW gX gY gZ fA fC fD fE fF fG fH fI fJ fK fL fM fN fO fP fQ fR xX xY:Value}:bAc tn ⟨#[c0,.pointer (some ⟨st,0,none⟩),c2,c3,c4,c5,c6,c7,c8,c9,qB,qM,qX,jC,pF,jL,pH,jN,jO,jP,jQ,jR,jS,jT,jU,jV,jW,jX,jY,jZ,zB,zC,zD,zE,zF,zG,zH,zI,zJ,zK,Xr,zM,zN,zO,zP,zQ,zR,zS,zT,zU,zV,zW,zX,zY,zZ,yB,yC,yE,yF,yG,yH,yI,yJ,yK,yL,yM,yN,yO,yP,yQ,yR,yS,yT,yU,.slice tA tn tc,.int .i64 (tn:Int),.int .i64 x,gU,gV,gW,gX,gY,gZ,fA,fC,fD,fE,fF,fG,fH,fI,fJ,fK,fL,fM,fN,fO,fP,fQ,fR,xX,xY,qE,qF,qG,qH,qI,qJ,qK,qL,qN,qO,qP,qQ,qR,qS,qT,qU],[]⟩ w=tn - x.toNat:=rfl
theorem aVt (w4 wr:World) (B Bt st mb s t T tn tc i:Nat) (f:Int→Option Value) (tA:Option Addr) (ts:List TxD) (c0 c2 c3 c4 c5 c6 c7 c8 c9 qB qM qX jC jL jN jO jP jQ jR jS jT jU jV jW jX jY jZ zB zC zD zE zF zG zH zI zJ zK Xr zM zN zO zP zQ zR zS zT zU zV zW zX zY zZ yB yC yE yF yG yH yI yJ yK yL yM yN yO yP yQ yR yS yT yU qE qF qG qH qI qJ qK qL qN qO qP qQ qR qS qT qU pF pH gU gV gW gX gY gZ fA fC fD fE fF fG fH fI fJ fK fL fM fN fO fP fQ fR xX xY:Value) (Q0:Exit→Act→World→Prop) (hpan:∀c a d v w,Q0 (.panic c) (Act.put a d v) w→Q0 (.panic c) a w)
  (h4:∀wr,Kf (fun b=>b=st∨b=mb) w4 wr→TsG Bt wr tA tn tc ts) (hok:∀t∈ts,(1≤t.time∧t.time≤(T:Int))∧t.n≤1000∧∀p∈t.ps,0≤p.lba∧p.lba<258∧p.n=40) (hn:tn≤1000) (hS:StZ wr B st mb s t 1 f) (hk:Kf (fun b=>b=st∨b=mb) w4 wr) (hlt:i<tn) :
  Code.wp prog (aBn Tryz.f79 0 0) (Exit.then (fun a' w''=>R2I w4 B st mb T tn tc tA c0 c2 c3 c4 c5 c6 c7 c8 c9 qB qM qX jC jL jN jO jP jQ jR jS jT jU jV jW jX jY jZ zB zC zD zE zF zG zH zI zJ zK Xr zM zN zO zP zQ zR zS zT zU zV zW zX zY zZ yB yC yE yF yG yH yI yJ yK yL yM yN yO yP yQ yR yS yT yU qE qF qG qH qI qJ qK qL qN qO qP qQ qR qS qT qU a' w''∧bAc tn a' w'' <bAc tn ⟨#[c0,.pointer (some ⟨st,0,none⟩),c2,c3,c4,c5,c6,c7,c8,c9,qB,qM,qX,jC,pF,jL,pH,jN,jO,jP,jQ,jR,jS,jT,jU,jV,jW,jX,jY,jZ,zB,zC,zD,zE,zF,zG,zH,zI,zJ,zK,Xr,zM,zN,zO,zP,zQ,zR,zS,zT,zU,zV,zW,zX,zY,zZ,yB,yC,yE,yF,yG,yH,yI,yJ,yK,yL,yM,yN,yO,yP,yQ,yR,yS,yT,yU,.slice tA tn tc,.int .i64 (tn:Int),.int .i64 (i:Int),gU,gV,gW,gX,gY,gZ,fA,fC,fD,fE,fF,fG,fH,fI,fJ,fK,fL,fM,fN,fO,fP,fQ,fR,xX,xY,qE,qF,qG,qH,qI,qJ,qK,qL,qN,qO,qP,qQ,qR,qS,qT,qU],[]⟩ wr) Q0) ⟨#[c0,.pointer (some ⟨st,0,none⟩),c2,c3,c4,c5,c6,c7,c8,c9,qB,qM,qX,jC,pF,jL,pH,jN,jO,jP,jQ,jR,jS,jT,jU,jV,jW,jX,jY,jZ,zB,zC,zD,zE,zF,zG,zH,zI,zJ,zK,Xr,zM,zN,zO,zP,zQ,zR,zS,zT,zU,zV,zW,zX,zY,zZ,yB,yC,yE,yF,yG,yH,yI,yJ,yK,yL,yM,yN,yO,yP,yQ,yR,yS,yT,yU,.slice tA tn tc,.int .i64 (tn:Int),.int .i64 (i:Int),gU,gV,gW,gX,gY,gZ,fA,fC,fD,fE,fF,fG,fH,fI,fJ,fK,fL,fM,fN,fO,fP,fQ,fR,xX,xY,qE,qF,qG,qH,qI,qJ,qK,qL,qN,qO,qP,qQ,qR,qS,qT,qU],[]⟩ wr:=by
 have hG:=h4 wr hk;have hl:=hG.len;have hr:=hG.out.rd;obtain⟨x,hpx⟩:=nC (ts[i]'(by omega));have hmx:x∈ts:=by rw[←hpx];exact rC _
 obtain⟨adx,eAx,hadx,e0,e1⟩:=Vk aAu (hr) (k:=i) (by omega) (u:=.int .i64 x.time) (v:=.slice x.A x.n x.c) (by rw[hpx];rfl);obtain⟨n1,n2,m2⟩:=aVu hlt hn;have hx:=hok x hmx;have hp:=hG.y x hmx;have hpt:=hG.pt x hmx;obtain⟨tm,xA,xn,xc,ps⟩:=x;obtain⟨⟨hx0,hx1⟩,hx2,hx3⟩:=hx;obtain⟨u,rfl⟩:∃u:Nat,tm=(u:Int):=Int.eq_ofNat_of_zero_le (Int.le_trans (by decide) hx0)
 obtain⟨w5,hw5⟩:=nC (wr.alloc (.cells #[.int .i64 (u:Int),.slice xA xn xc] 196));have hB5:Bk w5 wr.heap.size 196 [.int .i64 (u:Int),.slice xA xn xc]:=by rw[←hw5];exact Bk.new wr _ _
 have hb5:nD wr w5:=by rw[←hw5];exact nB.alloc lR _
 obtain⟨d0,d1⟩:=hB5.c2;have hS5:=hS.next hb5;have hne:=hS.lts;have HS:=nH hS5 (show Uh w5 xA xn xc ps from hp.next hb5) (show PtB w5 xA from hpt.next hb5);have HK:=nI hlt hk hb5 (show u≤T∧u≠0 from⟨Int.ofNat_le.1 hx1,fun q=>by subst q;exact absurd (show (1:Int)≤((0:Nat):Int) from hx0) (by decide)⟩);have HB5:=nH hB5 (Nat.ne_of_gt hne.1) (Nat.ne_of_gt hne.2);have HX:=nF hx2 hx3;subst eAx;clear hpx hmx hr hp hpt hS hk hB5 hlt hx0 hx1 hx2 hx3 h4 hok hn hG hS5 hne hb5;conv=>arg 2;whnf
 go_wp2_with fail
 refine bAd w5 w5 B st mb t 1 xn xc xA ps _ _ _ _ _ _ _ _ _ _ _ _ _ _ _ _ _ _ _ _ _ _ _ _ _ _ _ _ _ _ _ _ _ _ _ _ _ _ _ _ _ _ _ _ _ _ _ _ _ _ _ _ _ _ _ _ _ _ _ _ _ _ _ _ _ _ _ _ _ _ _ _ _ _ _ _ _ _ _ _ _ _ _ _ _ _ _ _ _ _ _ _ _ _ _ _ _ _ _ _ _ _ _ _ _ _ _ _ _ _ _ _ _ _ _ _ (fun c a d v w h=>hpan c a d v w h) (fun w' q=>(aOp HS.o.2.1 HS.o.2.2 HS.o.1 q).1) HX.o.2 HX.o.1 (by decide) ⟨0,s,f,zL,rfl,HS.o.1,Kf.refl _ _⟩ ?_;intro dB mI mJ mL mM mN mO mP mQ mR mT mU mV mW w6 s6 f6 hS6 hk6;have hB6:=bBn HB5.o.1 hk6 HB5.o.2.1 HB5.o.2.2;obtain⟨y0,y1⟩:=hB6.c2;obtain⟨z0,z1⟩:=hS6.bx.c2;have zf:=hS6.bx.free 0;obtain⟨w7,hw7⟩:=nC (w6.setCell ⟨st,0,none⟩ (.int .i64 (u:Int)));obtain⟨hS7,hk7⟩:=hS6.time (u:=u) hw7;have HE:=nF hS7 (((HK.o.2.1.trans (Kf.of_below (F:=fun _=>False) HK.o.2.2.1) (fun b q=>q.elim)).trans hk6 (fun b q=>.inl q)).trans hk7 (fun b q=>.inl (.inl q)));clear hB6 hS6 hk6 hS7 hk7 d0 d1;go_wp2_with fail
 refine⟨?_,?_⟩
 · refine R2I.mk ?_;exact⟨i+1,_,_,_,HK.o.1,Va (by first|rfl|exact m2),HE.o.1,HE.o.2,HK.o.2.2.2.1,fun _=>HK.o.2.2.2.2⟩
 · rw[aQb,aQb];exact Xw HK.o.1 (by first|rfl|exact m2)
theorem bEp (st tn tc i:Nat) (tA:Option Addr) (w'':World) (c0 c2 c3 c4 c5 c6 c7 c8 c9 qB qM qX jC jL jN jO jP jQ jR jS jT jU jV jW jX jY jZ zB zC zD zE zF zG zH zI zJ zK Xr zM zN zO zP zQ zR zS zT zU zV zW zX zY zZ yB yC yE yF yG yH yI yJ yK yL yM yN yO yP yQ yR yS yT yU qE qF qG qH qI qJ qK qL qN qO qP qQ qR qS qT qU pF pH gU gV gW gX gY gZ fA fC fD fE fF fG fH fI fJ fK fL fM fN fO fP fQ fR xX xY:Value) (Q:Exit→Act→World→Prop) (hj:i=tn) (h:∀pF pH gT gU gV gW gX gY gZ fA fC fD fE fF fG fH fI fJ fK fL fM fN fO fP fQ fR xX xY:Value,Q (.exit 2) ⟨#[c0,.pointer (some ⟨st,0,none⟩),c2,c3,c4,c5,c6,c7,c8,c9,qB,qM,qX,jC,pF,jL,pH,jN,jO,jP,jQ,jR,jS,jT,jU,jV,jW,jX,jY,jZ,zB,zC,zD,zE,zF,zG,zH,zI,zJ,zK,Xr,zM,zN,zO,zP,zQ,zR,zS,zT,zU,zV,zW,zX,zY,zZ,yB,yC,yE,yF,yG,yH,yI,yJ,yK,yL,yM,yN,yO,yP,yQ,yR,yS,yT,yU,.slice tA tn tc,.int .i64 (tn:Int),gT,gU,gV,gW,gX,gY,gZ,fA,fC,fD,fE,fF,fG,fH,fI,fJ,fK,fL,fM,fN,fO,fP,fQ,fR,xX,xY,qE,qF,qG,qH,qI,qJ,qK,qL,qN,qO,qP,qQ,qR,qS,qT,qU],[]⟩ w'') :
  Code.wp prog (aBn Tryz.f79 0 0) Q ⟨#[c0,.pointer (some ⟨st,0,none⟩),c2,c3,c4,c5,c6,c7,c8,c9,qB,qM,qX,jC,pF,jL,pH,jN,jO,jP,jQ,jR,jS,jT,jU,jV,jW,jX,jY,jZ,zB,zC,zD,zE,zF,zG,zH,zI,zJ,zK,Xr,zM,zN,zO,zP,zQ,zR,zS,zT,zU,zV,zW,zX,zY,zZ,yB,yC,yE,yF,yG,yH,yI,yJ,yK,yL,yM,yN,yO,yP,yQ,yR,yS,yT,yU,.slice tA tn tc,.int .i64 (tn:Int),.int .i64 (i:Int),gU,gV,gW,gX,gY,gZ,fA,fC,fD,fE,fF,fG,fH,fI,fJ,fK,fL,fM,fN,fO,fP,fQ,fR,xX,xY,qE,qF,qG,qH,qI,qJ,qK,qL,qN,qO,qP,qQ,qR,qS,qT,qU],[]⟩ w'':=by
 subst hj;have n0:¬(i:Int)<(i:Int):=Int.lt_irrefl _;conv=>arg 2;whnf
 go_wp2_with fail
 exact h _ _ _ _ _ _ _ _ _ _ _ _ _ _ _ _ _ _ _ _ _ _ _ _ _ _ _ _
theorem bAb (w4 wr:World) (B Bt st mb T tn tc:Nat) (tA:Option Addr) (ts:List TxD) (c0 c2 c3 c4 c5 c6 c7 c8 c9 qB qM qX jC jL jN jO jP jQ jR jS jT jU jV jW jX jY jZ zB zC zD zE zF zG zH zI zJ zK Xr zM zN zO zP zQ zR zS zT zU zV zW zX zY zZ yB yC yE yF yG yH yI yJ yK yL yM yN yO yP yQ yR yS yT yU qE qF qG qH qI qJ qK qL qN qO qP qQ qR qS qT qU pF pH gT gU gV gW gX gY gZ fA fC fD fE fF fG fH fI fJ fK fL fM fN fO fP fQ fR xX xY:Value) (Q0:Exit→Act→World→Prop) (hpan:∀c a d v w,Q0 (.panic c) (Act.put a d v) w→Q0 (.panic c) a w)
  (h4:∀wr,Kf (fun b=>b=st∨b=mb) w4 wr→TsG Bt wr tA tn tc ts) (hok:∀t∈ts,(1≤t.time∧t.time≤(T:Int))∧t.n≤1000∧∀p∈t.ps,0≤p.lba∧p.lba<258∧p.n=40) (hn:tn≤1000) (h1:0<tn)
  (h0:∃(i s t:Nat) (f:Int→Option Value),i≤tn∧gT=.int .i64 (i:Int)∧StZ wr B st mb s t 1 f∧Kf (fun b=>b=st∨b=mb) w4 wr∧t≤T∧(0<i→t≠0))
  (hexit:∀(pF pH gT gU gV gW gX gY gZ fA fC fD fE fF fG fH fI fJ fK fL fM fN fO fP fQ fR xX xY:Value) (w':World) (s t:Nat) (f:Int→Option Value),StX w' B st mb s t f→Kf (fun b=>b=st∨b=mb) w4 w'→t≤T→Q0 (.exit 2) ⟨#[c0,.pointer (some ⟨st,0,none⟩),c2,c3,c4,c5,c6,c7,c8,c9,qB,qM,qX,jC,pF,jL,pH,jN,jO,jP,jQ,jR,jS,jT,jU,jV,jW,jX,jY,jZ,zB,zC,zD,zE,zF,zG,zH,zI,zJ,zK,Xr,zM,zN,zO,zP,zQ,zR,zS,zT,zU,zV,zW,zX,zY,zZ,yB,yC,yE,yF,yG,yH,yI,yJ,yK,yL,yM,yN,yO,yP,yQ,yR,yS,yT,yU,.slice tA tn tc,.int .i64 (tn:Int),gT,gU,gV,gW,gX,gY,gZ,fA,fC,fD,fE,fF,fG,fH,fI,fJ,fK,fL,fM,fN,fO,fP,fQ,fR,xX,xY,qE,qF,qG,qH,qI,qJ,qK,qL,qN,qO,qP,qQ,qR,qS,qT,qU],[]⟩ w') :
  Code.wp prog (Code.loop (aBn Tryz.f79 0 0)) Q0 ⟨#[c0,.pointer (some ⟨st,0,none⟩),c2,c3,c4,c5,c6,c7,c8,c9,qB,qM,qX,jC,pF,jL,pH,jN,jO,jP,jQ,jR,jS,jT,jU,jV,jW,jX,jY,jZ,zB,zC,zD,zE,zF,zG,zH,zI,zJ,zK,Xr,zM,zN,zO,zP,zQ,zR,zS,zT,zU,zV,zW,zX,zY,zZ,yB,yC,yE,yF,yG,yH,yI,yJ,yK,yL,yM,yN,yO,yP,yQ,yR,yS,yT,yU,.slice tA tn tc,.int .i64 (tn:Int),gT,gU,gV,gW,gX,gY,gZ,fA,fC,fD,fE,fF,fG,fH,fI,fJ,fK,fL,fM,fN,fO,fP,fQ,fR,xX,xY,qE,qF,qG,qH,qI,qJ,qK,qL,qN,qO,qP,qQ,qR,qS,qT,qU],[]⟩ wr:=by
 refine wp_loop (R2I w4 B st mb T tn tc tA c0 c2 c3 c4 c5 c6 c7 c8 c9 qB qM qX jC jL jN jO jP jQ jR jS jT jU jV jW jX jY jZ zB zC zD zE zF zG zH zI zJ zK Xr zM zN zO zP zQ zR zS zT zU zV zW zX zY zZ yB yC yE yF yG yH yI yJ yK yL yM yN yO yP yQ yR yS yT yU qE qF qG qH qI qJ qK qL qN qO qP qQ qR qS qT qU) (bAc tn) (R2I.mk h0) (fun a w'' hI=>?_);unfold R2I at hI;obtain⟨bZ,dB,v76,v77,mD,mE,mF,mG,mH,mI,mJ,mL,mM,mN,mO,mP,mQ,mR,mT,mU,mV,mW,mX,mY,mZ,tB,fT,fU,hI⟩:=hI;obtain⟨⟨i,s,t,f,hj,e76,hS,hk,ht,hz⟩,rfl⟩:=hI;subst e76;rcases tN i tn with hlt|hge
 · exact aVt w4 w'' B Bt st mb s t T tn tc i f tA ts _ _ _ _ _ _ _ _ _ _ _ _ _ _ _ _ _ _ _ _ _ _ _ _ _ _ _ _ _ _ _ _ _ _ _ _ _ _ _ _ _ _ _ _ _ _ _ _ _ _ _ _ _ _ _ _ _ _ _ _ _ _ _ _ _ _ _ _ _ _ _ _ _ _ _ _ _ _ _ _ _ _ _ _ _ _ _ _ _ _ _ _ _ _ _ _ _ _ _ _ _ _ _ _ _ _ _ _ _ _ _ _ _ _ Q0 hpan h4 hok hn hS hk hlt
 · have e:=tQ hj hge;exact bEp st tn tc i tA w'' _ _ _ _ _ _ _ _ _ _ _ _ _ _ _ _ _ _ _ _ _ _ _ _ _ _ _ _ _ _ _ _ _ _ _ _ _ _ _ _ _ _ _ _ _ _ _ _ _ _ _ _ _ _ _ _ _ _ _ _ _ _ _ _ _ _ _ _ _ _ _ _ _ _ _ _ _ _ _ _ _ _ _ _ _ _ _ _ _ _ _ _ _ _ _ _ _ _ _ _ _ _ _ _ _ _ _ _ _ _ _ _ _ _ _ e (fun pF pH gT gU gV gW gX gY gZ fA fC fD fE fF fG fH fI fJ fK fL fM fN fO fP fQ fR xX xY=>hexit pF pH gT gU gV gW gX gY gZ fA fC fD fE fF fG fH fI fJ fK fL fM fN fO fP fQ fR xX xY w'' s t f (hS.up (fun q=>absurd q (hz (by rw[e];exact h1)))) hk ht)
def aFg (gd gs pos num:Nat):List Value:=[.pointer (some ⟨gd,0,none⟩),.int .i64 0,.int .i64 3,.int .i64 6,.int .i64 7,.pointer none,.pointer (some ⟨gs,0,none⟩),.int .i64 (pos:Int),.int .i64 (num:Int),.bool false]
theorem TsG.kf2 {B B':Nat} {w w':World} {A:Option Addr} {n c st mb s t z:Nat} {ts:List TxD} {f:Int→Option Value} (h:TsG B w A n c ts) (hs:StZ w B' st mb s t z f) (k:Kf (fun b=>b=st∨b=mb) w w'):TsG B w' A n c ts :=
 ⟨Vj (F:=fun b=>¬(b=st∨b=mb)) h.own (k.ag (fun b q r=>q r)) (fun g q r=>by
  obtain⟨cs,fr,hh⟩:=Vx h.own q;rcases r with r|r
  · rw[r] at hh;exact absurd (aAp hh hs.bx) (by decide)
  · obtain⟨es,cl,hm⟩:=hs.im.at_;rw[r,hm] at hh;cases hh),h.len,fun x hx=>(aOp (h.y x hx) (h.pt x hx) hs k).1,fun x hx=>(aOp (h.y x hx) (h.pt x hx) hs k).2⟩
theorem aCk.from_ {w:World} {ad:Addr} {n c:Nat} {xs:List BR} (h:aCk w (some ad) n c xs) {j:Nat} (hj:j≤n) {A':Option Addr} (hA:A'=if c=j then some ad else some (ad.add j)):aCk w A' (n - j) (c - j) (xs.drop j):=by
 subst hA;have hl:=h.len;have hcap:=h.cap;have hd:=h.rd.drop (k:=j) (c:=c) (n:=n) (by rw[rU];omega) hj hcap;refine⟨?_,by rw[rN];omega,fun x hx=>h.y x (rS hx),by omega,by have:=h.big;omega,by have:=h.sm;omega⟩;rw[List.map_drop];exact hd
structure RpX (w wr:World) (B st mb sb gd gs pos num s t:Nat) (f:Int→Option Value):Prop where
 x:StX wr B st mb s t f
 b:Bk wr sb 99 (aFg gd gs pos num)
 k:Kf (fun b=>b=sb∨b=st∨b=mb) w wr
section
variable {w wr w' w9:World} {B st mb sb gd gs pos num s t s' t':Nat} {f f':Int→Option Value}
theorem RpX.ne (h:RpX w wr B st mb sb gd gs pos num s t f):sb≠st∧sb≠mb:=by
 refine⟨fun q=>?_,fun q=>?_⟩
 · have hb:=h.b;rw[q] at hb;exact absurd (aAp hb h.x.bx) (by decide)
 · obtain⟨es,cl,hm⟩:=h.x.im.at_;have hb:=h.b;unfold Bk at hb;rw[q,hm] at hb;cases hb
theorem RpX.next (h:RpX w wr B st mb sb gd gs pos num s t f) (hb:nD wr w'):RpX w w' B st mb sb gd gs pos num s t f:=⟨h.x.next hb,h.b.next hb h.b.lt,h.k.trans (Kf.of_below (F:=fun _=>False) hb) (fun b q=>q.elim)⟩
theorem RpX.inner (h:RpX w wr B st mb sb gd gs pos num s t f) (hx:StX w' B st mb s' t' f') (k:Kf (fun b=>b=st∨b=mb) wr w'):RpX w w' B st mb sb gd gs pos num s' t' f':=⟨hx,bBn h.b k h.ne.1 h.ne.2,h.k.trans k (fun b q=>.inl (.inr q))⟩
theorem RpX.step (h:RpX w wr B st mb sb gd gs pos num s t f) (pos' num':Nat) (e:(wr.setCell ⟨sb,7,none⟩ (.int .i64 (pos':Int))).setCell ⟨sb,8,none⟩ (.int .i64 (num':Int))=w9):RpX w w9 B st mb sb gd gs pos' num' s t f:=by
 have k:Kf (fun b=>b=sb) wr w9:=by rw[←e];exact((Kf.refl (fun b=>b=sb) wr).set h.b (by decide) (.inl rfl) 7 _).set (h.b.set 7 _) (by decide) (.inl rfl) 8 _
 refine⟨h.x.ag (k.ag (fun b q r=>by
  have r:b=sb:=r;rcases q with q|q
  · exact h.ne.1 (r.symm.trans q)
  · exact h.ne.2 (r.symm.trans q))),?_,h.k.trans k (fun b q=>.inl (.inl q))⟩
 rw[←e];exact(h.b.set 7 (.int .i64 (pos':Int))).set 8 (.int .i64 (num':Int))
end
theorem aCb {w:World} {sb gd gs pos num:Nat} (h:Bk w sb 99 (aFg gd gs pos num)):w.cell? ⟨sb,6,none⟩=some (.pointer (some ⟨gs,0,none⟩))∧w.cell? ⟨sb,7,none⟩=some (.int .i64 (pos:Int))∧w.cell? ⟨sb,8,none⟩=some (.int .i64 (num:Int)):=⟨Bk.at' h rfl,Bk.at' h rfl,Bk.at' h rfl⟩
theorem bEt {pos n:Nat} (h:pos<n) (hn:n≤1000):(pos:Int)<(n:Int)∧(0:Int)≤(pos:Int)∧(pos:Int)≤(n:Int)∧¬n≤pos:=⟨by omega,by omega,by omega,by omega⟩
theorem bAj {k:Nat} (h:k≤1000):wrap64 ((k:Int)+1)=(k:Int)+1∧IntKind.i64.wrap ((k:Int)+1)=(k:Int)+1:=⟨by unfold wrap64;omega,IntWalk.i64_in _ (by omega)⟩
theorem bEu {m pos n:Nat} (h:m+1≤n - pos) (h1:pos<n) (hn:n≤1000):wrap64 ((pos:Int)+((m:Int)+1))=(pos:Int)+((m:Int)+1)∧IntKind.i64.wrap ((pos:Int)+((m:Int)+1))=(pos:Int)+((m:Int)+1)∧pos+(m+1)≤n:=⟨by unfold wrap64;omega,IntWalk.i64_in _ (by omega),by omega⟩
theorem bGx {num pos m:Nat} (h:num≤pos):num+1≤pos+(m+1):=by omega
theorem bAi {n pos m:Nat} (h:pos<n):n - (pos+(m+1))<n - pos:=by omega
def rpR (T B st mb sb gd gs n:Nat) (w w':World) (e:Ending):Prop:=∃b pos num s t f,e=.returned (.bool b)∧pos≤n∧num≤pos∧t≤T∧(b=false→pos=n)∧RpX w w' B st mb sb gd gs pos num s t f
theorem aVw (T:Nat) (B st mb sb gd gs s t:Nat) (f:Int→Option Value) (A:Option Addr) (n c:Nat) (xs:List BR) (inn:Int) (v:Value) (tb:List Int) (count:Nat) (w:World) (h:RpX w w B st mb sb gd gs 0 0 s t f) (hsl:Uz w gd gs inn v tb count) (hrow:∀w',Kf (fun b=>b=sb∨b=st∨b=mb) w w'→aCk w' A n c xs) (hlg:∀x∈xs,aDi T x.bs) (ht:t≤T) (hT:T≤1000) :
  Calls prog 79 #[.pointer (some ⟨sb,0,none⟩),.pointer (some ⟨st,0,none⟩),.slice A n c] w fun e w'=>rpR T B st mb sb gd gs n w w' e:=by
 have hld:=aHq gd gs count inn v tb w hsl;obtain⟨c6,c7,c8⟩:=aCb h.b;have H0:=nF h ht;have HR:=nH hrow hlg hT;have hn:=(hrow w (Kf.refl _ _)).sm;have HN:=hid hn;clear h hsl hrow hlg ht hn;go_enter func79,ntmps79
 go_wp2_with fail
 go_step3;go_wp2_with fail
 refine hld.mono ?_;rintro e w1 ⟨⟨uv,rfl,hu⟩,hb1⟩;obtain⟨uA,uc,rfl⟩:=Xs hu.1;have H1:=nF (H0.o.1.next hb1) H0.o.2;clear hld hu hb1 c6 c7 c8;go_wp2_with fail
 go_step3;go_wp2_with fail
 go_loopw [6] (fun bv wr=>bv=.bool false∧∃(pos num s t:Nat) (f:Int→Option Value),pos≤n∧num≤pos∧t≤T∧Hid (RpX w wr B st mb sb gd gs pos num s t f)) (fun _ wr=>n - (intOf ((wr.cell? ⟨sb,7,none⟩).getD undef)).toNat)
 case atStart=>exact⟨rfl,0,0,s,t,f,zL,zL,H1.o.2,hid H1.o.1⟩
 case round =>
  obtain⟨rfl,pos,num,s,t,f,hp,hnp,htT,HX⟩:=hrel;obtain⟨c6,c7,c8⟩:=aCb HX.o.b;rcases tN pos n with hlt|hge
  · obtain⟨n1,n2,n3,n4⟩:=bEt hlt HN.o;have hrow:=HR.o.1 wr HX.o.k;obtain⟨ad,eA,-⟩:=hrow.rd.get (k:=pos) (by rw[rU,hrow.len];exact hlt);subst eA;have hcp:¬c=pos:=by have:=hrow.cap;omega
    have hc1:(pos:Int)≤(c:Int):=by have:=hrow.cap;omega
    have hc2:pos≤c:=by have:=hrow.cap;omega
    have hde:=bCl T (some (ad.add pos)) (n - pos) (c - pos) (xs.drop pos) wr (hrow.from_ hp (by rw[if_neg hcp])) (fun x hx=>HR.o.2.1 x (rS hx)) HR.o.2.2;have HK:=nI hlt hnp htT hp;clear hlt hrow hp hnp htT;go_wp2_with fail
    refine hde.mono ?_;intro e w2 hR;unfold bdR at hR;obtain⟨nm,tA,tn,tc,ep,k,r,rfl,hok,hb2⟩:=hR;clear hde c6 c7 c8;obtain⟨w3,hw3⟩:=nC (w2.alloc (.cells #[.int .i64 nm,.slice tA tn tc] 107));have B3:Bk w3 w2.heap.size 107 [.int .i64 nm,.slice tA tn tc]:=by rw[←hw3];exact Bk.new w2 _ _
    have hb3:nD w2 w3:=by rw[←hw3];exact nB.alloc lR _
    obtain⟨d0,d1⟩:=B3.c2;have hX3:=HX.o.next (hb2.trans (hb3.mono hb2.size));obtain⟨c6,c7,c8⟩:=aCb hX3.b;obtain⟨x0,x1⟩:=hX3.x.bx.c2;have KK:=hid (fun (w':World) (hS:nD w3 w')=>nT (aCb (hX3.next hS).b) (hX3.next hS).x.bx.c2 (B3.next hS B3.lt).c2);have HX3:=hid hX3;have HOK:=nH hok hb2 hb3;have HB3:=hid B3;have HT:=hid (fun (w':World) (hS:nD w3 w')=>(show rpR T B st mb sb gd gs n w w' (.returned (.bool true)) from⟨true,pos,num,s,t,f,rfl,HK.o.2.2.2,HK.o.2.1,HK.o.2.2.1,(fun q=>by cases q),HX3.o.next hS⟩));clear hX3 hok hb2 hb3 B3;go_wp2_with fail
    by_cases q1:r=0;rotate_left
    · have t1:(r !=0)=true:=bne_iff_ne.2 q1;have t1':(r==0)=false:=by simpa using q1
      have Kq:=KK;refine wp_region_held_drew (S:=fun w'=>nD w3 w') (by kernel_rfl) (Xu nB) (fun nE=>?_);refine kF 0 ?_;refine kF 1 ?_;refine kF 2 ?_;refine kS 3 ?_;refine kS 4 ?_;refine kS 5 ?_;refine kF 6 ?_;refine kF 7 ?_;refine kS 8 ?_;refine kS 9 ?_;refine kS 10 ?_;refine kS 11 ?_;refine kS 12 ?_;refine kS 13 ?_;refine kS 14 ?_;refine kS 15 ?_;refine kF 16 ?_;refine kF 17 ?_;refine kS 18 ?_;refine kS 19 ?_;refine kS 20 ?_;refine kS 21 ?_;refine kS 22 ?_;refine kS 23 ?_;refine kS 24 ?_;refine kS 25 ?_;refine kS 26 ?_;refine kS 27 ?_;refine kF 28 ?_;refine wpAnyH_done (by kernel_rfl) ?_ _;clear Kq;go_wp2_with fail
      (try simp only[Exit.inBlock,Exit.then,Exit.noGoto_ret])
      go_ret;exact HT.o _ (Xu nB)
    subst q1;by_cases q2:ep=(count:Int);rotate_left
    · have t2:(ep !=(count:Int))=true:=bne_iff_ne.2 q2;have t2':(ep==(count:Int))=false:=by simpa using q2
      have Kq:=KK;refine wp_region_held_drew (S:=fun w'=>nD w3 w') (by kernel_rfl) (Xu nB) (fun nE=>?_);refine kF 0 ?_;refine kF 1 ?_;refine kF 2 ?_;refine kF 3 ?_;refine kF 4 ?_;refine kF 5 ?_;refine kF 6 ?_;refine kF 7 ?_;refine kS 8 ?_;refine kS 9 ?_;refine kS 10 ?_;refine kS 11 ?_;refine kS 12 ?_;refine kS 13 ?_;refine kS 14 ?_;refine kS 15 ?_;refine kF 16 ?_;refine kF 17 ?_;refine kS 18 ?_;refine kS 19 ?_;refine kS 20 ?_;refine kS 21 ?_;refine kS 22 ?_;refine kS 23 ?_;refine kS 24 ?_;refine kS 25 ?_;refine kS 26 ?_;refine kS 27 ?_;refine kF 28 ?_;refine wpAnyH_done (by kernel_rfl) ?_ _;clear Kq;go_wp2_with fail
      (try simp only[Exit.inBlock,Exit.then,Exit.noGoto_ret])
      go_ret;exact HT.o _ (Xu nB)
    subst q2;obtain⟨u1,u2⟩:=bAj (k:=num) (by have:=HK.o.2.1;have:=HN.o;have:=HK.o.1;omega);by_cases q3:nm=(num:Int)+1;rotate_left
    · have t3:(nm !=(num:Int)+1)=true:=bne_iff_ne.2 q3;have t3':(nm==(num:Int)+1)=false:=by simpa using q3
      have Kq:=KK;refine wp_region_held_drew (S:=fun w'=>nD w3 w') (by kernel_rfl) (Xu nB) (fun nE=>?_);refine kF 0 ?_;refine kF 1 ?_;refine kF 2 ?_;refine kF 3 ?_;refine kF 4 ?_;refine kF 5 ?_;refine kF 6 ?_;refine kF 7 ?_;refine kF 8 ?_;refine kF 9 ?_;refine kF 10 ?_;refine kF 11 ?_;refine kF 12 ?_;refine kF 13 ?_;refine kF 14 ?_;refine kF 15 ?_;refine kF 16 ?_;refine kF 17 ?_;refine kS 18 ?_;refine kS 19 ?_;refine kS 20 ?_;refine kS 21 ?_;refine kS 22 ?_;refine kS 23 ?_;refine kS 24 ?_;refine kS 25 ?_;refine kS 26 ?_;refine kS 27 ?_;refine kF 28 ?_;refine wpAnyH_done (by kernel_rfl) ?_ _;clear Kq;go_wp2_with fail
      (try simp only[Exit.inBlock,Exit.then,Exit.noGoto_ret])
      go_ret;exact HT.o _ (Xu nB)
    subst q3;obtain⟨ts,m,hG,g1,g2,g3,g4,g5,g6⟩:=HOK.o.1 rfl;subst g5;have hG3:=hG.next HOK.o.2.2;have hl:=hG3.len;have hr:=hG3.out.rd;obtain⟨x,hpx⟩:=nC (ts[0]'(by omega));have hmx:x∈ts:=by rw[←hpx];exact rC _
    obtain⟨adx,eAx,hadx,e0,e1⟩:=Vk aAu (hr) (k:=0) (by omega) (u:=.int .i64 x.time) (v:=.slice x.A x.n x.c) (by rw[hpx];rfl);subst eAx;have g1':(0:Int)<(tn:Int):=by omega
    have KX:=hid (fun (w':World) (hS:nD w3 w')=>(show w'.cell? adx=some (.int .i64 x.time) from by
     rw[World.cell?_of_block (w:=w3) (w':=w') (hS.block _ hadx)];exact e0))
    by_cases q4:x.time≤(t:Int)
    · have t4:decide (x.time≤(t:Int))=true:=rZ q4;have Kq:=hid (fun (w':World) hS=>nS (KK.o w' hS) (KX.o w' hS));refine wp_region_held_drew (S:=fun w'=>nD w3 w') (by kernel_rfl) (Xu nB) (fun nE=>?_);refine kF 0 ?_;refine kF 1 ?_;refine kF 2 ?_;refine kF 3 ?_;refine kF 4 ?_;refine kF 5 ?_;refine kF 6 ?_;refine kF 7 ?_;refine kF 8 ?_;refine kF 9 ?_;refine kF 10 ?_;refine kF 11 ?_;refine kF 12 ?_;refine kF 13 ?_;refine kF 14 ?_;refine kF 15 ?_;refine kF 16 ?_;refine kF 17 ?_;refine kF 18 ?_;refine kF 19 ?_;refine kF 20 ?_;refine kF 21 ?_;refine kF 22 ?_;refine kF 23 ?_;refine kF 24 ?_;refine kF 25 ?_;refine kF 26 ?_;refine kF 27 ?_;refine kF 28 ?_;refine wpAnyH_done (by kernel_rfl) ?_ _;clear Kq;go_wp2_with fail
      (try simp only[Exit.inBlock,Exit.then,Exit.noGoto_ret])
      go_ret;exact HT.o _ (Xu nB)
    have t4:decide (x.time≤(t:Int))=false:=rY q4
    have HG:=nJ hG3 (show ∀t∈ts,(1≤t.time∧t.time≤(T:Int))∧t.n≤1000∧∀p∈t.ps,0≤p.lba∧p.lba<258∧p.n=40 from fun y hy=>⟨⟨by
     have h0:=g3 x (by rw[tX (show 0<ts.length by omega),hpx]) y hy;omega,(g4 y hy).1.2⟩,(g4 y hy).2⟩) g2 g1 g6
    have Kq:=hid (fun (w':World) hS=>nS (KK.o w' hS) (KX.o w' hS));refine wp_region_held_drew (S:=fun w'=>nD w3 w') (by kernel_rfl) (Xu nB) (fun nE=>?_);refine kF 0 ?_;refine kF 1 ?_;refine kF 2 ?_;refine kF 3 ?_;refine kF 4 ?_;refine kF 5 ?_;refine kF 6 ?_;refine kF 7 ?_;refine kF 8 ?_;refine kF 9 ?_;refine kF 10 ?_;refine kF 11 ?_;refine kF 12 ?_;refine kF 13 ?_;refine kF 14 ?_;refine kF 15 ?_;refine kF 16 ?_;refine kF 17 ?_;refine kF 18 ?_;refine kF 19 ?_;refine kF 20 ?_;refine kF 21 ?_;refine kF 22 ?_;refine kF 23 ?_;refine kF 24 ?_;refine kF 25 ?_;refine kF 26 ?_;refine kF 27 ?_;refine kF 28 ?_;refine wpAnyH_done (by kernel_rfl) ?_ _;clear Kq;clear KK KX e0 e1 hpx hmx hr hG3 hG g2 g3 g4 g6 c6 c7 c8 x0 x1;go_wp2_with fail
    have b4:nD w3 w3.drew:=Xu nB;refine bAb w3.drew w3.drew B wr.heap.size st mb T tn tc (some adx) ts _ _ _ _ _ _ _ _ _ _ _ _ _ _ _ _ _ _ _ _ _ _ _ _ _ _ _ _ _ _ _ _ _ _ _ _ _ _ _ _ _ _ _ _ _ _ _ _ _ _ _ _ _ _ _ _ _ _ _ _ _ _ _ _ _ _ _ _ _ _ _ _ _ _ _ _ _ _ _ _ _ _ _ _ _ _ _ _ _ _ _ _ _ _ _ _ _ _ _ _ _ _ _ _ _ _ _ _ _ _ _ _ _ _ _ _ (fun _ _ d _ _ h=>by cases d<;>exact h) (fun w' q=>(HG.o.1.next b4).kf2 (HX3.o.x.next b4) q) HG.o.2.1 HG.o.2.2.1 HG.o.2.2.2.1 ⟨0,s,t,f,zL,rfl,(HX3.o.x.next b4).up (fun q=>by cases q),Kf.refl _ _,HK.o.2.2.1,fun q=>absurd q (tT _)⟩ ?_;intro bZ dB v76 v77 mD mE mF mG mH mI mJ mL mM mN mO mP mQ mR mT mU mV mW mX mY mZ tB fT fU w6 s' t' f' hX6 hk6 ht6;have hR6:=(HX3.o.next b4).inner hX6 hk6;obtain⟨z6,z7,z8⟩:=aCb hR6.b;have f7:=hR6.b.free 7;have f8:=hR6.b.free 8;obtain⟨v1,v2,v3⟩:=bEu (m:=m) (pos:=pos) (n:=n) HG.o.2.2.2.2 HK.o.1 HN.o;obtain⟨w7,hw7⟩:=nC ((w6.setCell ⟨sb,7,none⟩ (.int .i64 ((pos:Int)+((m:Int)+1)))).setCell ⟨sb,8,none⟩ (.int .i64 ((num:Int)+1)));have hR7:=hR6.step (pos+(m+1)) (num+1) hw7;have HE:=nF hR7 ht6;obtain⟨_,y7,_⟩:=aCb hR7.b;have HY:=hid y7;clear hX6 hk6 hR6 hR7 ht6 b4 y7;go_wp2_with fail
    refine⟨⟨rfl,pos+(m+1),num+1,s',t',f',v3,bGx HK.o.2.1,HE.o.2,hid HE.o.1⟩,?_⟩;rw[HY.o,(aCb HX.o.b).2.1];exact bAi HK.o.1
  · obtain rfl:pos=n:=tQ hp hge;have n1:¬(pos:Int)<(pos:Int):=Int.lt_irrefl _;have HK:=nF hnp htT;clear hp hnp htT hge;go_wp2_with fail
    (try simp only[Exit.noGoto,Exit.inBlock,Exit.then])
    (try go_wp2_with fail)
    go_ret;exact⟨false,pos,num,s,t,f,rfl,lR,HK.o.1,HK.o.2,fun _=>rfl,HX.o⟩
theorem StZ.look {w:World} {B st mb s t z:Nat} {f:Int→Option Value} (h:StZ w B st mb s t z f) {x:Int} (hx:Un x):(Instr.lookup 157 (.map (some mb)) (.int .i64 x) false).run prog w=.ok ((f x).getD (.slice none 0 0)) w:=h.im.look Uy Ug underlying157 (aXe w) hx
structure PuX (w:World) (B:Nat) (v:Value) (ks:List Int) (ps:List Vd):Prop where
 own:w.ownsRow B 50 2 v ks.length (ps.flatMap Vd.cells)
 lba:ps.map Vd.lba=ks
 n40:∀p∈ps,p.n=40
 y:∀p∈ps,IsY w p.A p.n p.c p.bs
theorem PuX.is {w:World} {B:Nat} {v:Value} {ks:List Int} {ps:List Vd} (h:PuX w B v ks ps):∃A c,v=.slice A ks.length c∧Uh w A ks.length c ps∧∀ad,A=some ad→B≤ad.block:=by
 have ho:=h.own;obtain⟨A,c,rfl⟩:=Xs ho;exact⟨A,c,rfl,⟨by rw[←h.lba,rU],Ve ho,h.y,(Vv ho).1,(Vv ho).2⟩,fun ad e=>Xv (g:=ad.block) ho (by rw[e];rfl)⟩
theorem PuX.next {w w':World} {B:Nat} {v:Value} {ks:List Int} {ps:List Vd} (h:PuX w B v ks ps) (hb:nD w w'):PuX w' B v ks ps :=
 ⟨Vg h.own hb,h.lba,h.n40,fun p hp=>(h.y p hp).ag (F:=fun _=>True) (.of_below hb)⟩
theorem PuX.push {w w':World} {C:Nat} {v v':Value} {ks:List Int} {ps:List Vd} {x:Int} {A:Option Addr} {c:Nat} {bs:List Int} (h:PuX w C v ks ps) (hO:w'.ownsRow C 50 2 v' (ks.length+1) (ps.flatMap Vd.cells++[.int .i64 x,.slice A 40 c])) (hg:w.grownBy w' v.ownBlock) (hc:IsY w A 40 c bs) :
  PuX w' C v' (ks++[x]) (ps++[⟨x,A,40,c,bs⟩]):=by
 have k:=Ag.grown (F:=fun _=>False) h.own (by decide) hg (fun _ _ q=>q);refine⟨?_,by rw[rI,h.lba];rfl,fun p hp=>?_,fun p hp=>?_⟩
 · rw[rH,rX];exact hO
 · rcases rE.1 hp with q|q
   · exact h.n40 p q
   · obtain rfl:p=_:=by simpa using q
     rfl
 · rcases rE.1 hp with q|q
   · exact(h.y p q).ag k
   · obtain rfl:p=_:=by simpa using q
     exact hc.ag k
theorem bAx {k s:Nat} (h:k<s) (hs:s≤258):(k:Int)<(s:Int)∧(0:Int)≤(k:Int)∧wrap64 ((k:Int)+1)=(k:Int)+1∧k≤1000000:=⟨by omega,by omega,by unfold wrap64;omega,by omega⟩
theorem aQl {w:World} {B st mb s t z:Nat} {f:Int→Option Value} (h:StZ w B st mb s t z f):Calls prog 83 #[.pointer (some ⟨st,0,none⟩)] w fun e w'=>(∃v,e=.returned v∧∃ks,(∃ps,PuX w' w.heap.size v ks ps)∧aEk s f ks)∧nD w w':=by
 obtain⟨xi,xz,hxi,hxz,hx5,hx56,hxc⟩:=aLw;obtain⟨c0,c1⟩:=h.bx.c2;have hsz:=h.size;have hk:=aJd mb w;have hso:=aGh mb s f w h.im (tK hsz (by decide));have HX:=nF h hsz;clear h;go_enter func83,ntmps83
 go_wp2_with fail
 refine hk.mono ?_;rintro e w1 ⟨rfl,rfl⟩;clear hk;go_wp2_with fail
 refine hso.mono ?_;rintro e w2 ⟨⟨v,ks,rfl,hK,ho⟩,hb2⟩;have hl:=hK.len;obtain⟨kA,kc,rfl⟩:=Xs ho;have hR:=Ve ho;have HB:=nF hb2 hK;clear hso ho c0 c1;go_wp2_with fail
 go_loopw [2,12] (fun pv iv wr=>∃k:Nat,k≤s∧iv=.int .i64 (k:Int)∧∃ps,Hid (nD w2 wr∧PuX wr w2.heap.size pv (ks.take k) ps)) (fun _ iv _=>s - (intOf iv).toNat)
 case atStart=>exact⟨0,zL,rfl,[],hid ⟨nB,⟨⟨rfl,.inl ⟨rfl,rfl⟩⟩,rfl,by simp,by simp⟩⟩⟩
 case round =>
  obtain⟨k,hk,rfl,ps,HP⟩:=hrel;obtain⟨pA,pc,rfl⟩:=Xs HP.o.2.own;rcases tN k s with hlt|hge
  · obtain⟨ad,eA,had,ck⟩:=(hR.next lR HP.o.1).get (k:=k) (by rw[rU,hl];exact hlt);subst eA;rw[rV] at ck;obtain⟨x,hx⟩:=nC (ks[k]'(by omega));rw[hx] at ck;have hxm:x∈ks:=by rw[←hx];exact rC _
    have hxw:=HB.o.2.wf x hxm;have hX:=HX.o.1.next (HB.o.1.trans (HP.o.1.mono HB.o.1.size));obtain⟨u,hu⟩:=Option.isSome_iff_exists.1 ((HB.o.2.mem x hxw).1 hxm);obtain⟨uA,uc,ub,rfl,huy⟩:=hX.val x u hu;have hlk:=hX.look hxw;rw[hu] at hlk;simp only[Option.getD_some] at hlk;obtain⟨c0,c1⟩:=hX.bx.c2;have HT:=hid (show ks.take (k+1)=ks.take k++[x] by rw[List.take_succ_eq_append_getElem (by omega),hx]);have htl:(ks.take k).length=k:=by rw[rJ];omega
    obtain⟨n0,n1,m2,n4⟩:=bAx hlt HX.o.2;obtain⟨w4,hw4⟩:=nC (wr.alloc (.cells #[.int .i64 x,.slice uA 40 uc] 50));have hB4:Bk w4 wr.heap.size 50 [.int .i64 x,.slice uA 40 uc]:=by rw[←hw4];exact Bk.new _ _ _
    have hb4:nD wr w4:=by rw[←hw4];exact nB.alloc lR _
    have HQ4:=hid (HP.o.2.next hb4);have HB4:=nI hB4 hb4 (huy.ag (F:=fun _=>True) (.of_below hb4)) hlt;have hnk:(ks.take k).length≤1000000:=by rw[htl];exact n4
    clear hB4 hb4 hX hx huy hu hxm hk hlt;go_wp2_with (at_builtin;go_must (refine aAc _ rfl _ _ 58 rfl w2.heap.size 50 xi xz 2 32 underlying58 hxi hxz hx5 hx56 hxc (by decide) _ _ _ (by rfl) (by exact HQ4.o.own) _ [.int .i64 x,.slice uA 40 uc] (by rfl) (by exact HB4.o.1) rfl (by intro u hu;simp at hu;rcases hu with rfl|rfl<;>rfl) (by exact hnk) (by decide) (by exact tK HP.o.1.size HB4.o.2.1.size) ?_);intro v9 w9 hO9 hG9 hn9;obtain⟨sA,sc9,rfl⟩:=Xs hO9)
    have HE:=hid (show nD w2 w9∧PuX w9 w2.heap.size _ (ks.take (k+1)) (ps++[⟨x,uA,40,uc,ub⟩]) from
     ⟨(HP.o.1.trans (HB4.o.2.1.mono HP.o.1.size)).grown hG9 (tK HP.o.1.size HB4.o.2.1.size) (fun g hg=>Xv HQ4.o.own hg),by rw[HT.o];exact HQ4.o.push hO9 hG9 HB4.o.2.2.1⟩)
    rw[htl] at HE;clear hO9 hG9 hn9;(try go_wp2_with fail)
    go_roundw
    case rel=>exact⟨k+1,HB4.o.2.2.2,Va (by first|rfl|exact m2),_,HE⟩
    case measure=>(first|exact Xw HB4.o.2.2.2 rfl|(rw[m2];exact Xw HB4.o.2.2.2 rfl))
  · obtain rfl:k=s:=tQ hk hge;have n0:¬(k:Int)<(k:Int):=Int.lt_irrefl _;have HP2:=hid (show PuX wr w2.heap.size (.slice pA k pc) ks ps from by have q:=HP.o.2;rw[rG (tO hl),hl] at q;exact q);go_wp2_with fail
    go_ret;exact⟨⟨_,rfl,ks,⟨ps,ownsRow_base_a HP2.o.own HB.o.1.size,HP2.o.lba,HP2.o.n40,HP2.o.y⟩,HB.o.2⟩,HB.o.1.trans (HP.o.1.mono HB.o.1.size)⟩
def aPu (bs:List Int):Prop:=bs[0]? =some 1∨bs[0]? =some 2
theorem aMy {w:World} {A:Option Addr} {c:Nat} {bs:List Int} (h:IsY w A 64 c bs) (hk:aPu bs) :
  Calls prog 78 #[.slice A 64 c] w fun e w'=>e=.returned (.bool false)∧w=w':=by
 obtain⟨ad,rfl⟩:∃ad,A=some ad:=by
  obtain⟨ad,e,_⟩:=h.b.rd.get (k:=0) (by rw[rU,h.b.len];decide);exact⟨ad,e⟩
 obtain⟨x,e1,_,kc⟩:=aBt h.b (k:=0) (by decide);have c0:w.cell? ad=some (.int .u8 x):=kc w nB;have hcap:=h.b.cap;have hx:x=1∨x=2:=hk.imp (fun q=>rT (e1.symm.trans q)) (fun q=>rT (e1.symm.trans q));clear kc e1 h hk;go_enter func78,ntmps78
 rcases hx with rfl|rfl
 · go_wp2_with fail
   go_ret;exact⟨rfl,rfl⟩
 · go_wp2_with fail
   go_ret;exact⟨rfl,rfl⟩
theorem aRs {T:Nat} {b:List Int} (h:aDi T b) (h0:0<b.length):aPu b:=by
 have e:∀k,(frD b).kind=k→b[0]? =some k:=fun k q=>by
  cases b with
  | nil=>exact absurd h0 (by decide)
  | cons x l=>exact congrArg some q
 rcases h with q|q
 · exact .inl (e 1 q.1)
 · exact .inr (e 2 q.1)
theorem bAt {w:World} {B n:Nat} {A:Option Addr} {c:Nat} {xs:List BR} (h:Ux w B (.slice A n c) xs) (hn:xs.length=n) (h9:n≤1000000) (hk:∀x∈xs,aPu x.bs) :
  Calls prog 142 #[.slice A n c,.func (.func 78) #[] #[]] w fun e w'=>e=.returned (.int .i64 (-1))∧w=w':=by
 have hR:=nH (Ve (aBs hn h.own)) h.y hk;clear h hk;go_enter func142,ntmps142
 go_wp2_with fail
 go_loopw [5,8] (fun s5 i wr=>∃k:Nat,k≤n∧i=.int .i64 k∧w=wr) (fun _ i _=>n - (intOf i).toNat)
 case atStart=>exact⟨0,zL,rfl,rfl⟩
 case round =>
  obtain⟨k,hkn,rfl,rfl⟩:=hrel;rcases tN k n with hlt|hge
  · obtain⟨p,hpk⟩:∃p,xs[k]'(by omega)=p:=⟨_,rfl⟩
    have hpm:p∈xs:=by rw[←hpk];exact rC _
    obtain⟨ad,rfl,had,c1⟩:=hR.out.1.get (k:=k) (by rw[rU];omega);rw[rV,hpk] at c1;have c0:w.cell? (ad.add k)=some (.slice p.A 64 p.c):=c1;clear c1;obtain⟨n1,n2,m2⟩:(k:Int)<(n:Int)∧(0:Int)≤(k:Int)∧wrap64 ((k:Int)+1)=(k:Int)+1:=⟨by omega,by omega,by unfold wrap64;omega⟩;have hcall:=aMy (hR.out.2.1 p hpm) (hR.out.2.2 p hpm);have HN:=nF hlt h9;clear hpk hpm had hkn;go_wp2_with fail
    refine hcall.mono ?_;rintro e w' ⟨rfl,rfl⟩;clear hcall;go_wp2_with fail
    go_roundw
    case rel=>exact⟨k+1,HN.o.1,Va (by first|rfl|exact m2),by first|rfl|trivial⟩
    case measure=>exact Xw HN.o.1 (by first|rfl|exact m2)
  · obtain rfl:k=n:=tQ hkn hge;have n0:¬(k:Int)<(k:Int):=Int.lt_irrefl _;go_wp2_with fail
    go_ret;exact⟨rfl,rfl⟩
theorem aWs {w:World} {B:Nat} {v:Value} {xs:List BR} (h:Ux w B v xs) (h9:xs.length≤1000000) (hk:∀x∈xs,aPu x.bs) :
  Calls prog 77 #[v,.func (.func 78) #[] #[]] w fun e w'=>e=.returned (.bool false)∧w=w':=by
 obtain⟨vA,vc,rfl⟩:=Xs h.own;have hix:=bAt h rfl h9 hk;clear h hk h9;go_enter func77,ntmps77
 go_wp2_with fail
 refine hix.mono ?_;rintro e w' ⟨rfl,rfl⟩;go_wp2_with fail
 go_ret;exact⟨rfl,rfl⟩
def bGv (sb gs:Nat) (Fm F:Xt):Nat→Xt:=fun j=>match j with
 | 0=>fun b=>b=sb
 | 1=>Fm
 | 2=>F
 | 3=>fun b=>b=gs
 | _=>fun _=>False
theorem Kd.made {w w':World} {F Fm:Xt} {sb gd mb gs lz pos num count g:Nat} {ns:List Nat} {m:MS} (hI:In w F) (hsb:w.heap.size≤sb) (hgs:sb<gs) (hFm:∀b,Fm b→gs<b) (bx:Bk w' sb 99 (Vh gd mb gs pos num)) (man:Man w' Fm mb m g) (dev:Ut g w' F gd ns) (slo:∃inn v bs,Uz w' gd gs inn v bs count) (hgl:gs<w'.heap.size) (hz:w.heap.size≤w'.heap.size) (h6:ns[6]? =some (zc lz 0)) (h7:ns[7]? =some (zc lz 1)) (hp:pos≤192) (hn:num≤pos) (hc:count≤g) :
  ∃F' Ft,Kd w' F' Ft sb gd mb gs lz pos num count ns m g∧Sb w F F'∧In w' F':=by
 have hin:=man.inn
 have hi:∀{i b:Nat},bGv sb gs Fm F i b→(i=0∧b=sb)∨(i=1∧gs<b∧b<w'.heap.size)∨(i=2∧F b∧b<w.heap.size)∨(i=3∧b=gs):=fun {i b} q=>by
  match i with
  | 0=>exact .inl ⟨rfl,q⟩
  | 1=>exact .inr (.inl ⟨rfl,hFm b q,hin b q⟩)
  | 2=>exact .inr (.inr (.inl ⟨rfl,q,hI b q⟩))
  | 3=>exact .inr (.inr (.inr ⟨rfl,q⟩))
  | n+4=>exact q.elim
 have hlt:In w' (fun b=>F b∨(w.heap.size≤b∧b<w'.heap.size)):=fun b q=>q.elim (fun r=>tL (hI b r) hz) (fun r=>r.2)
 have hbl:=bx.lt;refine⟨fun b=>F b∨(w.heap.size≤b∧b<w'.heap.size),bGv sb gs Fm F,⟨⟨hlt,fun i b q=>?_,fun i j hn b q r=>?_⟩,bx,man,dev,slo,rfl,rfl,h6,h7,hp,hn,hc⟩,fun b q=>q.imp id (fun r=>r.1),hlt⟩
 · rcases hi q with ⟨_,h⟩|⟨_,h,h2⟩|⟨_,h,_⟩|⟨_,h⟩
   · exact .inr ⟨by omega,by omega⟩
   · exact .inr ⟨by omega,h2⟩
   · exact .inl h
   · exact .inr ⟨by omega,by omega⟩
 · rcases hi q with h1|h1|⟨h0,_,h1⟩|h1<;>rcases hi r with h2|h2|⟨h3,_,h2⟩|h2<;>omega
def aHy (gd:Nat) (mv sv:Value):List Value:=[.pointer (some ⟨gd,0,none⟩),.int .i64 0,.int .i64 3,.int .i64 6,.int .i64 7,mv,sv,.int .i64 0,.int .i64 0,.bool false]
theorem aFh {w:World} {sb gd:Nat} {mv sv:Value} (h:Bk w sb 99 (aHy gd mv sv)) :
  w.cell? ⟨sb,0,none⟩=some (.pointer (some ⟨gd,0,none⟩))∧w.cell? ⟨sb,3,none⟩=some (.int .i64 6)∧w.cell? ⟨sb,4,none⟩=some (.int .i64 7)∧w.cell? ⟨sb,5,none⟩=some mv∧w.cell? ⟨sb,6,none⟩=some sv∧w.cell? ⟨sb,7,none⟩=some (.int .i64 0) :=
 ⟨h.cell (i:=0) (by simp[aHy]),h.cell (i:=3) (by simp[aHy]),h.cell (i:=4) (by simp[aHy]),h.cell (i:=5) (by simp[aHy]),h.cell (i:=6) (by simp[aHy]),h.cell (i:=7) (by simp[aHy])⟩
theorem bFi (w:World):Calls prog 71 #[.agg #[.int .i64 8,.int .i64 96]] w fun e w'=>e=.returned (.tuple #[.agg #[.int .i64 0,.int .i64 3,.int .i64 6,.int .i64 7],.int .i64 0])∧nD w w':=by
 have h:=Go.Proofs.YtdhlicgaalnmoaaGreatDoor.Sp.aSp 8 96 w (by decide);rw[show (3*8 / 8:Int)=3 by decide,show (2*3:Int)=6 by decide,show (8 - 1:Int)=7 by decide] at h;exact h
theorem bGr {cs:List (List (List Int))} {p:Nat} (h6:(cs.map List.length)[6]? =some (zc p 0)) (h7:(cs.map List.length)[7]? =some (zc p 1)) (hp:p≤192):(aEi cs 8).length=p∧∀T,aFl T cs→∀b∈aEi cs 8,aDi T b:=by
 obtain⟨q6,hq6,e6⟩:=aDz h6;obtain⟨q7,hq7,e7⟩:=aDz h7
 have e:aEi cs 8=q6++q7:=by
  rw[aDy (z:=7) (by decide) hq7,aDy (z:=6) (by decide) hq6];unfold aEi
  simp
 rw[e];refine⟨by rw[rH];unfold zc at *;omega,fun T h b hb=>?_⟩;rcases rE.1 hb with q|q
 · exact h.log 6 q6 lR hq6 b q
 · exact h.log 7 q7 (by decide) hq7 b q
theorem Ux.isRow {w:World} {B n c:Nat} {A:Option Addr} {xs:List BR} (h:Ux w B (.slice A n c) xs) (hl:xs.length=n) (hs:n≤1000):aCk w A n c xs:=by
 subst hl;exact⟨Ve h.own,rfl,h.y,(Vv h.own).1,(Vv h.own).2,hs⟩
theorem aVm {w w':World} {B B' st mp s t:Nat} {f:Int→Option Value} {v:Value} {ks:List Int} {ps:List Vd} (h:StX w B st mp s t f) (hk:aEk s f ks) (hp:PuX w' B' v ks ps) (ht:t≤1000):ks.length=0∨(1≤t∧OkL (t:Int) ks.length ps):=by
 rcases tP ks.length with q|q
 · exact .inl q
 right
 obtain⟨x,hx⟩:∃x,x∈ks:=⟨ks[0],rC q⟩
 have hxs:=(hk.mem x (hk.wf x hx)).1 hx
 have ht1:1≤t:=by
  rcases tP t with r|r
  · rw[h.zero r x] at hxs;cases hxs
  · exact r
 have hl:ps.length=ks.length:=by rw[←hp.lba,rU]
 refine⟨ht1,⟨by omega,by omega⟩,⟨q,by rw[hk.len];exact h.size⟩,fun j hj=>?_,fun p hpm=>?_⟩
 · have hu:=List.pairwise_iff_getElem.1 hk.up j (j+1) (by omega) (by omega) (Nat.lt_succ_self j)
   have e:∀i (hi:i<ps.length),ks[i]'(by omega)=ps[i].lba:=fun i hi=>by
    have:(ps.map Vd.lba)[i]'(by rw[rU];exact hi)=ps[i].lba:=rV _;rw[←this];congr 1
    exact hp.lba.symm
   rw[e j (by omega),e (j+1) hj] at hu;exact hu
 · have hm:p.lba∈ks:=by rw[←hp.lba];exact List.mem_map_of_mem hpm
   have hr:=h.rng p.lba ((hk.mem _ (hk.wf _ hm)).1 hm);exact⟨hr.1,hr.2,hp.n40 p hpm⟩
theorem Man.upTo {w:World} {F:Xt} {mb g g':Nat} {m:MS} (h:Man w F mb m g) (h1:g≤g') (h2:g'≤700):Man w F mb m g':=by
 obtain⟨Ft,gm,kb,am,qv,es,hx⟩:=h.x;exact⟨⟨Ft,gm,kb,am,qv,es,hx.up (by omega) (by omega) (by omega) (by omega)⟩,h.good,tK h.giv h1,tK h.num h1,tK h.txs h1,h2⟩
theorem bBu {t T:Nat} (h:t≤T):t+3≤T+4:=by omega
theorem bBv {T:Nat} (h:T≤600):T+4≤700:=by omega
theorem aVh {T:Nat} (h:T≤600):T+4+1≤700:=by omega
theorem aGf {w13 w14:World} {sb gd mb gs pos num:Nat} (e:w13.setCell ⟨sb,5,none⟩ (.pointer (some ⟨mb,0,none⟩))=w14) (h:Bk w13 sb 99 (aFg gd gs pos num)):Bk w14 sb 99 (Vh gd mb gs pos num)∧Kf (fun b=>b=sb) w13 w14:=by
 rw[←e];exact⟨h.set 5 _,(Kf.refl (fun b=>b=sb) w13).set h (by decide) (.inl rfl) 5 _⟩
theorem aMu (T p:Nat) (F:Xt) (gd:Nat) (ns:List Nat) (w:World) (hd:Ut T w F gd ns) (hI:In w F) (h6:ns[6]? =some (zc p 0)) (h7:ns[7]? =some (zc p 1)) (hp:p≤192) (hT:T≤600) :
  Calls prog 35 #[.pointer (some ⟨gd,0,none⟩)] w fun e w'=>∃sb,e=.returned (.tuple #[.pointer (some ⟨sb,0,none⟩),.int .i64 0])∧∃F' pos t,(t≤T∧pos≤p)∧Sto w' F' sb (gp gd) pos (msB t) (T+5)∧Kf F w w'∧Sb w F F'∧In w' F':=by
 have hg:=aOc hd.dev;have HN:=nI h6 h7 hp hT;clear h6 h7 hp hT;go_enter func35,ntmps35
 go_wp2_with fail
 refine hg.mono ?_;rintro e w1 ⟨rfl,hb1⟩;clear hg;have hs:=bFi w1;go_wp2_with fail
 refine hs.mono ?_;rintro e w2 ⟨rfl,hb2⟩;clear hs;obtain⟨g3,w3,hg3,hw3,hB3,hb3⟩:=Xy w2 95 [.int .i64 0,.int .i64 3,.int .i64 6,.int .i64 7];subst hg3;obtain⟨c0,c1,c2,c3⟩:=hB3.c4;obtain⟨sb,w4,hg4,hw4,hB4,hb4⟩:=Xy w3 99 [.pointer (some ⟨gd,0,none⟩),.int .i64 0,.int .i64 3,.int .i64 6,.int .i64 7,.pointer none,.pointer none,.int .i64 0,.int .i64 0,.bool false];have hb14:nD w w4:=hb1.trans ((hb2.trans ((hb3.trans (hb4.mono hb3.size)).mono hb2.size)).mono hb1.size);have hsb:w.heap.size≤sb:=by rw[←hg4];exact(hb1.trans ((hb2.trans (hb3.mono hb2.size)).mono hb1.size)).size
 have hB3':=hB3.next hb4 hB3.lt;obtain⟨z0,z1,z2,z3⟩:=hB3'.c4;have ho:=bAv T F gd ns w4 (hd.ag (.of_below hb14)) (hI.next hb14.size);have hB4':Bk w4 sb 99 (aHy gd (.pointer none) (.pointer none)):=hB4;have H4:=nI hb14 hsb hB4' hI;clear hb1 hb2 hb3 hb4 hB3 hB3' hB4 hB4' hb14 hsb hd hI;go_wp2_with fail
 refine ho.mono ?_;rintro e w5 ⟨gs,rfl,hd5,hs5,hz5,hl5,hk5⟩;clear ho z0 z1 z2 z3 c0 c1 c2 c3;have hsF:¬F sb:=fun q=>by have:=H4.o.2.2.2 sb q;have:=H4.o.2.1;omega
 have hb5:Bk w5 sb 99 (aHy gd (.pointer none) (.pointer none)):=Bk.ag (F:=fun b=>b=sb) H4.o.2.2.1 (hk5.ag (fun b q r=>hsF (by have q:b=sb:=q;exact q▸r))) rfl;have f6:=hb5.free 6;have c6:=(aFh hb5).2.2.2.2.1;obtain⟨w6,hw6⟩:=nC (w5.setCell ⟨sb,6,none⟩ (.pointer (some ⟨gs,0,none⟩)));have hb6:Bk w6 sb 99 (aHy gd (.pointer none) (.pointer (some ⟨gs,0,none⟩))):=by rw[←hw6];exact hb5.set 6 _
 have hsg:sb<gs:=by have:=H4.o.2.2.1.lt;omega
 have k56:Kf (fun b=>b=sb) w5 w6:=by rw[←hw6];exact(Kf.refl (fun b=>b=sb) w5).set hb5 (by decide) (.inl rfl) 6 _
 have hs6:=hs5.ag (F:=fun b=>b=gs) (k56.ag (fun b q r=>by have q:b=gs:=q;have r:b=sb:=r;omega)) rfl;have hd6:=hd5.ag (F:=F) (k56.ag (fun b q r=>hsF (by have r:b=sb:=r;exact r▸q)));have hk46:Kf (fun b=>F b∨b=sb) w4 w6:=(hk5.mono (G:=fun b=>F b∨b=sb) (fun b q=>.inl q)).trans (G:=fun b=>F b∨b=sb) (k56.mono (fun b q=>.inr q)) (fun b q=>.inl q);obtain⟨inn,sv,tb,count,hsl6,hct,htx⟩:=hs6;obtain⟨cs,hdc6,hns,hcon⟩:=hd6;subst hns;have hl:=aHq gd gs count inn sv tb w6 hsl6;have H6:=nK hb6 hsl6 hdc6 hsg hk46 (tL hl5 k56.size);have HC:=nJ hct htx hcon (bGr HN.o.1 HN.o.2.1 HN.o.2.2.1) hsF;obtain⟨x0,_,_,_,x6,x7⟩:=aFh hb6;clear hb5 hb6 hs5 hd5 hz5 hl5 hk5 k56 hk46 hsF hsg hsl6 hdc6 hct htx hcon;go_wp2_with fail
 refine hl.mono ?_;rintro e w7 ⟨⟨u,rfl,hy⟩,hb7⟩;obtain⟨uA,uc,rfl,hyY⟩:=hy.isY;have hpa:=aZy T uA tb.length uc tb w7 hyY HC.o.2.1 H6.o.2.1.big (tK HN.o.2.2.2 (by decide));clear hl hy hyY x0 x6 x7;go_wp2_with fail
 refine hpa.mono ?_;rintro e w8 ⟨⟨st,mp,s,t,f,rfl,hX8,htT⟩,hb8⟩;have hb68:nD w6 w8:=hb7.trans (hb8.mono hb7.size);clear hpa;have hF7:∀b,F b→b<w7.heap.size:=fun b q=>by have h1:=H4.o.2.2.2 b q;have h2:=H4.o.1.size;have h3:=H6.o.2.2.2.2.1.size;have h4:=hb7.size;omega
 have hF8:In w8 F:=fun b q=>tL (hF7 b q) hb8.size
 have B8:=H6.o.1.next hb68 H6.o.1.lt;have AT:=hid (fun (w':World) (k:Kf F w8 w')=>(show Bk w' sb 99 (aHy gd (.pointer none) (.pointer (some ⟨gs,0,none⟩))) from Bk.ag (F:=fun b=>b=sb) B8 (k.ag (fun b q r=>HC.o.2.2.2.2 (by have q:b=sb:=q;exact q▸r))) rfl));have hlo:=bFg F sb gd p cs true w8 (H6.o.2.2.1.ag (.of_below hb68)) hF8 HN.o.1 HN.o.2.1 HN.o.2.2.1 (fun w' k=>⟨(aFh (AT.o w' k)).1,(aFh (AT.o w' k)).2.1,(aFh (AT.o w' k)).2.2.1⟩);have H8:=nK hX8 htT hb68 hF7 hb7 hb8;clear hX8 htT hb68 hF7 hF8 hb7 hb8 B8;go_wp2_with fail
 refine hlo.mono ?_;rintro e w9 ⟨lv,xs,rfl,hLg,hxs⟩;obtain⟨lA,lc,rfl⟩:=Xs hLg.row.own;have hxn:xs.length=p:=by have:=congrArg List.length hxs;rw[rU] at this;exact this.trans HC.o.2.2.2.1.1
 have hxk:∀x∈xs,aDi T x.bs:=fun x hx=>HC.o.2.2.2.1.2 T HC.o.2.2.1 x.bs (by rw[←hxs];exact List.mem_map_of_mem hx)
 have hp1000:p≤1000:=tK HN.o.2.2.1 (by decide);have hha:=aWs hLg.row (by rw[hxn];exact tK hp1000 (by decide)) (fun x hx=>aRs (hxk x hx) (by rw[(hLg.row.y x hx).b.len];decide));have HL:=nI hLg hxn hxk hp1000;clear hlo hLg hxs hxk hp1000 hxn;go_wp2_with fail
 refine hha.mono ?_;rintro e w' ⟨rfl,rfl⟩;clear hha;go_wp2_with fail
 refine(aYw _ _).mono ?_;rintro e w' ⟨rfl,rfl⟩;have ngF:¬F gs:=fun q=>by have h1:=H4.o.2.2.2 gs q;have h2:=H4.o.2.1;have h3:=H6.o.2.2.2.1;omega
 have S9:Uz w9 gd gs inn sv tb count:=(H6.o.2.1.ag (F:=fun b=>b=gs) (.of_below H8.o.2.2.1) rfl).ag (F:=fun b=>b=gs) (HL.o.1.kf.ag (fun b q r=>ngF (by have q:b=gs:=q;exact q▸r))) rfl;have hX9:RpX w9 w9 w7.heap.size st mp sb gd gs 0 0 s t f:=⟨H8.o.1.kf HL.o.1.kf H8.o.2.2.2.1,AT.o w9 HL.o.1.kf,Kf.refl _ _⟩
 have hrow:∀w',Kf (fun b=>b=sb∨b=st∨b=mp) w9 w'→aCk w' lA xs.length lc xs:=fun w' k=>(HL.o.1.row.kf (w0:=w9) k (fun b q=>by
  have h1:=H8.o.1.lts;have h2:=H6.o.1.lt;have h3:=H8.o.2.2.1.size;rcases q with q|q|q<;>omega)).isRow rfl (by rw[HL.o.2.1];exact HL.o.2.2.2)
 have hre:=aVw T w7.heap.size st mp sb gd gs s t f lA xs.length lc xs inn sv tb count w9 hX9 S9 hrow HL.o.2.2.1 H8.o.2.1 (tK HN.o.2.2.2 (by decide));have HS9:=nF S9 ngF;clear hX9 hrow S9 ngF;go_wp2_with fail
 refine hre.mono ?_;intro e w10 hR;unfold rpR at hR;obtain⟨tr,pos,num,s2,t2,f2,rfl,hpn,hnp,ht2,htr,hX10⟩:=hR;clear hre;have HB:=hid (show ¬F sb∧gs≠sb∧∀b,(b=st∨b=mp)→b≠sb from⟨HC.o.2.2.2.2,Nat.ne_of_gt H6.o.2.2.2.1,fun b q e=>q.elim (fun q=>hX10.ne.1 (e.symm.trans q)) (fun q=>hX10.ne.2 (e.symm.trans q))⟩)
 have hd10:Ul w10 F gd cs true:=HL.o.1.dev.ag (hX10.k.ag (F:=F) (fun b q r=>by
  have h1:=H8.o.2.2.2.1 b q;have h2:=H8.o.1.g0;have h3:=H8.o.1.g1;rcases r with r|r|r
  · exact HB.o.1 (r▸q)
  · omega
  · omega))
 have S10:Uz w10 gd gs inn sv tb count:=HS9.o.1.ag (F:=fun b=>b=gs) (hX10.k.ag (fun b q r=>by
  have q:b=gs:=q;have h1:=H6.o.2.2.2.2.2;have h2:=H8.o.1.g0;have h3:=H8.o.1.g1;have h4:=H8.o.2.2.2.2.1.size;rcases r with r|r|r
  · exact HB.o.2.1 (q.symm.trans r)
  · omega
  · omega)) rfl
 have HA:=nN hd10 S10 hX10.x hX10.b ht2 hX10.k hpn hnp htr;have KM:=hid (fun (w':World) (hS:nD w10 w')=>(HA.o.2.2.1.next hS).bx.c2);clear hd10 S10 hX10 ht2 hpn hnp htr
 cases tr with
 | false =>
   go_wp2_with fail
   have Kq:=KM;refine Vn (fun w'=>nD w10 w') [14] (by kernel_rfl) (Xu nB) (fun nE=>?_);refine kR 0 ?_;refine kR 1 ?_;refine kR 4 ?_;refine kR 5 ?_;refine kR 6 ?_;refine kM 7 ?_;refine rM 2 (fun K hK=>?_);go_simp;refine(aOc (HA.o.1.dev.ag (.of_below nE))).mono ?_;rintro e w11 ⟨rfl,hb11⟩;have hS11:nD w10 w11:=nE.trans (hb11.mono nE.size);clear hb11;go_simp;refine hK.out _ _ (fun _ _=>hS11) ?_;clear hK K nE;have nE:=hS11;try simp only[Act.put,tC,tD,tE]
   refine rM 3 (fun K hK=>?_);go_simp;refine(aNu _).mono ?_;rintro e w12 ⟨rfl,hb12⟩;have hS12:nD w10 w12:=nE.trans (hb12.mono nE.size);clear hb12;go_simp;refine hK.out _ _ (fun _ _=>hS12) ?_;clear hK K nE;have nE:=hS12;try simp only[Act.put,tC,tD,tE]
   refine rM 8 (fun K hK=>?_);go_simp;refine(aMf t2 _ (tK HA.o.2.2.2.2.1 (tK HN.o.2.2.2 (by decide)))).mono ?_;rintro e w13 ⟨⟨mb,rfl,Fm,hm,hF⟩,hb13⟩;have hS13:nD w10 w13:=nE.trans (hb13.mono nE.size);have HM:=nH hm (fun (b:Nat) (q:Fm b)=>nS (tK nE.size (hF b q).1) (hF b q).2) hS13;have hb13':Bk w13 sb 99 (aFg gd gs pos num):=HA.o.2.2.2.1.next hS13 HA.o.2.2.2.1.lt;have x5:w13.cell? ⟨sb,5,none⟩=some (.pointer none):=Bk.at' hb13' rfl;have f5:=hb13'.free 5;obtain⟨w14,hw14⟩:=nC (w13.setCell ⟨sb,5,none⟩ (.pointer (some ⟨mb,0,none⟩)));have H14:=hid (aGf hw14 hb13');clear hm hF hb13 hb13';go_simp;refine hK.out _ _ (fun _ _=>hS13) ?_;clear hK K nE;have nE:=hS13;try simp only[Act.put,tC,tD,tE]
   refine kR 9 ?_;refine kR 10 ?_;refine kR 11 ?_;refine kR 12 ?_;refine kR 13 ?_;refine rM 14 (fun K hK=>?_);go_simp;try rw[hw14]
   refine hK.out _ _ (fun h=>absurd (by decide) h) ?_;clear hK K;try simp only[Act.put,tC,tD,tE]
   refine kR 15 ?_;refine Vs (by kernel_rfl) ?_ _;clear Kq;have a14:Ag (fun b=>b≠sb) w13 w14:=H14.o.2.ag (fun b q r=>q r);have z14:=H14.o.2.size;have HT:=hid (show StX w14 w7.heap.size st mp s2 t2 f2 from(HA.o.2.2.1.next HM.o.2.2).ag (a14.mono (fun b q=>HB.o.2.2 b q)));have HT2:=nH (show aNh w14 Fm mb t2 from HM.o.1.ag (a14.mono (fun b q e=>by have h1:=(HM.o.2.1 b q).1;have h2:=HA.o.2.2.2.1.lt;have e:b=sb:=e;omega))) (fun (b:Nat) (q:Fm b)=>nS (HM.o.2.1 b q).1 (tL (HM.o.2.1 b q).2 z14)) (show ¬Fm sb from fun q=>by have h1:=(HM.o.2.1 sb q).1;have h2:=HA.o.2.2.2.1.lt;omega);have H15:=nF ((HA.o.1.ag (.of_below HM.o.2.2)).ag (F:=F) (a14.mono (fun b q e=>HB.o.1 (by have e:b=sb:=e;exact e▸q)))) (((HA.o.2.1.ag (F:=fun b=>b=gs) (.of_below HM.o.2.2) rfl).ag (F:=fun b=>b=gs) (a14.mono (fun b q e=>HB.o.2.1 (by have q:b=gs:=q;have e:b=sb:=e;exact q.symm.trans e))) rfl));have y5:=(Xx H14.o.1).2.2.2.1;clear a14 z14;go_wp2_with fail
   have hS0:w14.drew.cell? ⟨sb,5,none⟩=some (.pointer (some ⟨mb,0,none⟩)):=y5;have KN:=hid (fun (w':World) (hS:w'.cell? ⟨sb,5,none⟩=some (.pointer (some ⟨mb,0,none⟩)))=>hS);have Kq:=KN;refine wp_region_held_drew (S:=fun w'=>w'.cell? ⟨sb,5,none⟩=some (.pointer (some ⟨mb,0,none⟩))) (by kernel_rfl) (hS0) (fun nE=>?_);refine kF 0 ?_;refine kF 1 ?_;refine kF 2 ?_;refine kF 3 ?_;refine kF 4 ?_;refine rF 5 (fun K hK=>?_);go_simp;refine(aQl (HT.o.next (Xu (Below.refl w14.heap.size w14)))).mono ?_;rintro e w15 ⟨⟨v,rfl,ks,⟨ps,hps⟩,hki⟩,hb15⟩;obtain⟨pA,pc,rfl,hips,hpb⟩:=hps.is;have hb15':nD w14 w15:=(Xu (Below.refl w14.heap.size w14)).trans hb15;have hS15:w15.cell? ⟨sb,5,none⟩=some (.pointer (some ⟨mb,0,none⟩)):=(Xx (H14.o.1.next hb15' H14.o.1.lt)).2.2.2.1;have HP:=nI hips hpb hb15' (aVm HT.o hki hps (tK HA.o.2.2.2.2.1 (tK HN.o.2.2.2 (by decide))));clear hps hki hb15 hips hpb hb15';go_simp;clear nE;refine hK.out _ _ hS15 (fun nE=>?_);clear hK K;try simp only[Act.put,tC,tD,tE]
   refine rF 6 (fun K hK=>?_);go_simp;refine(aJg Fm mb t2 ks.length pc pA ps _ (HT2.o.1.ag (.of_below HP.o.2.2.1)) HP.o.1 HP.o.2.2.2 (fun ad e q=>absurd (HT2.o.2.1 _ q).2 (Nat.not_lt.2 (HP.o.2.1 ad e))) (tK HA.o.2.2.2.2.1 (tK HN.o.2.2.2 (by decide)))).mono ?_;rintro e w16 ⟨rfl,F2,hman,hk16,hs16,hi16⟩;have B16:Bk w16 sb 99 (Vh gd mb gs pos num):=Bk.ag (F:=fun b=>b=sb) (H14.o.1.next HP.o.2.2.1 H14.o.1.lt) (hk16.ag (fun b q r=>HT2.o.2.2 (by have q:b=sb:=q;exact q▸r))) rfl;have hS16:=(Xx B16).2.2.2.1;have HQ:=nJ hman hk16 hs16 hi16 B16;clear hman hk16 hs16 hi16 B16;go_simp;clear nE;refine hK.out _ _ hS16 (fun nE=>?_);clear hK K;try simp only[Act.put,tC,tD,tE]
   refine kF 7 ?_;refine wpAnyH_done (by kernel_rfl) ?_ _;clear Kq;have z1:=H4.o.1.size;have z2:=H6.o.2.2.2.2.1.size;have z3:=H8.o.2.2.1.size;have z4:=HL.o.1.kf.size;have z5:=HA.o.2.2.2.2.2.1.size;have z6:=HM.o.2.2.size;have z7:=H14.o.2.size;have z8:=HP.o.2.2.1.size;have z9:=HQ.o.2.1.size;have HZ:=hid (show w.heap.size≤w4.heap.size∧w4.heap.size≤w6.heap.size∧w6.heap.size≤w8.heap.size∧w8.heap.size≤w10.heap.size∧w10.heap.size≤w15.heap.size∧w15.heap.size≤w16.heap.size from⟨z1,z2,z3,tK z4 z5,tK z6 (tK z7 z8),z9⟩);clear z1 z2 z3 z4 z5 z6 z7 z8 z9;have HFm:=hid (fun (b:Nat) (q:Fm b)=>(HT2.o.2.1 b q).1);have hF2:∀b,F2 b→gs<b:=fun b q=>(HQ.o.2.2.1 b q).elim (fun r=>tL (tL H6.o.2.2.2.2.2 (tK HZ.o.2.2.1 HZ.o.2.2.2.1)) (HFm.o b r)) (fun r=>tL (tL H6.o.2.2.2.2.2 (tK HZ.o.2.2.1 (tK HZ.o.2.2.2.1 HZ.o.2.2.2.2.1))) r)
   have hnm:∀b,Fm b→w6.heap.size≤b:=fun b q=>tK (tK HZ.o.2.2.1 HZ.o.2.2.2.1) (HFm.o b q)
   have hD16:Ul w16 F gd cs true:=(H15.o.1.ag (.of_below HP.o.2.2.1)).ag (HQ.o.2.1.ag (F:=F) (fun b q r=>tT b (tL (tL (H4.o.2.2.2 b q) (tK HZ.o.1 HZ.o.2.1)) (hnm b r))));have hS16':Uz w16 gd gs inn sv tb count:=(H15.o.2.ag (F:=fun b=>b=gs) (.of_below HP.o.2.2.1) rfl).ag (F:=fun b=>b=gs) (HQ.o.2.1.ag (fun b q r=>tT b (by have q:b=gs:=q;exact tL (q▸H6.o.2.2.2.2.2) (hnm b r)))) rfl;have K6:Kf F w w6:=(Kf.of_below (F:=F) H4.o.1).trans H6.o.2.2.2.2.1 (fun b q=>q.imp id (fun (q:b=sb)=>q▸H4.o.2.1));have K9:Kf F w w9:=(K6.trans (Kf.of_below (F:=fun _=>False) H8.o.2.2.1) (fun b q=>q.elim)).trans HL.o.1.kf (fun b q=>.inl q)
   have K10:Kf F w w10:=K9.trans HA.o.2.2.2.2.2.1 (fun b q=>.inr (by
    have h7:w.heap.size≤w7.heap.size:=tK (tK HZ.o.1 HZ.o.2.1) H8.o.2.2.2.2.1.size;rcases q with q|q|q
    · exact q▸H4.o.2.1
    · exact q▸tK h7 H8.o.1.g0
    · exact q▸tK h7 H8.o.1.g1))
   have K15:Kf F w w15:=((K10.trans (Kf.of_below (F:=fun _=>False) HM.o.2.2) (fun b q=>q.elim)).trans H14.o.2 (fun b q=>.inr (by have q:b=sb:=q;exact q▸H4.o.2.1))).trans (Kf.of_below (F:=fun _=>False) HP.o.2.2.1) (fun b q=>q.elim);have K16:Kf F w w16:=K15.trans HQ.o.2.1 (fun b q=>.inr (tK (tK HZ.o.1 HZ.o.2.1) (hnm b q)))
   have HE:=hid (show ∃F' Ft,Kd w16 F' Ft sb gd mb gs p pos num count (cs.map List.length) (msB t2) (T+4)∧Kf F w w16∧Sb w F F'∧In w16 F' from by
    obtain⟨F',Ft,e1,e2,e3⟩:=Kd.made (w:=w) (w':=w16) (lz:=p) H4.o.2.2.2 H4.o.2.1 H6.o.2.2.2.1 hF2 HQ.o.2.2.2.2 (HQ.o.1.upTo (bBu HA.o.2.2.2.2.1) (bBv HN.o.2.2.2)) ⟨cs,hD16,rfl,HC.o.2.2.1.up (tR T 4)⟩ ⟨inn,sv,tb,hS16'⟩ (tL H6.o.2.2.2.2.2 (tK HZ.o.2.2.1 (tK HZ.o.2.2.2.1 (tK HZ.o.2.2.2.2.1 HZ.o.2.2.2.2.2)))) K16.size HN.o.1 HN.o.2.1 (tK HA.o.2.2.2.2.2.2.1 (tK (tO HL.o.2.1) HN.o.2.2.1)) HA.o.2.2.2.2.2.2.2.1 (tK HC.o.1 (tR T 4));exact⟨F',Ft,e1,K16,e2,e3⟩)
   clear hF2 hnm hD16 hS16' K6 K9 K10 K15 K16;have hpp:pos=p:=(HA.o.2.2.2.2.2.2.2.2 (by first|rfl|trivial)).trans HL.o.2.1
   have HE3:=hid (show ∃F' pos t,(t≤T∧pos≤p)∧Sto w16 F' sb (gp gd) pos (msB t) (T+5)∧Kf F w w16∧Sb w F F'∧In w16 F' from by
    obtain⟨F',Ft,e1,e2,e3,e4⟩:=HE.o;have e5:=e1.up (aVh HN.o.2.2.2);rw[hpp] at e5;exact⟨F',p,t2,⟨HA.o.2.2.2.2.1,lR⟩,⟨Ft,gd,mb,gs,num,count,_,rfl,e5⟩,e2,e3,e4⟩)
   clear hpp;go_wp2_with fail
   go_ret2
   exact⟨sb,rfl,HE3.o⟩
 | true =>
   go_wp2_with fail
   have Kq:=KM;refine Vn (fun w'=>nD w10 w') [14] (by kernel_rfl) (Xu nB) (fun nE=>?_);refine kR 0 ?_;refine kR 1 ?_;refine kR 4 ?_;refine kR 5 ?_;refine kR 6 ?_;refine kM 7 ?_;refine rM 2 (fun K hK=>?_);go_simp;refine(aOc (HA.o.1.dev.ag (.of_below nE))).mono ?_;rintro e w11 ⟨rfl,hb11⟩;have hS11:nD w10 w11:=nE.trans (hb11.mono nE.size);clear hb11;go_simp;refine hK.out _ _ (fun _ _=>hS11) ?_;clear hK K nE;have nE:=hS11;try simp only[Act.put,tC,tD,tE]
   refine rM 3 (fun K hK=>?_);go_simp;refine(aNu _).mono ?_;rintro e w12 ⟨rfl,hb12⟩;have hS12:nD w10 w12:=nE.trans (hb12.mono nE.size);clear hb12;go_simp;refine hK.out _ _ (fun _ _=>hS12) ?_;clear hK K nE;have nE:=hS12;try simp only[Act.put,tC,tD,tE]
   refine rM 8 (fun K hK=>?_);go_simp;refine(aMf t2 _ (tK HA.o.2.2.2.2.1 (tK HN.o.2.2.2 (by decide)))).mono ?_;rintro e w13 ⟨⟨mb,rfl,Fm,hm,hF⟩,hb13⟩;have hS13:nD w10 w13:=nE.trans (hb13.mono nE.size);have HM:=nH hm (fun (b:Nat) (q:Fm b)=>nS (tK nE.size (hF b q).1) (hF b q).2) hS13;have hb13':Bk w13 sb 99 (aFg gd gs pos num):=HA.o.2.2.2.1.next hS13 HA.o.2.2.2.1.lt;have x5:w13.cell? ⟨sb,5,none⟩=some (.pointer none):=Bk.at' hb13' rfl;have f5:=hb13'.free 5;obtain⟨w14,hw14⟩:=nC (w13.setCell ⟨sb,5,none⟩ (.pointer (some ⟨mb,0,none⟩)));have H14:=hid (aGf hw14 hb13');clear hm hF hb13 hb13';go_simp;refine hK.out _ _ (fun _ _=>hS13) ?_;clear hK K nE;have nE:=hS13;try simp only[Act.put,tC,tD,tE]
   refine kR 9 ?_;refine kR 10 ?_;refine kR 11 ?_;refine kR 12 ?_;refine kR 13 ?_;refine rM 14 (fun K hK=>?_);go_simp;try rw[hw14]
   refine hK.out _ _ (fun h=>absurd (by decide) h) ?_;clear hK K;try simp only[Act.put,tC,tD,tE]
   refine kR 15 ?_;refine Vs (by kernel_rfl) ?_ _;clear Kq;have a14:Ag (fun b=>b≠sb) w13 w14:=H14.o.2.ag (fun b q r=>q r);have z14:=H14.o.2.size;have HT:=hid (show StX w14 w7.heap.size st mp s2 t2 f2 from(HA.o.2.2.1.next HM.o.2.2).ag (a14.mono (fun b q=>HB.o.2.2 b q)));have HT2:=nH (show aNh w14 Fm mb t2 from HM.o.1.ag (a14.mono (fun b q e=>by have h1:=(HM.o.2.1 b q).1;have h2:=HA.o.2.2.2.1.lt;have e:b=sb:=e;omega))) (fun (b:Nat) (q:Fm b)=>nS (HM.o.2.1 b q).1 (tL (HM.o.2.1 b q).2 z14)) (show ¬Fm sb from fun q=>by have h1:=(HM.o.2.1 sb q).1;have h2:=HA.o.2.2.2.1.lt;omega);have H15:=nF ((HA.o.1.ag (.of_below HM.o.2.2)).ag (F:=F) (a14.mono (fun b q e=>HB.o.1 (by have e:b=sb:=e;exact e▸q)))) (((HA.o.2.1.ag (F:=fun b=>b=gs) (.of_below HM.o.2.2) rfl).ag (F:=fun b=>b=gs) (a14.mono (fun b q e=>HB.o.2.1 (by have q:b=gs:=q;have e:b=sb:=e;exact q.symm.trans e))) rfl));have y5:=(Xx H14.o.1).2.2.2.1;clear a14 z14;go_wp2_with fail
   have hS0:w14.drew.cell? ⟨sb,5,none⟩=some (.pointer (some ⟨mb,0,none⟩)):=y5;have KN:=hid (fun (w':World) (hS:w'.cell? ⟨sb,5,none⟩=some (.pointer (some ⟨mb,0,none⟩)))=>hS);have Kq:=KN;refine wp_region_held_drew (S:=fun w'=>w'.cell? ⟨sb,5,none⟩=some (.pointer (some ⟨mb,0,none⟩))) (by kernel_rfl) (hS0) (fun nE=>?_);refine kF 0 ?_;refine kF 1 ?_;refine kF 2 ?_;refine kF 3 ?_;refine kF 4 ?_;refine rF 5 (fun K hK=>?_);go_simp;refine(aQl (HT.o.next (Xu (Below.refl w14.heap.size w14)))).mono ?_;rintro e w15 ⟨⟨v,rfl,ks,⟨ps,hps⟩,hki⟩,hb15⟩;obtain⟨pA,pc,rfl,hips,hpb⟩:=hps.is;have hb15':nD w14 w15:=(Xu (Below.refl w14.heap.size w14)).trans hb15;have hS15:w15.cell? ⟨sb,5,none⟩=some (.pointer (some ⟨mb,0,none⟩)):=(Xx (H14.o.1.next hb15' H14.o.1.lt)).2.2.2.1;have HP:=nI hips hpb hb15' (aVm HT.o hki hps (tK HA.o.2.2.2.2.1 (tK HN.o.2.2.2 (by decide))));clear hps hki hb15 hips hpb hb15';go_simp;clear nE;refine hK.out _ _ hS15 (fun nE=>?_);clear hK K;try simp only[Act.put,tC,tD,tE]
   refine rF 6 (fun K hK=>?_);go_simp;refine(aJg Fm mb t2 ks.length pc pA ps _ (HT2.o.1.ag (.of_below HP.o.2.2.1)) HP.o.1 HP.o.2.2.2 (fun ad e q=>absurd (HT2.o.2.1 _ q).2 (Nat.not_lt.2 (HP.o.2.1 ad e))) (tK HA.o.2.2.2.2.1 (tK HN.o.2.2.2 (by decide)))).mono ?_;rintro e w16 ⟨rfl,F2,hman,hk16,hs16,hi16⟩;have B16:Bk w16 sb 99 (Vh gd mb gs pos num):=Bk.ag (F:=fun b=>b=sb) (H14.o.1.next HP.o.2.2.1 H14.o.1.lt) (hk16.ag (fun b q r=>HT2.o.2.2 (by have q:b=sb:=q;exact q▸r))) rfl;have hS16:=(Xx B16).2.2.2.1;have HQ:=nJ hman hk16 hs16 hi16 B16;clear hman hk16 hs16 hi16 B16;go_simp;clear nE;refine hK.out _ _ hS16 (fun nE=>?_);clear hK K;try simp only[Act.put,tC,tD,tE]
   refine kF 7 ?_;refine wpAnyH_done (by kernel_rfl) ?_ _;clear Kq;have z1:=H4.o.1.size;have z2:=H6.o.2.2.2.2.1.size;have z3:=H8.o.2.2.1.size;have z4:=HL.o.1.kf.size;have z5:=HA.o.2.2.2.2.2.1.size;have z6:=HM.o.2.2.size;have z7:=H14.o.2.size;have z8:=HP.o.2.2.1.size;have z9:=HQ.o.2.1.size;have HZ:=hid (show w.heap.size≤w4.heap.size∧w4.heap.size≤w6.heap.size∧w6.heap.size≤w8.heap.size∧w8.heap.size≤w10.heap.size∧w10.heap.size≤w15.heap.size∧w15.heap.size≤w16.heap.size from⟨z1,z2,z3,tK z4 z5,tK z6 (tK z7 z8),z9⟩);clear z1 z2 z3 z4 z5 z6 z7 z8 z9;have HFm:=hid (fun (b:Nat) (q:Fm b)=>(HT2.o.2.1 b q).1);have hF2:∀b,F2 b→gs<b:=fun b q=>(HQ.o.2.2.1 b q).elim (fun r=>tL (tL H6.o.2.2.2.2.2 (tK HZ.o.2.2.1 HZ.o.2.2.2.1)) (HFm.o b r)) (fun r=>tL (tL H6.o.2.2.2.2.2 (tK HZ.o.2.2.1 (tK HZ.o.2.2.2.1 HZ.o.2.2.2.2.1))) r)
   have hnm:∀b,Fm b→w6.heap.size≤b:=fun b q=>tK (tK HZ.o.2.2.1 HZ.o.2.2.2.1) (HFm.o b q)
   have hD16:Ul w16 F gd cs true:=(H15.o.1.ag (.of_below HP.o.2.2.1)).ag (HQ.o.2.1.ag (F:=F) (fun b q r=>tT b (tL (tL (H4.o.2.2.2 b q) (tK HZ.o.1 HZ.o.2.1)) (hnm b r))));have hS16':Uz w16 gd gs inn sv tb count:=(H15.o.2.ag (F:=fun b=>b=gs) (.of_below HP.o.2.2.1) rfl).ag (F:=fun b=>b=gs) (HQ.o.2.1.ag (fun b q r=>tT b (by have q:b=gs:=q;exact tL (q▸H6.o.2.2.2.2.2) (hnm b r)))) rfl;have K6:Kf F w w6:=(Kf.of_below (F:=F) H4.o.1).trans H6.o.2.2.2.2.1 (fun b q=>q.imp id (fun (q:b=sb)=>q▸H4.o.2.1));have K9:Kf F w w9:=(K6.trans (Kf.of_below (F:=fun _=>False) H8.o.2.2.1) (fun b q=>q.elim)).trans HL.o.1.kf (fun b q=>.inl q)
   have K10:Kf F w w10:=K9.trans HA.o.2.2.2.2.2.1 (fun b q=>.inr (by
    have h7:w.heap.size≤w7.heap.size:=tK (tK HZ.o.1 HZ.o.2.1) H8.o.2.2.2.2.1.size;rcases q with q|q|q
    · exact q▸H4.o.2.1
    · exact q▸tK h7 H8.o.1.g0
    · exact q▸tK h7 H8.o.1.g1))
   have K15:Kf F w w15:=((K10.trans (Kf.of_below (F:=fun _=>False) HM.o.2.2) (fun b q=>q.elim)).trans H14.o.2 (fun b q=>.inr (by have q:b=sb:=q;exact q▸H4.o.2.1))).trans (Kf.of_below (F:=fun _=>False) HP.o.2.2.1) (fun b q=>q.elim);have K16:Kf F w w16:=K15.trans HQ.o.2.1 (fun b q=>.inr (tK (tK HZ.o.1 HZ.o.2.1) (hnm b q)))
   have HE:=hid (show ∃F' Ft,Kd w16 F' Ft sb gd mb gs p pos num count (cs.map List.length) (msB t2) (T+4)∧Kf F w w16∧Sb w F F'∧In w16 F' from by
    obtain⟨F',Ft,e1,e2,e3⟩:=Kd.made (w:=w) (w':=w16) (lz:=p) H4.o.2.2.2 H4.o.2.1 H6.o.2.2.2.1 hF2 HQ.o.2.2.2.2 (HQ.o.1.upTo (bBu HA.o.2.2.2.2.1) (bBv HN.o.2.2.2)) ⟨cs,hD16,rfl,HC.o.2.2.1.up (tR T 4)⟩ ⟨inn,sv,tb,hS16'⟩ (tL H6.o.2.2.2.2.2 (tK HZ.o.2.2.1 (tK HZ.o.2.2.2.1 (tK HZ.o.2.2.2.2.1 HZ.o.2.2.2.2.2)))) K16.size HN.o.1 HN.o.2.1 (tK HA.o.2.2.2.2.2.2.1 (tK (tO HL.o.2.1) HN.o.2.2.1)) HA.o.2.2.2.2.2.2.2.1 (tK HC.o.1 (tR T 4));exact⟨F',Ft,e1,K16,e2,e3⟩)
   clear hF2 hnm hD16 hS16' K6 K9 K10 K15 K16;obtain⟨F',Ft,e1,e2,e3,e4⟩:=HE.o;have hck:=aDn e1 (aVh HN.o.2.2.2);have HE2:=nH e2 e3 e4;clear e1 e2 e3 e4;go_wp2_with fail
   refine hck.mono ?_;rintro e w17 ⟨rfl,hR17⟩;obtain⟨F9,r1,r2,r3,r4⟩:=hR17;have HE3:=hid (show ∃F' pos t,(t≤T∧pos≤p)∧Sto w17 F' sb (gp gd) pos (msB t) (T+5)∧Kf F w w17∧Sb w F F'∧In w17 F' from⟨F9,0,t2,⟨HA.o.2.2.2.2.1,zL⟩,r1,HE2.o.1.trans r2 (fun b q=>HE2.o.2.1 b q),fun b q=>(r3 b q).elim (fun r=>HE2.o.2.1 b r) (fun r=>.inr (tK HE2.o.1.size r)),r4⟩);clear hck r1 r2 r3 r4;go_wp2_with fail
   go_ret2
   exact⟨sb,rfl,HE3.o⟩
end Go.Proofs.YtdhlicgaalnmoaaGreatDoor.Tp
