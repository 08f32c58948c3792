/- Contracts of the program's functions, and laws on memory: a part of the proof of TopAlone. -/
import Derived.Test.YtdhlicgaalnmoaaGreatDoorZH
set_option linter.unusedSimpArgs false
set_option linter.unusedVariables false
namespace Go.Proofs.YtdhlicgaalnmoaaGreatDoor.Tp
open Lib (hid)
open Tryz
open Go.RowKit Go.Maps
set_option maxHeartbeats 8000000
set_option maxRecDepth 100000
theorem Ul.mx {w:World} {F:Xt} {gd:Nat} {cs:List (List (List Int))} {gf:Bool} (h:Ul w F gd cs gf) {i:Nat} {c:List (List Int)} (hi:cs[i]? =some c):c.length≤96:=by
 obtain⟨_,_,_,_,zs,z,hx,_,_,_,hz,hc⟩:=aEx h hi;rw[←hc.n];exact hx.mx z (tZ hz)
theorem aFy {w:World} {F:Xt} {gd:Nat} {cs:List (List (List Int))} {gf:Bool} (h:Ul w F gd cs gf) {i:Nat} {c:List (List Int)} (hi:cs[i]? =some c):Calls prog 48 #[.pointer (some ⟨gd,0,none⟩),.int .i64 (i:Int)] w fun e w'=>e=.returned (.tuple #[.int .i64 (c.length:Int),.int .i64 0])∧w=w' :=
 aMk h.dev (by rw[rW,hi];rfl)
def Kk:List (List (List Int))→List (List Int)
 | []=>[]
 | c::r=>if c.length<96 then c else c++Kk r
theorem Ux.kf {w w0 w':World} {F:Xt} {B:Nat} {v:Value} {xs:List BR} (h:Ux w B v xs) (k:Kf F w w') (hF:∀b,F b→b<B):Ux w' B v xs :=
 ⟨Vj (F:=fun b=>B≤b) h.own (k.ag fun b q r=>by have:=hF b r;omega) (fun g q=>Xv h.own q),fun x hx=>(h.y x hx).ag (k.ag (F:=fun _=>False) fun _ q=>q.elim)⟩
structure BlX (w wr:World) (F:Xt) (gd gs:Nat) (cs:List (List (List Int))) (gf:Bool) (sc:List Value) (ov:Value) (xs:List BR):Prop where
 dev:Ul wr F gd cs gf
 kf:Kf F w wr
 row:Ux wr w.heap.size ov xs
 bx:Bk wr gs 182 sc
section
variable {w wr w9 w':World} {F:Xt} {gd gs:Nat} {cs:List (List (List Int))} {gf:Bool} {sc:List Value} {ov v':Value} {xs:List BR}
theorem BlX.kfs (h:BlX w wr F gd gs cs gf sc ov xs) (hI:In w F) (hs:¬F gs) (hd:Ul w9 F gd cs gf) (k:Kf F wr w9):BlX w w9 F gd gs cs gf sc ov xs :=
 ⟨hd,h.kf.trans k (fun b q=>.inl q),h.row.kf (w0:=w) k hI,Bk.ag (F:=fun b=>b=gs) h.bx (k.ag fun b q r=>hs (q▸r)) rfl⟩
theorem BlX.push (h:BlX w w9 F gd gs cs gf sc ov xs) (hI:In w F) (hb:nD w9 wr) {A:Option Addr} {cp:Nat} {ys:List Int} (hy:IsY w9 A 64 cp ys) (hO:w'.ownsRow w.heap.size 41 1 v' (xs.length+1) (xs.map BR.cell++[.slice A 64 cp])) (hG:wr.grownBy w' ov.ownBlock):BlX w w' F gd gs cs gf sc v' (xs++[⟨A,cp,ys⟩]):=by
 have hrow:=Vg h.row.own hb;have ge:∀g,ov.ownBlock=some g→w.heap.size≤g:=fun g e=>Xv hrow e
 have agF:Ag F wr w':=Ag.grown hrow (by decide) hG (fun b e r=>by have:=ge b e;have:=hI b r;omega);have ag0:Ag (fun _=>False) wr w':=Ag.grown hrow (by decide) hG (fun _ _ q=>q);have hbx:=h.bx.next hb h.bx.lt;refine⟨(h.dev.ag (.of_below hb)).ag agF,(h.kf.next hb).grown hrow hG (fun g e=>.inr (ge g e)),⟨by rw[rH,rI];exact hO,fun x hx=>?_⟩,Bk.ag (F:=fun b=>b=gs) hbx (Ag.grown hrow (by decide) hG (fun b e q=>Vc hrow hbx (by decide) (q▸e))) rfl⟩;rcases rE.1 hx with s|s
 · exact((h.row.y x s).ag (F:=fun _=>False) (.of_below hb)).ag ag0
 · obtain rfl:x=_:=by simpa using s
   exact(hy.ag (F:=fun _=>False) (.of_below hb)).ag ag0
end
theorem aMr {cs:List (List (List Int))} {z e:Nat} {c:List (List Int)} (hc:cs[z]? =some c) (hz:z<e):(cs.drop z).take (e - z)=c::(cs.drop (z+1)).take (e - (z+1)):=by
 have hl:=(rB.1 hc).1;rw[List.drop_eq_getElem_cons hl,show e - z=(e - (z+1))+1 by omega,List.take_succ_cons,(rB.1 hc).2]
def BCI (w:World) (F:Xt) (gd gs z n:Nat) (cs:List (List (List Int))) (gf:Bool) (sc:List Value) (c bl:List (List Int)) (c1 c2 c3 c6 c7 qM qX jC jK jL jM jN jO jP jQ jR jS jT jU jV jW jX jY jZ zB zC zD zE zF zG zH yC yE yF yG yH yI yJ:Value) (a:Act) (wr:World):Prop :=
 ∃u4 u8 u9 xW kB kC kG kH kI kJ kK kN kO kP kQ kT kU kV kW kX kZ hC:Value,(∃(j:Nat) (ys:List BR),j≤n∧kB=.int .i64 (j:Int)∧BlX w wr F gd gs cs gf sc u4 ys∧ys.map BR.bs=bl++c.take j)∧a=⟨#[.pointer (some ⟨gs,0,none⟩),c1,c2,c3,u4,.int .i64 (z:Int),c6,c7,u8,u9,xW,qM,qX,jC,jK,jL,jM,jN,jO,jP,jQ,jR,jS,jT,jU,jV,jW,jX,jY,jZ,zB,zC,zD,zE,zF,zG,zH,.int .i64 (n:Int),kB,kC,kG,kH,kI,kJ,kK,kN,kO,kP,kQ,kT,kU,kV,kW,kX,kZ,hC,yC,yE,yF,yG,yH,yI,yJ],[]⟩
theorem BCI.mk {w wr:World} {F:Xt} {gd gs z n:Nat} {cs:List (List (List Int))} {gf:Bool} {sc:List Value} {c bl:List (List Int)} {c1 c2 c3 c6 c7 qM qX jC jK jL jM jN jO jP jQ jR jS jT jU jV jW jX jY jZ zB zC zD zE zF zG zH yC yE yF yG yH yI yJ:Value} {u4 u8 u9 xW kB kC kG kH kI kJ kK kN kO kP kQ kT kU kV kW kX kZ hC:Value} (h:∃(j:Nat) (ys:List BR),j≤n∧kB=.int .i64 (j:Int)∧BlX w wr F gd gs cs gf sc u4 ys∧ys.map BR.bs=bl++c.take j):BCI w F gd gs z n cs gf sc c bl c1 c2 c3 c6 c7 qM qX jC jK jL jM jN jO jP jQ jR jS jT jU jV jW jX jY jZ zB zC zD zE zF zG zH yC yE yF yG yH yI yJ ⟨#[.pointer (some ⟨gs,0,none⟩),c1,c2,c3,u4,.int .i64 (z:Int),c6,c7,u8,u9,xW,qM,qX,jC,jK,jL,jM,jN,jO,jP,jQ,jR,jS,jT,jU,jV,jW,jX,jY,jZ,zB,zC,zD,zE,zF,zG,zH,.int .i64 (n:Int),kB,kC,kG,kH,kI,kJ,kK,kN,kO,kP,kQ,kT,kU,kV,kW,kX,kZ,hC,yC,yE,yF,yG,yH,yI,yJ],[]⟩ wr:=⟨u4,u8,u9,xW,kB,kC,kG,kH,kI,kJ,kK,kN,kO,kP,kQ,kT,kU,kV,kW,kX,kZ,hC,h,rfl⟩
def aXq (n:Nat) (a:Act) (_:World):Nat:=n - (intOf (a.tmps.getD 38 undef)).toNat
theorem aPf {gs z n:Nat} {w:World} {x:Int} {c1 c2 c3 c6 c7 qM qX jC jK jL jM jN jO jP jQ jR jS jT jU jV jW jX jY jZ zB zC zD zE zF zG zH yC yE yF yG yH yI yJ u4 u8 u9 xW kC kG kH kI kJ kK kN kO kP kQ kT kU kV kW kX kZ hC:Value}:aXq n ⟨#[.pointer (some ⟨gs,0,none⟩),c1,c2,c3,u4,.int .i64 (z:Int),c6,c7,u8,u9,xW,qM,qX,jC,jK,jL,jM,jN,jO,jP,jQ,jR,jS,jT,jU,jV,jW,jX,jY,jZ,zB,zC,zD,zE,zF,zG,zH,.int .i64 (n:Int),.int .i64 x,kC,kG,kH,kI,kJ,kK,kN,kO,kP,kQ,kT,kU,kV,kW,kX,kZ,hC,yC,yE,yF,yG,yH,yI,yJ],[]⟩ w=n - x.toNat:=rfl
theorem aTn (w wr:World) (F:Xt) (gd gs z n:Nat) (cs:List (List (List Int))) (gf:Bool) (sc:List Value) (c bl:List (List Int)) (j:Nat) (ys:List BR) (c1 c2 c3 c6 c7 qM qX jC jK jL jM jN jO jP jQ jR jS jT jU jV jW jX jY jZ zB zC zD zE zF zG zH yC yE yF yG yH yI yJ u4 u8 u9 xW kC kG kH kI kJ kK kN kO kP kQ kT kU kV kW kX kZ hC:Value) (Q0:Exit→Act→World→Prop)
  (hAT:∀w',Bk w' gs 182 sc→w'.cell? ⟨gs,0,none⟩=some (.pointer (some ⟨gd,0,none⟩))) (hI:In w F) (hs:¬F gs) (hc:cs[z]? =some c) (hn:c.length=n) (h96:n≤96) (hS:bl.length≤1000)
  (hX:BlX w wr F gd gs cs gf sc u4 ys) (hy:ys.map BR.bs=bl++c.take j) (hlt:j<n) :
  Code.wp prog (aBn f136 0 0) (Exit.then (fun a' w''=>BCI w F gd gs z n cs gf sc c bl c1 c2 c3 c6 c7 qM qX jC jK jL jM jN jO jP jQ jR jS jT jU jV jW jX jY jZ zB zC zD zE zF zG zH yC yE yF yG yH yI yJ a' w''∧aXq n a' w'' <aXq n ⟨#[.pointer (some ⟨gs,0,none⟩),c1,c2,c3,u4,.int .i64 (z:Int),c6,c7,u8,u9,xW,qM,qX,jC,jK,jL,jM,jN,jO,jP,jQ,jR,jS,jT,jU,jV,jW,jX,jY,jZ,zB,zC,zD,zE,zF,zG,zH,.int .i64 (n:Int),.int .i64 (j:Int),kC,kG,kH,kI,kJ,kK,kN,kO,kP,kQ,kT,kU,kV,kW,kX,kZ,hC,yC,yE,yF,yG,yH,yI,yJ],[]⟩ wr) Q0) ⟨#[.pointer (some ⟨gs,0,none⟩),c1,c2,c3,u4,.int .i64 (z:Int),c6,c7,u8,u9,xW,qM,qX,jC,jK,jL,jM,jN,jO,jP,jQ,jR,jS,jT,jU,jV,jW,jX,jY,jZ,zB,zC,zD,zE,zF,zG,zH,.int .i64 (n:Int),.int .i64 (j:Int),kC,kG,kH,kI,kJ,kK,kN,kO,kP,kQ,kT,kU,kV,kW,kX,kZ,hC,yC,yE,yF,yG,yH,yI,yJ],[]⟩ wr:=by
 obtain⟨xi,xz,hxi,hxz,hx5,hx56,hxc⟩:=aFw;have hjc:j<c.length:=by rw[hn];exact hlt
 obtain⟨b,hb⟩:∃b,c[j]? =some b:=⟨_,tX hjc⟩
 have hd:=aPk hX.dev hc hb;have e0:=hAT wr hX.bx;obtain⟨n1,n2,m2⟩:=aFv hlt (by omega);obtain⟨vA,vc,rfl⟩:=Xs hX.row.own
 have hy5:ys.length≤1000000:=by
  have:=congrArg List.length hy;rw[rU,rH,rJ] at this;omega
 have hy':ys.map BR.bs++[b]=bl++c.take (j+1):=by rw[hy,List.append_assoc,List.take_add_one,hb];rfl
 have HE:=nJ hX hI hs hlt hy';clear hAT hI hs hc hn h96 hS hX hy hlt hjc hb hy';conv=>arg 2;whnf
 go_wp2_with fail
 refine hd.mono ?_;rintro e w1 ⟨A,cp,rfl,hyA,hd1,hk1⟩;have hX1:=HE.o.1.kfs HE.o.2.1 HE.o.2.2.1 hd1 hk1;obtain⟨wD,hwD⟩:=nC (w1.alloc (.cells #[.slice A 64 cp] 41));have hBD:Bk wD w1.heap.size 41 [.slice A 64 cp]:=by rw[←hwD];exact Bk.new w1 _ _
 have hbD:nD w1 wD:=by rw[←hwD];exact nB.alloc lR _
 have HD:=nJ hBD hX1 hbD hyA (Vg hX1.row.own hbD);clear hd hX1 hd1 hk1 hBD hbD hyA;go_wp2_with (at_builtin;go_must (refine aAc _ rfl _ _ 133 rfl w.heap.size 41 xi xz 1 24 underlying133 hxi hxz hx5 hx56 hxc (by decide) _ _ _ (by rfl) (by exact HD.o.2.2.2.2) _ [.slice A 64 cp] (by rfl) (by exact HD.o.1) rfl (by intro u hu;simp at hu;rcases hu with rfl<;>rfl) (by exact hy5) (by decide) (by exact tK HD.o.2.1.kf.size HD.o.2.2.1.size) ?_);intro v9 w9 hO9 hG9 hv9;obtain⟨sA,sc9,rfl⟩:=Xs hO9)
 have hG9':wD.grownBy w9 (Value.slice vA ys.length vc).ownBlock:=hG9;have HZ:=hid (BlX.push HD.o.2.1 HE.o.2.1 HD.o.2.2.1 HD.o.2.2.2.1 hO9 hG9');clear hO9 hG9 hG9' hv9 e0;go_wp2_with fail
 refine⟨?_,?_⟩
 · refine BCI.mk ?_;exact⟨j+1,_,HE.o.2.2.2.1,Va (by first|rfl|exact m2),HZ.o,by rw[rI];exact HE.o.2.2.2.2⟩
 · rw[aPf,aPf];exact Xw HE.o.2.2.2.1 (by first|rfl|exact m2)
theorem bCk (gs z n j:Nat) (w'':World) (c1 c2 c3 c6 c7 qM qX jC jK jL jM jN jO jP jQ jR jS jT jU jV jW jX jY jZ zB zC zD zE zF zG zH yC yE yF yG yH yI yJ u4 u8 u9 xW kC kG kH kI kJ kK kN kO kP kQ kT kU kV kW kX kZ hC:Value) (Q:Exit→Act→World→Prop) (hk:j=n) (h:∀kC:Value,Q (.exit 2) ⟨#[.pointer (some ⟨gs,0,none⟩),c1,c2,c3,u4,.int .i64 (z:Int),c6,c7,u8,u9,xW,qM,qX,jC,jK,jL,jM,jN,jO,jP,jQ,jR,jS,jT,jU,jV,jW,jX,jY,jZ,zB,zC,zD,zE,zF,zG,zH,.int .i64 (n:Int),.int .i64 (j:Int),kC,kG,kH,kI,kJ,kK,kN,kO,kP,kQ,kT,kU,kV,kW,kX,kZ,hC,yC,yE,yF,yG,yH,yI,yJ],[]⟩ w'') :
  Code.wp prog (aBn f136 0 0) Q ⟨#[.pointer (some ⟨gs,0,none⟩),c1,c2,c3,u4,.int .i64 (z:Int),c6,c7,u8,u9,xW,qM,qX,jC,jK,jL,jM,jN,jO,jP,jQ,jR,jS,jT,jU,jV,jW,jX,jY,jZ,zB,zC,zD,zE,zF,zG,zH,.int .i64 (n:Int),.int .i64 (j:Int),kC,kG,kH,kI,kJ,kK,kN,kO,kP,kQ,kT,kU,kV,kW,kX,kZ,hC,yC,yE,yF,yG,yH,yI,yJ],[]⟩ w'':=by
 subst hk;have n0:¬(j:Int)<(j:Int):=Int.lt_irrefl _;conv=>arg 2;whnf
 go_wp2_with fail
 exact h _
theorem aXp (w wr:World) (F:Xt) (gd gs z n:Nat) (cs:List (List (List Int))) (gf:Bool) (sc:List Value) (c bl:List (List Int)) (c1 c2 c3 c6 c7 qM qX jC jK jL jM jN jO jP jQ jR jS jT jU jV jW jX jY jZ zB zC zD zE zF zG zH yC yE yF yG yH yI yJ u4 u8 u9 xW kB kC kG kH kI kJ kK kN kO kP kQ kT kU kV kW kX kZ hC:Value) (Q0:Exit→Act→World→Prop)
  (hAT:∀w',Bk w' gs 182 sc→w'.cell? ⟨gs,0,none⟩=some (.pointer (some ⟨gd,0,none⟩))) (hI:In w F) (hs:¬F gs) (hc:cs[z]? =some c) (hn:c.length=n) (h96:n≤96) (hS:bl.length≤1000)
  (h0:∃(j:Nat) (ys:List BR),j≤n∧kB=.int .i64 (j:Int)∧BlX w wr F gd gs cs gf sc u4 ys∧ys.map BR.bs=bl++c.take j)
  (hexit:∀(u4 u8 u9 xW kB kC kG kH kI kJ kK kN kO kP kQ kT kU kV kW kX kZ hC:Value) (w':World),(∃ys:List BR,BlX w w' F gd gs cs gf sc u4 ys∧ys.map BR.bs=bl++c)→Q0 (.exit 2) ⟨#[.pointer (some ⟨gs,0,none⟩),c1,c2,c3,u4,.int .i64 (z:Int),c6,c7,u8,u9,xW,qM,qX,jC,jK,jL,jM,jN,jO,jP,jQ,jR,jS,jT,jU,jV,jW,jX,jY,jZ,zB,zC,zD,zE,zF,zG,zH,.int .i64 (n:Int),kB,kC,kG,kH,kI,kJ,kK,kN,kO,kP,kQ,kT,kU,kV,kW,kX,kZ,hC,yC,yE,yF,yG,yH,yI,yJ],[]⟩ w') :
  Code.wp prog (Code.loop (aBn f136 0 0)) Q0 ⟨#[.pointer (some ⟨gs,0,none⟩),c1,c2,c3,u4,.int .i64 (z:Int),c6,c7,u8,u9,xW,qM,qX,jC,jK,jL,jM,jN,jO,jP,jQ,jR,jS,jT,jU,jV,jW,jX,jY,jZ,zB,zC,zD,zE,zF,zG,zH,.int .i64 (n:Int),kB,kC,kG,kH,kI,kJ,kK,kN,kO,kP,kQ,kT,kU,kV,kW,kX,kZ,hC,yC,yE,yF,yG,yH,yI,yJ],[]⟩ wr:=by
 refine wp_loop (BCI w F gd gs z n cs gf sc c bl c1 c2 c3 c6 c7 qM qX jC jK jL jM jN jO jP jQ jR jS jT jU jV jW jX jY jZ zB zC zD zE zF zG zH yC yE yF yG yH yI yJ) (aXq n) (BCI.mk h0) (fun a w'' hI'=>?_);unfold BCI at hI';obtain⟨v4,hI'⟩:=hI';obtain⟨v8,hI'⟩:=hI';obtain⟨v9,hI'⟩:=hI';obtain⟨fS,hI'⟩:=hI';obtain⟨dH,hI'⟩:=hI';obtain⟨v39,hI'⟩:=hI';obtain⟨dI,hI'⟩:=hI';obtain⟨v41,hI'⟩:=hI';obtain⟨dJ,hI'⟩:=hI';obtain⟨dK,hI'⟩:=hI';obtain⟨v44,hI'⟩:=hI';obtain⟨v45,hI'⟩:=hI';obtain⟨v46,hI'⟩:=hI';obtain⟨dL,hI'⟩:=hI';obtain⟨dM,hI'⟩:=hI';obtain⟨dN,hI'⟩:=hI';obtain⟨v50,hI'⟩:=hI';obtain⟨v51,hI'⟩:=hI';obtain⟨dO,hI'⟩:=hI';obtain⟨v53,hI'⟩:=hI';obtain⟨dP,hI'⟩:=hI';obtain⟨v55,hI'⟩:=hI';obtain⟨⟨j,ys,hj,e38,hX,hy⟩,rfl⟩:=hI';subst e38;rcases tN j n with hlt|hge
 · exact aTn w w'' F gd gs z n cs gf sc c bl j ys _ _ _ _ _ _ _ _ _ _ _ _ _ _ _ _ _ _ _ _ _ _ _ _ _ _ _ _ _ _ _ _ _ _ _ _ _ _ _ _ _ _ _ _ _ _ _ _ _ _ _ _ _ _ _ _ _ _ _ Q0 hAT hI hs hc hn h96 hS hX hy hlt
 · have e:j=n:=tQ hj hge;subst e;exact bCk gs z j j w'' _ _ _ _ _ _ _ _ _ _ _ _ _ _ _ _ _ _ _ _ _ _ _ _ _ _ _ _ _ _ _ _ _ _ _ _ _ _ _ _ _ _ _ _ _ _ _ _ _ _ _ _ _ _ _ _ _ _ _ _ rfl (fun _=>hexit _ _ _ _ _ _ _ _ _ _ _ _ _ _ _ _ _ _ _ _ _ _ w'' ⟨ys,hX,by rw[hy,←hn,List.take_length]⟩)
theorem aXr {cs:List (List (List Int))} {c r:List (List Int)} {z e:Nat} {xs ys:List BR} (hc:cs[z]? =some c) (hz:z<e) (hy:ys.map BR.bs=xs.map BR.bs++c) (hn:c.length≥96) (h:xs.map BR.bs++Kk ((cs.drop z).take (e - z))=r):ys.map BR.bs++Kk ((cs.drop (z+1)).take (e - (z+1)))=r:=by
 rw[←h,hy,aMr hc hz,List.append_assoc];show _=_++(if c.length<96 then c else c++Kk _)
 rw[if_neg (by omega)]
theorem bCm {cs:List (List (List Int))} {c r:List (List Int)} {z e:Nat} {xs ys:List BR} (hc:cs[z]? =some c) (hz:z<e) (hy:ys.map BR.bs=xs.map BR.bs++c) (hn:c.length<96) (h:xs.map BR.bs++Kk ((cs.drop z).take (e - z))=r):ys.map BR.bs=r:=by
 rw[←h,hy,aMr hc hz];show _=_++(if c.length<96 then c else c++Kk _)
 rw[if_pos hn]
theorem bCo {c:List (List Int)} {z i:Nat} {xs ys:List BR} (hy:ys.map BR.bs=xs.map BR.bs++c) (hl:xs.length≤96*(z - 3*i)) (hz:3*i≤z) (h:c.length≤96):ys.length≤96*(z+1 - 3*i):=by
 have:=congrArg List.length hy;rw[rH,rU,rU] at this;omega
theorem aXs {cs:List (List (List Int))} {r:List (List Int)} {e:Nat} {xs:List BR} (h:xs.map BR.bs++Kk ((cs.drop e).take (e - e))=r):xs.map BR.bs=r:=by
 rw[Nat.sub_self,List.take_zero] at h;exact(List.append_nil _).symm.trans h
theorem bCn {w wr:World} {F:Xt} {gd gs:Nat} {cs:List (List (List Int))} {gf:Bool} {sc:List Value} {ov:Value} {xs:List BR} {r:List (List Int)} (h:BlX w wr F gd gs cs gf sc ov xs) (hr:xs.map BR.bs=r):∃v' ys,Ending.returned ov=.returned v'∧Ux wr w.heap.size v' ys∧ys.map BR.bs=r∧Ul wr F gd cs gf∧Kf F w wr :=
 ⟨_,xs,rfl,h.row,hr,h.dev,h.kf⟩
theorem aTo {w:World} {F:Xt} {gd gs count:Nat} {inn:Int} {v:Value} {bs:List Int} {cs:List (List (List Int))} {gf:Bool} (h:Uz w gd gs inn v bs count) (hd:Ul w F gd cs gf) (hI:In w F) (hs:¬F gs) {i:Nat} (hi:i<2) :
  Calls prog 136 #[.pointer (some ⟨gs,0,none⟩),.int .i64 (i:Int)] w fun e w'=>∃v' xs,e=.returned v'∧Ux w' w.heap.size v' xs∧xs.map BR.bs=Kk ((cs.drop (3*i)).take 3)∧Ul w' F gd cs gf∧Kf F w w':=by
 obtain⟨xi,xz,hxi,hxz,hx5,hx56,hxc⟩:=aFw;obtain⟨sc,hsc⟩:=nC ([Value.pointer (some ⟨gd,0,none⟩),.int .i64 0,.int .i64 3,.int .i64 6,.int .i64 96,.int .i64 inn,v,.int .i64 (count:Int),.bool false])
 have AT:=hid (fun (w':World) (hb:Bk w' gs 182 sc)=>(show w'.cell? ⟨gs,0,none⟩=some (.pointer (some ⟨gd,0,none⟩))∧w'.cell? ⟨gs,1+i,none⟩=some (.int .i64 ((3*i:Nat):Int))∧w'.cell? ⟨gs,1+(i+1),none⟩=some (.int .i64 ((3*i+3:Nat):Int))∧w'.cell? ⟨gs,4,none⟩=some (.int .i64 96) from by
  rw[←hsc] at hb;obtain⟨c0,c1,c2,c3,c4⟩:=hb.c5;have:i=0∨i=1:=by omega
  rcases this with rfl|rfl
  · exact⟨c0,c1,c2,c4⟩
  · exact⟨c0,c2,c3,c4⟩))
 have h8:=hd.eight;have H0:=hid (show BlX w w F gd gs cs gf sc (.slice none 0 0) [] from⟨hd,Kf.refl F w,⟨World.ownsRow_nil w _ _ _,by simp⟩,by rw[←hsc];exact h.bx⟩);have H:=nI hI hs hi h8;obtain⟨e0,e1,e2,e4⟩:=AT.o w H0.o.bx;have i0:(0:Int)≤(i:Int):=by omega
 have i3:(i:Int)<3:=by omega
 have j3:(i:Int)+1<3:=by omega
 have j0:(0:Int)≤(i:Int)+1:=by omega
 have ji:((i:Int)+1).toNat=i+1:=by omega
 clear h hd hI hs hi h8 hsc;go_enter func136,ntmps136
 go_wp2_with fail
 go_loopw [4,5] (fun ov zv wr=>∃z:Nat,3*i≤z∧z≤3*i+3∧zv=.int .i64 (z:Int)∧∃xs,Hid (BlX w wr F gd gs cs gf sc ov xs∧xs.map BR.bs++Kk ((cs.drop z).take (3*i+3 - z))=Kk ((cs.drop (3*i)).take 3)∧xs.length≤96*(z - 3*i))) (fun _ zv _=>3*i+3 - (intOf zv).toNat)
 case atStart=>exact⟨3*i,lR,by omega,rfl,[],hid ⟨H0.o,by rw[List.map_nil,List.nil_append,Nat.add_sub_cancel_left],zL⟩⟩
 case round =>
  obtain⟨z,hz0,hz3,rfl,xs,HX⟩:=hrel;clear e0 e1 e2 e4;obtain⟨e0,e1,e2,e4⟩:=AT.o wr HX.o.1.bx;rcases tN z (3*i+3) with hlt|hge
  · obtain⟨c,hc⟩:∃c,cs[z]? =some c:=⟨_,tX (by rw[H.o.2.2.2];have:=H.o.2.2.1;omega)⟩
    have hp:=aFy HX.o.1.dev hc;have n1:(z:Int)<((3*i+3:Nat):Int):=by omega
    have mz:wrap64 ((z:Int)+1)=(z:Int)+1:=by unfold wrap64;have:=H.o.2.2.1;omega
    have HC:=nI hc hlt hz0 (HX.o.1.dev.mx hc);clear hc hlt hz0 hz3;go_wp2_with fail
    refine hp.mono ?_;rintro e w' ⟨rfl,rfl⟩;clear hp;go_wp2_with fail
    refine aXp w wr F gd gs z c.length cs gf sc c (xs.map BR.bs) _ _ _ _ _ _ _ _ _ _ _ _ _ _ _ _ _ _ _ _ _ _ _ _ _ _ _ _ _ _ _ _ _ _ _ _ _ _ _ _ _ _ _ _ _ _ _ _ _ _ _ _ _ _ _ _ _ _ _ _ _ (fun w' q=>(AT.o w' q).1) H.o.1 H.o.2.1 HC.o.1 rfl HC.o.2.2.2 (by rw[rU];have:=HX.o.2.2;have:=HC.o.2.1;omega) ⟨0,xs,zL,rfl,HX.o.1,by rw[List.take_zero,List.append_nil]⟩ ?_;intro v4 v8 v9 fS dH v39 dI v41 dJ dK v44 v45 v46 dL dM dN v50 v51 dO v53 dP v55 wr2 hX2;obtain⟨ys,hX2,hy2⟩:=hX2;obtain⟨e0,e1,e2,e4⟩:=AT.o wr2 hX2.bx;obtain⟨bA,bc,rfl⟩:=Xs hX2.row.own;rcases tN c.length 96 with h96|h96
    · have n2:(c.length:Int)<96:=by omega
      have HY:=nH hX2 hy2 h96;clear hX2 hy2 h96;go_wp2_with fail
      go_ret;exact bCn HY.o.1 (bCm HC.o.1 HC.o.2.1 HY.o.2.1 HY.o.2.2 HX.o.2.1)
    · have n2:¬(c.length:Int)<96:=by omega
      have HY:=nH hX2 hy2 h96;clear hX2 hy2 h96;go_wp2_with fail
      refine⟨⟨z+1,by have:=HC.o.2.2.1;omega,HC.o.2.1,rfl,ys,hid ⟨HY.o.1,aXr HC.o.1 HC.o.2.1 HY.o.2.1 HY.o.2.2 HX.o.2.1,bCo HY.o.2.1 HX.o.2.2 HC.o.2.2.1 HC.o.2.2.2⟩⟩,?_⟩;exact Xw HC.o.2.1 rfl
  · obtain rfl:z=3*i+3:=tQ hz3 hge;have n1:¬(((3*i+3:Nat):Int)<((3*i+3:Nat):Int)):=by omega
    obtain⟨vA,vc,rfl⟩:=Xs HX.o.1.row.own;go_wp2_with fail
    go_ret;exact⟨_,rfl,xs,HX.o.1.row,aXs HX.o.2.1,HX.o.1.dev,HX.o.1.kf⟩
def aJe (bs:List Int):Prop:=∃x,bs[0]? =some x∧1≤x∧x≤3
theorem bHk {x:Int} (h1:1≤x) (h3:x≤3):decide (x<1)=false∧decide (x > 3)=false∧¬x<1∧¬x > 3∧¬3<x∧decide (3<x)=false:=⟨rY (by omega),rY (by omega),by omega,by omega,by omega,rY (by omega)⟩
theorem aVj {w:World} {A:Option Addr} {c:Nat} {bs:List Int} (h:IsY w A 64 c bs) (hk:aJe bs) :
  Calls prog 137 #[.slice A 64 c] w fun e w'=>e=.returned (.bool false)∧w=w':=by
 obtain⟨ad,rfl⟩:∃ad,A=some ad:=by
  obtain⟨ad,e,_⟩:=h.b.rd.get (k:=0) (by rw[rU,h.b.len];decide);exact⟨ad,e⟩
 obtain⟨x,e1,_,kc⟩:=aBt h.b (k:=0) (by decide);obtain⟨x',e2,h1,h3⟩:=hk;obtain rfl:x=x':=rT (e1.symm.trans e2);have c0:w.cell? ad=some (.int .u8 x):=kc w nB;obtain⟨n1,n2,n3,n4,n5,n6⟩:=bHk h1 h3;have hcap:=h.b.cap;clear kc e1 e2 h h1 h3;go_enter func137,ntmps137
 go_wp2_with fail
 go_ret;exact⟨rfl,rfl⟩
theorem aZq {w:World} {B n:Nat} {A:Option Addr} {c:Nat} {xs:List BR} (h:Ux w B (.slice A n c) xs) (hn:xs.length=n) (h9:n≤1000000) (hk:∀x∈xs,aJe x.bs) :
  Calls prog 142 #[.slice A n c,.func (.func 137) #[] #[]] w fun e w'=>e=.returned (.int .i64 (-1))∧w=w':=by
 have hR:=nH (Ve (aBs hn h.own)) h.y hk;clear h hk;go_enter func142,ntmps142
 go_wp2_with fail
 go_loopw [5,8] (fun s5 i wr=>∃k:Nat,k≤n∧i=.int .i64 k∧w=wr) (fun _ i _=>n - (intOf i).toNat)
 case atStart=>exact⟨0,zL,rfl,rfl⟩
 case round =>
  obtain⟨k,hkn,rfl,rfl⟩:=hrel;rcases tN k n with hlt|hge
  · obtain⟨p,hpk⟩:∃p,xs[k]'(by omega)=p:=⟨_,rfl⟩
    have hpm:p∈xs:=by rw[←hpk];exact rC _
    obtain⟨ad,rfl,had,c1⟩:=hR.out.1.get (k:=k) (by rw[rU];omega);rw[rV,hpk] at c1;have c0:w.cell? (ad.add k)=some (.slice p.A 64 p.c):=c1;clear c1;obtain⟨n1,n2,m2⟩:(k:Int)<(n:Int)∧(0:Int)≤(k:Int)∧wrap64 ((k:Int)+1)=(k:Int)+1:=⟨by omega,by omega,by unfold wrap64;omega⟩;have hcall:=aVj (hR.out.2.1 p hpm) (hR.out.2.2 p hpm);have HN:=nF hlt h9;clear hpk hpm had hkn;go_wp2_with fail
    refine hcall.mono ?_;rintro e w' ⟨rfl,rfl⟩;clear hcall;go_wp2_with fail
    go_roundw
    case rel=>exact⟨k+1,HN.o.1,Va (by first|rfl|exact m2),by first|rfl|trivial⟩
    case measure=>exact Xw HN.o.1 (by first|rfl|exact m2)
  · obtain rfl:k=n:=tQ hkn hge;have n0:¬(k:Int)<(k:Int):=Int.lt_irrefl _;go_wp2_with fail
    go_ret;exact⟨rfl,rfl⟩
theorem aVl {w:World} {B:Nat} {v:Value} {xs:List BR} (h:Ux w B v xs) (h9:xs.length≤1000000) (hk:∀x∈xs,aJe x.bs) :
  Calls prog 77 #[v,.func (.func 137) #[] #[]] w fun e w'=>e=.returned (.bool false)∧w=w':=by
 obtain⟨vA,vc,rfl⟩:=Xs h.own;have hix:=aZq h rfl h9 hk;clear h hk h9;go_enter func77,ntmps77
 go_wp2_with fail
 refine hix.mono ?_;rintro e w' ⟨rfl,rfl⟩;go_wp2_with fail
 go_ret;exact⟨rfl,rfl⟩
structure bGb (T:Nat) (bs:List Int) (n:Nat):Prop where
 len:bs.length=8+44*n
 last:Um (bs.take 8)≤(T:Int)
 pos:0<n→0<Um (bs.take 8)
 lba:∀k,k<n→Um ((bs.drop (8+44*k)).take 4)<258
def aBh (T:Nat) (bs:List Int):Prop:=bs=[]∨∃n,bGb T bs n
structure RdL (bl:List (List Int)) (k:Nat) (bs:List Int):Prop where
 hd:∃b,bl[0]? =some b∧(frD b).kind=3
 da:∀(i:Nat) (b:List Int),1≤i→i<k→bl[i]? =some b→(frD b).kind=1
 tx:bs=((bl.take k).drop 1).flatMap (fun b=>(frD b).body)
structure aFp (T:Nat) (bl:List (List Int)):Prop where
 k:∀b∈bl,aJe b
 t:∀(k:Nat) (bs b:List Int),0<k→RdL bl k bs→bl[k]? =some b→(frD b).kind=2→aBh T bs
 s:∀b,bl[0]? =some b→(frD b).seq≤(T:Int)
theorem aOu {T:Nat}:aFp T []:=⟨fun b h=>by simp at h,fun k bs b _ h=>by
 obtain⟨x,e,_⟩:=h.hd;simp at e,fun b h=>by simp at h⟩
theorem aHp {b:List Int} {x:Int} (h:(frD b).kind=x) (h1:1≤x) (h3:x≤3):aJe b:=by
 cases b with
 | nil=>have h:(0:Int)=x:=h;omega
 | cons a r=>have h:a=x:=h;exact⟨a,rfl,by omega,by omega⟩
def slR (m:Nat) (bs cb:List Int):List (Int×List Int):=(3,[])::((List.range m).map (fun i=>(1,(bs.drop (40*i)).take 40))++[(2,cb)])
theorem aSm (bs:List Int) (m:Nat):((List.range m).map (fun i=>((1:Int),(bs.drop (40*i)).take 40))).flatMap (·.2)=bs.take (40*m):=by
 induction m with
 | zero=>simp
 | succ m ih =>
   rw[List.range_succ,rI,rX,ih];simp only[List.map_cons,List.map_nil,List.flatMap_cons,List.flatMap_nil,List.append_nil];rw[show 40*(m+1)=40*m+40 by omega,List.take_add]
theorem aSn {T:Nat} {bl:List (List Int)} {m:Nat} {bs cb:List Int} (h:bl.map (fun b=>((frD b).kind,(frD b).body))=slR m bs cb) (hm:bs.length≤40*m) (ht:aBh T bs) (hs:∀b,bl[0]? =some b→(frD b).seq≤(T:Int)):aFp T bl:=by
 have at':∀(i:Nat) (b:List Int),bl[i]? =some b→(slR m bs cb)[i]? =some ((frD b).kind,(frD b).body):=fun i b e=>by
  rw[←h,rW,e];rfl
 have hl:bl.length=m+2:=by
  have:=congrArg List.length h;simp[slR] at this
  omega
 have mid:∀i,1≤i→i<m+1→(slR m bs cb)[i]? =some (1,(bs.drop (40*(i - 1))).take 40):=fun i h1 h2=>by
  obtain⟨j,rfl⟩:∃j,i=j+1:=⟨i - 1,by omega⟩
  show ((List.range m).map _++_)[j]? =_
  rw[rO (by simp;omega),rW,List.getElem?_range (by omega)];rfl
 have end':(slR m bs cb)[m+1]? =some (2,cb):=by
  show ((List.range m).map _++_)[m]? =_
  rw[rP (by simp)];simp
 refine⟨fun b hb=>?_,fun k xs b h0 hr hk h2=>?_,hs⟩
 · obtain⟨i,hi⟩:=List.getElem?_of_mem hb;have e:=at' i b hi;have hil:=(rB.1 hi).1;rcases tP i with rfl|q
   · have e2:(3,[])=((frD b).kind,(frD b).body):=rT e;exact aHp (congrArg Prod.fst e2).symm (by decide) (by decide)
   · rcases tN i (m+1) with r|r
     · rw[mid i q r] at e;exact aHp (x:=1) (congrArg Prod.fst (rT e)).symm (by decide) (by decide)
     · obtain rfl:i=m+1:=by omega
       rw[end'] at e;exact aHp (x:=2) (congrArg Prod.fst (rT e)).symm (by decide) (by decide)
 · have e:=at' k b hk;rcases tN k (m+1) with r|r
   · rw[mid k h0 r] at e;have:=congrArg Prod.fst (rT e);have this:(1:Int)=(frD b).kind:=this;omega
   · have hkl:=(rB.1 hk).1;obtain rfl:k=m+1:=by omega
     have ex:xs=bs:=by
      rw[hr.tx,show ((bl.take (m+1)).drop 1).flatMap (fun b=>(frD b).body)=(((bl.map (fun b=>((frD b).kind,(frD b).body))).take (m+1)).drop 1).flatMap (·.2) by rw[←List.map_take,←List.map_drop,List.flatMap_map],h];show (List.take m (_++_)).flatMap _=_
      rw[List.take_append_of_le_length (by simp),rG (by simp),aSm,rG hm]
     rw[ex];exact ht
structure aFl (T:Nat) (cs:List (List (List Int))):Prop where
 slot:∀i,i<2→aFp T (Kk ((cs.drop (3*i)).take 3))
 log:∀(j:Nat) (c:List (List Int)),6≤j→cs[j]? =some c→∀b∈c,aDi T b
def Ut (T:Nat) (w:World) (F:Xt) (gd:Nat) (ns:List Nat):Prop:=∃cs,Ul w F gd cs true∧cs.map List.length=ns∧aFl T cs
theorem Ut.ag {T:Nat} {w w':World} {F:Xt} {gd:Nat} {ns:List Nat} (h:Ut T w F gd ns) (k:Ag F w w'):Ut T w' F gd ns:=by
 obtain⟨cs,h1,h2,h3⟩:=h;exact⟨cs,h1.ag k,h2,h3⟩
theorem Ut.dev {T:Nat} {w:World} {F:Xt} {gd:Nat} {ns:List Nat} (h:Ut T w F gd ns):Dev w F gd ns:=by
 obtain⟨cs,h1,h2,h3⟩:=h;rw[←h2];exact h1.dev
theorem bHf {α :Type} {cs:List α} {fr:Nat} {a b c: α} (h0:cs[fr]? =some a) (h1:cs[fr+1]? =some b) (h2:cs[fr+2]? =some c):(cs.drop fr).take 3=[a,b,c]:=by
 have l2:=(rB.1 h2).1;rw[List.drop_eq_getElem_cons (by omega),List.drop_eq_getElem_cons (by omega),List.drop_eq_getElem_cons (by omega)];rw[(rB.1 h0).2,(rB.1 h1).2,(rB.1 h2).2];rfl
theorem aOq {bl:List (List Int)} (h:bl.length≤288):Kk [(bl.drop (96*0)).take 96,(bl.drop (96*1)).take 96,(bl.drop (96*2)).take 96]=bl:=by
 have e0:bl.drop (96*0)=bl:=rfl;unfold Kk
 split
 · rename_i q;rw[rJ,rN] at q;rw[e0,rG (by omega)]
 · unfold Kk
   split
   · rename_i p q;rw[rJ,rN] at q;rw[e0,rG (l:=bl.drop (96*1)) (by rw[rN];omega),List.take_append_drop]
   · unfold Kk
     rw[show (if ((bl.drop (96*2)).take 96).length<96 then (bl.drop (96*2)).take 96 else (bl.drop (96*2)).take 96++Kk [])=(bl.drop (96*2)).take 96 by split<;>simp[Kk]];rw[e0,rG (l:=bl.drop (96*2)) (by rw[rN];omega),show bl.drop (96*2)=(bl.drop (96*1)).drop 96 by rw[List.drop_drop],List.take_append_drop,List.take_append_drop]
theorem bAl {cs:List (List (List Int))} {fr:Nat} {bl:List (List Int)} (h:∀j,j<3→cs[fr+j]? =some ((bl.drop (96*j)).take 96)) (hl:bl.length≤288):Kk ((cs.drop fr).take 3)=bl:=by
 rw[bHf (fr:=fr) (h 0 (by decide)) (h 1 (by decide)) (h 2 (by decide))];exact aOq hl
theorem aBh.up {T U:Nat} {bs:List Int} (h:aBh T bs) (hT:T≤U):aBh U bs:=h.imp id (fun ⟨n,g⟩=>⟨n,g.len,Int.le_trans g.last (Int.ofNat_le.2 hT),g.pos,g.lba⟩)
theorem aDi.up {T U:Nat} {b:List Int} (h:aDi T b) (hT:T≤U):aDi U b:=h.imp id (fun ⟨a,g⟩=>⟨a,fun n e=>Int.le_trans (g n e) (Int.ofNat_le.2 hT)⟩)
theorem aFl.up {T U:Nat} {cs:List (List (List Int))} (h:aFl T cs) (hT:T≤U):aFl U cs:=⟨fun i hi=>⟨(h.slot i hi).k,fun k bs b h0 hr hk h2=>((h.slot i hi).t k bs b h0 hr hk h2).up hT,fun b e=>Int.le_trans ((h.slot i hi).s b e) (Int.ofNat_le.2 hT)⟩,fun j c hj e b hb=>(h.log j c hj e b hb).up hT⟩
theorem Ut.up {T U:Nat} {w:World} {F:Xt} {gd:Nat} {ns:List Nat} (h:Ut T w F gd ns) (hT:T≤U):Ut U w F gd ns:=by
 obtain⟨cs,h1,h2,h3⟩:=h;exact⟨cs,h1,h2,h3.up hT⟩
def kb (b:List Int):Int×List Int:=((frD b).kind,(frD b).body)
def sq (b:List Int):Int:=(frD b).seq
def xb (x:BD):Int×List Int:=(x.kind,x.bs)
structure ZEC (fr z:Nat) (cs0 cs:List (List (List Int))):Prop where
 len:cs.length=8
 at':∀j,fr≤j→j<z→cs[j]? =some []
 ot:∀j,(j<fr∨fr+3≤j)→cs[j]? =cs0[j]?
structure ZSC (fr:Nat) (bl:List (List Int)) (cs0 cs:List (List (List Int))):Prop where
 len:cs.length=8
 at':∀j,j<3→cs[fr+j]? =some ((bl.drop (96*j)).take 96)
 ot:∀j,(j<fr∨fr+3≤j)→cs[j]? =cs0[j]?
theorem ZEC.zs {fr:Nat} {cs0 cs:List (List (List Int))} (h:ZEC fr (fr+3) cs0 cs):ZSC fr [] cs0 cs:=⟨h.len,fun j hj=>by rw[h.at' (fr+j) (by omega) (by omega)];simp,h.ot⟩
theorem ZEC.skip {fr z:Nat} {cs0 cs:List (List (List Int))} (h:ZEC fr z cs0 cs) (h0:cs[z]? =some []):ZEC fr (z+1) cs0 cs :=
 ⟨h.len,fun j h1 h2=>by
  rcases tN j z with q|q
  · exact h.at' j h1 q
  · obtain rfl:j=z:=by omega
    exact h0,h.ot⟩
theorem ZEC.step {fr z:Nat} {cs0 cs:List (List (List Int))} (h:ZEC fr z cs0 cs) (h1:fr≤z) (h2:z<fr+3) (h8:z<8):ZEC fr (z+1) cs0 (cs.set z []):=by
 refine⟨by rw[rK];exact h.len,fun j a b=>?_,fun j a=>?_⟩
 · rw[rD];by_cases e:z=j
   · rw[if_pos e,if_pos (by rw[h.len];exact h8)]
   · rw[if_neg e];exact h.at' j a (by omega)
 · rw[rD,if_neg (by omega)];exact h.ot j a
theorem ZSC.step {fr:Nat} {bl:List (List Int)} {cs0 cs:List (List (List Int))} (h:ZSC fr bl cs0 cs) {k:Nat} (hk:bl.length=k) (h288:k<288) (hf:fr≤3) (b:List Int):ZSC fr (bl++[b]) cs0 (cs.set (fr+k / 96) ((bl.drop (96*(k / 96))).take 96++[b])):=by
 have hq:k / 96<3:=by omega
 refine⟨by rw[rK];exact h.len,fun j hj=>?_,fun j a=>?_⟩
 · rw[rD];by_cases e:k / 96=j
   · subst e;have e1:(bl.drop (96*(k / 96))++[b]).length≤96:=by rw[rH,rN];simp;omega
     have e2:(bl.drop (96*(k / 96))).length≤96:=by rw[rN];omega
     rw[if_pos rfl,if_pos (by rw[h.len];omega),List.drop_append_of_le_length (by omega),rG e1,rG e2]
   · rw[if_neg (by omega),h.at' j hj];rcases tN j (k / 96) with q|q
     · rw[List.drop_append_of_le_length (by omega),List.take_append_of_le_length (by rw[rN];omega)]
     · rw[List.drop_of_length_le (by omega),List.drop_of_length_le (by rw[rH];simp;omega)]
 · rw[rD,if_neg (by omega)];exact h.ot j a
theorem ZSC.zone {fr:Nat} {bl:List (List Int)} {cs0 cs:List (List (List Int))} (h:ZSC fr bl cs0 cs) {k q:Nat} (hk:bl.length=k) (hq:k / 96=q) (h288:k<288):∃c,cs[fr+q]? =some c∧c.length<96∧c=(bl.drop (96*q)).take 96 :=
 ⟨_,h.at' q (by omega),by rw[rJ,rN];omega,rfl⟩
theorem bBs {b:List Int} {x:BD} {w:World} (h:b.take 60=frB x.kind 0 x.seq x.lba x.n x.bs) (hx:x.ok w):kb b=xb x∧sq b=x.seq:=by
 have e:=aOa (ep:=0) h hx.y.b.len (show (0:Int)≤0∧(0:Int)≤4294967295 by decide) hx.s hx.l;unfold kb sq
 rw[e];exact⟨rfl,rfl⟩
def RsL (rs:List BD) (m:Nat) (bs:List Int):Prop:=rs.map xb=(3,[])::(List.range m).map (fun i=>(1,(bs.drop (40*i)).take 40))
theorem RsL.more {rs:List BD} {m L:Nat} {bs:List Int} {nn:Int} {A:Option Addr} {c:Nat} (h:RsL rs m bs) (hL:L=40∨bs.length≤40*m+L∧L≤40):RsL (rs++[⟨1,nn,0,A,L,c,(bs.drop (40*m)).take L⟩]) (m+1) bs:=by
 have e:(bs.drop (40*m)).take L=(bs.drop (40*m)).take 40:=by
  rcases hL with rfl|⟨q,r⟩
  · rfl
  · rw[rG (by rw[rN];omega),rG (by rw[rN];omega)]
 unfold RsL
 rw[rI,h,List.range_succ,rI,e];rfl
theorem RsL.fin {rs:List BD} {m:Nat} {bs cb:List Int} (h:RsL rs m bs) {nn l:Int} {A:Option Addr} {c:Nat}:(rs++[(⟨2,nn,l,A,cb.length,c,cb⟩:BD)]).map xb=slR m bs cb:=by
 rw[rI,h];rfl
theorem aSv {α β γ :Type} {f: α→γ} {g: β→γ} {bl:List α} {R:List β} {k:Nat} {b: α} {x: β} (h:bl.map f=(R.take k).map g) (hk:R[k]? =some x) (e:f b=g x):(bl++[b]).map f=(R.take (k+1)).map g:=by
 rw[rI,h,List.take_add_one,hk,rI];simp[e]
theorem bBf {fr q:Nat} (hf:fr≤3) (hq:q<3):wrap64 ((fr:Int)+(q:Int))=(fr:Int)+(q:Int)∧IntKind.i64.wrap ((fr:Int)+(q:Int))=(fr:Int)+(q:Int)∧((fr+q:Nat):Int)=(fr:Int)+(q:Int):=⟨by unfold wrap64;omega,IntWalk.i64_in _ (by omega),by omega⟩
theorem bDt {R:List BD} {bl:List (List Int)} {k:Nat} (h:bl.map kb=(R.take k).map xb) (hk:k≤R.length):bl.length=k:=by
 have:=congrArg List.length h;rw[rU,rU,rJ] at this;omega
theorem bBh (T:Nat) (F:Xt) (gd gs count:Nat) (inn:Int) (v:Value) (bt:List Int) (cs:List (List (List Int))) (gf0:Bool) (nn:Int) (A:Option Addr) (n c:Nat) (bs:List Int) (i:Nat) (w:World) (hd:Ul w F gd cs gf0) (h:Uz w gd gs inn v bt count) (hI:In w F) (hg:¬F gs) (hnn:0≤nn∧nn≤1099511627776) (ht:IsY w A n c bs) (hn:n≤11440) (hi2:i<2) (hok:aBh T bs) (hnT:nn≤(T:Int)) :
  Calls prog 99 #[.pointer (some ⟨gs,0,none⟩),.int .i64 (i:Int),.int .i64 nn,.slice A n c] w fun e w'=>e=.returned (.int .i64 0)∧∃F' cs',Ul w' F' gd cs' true∧(∀j,(j<3*i∨3*i+3≤j)→cs'[j]? =cs[j]?)∧aFp T (Kk ((cs'.drop (3*i)).take 3))∧Kf F w w'∧Sb w F F'∧In w' F':=by
 obtain⟨xi,xz,hxi,hxz,hx5,hx56,hxc⟩:=aYy;have hne:∀b,(fun b=>b=gs) b→¬F b:=fun b q r=>hg (by rw[←q];exact r)
 obtain⟨fr,hfr⟩:=nC (3*i);have hf3:fr≤3:=by omega
 have SL:=hid (fun w' (k:Kf F w w')=>(show w'.cell? ⟨gs,0,none⟩=some (.pointer (some ⟨gd,0,none⟩))∧w'.cell? ⟨gs,1+i,none⟩=some (.int .i64 (fr:Int))∧w'.cell? ⟨gs,1+(i+1),none⟩=some (.int .i64 ((fr+3:Nat):Int))∧w'.cell? ⟨gs,4,none⟩=some (.int .i64 96)∧gs<w'.heap.size from by
  have hx:=h.ag (k.ag (F:=fun b=>b=gs) hne) rfl;have hl:=hx.bx.lt;obtain⟨c0,c1,c2,c3,c4⟩:=hx.bx.c5;have:i=0∨i=1:=by omega
  rcases this with rfl|rfl
  · subst hfr;exact⟨c0,c1,c2,c4,hl⟩
  · subst hfr;exact⟨c0,c2,c3,c4,hl⟩))
 obtain⟨e0,e1,e2,e4,-⟩:=SL.o w (Kf.refl F w);have HA:=nJ hI hg hnn ht hn;have HOK:=nF hok hnT;have hlen:=hd.eight;have i0:(0:Int)≤(i:Int):=by omega
 have i3:(i:Int)<3:=by omega
 have j3:(i:Int)+1<3:=by omega
 have j0:(0:Int)≤(i:Int)+1:=by omega
 have ji:((i:Int)+1).toNat=i+1:=by omega
 rw[hfr];clear h hg hnn ht hn hI hne hok hfr hnT;go_enter func99,ntmps99
 go_wp2_with fail
 go_loopw [9] (fun z wr=>∃(k:Nat) (cs1:List (List (List Int))),fr≤k∧k≤fr+3∧z=.int .i64 (k:Int)∧Hid (ZEC fr k cs cs1∧(∃gf,Ul wr F gd cs1 gf)∧Kf F w wr)) (fun z _=>fr+3 - (intOf z).toNat)
 case atStart=>exact⟨fr,cs,lR,by omega,rfl,hid ⟨⟨hlen,fun j h1 h2=>absurd h2 (by omega),fun j _=>rfl⟩,⟨_,hd⟩,Kf.refl F w⟩⟩
 case round =>
  clear e0 e1 e2 e4 hd hlen;obtain⟨k,cs1,hk0,hk,rfl,HW⟩:=hrel;obtain⟨e0,e1,e2,e4,-⟩:=SL.o wr HW.o.2.2;obtain⟨gf,hD⟩:=HW.o.2.1;by_cases hlt:k<fr+3
  · have n0:(k:Int)<((fr+3:Nat):Int):=Int.ofNat_lt.2 hlt;obtain⟨q,hq⟩:∃q,cs1[k]? =some q:=⟨_,tX (by have:=HW.o.1.len;omega)⟩
    have hp:=aFy hD hq;have HQ:=nJ hq hD hlt hk0 (show k<8 by omega);have mz:wrap64 ((k:Int)+1)=(k:Int)+1:=by unfold wrap64;omega
    clear hD hq hlt hk0 hk;go_wp2_with fail
    refine hp.mono ?_;rintro e w' ⟨rfl,rfl⟩;clear hp;by_cases hq0:q.length=0
    · have hq1:q=[]:=List.length_eq_zero_iff.1 hq0;subst hq1;have HE:=hid (show ZEC fr (k+1) cs cs1 from HW.o.1.skip HQ.o.1);clear hq0;go_wp2_with fail
      go_roundw
      case rel=>exact⟨k+1,cs1,tM HQ.o.2.2.2.1,HQ.o.2.2.1,Va (by first|rfl|exact mz),hid ⟨HE.o,HW.o.2⟩⟩
      case measure=>(first|exact Xw HQ.o.2.2.1 rfl|(rw[mz];exact Xw HQ.o.2.2.1 rfl))
    · have n1:(0:Int)<(q.length:Int):=by omega
      have hr:=aQe HQ.o.2.1 HQ.o.1;clear hq0;go_wp2_with fail
      refine hr.mono ?_;rintro e w2 ⟨rfl,hD2,hK2⟩;have HE:=nH (HW.o.1.step HQ.o.2.2.2.1 HQ.o.2.2.1 HQ.o.2.2.2.2) (Exists.intro gf hD2) (HW.o.2.2.trans hK2 (fun b q=>.inl q));clear hD2 hK2 hr;go_wp2_with fail
      go_roundw
      case rel=>exact⟨k+1,_,tM HQ.o.2.2.2.1,HQ.o.2.2.1,Va (by first|rfl|exact mz),HE⟩
      case measure=>(first|exact Xw HQ.o.2.2.1 rfl|(rw[mz];exact Xw HQ.o.2.2.1 rfl))
  · obtain rfl:k=fr+3:=by omega
    have n0:¬(((fr+3:Nat):Int)<((fr+3:Nat):Int)):=Int.lt_irrefl _;obtain⟨g5,w5,hg5,hw5,hB5,hb5⟩:=Xy wr 258 [.int .i64 3,.int .i64 0,.int .i64 nn,.int .i64 0,.slice none 0 0];subst hg5;have hK:=HW.o.2.2
    have hO5:w5.ownsRow w.heap.size 258 5 (.slice (some ⟨wr.heap.size,0,none⟩) 1 1) 1 ([(⟨3,nn,0,none,0,0,[]⟩:BD)].flatMap BD.cells):=by
     rw[←hw5];exact World.ownsRow_lit wr #[.int .i64 3,.int .i64 0,.int .i64 nn,.int .i64 0,.slice none 0 0] 1 hK.size (by decide) rfl
    have hok:∀x∈[(⟨3,nn,0,none,0,0,[]⟩:BD)],x.ok w5∧x.seq=nn:=fun x hx=>by
     obtain rfl:x=⟨3,nn,0,none,0,0,[]⟩:=by simpa using hx
     exact⟨⟨show (1:Int)≤3∧(3:Int)≤4 by decide,HA.o.2.2.1,show (0:Int)≤0∧(0:Int)≤1048576 by decide,IsY.nil w5 0 zL,zL⟩,rfl⟩
    have hK5:=hK.next hb5;have H5:=nJ (show ∃gf,Ul w5 F gd cs1 gf from⟨gf,hD.ag (.of_below hb5)⟩) hK5 (HA.o.2.2.2.1.ag (hK5.ag (F:=fun _=>False) (fun _ q=>q.elim))) hO5 hok;have HZ:=hid HW.o.1;have hn:=HA.o.2.2.2.2;clear hD hK hb5 hB5 hK5 hO5 hok hk hlt HW hk0;go_wp2_with fail
    clear e0 e1 e2 e4;go_loopw [13,14] (fun l av wr=>∃(m:Nat) (rs:List BD),av=.int .i64 (40*(m:Int))∧40*m<n+40∧rs.length=m+1∧wr.ownsRow w.heap.size 258 5 l (m+1) (rs.flatMap BD.cells)∧Hid ((∀x∈rs,x.ok wr∧x.seq=nn)∧(∃gf,Ul wr F gd cs1 gf)∧Kf F w wr∧IsY wr A n c bs∧RsL rs m bs)) (fun _ av _=>n+40 - (intOf av).toNat)
    case atStart=>exact⟨0,_,rfl,by omega,rfl,H5.o.2.2.2.1,hid ⟨H5.o.2.2.2.2,H5.o.1,H5.o.2.1,H5.o.2.2.1,rfl⟩⟩
    case round =>
     obtain⟨m,rs,rfl,hm,hrl,hO,HW⟩:=hrel;obtain⟨lA,lc,rfl⟩:=Xs hO;by_cases hlt:40*m<n
     · have n1:40*(m:Int)<(n:Int):=by omega
       have n2:(0:Int)≤40*(m:Int):=by omega
       have wk:wrap64 (40*(m:Int)+40)=40*(m:Int)+40:=by unfold wrap64;omega
       have hyl:=HW.o.2.2.2.1.b.len;obtain⟨ad,hAd,_⟩:=HW.o.2.2.2.1.b.rd (by rw[rU];omega);subst hAd;have hcap:=HW.o.2.2.2.1.b.cap;by_cases hlast:(n:Int)<40*(m:Int)+40
       · have hL:40*m+(n - 40*m)≤n∧(n - 40*m)≤40:=by omega
         have hmt:(min (40*(m:Int)+40) (n:Int)).toNat - 40*m=(n - 40*m):=by omega
         have hy:=HW.o.2.2.2.1.sub (i:=40*m) (j:=40*m+(n - 40*m)) (by omega) (by omega) (by omega);rw[show 40*m+(n - 40*m) - 40*m=(n - 40*m) by omega] at hy;obtain⟨bd,hbd⟩:∃bd:BD,(⟨1,nn,0,some (ad.add (40*m)),(n - 40*m),c - 40*m,(bs.drop (40*m)).take ((n - 40*m))⟩:BD)=bd:=⟨_,rfl⟩
         obtain⟨g7,w7,hg7,hw7,hB7,hb7⟩:=Xy wr 258 [.int .i64 1,.int .i64 0,.int .i64 nn,.int .i64 0,.slice (some (ad.add (40*m))) ((n - 40*m)) (c - 40*m)];subst hg7;have hbk:Rd w7 w7.heap.size (some ⟨wr.heap.size,0,none⟩) (BD.cells bd):=by rw[←hbd];exact hB7.rd
         have hK7:=HW.o.2.2.1.next hb7;have hbo:bd.ok wr:=by rw[←hbd];exact⟨show (1:Int)≤1∧(1:Int)≤4 by decide,HA.o.2.2.1,show (0:Int)≤0∧(0:Int)≤1048576 by decide,hy,hL.2⟩
         have HBS:=hid (show bd.seq=nn by rw[←hbd]);have HRS:=hid (show RsL (rs++[bd]) (m+1) bs by rw[←hbd];exact HW.o.2.2.2.2.more (.inr ⟨by rw[HW.o.2.2.2.1.b.len];omega,hL.2⟩));have HI:=nH (Vg hO hb7) hbk hK7.size;have HJ:=nI hb7 hK7 hbo hrl;clear hO hrl hyl hy hbd hB7 hb7 hbk hK7 hbo hL;go_wp2_with (at_builtin;go_must (refine aAa _ rfl _ _ 259 rfl w.heap.size 258 xi xz 5 56 underlying259 hxi hxz hx5 hx56 hxc (by omega) _ (m+1) (rs.flatMap BD.cells) (by rfl) (by exact HI.o.1) w7.heap.size (some ⟨wr.heap.size,0,none⟩) 1 1 (BD.cells bd) (by rfl) rfl (by exact HI.o.2.1) (by intro u hu;simp[BD.cells] at hu;rcases hu with rfl|rfl|rfl|rfl|rfl<;>rfl) (by omega) (by omega) (by exact HI.o.2.2) ?_);intro v9 w9 hO9 hG9 hn9)
         have hnF:∀g,(Value.slice lA (m+1) lc).ownBlock=some g→¬F g:=fun g hg hf=>by
          have:=Xv HI.o.1 hg;have:=HA.o.1 g hf;omega
         have hAg:Ag F wr w9:=(Ag.of_below HJ.o.1).trans (Ag.grown HI.o.1 (by decide) hG9 hnF)
         have HN:=hid (show (∀x∈rs++[bd],x.ok w9∧x.seq=nn)∧(∃gf,Ul w9 F gd cs1 gf)∧Kf F w w9∧IsY w9 (some ad) n c bs∧RsL (rs++[bd]) (m+1) bs from
          ⟨fun x hx=>by
           rcases rE.1 hx with q|q
           · exact⟨(HW.o.1 x q).1.ag hAg,(HW.o.1 x q).2⟩
           · obtain rfl:x=bd:=by simpa using q
             exact⟨HJ.o.2.2.1.ag hAg,HBS.o⟩,HW.o.2.1.imp (fun _ h=>h.ag hAg),HJ.o.2.1.grown HI.o.1 hG9 (fun g hg=>.inr (Xv HI.o.1 hg)),HW.o.2.2.2.1.ag hAg,HRS.o⟩)
         clear hAg hnF hG9 hn9;go_roundw
         case rel=>exact⟨m+1,rs++[bd],by go_num,by omega,by rw[rH,HJ.o.2.2.2];rfl,by rw[rX];simpa using hO9,HN⟩
         case measure=>simp[intOf];omega
       · have hL:40*m+40≤n∧40≤40:=by omega
         have hmt:(min (40*(m:Int)+40) (n:Int)).toNat - 40*m=40:=by omega
         have hy:=HW.o.2.2.2.1.sub (i:=40*m) (j:=40*m+40) (by omega) (by omega) (by omega);rw[show 40*m+40 - 40*m=40 by omega] at hy;obtain⟨bd,hbd⟩:∃bd:BD,(⟨1,nn,0,some (ad.add (40*m)),40,c - 40*m,(bs.drop (40*m)).take (40)⟩:BD)=bd:=⟨_,rfl⟩
         obtain⟨g7,w7,hg7,hw7,hB7,hb7⟩:=Xy wr 258 [.int .i64 1,.int .i64 0,.int .i64 nn,.int .i64 0,.slice (some (ad.add (40*m))) (40) (c - 40*m)];subst hg7;have hbk:Rd w7 w7.heap.size (some ⟨wr.heap.size,0,none⟩) (BD.cells bd):=by rw[←hbd];exact hB7.rd
         have hK7:=HW.o.2.2.1.next hb7;have hbo:bd.ok wr:=by rw[←hbd];exact⟨show (1:Int)≤1∧(1:Int)≤4 by decide,HA.o.2.2.1,show (0:Int)≤0∧(0:Int)≤1048576 by decide,hy,hL.2⟩
         have HBS:=hid (show bd.seq=nn by rw[←hbd]);have HRS:=hid (show RsL (rs++[bd]) (m+1) bs by rw[←hbd];exact HW.o.2.2.2.2.more (.inl rfl));have HI:=nH (Vg hO hb7) hbk hK7.size;have HJ:=nI hb7 hK7 hbo hrl;clear hO hrl hyl hy hbd hB7 hb7 hbk hK7 hbo hL;go_wp2_with (at_builtin;go_must (refine aAa _ rfl _ _ 259 rfl w.heap.size 258 xi xz 5 56 underlying259 hxi hxz hx5 hx56 hxc (by omega) _ (m+1) (rs.flatMap BD.cells) (by rfl) (by exact HI.o.1) w7.heap.size (some ⟨wr.heap.size,0,none⟩) 1 1 (BD.cells bd) (by rfl) rfl (by exact HI.o.2.1) (by intro u hu;simp[BD.cells] at hu;rcases hu with rfl|rfl|rfl|rfl|rfl<;>rfl) (by omega) (by omega) (by exact HI.o.2.2) ?_);intro v9 w9 hO9 hG9 hn9)
         have hnF:∀g,(Value.slice lA (m+1) lc).ownBlock=some g→¬F g:=fun g hg hf=>by
          have:=Xv HI.o.1 hg;have:=HA.o.1 g hf;omega
         have hAg:Ag F wr w9:=(Ag.of_below HJ.o.1).trans (Ag.grown HI.o.1 (by decide) hG9 hnF)
         have HN:=hid (show (∀x∈rs++[bd],x.ok w9∧x.seq=nn)∧(∃gf,Ul w9 F gd cs1 gf)∧Kf F w w9∧IsY w9 (some ad) n c bs∧RsL (rs++[bd]) (m+1) bs from
          ⟨fun x hx=>by
           rcases rE.1 hx with q|q
           · exact⟨(HW.o.1 x q).1.ag hAg,(HW.o.1 x q).2⟩
           · obtain rfl:x=bd:=by simpa using q
             exact⟨HJ.o.2.2.1.ag hAg,HBS.o⟩,HW.o.2.1.imp (fun _ h=>h.ag hAg),HJ.o.2.1.grown HI.o.1 hG9 (fun g hg=>.inr (Xv HI.o.1 hg)),HW.o.2.2.2.1.ag hAg,HRS.o⟩)
         clear hAg hnF hG9 hn9;go_roundw
         case rel=>exact⟨m+1,rs++[bd],by go_num,by omega,by rw[rH,HJ.o.2.2.2];rfl,by rw[rX];simpa using hO9,HN⟩
         case measure=>simp[intOf];omega
     · have n1:¬(40*(m:Int)<(n:Int)):=by omega
       have hta:=aMz A n c bs wr HW.o.2.2.2.1 (by omega);have wk:wrap64 (m:Int)=(m:Int):=by unfold wrap64;omega
       have HM:=hid (show m≤286∧n≤40*m by omega);have HO:=nF hO hrl;clear hO hrl;go_wp2_with fail
       refine hta.mono ?_;rintro e w6 ⟨⟨v6,b6,rfl,hY6,l6⟩,hb6⟩;obtain⟨A6,e6,rfl,hy6⟩:=hY6.isY;have L6:=hid l6;obtain⟨bd,hbd⟩:∃bd:BD,(⟨2,nn,(m:Int),A6,b6.length,e6,b6⟩:BD)=bd:=⟨_,rfl⟩
       obtain⟨g7,w7,hg7,hw7,hB7,hb7⟩:=Xy w6 258 [.int .i64 2,.int .i64 0,.int .i64 nn,.int .i64 (m:Int),.slice A6 b6.length e6];subst hg7;have hb67:=hb6.trans (hb7.mono hb6.size);have hbk:Rd w7 w7.heap.size (some ⟨w6.heap.size,0,none⟩) (BD.cells bd):=by rw[←hbd];exact hB7.rd
       have hbo:bd.ok w7:=by rw[←hbd];exact⟨show (1:Int)≤2∧(2:Int)≤4 by decide,HA.o.2.2.1,show (0:Int)≤(m:Int)∧(m:Int)≤1048576 by have:=HM.o;omega,hy6.ag (F:=fun _=>False) (.of_below hb7),show b6.length≤40 by omega⟩
       have HBS:=hid (show bd.seq=nn by rw[←hbd]);have HRS:=hid (show (rs++[bd]).map xb=slR m bs b6 by rw[←hbd];exact HW.o.2.2.2.2.fin);have hK7:=HW.o.2.2.1.next hb67;have HI:=nH (Vg HO.o.1 hb67) hbk hK7.size;have HJ:=nI hb67 hK7 hbo HO.o.2;clear hbd hb67 hbk hbo hK7 hb6 hb7 hB7 hy6 hY6 l6 hta n1;go_wp2_with (at_builtin;go_must (refine aAa _ rfl _ _ 259 rfl w.heap.size 258 xi xz 5 56 underlying259 hxi hxz hx5 hx56 hxc (by omega) _ (m+1) (rs.flatMap BD.cells) (by rfl) (by exact HI.o.1) w7.heap.size (some ⟨w6.heap.size,0,none⟩) 1 1 (BD.cells bd) (by rfl) rfl (by exact HI.o.2.1) (by intro u hu;simp[BD.cells] at hu;rcases hu with rfl|rfl|rfl|rfl|rfl<;>rfl) (by omega) (by omega) (by exact HI.o.2.2) ?_);intro v9 w9 hO9 hG9 hn9;obtain⟨vA,vc,rfl⟩:=Xs hO9;obtain⟨T,hT⟩:∃T,m+1+1=T:=⟨_,rfl⟩;rw[hT] at hO9 ⊢;have HT:=hid hT;clear hT)
       have hnF:∀g,(Value.slice lA (m+1) lc).ownBlock=some g→¬F g:=fun g hg hf=>by
        have:=Xv HI.o.1 hg;have:=HA.o.1 g hf;omega
       have hA1:Ag F wr w7:=Ag.of_below HJ.o.1;have hA2:Ag F w7 w9:=Ag.grown HI.o.1 (by decide) hG9 hnF;have hAg:=hA1.trans hA2;have hTl:(rs++[bd]).length=T:=by rw[rH,HJ.o.2.2.2];exact HT.o
       have hTb:T≤288:=by have:=HM.o;have:=HT.o;omega
       have HN:=hid (show (∀x∈rs++[bd],x.ok w9∧x.seq=nn)∧(∃gf,Ul w9 F gd cs1 gf)∧Kf F w w9∧w9.ownsRow w.heap.size 258 5 (.slice vA T vc) T ((rs++[bd]).flatMap BD.cells) from
        ⟨fun x hx=>by
         rcases rE.1 hx with q|q
         · exact⟨(HW.o.1 x q).1.ag hAg,(HW.o.1 x q).2⟩
         · obtain rfl:x=bd:=by simpa using q
           exact⟨HJ.o.2.2.1.ag hA2,HBS.o⟩,HW.o.2.1.imp (fun _ h=>h.ag hAg),HJ.o.2.1.grown HI.o.1 hG9 (fun g hg=>.inr (Xv HI.o.1 hg)),by rw[rX];simpa using hO9⟩)
       obtain⟨R,hR⟩:=nC (rs++[bd]);rw[hR] at HN hTl HRS;have HIn:=hid (HW.o.2.2.2.1.b.len);clear hAg hA1 hA2 hnF hG9 hn9 hO9 hR HW HO HI HJ;go_loopw [90] (fun iv wr=>∃(k:Nat) (cs2:List (List (List Int))) (bl:List (List Int)) (Fk:Xt),k≤T∧iv=.int .i64 (k:Int)∧Hid (ZSC fr bl cs cs2∧(∃gf,Ul wr Fk gd cs2 gf)∧Kf F w9 wr∧Sb w9 F Fk∧In wr Fk∧bl.map kb=(R.take k).map xb∧∀b∈bl,sq b=nn)) (fun iv _=>T - (intOf iv).toNat)
       case atStart=>exact⟨0,cs1,[],F,zL,rfl,hid ⟨HZ.o.zs,HN.o.2.1,Kf.refl F w9,Sb.refl _ _,HA.o.1.next HN.o.2.2.1.size,rfl,by simp⟩⟩
       case round =>
        obtain⟨k,cs2,bl,Fk,hk,rfl,HD⟩:=hrel
        have hgF:¬Fk gs:=fun q=>by
         rcases HD.o.2.2.2.1 gs q with r|r
         · exact HA.o.2.1 r
         · have:=(SL.o w9 HN.o.2.2.1).2.2.2.2;omega
        have hKw:Kf F w wr:=HN.o.2.2.1.trans HD.o.2.2.1 (fun b q=>.inl q);obtain⟨gf2,hD2⟩:=HD.o.2.1;have hbll:=bDt HD.o.2.2.2.2.2.1 (by omega);by_cases hlt:k<T
        · obtain⟨x,hxk⟩:∃x,R[k]'(by omega)=x:=⟨_,rfl⟩
          have hxm:x∈R:=by rw[←hxk];exact rC _
          have hdis:Dis (fun b=>(Value.slice vA T vc).ownBlock=some b) F:=fun b q r=>by
           have:=Xv HN.o.2.2.2 q;have:=HA.o.1 b r;omega
          have hrow:=Vj HN.o.2.2.2 (HD.o.2.2.1.ag hdis) (fun g hg=>hg);obtain⟨ad,eA,had,d0,d1,d2,d3,d4⟩:=aUo (Ve hrow) (k:=k) (by omega) hxk;have hxo:=(HN.o.1 x hxm).1.ag (HD.o.2.2.1.ag (F:=fun _=>False) (fun _ q=>q.elim));subst eA;obtain⟨w10,hw10⟩:=nC (wr.alloc (.cells #[.int .i64 x.kind,.int .i64 0,.int .i64 x.seq,.int .i64 x.lba,.slice x.A x.n x.c] 258));have hB10:Bk w10 wr.heap.size 258 [.int .i64 x.kind,.int .i64 0,.int .i64 x.seq,.int .i64 x.lba,.slice x.A x.n x.c]:=by rw[←hw10];exact Bk.new wr _ _
          have hb10:nD wr w10:=by rw[←hw10];exact nB.alloc lR _
          obtain⟨f0,f1,f2,f3,f4⟩:=hB10.c5;have n1:(k:Int)<(T:Int):=by omega
          have n2:(0:Int)≤(k:Int):=by omega
          have hxo10:=hxo.ag (F:=fun _=>False) (.of_below hb10);have hen:=aDx x.kind 0 x.seq x.lba x.A x.n x.c x.bs w10 hxo10.k ⟨by omega,by omega⟩ hxo10.s hxo10.l hxo10.y.b hxo10.n;have HX:=nK hb10 hgF hKw hxo10 (show R[k]? =some x by rw[tX (by omega),hxk]) (HN.o.1 x hxm).2;clear hxk hxm hdis hrow hxo hxo10 hB10 hb10 had hgF hKw;go_wp2_with fail
          refine hen.mono ?_;rintro e w11 ⟨⟨pv,pb,rfl,hP,lP,e60⟩,hb11⟩;obtain⟨pA,pc,rfl,hpy⟩:=hP.isY;rw[lP] at hpy ⊢;have hb011:=HX.o.1.trans (hb11.mono HX.o.1.size);have hS11:=SL.o w11 (HX.o.2.2.1.next hb011);have HP:=nI hpy hb011 (hD2.ag (.of_below hb011)) (show (bl++[pb]).map kb=(R.take (k+1)).map xb∧∀b∈bl++[pb],sq b=nn from⟨aSv HD.o.2.2.2.2.2.1 HX.o.2.2.2.2.1 (bBs e60 HX.o.2.2.2.1).1,fun b hb=>(rE.1 hb).elim (HD.o.2.2.2.2.2.2 b) (fun q=>by rw[List.mem_singleton.1 q];exact(bBs e60 HX.o.2.2.2.1).2.trans HX.o.2.2.2.2.2)⟩);clear hP lP hpy hb11 hb011 hen d0 d1 d2 d3 d4 f0 f1 f2 f3 f4 hD2 e60;obtain⟨e0,e1,e2,e4,-⟩:=hS11;have q1:((k:Int).tdiv 96)=((k / 96:Nat):Int):=bBz k;obtain⟨q,hq⟩:=nC (k / 96);rw[hq] at q1;have hq3:q<3:=by rw[←hq];exact aYe (tL hlt hTb)
          have w1q:=(bFx hq3).1;have w3q:=(bBg hq3).1;obtain⟨w2q,w4q,w5q⟩:=bBf hf3 hq3;obtain⟨cz,hcz,hcl,hce⟩:=HD.o.1.zone hbll hq (tL hlt hTb);have happ:=aLd (HP.o.2.2.1.ag (.of_below (Xu nB))) hcz hcl (HP.o.1.ag (F:=fun _=>False) (.of_below (Xu nB))) (fun b r=>tL (HD.o.2.2.2.2.1 b r) HP.o.2.1.size);rw[w5q] at happ;have HAP:=hid happ;have SS:=hid (fun (w':World) (h:w'.cell? ⟨gs,0,none⟩=some (.pointer (some ⟨gd,0,none⟩))∧w'.cell? ⟨gs,1+i,none⟩=some (.int .i64 (fr:Int))∧w'.cell? ⟨gs,4,none⟩=some (.int .i64 96))=>h);have HT2:=nH hk (show ZSC fr (bl++[pb]) cs (cs2.set (fr+q) (cz++[pb])) by have h:=HD.o.1.step hbll (tL hlt hTb) hf3 pb;rw[hq,←hce] at h;exact h) hlt;clear hq hcz hcl hce happ hk hbll w5q;go_wp2_with fail
          have Kq:=SS;refine wp_region_held_drew (S:=fun w'=>w'.cell? ⟨gs,0,none⟩=some (.pointer (some ⟨gd,0,none⟩))∧w'.cell? ⟨gs,1+i,none⟩=some (.int .i64 (fr:Int))∧w'.cell? ⟨gs,4,none⟩=some (.int .i64 96)) (by kernel_rfl) (⟨e0,e1,e4⟩) (fun nE=>?_);refine kF 0 ?_;refine kF 1 ?_;refine kF 2 ?_;refine kF 3 ?_;refine kF 4 ?_;refine kF 5 ?_;refine kF 6 ?_;refine kF 7 ?_;refine kF 8 ?_;refine kF 9 ?_;refine kF 10 ?_;refine kF 11 ?_;refine kF 12 ?_;refine kF 13 ?_;refine kF 14 ?_;refine kF 15 ?_;refine kF 16 ?_;refine kF 17 ?_;refine rF 18 (fun K hK=>?_);go_simp;refine HAP.o.mono ?_;rintro e w12 ⟨rfl,F2,hD2,hK2,hS2,hI2⟩;have hk12:Kf F w9 w12:=((HD.o.2.2.1.next HP.o.2.1).drew).trans hK2 HD.o.2.2.2.1;have hs12:=SL.o w12 (HN.o.2.2.1.trans hk12 (fun b q=>.inl q));have hSc:w12.cell? ⟨gs,0,none⟩=some (.pointer (some ⟨gd,0,none⟩))∧w12.cell? ⟨gs,1+i,none⟩=some (.int .i64 (fr:Int))∧w12.cell? ⟨gs,4,none⟩=some (.int .i64 96):=⟨hs12.1,hs12.2.1,hs12.2.2.2.1⟩;have HE:=nK HT2.o.2.1 (show ∃gf,Ul w12 F2 gd (cs2.set (fr+q) (cz++[pb])) gf from⟨_,hD2⟩) hk12 (Sb.trans HD.o.2.2.2.1 hS2 (tK HD.o.2.2.1.size HP.o.2.1.size)) hI2 HP.o.2.2.2;clear hD2 hK2 hS2 hI2 hk12 hs12;go_simp;clear nE;refine hK.out _ _ hSc (fun nE=>?_);clear hK K;try simp only[Act.put,tC,tD,tE]
          refine kF 19 ?_;refine kF 20 ?_;refine kF 21 ?_;refine kF 22 ?_;refine wpAnyH_done (by kernel_rfl) ?_ _;clear Kq;go_wp2_with fail
          go_roundw
          case rel=>exact⟨k+1,_,_,F2,hlt,by go_num,HE⟩
          case measure=>exact aGn hlt
        · obtain rfl:k=T:=by omega
          have n1:¬((k:Int)<(k:Int)):=by omega
          have hfl:=aLl hD2;have HE:=nH hKw hTb hbll;obtain⟨e0,e1,e2,e4,-⟩:=SL.o wr hKw;clear hKw hgF hk hlt hD2 hbll;go_wp2_with fail
          refine hfl.mono ?_;rintro e wz ⟨rfl,hDz,hKz⟩
          have hKwz:Kf F w wz:=HE.o.1.trans hKz (fun b q=>by
           rcases HD.o.2.2.2.1 b q with r|r
           · exact .inl r
           · exact .inr (tK HN.o.2.2.1.size r))
          have HF:=nK hDz (show ∀j,(j<fr∨fr+3≤j)→cs2[j]? =cs[j]? from HD.o.1.ot) (show aFp T (Kk ((cs2.drop fr).take 3)) by
           rw[bAl HD.o.1.at' (by rw[HE.o.2.2];exact HE.o.2.1)];have e:=HD.o.2.2.2.2.2.1;rw[rG (by rw[hTl];exact lR),HRS.o] at e
           exact aSn e (by rw[HIn.o];exact HM.o.2) HOK.o.1 (fun b hb=>by rw[show (frD b).seq=nn from HD.o.2.2.2.2.2.2 b (tZ hb)];exact HOK.o.2)) hKwz (show Sb w F Fk from fun b q=>by
           rcases HD.o.2.2.2.1 b q with r|r
           · exact .inl r
           · exact .inr (tK HN.o.2.2.1.size r)) (HD.o.2.2.2.2.1.next hKz.size)
          clear hDz hKz hKwz hfl;go_wp2_with fail
          go_ret;exact⟨rfl,Fk,cs2,HF.o⟩
def aAm (gd:Nat) (inn:Int) (v:Value) (count:Int):List Value:=[.pointer (some ⟨gd,0,none⟩),.int .i64 0,.int .i64 3,.int .i64 6,.int .i64 96,.int .i64 inn,v,.int .i64 count,.bool false]
theorem aSk {T:Nat} {cs cs':List (List (List Int))} {inn jn:Nat} (hij:inn+jn=1) (h:aFl T cs) (h8:cs'.length=8) (hj:∀j,(j<3*jn∨3*jn+3≤j)→cs'[j]? =cs[j]?) (hs:aFp T (Kk ((cs'.drop (3*jn)).take 3))):(∀j,6≤j→cs'[j]? =cs[j]?)∧aFl T cs':=by
 have h6:∀j,6≤j→cs'[j]? =cs[j]?:=fun j q=>hj j (by omega)
 refine⟨h6,fun i hi=>?_,fun j c q e=>h.log j c q ((h6 j q).symm.trans e)⟩;by_cases e:i=jn
 · rw[e];exact hs
 · rw[show (cs'.drop (3*i)).take 3=(cs.drop (3*i)).take 3 from List.ext_getElem? fun k=>by
    rw[List.getElem?_take,List.getElem?_take,List.getElem?_drop,List.getElem?_drop];split
    · exact hj _ (by omega)
    · rfl]
   exact h.slot i hi
theorem bFa (T:Nat) (F:Xt) (gd gs count inn jn:Nat) (v:Value) (bt:List Int) (cs:List (List (List Int))) (gf0:Bool) (A:Option Addr) (n c:Nat) (bs:List Int) (w:World) (hij:inn+jn=1) (hd:Ul w F gd cs gf0) (h:Uz w gd gs (inn:Int) v bt count) (hI:In w F) (hg:¬F gs) (hc:count≤1000000) (ht:IsY w A n c bs) (hn:n≤11440) (hok:aBh T bs) (hcon:aFl T cs) (hcT:count+1≤T) :
  Calls prog 46 #[.pointer (some ⟨gs,0,none⟩),.slice A n c] w fun e w'=>e=.returned (.int .i64 0)∧∃F' cs' v' bs',Ul w' F' gd cs' true∧Uz w' gd gs (jn:Int) v' bs' (count+1)∧((∀j,6≤j→cs'[j]? =cs[j]?)∧aFl T cs')∧Kf (fun b=>F b∨b=gs) w w'∧Sb w F F'∧In w' F':=by
 have hne:∀b,(fun b=>b=gs) b→¬F b:=fun b q r=>hg (by rw[←q];exact r)
 have hro:=aWa gd gs count (inn:Int) v bt w h;have hde:=aJo gd gs count (inn:Int) v bt (w.drewN 1) (h.ag (F:=fun b=>b=gs) (.of_below (Vw nB 1)) rfl);have t0:decide (11440<(n:Int))=false:=rY (by omega);have hw1:nD w (w.drewN 1):=Vw nB 1;go_enter func46,ntmps46
 go_wp2_with fail
 refine hro.mono ?_;rintro e w1 ⟨rfl,q,rfl⟩;obtain⟨w1,hw1⟩:=nC (w.drewN q);have hb1:nD w w1:=by rw[←hw1];exact Vw nB q
 rw[hw1];have hx1:Uz w1 gd gs (inn:Int) v bt count:=h.ag (F:=fun b=>b=gs) (.of_below hb1) rfl;have hd1:=hd.ag (.of_below hb1);have ht1:=ht.ag (F:=fun _=>False) (.of_below hb1);have hde1:=aJo gd gs count (inn:Int) v bt w1 hx1;clear hde hro hw1;go_wp2_with fail
 refine hde1.mono ?_;rintro e w' ⟨rfl,rfl⟩;obtain⟨wd,hwd⟩:=nC (w1.drew);have hbd:nD w1 wd:=by rw[←hwd];exact Xu nB
 have hId:In wd F:=fun b r=>tL (hI b r) (tK hb1.size hbd.size)
 have hxd:Uz wd gd gs (inn:Int) v bt count:=hx1.ag (F:=fun b=>b=gs) (.of_below hbd) rfl;have hwr:=bBh T F gd gs count (inn:Int) v bt cs gf0 ((count+1:Nat):Int) A n c bs jn wd (hd1.ag (.of_below hbd)) hxd hId hg ⟨by omega,by omega⟩ (ht1.ag (F:=fun _=>False) (.of_below hbd)) hn (by omega) hok (Int.ofNat_le.2 hcT);rw[show ((count+1:Nat):Int)=(count:Int)+1 by omega] at hwr;have HWR:=hid hwr
 have HSX:=hid (fun w' (k:Kf F wd w')=>(show w'.cell? ⟨gs,5,none⟩=some (.int .i64 (inn:Int))∧w'.cell? ⟨gs,7,none⟩=some (.int .i64 (count:Int)) from
  ⟨(hxd.ag (k.ag (F:=fun b=>b=gs) hne) rfl).bx.cell (i:=5) (by simp),(hxd.ag (k.ag (F:=fun b=>b=gs) hne) rfl).bx.cell (i:=7) (by simp)⟩))
 have HSX2:=hid (fun w' (k:Kf F wd w')=>hxd.ag (k.ag (F:=fun b=>b=gs) hne) rfl);have SS:=hid (fun (w':World) (h:w'.cell? ⟨gs,5,none⟩=some (.int .i64 (inn:Int))∧w'.cell? ⟨gs,7,none⟩=some (.int .i64 (count:Int)))=>h);have wc:wrap64 ((count:Int)+1)=(count:Int)+1:=by unfold wrap64;omega
 have wc2:IntKind.i64.wrap ((count:Int)+1)=(count:Int)+1:=IntWalk.i64_in _ (by omega);have c5:=hxd.bx.cell (i:=5) (by simp);have c7:=hxd.bx.cell (i:=7) (by simp);simp only[tI,tJ] at c5 c7;have HT1:=hid ht1;have wi:IntKind.i64.wrap (1 - (inn:Int))=(jn:Int):=(IntWalk.i64_in _ (by omega)).trans (by omega);have wi2:wrap64 (1 - (inn:Int))=(jn:Int):=by unfold wrap64;omega
 have hgl:=hid (show gs<wd.heap.size from hxd.bx.lt);have HB:=nF hb1 hbd;have HCON:=hid hcon;have HIJ:=hid hij;clear hwr hxd hId hx1 hd1 ht1 hde1 hbd hb1 h hd ht hok hcon hcT;go_wp2_with fail
 have Kq:=SS;refine wp_region_held_drew (S:=fun w'=>w'.cell? ⟨gs,5,none⟩=some (.int .i64 (inn:Int))∧w'.cell? ⟨gs,7,none⟩=some (.int .i64 (count:Int))) (by kernel_rfl) (by rw[hwd];exact⟨c5,c7⟩) (fun nE=>?_);refine kF 0 ?_;refine kF 1 ?_;refine kF 2 ?_;refine kF 3 ?_;refine kF 4 ?_;refine kF 5 ?_;refine kF 6 ?_;refine kF 7 ?_;refine kF 8 ?_;refine kF 9 ?_;refine kF 10 ?_;refine kF 11 ?_;refine rF 12 (fun K hK=>?_);go_simp;refine HWR.o.mono ?_;rintro e w2 ⟨rfl,F2,cs2,hD2,hj2,hsl2,hK2,hS2,hI2⟩;have hi2:=aSk hij HCON.o hD2.eight hj2 hsl2;clear hj2 hsl2;have HE2:=nJ hD2 hi2 hK2 hS2 hI2;have hSc:=HSX.o w2 hK2;clear hD2 hi2 hK2 hS2 hI2;go_simp;clear nE;refine hK.out _ _ hSc (fun nE=>?_);clear hK K;try simp only[Act.put,tC,tD,tE]
 refine kF 13 ?_;refine wpAnyH_done (by kernel_rfl) ?_ _;clear Kq;go_wp2_with fail
 have hx2:=HSX2.o w2 HE2.o.2.2.1;have HB2:=hid (show Bk w2 gs 182 (aAm gd (inn:Int) v (count:Int)) from hx2.bx);have S9:=hid (fun w' (h:nD w2 w'∧Bk w' gs 182 (aAm gd (inn:Int) v (count:Int)))=>(show w'.cell? ⟨gs,5,none⟩=some (.int .i64 (inn:Int))∧w'.cell? ⟨gs,7,none⟩=some (.int .i64 (count:Int)) from⟨h.2.cell (i:=5) (by simp[aAm]),h.2.cell (i:=7) (by simp[aAm])⟩));have HTX:=hid (HT1.o.ag (F:=fun _=>False) (((Kf.of_below (F:=F) HB.o.2).trans HE2.o.2.2.1 (fun b q=>.inl q)).ag (fun _ q=>q.elim)))
 have HG:=hid (show ¬F2 gs from fun r=>by
  rcases HE2.o.2.2.2.1 gs r with e|e
  · exact hg e
  · have:=hgl.out;omega)
 clear hx2 c5 c7;have Kq:=S9;refine Vn (fun w'=>nD w2 w'∧Bk w' gs 182 (aAm gd (inn:Int) v (count:Int))) [15,16,17,18,19,20,21,22,23] (by kernel_rfl) (⟨Xu nB,HB2.o⟩) (fun nE=>?_);refine kR 0 ?_;refine kR 1 ?_;refine kR 2 ?_;refine kR 3 ?_;refine kR 4 ?_;refine kR 5 ?_;refine kM 6 ?_;refine kR 7 ?_;refine kR 8 ?_;refine kR 10 ?_;refine kR 11 ?_;refine kR 12 ?_;refine kM 13 ?_;refine kR 14 ?_;refine rM 9 (fun K hK=>?_);go_simp;refine(aAh A n c 0 (bs.map (Value.int .u8)) _ (by rw[rU];exact HTX.o.b.len) (HTX.o.ag (F:=fun _=>False) (.of_below (Xu nB))).b.rd Ui (by omega) zL).mono ?_;rintro e w4 ⟨⟨vc,rfl,hvc⟩,hb4⟩;have hS4:=nS (nE.1.trans (hb4.mono nE.1.size)) (nE.2.next hb4 nE.2.lt);have HVC:=hid hvc;obtain⟨xA,xc,rfl⟩:=Xs hvc;clear hvc hb4;go_simp;refine hK.out _ _ (fun _ _=>hS4) ?_;clear hK K nE;have nE:=hS4;try simp only[Act.put,tC,tD,tE]
 refine rM 15 (fun K hK=>?_);go_simp;refine hK.out _ _ (fun h=>absurd (by decide) h) ?_;clear hK K;try simp only[Act.put,tC,tD,tE]
 refine rM 16 (fun K hK=>?_);go_simp;refine hK.out _ _ (fun h=>absurd (by decide) h) ?_;clear hK K;try simp only[Act.put,tC,tD,tE]
 refine rM 17 (fun K hK=>?_);have e5:=nE.2.cell (i:=5) (by simp[aAm]);have f5:=nE.2.free 5;simp only[aAm,tI,tJ] at e5;go_simp;refine hK.out _ _ (fun h=>absurd (by decide) h) ?_;clear hK K;try simp only[Act.put,tC,tD,tE]
 refine rM 18 (fun K hK=>?_);go_simp;refine hK.out _ _ (fun h=>absurd (by decide) h) ?_;clear hK K;try simp only[Act.put,tC,tD,tE]
 refine rM 19 (fun K hK=>?_);go_simp;refine hK.out _ _ (fun h=>absurd (by decide) h) ?_;clear hK K;try simp only[Act.put,tC,tD,tE]
 refine rM 20 (fun K hK=>?_);have b5:=nE.2.set 5 (.int .i64 (jn:Int));have e6:=b5.cell (i:=6) (by simp[aAm]);have f6:=b5.free 6;have g6:=nE.2.cell (i:=6) (by simp[aAm]);have h6:=nE.2.free 6;simp only[aAm,tI,tJ] at g6;simp only[aAm,tD,tE,tI,tJ] at e6;go_simp;refine hK.out _ _ (fun h=>absurd (by decide) h) ?_;clear hK K;try simp only[Act.put,tC,tD,tE]
 refine rM 21 (fun K hK=>?_);go_simp;refine hK.out _ _ (fun h=>absurd (by decide) h) ?_;clear hK K;try simp only[Act.put,tC,tD,tE]
 refine rM 22 (fun K hK=>?_);go_simp;refine hK.out _ _ (fun h=>absurd (by decide) h) ?_;clear hK K;try simp only[Act.put,tC,tD,tE]
 refine rM 23 (fun K hK=>?_);have b6:=b5.set 6 (.slice xA n xc);have e7:=b6.cell (i:=7) (by simp[aAm]);have f7:=b6.free 7;have g7:=nE.2.cell (i:=7) (by simp[aAm]);have h7:=nE.2.free 7;simp only[aAm,tI,tJ] at g7;simp only[aAm,tD,tE,tI,tJ] at e7;go_simp;refine hK.out _ _ (fun h=>absurd (by decide) h) ?_;clear hK K;try simp only[Act.put,tC,tD,tE]
 refine Vs (by kernel_rfl) ?_ _;clear Kq;obtain⟨w7,hw7⟩:=nC (((w4.setCell ⟨gs,5,none⟩ (.int .i64 (jn:Int))).setCell ⟨gs,6,none⟩ (.slice xA n xc)).setCell ⟨gs,7,none⟩ (.int .i64 ((count:Int)+1)))
 have hb7:Bk w7 gs 182 (aAm gd (jn:Int) (.slice xA n xc) ((count:Int)+1)):=by
  rw[←hw7];have:=b6.set 7 (.int .i64 ((count:Int)+1));simpa [aAm] using this
 have hk7:Kf (fun b=>b=gs) w2 w7:=by
  rw[←hw7];exact((((Kf.of_below (F:=fun b=>b=gs) nE.1).set nE.2 (by decide) (.inl rfl) 5 _).set b5 (by decide) (.inl rfl) 6 _).set b6 (by decide) (.inl rfl) 7 _)
 have hA7:Ag F2 w2 w7:=hk7.ag (fun b q r=>HG.o (by rw[←show b=gs from r];exact q));have hby:Byt w4 0 (.slice xA n xc) bs:=⟨by have:=HVC.o;rw[←HTX.o.b.len] at this ⊢;exact this,HTX.o.b.wf⟩
 have hk47:Kf (fun b=>b=gs) w4 w7:=by
  rw[←hw7];exact((((Kf.refl (fun b=>b=gs) w4).set nE.2 (by decide) (.inl rfl) 5 _).set b5 (by decide) (.inl rfl) 6 _).set b6 (by decide) (.inl rfl) 7 _)
 have hx7:Uz w7 gd gs (jn:Int) (.slice xA n xc) bs (count+1):=⟨by have:=hb7;unfold aAm at this;rw[show ((count+1:Nat):Int)=(count:Int)+1 by omega];exact this,hby.ag (hk47.ag (F:=fun _=>False) (fun _ q=>q.elim)),by have:=HIJ.o;omega,by rw[HTX.o.b.len];omega⟩;have hK:Kf (fun b=>F b∨b=gs) w w7:=((((Kf.of_below (F:=fun b=>F b∨b=gs) HB.o.1).next HB.o.2).trans HE2.o.2.2.1 (fun b q=>.inl (.inl q))).trans hk7 (fun b q=>.inl (.inr q)))
 have HE:=nK (HE2.o.1.ag hA7) hx7 HE2.o.2.1 hK (show Sb w F F2 from fun b q=>by
  rcases HE2.o.2.2.2.1 b q with r|r
  · exact .inl r
  · exact .inr (tK HB.o.1.size (tK HB.o.2.size r))) (HE2.o.2.2.2.2.next hk7.size)
 clear hb7 hk7 hA7 hby hk47 hx7 hK b5 b6;go_wp2_with fail
 go_ret;rw[hw7];exact⟨rfl,F2,cs2,_,_,HE.o⟩
def aJs (T:Nat) (w:World) (F:Xt) (gd:Nat) (ns:List Nat):Prop:=∃cs gf,Ul w F gd cs gf∧cs.map List.length=ns∧aFl T cs
section
variable {T:Nat} {w w':World} {F:Xt} {gd:Nat} {ns:List Nat}
theorem aJs.ag (h:aJs T w F gd ns) (k:Ag F w w'):aJs T w' F gd ns:=by
 obtain⟨cs,gf,h1,h2,h3⟩:=h;exact⟨cs,gf,h1.ag k,h2,h3⟩
theorem Ut.l (h:Ut T w F gd ns):aJs T w F gd ns:=by
 obtain⟨cs,h1,h2,h3⟩:=h;exact⟨cs,true,h1,h2,h3⟩
theorem aDz {cs:List (List (List Int))} {i k:Nat} (h:(cs.map List.length)[i]? =some k):∃c,cs[i]? =some c∧c.length=k:=by
 rw[rW] at h
 cases hc:cs[i]? with
 | none=>rw[hc] at h;cases h
 | some c=>rw[hc] at h;exact⟨c,rfl,rT h⟩
theorem aFl.log_set {cs:List (List (List Int))} (h:aFl T cs) {i:Nat} (h6:6≤i) {c:List (List Int)} (hc:∀b∈c,aDi T b):aFl T (cs.set i c):=by
 refine⟨fun j hj=>?_,fun j d hj e b hb=>?_⟩
 · rw[show ((cs.set i c).drop (3*j)).take 3=(cs.drop (3*j)).take 3 from List.ext_getElem? fun k=>by
    rw[List.getElem?_take,List.getElem?_take,List.getElem?_drop,List.getElem?_drop];split
    · rw[rD,if_neg (by omega)]
    · rfl]
   exact h.slot j hj
 · rw[rD] at e;split at e
   · split at e
     · obtain rfl:=rT e;exact hc b hb
     · cases e
   · exact h.log j d hj e b hb
theorem aTk (h:aJs T w F gd ns) {i k:Nat} (hi:ns[i]? =some k) (h6:6≤i) (hk:k<96) {A:Option Addr} {cp:Nat} {b:List Int} (hp:IsY w A 64 cp b) (hb:aDi T b) (hI:In w F) :
  Calls prog 110 #[.pointer (some ⟨gd,0,none⟩),.int .i64 (i:Int),.slice A 64 cp] w fun e w'=>e=.returned (.tuple #[.int .i64 (k:Int),.int .i64 0])∧∃F',aJs T w' F' gd (ns.set i (k+1))∧Kf F w w'∧Sb w F F'∧In w' F':=by
 obtain⟨cs,gf,h1,rfl,h3⟩:=h;obtain⟨c,hc,rfl⟩:=aDz hi;refine(aLd h1 hc hk hp hI).mono ?_;rintro e w' ⟨rfl,F',hd,hk,hs,hI'⟩;exact⟨rfl,F',⟨_,false,hd,by rw[List.map_set,rH];rfl,h3.log_set h6 fun x hx=>(rE.1 hx).elim (h3.log i c h6 hc x) (fun q=>(List.mem_singleton.1 q)▸hb)⟩,hk,hs,hI'⟩
theorem aPq (h:aJs T w F gd ns) :
  Calls prog 111 #[.pointer (some ⟨gd,0,none⟩)] w fun e w'=>e=.returned (.int .i64 0)∧Ut T w' F gd ns∧Kf F w w':=by
 obtain⟨cs,gf,h1,h2,h3⟩:=h;exact(aLl h1).mono fun e w' ⟨a,b,c⟩=>⟨a,⟨cs,b,h2,h3⟩,c⟩
theorem bAf (h:Ut T w F gd ns) {i k:Nat} (hi:ns[i]? =some k) (h6:6≤i) :
  Calls prog 49 #[.pointer (some ⟨gd,0,none⟩),.int .i64 (i:Int)] w fun e w'=>e=.returned (.int .i64 0)∧Ut T w' F gd (ns.set i 0)∧Kf F w w':=by
 obtain⟨cs,h1,rfl,h3⟩:=h;obtain⟨c,hc,rfl⟩:=aDz hi;exact(aQe h1 hc).mono fun e w' ⟨a,b,k⟩=>⟨a,⟨_,b,by rw[List.map_set];rfl,h3.log_set h6 (by simp)⟩,k⟩
theorem bFb {gs count:Nat} {inn:Int} {v:Value} {bt:List Int} {A:Option Addr} {n c:Nat} {bs:List Int} (hd:Ut T w F gd ns) (h:Uz w gd gs inn v bt count) (hI:In w F) (hg:¬F gs) (hc:count≤1000000) (ht:IsY w A n c bs) (hn:n≤11440) (hok:aBh T bs) (hcT:count+1≤T) :
  Calls prog 46 #[.pointer (some ⟨gs,0,none⟩),.slice A n c] w fun e w'=>e=.returned (.int .i64 0)∧∃F' ns' inn' v' bs',Ut T w' F' gd ns'∧Uz w' gd gs inn' v' bs' (count+1)∧(∀j,6≤j→ns'[j]? =ns[j]?)∧Kf (fun b=>F b∨b=gs) w w'∧Sb w F F'∧In w' F':=by
 obtain⟨cs,h1,rfl,h3⟩:=hd
 have key:∀(a b:Nat),a+b=1→Uz w gd gs (a:Int) v bt count→Calls prog 46 #[.pointer (some ⟨gs,0,none⟩),.slice A n c] w fun e w'=>e=.returned (.int .i64 0)∧∃F' ns' inn' v' bs',Ut T w' F' gd ns'∧Uz w' gd gs inn' v' bs' (count+1)∧(∀j,6≤j→ns'[j]? =(cs.map List.length)[j]?)∧Kf (fun b=>F b∨b=gs) w w'∧Sb w F F'∧In w' F':=fun a b hab hx=>by
  refine(bFa T F gd gs count a b v bt cs true A n c bs w hab h1 hx hI hg hc ht hn hok h3 hcT).mono ?_;rintro e w' ⟨rfl,F',cs',v',bs',hd',hs',⟨hj,hc'⟩,hk,hs,hi⟩;exact⟨rfl,F',_,_,v',bs',⟨cs',hd',rfl,hc'⟩,hs',fun j hj6=>by rw[rW,rW,hj j hj6],hk,hs,hi⟩
 rcases h.two with rfl|rfl
 · exact key 0 1 rfl h
 · exact key 1 0 rfl h
theorem Ut.new {v:Value} {zs:List ZD} (h:Uo w F gd v 0 0 0 zs) (hz:∀z∈zs,z.v=.slice none 0 0∧z.n=0∧z.rows=[]∧z.good=0):Ut 0 w F gd (List.replicate 8 0):=by
 refine⟨List.replicate 8 [],⟨v,0,0,0,zs,h,by rw[h.zl];rfl,fun i z c hi hc=>?_,fun _ z hm=>by obtain⟨_,e,_,g⟩:=hz z hm;rw[e,g];rfl⟩,rfl,⟨fun i hi=>?_,fun j c hj e b hb=>?_⟩⟩
 · obtain⟨_,e,_,_⟩:=hz z (tZ hi);obtain rfl:c=[]:=(List.mem_replicate.1 (tZ hc)).2;exact⟨e,fun k b q=>by simp at q⟩
 · have:i=0∨i=1:=by omega
   rcases this with rfl|rfl<;>exact aOu
 · obtain rfl:c=[]:=(List.mem_replicate.1 (tZ e)).2;simp at hb
end
structure Man (w:World) (F:Xt) (mb:Nat) (m:MS) (g:Nat):Prop where
 x:∃Ft gm kb am qv es,Vl w F Ft mb gm kb am qv 0 m es (128*g) (17*g)
 good:Vq m
 giv:m.given≤g
 num:m.num≤g
 txs:m.txs.length≤g
 big:g≤700
def One (w:World) (F:Xt) (mb:Nat) (m:MS) (g R:Nat):Prop:=∃Ft gm kb am qv es,Vl w F Ft mb gm kb am qv 0 m es (128*g) R
theorem One.ag {w w':World} {F:Xt} {mb g R:Nat} {m:MS} (h:One w F mb m g R) (k:Ag F w w'):One w' F mb m g R:=by
 obtain⟨Ft,gm,kb,am,qv,es,hx⟩:=h;exact⟨Ft,gm,kb,am,qv,es,hx.ag k⟩
section
variable {w w':World} {F F':Xt} {mb g:Nat} {m m':MS}
theorem Man.ag (h:Man w F mb m g) (k:Ag F w w'):Man w' F mb m g:=by
 obtain⟨Ft,gm,kb,am,qv,es,hx⟩:=h.x;exact⟨⟨Ft,gm,kb,am,qv,es,hx.ag k⟩,h.good,h.giv,h.num,h.txs,h.big⟩
theorem Man.next (h:Man w F mb m g) (k:nD w w'):Man w' F mb m g:=h.ag (.of_below k)
theorem Man.inn (h:Man w F mb m g):In w F:=by
 obtain⟨Ft,gm,kb,am,qv,es,hx⟩:=h.x;exact hx.fam.lt
theorem Man.up (h:Man w F mb m g) (hg:g+1≤700):Man w F mb m (g+1):=by
 obtain⟨Ft,gm,kb,am,qv,es,hx⟩:=h.x;exact⟨⟨Ft,gm,kb,am,qv,es,hx.up (by omega) (by omega) (by omega) (by omega)⟩,h.good,tM h.giv,tM h.num,tM h.txs,hg⟩
structure Kj (w w':World) (F:Xt) (mb:Nat) (m':MS) (g:Nat):Prop where
 p:∃F',Man w' F' mb m' (g+1)∧Kf F w w'∧Sb w F F'∧In w' F'
theorem Kj.of_same (h:Man w F mb m g) (hg:g+1≤700) (hb:nD w w'):Kj w w' F mb m g :=
 ⟨F,(h.up hg).next hb,.of_below hb,fun b q=>.inl q,h.inn.next hb.size⟩
theorem Kj.of (h:Man w F mb m g) (hg:g+1≤700) {Ft':Nat→Xt} {gm kb am:Nat} {qv:Value} {es:List TE} {N R:Nat} (hx:Vl w' F' Ft' mb gm kb am qv 0 m' es N R) (hN:N≤128*(g+1)) (hR:R≤17*(g+1)) (k:Kf F w w') (hs:Sb w F F') (hi:In w' F') (hm:Vq m') (h1:m'.given≤g+1) (h2:m'.num≤g+1) (h3:m'.txs.length≤g+1):Kj w w' F mb m' g :=
 ⟨F',⟨⟨Ft',gm,kb,am,qv,es,hx.up hN (by omega) hR (by omega)⟩,hm,h1,h2,h3,hg⟩,k,hs,hi⟩
end
def Vh (gd mb gs pos num:Nat):List Value:=[.pointer (some ⟨gd,0,none⟩),.int .i64 0,.int .i64 3,.int .i64 6,.int .i64 7,.pointer (some ⟨mb,0,none⟩),.pointer (some ⟨gs,0,none⟩),.int .i64 (pos:Int),.int .i64 (num:Int),.bool false]
structure Kd (w:World) (F:Xt) (Ft:Nat→Xt) (sb gd mb gs lz lp num count:Nat) (ns:List Nat) (m:MS) (g:Nat):Prop where
 fam:Fam w F Ft
 bx:Bk w sb 99 (Vh gd mb gs lp num)
 man:Man w (Ft 1) mb m g
 dev:Ut g w (Ft 2) gd ns
 slo:∃inn v bs,Uz w gd gs inn v bs count
 f0:Ft 0 sb
 f3:Ft 3 gs
 z6:ns[6]? =some (zc lz 0)
 z7:ns[7]? =some (zc lz 1)
 pos:lp≤192
 num:num≤lp
 cnt:count≤g
abbrev Kh (w:World) (F:Xt) (Ft:Nat→Xt) (sb gd mb gs lp num count:Nat) (ns:List Nat) (m:MS) (g:Nat):Prop:=Kd w F Ft sb gd mb gs lp lp num count ns m g
def Sto (w:World) (F:Xt) (sb:Nat) (dv:Value) (pos:Nat) (m:MS) (g:Nat):Prop:=∃Ft gd mb gs num count ns,dv=gp gd∧Kh w F Ft sb gd mb gs pos num count ns m g
section
variable {w w':World} {F:Xt} {Ft:Nat→Xt} {sb gd mb gs lz pos num count g:Nat} {ns:List Nat} {m m':MS} {dv:Value}
theorem Kd.ag (h:Kd w F Ft sb gd mb gs lz pos num count ns m g) (k:Ag F w w'):Kd w' F Ft sb gd mb gs lz pos num count ns m g:=by
 have a:∀i,Ag (Ft i) w w':=fun i=>k.mono (h.fam.sub i)
 obtain⟨inn,v,bs,hs⟩:=h.slo;exact⟨h.fam.next k.size,Bk.ag h.bx (a 0) h.f0,h.man.ag (a 1),h.dev.ag (a 2),⟨inn,v,bs,hs.ag (a 3) h.f3⟩,h.f0,h.f3,h.z6,h.z7,h.pos,h.num,h.cnt⟩
theorem Kd.next (h:Kd w F Ft sb gd mb gs lz pos num count ns m g) (k:nD w w'):Kd w' F Ft sb gd mb gs lz pos num count ns m g:=h.ag (.of_below k)
theorem Kd.up (h:Kd w F Ft sb gd mb gs lz pos num count ns m g) (hg:g+1≤700):Kd w F Ft sb gd mb gs lz pos num count ns m (g+1) :=
 ⟨h.fam,h.bx,h.man.up hg,h.dev.up (tW g),h.slo,h.f0,h.f3,h.z6,h.z7,h.pos,h.num,tM h.cnt⟩
theorem Sto.ag (h:Sto w F sb dv pos m g) (k:Ag F w w'):Sto w' F sb dv pos m g:=by
 obtain⟨Ft,gd,mb,gs,num,count,ns,e,h⟩:=h;exact⟨Ft,gd,mb,gs,num,count,ns,e,h.ag k⟩
theorem Sto.up (h:Sto w F sb dv pos m g) (hg:g+1≤700):Sto w F sb dv pos m (g+1):=by
 obtain⟨Ft,gd,mb,gs,num,count,ns,e,h⟩:=h;exact⟨Ft,gd,mb,gs,num,count,ns,e,h.up hg⟩
def Kc (w w':World) (F:Xt) (sb:Nat) (dv:Value) (pos:Nat) (m':MS) (g:Nat):Prop:=∃F',Sto w' F' sb dv pos m' g∧Kf F w w'∧Sb w F F'∧In w' F'
theorem Kc.pre {w5:World} (hb:nD w w5) (h:Kc w5 w' F sb dv pos m g):Kc w w' F sb dv pos m g:=by
 obtain⟨F',h1,h2,h3,h4⟩:=h;exact⟨F',h1,(Kf.of_below (F:=F) hb).trans h2 (fun b q=>.inl q),fun b q=>(h3 b q).imp id (tK hb.size),h4⟩
theorem Kd.same (h:Kd w F Ft sb gd mb gs pos pos num count ns m g) (hg:g+1≤700) (hb:nD w w'):Kc w w' F sb (gp gd) pos m (g+1) :=
 ⟨F,⟨Ft,gd,mb,gs,num,count,ns,rfl,(h.up hg).next hb⟩,.of_below hb,fun b q=>.inl q,h.fam.lt.next hb.size⟩
theorem Kd.mandP (P:Xt→Prop) (h:Kd w F Ft sb gd mb gs pos pos num count ns m g) (hr:∃G,(Man w' G mb m' (g+1)∧P G)∧Kf (Ft 1) w w'∧Sb w (Ft 1) G∧In w' G):∃F' Ft',(Kh w' F' Ft' sb gd mb gs pos num count ns m' (g+1)∧P (Ft' 1))∧Kf F w w'∧Sb w F F'∧In w' F':=by
 obtain⟨G,⟨hm,hP⟩,k,hG,hi⟩:=hr;have hf:=h.fam.step k.size hG hi;have a:∀j,j≠1→Ag (Ft j) w w':=fun j hn=>h.fam.ag k hn
 have pe:∀j,j≠1→Uu Ft 1 G j=Ft j:=fun j hn=>aAb Ft G hn
 obtain⟨inn,v,bs,hs⟩:=h.slo;exact⟨orF F G,Uu Ft 1 G,⟨⟨hf,Bk.ag h.bx (a 0 (by decide)) h.f0,by rw[Ua];exact hm,by rw[pe 2 (by decide)];exact(h.dev.ag (a 2 (by decide))).up (tW g),⟨inn,v,bs,hs.ag (a 3 (by decide)) h.f3⟩,by rw[pe 0 (by decide)];exact h.f0,by rw[pe 3 (by decide)];exact h.f3,h.z6,h.z7,h.pos,h.num,tM h.cnt⟩,by rw[Ua];exact hP⟩,h.fam.kf k,h.fam.sb hG,hf.lt⟩
theorem Kd.mand (h:Kd w F Ft sb gd mb gs pos pos num count ns m g) (hr:Kj w w' (Ft 1) mb m' g):∃F' Ft',Kh w' F' Ft' sb gd mb gs pos num count ns m' (g+1)∧Kf F w w'∧Sb w F F'∧In w' F':=by
 obtain⟨G,h1,h2⟩:=hr.p;obtain⟨F',Ft',h3,h4⟩:=h.mandP (fun _=>True) ⟨G,⟨h1,trivial⟩,h2⟩;exact⟨F',Ft',h3.1,h4⟩
theorem Kd.mandR (h:Kd w F Ft sb gd mb gs pos pos num count ns m g) (hr:Kj w w' (Ft 1) mb m' g):Kc w w' F sb (gp gd) pos m' (g+1):=by
 obtain⟨F',Ft',h1,h2⟩:=h.mand hr;exact⟨F',⟨Ft',gd,mb,gs,num,count,ns,rfl,h1⟩,h2⟩
theorem Kd.devd (h:Kd w F Ft sb gd mb gs lz pos num count ns m g) {G:Xt} {ns':List Nat} {pos' num' count':Nat} {w5:World} (k:Kf (fun b=>Ft 2 b∨b=gs) w w5) (hG:Sb w (Ft 2) G) (hi:In w5 G) (hd:Ut g w5 G gd ns') (hs:∃inn v bs,Uz w5 gd gs inn v bs count') (k6:Kf (fun b=>b=sb) w5 w') (hb:Bk w' sb 99 (Vh gd mb gs pos' num')) (h6:ns'[6]? =some (zc pos' 0)) (h7:ns'[7]? =some (zc pos' 1)) (hp:pos'≤192) (hn:num'≤pos') (hc:count'≤g) :
  ∃F' Ft',Kh w' F' Ft' sb gd mb gs pos' num' count' ns' m g∧Kf F w w'∧Sb w F F'∧In w' F':=by
 have d03:sb≠gs:=fun e=>h.fam.dis 0 3 (by decide) sb h.f0 (e▸h.f3)
 have d2:∀b,Ft 2 b→b≠gs∧b≠sb:=fun b q=>⟨fun e=>h.fam.dis 2 3 (by decide) b q (e▸h.f3),fun e=>h.fam.dis 2 0 (by decide) b q (e▸h.f0)⟩
 have d1:∀b,Ft 1 b→¬(Ft 2 b∨b=gs)∧b≠sb:=fun b q=>⟨fun e=>e.elim (fun r=>h.fam.dis 1 2 (by decide) b q r) (fun e=>h.fam.dis 1 3 (by decide) b q (e▸h.f3)),fun e=>h.fam.dis 1 0 (by decide) b q (e▸h.f0)⟩
 have hlt:sb<w.heap.size:=h.fam.inn 0 sb h.f0;have hlg:gs<w.heap.size:=h.fam.inn 3 gs h.f3
 have nG:∀b,G b→b≠sb∧b≠gs:=fun b q=>by
  rcases hG b q with r|r
  · exact⟨(d2 b r).2,(d2 b r).1⟩
  · omega
 have hf:=h.fam.step (tK k.size k6.size) hG (hi.next k6.size);have pe:∀j,j≠2→Uu Ft 2 G j=Ft j:=fun j hn=>aAb Ft G hn
 obtain⟨inn,v,bs,hs⟩:=hs;refine⟨orF F G,Uu Ft 2 G,⟨hf,hb,?_,?_,⟨inn,v,bs,hs.ag (F:=fun b=>b=gs) (k6.ag (fun b q r=>d03 (r.symm.trans q))) rfl⟩,by rw[pe 0 (by decide)];exact h.f0,by rw[pe 3 (by decide)];exact h.f3,h6,h7,hp,hn,hc⟩,?_,h.fam.sb hG,hf.lt⟩
 · rw[pe 1 (by decide)];exact(h.man.ag (k.ag (fun b q=>(d1 b q).1))).ag (k6.ag (fun b q=>(d1 b q).2))
 · rw[Ua];exact hd.ag (k6.ag (fun b q=>(nG b q).1))
 · refine(k.mono (G:=F) (fun b q=>q.elim (h.fam.sub 2 b) (fun e=>e▸h.fam.sub 3 _ h.f3))).trans (G:=F) (k6.mono (fun b q=>?_)) (fun b q=>.inl q);have q:b=sb:=q;rw[q];exact h.fam.sub 0 _ h.f0
end
section
variable {w:World} {F:Xt} {mb g:Nat} {m:MS}
theorem aHh {Ft:Nat→Xt} {gm kb am:Nat} {qv:Value} {out:Nat} {es:List TE} {N R:Nat} (h:Vl w F Ft mb gm kb am qv out m es N R) {i:Nat} {t:TX} (ht:m.txs[i]? =some t):∃x,es[i]? =some x :=
 ⟨_,tX (by rw[h.len];exact Vi ht)⟩
theorem bBt (h:Man w F mb m g):Calls prog 102 #[.pointer (some ⟨mb,0,none⟩)] w fun e w'=>e=.returned (.int .i64 (m.last:Int))∧w=w':=by
 obtain⟨Ft,gm,kb,am,qv,es,hx⟩:=h.x;exact aRz _ _ _ _ _ _ _ _ hx.bx
theorem bDz (h:Man w F mb m g):Calls prog 243 #[.pointer (some ⟨mb,0,none⟩)] w fun e w'=>e=.returned (.int .i64 (m.queue.length:Int))∧w=w':=by
 obtain⟨Ft,gm,kb,am,qv,es,hx⟩:=h.x;exact aOm _ _ _ _ _ _ _ _ _ _ _ _ _ hx
theorem bGs (h:Man w F mb m g):Calls prog 41 #[.pointer (some ⟨mb,0,none⟩)] w fun e w'=>(∃k:Nat,e=.returned (.int .i64 (k:Int))∧(m.txs=[]→k=0))∧nD w w':=by
 obtain⟨Ft,gm,kb,am,qv,es,hx⟩:=h.x;exact aSa _ _ _ _ _ _ _ _ _ _ _ _ _ hx
theorem aZm (h:Man w F mb m g) {i:Nat} {t:TX} (ht:m.txs[i]? =some t):Calls prog 53 #[.pointer (some ⟨mb,0,none⟩),.int .i64 ((i:Int)+1)] w fun e w'=>(∃code:Int,e=.returned (.tuple #[.int .i64 (t.st:Int),.int .i64 (t.time:Int),.int .i64 code])∧(t.st=3→code=0))∧nD w w':=by
 obtain⟨Ft,gm,kb,am,qv,es,hx⟩:=h.x;obtain⟨x,he⟩:=aHh hx ht;exact aMg _ _ _ _ _ _ _ _ _ _ _ _ i t x w hx ht he (by have:=Vi ht;have:=h.txs;have:=h.big;omega)
theorem aRt (h:Man w F mb m g) (hg:g+1≤700) (yes:Bool):Calls prog 84 #[.pointer (some ⟨mb,0,none⟩),.bool yes] w fun e w'=>e=.returned (.tuple #[])∧Kj w w' F mb {m with read:=yes} g:=by
 obtain⟨Ft,gm,kb,am,qv,es,hx⟩:=h.x;refine(aIk F Ft mb gm kb am qv 0 m es _ _ yes w hx).mono ?_;rintro e w' ⟨rfl,h1,h2⟩;exact⟨rfl,Kj.of h hg h1 (by omega) (by omega) h2 (fun b q=>.inl q) h1.fam.lt (h.good.readonly yes).1 (tM h.giv) (tM h.num) (tM h.txs)⟩
theorem Kj.put (h:Man w F mb m g) (hg:g+1≤700) {w':World} {Ft:Nat→Xt} {gm kb am:Nat} {qv:Value} {es:List TE} {i:Nat} {t t':TX} (ht:m.txs[i]? =some t) (hx:Vl w' F Ft mb gm kb am qv 0 (m.put i t') es (128*g) (17*g)) (k:Kf F w w') (ho:t.st=1) (ha:t'.at'=t.at') (hk:aEm t'.keys)
  (hs:t'.st=1∨t'.st=4∨(t'.st=3∧t'.keys=[]∧t'.time=t.at')):Kj w w' F mb (m.put i t') g :=
 Kj.of h hg hx (by omega) (by omega) k (fun b q=>.inl q) hx.fam.lt (h.good.put ht ho ha hk hs).1 (tM h.giv) (tM h.num) (by show (m.txs.set i t').length≤_;rw[rK];exact tM h.txs)
theorem bDw (h:Man w F mb m g) (hg:g+1≤700) {i:Nat} {t:TX} (ht:m.txs[i]? =some t):Calls prog 225 #[.pointer (some ⟨mb,0,none⟩),.int .i64 ((i:Int)+1)] w fun e w'=>∃r:Int,e=.returned (.int .i64 r)∧((t.st=1∧r=0∧Kj w w' F mb (m.put i {t with st:=4,time:=0}) g)∨(t.st≠1∧r=5∧Kj w w' F mb m g)):=by
 obtain⟨Ft,gm,kb,am,qv,es,hx⟩:=h.x;obtain⟨x,he⟩:=aHh hx ht;refine(aOg F Ft mb gm kb am qv 0 m es _ _ i t x w hx ht he (by have:=Vi ht;have:=h.txs;have:=h.big;omega)).mono ?_;rintro e w' (⟨h1,h2,h3,h4⟩|⟨h1,h2,rfl⟩)
 · exact⟨0,h2,.inl ⟨h1,rfl,Kj.put h hg ht h3 h4 h1 rfl (h.good.rng i t ht).2.2 (.inr (.inl rfl))⟩⟩
 · exact⟨5,h2,.inr ⟨h1,rfl,Kj.of_same h hg nB⟩⟩
def wrR (m:MS) (i:Nat) (t:TX) (n:Nat) (ps:List Vd) (r:Int) (m':MS):Prop :=
 (t.st≠1∧m'=m)∨(t.st=1∧∃ks',m'=m.put i {t with keys:=ks'}∧aEm ks'∧(t.keys.length<16→n=1→(∀p∈ps,0≤p.lba∧p.lba<258∧p.n=40)→r=0∧ks'≠[]∧ks'.length≤t.keys.length+1))
theorem bEb (h:Man w F mb m g) (hg:g+1≤700) {i:Nat} {t:TX} (ht:m.txs[i]? =some t) {A:Option Addr} {n c:Nat} {ps:List Vd} (hp:Uh w A n c ps) (hn:n≤20000):Calls prog 43 #[.pointer (some ⟨mb,0,none⟩),.int .i64 ((i:Int)+1),.slice A n c] w fun e w'=>∃r:Int,e=.returned (.int .i64 r)∧∃m',wrR m i t n ps r m'∧Kj w w' F mb m' g:=by
 obtain⟨Ft,gm,kb,am,qv,es,hx⟩:=h.x;obtain⟨x,he⟩:=aHh hx ht;refine(aOo F Ft mb gm kb am qv 0 m es _ _ i n c t x A ps w hx ht he (by have:=Vi ht;have:=h.txs;have:=h.big;omega) hp hn).mono ?_;rintro e w' ⟨r,rfl,hr⟩;refine⟨r,rfl,?_⟩;rcases hr with ⟨h1,rfl⟩|⟨h1,ks',h3,h4,h5,h6⟩
 · exact⟨m,.inl ⟨h1,rfl⟩,Kj.of_same h hg nB⟩
 · exact⟨_,.inr ⟨h1,ks',rfl,h5,h6⟩,Kj.put h hg ht h3 h4 h1 rfl h5 (.inl h1)⟩
theorem bEa {R:Nat} (h:Man w F mb m g) (ho:One w F mb m g R) (hR:R≤17*g) (hg:g+1≤700) {i:Nat} {t:TX} (ht:m.txs[i]? =some t) (f l:Int):Calls prog 42 #[.pointer (some ⟨mb,0,none⟩),.int .i64 ((i:Int)+1),.agg #[.int .i64 f,.int .i64 l]] w fun e w'=>(∃v,∃r:Int,e=.returned (.tuple #[v,.int .i64 r])∧(t.st=1→aIh f l R→r=0)∧∃bs,Byt w' w.heap.size v bs∧bs.length≤640)∧∃F',(Man w' F' mb m (g+1)∧∃k,(k≤17∧(l=1→k≤2))∧One w' F' mb m (g+1) (R+k))∧Kf F w w'∧Sb w F F'∧In w' F':=by
 obtain⟨Ft,gm,kb,am,qv,es,hx⟩:=ho;obtain⟨x,he⟩:=aHh hx ht;have hb:=h.big;refine(aSb F Ft mb gm kb am qv 0 m es _ _ i t x f l w hx ht he (by have:=Vi ht;have:=h.txs;omega) (by omega)).mono ?_;rintro e w' ⟨h1,k,F',Ft',hk,h2,h3⟩;refine⟨h1,F',⟨⟨⟨Ft',gm,kb,am,qv,es,h2.up (by omega) (by omega) (by omega) (by omega)⟩,h.good,tM h.giv,tM h.num,tM h.txs,hg⟩,k,hk,Ft',gm,kb,am,qv,es,h2.up (by omega) (by omega) lR (by omega)⟩,h3⟩
end
end Go.Proofs.YtdhlicgaalnmoaaGreatDoor.Tp
