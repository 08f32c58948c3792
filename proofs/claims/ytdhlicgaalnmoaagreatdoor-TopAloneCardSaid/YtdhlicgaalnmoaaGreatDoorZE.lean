/- Contracts of the program's functions, and laws on memory: a part of the proof of TopAlone. -/
import Derived.Test.YtdhlicgaalnmoaaGreatDoorZD
set_option linter.unusedSimpArgs false
set_option linter.unusedVariables false
namespace Go.Proofs.YtdhlicgaalnmoaaGreatDoor.Tp
open Lib (hid)
open Tryz
open Go.RowKit Go.Maps
set_option maxHeartbeats 8000000
set_option maxRecDepth 100000
theorem aFo.add {w w' w5:World} {F:Xt} {gs most:Nat} {v:Value} {xs:List ExD} (h:aFo w F gs most v xs) (hb:nD w w5) (hI:In w F) {B:Nat} {u:Value} {ys:List ExD} {k:Nat} (hB:w.heap.size≤B) (hu:ExO w5 B u ys) (hl:ys.length≤most∧ys.length≤k) (e:w'=w5.setCell ⟨gs,1,none⟩ u) :
  ∃F',aDf w' F' gs most k∧Kf F w w'∧Sb w F F'∧In w' F':=by
 have hg:=h.1.next hb h.1.lt;have hgs:=hg.set 1 u;rw[←e] at hgs;have hne:∀g,u.ownBlock=some g→w.heap.size≤g:=fun g q=>tK hB (Xv hu q)
 refine⟨fun b=>F b∨u.ownBlock=some b,⟨u,ys,⟨hgs,?_,hl.1,.inl h.2.2.2.1,fun g q=>.inr q⟩,hl.2⟩,?_,fun b q=>q.elim .inl (fun r=>.inr (hne b r)),fun b q=>?_⟩
 · have:=aKk (p:=⟨gs,1,none⟩) hu (tL h.1.lt hB) u;rw[←e] at this;exact ownsRow_base_a this zL
 · rw[e];exact((Kf.refl F w).next hb).set hg (by decide) (.inl h.2.2.2.1) 1 u
 · have hs:w'.heap.size=w5.heap.size:=by rw[e];exact World.size_setCell _ _ _
   rw[hs];rcases q with q|q
   · exact tL (hI b q) hb.size
   · obtain⟨_,_,hh⟩:=Vx hu q;exact Vz hh
theorem aJt (F:Xt) (gs most n c:Nat) (v:Value) (xs ys:List ExD) (A:Option Addr) (w:World) (h:aFo w F gs most v xs) (hm:most≤1000) (hy:aEg w A n c ys) (hn:n≤1000) (hI:In w F) :
  Calls prog 152 #[.pointer (some ⟨gs,0,none⟩),.slice A n c] w fun e w'=>(∃r:Int,e=.returned (.int .i64 r)∧((∀y∈ys,Kg y=true)→xs.length+n≤most→r=0))∧∃F',aDf w' F' gs most (xs.length+n)∧Kf F w w'∧Sb w F F'∧In w' F':=by
 obtain⟨vA,vc,rfl,hx⟩:=ExO.is h.2.1;have hxl:=h.2.2.1;have hal:=aUu A n c ys w hy;have HX:=nF h hI;have same:∀w',nD w w'→∃F',aDf w' F' gs most (xs.length+n)∧Kf F w w'∧Sb w F F'∧In w' F':=fun w' hb=>⟨F,aDf.ag ⟨_,_,h,tR _ _⟩ (.of_below hb),.of_below hb,.refl _ _,hI.next hb.size⟩
 have HS:=hid same;have hbx:=h.1;clear h hI same;go_enter func152,ntmps152
 go_wp2_with fail
 refine hal.mono ?_;rintro e w1 ⟨⟨r,rfl,hr⟩,hb1⟩;have HF:=hid hr;clear hr
 cases r with
 | false =>
   go_wp2_with fail
   go_ret;exact⟨⟨_,rfl,fun h _=>absurd (HF.o h) (by decide)⟩,HS.o _ hb1⟩
 | true =>
   rcases tP n with h0|h0
   · subst h0;go_wp2_with fail
     go_ret;exact⟨⟨_,rfl,fun _ _=>rfl⟩,HS.o _ hb1⟩
   · have t0:((n:Int)==0)=false:=by simp;omega
     have t0':decide ((n:Int)=0)=false:=rY (by omega);have t0n:¬((n:Int)=0):=by omega
     have hb1g:=hbx.next hb1 hbx.lt;obtain⟨c0,c1⟩:=hb1g.c2;obtain⟨w2,hw2⟩:=nC (w1.alloc (.cells #[.slice vA xs.length vc,.slice A n c] 297));have hB2:Bk w2 w1.heap.size 297 [.slice vA xs.length vc,.slice A n c]:=by rw[←hw2];exact Bk.new _ _ _
     have hb2:nD w1 w2:=by rw[←hw2];exact nB.alloc lR _
     have hcc:=aRe (some ⟨w1.heap.size,0,none⟩) 2 2 [⟨vA,xs.length,vc,xs⟩,⟨A,n,c,ys⟩] w2 rfl hB2.rd (by
      intro x hx';simp at hx'
      rcases hx' with rfl|rfl
      · exact(hx.next hb1).next hb2
      · exact(hy.next hb1).next hb2) (by omega) (by simp;omega)
     have HL:=hid hy.len;have hb12:=hb1.trans (hb2.mono hb1.size);have HB:=hid hb12;clear hal hB2 hb2 hb1 hb12 hy hx;go_wp2_with fail
     refine hcc.mono ?_;rintro e w3 ⟨⟨u3,rfl,hu3⟩,hb3⟩;obtain⟨qs,hqs⟩:=nC (List.flatMap (fun x:RX=>x.xs) [⟨vA,xs.length,vc,xs⟩,⟨A,n,c,ys⟩]);rw[hqs] at hu3;obtain⟨N,hN⟩:=nC (qs.length);have hNl:N=xs.length+n:=by rw[←hN,←hqs];simp[HL.o]
     obtain⟨uA,uc,rfl,hz⟩:=ExO.is hu3;rw[hN] at hz ⊢;have hjn:=aOe uA N uc _ w3 hz (by omega) (by omega);have HNL:=hid hNl;clear hqs hNl hN;have hb3':=HB.o.trans (hb3.mono HB.o.size);have HB3:=hid hb3';clear hcc hz hu3 hb3 hb3';go_wp2_with fail
     refine hjn.mono ?_;rintro e w4 ⟨⟨u4,rfl,zs,hzl,hu4⟩,hb4⟩;obtain⟨zA,zc,rfl,_⟩:=ExO.is hu4;have hb4':=HB3.o.trans (hb4.mono HB3.o.size);have hb4g:=hbx.next hb4' hbx.lt;have HU:=nF hu4 HB3.o.size;have HZ:=hid (show zs.length≤xs.length+n from HNL.o▸hzl);have HB4:=hid hb4';clear c0 c1 hjn hu4 hb4 hb4' hzl;obtain⟨c0,c1⟩:=hb4g.c2;have f1:=hb4g.free 1;by_cases hgt:most<zs.length
     · have t1:decide ((most:Int)<(zs.length:Int))=true:=rZ (by omega);have t1':(most:Int)<(zs.length:Int):=by omega
       have HW:=hid (show xs.length+n≤most→False from fun q=>tT _ (tL hgt (tK HZ.o q)));clear hgt;go_wp2_with fail
       go_ret;exact⟨⟨_,rfl,fun _ q=>(HW.o q).elim⟩,HS.o _ HB4.o⟩
     · have t1:decide ((most:Int)<(zs.length:Int))=false:=rY (by omega);have t1':¬(most:Int)<(zs.length:Int):=by omega
       have HN:=hid (show zs.length≤most∧zs.length≤xs.length+n from⟨Nat.le_of_not_lt hgt,HZ.o⟩);clear hgt;go_wp2_with fail
       go_ret;exact⟨⟨_,rfl,fun _ _=>rfl⟩,HX.o.1.add HB4.o HX.o.2 HU.o.2 HU.o.1 HN.o rfl⟩
theorem aRf (F:Xt) (gs most:Nat) (w:World) (h:aFn w F gs most) (hm:most≤1000) :
  Calls prog 213 #[.pointer (some ⟨gs,0,none⟩)] w fun e w'=>(∃r:Int,e=.returned (.int .i64 r))∧nD w w':=by
 obtain⟨v,xs,h⟩:=h;have hx:=aDk F gs most 0 v xs w h hm zL;have hxl:=h.2.2.1;clear h;go_enter func213,ntmps213
 go_wp2_with fail
 refine hx.mono ?_;rintro e w1 ⟨⟨u,rfl,hu⟩,hb1⟩;obtain⟨A,c,rfl,hz⟩:=ExO.is hu;obtain⟨n,hn⟩:=nC (xs.length);rw[hn] at hz ⊢;have hl:=hz.len;clear hx hu;go_wp2_with fail
 go_loopw [2,8] (fun sv iv wr=>∃(k:Nat) (S:Int),k≤n∧iv=.int .i64 (k:Int)∧sv=.int .i64 S∧nD w wr∧nD w1 wr) (fun _ iv _=>n - (intOf iv).toNat)
 case atStart=>exact⟨0,0,zL,rfl,rfl,hb1,nB⟩
 case round =>
  obtain⟨k,S,hk,rfl,rfl,hW,hW1⟩:=hrel;by_cases hlt:k<n
  · obtain⟨x,hpx⟩:∃p,xs[k]'(by omega)=p:=⟨_,rfl⟩
    have hmx:x∈xs:=by rw[←hpx];exact rC _
    obtain⟨adx,eAx,hadx,c0,c1⟩:=Vk aBb (hz.rd.next lR hW1) (k:=k) (by omega) (u:=.int .i64 x.f) (v:=.int .i64 x.l) (by rw[hpx];rfl);subst eAx;have n0:(k:Int)<(n:Int):=by omega
    have n1:(0:Int)≤(k:Int):=by omega
    clear hpx hmx;obtain⟨w6,hw6⟩:=nC (wr.alloc (.cells #[.int .i64 x.f,.int .i64 x.l] 46));have hB6:Bk w6 wr.heap.size 46 [.int .i64 x.f,.int .i64 x.l]:=by rw[←hw6];exact Bk.new wr _ _
    have hb6:nD wr w6:=by rw[←hw6];exact nB.alloc lR _
    obtain⟨d0,d1⟩:=hB6.c2;have HW6:=hid (show nD w w6∧nD w1 w6 from⟨hW.trans (hb6.mono hW.size),hW1.trans (hb6.mono hW1.size)⟩);clear hB6 hW hW1;go_wp2_with fail
    go_roundw
    case rel=>exact⟨k+1,_,by omega,by go_num,rfl,HW6.o.1,HW6.o.2⟩
    case measure=>simp[intOf];omega
  · obtain rfl:k=n:=by omega
    have n0:¬(k:Int)<(k:Int):=by omega
    go_wp2_with fail
    go_ret;exact⟨⟨_,rfl⟩,hW⟩
theorem aOk (x y:ExD) (g:Nat) (w:World) (h:Bk w g 46 [.int .i64 y.f,.int .i64 y.l]) :
  Calls prog 358 #[.agg #[.int .i64 x.f,.int .i64 x.l],.pointer (some ⟨g,0,none⟩)] w fun e w'=>e=.returned (.bool (aDl x y))∧nD w w':=by
 have hc:=fun w'=>aVg x y w'
 obtain⟨w5,hw5⟩:=nC (w.alloc (.cells #[.int .i64 x.f,.int .i64 x.l] 46));have hB5:Bk w5 w.heap.size 46 [.int .i64 x.f,.int .i64 x.l]:=by rw[←hw5];exact Bk.new w _ _
 have hb5:nD w w5:=by rw[←hw5];exact nB.alloc lR _
 obtain⟨d0,d1⟩:=hB5.c2;have hy:=h.next hb5 h.lt;obtain⟨e0,e1⟩:=hy.c2;clear h hy;go_enter func358,ntmps358
 go_wp2_with fail
 refine(hc _).mono ?_;rintro e w' ⟨rfl,hb⟩;have HB:=hid (hb5.trans (hb.mono hb5.size));clear hc hb;go_wp2_with fail
 go_ret;exact⟨rfl,HB.o⟩
def aCi (xs:List ExD) (y:ExD):Bool:=Kg y&&xs.any (fun x=>aDl x y)
theorem aRx {xs:List ExD} {y:ExD} {r:Bool} (hm:Kg y=true) (h:r=true↔∃x∈xs,aDl x y=true):r=aCi xs y:=by
 unfold aCi;rw[hm,Bool.true_and,Bool.eq_iff_iff,h,List.any_eq_true]
theorem aRy (F:Xt) (gs most:Nat) (v:Value) (xs:List ExD) (y:ExD) (w:World) (h:aFo w F gs most v xs) :
  Calls prog 314 #[.pointer (some ⟨gs,0,none⟩),.agg #[.int .i64 y.f,.int .i64 y.l]] w fun e w'=>e=.returned (.bool (aCi xs y))∧nD w w':=by
 obtain⟨vA,vc,rfl,hx⟩:=ExO.is h.2.1;have hbx:=h.1;obtain⟨N,hN⟩:=nC (xs.length);rw[hN] at hbx hx;have hm:=fun w'=>aGs y w'
 clear h hN;obtain⟨w5,hw5⟩:=nC (w.alloc (.cells #[.int .i64 y.f,.int .i64 y.l] 46));have hB5:Bk w5 w.heap.size 46 [.int .i64 y.f,.int .i64 y.l]:=by rw[←hw5];exact Bk.new w _ _
 have hb5:nD w w5:=by rw[←hw5];exact nB.alloc lR _
 obtain⟨d0,d1⟩:=hB5.c2;have HB5:=nF hB5 hb5;clear hB5;go_enter func314,ntmps314
 go_wp2_with fail
 refine(hm _).mono ?_;rintro e w1 ⟨rfl,hb1⟩;have HB1:=nF (HB5.o.2.trans (hb1.mono HB5.o.2.size)) hb1;obtain⟨mb,hmb⟩:=nC (Kg y);have HMB:=hid hmb;rw[hmb];have hg1:=hbx.next HB1.o.1 hbx.lt;clear hm hb1 hb5 hmb d0 d1;obtain⟨c0,c1⟩:=hg1.c2
 cases mb with
 | false =>
   have HR:=hid (show false=aCi xs y by unfold aCi;rw[HMB.o];rfl);go_wp2_with fail
   go_ret;exact⟨Uf HR.o,HB1.o.1⟩
 | true =>
   have hc:=aUt vA N vc xs 358 #[.pointer (some ⟨w.heap.size,0,none⟩)] (fun x=>aDl x y) w1 (hx.next HB1.o.1) (enters_of func358 (by kernel_rfl) rfl)
    (fun p _ w' hb=>aOk p y w.heap.size w' (((HB5.o.1.next HB1.o.2 HB5.o.1.lt)).next hb (tL HB5.o.1.lt HB1.o.2.size)))
   clear hx;go_wp2_with fail
   refine hc.mono ?_;rintro e w2 ⟨⟨r,rfl,hr⟩,hb2⟩;have HB2:=nF (aRx HMB.o hr) (HB1.o.1.trans (hb2.mono HB1.o.1.size));clear hc hb2 hr;go_wp2_with fail
   go_ret;exact⟨Uf HB2.o.1,HB2.o.2⟩
theorem aYv (F:Xt) (gs most:Nat) (v:Value) (xs:List ExD) (x:Int) (w:World) (h:aFo w F gs most v xs) :
  Calls prog 268 #[.pointer (some ⟨gs,0,none⟩),.int .i64 x] w fun e w'=>e=.returned (.bool (aCi xs ⟨x,1⟩))∧nD w w':=by
 have hc:=aRy F gs most v xs ⟨x,1⟩ w h;generalize aCi xs ⟨x,1⟩=rb at hc;clear h;go_enter func268,ntmps268
 go_wp2_with fail
 refine hc.mono ?_;rintro e w2 ⟨rfl,hb2⟩;go_wp2_with fail
 go_ret;exact⟨rfl,hb2⟩
theorem aQq (w:World):(zeroValue 3).run prog w=.ok (.int .i64 0) w:=by kernel_rfl
theorem aBf:prog.underlying 235=some (.map 3 3):=underlying235
theorem aMc {f:Int→Option Value} (hf:∀x v,Un x→f x=some v→∃j:Int,v=.int .i64 j) {x:Int} (hx:Un x):∃j:Int,(f x).getD (.int .i64 0)=.int .i64 j∧(f x=none→j=0):=by
 cases h:f x with
 | none=>exact⟨0,rfl,fun _=>rfl⟩
 | some v=>obtain⟨j,rfl⟩:=hf x v hx h;exact⟨j,rfl,fun e=>by cases e⟩
theorem aSy (A:Option Addr) (n c:Nat) (ps:List Vd) (w:World) (h:Uh w A n c ps) (hn:n≤20000) (hw:∀p∈ps,Un p.lba) :
  Calls prog 157 #[.slice A n c] w fun e w'=>(∃r,e=.returned (.bool r)∧(n≤1→r=false))∧nD w w':=by
 have hmm:=@run_makeMap prog;have hl:=h.len;obtain⟨w1,hw1⟩:=nC (w.alloc (.map #[] 0));have hb1:nD w w1:=by rw[←hw1];exact nB.alloc lR _
 have him:IM w1 prog 3 w.heap.size 0 (fun _=>none):=by rw[←hw1];exact IM.made _ _ _
 have hrd:=h.rd;have HWF:=hid hw;clear hw h;go_enter func157,ntmps157
 go_wp2_with fail
 go_step3;go_wp2_with fail
 go_step3;go_wp2_with fail
 go_loopw [9] (fun iv wr=>∃k s:Nat,k≤n∧s≤k∧iv=.int .i64 (k:Int)∧nD w wr∧∃f,Hid (IM wr prog 3 w.heap.size s f∧(∀x v,Un x→f x=some v→∃j:Int,v=.int .i64 j)∧(k=0→∀x,f x=none))) (fun iv _=>n - (intOf iv).toNat)
 case atStart=>exact⟨0,0,zL,lR,rfl,hb1,fun _=>none,him,fun x v _ h=>(by cases h),fun _ _=>rfl⟩
 case round =>
  obtain⟨k,s,hk,hsk,rfl,hW,f,HI⟩:=hrel;by_cases hlt:k<n
  · obtain⟨x,hpx⟩:∃p,ps[k]'(by omega)=p:=⟨_,rfl⟩
    have hmx:x∈ps:=by rw[←hpx];exact rC _
    obtain⟨adx,eAx,hadx,c0,c1⟩:=Vk Vy (hrd.next lR hW) (k:=k) (by omega) (u:=.int .i64 x.lba) (v:=.slice x.A x.n x.c) (by rw[hpx];rfl);subst eAx;have hxw:=HWF.o x hmx;obtain⟨j,hj,hj0⟩:=aMc HI.o.2.1 hxw;have n0:(k:Int)<(n:Int):=by omega
    have n1:(0:Int)≤(k:Int):=by omega
    clear hpx hmx;obtain⟨w6,hw6⟩:=nC (wr.alloc (.cells #[.int .i64 x.lba,.slice x.A x.n x.c] 50));have hB6:Bk w6 wr.heap.size 50 [.int .i64 x.lba,.slice x.A x.n x.c]:=by rw[←hw6];exact Bk.new wr _ _
    have hb6:nD wr w6:=by rw[←hw6];exact nB.alloc lR _
    obtain⟨d0,d1⟩:=hB6.c2;have hI6:=HI.o.1.next hb6;have hlk:=hI6.look Uy Ug aBf (aQq _) hxw;rw[hj] at hlk;have HW6:=nH hB6 (hW.trans (hb6.mono hW.size)) HI.o.1.lt;have HJ:=hid (show k=0→j=0 from fun e=>hj0 (HI.o.2.2 e _));have HI6:=nF hI6 HI.o.2.1;clear hB6 hb6 hW hI6 HI hj hj0;obtain⟨V,hV⟩:=nC (wrap64 (j+1));have HV:=hid hV;by_cases hq:V=1
    · subst hq;go_wp2_with (at_mapUpdate;go_must (refine aGj _ rfl _ _ _ 235 rfl 3 3 Uy Ug aBf w.heap.size s f (by rfl) (by exact HI6.o.1) (by omega) x.lba (.int .i64 1) (by rfl) (by exact congrArg (Value.int .i64) HV.o) hxw ?_);intro w7 hI7 hG7;have hB7:Bk w7 wr.heap.size 50 [.int .i64 x.lba,.slice x.A x.n x.c]:=(hG7.block _ HW6.o.1.lt (fun e=>by injection e with e;have:=HW6.o.2.2;omega)).trans HW6.o.1;have e0:=hB7.cell (i:=0) (by simp);simp only[tI] at e0;have hlk7:=hI7.look Uy Ug aBf (aQq _) hxw;rw[aAj] at hlk7;simp only[Option.getD_some] at hlk7)
      have HE:=hid (show Uv s (f x.lba)≤k+1∧nD w w7∧IM w7 prog 3 w.heap.size (Uv s (f x.lba)) (upd f x.lba (some (.int .i64 1)))∧(∀y v,Un y→upd f x.lba (some (.int .i64 1)) y=some v→∃j:Int,v=.int .i64 j) from
       ⟨by unfold Uv;split<;>omega,HW6.o.2.1.grown hG7 HW6.o.2.1.size (fun g hg=>by injection hg with hg;omega),hI7,fun y v hy hv=>by
        unfold upd at hv;split at hv
        · injection hv with hv;exact⟨1,hv.symm⟩
        · exact HI6.o.2 y v hy hv⟩)
      clear hI7 hG7 hB7 e0 hlk7;go_roundw
      case rel=>exact⟨k+1,_,by omega,HE.o.1,by go_num,HE.o.2.1,_,HE.o.2.2.1,HE.o.2.2.2,fun h=>absurd h (by omega)⟩
      case measure=>simp[intOf];omega
    · have t0:decide (V=1)=false:=rY hq;have t1:(V==1)=false:=by simp[hq]
      have HQ:=hid (show n≤1→True=False from fun h1=>by
       have:=HJ.o (by omega);subst this;exact absurd (HV.o.symm.trans (by unfold wrap64;omega)) hq)
      go_wp2_with (at_mapUpdate;go_must (refine aGj _ rfl _ _ _ 235 rfl 3 3 Uy Ug aBf w.heap.size s f (by rfl) (by exact HI6.o.1) (by omega) x.lba (.int .i64 V) (by rfl) (by exact congrArg (Value.int .i64) HV.o) hxw ?_);intro w7 hI7 hG7;have hB7:Bk w7 wr.heap.size 50 [.int .i64 x.lba,.slice x.A x.n x.c]:=(hG7.block _ HW6.o.1.lt (fun e=>by injection e with e;have:=HW6.o.2.2;omega)).trans HW6.o.1;have e0:=hB7.cell (i:=0) (by simp);simp only[tI] at e0;have hlk7:=hI7.look Uy Ug aBf (aQq _) hxw;rw[aAj] at hlk7;simp only[Option.getD_some] at hlk7)
      have HB:=hid (HW6.o.2.1.grown hG7 HW6.o.2.1.size (fun g hg=>by injection hg with hg;omega));clear hI7 hG7 hB7 e0 hlk7;(try simp only[Exit.inBlock,Exit.then,Exit.noGoto_ret])
      go_ret;exact⟨⟨_,rfl,fun h1=>by have:=HQ.o h1;simp at this⟩,HB.o⟩
  · obtain rfl:k=n:=by omega
    have n0:¬(k:Int)<(k:Int):=by omega
    go_wp2_with fail
    (try simp only[Exit.inBlock,Exit.then,Exit.noGoto_ret])
    go_ret;exact⟨⟨_,rfl,fun _=>rfl⟩,hW⟩
def aKo (x:Vd):Bool:=decide (x.lba<0) || decide (258≤x.lba)
def aMa (x:Vd):Bool:=(x.n:Int) !=40
theorem aSz (x:Vd) (gb bb:Nat) (v:Value) (w:World) (hg:Bk w gb 167 [.pointer (some ⟨bb,0,none⟩)]) (hb:Bk w bb 239 [.int .i64 258,.int .i64 16,v]) :
  Calls prog 155 #[.agg #[.int .i64 x.lba,.slice x.A x.n x.c],.pointer (some ⟨gb,0,none⟩)] w fun e w'=>e=.returned (.bool (aKo x))∧nD w w':=by
 obtain⟨w5,hw5⟩:=nC (w.alloc (.cells #[.int .i64 x.lba,.slice x.A x.n x.c] 50));have hB5:Bk w5 w.heap.size 50 [.int .i64 x.lba,.slice x.A x.n x.c]:=by rw[←hw5];exact Bk.new w _ _
 have hb5:nD w w5:=by rw[←hw5];exact nB.alloc lR _
 obtain⟨d0,d1⟩:=hB5.c2;have hg5:=hg.next hb5 hg.lt;have hb5':=hb.next hb5 hb.lt;have g0:=hg5.cell (i:=0) (by simp);simp only[tI] at g0;obtain⟨e0,e1,e2⟩:=hb5'.c3;clear hg hb hg5 hb5';by_cases h0:x.lba<0
 · have t0:decide (x.lba<0)=true:=rZ h0;have HR:=hid (show aKo x=true by simp only[aKo,t0,Bool.true_or]);go_enter func155,ntmps155
   go_wp2_with fail
   go_quiet (fail)
   go_wp2_with fail
   go_ret;exact⟨Uf HR.o.symm,hb5.trans (Vw nB _)⟩
 · have t0:decide (x.lba<0)=false:=rY h0;have HR:=hid (show aKo x=decide (258≤x.lba) by simp only[aKo,t0,Bool.false_or]);go_enter func155,ntmps155
   go_wp2_with fail
   go_quiet (fail)
   go_wp2_with fail
   go_ret;exact⟨Uf HR.o.symm,hb5.trans (Vw nB _)⟩
theorem aTa (x:Vd) (w:World) :
  Calls prog 156 #[.agg #[.int .i64 x.lba,.slice x.A x.n x.c]] w fun e w'=>e=.returned (.bool (aMa x))∧nD w w':=by
 obtain⟨w5,hw5⟩:=nC (w.alloc (.cells #[.int .i64 x.lba,.slice x.A x.n x.c] 50));have hB5:Bk w5 w.heap.size 50 [.int .i64 x.lba,.slice x.A x.n x.c]:=by rw[←hw5];exact Bk.new w _ _
 have hb5:nD w w5:=by rw[←hw5];exact nB.alloc lR _
 obtain⟨d0,d1⟩:=hB5.c2;go_enter func156,ntmps156
 go_wp2_with fail
 go_ret;exact⟨rfl,hb5⟩
def aEn (f:Int→Option Value) (ps:List Vd) (k:Nat):Nat:=((ps.take k).filter fun p=>(f p.lba).isNone).length
theorem aRd (f:Int→Option Value) (ps:List Vd):aEn f ps 0=0:=by simp[aEn]
theorem aIv (f:Int→Option Value) (ps:List Vd) {k:Nat} (hk:k<ps.length):aEn f ps (k+1)=aEn f ps k+if (f ps[k].lba).isNone then 1 else 0:=by
 unfold aEn
 rw[List.take_succ_eq_append_getElem hk,List.filter_append,rH];by_cases h:(f ps[k].lba).isNone=true<;>simp[h]
theorem aPi (f:Int→Option Value) (ps:List Vd) (k:Nat):aEn f ps k≤k:=by
 unfold aEn
 exact tK (List.length_filter_le _ _) (by rw[rJ];omega)
structure WrX (w wr:World) (mb s:Nat) (f:Int→Option Value) (ps:List Vd) (k:Nat) (sk:Nat) (fk:Int→Option Value):Prop where
 im:IM wr prog 3 mb sk fk
 le:sk≤s+aEn f ps k
 more:∀x,(f x).isSome=true→(fk x).isSome=true
 from_:∀x,(fk x).isSome=true→(f x).isSome=true∨∃p∈ps,p.lba=x
 val:∀x v,Un x→fk x=some v→∃A c bs,v=.slice A 40 c∧IsY wr A 40 c bs
 in_:∀j,(hj:j<ps.length)→j<k→(fk ps[j].lba).isSome=true
 kf:Kf (fun b=>b=mb) w wr
theorem WrX.start {w:World} {F:Xt} {bb mb s:Nat} {ks:List Int} {f:Int→Option Value} (h:aDd w F bb mb s ks f) (ps:List Vd):WrX w w mb s f ps 0 s f :=
 ⟨h.im,by omega,fun _ q=>q,fun _ q=>.inl q,h.val,fun j _ hj=>absurd hj (by omega),.refl _ _⟩
theorem aDa {w8 w9:World} {P:Program} {k:TypeId} {mb s:Nat} {f:Int→Option Value} (h:IM w8 P k mb s f) (hg:w8.grownBy w9 (some mb)):Kf (fun b=>b=mb) w8 w9:=by
 obtain⟨es,cl,hmb⟩:=h.at_
 exact⟨hg.os,hg.tape,hg.output,hg.size,fun b ob ho hn=>by
  rw[hg.block b (Vz ho) (fun e=>by
   injection e with e;rcases hn with q|⟨cs,fr,q⟩
   · exact q e
   · rw[e,hmb] at ho;injection ho with ho;rw[q] at ho;cases ho)]
  exact ho⟩
theorem WrX.put {w wr w8 w9:World} {mb s:Nat} {f:Int→Option Value} {ps:List Vd} {k sk:Nat} {fk:Int→Option Value} (h:WrX w wr mb s f ps k sk fk) (hk:k<ps.length) {x:Vd} (hx:ps[k]=x) (hb:nD wr w8) {A:Option Addr} {c:Nat} {bs:List Int} (hy:IsY w8 A 40 c bs)
  (hI:IM w9 prog 3 mb (Uv sk (fk x.lba)) (upd fk x.lba (some (.slice A 40 c)))) (hg:w8.grownBy w9 (some mb)):WrX w w9 mb s f ps (k+1) (Uv sk (fk x.lba)) (upd fk x.lba (some (.slice A 40 c))):=by
 have hk9:=aDa (h.im.next hb) hg;have kY:∀{A:Option Addr} {n c:Nat} {bs:List Int},IsY w8 A n c bs→IsY w9 A n c bs:=fun y=>y.ag (F:=fun _=>False) (hk9.ag (fun _ q=>q.elim))
 refine⟨hI,?_,fun y q=>?_,fun y q=>?_,fun y v hw hv=>?_,fun j hj hjk=>?_,?_⟩
 · rw[aIv f ps hk,hx];have:=h.le;unfold Uv
   cases hf:fk x.lba with
   | some v=>simp;split<;>omega
   | none =>
     have:f x.lba=none:=by
      cases hf2:f x.lba with
      | none=>rfl
      | some v=>have:=h.more x.lba (by rw[hf2];rfl);rw[hf] at this;cases this
     rw[this];simp
     omega
 · by_cases e:y=x.lba
   · subst e;rw[aAj];rfl
   · rw[aAd _ _ e];exact h.more y q
 · by_cases e:y=x.lba
   · exact .inr ⟨x,by rw[←hx];exact rC _,e.symm⟩
   · rw[aAd _ _ e] at q;exact h.from_ y q
 · by_cases e:y=x.lba
   · subst e;rw[aAj] at hv;injection hv with hv;exact⟨A,c,bs,hv.symm,kY hy⟩
   · rw[aAd _ _ e] at hv;obtain⟨A2,c2,b2,e2,y2⟩:=h.val y v hw hv;exact⟨A2,c2,b2,e2,kY (y2.ag (F:=fun _=>True) (.of_below hb))⟩
 · by_cases e:ps[j].lba=x.lba
   · rw[e,aAj];rfl
   · rw[aAd _ _ e];refine h.in_ j hj ?_;rcases tN j k with q|q
     · exact q
     · obtain rfl:j=k:=by omega
       exact absurd (by rw[hx]) e
 · exact(h.kf.next hb).trans (G:=fun b=>b=mb) hk9 (fun b q=>.inl q)
theorem aKf {w:World} {k:TypeId} {P:Program} {b s:Nat} {f:Int→Option Value} (h:IM w P k b s f) (K:Keyed P k) (hk:P.underlying k=some (.int .i64)):∃ks,aEk s f ks:=by
 obtain⟨D,h⟩:=h;exact⟨_,h.sorted K hk (List.Perm.refl _)⟩
theorem WrX.buf {w wr:World} {F:Xt} {bb mb s:Nat} {ks:List Int} {f:Int→Option Value} {ps:List Vd} {n sk:Nat} {fk:Int→Option Value} (h:aDd w F bb mb s ks f) (h2:WrX w wr mb s f ps n sk fk) (hn:ps.length=n) (hl:s+aEn f ps n≤16) (hr:∀p∈ps,0≤p.lba∧p.lba<258) :
  ∃ks',aDh wr F bb ks'∧(0<n→ks'≠[])∧ks'.length≤s+n:=by
 obtain⟨ks',hk⟩:=aKf h2.im Uy Ug
 have hbx:Bk wr bb 239 [.int .i64 258,.int .i64 16,.map (some mb)]:=Bk.ag (F:=fun b=>b=bb) h.bx (h2.kf.ag (fun b q r=>by
  obtain⟨es,cl,hmb⟩:=h.im.at_;have h1:=h.bx;unfold Bk at h1;have q:b=bb:=q;have r:b=mb:=r;subst q;rw[r,hmb] at h1;cases h1)) rfl
 refine⟨ks',⟨mb,sk,fk,hbx,h2.im,hk,fun x hx=>?_,tK h2.le hl,h2.val,h.f0,h.f1⟩,fun h0 e=>?_,by rw[hk.len];exact tK h2.le (Nat.add_le_add_left (aPi f ps n) s)⟩
 · have hw:=hk.wf x hx;rcases h2.from_ x ((hk.mem x hw).1 hx) with q|⟨p,hp,rfl⟩
   · exact h.rng x ((h.keys.mem x hw).2 q)
   · exact hr p hp
 · have h1:=h2.in_ 0 (by omega) h0;have hp:=hr _ (rC (l:=ps) (n:=0) (by omega));have h3:=(hk.mem _ (aDt (by omega) (by omega))).2 h1;rw[e] at h3;cases h3
theorem aTw {w w8:World} {xA yA:Option Addr} {n xc yc:Nat} {xb:List Int} (h:IsY w xA n xc xb) (ho:w8.ownsRow 0 5 1 (.slice yA n yc) n (xb.map (Value.int .u8))):IsY w8 yA n yc xb:=by
 have hl:=h.b.len;obtain⟨A',c',e,hy⟩:=Byt.isY (w:=w8) (B:=0) (v:=.slice yA n yc) (bs:=xb) ⟨by rw[hl];exact ho,h.b.wf⟩;rw[hl] at e hy;injection e with e1 _ e2;subst e1 e2;exact hy
theorem aGz:prog.underlying 157=some (.map 3 41):=underlying157
theorem bHx:∀args w,(callFunc 155 args).run prog w=.ok (.enter 155 args) w:=enters_of func155 (by kernel_rfl) rfl
theorem bHy:∀args w,(callFunc 156 args).run prog w=.ok (.enter 156 args) w:=enters_of func156 (by kernel_rfl) rfl
def aXa (w:World) (F:Xt) (bb s n:Nat) (ps:List Vd) (r:Int) (w':World):Prop:=(∃ks',aDh w' F bb ks'∧(s<16→n=1→(∀p∈ps,0≤p.lba∧p.lba<258∧p.n=40)→r=0∧ks'≠[]∧ks'.length≤s+1))∧Kf F w w'
theorem aNe {w w':World} {F:Xt} {bb mb s n:Nat} {ks:List Int} {f:Int→Option Value} {ps:List Vd} {r:Int} (h:aDd w F bb mb s ks f) (hb:nD w w') (hc:s<16→n=1→¬∀p∈ps,0≤p.lba∧p.lba<258∧p.n=40):aXa w F bb s n ps r w' :=
 ⟨⟨ks,⟨mb,s,f,h.ag (.of_below hb)⟩,fun h1 h2 h3=>absurd h3 (hc h1 h2)⟩,.of_below hb⟩
theorem aNr (F:Xt) (bb mb s n c:Nat) (ks:List Int) (f:Int→Option Value) (A:Option Addr) (ps:List Vd) (w:World) (h:aDd w F bb mb s ks f) (hp:Uh w A n c ps) (hn:n≤20000) :
  Calls prog 93 #[.pointer (some ⟨bb,0,none⟩),.slice A n c] w fun e w'=>∃r:Int,e=.returned (.int .i64 r)∧aXa w F bb s n ps r w':=by
 have hl:=hp.len;obtain⟨w5,hw5⟩:=nC (w.alloc (.cells #[.pointer (some ⟨bb,0,none⟩)] 167));have hB5:Bk w5 w.heap.size 167 [.pointer (some ⟨bb,0,none⟩)]:=by rw[←hw5];exact Bk.new w _ _
 have hb5:nD w w5:=by rw[←hw5];exact nB.alloc lR _
 have d0:=hB5.cell (i:=0) (by simp);simp only[tI] at d0;have HX:=hid h;have HL:=hid h.le;have HB5:=nF hB5 hb5;have hp5:=hp.next hb5;have HP:=hid hp;have hlt5:=HB5.o.1.lt;have c1:=aCd A n c ps 155 #[.pointer (some ⟨w.heap.size,0,none⟩)] aKo w5 hp5 bHx (fun p _ w' hb=>aSz p w.heap.size bb (.map (some mb)) w' (hB5.next hb hlt5) ((h.bx.next hb5 h.bx.lt).next hb (tL h.bx.lt hb5.size)));clear h hp hB5 hp5 hlt5;go_enter func93,ntmps93
 rcases tP n with h0|h0
 · subst h0;go_wp2_with fail
   go_ret;exact⟨_,rfl,aNe HX.o hb5 (fun _ h=>by cases h)⟩
 have t0:((n:Int)==0)=false:=by simp;omega
 have t0':decide ((n:Int)=0)=false:=rY (by omega);have t0n:¬((n:Int)=0):=by omega
 go_wp2_with fail
 refine c1.mono ?_;rintro e w1 ⟨⟨r1,rfl,hr1⟩,hb1⟩;have HB1:=nF (HB5.o.2.trans (hb1.mono HB5.o.2.size)) (HB5.o.1.next hb1 HB5.o.1.lt);have HR1:=hid hr1;clear c1 hr1 hb1 hb5 d0
 cases r1 with
 | true =>
   go_wp2_with fail
   go_ret;refine⟨_,rfl,aNe HX.o HB1.o.1 (fun _ _ hall=>?_)⟩;obtain⟨p,hpm,hpb⟩:=HR1.o.1 (by first|rfl|trivial);have:=hall p hpm;simp only[aKo,Bool.or_eq_true,decide_eq_true_eq] at hpb;omega
 | false =>
 have HG:=hid (show ∀p∈ps,0≤p.lba∧p.lba<258 from fun p hpm=>by
  have h1:aKo p≠true:=fun e=>by have:=HR1.o.2 ⟨p,hpm,e⟩;cases this
  simp only[aKo,ne_eq,Bool.or_eq_true,decide_eq_true_eq,not_or] at h1;omega)
 have c2:=aCd A n c ps 156 #[] aMa w1 (HP.o.next HB1.o.1) bHy (fun p _ w' hb=>aTa p w');go_wp2_with fail
 refine c2.mono ?_;rintro e w2 ⟨⟨r2,rfl,hr2⟩,hb2⟩;have HB2:=nF (HB1.o.1.trans (hb2.mono HB1.o.1.size)) (HB1.o.2.next hb2 HB1.o.2.lt);have HR2:=hid hr2;clear c2 hr2 hb2
 cases r2 with
 | true =>
   go_wp2_with fail
   go_ret;refine⟨_,rfl,aNe HX.o HB2.o.1 (fun _ _ hall=>?_)⟩;obtain⟨p,hpm,hpb⟩:=HR2.o.1 (by first|rfl|trivial);have:=(hall p hpm).2.2;simp[aMa,this] at hpb
 | false =>
 have HN4:=hid (show ∀p∈ps,p.n=40 from fun p hpm=>by
  have h1:aMa p≠true:=fun e=>by have:=HR2.o.2 ⟨p,hpm,e⟩;cases this
  simp[aMa] at h1
  omega)
 have c3:=aSy A n c ps w2 (HP.o.next HB2.o.1) hn (fun p hpm=>aDt (by have:=(HG.o p hpm).1;omega) (by have:=(HG.o p hpm).2;omega));go_wp2_with fail
 refine c3.mono ?_;rintro e w3 ⟨⟨r3,rfl,hr3⟩,hb3⟩;have HB3:=nF (HB2.o.1.trans (hb3.mono HB2.o.1.size)) (HB2.o.2.next hb3 HB2.o.2.lt);have HR3:=hid hr3;clear c3 hr3 hb3
 cases r3 with
 | true =>
   go_wp2_with fail
   go_ret;refine⟨_,rfl,aNe HX.o HB3.o.1 (fun _ h1 _=>?_)⟩;have:=HR3.o (by omega);cases this
 | false =>
 have hx3:=HX.o.ag (.of_below HB3.o.1);have hlen:=fun ty=>hx3.im.len aGz ty
 have b0:=HB3.o.2.cell (i:=0) (by simp);simp only[tI] at b0;obtain⟨c0,c1,c2⟩:=hx3.bx.c3;clear hx3;go_wp2_with fail
 go_loopw [5,37] (fun nv iv wr=>∃k N:Nat,k≤n∧N≤s+k∧iv=.int .i64 (k:Int)∧nv=.int .i64 (N:Int)∧nD w wr∧nD w3 wr∧Hid (N=s+aEn f ps k)) (fun _ iv _=>n - (intOf iv).toNat)
 case atStart=>exact⟨0,s,zL,lR,rfl,rfl,HB3.o.1,nB,by show _=_;rw[aRd];rfl⟩
 case round =>
  obtain⟨k,N,hk,hN,rfl,rfl,hW,hW3,HC⟩:=hrel;clear c0 c1 c2 b0 hlen;by_cases hlt:k<n
  · obtain⟨x,hpx⟩:∃p,ps[k]'(by omega)=p:=⟨_,rfl⟩
    have hmx:x∈ps:=by rw[←hpx];exact rC _
    obtain⟨adx,eAx,hadx,e0,e1⟩:=Vk Vy (HP.o.rd.next lR hW) (k:=k) (by omega) (u:=.int .i64 x.lba) (v:=.slice x.A x.n x.c) (by rw[hpx];rfl);subst eAx;have hxw:Un x.lba:=aDt (by have:=(HG.o x hmx).1;omega) (by have:=(HG.o x hmx).2;omega);have n0:(k:Int)<(n:Int):=by omega
    have n1:(0:Int)≤(k:Int):=by omega
    have HN:=hid (show aEn f ps (k+1)=aEn f ps k+if (f x.lba).isNone then 1 else 0 by rw[aIv f ps (by omega),hpx]);clear hpx hmx;obtain⟨w6,hw6⟩:=nC (wr.alloc (.cells #[.int .i64 x.lba,.slice x.A x.n x.c] 50));have hB6:Bk w6 wr.heap.size 50 [.int .i64 x.lba,.slice x.A x.n x.c]:=by rw[←hw6];exact Bk.new wr _ _
    have hb6:nD wr w6:=by rw[←hw6];exact nB.alloc lR _
    obtain⟨d0,d1⟩:=hB6.c2;have hx6:=(HX.o.ag (.of_below hW)).ag (.of_below hb6);have hlk:=fun m=>(hx6.ag (.of_below (Vw nB m))).look_ok hxw
    have b6:=(HB3.o.2.next hW3 HB3.o.2.lt).next hb6 (tL HB3.o.2.lt hW3.size);have b0:=b6.cell (i:=0) (by simp);simp only[tI] at b0;obtain⟨c0,c1,c2⟩:=hx6.bx.c3;obtain⟨gv,hgv⟩:=nC ((f x.lba).getD (.slice none 0 0));rw[hgv] at hlk;have HS:=nF (hW.trans (hb6.mono hW.size)) (hW3.trans (hb6.mono hW3.size));have wN:wrap64 ((N:Int)+1)=((N+1:Nat):Int):=by unfold wrap64;have:=HL.o;omega
    clear hB6 hb6 hx6 b6 hgv hW hW3
    cases hf:f x.lba with
    | some u =>
      rw[hf] at hlk HN;simp only[Option.isSome_some] at hlk;have HE:=hid (show N=s+aEn f ps (k+1) by have:=HN.o;have:=HC.o;simp at *;omega);clear hf HN;go_wp2_with fail
      go_quiet (fail)
      go_wp2_with fail
      go_roundw
      case rel=>exact⟨k+1,N,by omega,by omega,by go_num,rfl,HS.o.1.trans (Vw nB _),HS.o.2.trans (Vw nB _),HE⟩
      case measure=>simp[intOf];omega
    | none =>
      rw[hf] at hlk HN;simp only[Option.isSome_none] at hlk;have HE:=hid (show N+1=s+aEn f ps (k+1) by have:=HN.o;have:=HC.o;simp at *;omega);clear hf HN;go_wp2_with fail
      go_quiet (fail)
      go_wp2_with fail
      go_roundw
      case rel=>exact⟨k+1,N+1,by omega,by omega,by go_num,by first|rfl|(congr 1),HS.o.1.trans (Vw nB _),HS.o.2.trans (Vw nB _),HE⟩
      case measure=>simp[intOf];omega
  · obtain rfl:k=n:=by omega
    have n0:¬(k:Int)<(k:Int):=by omega
    obtain⟨w4,rfl⟩:∃w4,w4=wr:=⟨_,rfl⟩
    have hx4:=HX.o.ag (.of_below hW);have HX4:=hid hx4;have HY:=hid (fun p hpm=>(HP.o.y p hpm).ag (F:=fun _=>True) (.of_below hW))
    have HNE:=hid (show bb≠mb from fun e=>by
     obtain⟨es,cl,hmb⟩:=hx4.im.at_;have h1:=hx4.bx;unfold Bk at h1;rw[e,hmb] at h1;cases h1)
    have HRd:=hid (show Rd w4 w4.heap.size A (ps.flatMap Vd.cells)∧∀ad,A=some ad→ad.block≠mb from⟨(HP.o.next hW).rd,fun ad e q=>by
     obtain⟨ad',e',_,hc⟩:=(HP.o.next hW).rd (by rw[Vt Vy];omega);rw[e] at e';injection e' with e';subst e';have h1:=hc 0 _ (tX (by rw[Vt Vy];omega));obtain⟨es,cl,hmb⟩:=hx4.im.at_;simp only[Addr.add,if_true] at h1;simp[World.cell?,q,hmb] at h1⟩)
    have HB4:=nF hW (HB3.o.2.next hW3 HB3.o.2.lt);have b0:=HB4.o.2.cell (i:=0) (by simp);simp only[tI] at b0;obtain⟨c0,c1,c2⟩:=hx4.bx.c3;clear hx4 hW hW3;by_cases hgt:16<N
    · have t1:decide ((16:Int)<(N:Int))=true:=rZ (by omega);have t1':(16:Int)<(N:Int):=by omega
      have HQ:=hid (show s<16→k=1→False from fun a b=>by omega);clear hgt;go_wp2_with fail
      go_ret;exact⟨_,rfl,aNe HX.o HB4.o.1 (fun a b _=>HQ.o a b)⟩
    · have t1:decide ((16:Int)<(N:Int))=false:=rY (by omega);have t1':¬(16:Int)<(N:Int):=by omega
      have HN16:=hid (show s+aEn f ps k≤16 by have:=HC.o;omega);clear hgt;go_wp2_with fail
      go_loopw [64] (fun iv wr=>∃k2:Nat,k2≤k∧iv=.int .i64 (k2:Int)∧∃sk fk,Hid (WrX w4 wr mb s f ps k2 sk fk)) (fun iv _=>k - (intOf iv).toNat)
      case atStart=>exact⟨0,zL,rfl,s,f,WrX.start HX4.o ps⟩
      case round =>
       obtain⟨k2,hk2,rfl,sk,fk,HW⟩:=hrel;clear c0 c1 c2 b0 n0;by_cases hlt:k2<k
       · have agw:Ag (fun b=>b≠mb) w4 wr:=HW.o.kf.ag (fun b q r=>q r);obtain⟨x,hpx⟩:=nC (ps[k2]'(by omega));have hmx:x∈ps:=by rw[←hpx];exact rC _
         obtain⟨adx,eAx,hadx,e0,e1⟩:=Vk Vy (Rd.ag HRd.o.1 agw HRd.o.2) (k:=k2) (by omega) (u:=.int .i64 x.lba) (v:=.slice x.A x.n x.c) (by rw[hpx];rfl);subst eAx;have hxw:Un x.lba:=aDt (by have:=(HG.o x hmx).1;omega) (by have:=(HG.o x hmx).2;omega);have hx40:=HN4.o x hmx;have n0:(k2:Int)<(k:Int):=by omega
         have n1:(0:Int)≤(k2:Int):=by omega
         have HPX:=hid hpx;have hxy:=(HY.o x hmx).ag (F:=fun b=>b≠mb) agw;obtain⟨xl,xA,xn,xc,xb⟩:=x;simp only at hx40 hxy hxw e0 e1
         subst hx40;clear hpx hmx;obtain⟨w6,hw6⟩:=nC (wr.alloc (.cells #[.int .i64 xl,.slice xA 40 xc] 50));have hB6:Bk w6 wr.heap.size 50 [.int .i64 xl,.slice xA 40 xc]:=by rw[←hw6];exact Bk.new wr _ _
         have hb6:nD wr w6:=by rw[←hw6];exact nB.alloc lR _
         obtain⟨d0,d1⟩:=hB6.c2;have b6:=(Bk.ag (F:=fun b=>b≠mb) HB4.o.2 agw (fun e=>by have:=HX.o.im.lt;omega)).next hb6 (tL HB4.o.2.lt agw.size);have bx6:=(Bk.ag (F:=fun b=>b≠mb) HX4.o.bx agw HNE.o).next hb6 (tL HX4.o.bx.lt agw.size)
         have KK:=hid (fun (w':World) (hS:nD w6 w')=>(show w'.cell? ⟨w.heap.size,0,none⟩=some (.pointer (some ⟨bb,0,none⟩))∧w'.cell? ⟨bb,2,none⟩=some (.map (some mb))∧w'.cell? ⟨wr.heap.size,0,none⟩=some (.int .i64 xl)∧w'.cell? ⟨wr.heap.size,1,none⟩=some (.slice xA 40 xc) from
          ⟨(b6.next hS b6.lt).cell (i:=0) (by simp),(bx6.next hS bx6.lt).cell (i:=2) (by simp),(hB6.next hS hB6.lt).cell (i:=0) (by simp),(hB6.next hS hB6.lt).cell (i:=1) (by simp)⟩))
         have HY6:=nF hb6 (hxy.ag (F:=fun _=>True) (.of_below hb6));clear hB6 hb6 b6 bx6 hxy agw;go_wp2_with fail
         have Kq:=KK;refine aAn (fun w'=>nD w6 w') 9 (by kernel_rfl) (Xu nB) (fun nE=>?_);refine kL 0 ?_;refine kL 1 ?_;refine kL 2 ?_;refine kL 3 ?_;refine kL 4 ?_;refine kL 5 ?_;refine kL 6 ?_;refine kL 7 ?_;refine rL 8 (fun K hK=>?_);go_simp;refine(aAh xA 40 xc 0 (xb.map (Value.int .u8)) _ (by rw[rU];exact HY6.o.2.b.len) (HY6.o.2.ag (F:=fun _=>False) (.of_below nE)).b.rd Ui (by omega) zL).mono ?_;rintro e w8 ⟨⟨vc,rfl,hvc⟩,hb8⟩;have hS4:nD w6 w8:=nE.trans (hb8.mono nE.size);have HVC:=hid hvc;obtain⟨yA,yc,rfl⟩:=Xs hvc;clear hvc hb8;go_simp;refine hK.out _ _ (fun _=>hS4) ?_;clear hK K nE;have nE:=hS4;try simp only[Act.put,tC,tD,tE]
         refine rL 9 (fun K hK=>?_);refine aDc _ _ _ _ 157 rfl 3 41 Uy Ug aGz mb sk fk (by rfl) (by exact HW.o.im.next (HY6.o.1.trans (nE.mono HY6.o.1.size))) (by have:=HW.o.le;have:=HL.o;have:=aPi f ps k2;omega) xl (.slice yA 40 yc) (by rfl) (by rfl) hxw ?_;intro w9 hI9 hG9;have HE:=hid (HW.o.put (by omega) HPX.o (HY6.o.1.trans (nE.mono HY6.o.1.size)) (aTw HY6.o.2 HVC.o) hI9 hG9);clear hI9 hG9;try go_simp
         refine hK.out _ _ (fun h=>absurd rfl h) ?_;clear hK K;try simp only[Act.put,tC,tD,tE]
         refine aAz (by kernel_rfl) ?_ _;clear Kq;go_wp2_with fail
         go_roundw
         case rel=>exact⟨k2+1,by omega,by go_num,_,_,HE.o⟩
         case measure=>simp[intOf];omega
       · obtain rfl:k2=k:=by omega
         have n1:¬(k2:Int)<(k2:Int):=by omega
         have HE:=hid (WrX.buf HX4.o HW.o hl HN16.o (fun p hpm=>HG.o p hpm));have HKF:=hid ((Kf.of_below (F:=F) HB4.o.1).trans (G:=F) (HW.o.kf.mono (fun b q=>by rw[q];exact HX.o.f1)) (fun b q=>.inl q));go_wp2_with fail
         go_ret;obtain⟨ks',h1,h2,h3⟩:=HE.o;exact⟨_,rfl,⟨ks',h1,fun _ e1 _=>⟨rfl,h2 h0,tK h3 (tO (congrArg (s+ ·) e1))⟩⟩,HKF.o⟩
theorem aNq (F:Xt) (bb:Nat) (ks:List Int) (w:World) (h:aDh w F bb ks) :
  Calls prog 162 #[.pointer (some ⟨bb,0,none⟩)] w fun e w'=>(∃gs,e=.returned (.pointer (some ⟨gs,0,none⟩))∧∃F',aFn w' F' gs ks.length∧∀b,F' b→w.heap.size≤b∧b<w'.heap.size)∧nD w w':=by
 have hkl:ks.length≤16:=by obtain⟨mb,s,f,h⟩:=h;rw[h.keys.len];exact h.le
 have hc:=aFc F bb 0 ks w h zL;clear h;go_enter func162,ntmps162
 go_wp2_with fail
 refine hc.mono ?_;rintro e w1 ⟨⟨v,rfl,ps,hps⟩,hb1⟩;obtain⟨A,c,rfl,hp⟩:=hps.is;obtain⟨n,hn⟩:=nC (ks.length);rw[hn] at hp hkl ⊢;have hl:=hp.len;have hnw:=aHn n w1;clear hc hps;go_wp2_with fail
 refine hnw.mono ?_;rintro e w2 ⟨⟨gs,rfl,hs,hg1,hg2⟩,hb2⟩;have hb12:=hb1.trans (hb2.mono hb1.size);have hp1:=hid hp;have HB:=nF hb1.size hb2.size;clear hnw hp hb1;go_wp2_with fail
 go_loopw [14] (fun iv wr=>∃k:Nat,k≤n∧iv=.int .i64 (k:Int)∧nD w wr∧nD w1 wr∧∃F',Hid (aFn wr F' gs n∧∀b,F' b→w1.heap.size≤b∧b<wr.heap.size)) (fun iv _=>n - (intOf iv).toNat)
 case atStart=>exact⟨0,zL,rfl,hb12,hb2,_,hs.p,fun b q=>by have q:b=gs:=q;subst q;exact⟨hg1,hg2⟩⟩
 case round =>
  clear hs;obtain⟨k,hk,rfl,hW,hW1,F',HS⟩:=hrel;by_cases hlt:k<n
  · obtain⟨x,hpx⟩:∃p,ps[k]'(by omega)=p:=⟨_,rfl⟩
    have hmx:x∈ps:=by rw[←hpx];exact rC _
    obtain⟨adx,eAx,hadx,e0,e1⟩:=Vk Vy (hp1.out.rd.next lR hW1) (k:=k) (by omega) (u:=.int .i64 x.lba) (v:=.slice x.A x.n x.c) (by rw[hpx];rfl);subst eAx;have n0:(k:Int)<(n:Int):=by omega
    have n1:(0:Int)≤(k:Int):=by omega
    clear hpx hmx;obtain⟨w6,hw6⟩:=nC (wr.alloc (.cells #[.int .i64 x.lba,.slice x.A x.n x.c] 50));have hB6:Bk w6 wr.heap.size 50 [.int .i64 x.lba,.slice x.A x.n x.c]:=by rw[←hw6];exact Bk.new wr _ _
    have hb6:nD wr w6:=by rw[←hw6];exact nB.alloc lR _
    obtain⟨d0,d1⟩:=hB6.c2;obtain⟨w7,hw7⟩:=nC (w6.alloc (.cells #[.int .i64 x.lba,.int .i64 1] 46));have hB7:Bk w7 w6.heap.size 46 [.int .i64 x.lba,.int .i64 1]:=by rw[←hw7];exact Bk.new _ _ _
    have hb7:nD w6 w7:=by rw[←hw7];exact nB.alloc lR _
    have hb67:=hb6.trans (hb7.mono hb6.size);obtain⟨v,zs,hsx⟩:=HS.o.1.ag (.of_below hb67);have hex:aEg w7 (some ⟨w6.heap.size,0,none⟩) 1 1 [⟨x.lba,1⟩]:=⟨rfl,hB7.rd,lR,by simp[maxLen]⟩;have hin:In w7 F':=fun b q=>tL (HS.o.2 b q).2 hb67.size
    have had:=aJt F' gs n 1 1 v zs [⟨x.lba,1⟩] (some ⟨w6.heap.size,0,none⟩) w7 hsx (by omega) hex (by omega) hin;have HW:=nF (hW.trans (hb67.mono hW.size)) (hW1.trans (hb67.mono hW1.size));clear hB6 hB7 hb6 hb7 hb67 hsx hex hin hW hW1;go_wp2_with fail
    refine had.mono ?_;rintro e w8 ⟨⟨r,rfl,-⟩,F2,hs2,hk2,hsb,hin2⟩
    have HE:=hid (show nD w w8∧nD w1 w8∧aFn w8 F2 gs n∧∀b,F2 b→w1.heap.size≤b∧b<w8.heap.size from by
     have hlo:∀b,F' b→w1.heap.size≤b:=fun b q=>(HS.o.2 b q).1
     have hk3:=hk2.below hlo (HW.o.2.size);exact⟨HW.o.1.trans (hk3.mono HB.o.1),HW.o.2.trans hk3,hs2.p,fun b q=>⟨(hsb b q).elim (hlo b) (fun r=>tK HW.o.2.size r),hin2 b q⟩⟩)
    clear had hs2 hk2 hsb hin2;go_wp2_with fail
    go_roundw
    case rel=>exact⟨k+1,by omega,by go_num,HE.o.1,HE.o.2.1,F2,HE.o.2.2⟩
    case measure=>simp[intOf];omega
  · obtain rfl:k=n:=by omega
    have n0:¬(k:Int)<(k:Int):=by omega
    have HX:=nF HS.o.1 (fun b q=>nS (tK HB.o.1 (HS.o.2 b q).1) (HS.o.2 b q).2);go_wp2_with fail
    go_ret;exact⟨⟨_,rfl,F',HX.o⟩,hW⟩
structure aBp (w:World) (F:Xt) (kb last s tb:Nat) (f:Int→Option Value):Prop where
 bx:Bk w kb 237 [.int .i64 16,.int .i64 (last:Int),.map (some tb)]
 im:IM w prog 3 tb s f
 val:∀x v,Un x→f x=some v→∃j:Int,v=.int .i64 j
 rng:∀x,(f x).isSome=true→1≤x∧x≤(last:Int)
 le:s≤last
 big:last≤100000
 f0:F kb
 f1:F tb
def aBu (w:World) (F:Xt) (kb last s:Nat):Prop:=∃tb f,aBp w F kb last s tb f
section
variable {w w':World} {F:Xt} {kb last s tb:Nat} {f:Int→Option Value}
theorem aBp.ag (h:aBp w F kb last s tb f) (k:Ag F w w'):aBp w' F kb last s tb f:=⟨Bk.ag h.bx k h.f0,h.im.ag k h.f1,h.val,h.rng,h.le,h.big,h.f0,h.f1⟩
theorem aBu.ag (h:aBu w F kb last s) (k:Ag F w w'):aBu w' F kb last s:=by obtain⟨tb,f,h⟩:=h;exact⟨tb,f,h.ag k⟩
theorem aBp.ne (h:aBp w F kb last s tb f):kb≠tb:=fun e=>by
 obtain⟨es,cl,hm⟩:=h.im.at_;have h1:=h.bx;unfold Bk at h1;rw[e,hm] at h1;cases h1
end
theorem aLh  (w:World) :
  Calls prog 145 #[.int .i64 16] w fun e w'=>(∃kb,e=.returned (.pointer (some ⟨kb,0,none⟩))∧aBu w' (fun b=>w.heap.size≤b∧b<w'.heap.size) kb 0 0∧w.heap.size≤kb∧kb<w'.heap.size)∧nD w w':=by
 have hmm:=@run_makeMap prog;go_enter func145,ntmps145
 go_wp2_with fail
 go_ret;refine⟨⟨w.heap.size+1,rfl,⟨w.heap.size,fun _=>none,?_,(IM.made w _ _).next (nB.alloc lR _),(fun x v _ hv=>by cases hv),(fun x hx=>by cases hx),by omega,by omega,?_,?_⟩,by omega,?_⟩,(nB.alloc lR _).alloc (by simp) _⟩
 · have:=Bk.new (w.alloc (.map #[] 0)) 237 [.int .i64 16,.int .i64 0,.map (some w.heap.size)];simpa using this
 · simp
 · simp;omega
 · simp
theorem aSj (F:Xt) (kb last s tb:Nat) (f:Int→Option Value) (w:World) (h:aBp w F kb last s tb f) :
  Calls prog 148 #[.pointer (some ⟨kb,0,none⟩)] w fun e w'=>e=.returned (.int .i64 16)∧w=w':=by
 obtain⟨c0,c1,c2⟩:=h.bx.c3;clear h;go_enter func148,ntmps148
 go_wp2_with fail
 go_ret;exact⟨rfl,rfl⟩
theorem aJw (F:Xt) (kb last s tb:Nat) (f:Int→Option Value) (w:World) (h:aBp w F kb last s tb f) :
  Calls prog 150 #[.pointer (some ⟨kb,0,none⟩)] w fun e w'=>(∃A c,e=.returned (.slice A s c))∧nD w w':=by
 obtain⟨c0,c1,c2⟩:=h.bx.c3;have hk:=aRo tb w;have hso:=aMv tb s f w h.im (by have:=h.le;have:=h.big;omega);clear h;go_enter func150,ntmps150
 go_wp2_with fail
 refine hk.mono ?_;rintro e w1 ⟨rfl,rfl⟩;go_wp2_with fail
 refine hso.mono ?_;rintro e w2 ⟨⟨v,ks',rfl,hK,ho⟩,hb2⟩;obtain⟨kA,kc,rfl⟩:=Xs ho;go_wp2_with fail
 go_ret;exact⟨⟨_,_,rfl⟩,hb2⟩
theorem aEl (F:Xt) (kb last s tb:Nat) (f:Int→Option Value) (w:World) (h:aBp w F kb last s tb f) :
  Calls prog 90 #[.pointer (some ⟨kb,0,none⟩)] w fun e w'=>e=.returned (.int .i64 (s:Int))∧nD w w':=by
 have hc:=aJw F kb last s tb f w h;clear h;go_enter func90,ntmps90
 go_wp2_with fail
 refine hc.mono ?_;rintro e w1 ⟨⟨A,c,rfl⟩,hb⟩;go_wp2_with fail
 go_ret;exact⟨rfl,hb⟩
theorem aNn (F:Xt) (kb last s tb:Nat) (f:Int→Option Value) (x:Int) (w:World) (h:aBp w F kb last s tb f) (hx:Un x) :
  Calls prog 212 #[.pointer (some ⟨kb,0,none⟩),.int .i64 x] w fun e w'=>(∃j c:Int,e=.returned (.tuple #[.int .i64 j,.int .i64 c])∧((f x).isSome=true→c=0)∧((f x).isSome=false→c=14))∧w=w':=by
 obtain⟨c0,c1,c2⟩:=h.bx.c3;obtain⟨j,hj,_⟩:=aMc h.val hx;have hlk:=h.im.look_ok Uy Ug aBf (aQq _) hx;rw[hj] at hlk;obtain⟨ok,hok⟩:=nC ((f x).isSome);rw[hok] at hlk ⊢;clear h hj hok
 cases ok with
 | false =>
   go_enter func212,ntmps212
   go_wp2_with fail
   go_ret2
   exact⟨⟨_,_,rfl,(fun e=>by cases e),fun _=>rfl⟩,rfl⟩
 | true =>
   go_enter func212,ntmps212
   go_wp2_with fail
   go_ret2
   exact⟨⟨_,_,rfl,(fun _=>rfl),fun e=>by cases e⟩,rfl⟩
theorem aIi (F:Xt) (kb last s tb:Nat) (f:Int→Option Value) (x:Int) (w:World) (h:aBp w F kb last s tb f) (hx:Un x) :
  Calls prog 159 #[.pointer (some ⟨kb,0,none⟩),.int .i64 x] w fun e w'=>(∃r:Int,e=.returned (.int .i64 r))∧(∃s',s'≤s∧aBu w' F kb last s')∧Kf F w w':=by
 obtain⟨c0,c1,c2⟩:=h.bx.c3;have hat:=aNn F kb last s tb f x w h hx;have HX:=hid h;clear h
 cases hok:(f x).isSome with
 | false =>
   go_enter func159,ntmps159
   go_wp2_with fail
   refine hat.mono ?_;rintro e w' ⟨⟨j,c,rfl,h0,h1⟩,rfl⟩;obtain rfl:c=14:=h1 hok;clear h0 h1 hat;go_wp2_with fail
   go_ret;exact⟨⟨_,rfl⟩,⟨s,lR,tb,f,HX.o⟩,.refl _ _⟩
 | true =>
   go_enter func159,ntmps159
   go_wp2_with fail
   refine hat.mono ?_;rintro e w' ⟨⟨j,c,rfl,h0,h1⟩,rfl⟩;obtain rfl:c=0:=h0 hok;clear h0 h1 hat hok;go_wp2_with (at_delete;go_must (refine aNd _ rfl _ _ 235 3 rfl 3 Uy Ug aBf tb s f (by rfl) (by exact HX.o.im) x (by rfl) hx ?_);intro w7 hI7 hG7;have hk7:=hid (aDa HX.o.im hG7);have HI7:=hid hI7;clear hI7 hG7)
   go_ret;refine⟨⟨_,rfl⟩,⟨_,by split<;>omega,tb,_,?_,HI7.o,fun y v hy hv=>?_,fun y hy=>?_,?_,HX.o.big,HX.o.f0,HX.o.f1⟩,hk7.out.mono (fun b q=>by rw[q];exact HX.o.f1)⟩
   · exact Bk.ag (F:=fun b=>b=kb) HX.o.bx (hk7.out.ag (fun b q r=>HX.o.ne (q.symm.trans r))) rfl
   · unfold upd at hv;split at hv
     · cases hv
     · exact HX.o.val y v hy hv
   · unfold upd at hy;split at hy
     · cases hy
     · exact HX.o.rng y hy
   · have:=HX.o.le;split<;>omega
theorem aLg (F:Xt) (kb last s tb:Nat) (f:Int→Option Value) (now:Int) (w:World) (h:aBp w F kb last s tb f) :
  Calls prog 196 #[.pointer (some ⟨kb,0,none⟩),.int .i64 now] w fun e w'=>(∃r:Int,e=.returned (.int .i64 r))∧nD w w':=by
 obtain⟨c0,c1,c2⟩:=h.bx.c3;have HX:=hid h;clear h;go_enter func196,ntmps196
 go_wp2_with (at_range;go_must (refine aCj _ rfl _ 235 rfl 3 3 Uy aBf tb s f (by rfl) (by exact HX.o.im) ?_);intro w1 left hR1 hG1 hs1)
 have HB1:=hid (show nD w w1 from⟨hG1.os,hG1.tape,hG1.output,hG1.size,fun b hb=>hG1.block b hb (by simp)⟩);have HR:=hid hR1;clear hG1 hs1 hR1;try go_frame
 go_loopw [1] (fun nv wr=>∃(x:Int) (left:Lit→Bool) (cnt:Nat),nv=.int .i64 x∧IR wr prog 3 tb w.heap.size s f left cnt∧nD w wr) (fun _ wr=>wr.rangeLeft tb w.heap.size)
 case atStart=>exact⟨now,left,s,rfl,HR.o,HB1.o⟩
 case round =>
  obtain⟨x,left,cnt,rfl,hR,hW⟩:=hrel;clear c0 c1 c2;have HRR:=nF hR hW;clear hR hW;go_wp2_with (at_next;go_must (refine aDb _ rfl _ rfl 3 Uy Ug tb w.heap.size s f left cnt (by rfl) (by exact HRR.o.1) ?_ ?_))
  · go_wp2_with fail
    go_ret;exact⟨⟨_,rfl⟩,HRR.o.2⟩
  · intro y c w2 left2 cnt2 hyw hyc hR2 hlt2 hG2 hs2 hen;obtain⟨j,rfl⟩:=HX.o.val y c hyw hyc;have HB2:=hid (HRR.o.2.grown hG2 HRR.o.2.size (fun g hg=>by injection hg with hg;omega));have HR2:=nF hR2 hlt2;clear hG2 hs2 hR2 hlt2;go_wp2_with fail
    go_roundw
    case rel=>exact⟨_,left2,cnt2,rfl,HR2.o.1,HB2.o⟩
    case measure=>rw[HR2.o.1.left_eq,HRR.o.1.left_eq];exact HR2.o.2
theorem aBp.opened {w w1 w2 w3:World} {F:Xt} {kb last s tb:Nat} {f:Int→Option Value} {at':Int} (h:aBp w F kb last s tb f) (hb:nD w w1) (e2:w2=w1.setCell ⟨kb,1,none⟩ (.int .i64 ((last:Int)+1))) (hl:last+1≤100000)
  (hI:IM w3 prog 3 tb (Uv s (f ((last:Int)+1))) (upd f ((last:Int)+1) (some (.int .i64 at')))) (hg:w2.grownBy w3 (some tb)):aBp w3 F kb (last+1) (s+1) tb (upd f ((last:Int)+1) (some (.int .i64 at')))∧Kf F w w3:=by
 have h1:=h.ag (.of_below hb)
 have b2:Bk w2 kb 237 [.int .i64 16,.int .i64 ((last:Int)+1),.map (some tb)]:=by
  rw[e2];have:=h1.bx.set 1 (.int .i64 ((last:Int)+1));simpa using this
 have k2:Kf F w w2:=by rw[e2];exact((Kf.refl F w).next hb).set h1.bx (by decide) (.inl h.f0) 1 _
 have i2:IM w2 prog 3 tb s f:=by
  refine h1.im.ag (F:=fun b=>b=tb) ?_ rfl;rw[e2];exact((Kf.refl (fun b=>b=kb) w1).set h1.bx (by decide) (.inl rfl) 1 _).ag (fun b q r=>h.ne (r.symm.trans q))
 have k3:=aDa i2 hg
 have hn:f ((last:Int)+1)=none:=by
  cases hf:f ((last:Int)+1) with
  | none=>rfl
  | some v=>have:=h.rng _ (by rw[hf];rfl);omega
 refine⟨⟨?_,?_,fun y v hy hv=>?_,fun y hy=>?_,by have:=h.le;omega,hl,h.f0,h.f1⟩,k2.trans (G:=F) (k3.mono (fun b q=>by rw[q];exact h.f1)) (fun b q=>.inl q)⟩
 · rw[Int.natCast_succ];exact Bk.ag (F:=fun b=>b=kb) b2 (k3.ag (fun b q r=>h.ne (q.symm.trans r))) rfl
 · have hz:Uv s (f ((last:Int)+1))=s+1:=by rw[hn];rfl
   rw[hz] at hI;exact hI
 · unfold upd at hv;split at hv
   · injection hv with hv;exact⟨at',hv.symm⟩
   · exact h.val y v hy hv
 · unfold upd at hy;split at hy
   · omega
   · have:=h.rng y hy;omega
theorem aEv (F:Xt) (kb last s tb:Nat) (f:Int→Option Value) (at':Int) (w:World) (h:aBp w F kb last s tb f) (ha:0≤at'∧at'≤1000000) (hl:last+1≤100000) :
  Calls prog 86 #[.pointer (some ⟨kb,0,none⟩),.int .i64 at'] w fun e w'=>(16≤s∧e=.returned (.tuple #[.int .i64 0,.int .i64 6])∧nD w w')∨(s<16∧e=.returned (.tuple #[.int .i64 ((last+1:Nat):Int),.int .i64 0])∧aBu w' F kb (last+1) (s+1)∧Kf F w w'):=by
 have hc:=aEl F kb last s tb f w h;have t0:decide (at' <0)=false:=rY (by omega);have t1:decide (1099511627776<at')=false:=rY (by omega);have t0':¬at' <0:=by omega
 have t1':¬1099511627776<at':=by omega
 have HX:=hid h;clear h;go_enter func86,ntmps86
 go_wp2_with fail
 refine hc.mono ?_;rintro e w1 ⟨rfl,hb1⟩;have hx1:=HX.o.ag (.of_below hb1);have hr:=aSj F kb last s tb f w1 hx1;have HB1:=nF hb1 hx1;clear hc hb1 hx1;go_wp2_with fail
 refine hr.mono ?_;rintro e w' ⟨rfl,rfl⟩;clear hr;by_cases hs:16≤s
 · have t2:decide ((16:Int)≤(s:Int))=true:=rZ (by omega);have t2':(16:Int)≤(s:Int):=by omega
   go_wp2_with fail
   go_ret2
   exact .inl ⟨hs,rfl,HB1.o.1⟩
 · have t2:decide ((16:Int)≤(s:Int))=false:=rY (by omega);have t2':¬(16:Int)≤(s:Int):=by omega
   have w1':wrap64 ((last:Int)+1)=(last:Int)+1:=by unfold wrap64;omega
   have HS:=hid (show s<16 by omega);have HL:=hid hl;clear hs hl;obtain⟨c0,c1,c2⟩:=HB1.o.2.bx.c3;have f1:=HB1.o.2.bx.free 1;obtain⟨w2,hw2⟩:=nC (w1.setCell ⟨kb,1,none⟩ (.int .i64 ((last:Int)+1)))
   have b2:Bk w2 kb 237 [.int .i64 16,.int .i64 ((last:Int)+1),.map (some tb)]:=by
    rw[←hw2];have:=HB1.o.2.bx.set 1 (.int .i64 ((last:Int)+1));simpa using this
   have HW2:=hid hw2;obtain⟨e0,e1,e2⟩:=b2.c3
   have i2:IM w2 prog 3 tb s f:=by
    refine HB1.o.2.im.ag (F:=fun b=>b=tb) ?_ rfl;rw[←hw2];exact((Kf.refl (fun b=>b=kb) w1).set HB1.o.2.bx (by decide) (.inl rfl) 1 _).ag (fun b q r=>HB1.o.2.ne (r.symm.trans q))
   have HI2:=hid i2;have hwf:Un ((last:Int)+1):=aDt (by omega) (by have:=HL.o;omega);clear b2 i2;go_wp2_with fail
   refine aAn (Ke w2) 9 (by kernel_rfl) (by first|exact Ke.of _ _|exact Ke.one _|exact⟨1,rfl⟩) (fun nE=>?_);refine kE 0 ?_;refine kE 1 ?_;refine kE 2 ?_;refine kE 3 ?_;refine kE 4 ?_;refine kE 5 ?_;refine kE 6 ?_;refine kE 7 ?_;refine kE 8 ?_;refine rL 9 (fun K hK=>?_);refine aDc _ _ _ _ 235 rfl 3 3 Uy Ug aBf tb s f (by rfl) (by exact HI2.o.ag (F:=fun b=>b=tb) (.of_below (Vw (Below.refl w2.heap.size w2) 1)) rfl) (by have:=HX.o.le;have:=HL.o;omega) ((last:Int)+1) (.int .i64 at') (by rfl) (by rfl) hwf ?_;intro w3 hI3 hG3;have HI3:=hid hI3;have HG3:=hid (show w2.grownBy w3 (some tb) from⟨hG3.os,hG3.tape,hG3.output,hG3.size,hG3.block⟩);clear hI3 hG3;try go_simp
   refine hK.out _ _ (fun h=>absurd rfl h) ?_;clear hK K;try simp only[Act.put,tC,tD,tE]
   refine aAz (by kernel_rfl) ?_ _;clear c0 c1 c2 e0 e1 e2;have HE:=hid (HX.o.opened HB1.o.1 HW2.o.symm HL.o HI3.o HG3.o);obtain⟨q0,q1⟩:=HE.o.1.bx.c2;go_wp2_with fail
   go_ret2
   exact .inr ⟨HS.o,rfl,⟨_,_,HE.o.1⟩,HE.o.2⟩
structure Kl where
 t:Int
 A:Option Addr
 c:Nat
 bs:List Int
def Kl.cells (v:Kl):List Value:=[.int .i64 v.t,.slice v.A 40 v.c]
theorem aCf (p:Kl):p.cells.length=2:=rfl
theorem aEf:prog.underlying 240=some (.map 3 264):=underlying240
theorem bCe (w:World):(zeroValue 264).run prog w=.ok (.slice none 0 0) w:=by kernel_rfl
def aXi (w:World) (F:Xt) (N:Nat) (tb:Int) (v:Value):Prop:=∃vs:List Kl,0<vs.length∧vs.length≤N∧w.ownsRow 0 266 2 v vs.length (vs.flatMap Kl.cells)∧(∀u∈vs,IsY w u.A 40 u.c u.bs)∧(∀g,v.ownBlock=some g→F g)∧∀u∈vs,u.t≤tb
structure Up (w:World) (F:Xt) (gm bm s N:Nat) (last tb:Int) (f:Int→Option Value):Prop where
 bx:Bk w gm 242 [.int .i64 258,.map (some bm),.int .i64 last]
 im:IM w prog 3 bm s f
 row:∀x v,f x=some v→aXi w F N tb v
 dj:∀x y v u,x≠y→f x=some v→f y=some u→v.ownBlock≠u.ownBlock
 rng:∀x,(f x).isSome=true→0≤x∧x<258
 pos:0≤last
 big:N≤100000
 f0:F gm
 f1:F bm
def Kn (w:World) (F:Xt) (gm N:Nat) (last:Int):Prop:=∃bm s f,Up w F gm bm s N last last f∧(last=0→∀x,f x=none)
section
variable {w w':World} {F:Xt} {gm bm s N:Nat} {last tb:Int} {f:Int→Option Value}
theorem aXi.ag {v:Value} (h:aXi w F N tb v) (k:Ag F w w'):aXi w' F N tb v:=by
 obtain⟨vs,h1,h2,h3,h4,h5,h6⟩:=h;exact⟨vs,h1,h2,Vj h3 k h5,fun u hu=>(h4 u hu).ag k,h5,h6⟩
theorem Up.ag (h:Up w F gm bm s N last tb f) (k:Ag F w w'):Up w' F gm bm s N last tb f:=⟨Bk.ag h.bx k h.f0,h.im.ag k h.f1,fun x v e=>(h.row x v e).ag k,h.dj,h.rng,h.pos,h.big,h.f0,h.f1⟩
theorem Kn.ag (h:Kn w F gm N last) (k:Ag F w w'):Kn w' F gm N last:=by obtain⟨bm,s,f,h,e⟩:=h;exact⟨bm,s,f,h.ag k,e⟩
theorem Up.mono (h:Up w F gm bm s N last tb f) {M:Nat} (hM:N≤M) (hb:M≤100000):Up w F gm bm s M last tb f :=
 ⟨h.bx,h.im,fun x v e=>by obtain⟨vs,a,b,r⟩:=h.row x v e;exact⟨vs,a,tK b hM,r⟩,h.dj,h.rng,h.pos,hb,h.f0,h.f1⟩
theorem Up.size (h:Up w F gm bm s N last tb f):s≤258:=by
 obtain⟨ks,hk⟩:=aKf h.im Uy Ug;rw[←hk.len];exact aHx hk.up (fun x hx=>h.rng x ((hk.mem x (hk.wf x hx)).1 hx))
theorem Up.look (h:Up w F gm bm s N last tb f) {x:Int} (hx:Un x):(Instr.lookup 240 (.map (some bm)) (.int .i64 x) false).run prog w=.ok ((f x).getD (.slice none 0 0)) w:=h.im.look Uy Ug aEf (bCe w) hx
structure AtX (w:World) (o:Option Value) (N:Nat) (A:Option Addr) (n c:Nat) (vs:List Kl):Prop where
 val:o.getD (.slice none 0 0)=.slice A n c
 own:w.ownsRow 0 266 2 (.slice A n c) n (vs.flatMap Kl.cells)
 len:vs.length=n
 y:∀u∈vs,IsY w u.A 40 u.c u.bs
 le:n≤N
 pos:o.isSome=true→0<n
theorem Up.att (h:Up w F gm bm s N last tb f) (x:Int):∃A n c vs,AtX w (f x) N A n c vs∧∀u∈vs,u.t≤tb:=by
 cases hf:f x with
 | none=>exact⟨none,0,0,[],⟨rfl,⟨rfl,.inl ⟨rfl,rfl⟩⟩,rfl,by simp,zL,(fun e=>by cases e)⟩,by simp⟩
 | some v =>
   obtain⟨vs,h1,h2,h3,h4,_,h6⟩:=h.row x v hf;obtain⟨A,c,rfl⟩:=Xs h3;exact⟨A,vs.length,c,vs,⟨rfl,h3,rfl,h4,h2,fun _=>h1⟩,h6⟩
theorem Up.at_ (h:Up w F gm bm s N last tb f) (x:Int):∃A n c vs,AtX w (f x) N A n c vs:=by
 obtain⟨A,n,c,vs,ha,_⟩:=h.att x;exact⟨A,n,c,vs,ha⟩
theorem Up.raise (h:Up w F gm bm s N last tb f) {T:Int} (hT:tb≤T):Up w F gm bm s N last T f :=
 ⟨h.bx,h.im,fun x v e=>by obtain⟨vs,a,b,c,d,g,r⟩:=h.row x v e;exact⟨vs,a,b,c,d,g,fun u hu=>Int.le_trans (r u hu) hT⟩,h.dj,h.rng,h.pos,h.big,h.f0,h.f1⟩
end
theorem aNz  (w:World) :
  Calls prog 144 #[.int .i64 258] w fun e w'=>(∃gm,e=.returned (.tuple #[.pointer (some ⟨gm,0,none⟩),.int .i64 0])∧Kn w' (fun b=>w.heap.size≤b∧b<w'.heap.size) gm 0 0∧w.heap.size≤gm∧gm<w'.heap.size)∧nD w w':=by
 have hmm:=@run_makeMap prog;go_enter func144,ntmps144
 go_wp2_with fail
 go_ret2
 refine⟨⟨w.heap.size+1,rfl,⟨w.heap.size,0,fun _=>none,⟨?_,(IM.made w _ _).next (nB.alloc lR _),(fun x v hv=>by cases hv),(fun x y v u _ hv=>by cases hv),(fun x hx=>by cases hx),by omega,by omega,?_,?_⟩,fun _ _=>rfl⟩,by omega,?_⟩,(nB.alloc lR _).alloc (by simp) _⟩
 · have:=Bk.new (w.alloc (.map #[] 0)) 242 [.int .i64 258,.map (some w.heap.size),.int .i64 0];simpa using this
 · simp
 · simp;omega
 · simp
theorem aDw (gm:Nat) (v:Value) (last:Int) (w:World) (h:Bk w gm 242 [.int .i64 258,v,.int .i64 last]) :
  Calls prog 168 #[.pointer (some ⟨gm,0,none⟩)] w fun e w'=>e=.returned (.bool false)∧w=w':=by
 have c0:=h.cell (i:=0) (by simp);simp only[tI] at c0;go_enter func168,ntmps168
 go_wp2_with fail
 go_ret;exact⟨rfl,rfl⟩
theorem aAx (gm:Nat) (v:Value) (last:Int) (w:World) (h:Bk w gm 242 [.int .i64 258,v,.int .i64 last]) :
  Calls prog 88 #[.pointer (some ⟨gm,0,none⟩)] w fun e w'=>e=.returned (.int .i64 258)∧w=w':=by
 have c0:=h.cell (i:=0) (by simp);simp only[tI] at c0;go_enter func88,ntmps88
 go_wp2_with fail
 go_ret;exact⟨rfl,rfl⟩
theorem aEp (gm:Nat) (v:Value) (last x:Int) (w:World) (h:Bk w gm 242 [.int .i64 258,v,.int .i64 last]) (hx:0≤x∧x<258) :
  Calls prog 170 #[.pointer (some ⟨gm,0,none⟩),.int .i64 x] w fun e w'=>e=.returned (.bool true)∧w=w':=by
 have hc:=aAx gm v last w h;have t0:decide (0≤x)=true:=rZ hx.1;have t1:decide (x<258)=true:=rZ hx.2;have t0':=hx.1;have t1':=hx.2;go_enter func170,ntmps170
 go_wp2_with fail
 refine hc.mono ?_;rintro e w' ⟨rfl,rfl⟩;go_wp2_with fail
 go_ret;exact⟨rfl,rfl⟩
theorem aPl (F:Xt) (gm bm s N n c:Nat) (last x a:Int) (f:Int→Option Value) (A:Option Addr) (vs:List Kl) {tb:Int} (w:World) (h:Up w F gm bm s N last tb f) (hx:Un x) (ha:AtX w (f x) N A n c vs) :
  Calls prog 253 #[.pointer (some ⟨gm,0,none⟩),.int .i64 x,.int .i64 a] w fun e w'=>(∃i:Int,e=.returned (.int .i64 i)∧-1≤i∧i<(n:Int))∧w=w':=by
 obtain⟨c0,c1,c2⟩:=h.bx.c3;have k2:=h.look hx;rw[ha.val] at k2;have hMn:n≤100000:=tK ha.le h.big;have hl:=ha.len;have hrd:=Ve ha.own;clear h ha;have wk0:∀k:Nat,k≤n→wrap64 ((k:Int) - 1)=k - 1:=fun k hk=>by unfold wrap64;omega
 have w0:=wk0 n lR;have W0:=hid wk0;clear wk0;go_enter func253,ntmps253
 go_wp2_with fail
 go_step3;go_wp2_with fail
 go_step3;go_wp2_with fail
 go_loop [8] (fun i=>∃(k:Nat) (y:Int),k≤n∧i=.int .i64 y∧y=(k:Int) - 1) (fun i=>(intOf i+1).toNat)
 case atStart=>exact⟨n,_,lR,rfl,by first|exact w0|rfl⟩
 case round =>
  obtain⟨k,y,hk,rfl,hy⟩:=hrel;clear w0;rcases k with _|k
  · have t0:decide (0≤y)=false:=rY (by omega);go_wp2_with fail
    (try simp only[Exit.inBlock,Exit.then,Exit.noGoto_ret])
    go_ret;exact⟨⟨_,rfl,by omega,by omega⟩,rfl⟩
  · obtain rfl:y=(k:Int):=by omega
    obtain⟨v,hvk⟩:=nC (vs[k]'(by omega));obtain⟨ad,rfl,had,e0,_⟩:=Vk aCf hrd (k:=k) (by omega) (u:=.int .i64 v.t) (v:=.slice v.A 40 v.c) (by rw[hvk];rfl);have n0:(0:Int)≤(k:Int):=by omega
    have n1:(k:Int)<(n:Int):=by omega
    have w1:=W0.o k (by omega);clear hvk hy;by_cases hle:v.t≤a
    · have t0:decide (v.t≤a)=true:=rZ hle;clear hle;go_wp2_with fail
      (try simp only[Exit.inBlock,Exit.then,Exit.noGoto_ret])
      go_ret;exact⟨⟨_,rfl,by omega,by omega⟩,rfl⟩
    · have t0:decide (v.t≤a)=false:=rY hle;clear hle;go_wp2_with fail
      go_round
      case rel=>exact⟨k,_,by omega,rfl,by first|exact w1|rfl⟩
      case measure=>first|(rw[w1];simp[intOf];done)|(simp[intOf];omega)|simp[intOf]
theorem aTu {w w8:World} {B:Nat} {xA:Option Addr} {n xc:Nat} {xb:List Int} {v:Value} (h:IsY w xA n xc xb) (ho:w8.ownsRow B 5 1 v n (xb.map (Value.int .u8))):Byt w8 B v xb:=⟨by rw[h.b.len];exact ho,h.b.wf⟩
theorem bEc (W:World):∃bs:List Int,Byt (W.alloc (.cells (List.replicate 40 (Value.int .u8 0)).toArray 5)) W.heap.size (.slice (some ⟨W.heap.size,0,none⟩) 40 40) bs∧bs.length=40:=by
 refine⟨List.replicate 40 0,aNs (by simp) (by omega) ?_ lR (fun x hx=>by have:=List.eq_of_mem_replicate hx;omega),by simp⟩;rw[List.map_replicate];exact Bk.new W 5 (List.replicate 40 (Value.int .u8 0))
theorem aUh (F:Xt) (gm bm s N:Nat) (last x a:Int) (f:Int→Option Value) {tb:Int} (w:World) (h:Up w F gm bm s N last tb f) (hx:0≤x∧x<258) :
  Calls prog 207 #[.pointer (some ⟨gm,0,none⟩),.int .i64 x,.int .i64 a] w fun e w'=>(∃v,∃t:Int,e=.returned (.tuple #[v,.int .i64 t])∧∃bs,Byt w' w.heap.size v bs∧bs.length=40)∧nD w w':=by
 have hxw:Un x:=aDt (by omega) (by omega);obtain⟨A,n,c,vs,ha⟩:=h.at_ x;have hmk:∀W,(Instr.makeSlice 41 (.int .i64 40) (.int .i64 40)).run prog W=.ok (.slice (some ⟨W.heap.size,0,none⟩) 40 40) (W.alloc (.cells (List.replicate 40 (Value.int .u8 0)).toArray 5)):=fun W=>aGb W 40 (by omega)
 have hbk:=aEp gm (.map (some bm)) last x w h.bx hx;have hat:=aPl F gm bm s N n c last x a f A vs w h hxw ha;have k2:=h.look hxw;rw[ha.val] at k2;obtain⟨c0,c1,c2⟩:=h.bx.c3;have hMn:n≤100000:=tK ha.le h.big;have hl:=ha.len;have hrd:=Ve ha.own;have HY:=hid ha.y;clear h ha;go_enter func207,ntmps207
 go_wp2_with fail
 refine hbk.mono ?_;rintro e w' ⟨rfl,rfl⟩;clear hbk;go_wp2_with fail
 refine hat.mono ?_;rintro e w' ⟨⟨i,rfl,hi0,hi1⟩,rfl⟩;clear hat;rcases Int.lt_or_le i 0 with hi|hi
 · have t1:decide (i<0)=true:=rZ hi;have HM:=hid (bEc w);go_wp2_with fail
   go_ret2
   obtain⟨bs,h1,h2⟩:=HM.o;exact⟨⟨_,_,rfl,bs,h1,h2⟩,nB.alloc lR _⟩
 · obtain⟨k,rfl⟩:∃k:Nat,i=(k:Int):=⟨i.toNat,by omega⟩
   obtain⟨v,hvk⟩:=nC (vs[k]'(by omega));obtain⟨ad,rfl,had,e0,e1⟩:=Vk aCf hrd (k:=k) (by omega) (u:=.int .i64 v.t) (v:=.slice v.A 40 v.c) (by rw[hvk];rfl);have hvy:=HY.o v (by rw[←hvk];exact rC _);have t1:decide ((k:Int)<0)=false:=rY (by omega);have n0:(0:Int)≤(k:Int):=by omega
   have n1:(k:Int)<(n:Int):=by omega
   clear hvk hi hi0 hi1;obtain⟨w6,hw6⟩:=nC (w.alloc (.cells #[.int .i64 v.t,.slice v.A 40 v.c] 266));have hB6:Bk w6 w.heap.size 266 [.int .i64 v.t,.slice v.A 40 v.c]:=by rw[←hw6];exact Bk.new w _ _
   have hb6:nD w w6:=by rw[←hw6];exact nB.alloc lR _
   obtain⟨d0,d1⟩:=hB6.c2;have HY6:=nF hb6 (hvy.ag (F:=fun _=>True) (.of_below hb6))
   have KK:=hid (fun (w':World) (hS:nD w6 w')=>(show w'.cell? ⟨w.heap.size,0,none⟩=some (.int .i64 v.t)∧w'.cell? ⟨w.heap.size,1,none⟩=some (.slice v.A 40 v.c) from
    ⟨(hB6.next hS hB6.lt).cell (i:=0) (by simp),(hB6.next hS hB6.lt).cell (i:=1) (by simp)⟩))
   clear hB6 hb6 hvy;go_wp2_with fail
   have Kq:=KK;refine wp_region_held_drew (S:=fun w'=>nD w6 w') (by kernel_rfl) (Xu nB) (fun nE=>?_);refine kF 0 ?_;refine kF 1 ?_;refine kF 3 ?_;refine kF 4 ?_;refine rF 2 (fun K hK=>?_);go_simp;refine(aAh v.A 40 v.c w6.heap.size (v.bs.map (Value.int .u8)) _ (by rw[rU];exact HY6.o.2.b.len) (HY6.o.2.ag (F:=fun _=>False) (.of_below nE)).b.rd Ui (by omega) (by first|exact nE.size|exact zL|exact lR)).mono ?_;rintro e w8 ⟨⟨vc,rfl,hvc⟩,hb8⟩;have hS4:nD w6 w8:=nE.trans (hb8.mono nE.size);have HVC:=nF (aTu HY6.o.2 hvc) HY6.o.2.b.len;obtain⟨yA,yc,rfl⟩:=Xs hvc;clear hvc hb8;go_simp;clear nE;refine hK.out _ _ hS4 (fun nE=>?_);clear hK K;try simp only[Act.put,tC,tD,tE]
   refine kF 5 ?_;refine kF 6 ?_;refine wpAnyH_done (by kernel_rfl) ?_ _;clear Kq;go_wp2_with fail
   go_ret2
   refine⟨⟨_,_,rfl,v.bs,?_,HVC.o.2⟩,HY6.o.1.trans (nE.mono HY6.o.1.size)⟩;exact Byt.base HVC.o.1 HY6.o.1.size
theorem aBz {P:Program} {f:FuncId} {args:Array Value} {w:World} {n:Nat} {v:Value} (h:Calls P f args (w.drewN n) fun e w'=>e=.returned v∧w.drewN n=w'):Calls P f args (w.drewN n) fun e w''=>e=.returned v∧∃m,w''=w.drewN m :=
 h.mono fun _ _ ⟨he,hm⟩=>⟨he,n,hm.symm⟩
def aBg (x:ExD):Bool:=decide (0≤x.f)&&decide (1≤x.l)&&decide (x.l≤258)&&decide (x.f≤258 - x.l)
theorem aJq {x:ExD} (h:aBg x=true):0≤x.f∧1≤x.l∧x.f+x.l≤258:=by
 simp only[aBg,Bool.and_eq_true,decide_eq_true_eq] at h;omega
theorem aLq (x:ExD) (gm:Nat) (v:Value) (last:Int) (w:World) (h:Bk w gm 242 [.int .i64 258,v,.int .i64 last]) :
  Calls prog 206 #[.pointer (some ⟨gm,0,none⟩),.agg #[.int .i64 x.f,.int .i64 x.l]] w fun e w'=>e=.returned (.bool (aBg x))∧nD w w':=by
 obtain⟨w5,hw5⟩:=nC (w.alloc (.cells #[.int .i64 x.f,.int .i64 x.l] 46));have hB5:Bk w5 w.heap.size 46 [.int .i64 x.f,.int .i64 x.l]:=by rw[←hw5];exact Bk.new w _ _
 have hb5:nD w w5:=by rw[←hw5];exact nB.alloc lR _
 obtain⟨d0,d1⟩:=hB5.c2;have HB5:=nF (h.next hb5 h.lt) hb5;clear h hB5 hb5;by_cases g0:0≤x.f;rotate_left
 · have t0:decide (0≤x.f)=false:=rY g0;have HR:=hid (show aBg x=false by simp only[aBg,t0,Bool.false_and,Bool.and_false,Bool.true_and]);clear g0;go_enter func206,ntmps206
   go_wp2_with fail
   go_quiet ((go_at_call 88;exact aBz (aAx gm v last _ (by exact HB5.o.1))))
   go_wp2_with fail
   go_ret;exact⟨Uf HR.o.symm,HB5.o.2.trans (Vw nB _)⟩
 have t0:decide (0≤x.f)=true:=rZ g0;by_cases g1:1≤x.l;rotate_left
 · have t1:decide (1≤x.l)=false:=rY g1;have HR:=hid (show aBg x=false by simp only[aBg,t0,t1,Bool.false_and,Bool.and_false,Bool.true_and]);clear g1;go_enter func206,ntmps206
   go_wp2_with fail
   go_quiet ((go_at_call 88;exact aBz (aAx gm v last _ (by exact HB5.o.1))))
   go_wp2_with fail
   go_ret;exact⟨Uf HR.o.symm,HB5.o.2.trans (Vw nB _)⟩
 have t1:decide (1≤x.l)=true:=rZ g1;by_cases g2:x.l≤258;rotate_left
 · have t2:decide (x.l≤258)=false:=rY g2;have HR:=hid (show aBg x=false by simp only[aBg,t0,t1,t2,Bool.false_and,Bool.and_false,Bool.true_and]);clear g2;go_enter func206,ntmps206
   go_wp2_with fail
   go_quiet ((go_at_call 88;exact aBz (aAx gm v last _ (by exact HB5.o.1))))
   go_wp2_with fail
   go_ret;exact⟨Uf HR.o.symm,HB5.o.2.trans (Vw nB _)⟩
 have t2:decide (x.l≤258)=true:=rZ g2;by_cases g3:x.f≤258 - x.l;rotate_left
 · have t3:decide (x.f≤258 - x.l)=false:=rY g3;have HR:=hid (show aBg x=false by simp only[aBg,t0,t1,t2,t3,Bool.false_and,Bool.and_false,Bool.true_and]);clear g3;go_enter func206,ntmps206
   go_wp2_with fail
   go_quiet ((go_at_call 88;exact aBz (aAx gm v last _ (by exact HB5.o.1))))
   go_wp2_with fail
   go_ret;exact⟨Uf HR.o.symm,HB5.o.2.trans (Vw nB _)⟩
 have t3:decide (x.f≤258 - x.l)=true:=rZ g3;have HR:=hid (show aBg x=true by simp only[aBg,t0,t1,t2,t3,Bool.and_true]);go_enter func206,ntmps206
 go_wp2_with fail
 go_quiet ((go_at_call 88;exact aBz (aAx gm v last _ (by exact HB5.o.1))))
 go_wp2_with fail
 go_ret;exact⟨Uf HR.o.symm,HB5.o.2.trans (Vw nB _)⟩
theorem aHi (F:Xt) (gm bm s N:Nat) (last a:Int) (f:Int→Option Value) (x:ExD) {tb:Int} (w:World) (h:Up w F gm bm s N last tb f) :
  Calls prog 151 #[.pointer (some ⟨gm,0,none⟩),.agg #[.int .i64 x.f,.int .i64 x.l],.int .i64 a] w fun e w'=>((aBg x=false∧e=.returned (.tuple #[.slice none 0 0,.int .i64 2]))∨(aBg x=true∧∃v,e=.returned (.tuple #[v,.int .i64 0])∧∃bs,Byt w' w.heap.size v bs∧(bs.length:Int)=40*x.l))∧nD w w':=by
 obtain⟨i0,hi,hz0,hz1,hz2⟩:=info_parts aBq;obtain⟨w5,hw5⟩:=nC (w.alloc (.cells #[.int .i64 x.f,.int .i64 x.l] 46));have hB5:Bk w5 w.heap.size 46 [.int .i64 x.f,.int .i64 x.l]:=by rw[←hw5];exact Bk.new w _ _
 have hb5:nD w w5:=by rw[←hw5];exact nB.alloc lR _
 obtain⟨d0,d1⟩:=hB5.c2;have HB5:=nF hB5 hb5;have HX:=hid h;have hwi:=aLq x gm (.map (some bm)) last w5 (h.bx.next hb5 h.bx.lt);clear h hB5;go_enter func151,ntmps151
 go_wp2_with fail
 refine hwi.mono ?_;rintro e w1 ⟨rfl,hb1⟩;obtain⟨ok,hok⟩:=nC (aBg x);have HB1:=nF (HB5.o.2.trans (hb1.mono HB5.o.2.size)) (HB5.o.1.next hb1 HB5.o.1.lt);rw[hok];clear hwi hb1 hb5 d0 d1
 cases ok with
 | false =>
   go_wp2_with fail
   go_ret2
   exact⟨.inl ⟨hok,rfl⟩,HB1.o.1⟩
 | true =>
   obtain⟨h0,h1,h2⟩:=aJq hok;obtain⟨L,hL⟩:∃L:Nat,x.l=(L:Int):=⟨x.l.toNat,by omega⟩
   have HK:=nF hok hL;rw[hL] at h1 h2;obtain⟨q0,q1⟩:=HB1.o.2.c2;rw[hL] at q1 ⊢;clear hL hok;go_wp2_with fail
   go_loopw [6,17] (fun sv iv wr=>∃k:Nat,k≤L∧iv=.int .i64 (k:Int)∧nD w wr∧nD w1 wr∧∃bs:List Int,Hid (Byt wr w1.heap.size sv bs∧bs.length=40*k)) (fun _ iv _=>L - (intOf iv).toNat)
   case atStart=>exact⟨0,zL,rfl,HB1.o.1,nB,[],⟨⟨rfl,.inl ⟨rfl,rfl⟩⟩,by simp⟩,rfl⟩
   case round =>
    obtain⟨k,hk,rfl,hW,hW1,bs,HS⟩:=hrel;clear q0 q1;by_cases hlt:k<L
    · have n0:(k:Int)<(L:Int):=by omega
      have w0:wrap64 (x.f+(k:Int))=x.f+(k:Int):=by unfold wrap64;omega
      have hg:=aUh F gm bm s N last (x.f+(k:Int)) a f wr (HX.o.ag (.of_below hW)) (by omega);have hbk:=HB1.o.2.next hW1 HB1.o.2.lt;have q0:=hbk.cell (i:=0) (by simp);simp only[tI] at q0;have HW:=nF hW hW1;clear hW hW1 hbk;go_wp2_with fail
      refine hg.mono ?_;rintro e w3 ⟨⟨v,t,rfl,b3,hb3,hl3⟩,hbl⟩;obtain⟨A3,c3,rfl,hy3⟩:=hb3.isY;rw[hl3] at hy3 ⊢;have HY:=nH hy3 hl3 hbl;have HS3:=nF (HS.o.1.next hbl) HS.o.2;have hbl':bs.length≤40*258:=by have:=HS.o.2;omega
      clear hg hb3 hl3 hbl hy3 q0;go_wp2_with (at_builtin;go_must (refine aAa _ rfl _ _ 41 rfl w1.heap.size 5 i0 (.int .u8 0) 1 1 underlying41 hi hz0 hz1 hz2 rfl (by omega) _ _ _ (by rfl) (by exact HS3.o.1.1) w3.heap.size A3 40 c3 (b3.map (Value.int .u8)) (by rfl) (by rw[rU,Nat.mul_one];exact HY.o.1.b.len) (by exact HY.o.1.b.rd) Ui (by omega) (by omega) (by exact tK HW.o.2.size HY.o.2.2.size) ?_);intro v9 w9 hO9 hG9 hn9)
      have HE:=hid (show nD w w9∧nD w1 w9∧Byt w9 w1.heap.size v9 (bs++b3)∧(bs++b3).length=40*(k+1) from by
       have hlo:∀g,u6.ownBlock=some g→w1.heap.size≤g:=fun g hg=>Xv HS3.o.1.1 hg
       refine⟨(HW.o.1.trans (HY.o.2.2.mono HW.o.1.size)).grown hG9 (tK HW.o.1.size HY.o.2.2.size) (fun g hg=>tK HB1.o.1.size (hlo g hg)),(HW.o.2.trans (HY.o.2.2.mono HW.o.2.size)).grown hG9 (tK HW.o.2.size HY.o.2.2.size) hlo,⟨?_,fun y hy=>?_⟩,?_⟩
       · rw[rH,HY.o.2.1,rI];exact hO9
       · rcases rE.1 hy with q|q
         · exact HS3.o.1.2 y q
         · exact HY.o.1.b.wf y q
       · rw[rH,HS3.o.2,HY.o.2.1];omega)
      clear hO9 hG9 hn9;go_roundw
      case rel=>exact⟨k+1,by omega,by go_num,HE.o.1,HE.o.2.1,_,HE.o.2.2⟩
      case measure=>simp[intOf];omega
    · obtain rfl:k=L:=by omega
      have n0:¬(k:Int)<(k:Int):=by omega
      have HE:=nF (Byt.base HS.o.1 HB1.o.1.size) HS.o.2;go_wp2_with fail
      go_ret2
      exact⟨.inr ⟨HK.o.1,_,rfl,bs,HE.o.1,by rw[HK.o.2,HE.o.2];omega⟩,hW⟩
theorem aRg (F:Xt) (gm bm s N B:Nat) (last:Int) (f:Int→Option Value) {tb:Int} (w:World) (h:Up w F gm bm s N last tb f) (hB:B≤w.heap.size) :
  Calls prog 166 #[.pointer (some ⟨gm,0,none⟩)] w fun e w'=>(∃v,e=.returned v∧∃ks,(∃ps,Ud w' B v ks ps)∧ks.length≤258∧(∀k∈ks,0≤k∧k<258)∧((∀x,f x=none)→ks=[]))∧nD w w':=by
 obtain⟨xi,xz,hxi,hxz,hx5,hx56,hxc⟩:=aKe;obtain⟨c0,c1,c2⟩:=h.bx.c3;have hgo:=aDw gm _ last w h.bx;have hk:=aRp bm w;have hso:=aMw bm s f w h.im (tK h.size (by omega));have HX:=hid h;have HB:=hid hB;have HSZ:=hid h.size;clear h hB;go_enter func166,ntmps166
 go_wp2_with fail
 refine hgo.mono ?_;rintro e w' ⟨rfl,rfl⟩;clear hgo;go_wp2_with fail
 refine hk.mono ?_;rintro e w1 ⟨rfl,rfl⟩;go_wp2_with fail
 refine hso.mono ?_;rintro e w2 ⟨⟨v,ks',rfl,hK,ho⟩,hb2⟩;have hl:=hK.len;obtain⟨kA,kc,rfl⟩:=Xs ho;have hR:=Ve ho;have hb2s:=hid hb2.size;have HKS:=hid hK;clear ho hk hso hK;go_wp2_with fail
 go_loopw [2,15] (fun pv iv wr=>∃k:Nat,k≤s∧iv=.int .i64 (k:Int)∧nD w wr∧nD w2 wr∧∃ps,Hid (Ud wr w2.heap.size pv (ks'.take k) ps)) (fun _ iv _=>s - (intOf iv).toNat)
 case atStart=>exact⟨0,zL,rfl,hb2,nB,[],⟨⟨rfl,.inl ⟨rfl,rfl⟩⟩,rfl,by simp,by simp,by simp⟩⟩
 case round =>
  obtain⟨k,hk,rfl,hW,hW2,ps,HP⟩:=hrel;clear c0 c1 c2;by_cases hlt:k<s
  · obtain⟨ad,eA,had,ck⟩:=(hR.next lR hW2).get (k:=k) (by rw[rU];omega);subst eA;rw[rV] at ck;obtain⟨x,hx⟩:=nC (ks'[k]'(by omega));rw[hx] at ck;have hxm:x∈ks':=by rw[←hx];exact rC _
    have hxw:=HKS.o.wf x hxm;have hX:=HX.o.ag (.of_below hW);have hsome:=(HKS.o.mem x hxw).1 hxm;obtain⟨rA,m,rc,vs,ha⟩:=hX.at_ x;have hlk:=hX.look hxw;rw[ha.val] at hlk;obtain⟨p,rfl⟩:∃p,m=p+1:=⟨m - 1,by have:=ha.pos hsome;omega⟩
    have hMn:p+1≤100000:=tK ha.le hX.big;obtain⟨u,hu⟩:=nC (vs[p]'(by have:=ha.len;omega));obtain⟨ad2,rfl,had2,g0,g1⟩:=Vk aCf (Ve ha.own) (k:=p) (by have:=ha.len;omega) (u:=.int .i64 u.t) (v:=.slice u.A 40 u.c) (by rw[hu];rfl);have huy:=ha.y u (by rw[←hu];exact rC _);obtain⟨c0,c1,c2⟩:=hX.bx.c3;have hc:=aAh u.A 40 u.c wr.heap.size (u.bs.map (Value.int .u8)) wr (by rw[rU];exact huy.b.len) huy.b.rd Ui (by omega) lR;have HY:=nF huy.b.len huy.b.wf;have HT:=hid (show ks'.take (k+1)=ks'.take k++[x] by rw[List.take_succ_eq_append_getElem (by omega),hx]);have htl:(ks'.take k).length=k:=by rw[rJ];omega
    have n0:(k:Int)<(s:Int):=by omega
    have n1:(0:Int)≤(k:Int):=by omega
    have n2:(0:Int)≤(p:Int):=by omega
    have n3:(p:Int)<(p:Int)+1:=by omega
    have w0:wrap64 ((p:Int)+1 - 1)=(p:Int):=by unfold wrap64;omega
    have hk16:k≤258:=by have:=HSZ.o;omega
    clear hX hx huy hu hxm ha hsome;go_wp2_with fail
    refine hc.mono ?_;rintro e w3 ⟨⟨v3,rfl,ho3⟩,hb3⟩;obtain⟨yA,yc,rfl⟩:=Xs ho3;have HC:=hid (show Byt w3 wr.heap.size (.slice yA 40 yc) u.bs from⟨by rw[HY.o.1];exact ho3,HY.o.2⟩);have HP3:=hid (HP.o.next hb3);have HS:=nH (hW.trans (hb3.mono hW.size)) (hW2.trans (hb3.mono hW2.size)) (tK hW2.size hb3.size);clear hc ho3 hb3 c0 c1 c2 HP g0 g1;obtain⟨w4,hw4⟩:=nC (w3.alloc (.cells #[.int .i64 x,.slice yA 40 yc] 50));have hB4:Bk w4 w3.heap.size 50 [.int .i64 x,.slice yA 40 yc]:=by rw[←hw4];exact Bk.new _ _ _
    have hb4:nD w3 w4:=by rw[←hw4];exact nB.alloc lR _
    have HQ4:=hid (HP3.o.next hb4);have HB4:=nF hB4 hb4;have hnk:(ks'.take k).length≤1000000:=by omega
    clear hB4 hb4;go_wp2_with (at_builtin;go_must (refine aAc _ rfl _ _ 58 rfl w2.heap.size 50 xi xz 2 32 underlying58 hxi hxz hx5 hx56 hxc (by decide) _ _ _ (by rfl) (by exact HQ4.o.own) _ [.int .i64 x,.slice yA 40 yc] (by rfl) (by exact HB4.o.1) rfl (by intro u hu;simp at hu;rcases hu with rfl|rfl<;>rfl) (by exact hnk) (by decide) (by exact tK HS.o.2.2 HB4.o.2.size) ?_);intro v9 w9 hO9 hG9 hn9)
    have HE:=hid (show Ud w9 w2.heap.size v9 (ks'.take (k+1)) (ps++[⟨x,yA,40,yc,u.bs⟩])∧nD w w9∧nD w2 w9 from by
     have hyc:IsY w3 yA 40 yc u.bs:=by
      obtain⟨A',c',e,hy⟩:=HC.o.isY;rw[HY.o.1] at e hy;injection e with e1 _ e2;subst e1 e2;exact hy
     refine⟨by rw[HT.o];exact HQ4.o.push (by rw[htl] at hO9 ⊢;exact hO9) hG9 (hyc.ag (F:=fun _=>False) (.of_below HB4.o.2)) (fun ad q=>tK hW2.size (Xv (g:=ad.block) HC.o.1 (by rw[q];rfl))),?_,?_⟩
     · exact(HS.o.1.trans (HB4.o.2.mono HS.o.1.size)).grown hG9 (tK HS.o.1.size HB4.o.2.size) (fun g hg=>tK hb2s.out (Xv HQ4.o.own hg))
     · exact(HS.o.2.1.trans (HB4.o.2.mono HS.o.2.1.size)).grown hG9 (tK HS.o.2.1.size HB4.o.2.size) (fun g hg=>Xv HQ4.o.own hg))
    go_roundw
    case rel=>exact⟨k+1,by omega,by go_num,HE.o.2.1,HE.o.2.2,_,HE.o.1⟩
    case measure=>simp[intOf];omega
  · obtain rfl:k=s:=by omega
    have n0:¬(k:Int)<(k:Int):=by omega
    have HP2:=hid (show Ud wr w2.heap.size u2 ks' ps from by have:=HP.o;rwa [rG (by omega)] at this);have HQ:=hid (show ks'.length≤258∧(∀y∈ks',0≤y∧y<258)∧((∀x,f x=none)→ks'=[]) from⟨by have:=HSZ.o;omega,fun y hy=>HX.o.rng y ((HKS.o.mem y (HKS.o.wf y hy)).1 hy),fun e=>List.eq_nil_iff_forall_not_mem.2 fun y hy=>by have:=(HKS.o.mem y (HKS.o.wf y hy)).1 hy;rw[e y] at this;cases this⟩);go_wp2_with fail
    go_ret;exact⟨⟨_,rfl,ks',⟨ps,HP2.o.base (tK HB.o hb2s.out)⟩,HQ.o.1,HQ.o.2⟩,hW⟩
theorem aKc (F:Xt) (gm bm s N:Nat) (last after:Int) (f:Int→Option Value) (x:ExD) {tb:Int} (w:World) (h:Up w F gm bm s N last tb f) :
  Calls prog 215 #[.pointer (some ⟨gm,0,none⟩),.agg #[.int .i64 x.f,.int .i64 x.l],.int .i64 after] w fun e w'=>(∃r,e=.returned (.bool r)∧(tb≤after→r=false))∧nD w w':=by
 obtain⟨w5,hw5⟩:=nC (w.alloc (.cells #[.int .i64 x.f,.int .i64 x.l] 46));have hB5:Bk w5 w.heap.size 46 [.int .i64 x.f,.int .i64 x.l]:=by rw[←hw5];exact Bk.new w _ _
 have hb5:nD w w5:=by rw[←hw5];exact nB.alloc lR _
 obtain⟨d0,d1⟩:=hB5.c2;have HB5:=nF hB5 hb5;have hx5:=h.ag (.of_below hb5);have HX:=hid h;have HX5:=hid hx5;have hgo:=aDw gm _ last w5 hx5.bx;clear h hx5 hB5;go_enter func215,ntmps215
 go_wp2_with fail
 refine hgo.mono ?_;rintro e w' ⟨rfl,rfl⟩;clear hgo;by_cases g0:x.f<0
 · have t0:decide (x.f<0)=true:=rZ g0;go_wp2_with fail
   go_ret;exact⟨⟨_,rfl,fun _=>rfl⟩,HB5.o.2⟩
 have t0:decide (x.f<0)=false:=rY g0;by_cases g1:1048576<x.f
 · have t1:decide (1048576<x.f)=true:=rZ g1;go_wp2_with fail
   go_ret;exact⟨⟨_,rfl,fun _=>rfl⟩,HB5.o.2⟩
 have t1:decide (1048576<x.f)=false:=rY g1;by_cases g2:x.l<1
 · have t2:decide (x.l<1)=true:=rZ g2;go_wp2_with fail
   go_ret;exact⟨⟨_,rfl,fun _=>rfl⟩,HB5.o.2⟩
 have t2:decide (x.l<1)=false:=rY g2;have w0:wrap64 (1048577 - x.f)=1048577 - x.f:=by unfold wrap64;omega
 by_cases g3:1048577 - x.f<x.l
 · have t3:decide (1048577 - x.f<x.l)=true:=rZ g3;go_wp2_with fail
   go_ret;exact⟨⟨_,rfl,fun _=>rfl⟩,HB5.o.2⟩
 have t3:decide (1048577 - x.f<x.l)=false:=rY g3;by_cases g4:1048576<x.l
 · have t4:decide (1048576<x.l)=true:=rZ g4;go_wp2_with fail
   go_ret;exact⟨⟨_,rfl,fun _=>rfl⟩,HB5.o.2⟩
 have t4:decide (1048576<x.l)=false:=rY g4;obtain⟨c0,c1,c2⟩:=HX5.o.bx.c3;have HG:=hid (show 0≤x.f∧x.f≤1048576∧1≤x.l∧x.l≤1048576 from by omega);go_wp2_with (at_range;go_must (refine aCj _ rfl _ 240 rfl 3 264 Uy aEf bm s f (by rfl) (by exact HX5.o.im) ?_);intro w1 left hR1 hG1 hs1)
 have hb51:nD w5 w1:=⟨hG1.os,hG1.tape,hG1.output,hG1.size,fun b hb=>hG1.block b hb (by simp)⟩;have HB1:=nF (hb5.trans (hb51.mono hb5.size)) hb51;have HR:=hid hR1;have h5s:=hid hb5.size;clear hG1 hs1 hR1 hb51 hb5 t0 t1 t2 t3 t4 g0 g1 g2 g3 g4 w0 c0 c1 c2 d0 d1;try go_frame
 go_loopw [7] (fun _ wr=>∃(left:Lit→Bool) (cnt:Nat),IR wr prog 3 bm w5.heap.size s f left cnt∧nD w wr∧nD w5 wr) (fun _ wr=>wr.rangeLeft bm w5.heap.size)
 case atStart=>exact⟨left,s,HR.o,HB1.o.1,HB1.o.2⟩
 case round =>
  obtain⟨left,cnt,hR,hW,hW5⟩:=hrel;have HRR:=nH hR hW hW5;clear hR hW hW5;go_wp2_with (at_next;go_must (refine aDb _ rfl _ rfl 3 Uy Ug bm w5.heap.size s f left cnt (by rfl) (by exact HRR.o.1) ?_ ?_))
  · go_wp2_with fail
    go_ret;exact⟨⟨_,rfl,fun _=>rfl⟩,HRR.o.2.1⟩
  · intro y c w2 left2 cnt2 hyw hyc hR2 hlt2 hG2 hs2 hen;have hb2:nD w5 w2:=HRR.o.2.2.grown hG2 HRR.o.2.2.size (fun g hg=>by injection hg with hg;omega);have hb2':nD w w2:=HRR.o.2.1.grown hG2 HRR.o.2.1.size (fun g hg=>by injection hg with hg;have:=h5s.out;omega);obtain⟨rA,m,rc,vs,ha,hat⟩:=(HX5.o.ag (.of_below hb2)).att y;have hcv:=ha.val;rw[hyc] at hcv;simp only[Option.getD_some] at hcv;subst hcv;obtain⟨p,rfl⟩:∃p,m=p+1:=⟨m - 1,by have:=ha.pos (by rw[hyc];rfl);omega⟩
    have hMn:p+1≤100000:=tK ha.le HX.o.big;obtain⟨u,hu⟩:=nC (vs[p]'(by have:=ha.len;omega));obtain⟨ad2,rfl,had2,g0,g1⟩:=Vk aCf (Ve ha.own) (k:=p) (by have:=ha.len;omega) (u:=.int .i64 u.t) (v:=.slice u.A 40 u.c) (by rw[hu];rfl);have hbx:=HB5.o.1.next hb2 HB5.o.1.lt;obtain⟨d0,d1⟩:=hbx.c2;have hyr:=HX.o.rng y (by rw[hyc];rfl);have HE:=nI hb2' hb2 hR2 hlt2;have HTU:=hid (show u.t≤tb from hat u (by rw[←hu];exact rC _));have w0:wrap64 (y - x.f)=y - x.f:=by have:=HG.o;unfold wrap64;omega
    have w1':wrap64 ((p:Int)+1 - 1)=(p:Int):=by unfold wrap64;omega
    have n2:(0:Int)≤(p:Int):=by omega
    have n3:(p:Int)<(p:Int)+1:=by omega
    clear ha hat hu hbx hb2 hb2' hG2 hs2 hR2 hlt2 hyc hyr;by_cases q0:x.f≤y;rotate_left
    · have t0:decide (x.f≤y)=false:=rY q0;go_wp2_with fail
      go_roundw
      case rel=>exact⟨left2,cnt2,HE.o.2.2.1,HE.o.1,HE.o.2.1⟩
      case measure=>rw[HE.o.2.2.1.left_eq,HRR.o.1.left_eq];exact HE.o.2.2.2
    have t0:decide (x.f≤y)=true:=rZ q0;by_cases q1:y - x.f<x.l;rotate_left
    · have t1:decide (y - x.f<x.l)=false:=rY q1;go_wp2_with fail
      go_roundw
      case rel=>exact⟨left2,cnt2,HE.o.2.2.1,HE.o.1,HE.o.2.1⟩
      case measure=>rw[HE.o.2.2.1.left_eq,HRR.o.1.left_eq];exact HE.o.2.2.2
    have t1:decide (y - x.f<x.l)=true:=rZ q1;by_cases q2:after<u.t;rotate_left
    · have t2:decide (after<u.t)=false:=rY q2;go_wp2_with fail
      go_roundw
      case rel=>exact⟨left2,cnt2,HE.o.2.2.1,HE.o.1,HE.o.2.1⟩
      case measure=>rw[HE.o.2.2.1.left_eq,HRR.o.1.left_eq];exact HE.o.2.2.2
    have t2:decide (after<u.t)=true:=rZ q2;go_wp2_with fail
    go_ret;exact⟨⟨_,rfl,fun q=>absurd q2 (by have:=HTU.o;omega)⟩,HE.o.1⟩
end Go.Proofs.YtdhlicgaalnmoaaGreatDoor.Tp
