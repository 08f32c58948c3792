/- Contracts of the program's functions, and laws on memory: a part of the proof of TopAlone. -/
import Derived.Test.YtdhlicgaalnmoaaGreatDoorZP
set_option linter.unusedSimpArgs false
set_option linter.unusedVariables false
namespace Go.Proofs.YtdhlicgaalnmoaaGreatDoor.Tp
open Lib (hid)
open Tryz
open Go.RowKit Go.Maps
set_option maxHeartbeats 8000000
set_option maxRecDepth 100000
theorem Ux.push {w w':World} {B:Nat} {v v':Value} {xs:List BR} {A:Option Addr} {c:Nat} {bs:List Int} (h:Ux w B v xs) (hO:w'.ownsRow B 41 1 v' (xs.length+1) (xs.map BR.cell++[.slice A 64 c])) (hG:w.grownBy w' v.ownBlock) (hy:IsY w A 64 c bs):Ux w' B v' (xs++[⟨A,c,bs⟩]):=by
 have k:=Ag.grown (F:=fun _=>False) h.own (by decide) hG (fun _ _ q=>q);refine⟨by rw[rH,rI];exact hO,fun p hp=>?_⟩;rcases rE.1 hp with q|q
 · exact(h.y p q).ag k
 · obtain rfl:p=_:=by simpa using q
   exact hy.ag k
theorem Ux.next' {w w':World} {B:Nat} {v:Value} {xs:List BR} (h:Ux w B v xs) (hb:nD w w'):Ux w' B v xs:=⟨Vg h.own hb,fun x hx=>(h.y x hx).ag (F:=fun _=>True) (.of_below hb)⟩
theorem bFz {k n:Nat} (h:k<n) (hn:n≤1000):(k:Int)<(n:Int)∧(0:Int)≤(k:Int)∧wrap64 ((k:Int)+1)=(k:Int)+1∧k≤1000000:=⟨by omega,by omega,by unfold wrap64;omega,by omega⟩
theorem bGa (A:Option Addr) (n c:Nat) (xs:List BR) (w:World) (h:aCk w A n c xs):Calls prog 69 #[.slice A n c] w fun e w'=>(∃v,e=.returned v∧∃ys,Ux w' w.heap.size v ys∧ys.map BR.bs=xs.map BR.bs)∧nD w w':=by
 obtain⟨xi,xz,hxi,hxz,hx5,hx56,hxc⟩:=aFw;have HX:=hid h;clear h;go_enter func69,ntmps69
 go_wp2_with fail
 go_loopw [2,7] (fun pv iv wr=>∃k:Nat,k≤n∧iv=.int .i64 (k:Int)∧∃ys,Hid (nD w wr∧Ux wr w.heap.size pv ys∧ys.map BR.bs=(xs.map BR.bs).take k)) (fun _ iv _=>n - (intOf iv).toNat)
 case atStart=>exact⟨0,zL,rfl,[],hid ⟨nB,⟨World.ownsRow_nil w _ _ _,by simp⟩,by simp⟩⟩
 case round =>
  obtain⟨k,hk,rfl,ys,HP⟩:=hrel;obtain⟨pA,pc,rfl⟩:=Xs HP.o.2.1.own;rcases tN k n with hlt|hge
  · have hX:=HX.o.next HP.o.1;have hkx:k<xs.length:=by rw[HX.o.len];exact hlt
    obtain⟨x,hx⟩:=nC (xs[k]'hkx);obtain⟨ad,eA,had,ck⟩:=hX.rd.get (k:=k) (by rw[rU];exact hkx);subst eA;rw[rV,hx] at ck;have hxm:x∈xs:=by rw[←hx];exact rC _
    have huy:=hX.y x hxm
    have hyl:ys.length=k:=by
     have:=congrArg List.length HP.o.2.2;rw[rU,rJ,rU] at this;omega
    obtain⟨n0,n1,m2,n4⟩:=bFz hlt HX.o.sm;have hc:=aAh x.A 64 x.c wr.heap.size (x.bs.map (Value.int .u8)) wr (by rw[rU];exact huy.b.len) huy.b.rd Ui (by decide) lR;have c0:wr.cell? (ad.add k)=some (.slice x.A 64 x.c):=ck;have HY:=nI huy.b.len huy.b.wf hlt (show ys.map BR.bs++[x.bs]=(xs.map BR.bs).take (k+1) from by rw[HP.o.2.2,List.take_succ_eq_append_getElem (by rw[rU];exact hkx),rV,hx]);have hs2:=HP.o.1.size;have hnk:ys.length≤1000000:=by rw[hyl];exact n4
    clear hyl hX hx huy hxm hk hlt ck hkx;go_wp2_with fail
    refine hc.mono ?_;rintro e w3 ⟨⟨v3,rfl,ho3⟩,hb3⟩;obtain⟨yA,yc,rfl⟩:=Xs ho3
    have HC:=hid (show IsY w3 yA 64 yc x.bs from by
     obtain⟨A',c',e,hy⟩:=(show Byt w3 wr.heap.size (.slice yA 64 yc) x.bs from⟨by rw[HY.o.1];exact ho3,HY.o.2.1⟩).isY;rw[HY.o.1] at e hy;injection e with e1 _ e2;subst e1 e2;exact hy)
    obtain⟨w4,hw4⟩:=nC (w3.alloc (.cells #[.slice yA 64 yc] 41));have hB4:Bk w4 w3.heap.size 41 [.slice yA 64 yc]:=by rw[←hw4];exact Bk.new _ _ _
    have hb4:nD w3 w4:=by rw[←hw4];exact nB.alloc lR _
    have HB4:=nH hB4 (hb3.trans (hb4.mono hb3.size)) hb4;have HQ4:=hid (HP.o.2.1.next' (hb3.trans (hb4.mono hb3.size)));clear hc ho3 hb3 hB4 hb4 c0;go_wp2_with (at_builtin;go_must (refine aAc _ rfl _ _ 133 rfl w.heap.size 41 xi xz 1 24 underlying133 hxi hxz hx5 hx56 hxc (by decide) _ _ _ (by rfl) (by exact HQ4.o.own) _ [.slice yA 64 yc] (by rfl) (by exact HB4.o.1) rfl (by intro u hu;simp at hu;rcases hu with rfl<;>rfl) (by exact hnk) (by decide) (by exact tK hs2 HB4.o.2.1.size) ?_);intro v9 w9 hO9 hG9 hn9;obtain⟨sA,sc9,rfl⟩:=Xs hO9)
    have HE:=hid (show nD w w9∧Ux w9 w.heap.size _ (ys++[⟨yA,yc,x.bs⟩])∧(ys++[(⟨yA,yc,x.bs⟩:BR)]).map BR.bs=(xs.map BR.bs).take (k+1) from
     ⟨(HP.o.1.trans (HB4.o.2.1.mono HP.o.1.size)).grown hG9 (tK HP.o.1.size HB4.o.2.1.size) (fun g hg=>Xv HQ4.o.own hg),HQ4.o.push hO9 hG9 (HC.o.ag (F:=fun _=>True) (.of_below HB4.o.2.2)),by rw[rI];exact HY.o.2.2.2⟩)
    clear hO9 hG9 hn9;(try go_wp2_with fail)
    go_roundw
    case rel=>exact⟨k+1,HY.o.2.2.1,Va (by first|rfl|exact m2),_,HE⟩
    case measure=>(first|exact Xw HY.o.2.2.1 rfl|(rw[m2];exact Xw HY.o.2.2.1 rfl))
  · obtain rfl:k=n:=tQ hk hge;have n0:¬(k:Int)<(k:Int):=Int.lt_irrefl _;have HE:=hid (show Ux wr w.heap.size (.slice pA ys.length pc) ys∧ys.map BR.bs=xs.map BR.bs from⟨HP.o.2.1,by rw[HP.o.2.2,rG (by rw[rU,HX.o.len];exact lR)]⟩);go_wp2_with fail
    go_ret;exact⟨⟨_,rfl,ys,HE.o⟩,HP.o.1⟩
theorem aMj (i:Int) (w:World):Calls prog 67 #[.slice none 0 0,.int .i64 i] w fun e w'=>e=.returned (.tuple #[.int .i64 0,.bool false])∧w=w':=by
 go_enter func67,ntmps67
 go_wp2_with fail
 go_ret2
 exact⟨rfl,rfl⟩
structure CrX (w wr:World) (F:Xt) (gd:Nat) (zsl:Value) (ops reads left:Int) (cs:List (List (List Int))) (k:Nat) (zs:List ZD):Prop where
 dev:Uo wr F gd zsl ops reads left zs
 row:∀(i:Nat) (z:ZD) (c:List (List Int)),i<k→zs[i]? =some z→cs[i]? =some c→aGm wr z c∧z.good=(z.n:Int)
 bel:nD w wr
 new:∀b,F b→w.heap.size≤b
 inn:In wr F
theorem CrX.step {w wr w3 w9:World} {F:Xt} {gd k:Nat} {zsl v:Value} {ops reads left:Int} {cs:List (List (List Int))} {zs:List ZD} (h:CrX w wr F gd zsl ops reads left cs k zs) {z:ZD} (hz:zs[k]? =some z) {c:List (List Int)} (hc:cs[k]? =some c) (h96:c.length≤96) (hb:nD wr w3) {ys:List BR} (hr:Ux w3 wr.heap.size v ys) (hys:ys.map BR.bs=c) (e:(w3.setCell ⟨z.gz,0,none⟩ v).setCell ⟨z.gz,1,none⟩ (.int .i64 (ys.length:Int))=w9) :
  CrX w w9 (fun b=>F b∨(wr.heap.size≤b∧b<w9.heap.size)) gd zsl ops reads left cs (k+1) (zs.set k ⟨z.gz,v,ys.length,ys.map BR.cell,(ys.length:Int)⟩):=by
 have hzm:z∈zs:=tZ hz;have hzb:=h.dev.zb z hzm;have hzb3:=hzb.next hb hzb.lt;have hb9:Bk w9 z.gz 135 [v,.int .i64 (ys.length:Int)]:=by rw[←e];exact(hzb3.set 0 v).set 1 _
 have kfs:Kf (fun b=>b=z.gz) w3 w9:=by rw[←e];exact((Kf.refl (fun b=>b=z.gz) w3).set hzb3 (by decide) (.inl rfl) 0 _).set (hzb3.set 0 v) (by decide) (.inl rfl) 1 _
 have hk:Kp2 (fun b=>b=z.gz∨z.v.ownBlock=some b) wr w9:=(Kp2.of_below hb).trans (by rw[←e];exact((Kp2.set w3 z.gz 0 v).mono (fun b q=>.inl q)).trans ((Kp2.set _ z.gz 1 _).mono (fun b q=>.inl q)));have ho:w9.ownsRow 0 41 1 v ys.length (ys.map BR.cell):=aFx (ownsRow_base_a hr.own zL) hzb3 (by decide) kfs;have hl:ys.length=c.length:=by rw[←hys,rU]
 have hsz:=tK hb.size kfs.size;have hag:Ag (fun _=>False) wr w9:=(Ag.of_below hb).trans (kfs.ag (fun _ q=>q.elim));have hgz:=h.new z.gz (h.dev.f2 z hzm);refine⟨h.dev.setZ hz v ys.length (ys.map BR.cell) (ys.length:Int) hk hb9 ho (by rw[hl];exact h96) (fun g hg=>.inr (Xv hr.own hg)) (fun b q=>.inl q) (fun g hg=>.inr ⟨Xv hr.own hg,?_⟩),fun i z' c' hi hz' hc'=>?_,?_,fun b q=>q.elim (h.new b) (fun r=>tK h.bel.size r.1),fun b q=>q.elim (fun r=>tL (h.inn b r) hsz) (fun r=>r.2)⟩
 · obtain⟨_,_,hh⟩:=Vx ho hg;exact aKh hh
 · rcases Ub hz' with ⟨rfl,rfl⟩|⟨hn,q⟩
   · rw[hc] at hc';injection hc' with hc';subst hc';refine⟨⟨hl,fun j b hj=>?_⟩,rfl⟩;rw[←hys,rW] at hj;obtain⟨x,hx,rfl⟩:=Option.map_eq_some_iff.1 hj;exact⟨x.A,x.c,by show (ys.map BR.cell)[j]? =_;rw[rW,hx];rfl,(hr.y x (tZ hx)).ag (F:=fun _=>False) (kfs.ag (fun _ q=>q.elim))⟩
   · obtain⟨r1,r2⟩:=h.row i z' c' (by omega) q hc';exact⟨r1.ag hag,r2⟩
 · rw[←e];exact((h.bel.trans (hb.mono h.bel.size)).setCell (p:=⟨z.gz,0,none⟩) hgz v).setCell (p:=⟨z.gz,1,none⟩) hgz _
theorem aQf {w:World}:∀(rows:List Value) (c:List (List Int)),rows.length=c.length→(∀(k:Nat) (b:List Int),c[k]? =some b→∃A cp,rows[k]? =some (Value.slice A 64 cp)∧IsY w A 64 cp b)→∃xs:List BR,xs.map BR.cell=rows∧xs.map BR.bs=c∧∀x∈xs,IsY w x.A 64 x.c x.bs
 | [],[],_,_=>⟨[],rfl,rfl,fun x hx=>by simp at hx⟩
 | [],_::_,h,_=>by simp at h
 | _::_,[],h,_=>by simp at h
 | r::rows,b::c,h,hy=>by
   obtain⟨A,cp,h1,h2⟩:=hy 0 b rfl;obtain⟨xs,e1,e2,e3⟩:=aQf rows c (by simpa using h) (fun k b' hb=>hy (k+1) b' (by simpa using hb));have h1:r=.slice A 64 cp:=by simpa using h1
   subst h1;refine⟨⟨A,cp,b⟩::xs,by rw[List.map_cons,e1];rfl,by rw[List.map_cons,e2],fun x hx=>?_⟩;rcases List.mem_cons.1 hx with rfl|q
   · exact h2
   · exact e3 x q
theorem aGm.isRow {w:World} {z:ZD} {c:List (List Int)} (h:aGm w z c) {B n cap:Nat} {A:Option Addr} (hv:z.v=.slice A n cap) (ho:w.ownsRow B 41 1 z.v z.n z.rows) (h96:z.n≤96) (hl:z.rows.length=z.n):∃xs,aCk w A z.n cap xs∧xs.map BR.bs=c∧n=z.n:=by
 obtain⟨xs,e1,e2,e3⟩:=aQf z.rows c (by rw[hl,h.n]) h.y;obtain⟨A',cap',q⟩:=Xs ho;rw[hv] at q;injection q with q1 q2 q3;subst q1 q2 q3;rw[hv] at ho;have hr:=Ve ho;have hc:=Vv ho;exact⟨xs,⟨by rw[e1];exact hr,by have q:=congrArg List.length e1;rw[rU] at q;exact q.trans hl,e3,hc.1,hc.2,tK h96 (by decide)⟩,e2,rfl⟩
theorem aWc {w:World} {B n:Nat} {v:Value} {rows:List Value} (ho:w.ownsRow B 41 1 v n rows):rows.length=n:=by
 have:=ho.1;omega
theorem aXc (F:Xt) (gd:Nat) (cs:List (List (List Int))) (w:World) (hd:Ul w F gd cs true) (hI:In w F) :
  Calls prog 34 #[.pointer (some ⟨gd,0,none⟩),.slice none 0 0,.slice none 0 0] w fun e w'=>∃gd',e=.returned (.pointer (some ⟨gd',0,none⟩))∧∃F',Ul w' F' gd' cs true∧nD w w'∧(∀b,F' b→w.heap.size≤b)∧In w' F':=by
 obtain⟨zsl,ops,reads,left,zs,hx,hlen,hrow,hgood⟩:=hd;have hgo:=aFb F gd zsl ops reads left zs w hx;have hnew:=aUf w;have H:=nJ hx hlen hrow (hgood rfl) hI;obtain⟨c0,c1,c2⟩:=hx.bx.c3;obtain⟨oA,oc,rfl⟩:=Xs hx.zr;clear hx hlen hrow hgood hI;go_enter func34,ntmps34
 go_wp2_with fail
 refine hgo.mono ?_;rintro e w' ⟨rfl,rfl⟩;clear hgo;go_wp2_with fail
 refine hnew.mono ?_;rintro e w1 ⟨gd',F1,v1,zs1,rfl,⟨hx1,hz1⟩,hb1,hF1⟩;obtain⟨nA,nc,rfl⟩:=Xs hx1.zr;have H0:=hid (show CrX w w1 F1 gd' (.slice nA 8 nc) 0 0 0 cs 0 zs1 from⟨hx1,(fun i z c q=>absurd q (Nat.not_lt_zero i)),hb1,fun b q=>(hF1 b q).1,fun b q=>(hF1 b q).2⟩);have c1':=(H.o.1.ag (.of_below hb1)).bx.cell (i:=2) (by simp);simp only[tI,tJ] at c1';clear hnew hx1 hz1 hb1 hF1 c0 c1 c2;go_wp2_with fail
 go_loopw [33] (fun iv wr=>∃(k:Nat) (F':Xt) (zs':List ZD),k≤8∧iv=.int .i64 (k:Int)∧Hid (CrX w wr F' gd' (.slice nA 8 nc) 0 0 0 cs k zs')) (fun iv _=>8 - (intOf iv).toNat)
 case atStart=>exact⟨0,F1,zs1,zL,rfl,H0⟩
 case round =>
  obtain⟨k,F',zs',hk,rfl,HX⟩:=hrel;rcases tN k 8 with hlt|hge
  · have hxr:=H.o.1.ag (.of_below HX.o.bel);obtain⟨z,hz⟩:∃z,zs[k]? =some z:=⟨_,tX (by rw[H.o.1.zl];exact hlt)⟩
    obtain⟨c,hc⟩:∃c,cs[k]? =some c:=⟨_,tX (by rw[←H.o.2.1,H.o.1.zl];exact hlt)⟩
    obtain⟨z',hz'⟩:∃z',zs'[k]? =some z':=⟨_,tX (by rw[HX.o.dev.zl];exact hlt)⟩
    have hzm:z∈zs:=tZ hz;have hzm':z'∈zs':=tZ hz';obtain⟨ad,eA,had,ck⟩:=(Ve hxr.zr).get (k:=k) (by rw[rU,H.o.1.zl];exact hlt);subst eA;rw[rV,(rB.1 hz).2] at ck;have c0:wr.cell? (ad.add k)=some (.pointer (some ⟨z.gz,0,none⟩)):=ck;have hzb:=hxr.zb z hzm;have hzo:=hxr.zo z hzm;have hgd:=H.o.2.2.2.1 z hzm;obtain⟨vA,vc,hv⟩:=Xs hzo;have hmx:=H.o.1.mx z hzm;have hrc:=(H.o.2.2.1 k z c hz hc).ag (F:=fun _=>False) (.of_below HX.o.bel)
    have hrl:z.rows.length=z.n:=by
     have q:=aWc hzo;exact q
    obtain⟨xs,hxs,hxc,hnn⟩:=hrc.isRow hv hzo hmx hrl;rw[hv,hgd] at hzb;obtain⟨d0,d1⟩:=hzb.c2;have n0:(k:Int)<8:=by omega
    have n1:(0:Int)≤(k:Int):=by omega
    have m2:wrap64 ((k:Int)+1)=(k:Int)+1:=by unfold wrap64;omega
    have n3:(0:Int)≤(z.n:Int):=by omega
    have n4:(z.n:Int)≤(vc:Int):=Int.ofNat_le.2 hxs.cap;have n5:z.n≤vc:=hxs.cap;have HZ:=nL hlt hxs hxc hz' hzm' hc hzb;have HMX:=hid hmx;clear hxr hz hc hz' hzm hzm' had ck hzb hzo hgd hv hmx hrc hrl hxs hxc hk hlt hnn;go_wp2_with fail
    go_region
    go_wp2_with fail
    refine(aMj _ _).mono ?_;rintro e w' ⟨rfl,rfl⟩;go_wp2_with fail
    refine(bGa vA z.n vc xs _ (HZ.o.2.1.next (Xu nB))).mono ?_;rintro e w3 ⟨⟨v3,rfl,ys,hys,hyb⟩,hb3⟩;obtain⟨yA,yc,rfl⟩:=Xs hys.own;have hb03:nD wr w3:=(Xu (Below.refl wr.heap.size wr)).trans hb3;have hx3:=HX.o.dev.ag (.of_below hb03);have e2:=hx3.bx.cell (i:=2) (by simp);simp only[tI,tJ] at e2;obtain⟨nad,eN,hnad,cn⟩:=(Ve hx3.zr).get (k:=k) (by rw[rU,hx3.zl];exact HZ.o.1);subst eN;rw[rV,(rB.1 HZ.o.2.2.2.1).2] at cn;have e3:w3.cell? (nad.add k)=some (.pointer (some ⟨z'.gz,0,none⟩)):=cn;have hzb':=hx3.zb z' HZ.o.2.2.2.2.1;obtain⟨g0,g1⟩:=hzb'.c2;have f0:=hzb'.free 0;have f1:=hzb'.free 1;obtain⟨w9,hw9⟩:=nC ((w3.setCell ⟨z'.gz,0,none⟩ (.slice yA ys.length yc)).setCell ⟨z'.gz,1,none⟩ (.int .i64 (ys.length:Int)));have HE:=hid (HX.o.step HZ.o.2.2.2.1 HZ.o.2.2.2.2.2.1 (by have q:=congrArg List.length HZ.o.2.2.1;rw[rU,HZ.o.2.1.len] at q;rw[←q];exact HMX.o) hb03 hys (hyb.trans HZ.o.2.2.1) hw9);clear hb3 hys hyb hx3 hnad cn hzb' hb03;go_wp2_with fail
    refine(aMj _ _).mono ?_;rintro e w' ⟨rfl,rfl⟩;go_wp2_with fail
    exact⟨⟨k+1,_,_,HZ.o.1,rfl,HE⟩,Xw HZ.o.1 rfl⟩
  · obtain rfl:k=8:=tQ hk hge;have n0:¬((8:Nat):Int)<8:=by decide
    go_wp2_with fail
    go_ret;refine⟨gd',rfl,F',⟨_,_,_,_,zs',HX.o.dev,by rw[HX.o.dev.zl,←H.o.2.1,H.o.1.zl],fun i z c hz hc=>(HX.o.row i z c (by have:=(rB.1 hz).1;rw[HX.o.dev.zl] at this;exact this) hz hc).1,fun _ z hz=>?_⟩,HX.o.bel,HX.o.new,HX.o.inn⟩;obtain⟨i,hi⟩:=List.getElem?_of_mem hz;have hi8:i<8:=by have:=(rB.1 hi).1;rw[HX.o.dev.zl] at this;exact this
    have hic:i<cs.length:=by rw[←H.o.2.1,H.o.1.zl];exact hi8
    exact(HX.o.row i z (cs[i]'hic) hi8 hi (tX hic)).2
theorem aUz:(prog.info? 60).map (fun i=>(i.size,i.bytes,i.zero.map (·.cells.size)))=some (5,56,some 5):=by kernel_rfl
theorem aZc:∃i z,prog.info? 60=some i∧i.zero=some z∧i.size=5∧i.bytes=56∧z.cells.size=5:=by
 have h:=aUz
 cases hi:prog.info? 60 with
 | none=>rw[hi] at h;cases h
 | some i =>
   rw[hi] at h;simp at h
   obtain⟨h1,h2,z,hz,h3⟩:=h;exact⟨i,z,rfl,hz,h1,h2,h3⟩
theorem aRl:(prog.info? 63).map (fun i=>(i.size,i.bytes,i.zero.map (·.cells.size)))=some (5,56,some 5):=by kernel_rfl
theorem aUw:∃i z,prog.info? 63=some i∧i.zero=some z∧i.size=5∧i.bytes=56∧z.cells.size=5:=by
 have h:=aRl
 cases hi:prog.info? 63 with
 | none=>rw[hi] at h;cases h
 | some i =>
   rw[hi] at h;simp at h
   obtain⟨h1,h2,z,hz,h3⟩:=h;exact⟨i,z,rfl,hz,h1,h2,h3⟩
structure aEj (w:World) (G:Xt) (A:Option Addr) (n c:Nat) (os:List OpD):Prop where
 len:os.length=n
 rd:Rd w w.heap.size A (os.flatMap OpD.cells)
 ps:∀o∈os,aGk w G o.A o.n o.c o.ps
 cap:n≤c
 big:c≤maxLen
 ga:∀ad,A=some ad→0<n→G ad.block
 gp:∀o∈os,∀ad,o.A=some ad→0<o.n→G ad.block
theorem aEj.ag {w w':World} {G:Xt} {A:Option Addr} {n c:Nat} {os:List OpD} (h:aEj w G A n c os) (k:Ag G w w'):aEj w' G A n c os :=
 ⟨h.len,Rd.agn h.rd k (fun ad e q=>h.ga ad e (by rw[Vt aEb,h.len] at q;omega)),fun o ho=>(h.ps o ho).agn k (h.gp o ho),h.cap,h.big,h.ga,h.gp⟩
def OpD.key (o:OpD):Int×Int×Int×Int×List (Int×Nat):=(o.kind,o.h,o.lba,o.len,o.ps.map fun p=>(p.lba,p.n))
def aQh (os os':List OpD):Prop:=os'.map OpD.key=os.map OpD.key
def adR (s:SS) (j:Nat) (cl:CLD) (os:List OpD) (r:Int) (s':SS):Prop :=
 (200<cl.ops.length+os.length∧r=7∧s'=s)∨(cl.ops.length+os.length≤200∧r=0∧∃ov' os',aQh os os'∧s'={s with cls:=s.cls.set j {cl with ov:=ov',ops:=cl.ops++os'}})
def AdX (w wr:World) (F:Xt) (sb g:Nat) (s:SS) (j:Nat) (cl:CLD) (os:List OpD) (i:Nat):Prop :=
 ∃ov' os',Uc w wr F sb {s with cls:=s.cls.set j {cl with ov:=ov',ops:=cl.ops++os'}} g∧aQh (os.take i) os'
theorem aWp {α :Type} {l:List α} {j:Nat} {x: α} (h:l[j]? =some x):l.set j x=l:=by
 apply List.ext_getElem?;intro i;rw[rD];split
 · rename_i e;subst e;rw[if_pos (Vi h)];exact h.symm
 · rfl
theorem aZp {P:CLD→Prop} {cls:List CLD} {j:Nat} {x c':CLD} (h:∀c∈cls.set j x,P c) (hc:P c'):∀c∈cls.set j c',P c:=fun c hm=>by
 obtain⟨i,hi⟩:=List.getElem?_of_mem hm;rcases Ub hi with ⟨_,rfl⟩|⟨hn,q⟩
 · exact hc
 · exact h c (tZ (i:=i) (by rw[rD,if_neg (fun r=>hn r.symm)];exact q))
theorem AdX.zero {w:World} {F:Xt} {sb g:Nat} {s:SS} {j:Nat} {cl:CLD} (os:List OpD) (h:Ue w F sb s g) (hj:s.cls[j]? =some cl):AdX w w F sb g s j cl os 0:=by
 refine⟨cl.ov,[],?_,rfl⟩;have e:({cl with ov:=cl.ov,ops:=cl.ops++[]}:CLD)=cl:=by rw[List.append_nil]
 rw[e,aWp hj];exact Uc.same0 h nB
theorem aQx {w:World} {g t:Nat} {cs:List Value} (h:Bk w g t cs):∀j u,cs[j]? =some u→w.cell? ((⟨g,0,none⟩:Addr).add j)=some u:=fun j u hu=>by
 rw[Addr.add_lit,Nat.zero_add];exact Bk.at' h hu
theorem AdX.step {w wr w8 w9 w10:World} {F F1:Xt} {Ft:Nat→Xt} {sb st gd g:Nat} {alv:Value} {s:SS} {j i:Nat} {cl:CLD} {os os':List OpD} {o o':OpD} {ov' v9:Value}
  (h1:Ue wr F1 sb {s with cls:=s.cls.set j {cl with ov:=ov',ops:=cl.ops++os'}} g) (hx:Vo wr F1 Ft sb st (Uj gd) alv (s.cls.set j {cl with ov:=ov',ops:=cl.ops++os'}) s.es s.es s.bg s.m s.ev s.pos g) (k1:Kf F w wr) (s1:Sb w F F1) (hjl:j<s.cls.length) (ho:os[i]? =some o) (hs:aQh (os.take i) os') (hk:o'.key=o.key)
  (hb:nD wr w8) (hp:Uh w8 o'.A o'.n o'.c o'.ps) (hpy:∀ad,o'.A=some ad→wr.heap.size≤ad.block∧∃cs fr,w8.heap[ad.block]? =some (.cells cs 50 fr))
  (hO:Kb w9 60 5 v9 (cl.ops.length+os'.length+1) ((cl.ops++os').flatMap OpD.cells++o'.cells)) (hg:w8.grownBy w9 ov'.ownBlock) (hv:v9.ownBlock=ov'.ownBlock∨∀b,v9.ownBlock=some b→w8.heap.size≤b) (hl:cl.ops.length+os'.length+1≤200) (e:w9.setCell ⟨sb,2+j*4,none⟩ v9=w10):AdX w w10 F sb g s j cl os (i+1):=by
 obtain⟨F2,Ft2,g1,g2,g3,g4⟩:=hx.addc (j:=j) (c:={cl with ov:=ov',ops:=cl.ops++os'}) (o:=o') hb (by rw[rD,if_pos rfl,if_pos hjl]) hp hpy (by simpa using hO) hg hv (by simpa using hl) e.symm;rw[List.set_set] at g1;refine⟨v9,os'++[o'],⟨F2,⟨⟨Ft2,st,gd,alv,?_⟩,h1.b,h1.ev,fun c hc=>?_⟩,k1.trans g2 s1,Sb.trans s1 g3 k1.size,g4⟩,?_⟩
 · simpa using g1
 · exact aZp (P:=fun c=>c.na≤g∧c.bgs.length≤g) (cls:=s.cls) (j:=j) (x:={cl with ov:=ov',ops:=cl.ops++os'}) (c':={cl with ov:=v9,ops:=cl.ops++(os'++[o'])}) h1.num (h1.num {cl with ov:=ov',ops:=cl.ops++os'} (tZ (i:=j) (by show (s.cls.set j _)[j]? =_;rw[rD,if_pos rfl,if_pos hjl]))) c hc
 · unfold aQh at hs ⊢;rw[rI,hs,List.take_add_one,ho,rI];simp[hk]
theorem aCu {w:World} {g t:Nat} {a0 a1 a2 a3 a4:Value} (h:Bk w g t [a0,a1,a2,a3,a4]):w.cell? ⟨g,0,none⟩=some a0∧w.cell? ⟨g,1,none⟩=some a1∧w.cell? ⟨g,2,none⟩=some a2∧w.cell? ⟨g,3,none⟩=some a3∧w.cell? ⟨g,4,none⟩=some a4 :=
 ⟨h.cell (i:=0) (by simp),h.cell (i:=1) (by simp),h.cell (i:=2) (by simp),h.cell (i:=3) (by simp),h.cell (i:=4) (by simp)⟩
theorem aXj {w w9:World} {F:Xt} {Ft:Nat→Xt} {sb st:Nat} {dp alv:Value} {cls:List CLD} {al es:List Nat} {bg:List BG} {m:MS} {ev pos g:Nat} (h:Vo w F Ft sb st dp alv cls al es bg m ev pos g) {j:Nat} {c:CLD} (hj:cls[j]? =some c) (hG:w.grownBy w9 c.ov.ownBlock) :
  w9.cell? ⟨sb,2+j*4,none⟩=some c.ov∧w9.frozen? ⟨sb,2+j*4,none⟩=false:=by
 have hb:Bk w9 sb 85 (Vm dp st cls alv ev):=(hG.block _ h.bx.lt (fun e=>by
  obtain⟨_,_,h1⟩:=(h.cl j c hj).ops.at_ e.symm;exact absurd (aAp h1 h.bx) (by decide))).trans h.bx
 exact⟨Bk.at' hb (aCq (i:=0) h.cl8 hj (by decide) rfl),hb.free _⟩
def AdS (sb g9:Nat) (cs os:List Value) (w:World):Prop:=Bk w sb 85 cs∧Bk w g9 60 os
theorem AdS.next {w w':World} {sb g9:Nat} {cs os:List Value} (h:AdS sb g9 cs os w) (hb:nD w w'):AdS sb g9 cs os w':=⟨h.1.next hb h.1.lt,h.2.next hb h.2.lt⟩
theorem AdS.grown {w w':World} {sb g9 n:Nat} {cs os xs:List Value} {v:Value} (h:AdS sb g9 cs os w) (ho:Kb w 60 5 v n xs) (hG:w.grownBy w' v.ownBlock) (hn:v.ownBlock≠some g9):AdS sb g9 cs os w' :=
 ⟨(hG.block _ h.1.lt (fun e=>by
  obtain⟨_,_,h1⟩:=ho.at_ e.symm;exact absurd (aAp h1 h.1) (by decide))).trans h.1,(hG.block _ h.2.lt (fun e=>hn e.symm)).trans h.2⟩
theorem AdX.out {w wr:World} {F:Xt} {sb g:Nat} {s:SS} {j n:Nat} {cl:CLD} {os:List OpD} (h:AdX w wr F sb g s j cl os n) (hn:os.length=n) (hl:cl.ops.length+os.length≤200):∃s',adR s j cl os 0 s'∧Uc w wr F sb s' g:=by
 obtain⟨ov',os',h1,h2⟩:=h;rw[←hn,List.take_length] at h2;exact⟨_,.inr ⟨hl,rfl,ov',os',h2,rfl⟩,h1⟩
theorem bCg {L n:Nat} (hn:n≤20000) (hL:L≤200):wrap64 ((200:Int) - (L:Int))=(200:Int) - (L:Int):=by unfold wrap64;omega
theorem aOr {w:World} {F:Xt} {sb g:Nat} {s:SS} (h:Ue w F sb s g) {k:Int} (hk:k<1∨8<k) (A:Option Addr) (n c:Nat) :
  Calls prog 23 #[.pointer (some ⟨sb,0,none⟩),.int .i64 k,.slice A n c] w fun e w'=>e=.returned (.int .i64 1)∧w=w':=by
 obtain⟨Ft,st,gd,alv,hx⟩:=h.x;have hc:=aHw hx.at_st hk;clear h hx hk;go_enter func23,ntmps23
 go_wp2_with fail
 refine hc.mono ?_;rintro e w' ⟨rfl,rfl⟩;clear hc;go_wp2_with fail
 go_ret;exact⟨rfl,rfl⟩
theorem bCc {w:World} {F G:Xt} {sb g:Nat} {s:SS} (h:Ue w F sb s g) {j:Nat} {cl:CLD} (hj:s.cls[j]? =some cl) {A:Option Addr} {n c:Nat} {os:List OpD} (ho:aEj w G A n c os) (hd:Dis G F) (hG:In w G) (hn:n≤20000) (hq:∀o∈os,o.n≤20000∧∀p∈o.ps,p.n≤20000) :
  Calls prog 23 #[.pointer (some ⟨sb,0,none⟩),.int .i64 ((j:Int)+1),.slice A n c] w fun e w'=>∃r:Int,e=.returned (.int .i64 r)∧∃s',adR s j cl os r s'∧Uc w w' F sb s' g:=by
 obtain⟨xi,xz,hxi,hxz,hx5,hx56,hxc⟩:=aZc;have hjl:=Vi hj;obtain⟨Ft,st,gd,alv,hx⟩:=h.x;have hc:=aGg hx.at_st (by rw[←h.c8];exact hjl);obtain⟨c0,-⟩:=hx.cl1 hj;obtain⟨oA,oc,hov,-⟩:=(hx.cl j cl hj).ops.shape;rw[hov] at c0;have hlen:=(hx.cl j cl hj).len;have m1:=bCg (L:=cl.ops.length) hn hlen;have hol:=ho.len;rcases tN 200 (cl.ops.length+n) with hbig|hfit
 · have n1:((200:Int) - (cl.ops.length:Int))<(n:Int):=by omega
   have HE:=hid (show adR s j cl os 7 s∧Uc w w F sb s g from⟨.inl ⟨by rw[hol];exact hbig,rfl,rfl⟩,Uc.same0 h nB⟩);clear h hx hj ho hbig hlen hq hov;go_enter func23,ntmps23
   go_wp2_with fail
   refine hc.mono ?_;rintro e w' ⟨rfl,rfl⟩;clear hc;go_wp2_with fail
   go_ret;exact⟨7,rfl,s,HE.o⟩
 · have n1:¬(((200:Int) - (cl.ops.length:Int))<(n:Int)):=by omega
   have HX0:=hid (AdX.zero os h hj);have HH:=nN hjl ho hd hG hfit hq hol hn hlen;clear h hx hj ho hfit hlen hq hov hd hG hjl;go_enter func23,ntmps23
   go_wp2_with fail
   refine hc.mono ?_;rintro e w' ⟨rfl,rfl⟩;clear hc;go_wp2_with fail
   go_loopw [28] (fun iv wr=>∃i:Nat,i≤n∧iv=.int .i64 (i:Int)∧Hid (AdX w wr F sb g s j cl os i)) (fun iv _=>n - (intOf iv).toNat)
   case atStart=>exact⟨0,zL,rfl,HX0⟩
   case round =>
    obtain⟨i,hi,rfl,HY⟩:=hrel;rcases tN i n with hlt|hge
    · obtain⟨ov',os',⟨F1,hB,k1,s1,in1⟩,hsm⟩:=HY.o;obtain⟨Ft1,st1,gd1,alv1,x1⟩:=hB.x;have hj1:(s.cls.set j {cl with ov:=ov',ops:=cl.ops++os'})[j]? =some {cl with ov:=ov',ops:=cl.ops++os'}:=by rw[rD,if_pos rfl,if_pos HH.o.1]
      have hol':os'.length=i:=by have:=congrArg List.length hsm;rw[rU,rU,rJ] at this;have:=HH.o.2.2.2.2.2.2.1;omega
      obtain⟨o,hoi⟩:∃o,os[i]? =some o:=⟨_,tX (by have:=HH.o.2.2.2.2.2.2.1;omega)⟩
      have hO1:=HH.o.2.1.ag (k1.ag HH.o.2.2.1);obtain⟨ad,rfl,had,e0,e1,e2,e3,e4⟩:=aJa aEb hO1.rd (k:=i) (by have:=HH.o.2.2.2.2.2.2.1;omega) (by rw[tX (Vi hoi)] at hoi;rw[rT hoi];rfl);have n2:(i:Int)<(n:Int):=by omega
      have n3:(0:Int)≤(i:Int):=by omega
      have m2:wrap64 ((i:Int)+1)=(i:Int)+1:=by unfold wrap64;have:=HH.o.2.2.2.2.2.2.2.1;omega
      obtain⟨g9,w4,hzw4,hw4,Bw4,bw4⟩:=Xy wr 60 [.int .i64 0,.int .i64 0,.int .i64 0,.int .i64 0,.slice none 0 0];obtain⟨z0,z1,z2,z3,z4⟩:=Bw4.c5;have q0:=Bw4.free 0;have q1:=Bw4.free 1;have q2:=Bw4.free 2;have q3:=Bw4.free 3;have q4:=Bw4.free 4;obtain⟨w5,hw5⟩:=nC (W5 w4 g9 (.int .i64 o.kind) (.int .i64 o.h) (.int .i64 o.lba) (.int .i64 o.len) (.slice o.A o.n o.c));have B5:=Vb Bw4 hw5;have b5:nD wr w5:=aAo bw4 (tO hzw4) hw5;have hops:=(x1.next b5).cl j _ hj1 |>.ops;obtain⟨vA,vc,hvv,-⟩:=hops.shape;have hvl:(cl.ops++os').length=cl.ops.length+i:=by rw[rH,hol']
      rw[hvl] at hvv;subst hvv;rw[show ({cl with ov:=Value.slice vA (cl.ops.length+i) vc,ops:=cl.ops++os'}:CLD).ops.length=cl.ops.length+i from hvl] at hops;have hfi:cl.ops.length+i+1≤200:=tK (Nat.succ_le_of_lt (Nat.add_lt_add_left hlt _)) HH.o.2.2.2.2.1;have hpo:=hO1.ps o (tZ hoi);have hqo:=HH.o.2.2.2.2.2.1 o (tZ hoi);have HO:=nI (nS hops hfi) hpo b5 hqo;have HX:=nM hB x1 k1 s1 hoi hsm hj1 hol';obtain⟨cs,ecs⟩:=nC (Vm (Uj gd1) st1 (s.cls.set j {cl with ov:=.slice vA (cl.ops.length+i) vc,ops:=cl.ops++os'}) alv1 s.ev);have hS5:AdS sb g9 cs [.int .i64 o.kind,.int .i64 o.h,.int .i64 o.lba,.int .i64 o.len,.slice o.A o.n o.c] w5:=⟨by rw[←ecs];exact(x1.next b5).bx,B5⟩;have ecj:cs[2+(j*4+0)]? =some (.slice vA (cl.ops.length+i) vc):=by rw[←ecs];exact aCq x1.cl8 hj1 (by decide) rfl
      have HG9:=hid (show (Value.slice vA (cl.ops.length+i) vc).ownBlock≠some g9 from fun q=>by
       have h1:=x1.fam.inn _ _ ((x1.cl j _ hj1).fo g9 q);rw[←hzw4] at h1;exact tT _ h1)
      have KK:=hid (fun (w':World) (hS:AdS sb g9 cs [.int .i64 o.kind,.int .i64 o.h,.int .i64 o.lba,.int .i64 o.len,.slice o.A o.n o.c] w')=>nS (show w'.cell? ⟨sb,2+j*4,none⟩=_ from Bk.at' hS.1 ecj) (aCu hS.2));unfold W5 at hw5;clear hpo hqo hfi hops B5 b5 Bw4 bw4 hO1 hoi hsm hB x1 k1 s1 in1 hj1 hol' hvl HY had;go_wp2_with fail
      have Kq:=KK;refine Vn (AdS sb g9 cs [.int .i64 o.kind,.int .i64 o.h,.int .i64 o.lba,.int .i64 o.len,.slice o.A o.n o.c]) [11] (by kernel_rfl) (⟨hS5.1.drew,hS5.2.drew⟩) (fun nE=>?_);refine kR 0 ?_;refine kR 1 ?_;refine kR 2 ?_;refine kR 3 ?_;refine kM 4 ?_;refine kM 5 ?_;refine rM 6 (fun K hK=>?_);go_simp;have hb5d:nD w5 w5.drew:=Xu nB;refine(aZu o.kind o.h o.lba o.len G o.A o.n o.c o.ps _ ((HO.o.2.1.next HO.o.2.2.1).next hb5d) HO.o.2.2.2.1 HO.o.2.2.2.2).mono ?_;rintro e w7 ⟨⟨A7,c7,ps7,rfl,hw7⟩,hb7⟩;have hS7:=AdS.next nE hb7;have hb57:nD w5 w7:=hb5d.trans (hb7.mono hb5d.size);have H7:=nH hw7 hb5d.size hb57;clear hw7 hb7 hb5d hb57;go_simp;refine hK.out _ _ (fun _ _=>hS7) ?_;clear hK K nE;have nE:=hS7;try simp only[Act.put,tC,tD,tE]
      refine rM 7 (fun K hK=>?_);obtain⟨w8,hw8⟩:=nC (w7.alloc (.cells #[.int .i64 o.kind,.int .i64 o.h,.int .i64 o.lba,.int .i64 o.len,.slice A7 o.n c7] 60));have hB8:Bk w8 w7.heap.size 60 [.int .i64 o.kind,.int .i64 o.h,.int .i64 o.lba,.int .i64 o.len,.slice A7 o.n c7]:=by rw[←hw8];exact Bk.new w7 _ _
      have hb78:nD w7 w8:=by rw[←hw8];exact nB.alloc lR _
      have hS8:=AdS.next nE hb78;have hb58:nD w5 w8:=H7.o.2.2.trans (hb78.mono H7.o.2.2.size);have H8:=nI hB8 hb78 (HO.o.2.2.1.trans (hb58.mono HO.o.2.2.1.size)) hb58;go_simp;try rw[hw8]
      clear hB8 hb78 hb58;refine hK.out _ _ (fun _ _=>hS8) ?_;clear hK K nE;have nE:=hS8;try simp only[Act.put,tC,tD,tE]
      refine rM 8 (fun K hK=>?_);refine aAf rfl (bBe _ _ 29 rfl 60 xi xz 5 56 underlying29 hxi hxz hx5 hx56 hxc (by decide) (.slice vA (cl.ops.length+i) vc) (cl.ops.length+i) ((cl.ops++os').flatMap OpD.cells) (by rfl) (by exact HO.o.1.1.ag (F:=fun _=>True) (.of_below H8.o.2.2.2) (fun _ _=>trivial)) ⟨w7.heap.size,0,none⟩ 1 1 [.int .i64 o.kind,.int .i64 o.h,.int .i64 o.lba,.int .i64 o.len,.slice A7 o.n c7] (by rfl) rfl (aQx H8.o.1) (by intro u hu;simp at hu;rcases hu with rfl|rfl|rfl|rfl|rfl<;>rfl) (tK HO.o.1.2 (by decide)) (by decide) ?_);intro v9 w9 hO9 hG9 hv9;obtain⟨A9,c9,rfl,-⟩:=hO9.shape;obtain⟨z9,fr9⟩:=aXj (HX.o.2.1.next H8.o.2.2.1) HX.o.2.2.2.2.2.2.1 hG9;have hS9:=AdS.grown nE (HO.o.1.1.ag (F:=fun _=>True) (.of_below H8.o.2.2.2) (fun _ _=>trivial)) hG9 HG9.o;have H9:=nH hO9 hG9 hv9;obtain⟨w10,hw10⟩:=nC (w9.setCell ⟨sb,2+j*4,none⟩ (.slice A9 (cl.ops.length+i+1) c9));clear hO9 hG9 hv9;refine hK.out _ _ (fun _ _=>hS9) ?_;clear hK K nE;have nE:=hS9;try simp only[Act.put,tC,tD,tE]
      refine kR 9 ?_;refine kR 10 ?_;refine rM 11 (fun K hK=>?_);go_simp;try rw[hw10]
      refine hK.out _ _ (fun h=>absurd (by decide) h) ?_;clear hK K;try simp only[Act.put,tC,tD,tE]
      refine Vs (by kernel_rfl) ?_ _;clear Kq;have e8:os'.length=i:=HX.o.2.2.2.2.2.2.2;have g3:nD wr w5:=HO.o.2.2.1
      have HE:=hid (AdX.step (o':=⟨o.kind,o.h,o.lba,o.len,A7,o.n,c7,ps7⟩) HX.o.1 HX.o.2.1 HX.o.2.2.1 HX.o.2.2.2.1 HH.o.1 HX.o.2.2.2.2.1 HX.o.2.2.2.2.2.1 (by unfold OpD.key;simp only;rw[H7.o.1.same]) H8.o.2.2.1 (H7.o.1.is.next H8.o.2.1)
       (fun ad e=>by
        obtain⟨h1,cs,fr,h2⟩:=H7.o.1.new ad e;exact⟨tK g3.size (tK H7.o.2.1 h1),cs,fr,(H8.o.2.1.block _ (Vz h2)).trans h2⟩)
       (by rw[e8];exact H9.o.1) H9.o.2.1 H9.o.2.2 (by rw[e8];exact HO.o.1.2) hw10)
      clear e8 g3 ecs ecj KK hS5 HG9 e0 e1 e2 e3 e4 z0 z1 z2 z3 z4 q0 q1 q2 q3 q4 z9 fr9 hw5 hw8 hw10 hzw4 hw4;go_wp2_with fail
      go_roundw
      case rel=>exact⟨i+1,hlt,Va (by first|rfl|exact m2),HE⟩
      case measure=>(try rw[m2]);exact Xw (x:=(i:Int)+1) hlt rfl
    · obtain rfl:i=n:=tQ hi hge;have HE:=hid (AdX.out HY.o (by rw[HH.o.2.2.2.2.2.2.1]) (by rw[HH.o.2.2.2.2.2.2.1];exact HH.o.2.2.2.2.1));go_wp2_with fail
      go_ret;exact⟨0,rfl,HE.o⟩
structure LcD where
 g:Nat
 t:TypeId
 cs:List Value
structure ScX (wb w:World) (F0:Xt) (L:List LcD) (P:World→Xt→(Nat→Xt)→Prop):Prop where
 p:∃F Ft,P w F Ft∧Kf F0 wb w∧Sb wb F0 F∧In w F∧∀x∈L,¬F x.g
 bk:∀x∈L,Bk w x.g x.t x.cs
 ge:∀x∈L,wb.heap.size≤x.g
 nd:∀(i j:Nat) (x y:LcD),L[i]? =some x→L[j]? =some y→x.g=y.g→i=j
section
variable {wb w w' w5:World} {F0:Xt} {L:List LcD} {P P':World→Xt→(Nat→Xt)→Prop}
theorem ScX.step (h:ScX wb w F0 L P) (k:∀F Ft,P w F Ft→∃F' Ft',P' w' F' Ft'∧Kf F w w'∧Sb w F F'∧In w' F'):ScX wb w' F0 L P':=by
 obtain⟨F,Ft,hp,h1,h2,h3,h4⟩:=h.p;obtain⟨F',Ft',hp',k1,k2,k3⟩:=k F Ft hp;refine⟨⟨F',Ft',hp',h1.trans k1 h2,Sb.trans h2 k2 h1.size,k3,fun x hx r=>(k2 _ r).elim (h4 x hx) (fun s=>by have:=(h.bk x hx).lt;omega)⟩,fun x hx=>?_,h.ge,h.nd⟩;exact Bk.ag (F:=fun b=>b=x.g) (h.bk x hx) (k1.ag (fun b q r=>h4 x hx (by have q:b=x.g:=q;exact q▸r))) rfl
theorem ScX.bkAt (h:ScX wb w F0 L P) {i:Nat} {x:LcD} (hi:L[i]? =some x):Bk w x.g x.t x.cs:=h.bk x (tZ hi)
end
section
variable {wb w w' w5:World} {F0:Xt} {L:List LcD} {sb st gd g pos pos' ev:Nat} {alv:Value} {cls:List CLD} {al es:List Nat} {bg:List BG} {m m':MS} {s:SS}
abbrev ScP (sb st gd:Nat) (alv:Value) (cls:List CLD) (al es:List Nat) (bg:List BG) (m:MS) (ev pos g:Nat):World→Xt→(Nat→Xt)→Prop:=fun w F Ft=>Vo w F Ft sb st (Uj gd) alv cls al es bg m ev pos g
theorem ScX.of {Ft:Nat→Xt} (h:Vo w F0 Ft sb st (Uj gd) alv cls al es bg m ev pos g):ScX w w F0 [] (ScP sb st gd alv cls al es bg m ev pos g) :=
 ⟨⟨F0,Ft,h,.refl _ _,.refl _ _,h.fam.lt,fun x hx=>by cases hx⟩,fun x hx=>(by cases hx),fun x hx=>(by cases hx),fun i j x y q=>by simp at q⟩
theorem ScX.next (h:ScX wb w F0 L (ScP sb st gd alv cls al es bg m ev pos g)) (hb:nD w w'):ScX wb w' F0 L (ScP sb st gd alv cls al es bg m ev pos g) :=
 h.step fun F Ft hp=>⟨F,Ft,Vo.next hp hb,.of_below hb,.refl _ _,(Vo.next hp hb).fam.lt⟩
theorem ScX.push (h:ScX wb w F0 L (ScP sb st gd alv cls al es bg m ev pos g)) (hb:nD w w') {x:Nat} {t:TypeId} {cs:List Value} (hk:Bk w' x t cs) (hx:w.heap.size≤x):ScX wb w' F0 (L++[⟨x,t,cs⟩]) (ScP sb st gd alv cls al es bg m ev pos g):=by
 have h':=h.next hb;obtain⟨F,Ft,hp,h1,h2,h3,h4⟩:=h.p;have lt:∀y∈L,y.g<w.heap.size:=fun y hy=>(h.bk y hy).lt
 refine⟨⟨F,Ft,Vo.next hp hb,h1.next hb,h2,h3.next hb.size,fun y hy r=>?_⟩,fun y hy=>?_,fun y hy=>?_,fun i j y z hi hj e=>?_⟩
 · rcases rE.1 hy with q|q
   · exact h4 y q r
   · obtain rfl:y=⟨x,t,cs⟩:=by simpa using q
     have:=h3 _ r;exact absurd hx (Nat.not_le.2 this)
 · rcases rE.1 hy with q|q
   · exact h'.bk y q
   · obtain rfl:y=⟨x,t,cs⟩:=by simpa using q
     exact hk
 · rcases rE.1 hy with q|q
   · exact h.ge y q
   · obtain rfl:y=⟨x,t,cs⟩:=by simpa using q
     exact tK h1.size hx
 · rcases Uk hi with q|⟨q,rfl⟩<;>rcases Uk hj with r|⟨r,rfl⟩
   · exact h.nd i j y z q r e
   · have:=lt y (tZ q);have e:y.g=x:=e;omega
   · have:=lt z (tZ r);have e:x=z.g:=e;omega
   · omega
theorem ScX.set (h:ScX wb w F0 L (ScP sb st gd alv cls al es bg m ev pos g)) {i x:Nat} {t:TypeId} {cs cs':List Value} (hi:L[i]? =some ⟨x,t,cs⟩) (k:Kf (fun b=>b=x) w w') (hk:Bk w' x t cs'):ScX wb w' F0 (L.set i ⟨x,t,cs'⟩) (ScP sb st gd alv cls al es bg m ev pos g):=by
 obtain⟨F,Ft,hp,h1,h2,h3,h4⟩:=h.p;have hm:=tZ hi
 have sub:∀(j:Nat) (y:LcD),(L.set i ⟨x,t,cs'⟩)[j]? =some y→∃z,L[j]? =some z∧z.g=y.g:=fun j y hj=>by
  rcases Ub hj with ⟨rfl,rfl⟩|⟨_,q⟩
  · exact⟨_,hi,rfl⟩
  · exact⟨y,q,rfl⟩
 refine⟨⟨F,Ft,Vo.ag hp (k.ag (fun b q r=>h4 _ hm (by have r:b=x:=r;exact r▸q))),h1.trans k (fun b q=>.inr (by have q:b=x:=q;rw[q];exact h.ge _ hm)),h2,h3.next k.size,fun y hy=>?_⟩,fun y hy=>?_,fun y hy=>?_,fun a b y z ha hb e=>?_⟩
 · obtain⟨j,hj⟩:=List.getElem?_of_mem hy;obtain⟨z,hz,e⟩:=sub j y hj;rw[←e];exact h4 z (tZ hz)
 · obtain⟨j,hj⟩:=List.getElem?_of_mem hy;rcases Ub hj with ⟨_,rfl⟩|⟨hn,q⟩
   · exact hk
   · exact Bk.ag (F:=fun b=>b=y.g) (h.bkAt q) (k.ag (fun b q' r=>by
      have q':b=y.g:=q';have r:b=x:=r;exact hn (h.nd j i y _ q hi (q'.symm.trans r)))) rfl
 · obtain⟨j,hj⟩:=List.getElem?_of_mem hy;obtain⟨z,hz,e⟩:=sub j y hj;rw[←e];exact h.ge z (tZ hz)
 · obtain⟨y',hy',ey⟩:=sub a y ha;obtain⟨z',hz',ez⟩:=sub b z hb;exact h.nd a b y' z' hy' hz' (by rw[ey,ez,e])
theorem ScX.fin (h:ScX wb w F0 L (ScP sb st gd alv s.cls s.es s.es s.bg s.m s.ev s.pos g)) (hb:aBe s.m s.bg s.ev) (he:s.ev≤g) (hn:∀c∈s.cls,c.na≤g∧c.bgs.length≤g):Uc wb w F0 sb s g:=by
 obtain⟨F,Ft,hp,h1,h2,h3,_⟩:=h.p;exact⟨F,⟨⟨Ft,st,gd,alv,hp⟩,hb,he,hn⟩,h1,h2,h3⟩
theorem ScX.sch (h:ScX wb w F0 L (ScP sb st gd alv cls al es bg m ev pos g)):∃F Ft,Vo w F Ft sb st (Uj gd) alv cls al es bg m ev pos g:=by
 obtain⟨F,Ft,hp,_⟩:=h.p;exact⟨F,Ft,hp⟩
theorem ScX.newb (h:ScX wb w F0 L (ScP sb st gd alv cls al es bg m ev pos g)) (k:nD w w') {e:Nat} {b:BG} (hb:Bk w' e 91 (Vr es.length b)) (he:w.heap.size≤e):ScX wb w' F0 L (ScP sb st gd alv cls al (es++[e]) (bg++[b]) m ev pos g) :=
 h.step fun F Ft hp=>by
  obtain⟨F',Ft',h1,h2,h3,_⟩:=Vo.newb hp k hb he;exact⟨F',Ft',h1,.of_below k,h2,h3⟩
theorem ScX.up (h:ScX wb w F0 L (ScP sb st gd alv cls al es bg m ev pos g)) (hg:g+1≤700):ScX wb w F0 L (ScP sb st gd alv cls al es bg m ev pos (g+1)) :=
 h.step fun F Ft hp=>⟨F,Ft,Vo.up hp hg,.refl _ _,.refl _ _,(Vo.up hp hg).fam.lt⟩
theorem ScX.told (h:ScX wb w F0 L (ScP sb st gd alv cls al es bg m ev pos g)) {k e tn:Nat} {b:BG} (he:es[k]? =some e) (hb:bg[k]? =some b) (ew:w'=w.setCell ⟨e,2,none⟩ (.int .i64 (tn:Int))):ScX wb w' F0 L (ScP sb st gd alv cls al es (bg.set k ⟨b.fr,tn⟩) m ev pos g) :=
 h.step fun F Ft hp=>by
  obtain⟨h1,h2⟩:=Vo.told hp he hb ew;exact⟨F,Ft,h1,h2,.refl _ _,h1.fam.lt⟩
theorem ScX.at_ (h:ScX wb w F0 L (ScP sb st gd alv cls al es bg m ev pos g)):∃F Ft,Vo w F Ft sb st (Uj gd) alv cls al es bg m ev pos g∧∀(w':World) (pos':Nat) (m':MS),Kc w w' (Ft 1) st (Uj gd) pos' m' (g+1)→Ext m m'→ScX wb w' F0 L (ScP sb st gd alv cls al es bg m' ev pos' (g+1)):=by
 obtain⟨F,Ft,hp,h1,h2,h3,h4⟩:=h.p;refine⟨F,Ft,hp,fun w' pos' m' hr he=>?_⟩;have h0:ScX wb w F0 L (fun w2 F2 Ft2=>w2=w∧F2=F∧Ft2=Ft∧Vo w F Ft sb st (Uj gd) alv cls al es bg m ev pos g):=⟨⟨F,Ft,⟨rfl,rfl,rfl,hp⟩,h1,h2,h3,h4⟩,h.bk,h.ge,h.nd⟩;refine h0.step fun F2 Ft2 q=>?_
 obtain⟨_,rfl,rfl,hp⟩:=q;exact Vo.storeR hp hr he
end
def bgR (s:SS) (j:Nat) (cl:CLD) (s':SS):Prop :=
 (s.m.txs≠[]∧s'=s)∨∃e bv',s'={cls:=s.cls.set j {cl with bv:=bv',bgs:=cl.bgs++[s.es.length]},es:=s.es++[e],bg:=s.bg++[⟨s.ev,0⟩],m:=s.m.begin,ev:=s.ev,pos:=s.pos}
theorem aYz:(prog.info? 89).map (fun i=>(i.size,i.bytes,i.zero.map (·.cells.size)))=some (1,8,some 1):=by kernel_rfl
theorem bDp:∃i z,prog.info? 89=some i∧i.zero=some z∧i.size=1∧i.bytes=8∧z.cells.size=1:=by
 have h:=aYz
 cases hi:prog.info? 89 with
 | none=>rw[hi] at h;cases h
 | some i =>
   rw[hi] at h;simp at h
   obtain⟨h1,h2,z,hz,h3⟩:=h;exact⟨i,z,rfl,hz,h1,h2,h3⟩
theorem aGw {w w9:World} {F:Xt} {Ft:Nat→Xt} {sb st:Nat} {dp alv:Value} {cls:List CLD} {al es:List Nat} {bg:List BG} {m:MS} {ev pos g:Nat} (h:Vo w F Ft sb st dp alv cls al es bg m ev pos g) {B e z n:Nat} {v:Value} {xs:List Value} (ho:w.ownsRow B e z v n xs) (ht:e≠85) (hG:w.grownBy w9 v.ownBlock) :
  Bk w9 sb 85 (Vm dp st cls alv ev) :=
 (hG.block _ h.bx.lt (fun q=>by
  obtain⟨_,_,h1⟩:=Vx ho q.symm;exact absurd (aAp h1 h.bx) ht)).trans h.bx
theorem aVd (l:List Nat) (e:Nat):(l++[e]).getD l.length 0=e:=by simp[List.getD_eq_getElem?_getD]
def bHq (op:Int) (e:Ending):Prop:=∃code h t:Int,e=.returned (.agg #[.int .i64 op,.int .i64 code,.int .i64 h,.int .i64 t,.slice none 0 0])
theorem aQw {s:SS} {F:Xt} {w:World} {sb g j:Nat} {cl:CLD} {bv':Value} (h:Ue w F sb s g) (hj:s.cls[j]? =some cl):aBe s.m.begin (s.bg++[⟨s.ev,0⟩]) s.ev∧s.ev≤g+1∧∀c∈s.cls.set j {cl with bv:=bv',bgs:=cl.bgs++[s.es.length]},c.na≤g+1∧c.bgs.length≤g+1:=by
 refine⟨h.b.begin,tM h.ev,fun c hc=>?_⟩;have hold:∀c∈s.cls,c.na≤g+1∧c.bgs.length≤g+1:=fun c hc=>⟨tM (h.num c hc).1,tM (h.num c hc).2⟩
 rcases List.mem_or_eq_of_mem_set hc with q|rfl
 · exact hold c q
 · have:=h.num cl (tZ hj);refine⟨tM this.1,?_⟩;show (cl.bgs++[s.es.length]).length≤g+1
   rw[rH];exact tS this.2
theorem bAp {w:World} {F:Xt} {sb g:Nat} {s:SS} (h:Ue w F sb s g) (hg:g+1≤700) {j:Nat} {cl:CLD} (hj:s.cls[j]? =some cl) (op hh:Int) :
  Calls prog 115 #[.pointer (some ⟨sb,0,none⟩),.pointer (some ⟨sb,2+j*4,none⟩),.agg #[.int .i64 op,.int .i64 0,.int .i64 hh,.int .i64 0,.slice none 0 0]] w fun e w'=>bHq op e∧∃s',bgR s j cl s'∧Uc w w' F sb s' (g+1):=by
 obtain⟨xi,xz,hxi,hxz,hx5,hx56,hxc⟩:=bDp;obtain⟨Ft,st,gd,alv,hx⟩:=h.x;obtain⟨aA,ac,rfl⟩:=Xs hx.all;obtain⟨g1,w1,hzw1,hw1,Bw1,bw1⟩:=Xy w 63 [.int .i64 op,.int .i64 0,.int .i64 hh,.int .i64 0,.slice none 0 0];obtain⟨g2,w2,hzw2,hw2,Bw2,bw2⟩:=Xy w1 63 [.int .i64 0,.int .i64 0,.int .i64 0,.int .i64 0,.slice none 0 0];have X2:=((ScX.of hx).push bw1 Bw1 (tO hzw1)).push bw2 Bw2 (tO hzw2);obtain⟨F2,Ft2,hx2,hst⟩:=X2.at_;have c1:=hx2.at_st;obtain⟨Fs,gx,mb,gs,num,count,ns,hgx,hs⟩:=hx2.sto;obtain rfl:=aCw hgx;have hla:=bCb hs;have hbe:=bEw hs hg;have H:=nI h hg hj hst;clear hst hs hx2 X2 bw1 Bw1 bw2 Bw2 h hg hj hx;go_enter func115,ntmps115
 go_wp2_with fail
 refine hla.mono ?_;rintro e w' ⟨rfl,rfl⟩;clear hla;go_wp2_with fail
 refine hbe.mono ?_;rintro e w3 ⟨x,r,rfl,hr⟩;clear hbe c1;rcases hr with ⟨hne,hr0,hr⟩|⟨rfl,rfl,hr⟩
 · have X3:=H.o.2.2.2 w3 _ _ hr (Ext.refl _);have B1:Bk w3 g1 63 [.int .i64 op,.int .i64 0,.int .i64 hh,.int .i64 0,.slice none 0 0]:=X3.bkAt (i:=0) rfl;obtain⟨c0,c1,c2,c3,c4⟩:=B1.c5;have q0:=B1.free 0;have q1:=B1.free 1;have q2:=B1.free 2;have q3:=B1.free 3;have q4:=B1.free 4;obtain⟨w4,hw4'⟩:∃w4,(w3.setCell ⟨g1,2,none⟩ (.int .i64 0)).setCell ⟨g1,1,none⟩ (.int .i64 r)=w4:=⟨_,rfl⟩
   have B14:Bk w4 g1 63 [.int .i64 op,.int .i64 r,.int .i64 0,.int .i64 0,.slice none 0 0]:=by rw[←hw4'];exact(B1.set 2 _).set 1 _
   have k34:Kf (fun b=>b=g1) w3 w4:=by rw[←hw4'];exact((Kf.refl (fun b=>b=g1) w3).set B1 (by decide) (.inl rfl) 2 _).set (B1.set 2 _) (by decide) (.inl rfl) 1 _
   have X4:=X3.set (i:=0) rfl k34 B14;have B24:Bk w4 g2 63 [.int .i64 0,.int .i64 0,.int .i64 0,.int .i64 0,.slice none 0 0]:=X4.bkAt (i:=1) rfl;obtain⟨d0,d1,d2,d3,d4⟩:=B14.c5;obtain⟨r0,r1,r2,r3,r4⟩:=B24.c5;have p0:=B24.free 0;have p1:=B24.free 1;have p2:=B24.free 2;have p3:=B24.free 3;have p4:=B24.free 4;obtain⟨w5,hw5⟩:=nC (W5 w4 g2 (.int .i64 op) (.int .i64 r) (.int .i64 0) (.int .i64 0) (.slice none 0 0));have X5:=X4.set (i:=1) rfl (Vf B24 (by decide) hw5) (Vb B24 hw5);unfold W5 at hw5;have HE:=nH (show Bk w5 g2 63 [.int .i64 op,.int .i64 r,.int .i64 0,.int .i64 0,.slice none 0 0] from X5.bkAt (i:=1) rfl) hne (X5.fin H.o.1.b (tM H.o.1.ev) (fun c hc=>⟨tM (H.o.1.num c hc).1,tM (H.o.1.num c hc).2⟩));clear B1 B14 k34 X4 B24 X5 X3 hne hr;go_wp2_with fail
   refine bodyPost_ret (aKm rfl _ _ _ _ (by rfl) HE.o.1) rfl ?_;exact⟨⟨_,_,_,rfl⟩,s,.inl ⟨HE.o.2.1,rfl⟩,HE.o.2.2⟩
 · have hgm:=H.o.1.b.gm.begin;have X3:=H.o.2.2.2 w3 _ _ hr hgm.2;have B1:Bk w3 g1 63 [.int .i64 op,.int .i64 0,.int .i64 hh,.int .i64 0,.slice none 0 0]:=X3.bkAt (i:=0) rfl;obtain⟨c0,c1,c2,c3,c4⟩:=B1.c5;have q0:=B1.free 0;have q1:=B1.free 1;have q2:=B1.free 2;have q3:=B1.free 3;have q4:=B1.free 4;obtain⟨w4,hw4'⟩:∃w4,(w3.setCell ⟨g1,2,none⟩ (.int .i64 0)).setCell ⟨g1,1,none⟩ (.int .i64 0)=w4:=⟨_,rfl⟩
   have B14:Bk w4 g1 63 [.int .i64 op,.int .i64 0,.int .i64 0,.int .i64 0,.slice none 0 0]:=by rw[←hw4'];exact(B1.set 2 _).set 1 _
   have k34:Kf (fun b=>b=g1) w3 w4:=by rw[←hw4'];exact((Kf.refl (fun b=>b=g1) w3).set B1 (by decide) (.inl rfl) 2 _).set (B1.set 2 _) (by decide) (.inl rfl) 1 _
   have X4:=X3.set (i:=0) rfl k34 B14;obtain⟨F4,Ft4,hx4⟩:=X4.sch;have y35:=hx4.at_ev;obtain⟨bA,bc,hbv⟩:=Xs (hx4.cl j cl H.o.2.2.1).beg;have elen:s.m.txs.length=s.es.length:=by rw[←H.o.1.b.len,←hx4.len]
   have hbl:cl.bgs.length≤700:=tK (H.o.1.num cl (tZ H.o.2.2.1)).2 H.o.1.big;have hel:s.es.length≤700:=by rw[←elen];exact tK (tO rfl) (by obtain⟨Fq,sq,gq,aq,hq⟩:=H.o.1.x;exact tK hq.sto.txs H.o.1.big)
   obtain⟨e5,w5,hzw5,hw5,Bw5,bw5⟩:=Xy w4 91 [.int .i64 ((s.es.length:Int)+1),.int .i64 (s.ev:Int),.int .i64 0,.int .i64 0,.int .i64 0,.int .i64 0,.int .i64 0,.int .i64 0,.slice none 0 0,.slice none 0 0];have X5:=X4.newb bw5 (e:=e5) (b:=⟨s.ev,0⟩) Bw5 (tO hzw5);have B15:Bk w5 g1 63 [.int .i64 op,.int .i64 0,.int .i64 0,.int .i64 0,.slice none 0 0]:=X5.bkAt (i:=0) rfl;obtain⟨F5,Ft5,hx5⟩:=X5.sch;have y1:=(hx5.cl1 H.o.2.2.1).2.1;rw[hbv] at y1;obtain⟨d0,d1,d2,d3,d4⟩:=B15.c5;have t0:=B15.free 0;have t1:=B15.free 1;have t2:=B15.free 2;have t3:=B15.free 3;have t4:=B15.free 4;obtain⟨w6,hw6⟩:=nC ((w5.setCell ⟨g1,2,none⟩ (.int .i64 (cl.bgs.length:Int))).setCell ⟨g1,3,none⟩ (.int .i64 (s.m.last:Int)));have B16:Bk w6 g1 63 [.int .i64 op,.int .i64 0,.int .i64 (cl.bgs.length:Int),.int .i64 (s.m.last:Int),.slice none 0 0]:=by rw[←hw6];exact(B15.set 2 _).set 3 _
   have k56:Kf (fun b=>b=g1) w5 w6:=by rw[←hw6];exact((Kf.refl (fun b=>b=g1) w5).set B15 (by decide) (.inl rfl) 2 _).set (B15.set 2 _) (by decide) (.inl rfl) 3 _
   have X6:=X5.set (i:=0) rfl k56 B16;obtain⟨F6,Ft6,hx6⟩:=X6.sch;have v1:=(hx6.cl1 H.o.2.2.1).2.1;rw[hbv] at v1;obtain⟨g7,w7,hzw7,hw7,Bw7,bw7⟩:=Xy w6 89 [.pointer (some ⟨e5,0,none⟩)];have X7:=X6.next bw7;have HO7:=hid (show w7.ownsRow 0 89 1 (.slice bA cl.bgs.length bc) cl.bgs.length (cl.bgs.map fun k=>Uj ((s.es++[e5]).getD k 0)) from by obtain⟨F7,Ft7,hx7⟩:=X7.sch;have:=(hx7.cl j cl H.o.2.2.1).beg;rw[hbv] at this;exact this);have HB7:=hid Bw7;have HX7:=hid X7;clear B1 k34 hr X3 X4 hx4 bw5 Bw5 X5 hx5 B15 X6 hx6 B16 k56 bw7 Bw7 X7;go_wp2_with (at_builtin;go_must (refine aAa _ rfl _ _ 79 rfl 0 89 xi xz 1 8 underlying79 hxi hxz hx5 hx56 hxc (by decide) (.slice bA cl.bgs.length bc) cl.bgs.length (cl.bgs.map fun k=>Uj ((s.es++[e5]).getD k 0)) (by rfl) (by exact HO7.o) w7.heap.size (some ⟨g7,0,none⟩) 1 1 [.pointer (some ⟨e5,0,none⟩)] (by rfl) rfl HB7.o.rd (by intro u hu;simp at hu;rcases hu with rfl<;>rfl) (tK (Nat.add_le_add_right hbl 1) (by decide)) (tK (Nat.mul_le_mul_right 8 (Nat.add_le_add_right hbl 1)) (by decide)) zL ?_))
   intro v8 w8 hO8 hG8 hv8;obtain⟨A8,c8,rfl⟩:=Xs hO8;obtain⟨F7,Ft7,hx7⟩:=HX7.o.sch;have hb8:=aGw hx7 HO7.o (by decide) hG8;have z8:w8.cell? ⟨sb,2+j*4+1,none⟩=some cl.bv:=Bk.at' hb8 (aCq (i:=1) hx7.cl8 H.o.2.2.1 (by decide) rfl);have fr8:=hb8.free (2+j*4+1);obtain⟨w9,hw9⟩:=nC (w8.setCell ⟨sb,2+j*4+1,none⟩ (.slice A8 (cl.bgs.length+1) c8))
   have X9:ScX w w9 F _ (ScP sb st gd (.slice aA s.es.length ac) (s.cls.set j {cl with bv:=.slice A8 (cl.bgs.length+1) c8,bgs:=cl.bgs++[s.es.length]}) s.es (s.es++[e5]) (s.bg++[⟨s.ev,0⟩]) s.m.begin s.ev s.pos (g+1)) :=
    HX7.o.step (fun F Ft hp=>Vo.begc hp H.o.2.2.1 (k:=s.es.length) (by simp) (by rw[aVd];exact hO8) (by rw[hbv];exact hG8) (by rw[hbv];exact hv8) hw9.symm)
   obtain⟨F9,Ft9,hx9⟩:=X9.sch;have dG:=hx9.at_all;obtain⟨g10,w10,hzw10,hw10,Bw10,bw10⟩:=Xy w9 89 [.pointer (some ⟨e5,0,none⟩)];have X10:=X9.next bw10;have HO10:=hid (show w10.ownsRow 0 89 1 (.slice aA s.es.length ac) s.es.length (s.es.map Uj) from by obtain⟨F10,Ft10,hx10⟩:=X10.sch;exact hx10.all);have HB10:=hid Bw10;have HX10:=hid X10;clear hx7 hb8 hO8 hG8 hv8 X9 hx9 Bw10 bw10 X10 y1 v1 y35;go_wp2_with (at_builtin;go_must (refine aAa _ rfl _ _ 79 rfl 0 89 xi xz 1 8 underlying79 hxi hxz hx5 hx56 hxc (by decide) (.slice aA s.es.length ac) s.es.length (s.es.map Uj) (by rfl) (by exact HO10.o) w10.heap.size (some ⟨g10,0,none⟩) 1 1 [.pointer (some ⟨e5,0,none⟩)] (by rfl) rfl HB10.o.rd (by intro u hu;simp at hu;rcases hu with rfl<;>rfl) (tK (Nat.add_le_add_right hel 1) (by decide)) (tK (Nat.mul_le_mul_right 8 (Nat.add_le_add_right hel 1)) (by decide)) zL ?_))
   intro bF w11 hO11 hG11 hv11;obtain⟨A11,qM,rfl⟩:=Xs hO11;obtain⟨F10,Ft10,hx10⟩:=HX10.o.sch;have hb11:=aGw hx10 HO10.o (by decide) hG11;have z11:=Bk.at' hb11 (aWl hx10.cl8);have fr11:=hb11.free 34;obtain⟨w12,hw12⟩:=nC (w11.setCell ⟨sb,34,none⟩ (.slice A11 (s.es.length+1) qM))
   have X12:ScX w w12 F _ (ScP sb st gd (.slice A11 (s.es.length+1) qM) (s.cls.set j {cl with bv:=.slice A8 (cl.bgs.length+1) c8,bgs:=cl.bgs++[s.es.length]}) (s.es++[e5]) (s.es++[e5]) (s.bg++[⟨s.ev,0⟩]) s.m.begin s.ev s.pos (g+1)) :=
    HX10.o.step (fun F Ft hp=>Vo.alls hp (al':=s.es++[e5]) (by rw[rH,rI];exact hO11) hG11 hv11 hw12.symm)
   have B112:Bk w12 g1 63 [.int .i64 op,.int .i64 0,.int .i64 (cl.bgs.length:Int),.int .i64 (s.m.last:Int),.slice none 0 0]:=X12.bkAt (i:=0) rfl;have B212:Bk w12 g2 63 [.int .i64 0,.int .i64 0,.int .i64 0,.int .i64 0,.slice none 0 0]:=X12.bkAt (i:=1) rfl;obtain⟨x0,x1,x2,x3,x4⟩:=B112.c5;obtain⟨r0,r1,r2,r3,r4⟩:=B212.c5;have p0:=B212.free 0;have p1:=B212.free 1;have p2:=B212.free 2;have p3:=B212.free 3;have p4:=B212.free 4;obtain⟨w13,hw13⟩:=nC (W5 w12 g2 (.int .i64 op) (.int .i64 0) (.int .i64 (cl.bgs.length:Int)) (.int .i64 (s.m.last:Int)) (.slice none 0 0));have X13:=X12.set (i:=1) rfl (Vf B212 (by decide) hw13) (Vb B212 hw13);unfold W5 at hw13
   have HE:=nF (show Bk w13 g2 63 [.int .i64 op,.int .i64 0,.int .i64 (cl.bgs.length:Int),.int .i64 (s.m.last:Int),.slice none 0 0] from X13.bkAt (i:=1) rfl) (by
    obtain⟨q1,q2,q3⟩:=aQw (bv':=.slice A8 (cl.bgs.length+1) c8) H.o.1 H.o.2.2.1;exact ScX.fin (s:={cls:=s.cls.set j {cl with bv:=.slice A8 (cl.bgs.length+1) c8,bgs:=cl.bgs++[s.es.length]},es:=s.es++[e5],bg:=s.bg++[⟨s.ev,0⟩],m:=s.m.begin,ev:=s.ev,pos:=s.pos}) X13 q1 q2 q3)
   clear hx10 hb11 hO11 hG11 hv11 X12 X13 B112 B212 z8 fr8 dG;go_wp2_with fail
   refine bodyPost_ret (aKm rfl _ _ _ _ (by rfl) HE.o.1) rfl ?_;exact⟨⟨_,_,_,rfl⟩,_,.inr ⟨e5,_,rfl⟩,HE.o.2⟩
def coR (s:SS) (asked:Bool) (k:Nat) (b:BG) (t:TX) (s':SS) (ok:Bool):Prop :=
 ∃(r:Int) (m':MS) (t':TX),(asked=true∧r=0∧m'=s.m∨asked=false∧cmR s.m k t r m')∧m'.txs[k]? =some t'∧
  ((ok=false∧r=0∧t'.st=2∧s'={s with m:=m'})∨(ok=true∧3≤t'.st∧s'={s with m:=m',bg:=s.bg.set k ⟨b.fr,s.ev⟩})∨(ok=true∧r≠0∧s'={s with m:=m'}))
def coE (ok:Bool) (e:Ending):Prop:=∃(op code h t:Int),e=.returned (.tuple #[.agg #[.int .i64 op,.int .i64 code,.int .i64 h,.int .i64 t,.slice none 0 0],.bool ok])
structure CoM (s:SS) (asked:Bool) (k:Nat) (t:TX) (r:Int) (m':MS):Prop where
 rel:asked=true∧r=0∧m'=s.m∨asked=false∧cmR s.m k t r m'
 good:Vq m'
 ext:Ext s.m m'
 len:m'.txs.length=s.m.txs.length
section
variable {w w':World} {F:Xt} {L:List LcD} {sb st gd g k:Nat} {alv:Value} {s:SS} {asked:Bool} {b:BG} {t t':TX} {r:Int} {m':MS}
theorem aCv (h:Ue w F sb s g):∀c∈s.cls,c.na≤g+1∧c.bgs.length≤g+1:=fun c hc=>⟨tM (h.num c hc).1,tM (h.num c hc).2⟩
theorem aPj (X:ScX w w' F L (ScP sb st gd alv s.cls s.es s.es s.bg m' s.ev s.pos (g+1))) (h:Ue w F sb s g) (hm:CoM s asked k t 0 m') (ht:m'.txs[k]? =some t') (e:t'.st=2):∃s',coR s asked k b t s' false∧Uc w w' F sb s' (g+1) :=
 ⟨{s with m:=m'},⟨0,m',t',hm.rel,ht,.inl ⟨rfl,rfl,e,rfl⟩⟩,ScX.fin (s:={s with m:=m'}) X (h.b.ext hm.good hm.ext hm.len) (tM h.ev) (aCv (s:=s) h)⟩
theorem aEw (X:ScX w w' F L (ScP sb st gd alv s.cls s.es s.es (s.bg.set k ⟨b.fr,s.ev⟩) m' s.ev s.pos (g+1))) (h:Ue w F sb s g) (hm:CoM s asked k t r m') (ht:m'.txs[k]? =some t') (e:3≤t'.st) (hb:s.bg[k]? =some b) (hlt:∀(i:Nat) (b:BG),s.bg[i]? =some b→b.fr<s.ev):∃s',coR s asked k b t s' true∧Uc w w' F sb s' (g+1) :=
 ⟨{s with m:=m',bg:=s.bg.set k ⟨b.fr,s.ev⟩},⟨r,m',t',hm.rel,ht,.inr (.inl ⟨rfl,e,rfl⟩)⟩,ScX.fin (s:={s with m:=m',bg:=s.bg.set k ⟨b.fr,s.ev⟩}) X ((h.b.ext hm.good hm.ext hm.len).told hb ht e hlt) (tM h.ev) (aCv (s:=s) h)⟩
theorem bGi (X:ScX w w' F L (ScP sb st gd alv s.cls s.es s.es s.bg m' s.ev s.pos (g+1))) (h:Ue w F sb s g) (hm:CoM s asked k t r m') (ht:m'.txs[k]? =some t') (e:r≠0):∃s',coR s asked k b t s' true∧Uc w w' F sb s' (g+1) :=
 ⟨{s with m:=m'},⟨r,m',t',hm.rel,ht,.inr (.inr ⟨rfl,e,rfl⟩)⟩,ScX.fin (s:={s with m:=m'}) X (h.b.ext hm.good hm.ext hm.len) (tM h.ev) (aCv (s:=s) h)⟩
theorem aFu (h:Ue w F sb s g):CoM s true k t 0 s.m:=⟨.inl ⟨rfl,rfl,rfl⟩,h.b.gm,Ext.refl _,rfl⟩
theorem aUb (h:Ue w F sb s g) (ht:s.m.txs[k]? =some t) (hc:cmR s.m k t r m'):CoM s false k t r m':=by
 obtain⟨Ft,st,gd,alv,hx⟩:=h.x;obtain⟨g1,g2,g3,_⟩:=aPh h.b.gm ht (by have:=hx.sto.giv;have:=h.big;omega) hc;exact⟨.inr ⟨rfl,hc⟩,g1,g2,g3⟩
theorem bCv (ht:s.m.txs[k]? =some t) (hc:cmR s.m k t r m'):∃t',m'.txs[k]? =some t'∧((r=0∧(t'.st=2∨t'.st=3))∨(r≠0∧(t'.st=t.st∨t'.st=4∧t.st=1))):=by
 have hl:=Vi ht;have set_at:∀u:TX,(s.m.txs.set k u)[k]? =some u:=fun u=>by rw[rD,if_pos rfl,if_pos hl]
 rcases hc with ⟨_,rfl,rfl⟩|⟨h1,⟨_,rfl,rfl⟩|⟨_,⟨h2,_,rfl⟩|⟨rfl,rfl⟩⟩⟩
 · exact⟨t,ht,.inr ⟨by decide,.inl rfl⟩⟩
 · exact⟨_,set_at _,.inl ⟨rfl,.inr rfl⟩⟩
 · exact⟨_,set_at _,.inr ⟨h2,.inr ⟨rfl,h1⟩⟩⟩
 · exact⟨_,set_at _,.inl ⟨rfl,.inl rfl⟩⟩
end
theorem aWk {w:World} {F:Xt} {sb g:Nat} {s:SS} (h:Ue w F sb s g) (hg:g+1≤700) {j:Nat} {cl:CLD} (hj:s.cls[j]? =some cl) {k e0:Nat} {b:BG} {t:TX} (hk:s.es[k]? =some e0) (hb:s.bg[k]? =some b) (ht:s.m.txs[k]? =some t) (hlt:∀(i:Nat) (b:BG),s.bg[i]? =some b→b.fr<s.ev) (hask:cl.asked=true→t.st≠1) (op hh:Int) :
  Calls prog 174 #[.pointer (some ⟨sb,0,none⟩),.pointer (some ⟨sb,2+j*4,none⟩),.pointer (some ⟨e0,0,none⟩),.agg #[.int .i64 op,.int .i64 0,.int .i64 hh,.int .i64 0,.slice none 0 0]] w fun e w'=>∃ok,coE ok e∧∃s',coR s cl.asked k b t s' ok∧Uc w w' F sb s' (g+1):=by
 obtain⟨Ft,st,gd,alv,hx⟩:=h.x;obtain⟨g1,w1,hzw1,hw1,Bw1,bw1⟩:=Xy w 63 [.int .i64 op,.int .i64 0,.int .i64 hh,.int .i64 0,.slice none 0 0];obtain⟨g2,w2,hzw2,hw2,Bw2,bw2⟩:=Xy w1 63 [.int .i64 0,.int .i64 0,.int .i64 0,.int .i64 0,.slice none 0 0];have X2:=((ScX.of hx).push bw1 Bw1 (tO hzw1)).push bw2 Bw2 (tO hzw2);obtain⟨F2,Ft2,hx2⟩:=X2.sch;have c3:=(hx2.cl1 hj).2.2.2;have H:=nM h hg hj hk hb ht hlt hask;have hrng:=h.b.gm.rng k t ht;clear bw1 Bw1 bw2 Bw2 h hg hj hx hk hb ht hlt hx2
 cases hca:cl.asked with
 | true =>
   rw[hca] at c3;have XU:=X2.up H.o.2.1;have hla:t.st=2∨t.st=3∨t.st=4:=by have:=hask hca;omega
   clear X2 hrng hask;go_enter func174,ntmps174
   go_wp2_with fail
   obtain⟨Ftl,Ftt,hxt⟩:=XU.sch;obtain⟨Fst,gxt,mbt,gst,numt,countt,nst,-,hst⟩:=hxt.sto;have HS9:=hid hst;have HT9:=hid H.o.2.2.2.2.2.1;have HX9:=hid XU;have hbt:=hxt.beg k e0 b H.o.2.2.2.1 H.o.2.2.2.2.1;have KT:=hid (fun (w':World) (hS:nD w2 w')=>nS ((hxt.next hS).at_st) (show w'.cell? ⟨e0,0,none⟩=some (.int .i64 ((k:Int)+1)) from(hbt.next hS hbt.lt).cell (i:=0) (by simp[Vr])));clear hxt hst hbt;have Kq:=KT;refine wp_region_held_drew (S:=fun w'=>nD w2 w') (by kernel_rfl) (Xu nB) (fun nE=>?_);refine kF 0 ?_;refine kF 1 ?_;refine kF 2 ?_;refine kF 3 ?_;refine kF 4 ?_;refine kF 5 ?_;refine kF 6 ?_;refine kF 7 ?_;refine rF 8 (fun K hK=>?_);go_simp;refine(aFf (HS9.o.next nE) HT9.o).mono ?_;rintro e w9 ⟨⟨code9,rfl,-⟩,hb'⟩;have hS9:nD w2 w9:=nE.trans (hb'.mono nE.size);clear hb';go_simp;clear nE;refine hK.out _ _ hS9 (fun nE=>?_);clear hK K;try simp only[Act.put,tC,tD,tE]
   refine kF 9 ?_;refine kF 10 ?_;refine kF 11 ?_;refine kF 12 ?_;refine kF 13 ?_;refine kF 14 ?_;refine kF 15 ?_;refine wpAnyH_done (by kernel_rfl) ?_ _;clear Kq;have X9:=HX9.o.next hS9;have HS99:=hid hS9;clear hS9;obtain⟨F9,Ft9,hx9⟩:=X9.sch;have B19:Bk w9 g1 63 [.int .i64 op,.int .i64 0,.int .i64 hh,.int .i64 0,.slice none 0 0]:=X9.bkAt (i:=0) rfl;have B29:Bk w9 g2 63 [.int .i64 0,.int .i64 0,.int .i64 0,.int .i64 0,.slice none 0 0]:=X9.bkAt (i:=1) rfl;obtain⟨x0,x1,x2,x3,x4⟩:=B19.c5;have y0:=B19.free 0;have y1:=B19.free 1;have y2:=B19.free 2;have y3:=B19.free 3;have y4:=B19.free 4;obtain⟨r0,r1,r2,r3,r4⟩:=B29.c5;have p0:=B29.free 0;have p1:=B29.free 1;have p2:=B29.free 2;have p3:=B29.free 3;have p4:=B29.free 4;have v35:=hx9.at_ev;have hb9:=hx9.beg k e0 b H.o.2.2.2.1 H.o.2.2.2.2.1;have z2:w9.cell? ⟨e0,2,none⟩=some (.int .i64 (b.til:Int)):=hb9.cell (i:=2) (by simp[Vr]);have zf:=hb9.free 2;have hne1:e0≠g1:=aIs hb9 B19 (by decide);rcases(show t.st=2∨t.st=3∨t.st=4 from hla) with est|est|est
   · have es':((t.st:Int))=2:=by rw[est];rfl
     obtain⟨w10,hw10⟩:=nC (W5 w9 g2 (.int .i64 0) (.int .i64 0) (.int .i64 0) (.int .i64 0) (.slice none 0 0));have X10:=X9.set (i:=1) rfl (Vf B29 (by decide) hw10) (Vb B29 hw10);unfold W5 at hw10;have HE:=nF (show Bk w10 g2 63 [.int .i64 0,.int .i64 0,.int .i64 0,.int .i64 0,.slice none 0 0] from X10.bkAt (i:=1) rfl) (aPj (b:=b) (t:=t) X10 H.o.1 (aFu H.o.1) HT9.o est);clear X9 X10 hx9 hb9 B19 B29 hne1;go_wp2_with fail
     refine bodyPost_ret (Vu rfl _ _ _ _ (by rfl) HE.o.1) rfl ?_;exact⟨_,⟨_,_,_,_,rfl⟩,HE.o.2⟩
   · have es':((t.st:Int))=3:=by rw[est];rfl
     obtain⟨w10,hw10⟩:=nC (w9.setCell ⟨g1,3,none⟩ (.int .i64 (t.time:Int)));have B110:Bk w10 g1 63 [.int .i64 op,.int .i64 0,.int .i64 hh,.int .i64 (t.time:Int),.slice none 0 0]:=by rw[←hw10];exact B19.set 3 _
     have X10:=X9.set (i:=0) rfl (by rw[←hw10];exact(Kf.refl (fun b=>b=g1) w9).set B19 (by decide) (.inl rfl) 3 _) B110;obtain⟨F10,Ft10,hx10⟩:=X10.sch;have v36:=hx10.at_ev;have hb10:=hx10.beg k e0 b H.o.2.2.2.1 H.o.2.2.2.2.1;have z3:w10.cell? ⟨e0,2,none⟩=some (.int .i64 (b.til:Int)):=hb10.cell (i:=2) (by simp[Vr]);have zf3:=hb10.free 2;obtain⟨w11,hw11⟩:=nC (w10.setCell ⟨e0,2,none⟩ (.int .i64 (s.ev:Int)));have X11:=X10.told H.o.2.2.2.1 H.o.2.2.2.2.1 hw11.symm;have B111:Bk w11 g1 63 [.int .i64 op,.int .i64 0,.int .i64 hh,.int .i64 (t.time:Int),.slice none 0 0]:=X11.bkAt (i:=0) rfl;have B211:Bk w11 g2 63 [.int .i64 0,.int .i64 0,.int .i64 0,.int .i64 0,.slice none 0 0]:=X11.bkAt (i:=1) rfl;obtain⟨d0,d1,d2,d3,d4⟩:=B111.c5;obtain⟨t0,t1,t2,t3,t4⟩:=B211.c5;have u0:=B211.free 0;have u1:=B211.free 1;have u2:=B211.free 2;have u3:=B211.free 3;have u4:=B211.free 4;obtain⟨w12,hw12⟩:=nC (W5 w11 g2 (.int .i64 op) (.int .i64 0) (.int .i64 hh) (.int .i64 (t.time:Int)) (.slice none 0 0));have X12:=X11.set (i:=1) rfl (Vf B211 (by decide) hw12) (Vb B211 hw12);unfold W5 at hw12;have HE:=nF (show Bk w12 g2 63 [.int .i64 op,.int .i64 0,.int .i64 hh,.int .i64 (t.time:Int),.slice none 0 0] from X12.bkAt (i:=1) rfl) (aEw (t:=t) X12 H.o.1 (aFu H.o.1) HT9.o (by rw[est];decide) H.o.2.2.2.2.1 H.o.2.2.2.2.2.2.1);clear X9 X10 hx9 hb9 B19 B29 hne1 X11 X12 hx10 hb10 B110 B111 B211 r0 r1 r2 r3 r4 p0 p1 p2 p3 p4;go_wp2_with fail
     refine bodyPost_ret (Vu rfl _ _ _ _ (by rfl) HE.o.1) rfl ?_;exact⟨_,⟨_,_,_,_,rfl⟩,HE.o.2⟩
   · have es':((t.st:Int))=4:=by rw[est];rfl
     obtain⟨w10,hw10⟩:=nC (w9.setCell ⟨g1,1,none⟩ (.int .i64 code9));have B110:Bk w10 g1 63 [.int .i64 op,.int .i64 code9,.int .i64 hh,.int .i64 0,.slice none 0 0]:=by rw[←hw10];exact B19.set 1 _
     have X10:=X9.set (i:=0) rfl (by rw[←hw10];exact(Kf.refl (fun b=>b=g1) w9).set B19 (by decide) (.inl rfl) 1 _) B110;obtain⟨F10,Ft10,hx10⟩:=X10.sch;have v36:=hx10.at_ev;have hb10:=hx10.beg k e0 b H.o.2.2.2.1 H.o.2.2.2.2.1;have z3:w10.cell? ⟨e0,2,none⟩=some (.int .i64 (b.til:Int)):=hb10.cell (i:=2) (by simp[Vr]);have zf3:=hb10.free 2;obtain⟨w11,hw11⟩:=nC (w10.setCell ⟨e0,2,none⟩ (.int .i64 (s.ev:Int)));have X11:=X10.told H.o.2.2.2.1 H.o.2.2.2.2.1 hw11.symm;have B111:Bk w11 g1 63 [.int .i64 op,.int .i64 code9,.int .i64 hh,.int .i64 0,.slice none 0 0]:=X11.bkAt (i:=0) rfl;have B211:Bk w11 g2 63 [.int .i64 0,.int .i64 0,.int .i64 0,.int .i64 0,.slice none 0 0]:=X11.bkAt (i:=1) rfl;obtain⟨d0,d1,d2,d3,d4⟩:=B111.c5;obtain⟨t0,t1,t2,t3,t4⟩:=B211.c5;have u0:=B211.free 0;have u1:=B211.free 1;have u2:=B211.free 2;have u3:=B211.free 3;have u4:=B211.free 4;obtain⟨w12,hw12⟩:=nC (W5 w11 g2 (.int .i64 op) (.int .i64 code9) (.int .i64 hh) (.int .i64 0) (.slice none 0 0));have X12:=X11.set (i:=1) rfl (Vf B211 (by decide) hw12) (Vb B211 hw12);unfold W5 at hw12;have HE:=nF (show Bk w12 g2 63 [.int .i64 op,.int .i64 code9,.int .i64 hh,.int .i64 0,.slice none 0 0] from X12.bkAt (i:=1) rfl) (aEw (t:=t) X12 H.o.1 (aFu H.o.1) HT9.o (by rw[est];decide) H.o.2.2.2.2.1 H.o.2.2.2.2.2.2.1);clear X9 X10 hx9 hb9 B19 B29 hne1 X11 X12 hx10 hb10 B110 B111 B211 r0 r1 r2 r3 r4 p0 p1 p2 p3 p4;go_wp2_with fail
     refine bodyPost_ret (Vu rfl _ _ _ _ (by rfl) HE.o.1) rfl ?_;exact⟨_,⟨_,_,_,_,rfl⟩,HE.o.2⟩
 | false =>
   rw[hca] at c3;clear hrng hask;go_enter func174,ntmps174
   go_wp2_with fail
   obtain⟨F1,Ft1,hx1,hq1⟩:=X2.at_;obtain⟨Fs1,gx1,mb1,gs1,num1,count1,ns1,-,hs1⟩:=hx1.sto;have HS1:=hid hs1;have HT1:=hid H.o.2.2.2.2.2.1;have HX1:=nH X2 hx1 hq1;have hb1:=hx1.beg k e0 b H.o.2.2.2.1 H.o.2.2.2.2.1;have KT1:=hid (fun (w':World) (hS:nD w2 w')=>nS ((hx1.next hS).at_st) (show w'.cell? ⟨e0,0,none⟩=some (.int .i64 ((k:Int)+1)) from(hb1.next hS hb1.lt).cell (i:=0) (by simp[Vr])));clear hx1 hs1 hb1 hq1;have Kq:=KT1;refine wp_region_held_drew (S:=fun w'=>nD w2 w') (by kernel_rfl) (Xu nB) (fun nE=>?_);refine kF 0 ?_;refine kF 1 ?_;refine kF 2 ?_;refine kF 3 ?_;refine kF 4 ?_;refine kF 5 ?_;refine kF 6 ?_;refine kF 7 ?_;refine rF 8 (fun K hK=>?_);go_simp;refine(aFf (HS1.o.next nE) HT1.o).mono ?_;rintro e w3 ⟨⟨code1,rfl,-⟩,hb'⟩;have hS1:nD w2 w3:=nE.trans (hb'.mono nE.size);clear hb';go_simp;clear nE;refine hK.out _ _ hS1 (fun nE=>?_);clear hK K;try simp only[Act.put,tC,tD,tE]
   refine kF 9 ?_;refine kF 10 ?_;refine kF 11 ?_;refine kF 12 ?_;refine kF 13 ?_;refine kF 14 ?_;refine kF 15 ?_;refine wpAnyH_done (by kernel_rfl) ?_ _;clear Kq;have X3:=HX1.o.1.next hS1;clear hS1 c3;go_wp2_with fail
   obtain⟨F3,Ft3,hx3,hq3⟩:=X3.at_;obtain⟨Fs2,gx2,mb2,gs2,num2,count2,ns2,hgx2,hs2⟩:=hx3.sto;obtain rfl:=aCw hgx2;have HS2:=hid hs2;have HT2:=hid H.o.2.2.2.2.2.1;have HX3:=hid X3;have H2:=hid (fun (W w5:World) (hS:nD w3 W) (r:Int) (m':MS) (hc:cmR s.m k t r m') (hr:Kc W w5 (Ft3 1) st (Uj gd) s.pos m' (g+1))=>hq3 w5 s.pos m' (Kc.pre hS hr) (aUb H.o.1 H.o.2.2.2.2.2.1 hc).ext);have hb2:=hx3.beg k e0 b H.o.2.2.2.1 H.o.2.2.2.2.1;have KT2:=hid (fun (w':World) (hS:nD w3 w')=>nS ((hx3.next hS).at_st) (show w'.cell? ⟨e0,0,none⟩=some (.int .i64 ((k:Int)+1)) from(hb2.next hS hb2.lt).cell (i:=0) (by simp[Vr])));clear hx3 hq3 hs2 X3 X2;have Kq:=KT2;refine Vn (fun w'=>nD w3 w') [8,10] (by kernel_rfl) (Xu nB) (fun nE=>?_);refine kR 0 ?_;refine kR 1 ?_;refine kR 2 ?_;refine kM 3 ?_;refine kR 4 ?_;refine kR 5 ?_;refine kR 6 ?_;refine kM 7 ?_;refine rM 8 (fun K hK=>?_);go_simp;refine(aQg (HS2.o.next nE) H.o.2.1 HT2.o).mono ?_;rintro e w5 ⟨r,rfl,m',hcm,hr⟩;have HC:=nF hcm (H2.o _ w5 nE r m' hcm hr);clear hcm hr;have hB5:Bk w5 g1 63 [.int .i64 op,.int .i64 0,.int .i64 hh,.int .i64 0,.slice none 0 0]:=HC.o.2.bkAt (i:=0) rfl;have x1:=hB5.cell (i:=1) (by simp);simp only[tI,tJ] at x1;have xf:=hB5.free 1;obtain⟨w6,hw6⟩:=nC (w5.setCell ⟨g1,1,none⟩ (.int .i64 r));have H6:=hid (HC.o.2.set (i:=0) rfl (by rw[←hw6];exact(Kf.refl (fun b=>b=g1) w5).set hB5 (by decide) (.inl rfl) 1 _) (show Bk w6 g1 63 [.int .i64 op,.int .i64 r,.int .i64 hh,.int .i64 0,.slice none 0 0] by rw[←hw6];exact hB5.set 1 _));clear hB5;go_simp;refine hK.out _ _ (fun h=>absurd (by decide) h) ?_;clear hK K;try simp only[Act.put,tC,tD,tE]
   refine kR 9 ?_;refine rM 10 (fun K hK=>?_);go_simp;try rw[hw6]
   refine hK.out _ _ (fun h=>absurd (by decide) h) ?_;clear hK K;try simp only[Act.put,tC,tD,tE]
   refine Vs (by kernel_rfl) ?_ _;clear Kq;obtain⟨t',ht',hcase⟩:=bCv H.o.2.2.2.2.2.1 HC.o.1;have hm:=hid (aUb H.o.1 H.o.2.2.2.2.2.1 HC.o.1);have X6:=H6.o;have B16:Bk w6 g1 63 [.int .i64 op,.int .i64 r,.int .i64 hh,.int .i64 0,.slice none 0 0]:=X6.bkAt (i:=0) rfl;have y1:=B16.cell (i:=1) (by simp);simp only[tI,tJ] at y1;clear B16 x1 xf;rcases hcase with ⟨rfl,hs23⟩|⟨hr0,hst⟩
   · have hla:t'.st=2∨t'.st=3∨t'.st=4:=hs23.imp id .inl;have HT':=hid ht';clear hs23 ht';go_wp2_with fail
     obtain⟨Ftl,Ftt,hxt⟩:=X6.sch;obtain⟨Fst,gxt,mbt,gst,numt,countt,nst,-,hst⟩:=hxt.sto;have HS9:=hid hst;have HT9:=hid HT'.out;have HX9:=hid X6;have hbt:=hxt.beg k e0 b H.o.2.2.2.1 H.o.2.2.2.2.1;have KT:=hid (fun (w':World) (hS:nD w6 w')=>nS ((hxt.next hS).at_st) (show w'.cell? ⟨e0,0,none⟩=some (.int .i64 ((k:Int)+1)) from(hbt.next hS hbt.lt).cell (i:=0) (by simp[Vr])));clear hxt hst hbt;have Kq:=KT;refine wp_region_held_drew (S:=fun w'=>nD w6 w') (by kernel_rfl) (Xu nB) (fun nE=>?_);refine kF 0 ?_;refine kF 1 ?_;refine kF 2 ?_;refine kF 3 ?_;refine kF 4 ?_;refine kF 5 ?_;refine kF 6 ?_;refine kF 7 ?_;refine rF 8 (fun K hK=>?_);go_simp;refine(aFf (HS9.o.next nE) HT9.o).mono ?_;rintro e w9 ⟨⟨code9,rfl,-⟩,hb'⟩;have hS9:nD w6 w9:=nE.trans (hb'.mono nE.size);clear hb';go_simp;clear nE;refine hK.out _ _ hS9 (fun nE=>?_);clear hK K;try simp only[Act.put,tC,tD,tE]
     refine kF 9 ?_;refine kF 10 ?_;refine kF 11 ?_;refine kF 12 ?_;refine kF 13 ?_;refine kF 14 ?_;refine kF 15 ?_;refine wpAnyH_done (by kernel_rfl) ?_ _;clear Kq;have X9:=HX9.o.next hS9;have HS99:=hid hS9;clear hS9;obtain⟨F9,Ft9,hx9⟩:=X9.sch;have B19:Bk w9 g1 63 [.int .i64 op,.int .i64 0,.int .i64 hh,.int .i64 0,.slice none 0 0]:=X9.bkAt (i:=0) rfl;have B29:Bk w9 g2 63 [.int .i64 0,.int .i64 0,.int .i64 0,.int .i64 0,.slice none 0 0]:=X9.bkAt (i:=1) rfl;obtain⟨x0,x1,x2,x3,x4⟩:=B19.c5;have y0:=B19.free 0;have y1:=B19.free 1;have y2:=B19.free 2;have y3:=B19.free 3;have y4:=B19.free 4;obtain⟨r0,r1,r2,r3,r4⟩:=B29.c5;have p0:=B29.free 0;have p1:=B29.free 1;have p2:=B29.free 2;have p3:=B29.free 3;have p4:=B29.free 4;have v35:=hx9.at_ev;have hb9:=hx9.beg k e0 b H.o.2.2.2.1 H.o.2.2.2.2.1;have z2:w9.cell? ⟨e0,2,none⟩=some (.int .i64 (b.til:Int)):=hb9.cell (i:=2) (by simp[Vr]);have zf:=hb9.free 2;have hne1:e0≠g1:=aIs hb9 B19 (by decide);rcases(show t'.st=2∨t'.st=3∨t'.st=4 from hla) with est|est|est
     · have es':((t'.st:Int))=2:=by rw[est];rfl
       obtain⟨w10,hw10⟩:=nC (W5 w9 g2 (.int .i64 0) (.int .i64 0) (.int .i64 0) (.int .i64 0) (.slice none 0 0));have X10:=X9.set (i:=1) rfl (Vf B29 (by decide) hw10) (Vb B29 hw10);unfold W5 at hw10;have HE:=nF (show Bk w10 g2 63 [.int .i64 0,.int .i64 0,.int .i64 0,.int .i64 0,.slice none 0 0] from X10.bkAt (i:=1) rfl) (aPj (b:=b) (t:=t) X10 H.o.1 hm.out HT9.o est);clear X9 X10 hx9 hb9 B19 B29 hne1;go_wp2_with fail
       refine bodyPost_ret (Vu rfl _ _ _ _ (by rfl) HE.o.1) rfl ?_;exact⟨_,⟨_,_,_,_,rfl⟩,HE.o.2⟩
     · have es':((t'.st:Int))=3:=by rw[est];rfl
       obtain⟨w10,hw10⟩:=nC (w9.setCell ⟨g1,3,none⟩ (.int .i64 (t'.time:Int)));have B110:Bk w10 g1 63 [.int .i64 op,.int .i64 0,.int .i64 hh,.int .i64 (t'.time:Int),.slice none 0 0]:=by rw[←hw10];exact B19.set 3 _
       have X10:=X9.set (i:=0) rfl (by rw[←hw10];exact(Kf.refl (fun b=>b=g1) w9).set B19 (by decide) (.inl rfl) 3 _) B110;obtain⟨F10,Ft10,hx10⟩:=X10.sch;have v36:=hx10.at_ev;have hb10:=hx10.beg k e0 b H.o.2.2.2.1 H.o.2.2.2.2.1;have z3:w10.cell? ⟨e0,2,none⟩=some (.int .i64 (b.til:Int)):=hb10.cell (i:=2) (by simp[Vr]);have zf3:=hb10.free 2;obtain⟨w11,hw11⟩:=nC (w10.setCell ⟨e0,2,none⟩ (.int .i64 (s.ev:Int)));have X11:=X10.told H.o.2.2.2.1 H.o.2.2.2.2.1 hw11.symm;have B111:Bk w11 g1 63 [.int .i64 op,.int .i64 0,.int .i64 hh,.int .i64 (t'.time:Int),.slice none 0 0]:=X11.bkAt (i:=0) rfl;have B211:Bk w11 g2 63 [.int .i64 0,.int .i64 0,.int .i64 0,.int .i64 0,.slice none 0 0]:=X11.bkAt (i:=1) rfl;obtain⟨d0,d1,d2,d3,d4⟩:=B111.c5;obtain⟨t0,t1,t2,t3,t4⟩:=B211.c5;have u0:=B211.free 0;have u1:=B211.free 1;have u2:=B211.free 2;have u3:=B211.free 3;have u4:=B211.free 4;obtain⟨w12,hw12⟩:=nC (W5 w11 g2 (.int .i64 op) (.int .i64 0) (.int .i64 hh) (.int .i64 (t'.time:Int)) (.slice none 0 0));have X12:=X11.set (i:=1) rfl (Vf B211 (by decide) hw12) (Vb B211 hw12);unfold W5 at hw12;have HE:=nF (show Bk w12 g2 63 [.int .i64 op,.int .i64 0,.int .i64 hh,.int .i64 (t'.time:Int),.slice none 0 0] from X12.bkAt (i:=1) rfl) (aEw (t:=t) X12 H.o.1 hm.out HT9.o (by rw[est];decide) H.o.2.2.2.2.1 H.o.2.2.2.2.2.2.1);clear X9 X10 hx9 hb9 B19 B29 hne1 X11 X12 hx10 hb10 B110 B111 B211 r0 r1 r2 r3 r4 p0 p1 p2 p3 p4;go_wp2_with fail
       refine bodyPost_ret (Vu rfl _ _ _ _ (by rfl) HE.o.1) rfl ?_;exact⟨_,⟨_,_,_,_,rfl⟩,HE.o.2⟩
     · have es':((t'.st:Int))=4:=by rw[est];rfl
       obtain⟨w10,hw10⟩:=nC (w9.setCell ⟨g1,1,none⟩ (.int .i64 code9));have B110:Bk w10 g1 63 [.int .i64 op,.int .i64 code9,.int .i64 hh,.int .i64 0,.slice none 0 0]:=by rw[←hw10];exact B19.set 1 _
       have X10:=X9.set (i:=0) rfl (by rw[←hw10];exact(Kf.refl (fun b=>b=g1) w9).set B19 (by decide) (.inl rfl) 1 _) B110;obtain⟨F10,Ft10,hx10⟩:=X10.sch;have v36:=hx10.at_ev;have hb10:=hx10.beg k e0 b H.o.2.2.2.1 H.o.2.2.2.2.1;have z3:w10.cell? ⟨e0,2,none⟩=some (.int .i64 (b.til:Int)):=hb10.cell (i:=2) (by simp[Vr]);have zf3:=hb10.free 2;obtain⟨w11,hw11⟩:=nC (w10.setCell ⟨e0,2,none⟩ (.int .i64 (s.ev:Int)));have X11:=X10.told H.o.2.2.2.1 H.o.2.2.2.2.1 hw11.symm;have B111:Bk w11 g1 63 [.int .i64 op,.int .i64 code9,.int .i64 hh,.int .i64 0,.slice none 0 0]:=X11.bkAt (i:=0) rfl;have B211:Bk w11 g2 63 [.int .i64 0,.int .i64 0,.int .i64 0,.int .i64 0,.slice none 0 0]:=X11.bkAt (i:=1) rfl;obtain⟨d0,d1,d2,d3,d4⟩:=B111.c5;obtain⟨t0,t1,t2,t3,t4⟩:=B211.c5;have u0:=B211.free 0;have u1:=B211.free 1;have u2:=B211.free 2;have u3:=B211.free 3;have u4:=B211.free 4;obtain⟨w12,hw12⟩:=nC (W5 w11 g2 (.int .i64 op) (.int .i64 code9) (.int .i64 hh) (.int .i64 0) (.slice none 0 0));have X12:=X11.set (i:=1) rfl (Vf B211 (by decide) hw12) (Vb B211 hw12);unfold W5 at hw12;have HE:=nF (show Bk w12 g2 63 [.int .i64 op,.int .i64 code9,.int .i64 hh,.int .i64 0,.slice none 0 0] from X12.bkAt (i:=1) rfl) (aEw (t:=t) X12 H.o.1 hm.out HT9.o (by rw[est];decide) H.o.2.2.2.2.1 H.o.2.2.2.2.2.2.1);clear X9 X10 hx9 hb9 B19 B29 hne1 X11 X12 hx10 hb10 B110 B111 B211 r0 r1 r2 r3 r4 p0 p1 p2 p3 p4;go_wp2_with fail
       refine bodyPost_ret (Vu rfl _ _ _ _ (by rfl) HE.o.1) rfl ?_;exact⟨_,⟨_,_,_,_,rfl⟩,HE.o.2⟩
   · have HT':=hid ht';clear ht';go_wp2_with fail
     obtain⟨F5,Ft5,hx5,hq5⟩:=X6.at_;obtain⟨Fs5,gx5,mb5,gs5,num5,count5,ns5,-,hs5⟩:=hx5.sto;have HS5:=hid hs5;have HT5:=hid HT'.out;have HX5:=nH X6 hx5 hq5;have hb5:=hx5.beg k e0 b H.o.2.2.2.1 H.o.2.2.2.2.1;have KT5:=hid (fun (w':World) (hS:nD w6 w')=>nS ((hx5.next hS).at_st) (show w'.cell? ⟨e0,0,none⟩=some (.int .i64 ((k:Int)+1)) from(hb5.next hS hb5.lt).cell (i:=0) (by simp[Vr])));clear hx5 hs5 hb5 hq5;have Kq:=KT5;refine wp_region_held_drew (S:=fun w'=>nD w6 w') (by kernel_rfl) (Xu nB) (fun nE=>?_);refine kF 0 ?_;refine kF 1 ?_;refine kF 2 ?_;refine kF 3 ?_;refine kF 4 ?_;refine kF 5 ?_;refine kF 6 ?_;refine kF 7 ?_;refine rF 8 (fun K hK=>?_);go_simp;refine(aFf (HS5.o.next nE) HT5.o).mono ?_;rintro e w7 ⟨⟨code5,rfl,-⟩,hb'⟩;have hS5:nD w6 w7:=nE.trans (hb'.mono nE.size);clear hb';go_simp;clear nE;refine hK.out _ _ hS5 (fun nE=>?_);clear hK K;try simp only[Act.put,tC,tD,tE]
     refine kF 9 ?_;refine kF 10 ?_;refine kF 11 ?_;refine kF 12 ?_;refine kF 13 ?_;refine kF 14 ?_;refine kF 15 ?_;refine wpAnyH_done (by kernel_rfl) ?_ _;clear Kq;have X7:=HX5.o.1.next hS5;clear hS5 y1;rcases hst with est|⟨est4,est1⟩
     · have e1:(t'.st:Int)=(t.st:Int):=by rw[est]
       have B1:Bk w7 g1 63 [.int .i64 op,.int .i64 r,.int .i64 hh,.int .i64 0,.slice none 0 0]:=X7.bkAt (i:=0) rfl;have B2:Bk w7 g2 63 [.int .i64 0,.int .i64 0,.int .i64 0,.int .i64 0,.slice none 0 0]:=X7.bkAt (i:=1) rfl;obtain⟨d0,d1,d2,d3,d4⟩:=B1.c5;obtain⟨t0,t1,t2,t3,t4⟩:=B2.c5;have u0:=B2.free 0;have u1:=B2.free 1;have u2:=B2.free 2;have u3:=B2.free 3;have u4:=B2.free 4;obtain⟨w8,hw8⟩:=nC (W5 w7 g2 (.int .i64 op) (.int .i64 r) (.int .i64 hh) (.int .i64 0) (.slice none 0 0));have X8:=X7.set (i:=1) rfl (Vf B2 (by decide) hw8) (Vb B2 hw8);unfold W5 at hw8;have HE:=nF (show Bk w8 g2 63 [.int .i64 op,.int .i64 r,.int .i64 hh,.int .i64 0,.slice none 0 0] from X8.bkAt (i:=1) rfl) (bGi (b:=b) (t:=t) X8 H.o.1 hm.out HT'.out hr0);clear X7 X8 B1 B2;go_wp2_with fail
       refine bodyPost_ret (Vu rfl _ _ _ _ (by rfl) HE.o.1) rfl ?_;exact⟨_,⟨_,_,_,_,rfl⟩,HE.o.2⟩
     · have e1:(t'.st:Int)=4:=by rw[est4];rfl
       have e2:(t.st:Int)=1:=by rw[est1];rfl
       obtain⟨F7,Ft7,hx7⟩:=X7.sch;have v35:=hx7.at_ev;have hb7:=hx7.beg k e0 b H.o.2.2.2.1 H.o.2.2.2.2.1;have z2:w7.cell? ⟨e0,2,none⟩=some (.int .i64 (b.til:Int)):=hb7.cell (i:=2) (by simp[Vr]);have zf:=hb7.free 2;obtain⟨w8,hw8⟩:=nC (w7.setCell ⟨e0,2,none⟩ (.int .i64 (s.ev:Int)));have X8:=X7.told H.o.2.2.2.1 H.o.2.2.2.2.1 hw8.symm;have B1:Bk w8 g1 63 [.int .i64 op,.int .i64 r,.int .i64 hh,.int .i64 0,.slice none 0 0]:=X8.bkAt (i:=0) rfl;have B2:Bk w8 g2 63 [.int .i64 0,.int .i64 0,.int .i64 0,.int .i64 0,.slice none 0 0]:=X8.bkAt (i:=1) rfl;obtain⟨d0,d1,d2,d3,d4⟩:=B1.c5;obtain⟨t0,t1,t2,t3,t4⟩:=B2.c5;have u0:=B2.free 0;have u1:=B2.free 1;have u2:=B2.free 2;have u3:=B2.free 3;have u4:=B2.free 4;obtain⟨w9,hw9⟩:=nC (W5 w8 g2 (.int .i64 op) (.int .i64 r) (.int .i64 hh) (.int .i64 0) (.slice none 0 0));have X9:=X8.set (i:=1) rfl (Vf B2 (by decide) hw9) (Vb B2 hw9);unfold W5 at hw9;have HE:=nF (show Bk w9 g2 63 [.int .i64 op,.int .i64 r,.int .i64 hh,.int .i64 0,.slice none 0 0] from X9.bkAt (i:=1) rfl) (aEw (t:=t) X9 H.o.1 hm.out HT'.out (by rw[est4];decide) H.o.2.2.2.2.1 H.o.2.2.2.2.2.2.1);clear X7 X8 X9 B1 B2 hx7 hb7;go_wp2_with fail
       refine bodyPost_ret (Vu rfl _ _ _ _ (by rfl) HE.o.1) rfl ?_;exact⟨_,⟨_,_,_,_,rfl⟩,HE.o.2⟩
def abR (m:MS) (k:Nat) (t:TX) (r:Int) (m':MS):Prop:=(t.st=1∧r=0∧m'=m.put k {t with st:=4,time:=0})∨(t.st≠1∧r=5∧m'=m)
def caR (s:SS) (asked:Bool) (k:Nat) (b:BG) (t:TX) (kd:Int) (n:Nat) (ps:List Vd) (s':SS) (ok:Bool):Prop :=
 (kd=2∧ok=true∧s'=s)∨(kd=3∧ok=true∧∃r m',wrR s.m k t n ps r m'∧s'={s with m:=m'})∨(kd=4∧coR s asked k b t s' ok)∨(kd=5∧ok=true∧∃r m',abR s.m k t r m'∧(s'={s with m:=m'}∨s'={s with m:=m',bg:=s.bg.set k ⟨b.fr,s.ev⟩}))
def caE (w:World) (ok:Bool) (e:Ending):Prop:=∃(op code h t:Int) (A:Option Addr) (n c:Nat) (bs:List Int),e=.returned (.tuple #[.agg #[.int .i64 op,.int .i64 code,.int .i64 h,.int .i64 t,.slice A n c],.bool ok])∧IsY w A n c bs∧n≤1000000
def CaS (sb e0 g8:Nat) (cs bcs ocs:List Value) (w:World):Prop:=Bk w sb 85 cs∧Bk w e0 91 bcs∧Bk w g8 60 ocs
theorem aNt {w:World} {sb e0 g8 st gd k:Nat} {alv:Value} {cls:List CLD} {ev:Nat} {b:BG} {v0 v1 v2 v3 v4:Value} (h:CaS sb e0 g8 (Vm (Uj gd) st cls alv ev) (Vr k b) [v0,v1,v2,v3,v4] w) :
  w.cell? ⟨sb,1,none⟩=some (.pointer (some ⟨st,0,none⟩))∧w.cell? ⟨e0,0,none⟩=some (.int .i64 ((k:Int)+1))∧w.cell? ⟨g8,0,none⟩=some v0∧w.cell? ⟨g8,1,none⟩=some v1∧w.cell? ⟨g8,2,none⟩=some v2∧w.cell? ⟨g8,3,none⟩=some v3∧w.cell? ⟨g8,4,none⟩=some v4 :=
 ⟨Bk.at' h.1 (i:=1) rfl,h.2.1.cell (i:=0) (by simp[Vr]),aCu h.2.2⟩
theorem CaS.next {w w':World} {sb e0 g8:Nat} {cs bcs ocs:List Value} (h:CaS sb e0 g8 cs bcs ocs w) (hb:nD w w'):CaS sb e0 g8 cs bcs ocs w':=⟨h.1.next hb h.1.lt,h.2.1.next hb h.2.1.lt,h.2.2.next hb h.2.2.lt⟩
section
variable {w w':World} {F:Xt} {L:List LcD} {sb st gd g k:Nat} {alv:Value} {s:SS} {asked:Bool} {b:BG} {t:TX} {r:Int} {m':MS} {n:Nat} {ps:List Vd}
theorem aXw (X:ScX w w' F L (ScP sb st gd alv s.cls s.es s.es s.bg s.m s.ev s.pos (g+1))) (h:Ue w F sb s g):∃s',caR s asked k b t 2 n ps s' true∧Uc w w' F sb s' (g+1) :=
 ⟨s,.inl ⟨rfl,rfl,rfl⟩,X.fin h.b (tM h.ev) (aCv h)⟩
theorem aTx (X:ScX w w' F L (ScP sb st gd alv s.cls s.es s.es s.bg m' s.ev s.pos (g+1))) (h:Ue w F sb s g) (ht:s.m.txs[k]? =some t) (hw:wrR s.m k t n ps r m'):∃s',caR s asked k b t 3 n ps s' true∧Uc w w' F sb s' (g+1):=by
 obtain⟨q1,q2,q3⟩:=aQo h.b.gm ht hw;exact⟨{s with m:=m'},.inr (.inl ⟨rfl,rfl,r,m',hw,rfl⟩),ScX.fin (s:={s with m:=m'}) X (h.b.ext q1 q2 q3) (tM h.ev) (aCv (s:=s) h)⟩
theorem aPc (h:Vq s.m) (ht:s.m.txs[k]? =some t) (ha:abR s.m k t r m'):Vq m'∧Ext s.m m'∧m'.txs.length=s.m.txs.length:=by
 rcases ha with ⟨h1,_,rfl⟩|⟨_,_,rfl⟩
 · obtain⟨a,c⟩:=h.put (t':={t with st:=4,time:=0}) ht h1 rfl (h.rng k t ht).2.2 (.inr (.inl rfl));exact⟨a,c,rK⟩
 · exact⟨h,Ext.refl _,rfl⟩
theorem aQz (X:ScX w w' F L (ScP sb st gd alv s.cls s.es s.es s.bg m' s.ev s.pos (g+1))) (h:Ue w F sb s g) (ht:s.m.txs[k]? =some t) (ha:abR s.m k t r m'):∃s',caR s asked k b t 5 n ps s' true∧Uc w w' F sb s' (g+1):=by
 obtain⟨q1,q2,q3⟩:=aPc h.b.gm ht ha;exact⟨{s with m:=m'},.inr (.inr (.inr ⟨rfl,rfl,r,m',ha,.inl rfl⟩)),ScX.fin (s:={s with m:=m'}) X (h.b.ext q1 q2 q3) (tM h.ev) (aCv (s:=s) h)⟩
theorem aRa (X:ScX w w' F L (ScP sb st gd alv s.cls s.es s.es (s.bg.set k ⟨b.fr,s.ev⟩) m' s.ev s.pos (g+1))) (h:Ue w F sb s g) (ht:s.m.txs[k]? =some t) (ha:abR s.m k t 0 m') (hb:s.bg[k]? =some b) (hlt:∀(i:Nat) (b:BG),s.bg[i]? =some b→b.fr<s.ev):∃s',caR s asked k b t 5 n ps s' true∧Uc w w' F sb s' (g+1):=by
 obtain⟨q1,q2,q3⟩:=aPc h.b.gm ht ha
 have hk:m'.txs[k]? =some {t with st:=4,time:=0}:=by
  rcases ha with ⟨_,_,rfl⟩|⟨_,q,_⟩
  · show (s.m.txs.set k _)[k]? =_
    rw[rD,if_pos rfl,if_pos (Vi ht)]
  · cases q
 exact⟨{s with m:=m',bg:=s.bg.set k ⟨b.fr,s.ev⟩},.inr (.inr (.inr ⟨rfl,rfl,0,m',ha,.inr rfl⟩)),ScX.fin (s:={s with m:=m',bg:=s.bg.set k ⟨b.fr,s.ev⟩}) X ((h.b.ext q1 q2 q3).told hb hk (show 3≤4 by decide) hlt) (tM h.ev) (aCv (s:=s) h)⟩
end
theorem Ue.ag {w w':World} {F:Xt} {sb g:Nat} {s:SS} (h:Ue w F sb s g) (k:Ag F w w'):Ue w' F sb s g:=by
 obtain⟨Ft,st,gd,alv,hx⟩:=h.x;exact⟨⟨Ft,st,gd,alv,hx.ag k⟩,h.b,h.ev,h.num⟩
theorem Uc.loc {w w3 w4 w5:World} {F:Xt} {sb g:Nat} {s:SS} (hb:nD w w3) (hI:In w F) (hr:Uc w3 w4 F sb s g) {x:Nat} (hx:w.heap.size≤x∧x<w3.heap.size) (k:Kf (fun b=>b=x) w4 w5):Uc w w5 F sb s g:=by
 obtain⟨F',h1,h2,h3,h4⟩:=hr;have nx:¬F' x:=fun q=>(h3 x q).elim (fun r=>by have:=hI x r;omega) (fun r=>by omega)
 exact⟨F',h1.ag (k.ag (fun b q r=>nx (by have r:b=x:=r;exact r▸q))),((Kf.of_below (F:=F) hb).trans h2 (fun b q=>.inl q)).trans k (fun b q=>.inr (by have q:b=x:=q;rw[q];exact hx.1)),fun b q=>(h3 b q).imp id (tK hb.size),h4.next k.size⟩
theorem Uc.bk {w w3 w4:World} {F:Xt} {sb g x t:Nat} {s:SS} {cs:List Value} (hI:In w F) (hr:Uc w3 w4 F sb s g) (hx:w.heap.size≤x) (hk:Bk w3 x t cs):Bk w4 x t cs:=by
 obtain⟨F',h1,h2,h3,h4⟩:=hr;exact Bk.ag (F:=fun b=>b=x) hk (h2.ag (fun b q r=>by have q:b=x:=q;have:=hI b r;omega)) rfl
end Go.Proofs.YtdhlicgaalnmoaaGreatDoor.Tp
