/- Contracts of the program's functions, and laws on memory: a part of the proof of TopAlone. -/
import Derived.Test.YtdhlicgaalnmoaaGreatDoorZE
import GoSem.Claim
import Derived.Laws.CopyOwn
set_option linter.unusedSimpArgs false
set_option linter.unusedVariables false
namespace Go.Proofs.YtdhlicgaalnmoaaGreatDoor.Tp
open Lib (hid)
open Tryz
open Go.RowKit Go.Maps
set_option maxHeartbeats 8000000
set_option maxRecDepth 100000
def aDg (v:Value):Xt:=fun b=>v.ownBlock≠some b
structure PuS (v:Value) (F:Xt) (w w':World):Prop where
 ag:Ag (aDg v) w w'
 kf:Kf F w w'
theorem PuS.of_below {v:Value} {F:Xt} {w w':World} (h:nD w w'):PuS v F w w':=⟨.of_below h,.of_below h⟩
section
variable {w wr w9 w10 w11:World} {F:Xt} {gm bm s N n c:Nat} {last tb:Int} {f:Int→Option Value} {x T:Int} {A yA:Option Addr} {vs:List Kl} {yc:Nat} {yb:List Int} {v':Value}
theorem AtX.own_f (h:Up wr F gm bm s N last tb f) (ha:AtX wr (f x) N A n c vs) {g:Nat} (e:(Value.slice A n c).ownBlock=some g):F g∧f x=some (.slice A n c):=by
 have hv:=ha.val
 cases hf:f x with
 | none=>rw[hf] at hv;simp only[Option.getD_none] at hv;rw[←hv] at e;cases e
 | some v =>
   rw[hf] at hv;simp only[Option.getD_some] at hv;obtain⟨_,_,_,_,_,hF,_⟩:=h.row x v hf;exact⟨hF g (by rw[hv];exact e),by rw[hv]⟩
theorem PuS.grown (h:Up wr F gm bm s N last tb f) (ha:AtX wr (f x) N A n c vs) (hs:nD wr w9) (hg:w9.grownBy w10 (Value.slice A n c).ownBlock):PuS (.slice A n c) F wr w10:=by
 have ho:=Vg ha.own hs;refine⟨(Ag.of_below hs).trans (Ag.grown ho (by decide) hg (fun g e q=>q e)),(Kf.of_below hs).trans (G:=F) ((Kf.refl F w9).grown ho hg (fun g e=>.inl ⟨(AtX.own_f h ha e).1,by decide⟩)) (fun b q=>.inl q)⟩
theorem Up.bm_ne (h:Up wr F gm bm s N last tb f) (ha:AtX wr (f x) N A n c vs):aDg (.slice A n c) bm:=fun e=>by
 obtain⟨es,cl,hm⟩:=h.im.at_;obtain⟨_,_,h2⟩:=Vx ha.own e;rw[hm] at h2;cases h2
theorem Up.im10 (h:Up wr F gm bm s N last tb f) (ha:AtX wr (f x) N A n c vs) (hs:PuS (.slice A n c) F wr w10):IM w10 prog 3 bm s f:=h.im.ag (F:=aDg (.slice A n c)) hs.ag (h.bm_ne ha)
theorem Up.push (h:Up wr F gm bm s N last tb f) (hI:In wr F) (hx:0≤x∧x<258) (ha:AtX wr (f x) N A n c vs) (hb:nD wr w9) (hy:IsY w9 yA 40 yc yb) (ho:w10.ownsRow 0 266 2 v' (n+1) (vs.flatMap Kl.cells++[.int .i64 T,.slice yA 40 yc]))
  (hg:w9.grownBy w10 (Value.slice A n c).ownBlock) (hv:v'.ownBlock=(Value.slice A n c).ownBlock∨v'.ownBlock=some w9.heap.size) (hi:IM w11 prog 3 bm (Uv s (f x)) (upd f x (some v'))) (hg2:w10.grownBy w11 (some bm)) (hN:N+1≤100000) (htv:∀u∈vs,u.t≤tb) (hTb:T≤tb) :
  ∃F',Up w11 F' gm bm (Uv s (f x)) (N+1) last tb (upd f x (some v'))∧Kf F wr w11∧Sb wr F F'∧In w11 F':=by
 have hs10:=PuS.grown h ha hb hg;have i10:=h.im10 ha hs10;have k11:=aDa i10 hg2;have kall:Kf F wr w11:=hs10.kf.trans (G:=F) (k11.mono (fun b q=>by rw[q];exact h.f1)) (fun b q=>.inl q);have a11:Ag (fun b=>b≠bm) w10 w11:=k11.ag (fun b q r=>q r)
 have cells_ne:∀(W:World) (g:Nat) (cs:Array Value) (t:TypeId) (fr:Nat×Nat),IM W prog 3 bm s f→W.heap[g]? =some (.cells cs t fr)→g≠bm:=fun W g cs t fr hi hg e=>by
  obtain⟨es,cl,hm⟩:=hi.at_;rw[e,hm] at hg;cases hg
 have y11:∀{B:Option Addr} {m d:Nat} {bs:List Int},IsY wr B m d bs→IsY w11 B m d bs:=fun q=>(q.ag (F:=fun _=>False) (hs10.kf.ag (fun _ q=>q.elim))).ag (F:=fun _=>False) (k11.ag (fun _ q=>q.elim))
 have hgm:Bk w11 gm 242 [.int .i64 258,.map (some bm),.int .i64 last]:=by
  have h1:Bk w10 gm 242 _:=Bk.ag h.bx hs10.ag (fun e=>Vc ha.own h.bx (by decide) e);exact Bk.ag h1 a11 (cells_ne w10 gm _ _ _ i10 h1)
 have own':∃g,v'.ownBlock=some g:=by
  rcases ho.2 with ⟨_,h0⟩|⟨g,cap,cur,e,_⟩
  · omega
  · exact⟨g,by rw[e];rfl⟩
 obtain⟨gv,hgv⟩:=own'
 have row_lt:∀y u,f y=some u→∀g,u.ownBlock=some g→g<wr.heap.size:=fun y u hu g e=>by
  obtain⟨_,_,_,_,_,hF,_⟩:=h.row y u hu;exact hI g (hF g e)
 have apart:∀y u,y≠x→f y=some u→u.ownBlock≠v'.ownBlock∧∀g,u.ownBlock=some g→aDg (.slice A n c) g:=fun y u hn hu=>by
  have a1:∀g,u.ownBlock=some g→aDg (.slice A n c) g:=fun g e q=>by
   obtain⟨_,hfx⟩:=AtX.own_f h ha q;exact h.dj y x u _ hn hu hfx (e.trans q.symm)
  refine⟨fun e=>?_,a1⟩;rcases hv with hv|hv
  · rw[hv] at e hgv;exact a1 gv (e.trans hgv) hgv
  · have:=row_lt y u hu _ (e.trans hv);have:=hb.size;omega
 have hF'gv:Sb wr F (orF F (fun b=>v'.ownBlock=some b)):=fun b q=>q.elim .inl (fun e=>by
  rcases hv with hv|hv
  · rw[hv] at e;exact .inl (AtX.own_f h ha e).1
  · rw[hv] at e;injection e with e;have:=hb.size;exact .inr (by omega))
 refine⟨orF F (fun b=>v'.ownBlock=some b),⟨hgm,hi,fun y v hyv=>?_,fun y z v u hn hyv hzu=>?_,fun y hy=>?_,h.pos,hN,.inl h.f0,.inl h.f1⟩,kall,hF'gv,fun b q=>?_⟩
 · by_cases e:y=x
   · subst e;rw[aAj] at hyv;injection hyv with hyv;subst hyv;refine⟨vs++[⟨T,yA,yc,yb⟩],by simp,by rw[rH,ha.len];simp;exact ha.le,?_,fun u hu=>?_,fun g e=>.inr e,fun u hu=>(rE.1 hu).elim (htv u) (fun q=>by obtain rfl:u=_:=List.mem_singleton.1 q;exact hTb)⟩
     · rw[rH,ha.len,rX];have h1:=Vj ho a11 (fun g e=>by obtain⟨_,_,hh⟩:=Vx ho e;exact cells_ne w10 g _ _ _ i10 hh);simpa [Kl.cells] using h1
     · rcases rE.1 hu with q|q
       · exact y11 (ha.y u q)
       · obtain rfl:u=_:=by simpa using q
         exact(hy.ag (F:=fun _=>False) (((Kf.refl F w9).grown (Vg ha.own hb) hg (fun g e=>.inl ⟨(AtX.own_f h ha e).1,by decide⟩)).ag (fun _ q=>q.elim))).ag (F:=fun _=>False) (k11.ag (fun _ q=>q.elim))
   · rw[aAd _ _ e] at hyv;obtain⟨us,h1,h2,h3,h4,h5,h5t⟩:=h.row y v hyv;have h6:=Vj h3 hs10.ag ((apart y v e hyv).2);exact⟨us,h1,tM h2,Vj h6 a11 (fun g e=>by obtain⟨_,_,hh⟩:=Vx h6 e;exact cells_ne w10 g _ _ _ i10 hh),fun u hu=>y11 (h4 u hu),fun g e=>.inl (h5 g e),h5t⟩
 · by_cases e1:y=x<;>by_cases e2:z=x
   · exact absurd (e1.trans e2.symm) hn
   · subst e1;rw[aAj] at hyv;rw[aAd _ _ e2] at hzu;injection hyv with hyv;subst hyv;exact fun e=>(apart z u e2 hzu).1 e.symm
   · subst e2;rw[aAj] at hzu;rw[aAd _ _ e1] at hyv;injection hzu with hzu;subst hzu;exact(apart y v e1 hyv).1
   · rw[aAd _ _ e1] at hyv;rw[aAd _ _ e2] at hzu;exact h.dj y z v u hn hyv hzu
 · unfold upd at hy;split at hy
   · next e=>rw[e];exact hx
   · exact h.rng y hy
 · rcases q with q|q
   · exact tL (hI b q) kall.size
   · obtain⟨_,_,hh⟩:=Vx ho q;exact tL (Vz hh) k11.size
end
theorem aVy (A:Option Addr) (n c:Nat) (ps:List Vd) (w:World) (h:Uh w A n c ps) (hup:∀j,(hj:j+1<ps.length)→ps[j].lba<ps[j+1].lba) (hn1:1≤n∧n≤258) :
  Calls prog 169 #[.slice A n c] w fun e w'=>e=.returned (.bool true)∧∃q,w'=w.drewN q:=by
 have hl:=h.len;have HU:=hid hup;clear hup;go_enter func169,ntmps169
 go_wp2_with fail
 go_loopw [3] (fun iv wr=>∃j q:Nat,j+1≤n∧iv=.int .i64 ((j:Int)+1)∧wr=w.drewN q) (fun iv _=>n - (intOf iv).toNat)
 case atStart=>exact⟨0,0,hn1.1,rfl,rfl⟩
 case round =>
  obtain⟨j,q,hj,rfl,rfl⟩:=hrel;by_cases hjl:j+1<n
  · obtain⟨x,hx⟩:∃p,ps[j]'(by omega)=p:=⟨_,rfl⟩
    obtain⟨y,hy⟩:=nC (ps[j+1]'(by omega));obtain⟨ad,rfl,had,e0,_⟩:=Vk Vy h.rd (k:=j) (by omega) (u:=.int .i64 x.lba) (v:=.slice x.A x.n x.c) (by rw[hx];rfl)
    have e1:w.cell? (ad.add ((j+1)*2))=some (.int .i64 y.lba):=by
     obtain⟨ad2,e,_,cc,_⟩:=Vk Vy h.rd (k:=j+1) (by omega) (u:=.int .i64 y.lba) (v:=.slice y.A y.n y.c) (by rw[hy];rfl);injection e with e;subst e;exact cc
    have hxy:x.lba<y.lba:=by rw[←hx,←hy];exact HU.o j (by omega)
    have t4:decide (y.lba≤x.lba)=false:=rY (by omega);have n2:(j:Int)+1<(n:Int):=by omega
    have n3:(0:Int)≤(j:Int):=by omega
    have n4:(j:Int)<(n:Int):=by omega
    have n5:(0:Int)≤(j:Int)+1:=by omega
    have wj:IntKind.i64.wrap (j:Int)=j:=IntWalk.i64_in _ (by omega);have wj1:IntKind.i64.wrap ((j:Int)+1)=j+1:=IntWalk.i64_in _ (by omega);clear hx hy;go_wp2_with fail
    go_quiet (fail)
    go_wp2_with fail
    go_roundw
    case rel=>exact⟨j+1,_,by omega,by go_num,by first|rfl|(simp only[World.drewN_drewN];rfl)⟩
    case measure=>simp[intOf];omega
  · have hjn:j+1=n:=by omega
    have n2:¬((j:Int)+1<(n:Int)):=by omega
    have n6:(0:Int)<(n:Int):=by omega
    have t6:decide ((0:Int)<(n:Int))=true:=rZ n6;have t7:decide (0<n)=true:=rZ (by omega);go_wp2_with fail
    go_ret;exact⟨rfl,_,rfl⟩
theorem aXm (x:Vd) (w:World) :
  Calls prog 171 #[.agg #[.int .i64 x.lba,.slice x.A x.n x.c]] w fun e w'=>e=.returned (.bool (aMa x))∧nD w w':=by
 obtain⟨w5,hw5⟩:=nC (w.alloc (.cells #[.int .i64 x.lba,.slice x.A x.n x.c] 50));have hB5:Bk w5 w.heap.size 50 [.int .i64 x.lba,.slice x.A x.n x.c]:=by rw[←hw5];exact Bk.new w _ _
 have hb5:nD w w5:=by rw[←hw5];exact nB.alloc lR _
 obtain⟨d0,d1⟩:=hB5.c2;go_enter func171,ntmps171
 go_wp2_with fail
 go_ret;exact⟨rfl,hb5⟩
theorem Up.setLast {w:World} {F:Xt} {gm bm s N:Nat} {last T:Int} {f:Int→Option Value} (h:Up w F gm bm s N last T f) (hT:0≤T):Up (w.setCell ⟨gm,2,none⟩ (.int .i64 T)) F gm bm s N T T f∧Kf F w (w.setCell ⟨gm,2,none⟩ (.int .i64 T)):=by
 have k:Kf (fun b=>b=gm) w (w.setCell ⟨gm,2,none⟩ (.int .i64 T)):=(Kf.refl (fun b=>b=gm) w).set h.bx (by decide) (.inl rfl) 2 _;have a:Ag (fun b=>b≠gm) w (w.setCell ⟨gm,2,none⟩ (.int .i64 T)):=k.ag (fun b q r=>q r)
 have hne:bm≠gm:=fun e=>by
  obtain⟨es,cl,hm⟩:=h.im.at_;have h1:=h.bx;unfold Bk at h1;rw[←e,hm] at h1;cases h1
 refine⟨⟨by have:=h.bx.set 2 (.int .i64 T);simpa using this,h.im.ag a hne,fun x v e=>?_,h.dj,h.rng,hT,h.big,h.f0,h.f1⟩,k.mono (fun b q=>by rw[q];exact h.f0)⟩;obtain⟨vs,h1,h2,h3,h4,h5,h6⟩:=h.row x v e;exact⟨vs,h1,h2,Vj h3 a (fun g q r=>Vc h3 h.bx (by decide) (r▸q)),fun u hu=>(h4 u hu).ag a,h5,h6⟩
structure OkL (T:Int) (n:Nat) (ps:List Vd):Prop where
 time:1≤T∧T≤1000
 n:1≤n∧n≤258
 up:∀j,(hj:j+1<ps.length)→ps[j].lba<ps[j+1].lba
 ps:∀p∈ps,0≤p.lba∧p.lba<258∧p.n=40
def aTj (w:World) (F:Xt) (gm N n:Nat) (last T:Int) (w':World):Prop:=∃F' last',Kn w' F' gm (N+n) last'∧(last'=last∨last'=T)∧Kf F w w'∧Sb w F F'∧In w' F'
theorem aVc:(prog.info? 266).map (fun i=>(i.size,i.bytes,i.zero.map (·.cells.size)))=some (2,32,some 2):=by kernel_rfl
theorem aPt:∃i z,prog.info? 266=some i∧i.zero=some z∧i.size=2∧i.bytes=32∧z.cells.size=2:=by
 have h:=aVc
 cases hi:prog.info? 266 with
 | none=>rw[hi] at h;cases h
 | some i =>
   rw[hi] at h;simp at h
   obtain⟨h1,h2,z,hz,h3⟩:=h;exact⟨i,z,rfl,hz,h1,h2,h3⟩
theorem aIr (F:Xt) (gm N n c:Nat) (last T:Int) (A:Option Addr) (ps:List Vd) (w:World) (h:Kn w F gm N last) (hI:In w F) (hN:N+n≤100000) (hp:Uh w A n c ps) (hok:OkL T n ps) (hAF:∀ad,A=some ad→¬F ad.block) :
  Calls prog 113 #[.pointer (some ⟨gm,0,none⟩),.agg #[.int .i64 T,.slice A n c]] w fun e w'=>(∃r:Int,e=.returned (.int .i64 r)∧(last<T→r=0))∧aTj w F gm N n last T w':=by
 obtain⟨bm,s,f,hX,hE⟩:=h;obtain⟨xi,xz,hxi,hxz,hx5,hx56,hxc⟩:=aPt;have hl:=hp.len;have hn1:1≤n∧n≤258:=hok.n;have hT:1≤T∧T≤1000:=hok.time;have HOK:=hid hok;have HP:=hid hp;have HX:=nH hX hE hI;have same:∀w',nD w w'→aTj w F gm N n last T w':=fun w' hb=>⟨F,last,⟨bm,s,f,(hX.ag (.of_below hb)).mono (by omega) hN,hE⟩,.inl rfl,.of_below hb,.refl _ _,hI.next hb.size⟩
 have HS:=hid same;obtain⟨w5,hw5⟩:=nC (w.alloc (.cells #[.int .i64 T,.slice A n c] 196));have hB5:Bk w5 w.heap.size 196 [.int .i64 T,.slice A n c]:=by rw[←hw5];exact Bk.new w _ _
 have hb5:nD w w5:=by rw[←hw5];exact nB.alloc lR _
 obtain⟨d0,d1⟩:=hB5.c2;have HB5:=nF hB5 hb5;have hX5:=hX.ag (.of_below hb5);have hgo:=aDw gm _ last w5 hX5.bx;obtain⟨c0,c1,c2⟩:=hX5.bx.c3;have hri:=fun W (hb:nD w W)=>aVy A n c ps W (hp.next hb) hok.up hn1
 clear hX hE same hp hok hB5 hX5;have t1:decide (1099511627776<T)=false:=rY (by omega);go_enter func113,ntmps113
 go_wp2_with fail
 refine hgo.mono ?_;rintro e w' ⟨rfl,rfl⟩;clear hgo;by_cases hle:T≤last
 · have t0:decide (T≤last)=true:=rZ hle;have HLE:=hid hle;clear hle hri;go_wp2_with fail
   go_quiet (fail)
   go_wp2_with fail
   go_ret;exact⟨⟨_,rfl,fun q=>absurd q (by have:=HLE.o;omega)⟩,HS.o _ (HB5.o.2.trans (Vw nB _))⟩
 · have t0:decide (T≤last)=false:=rY hle;go_wp2_with fail
   go_quiet (fail)
   obtain⟨w1,hw1⟩:=nC (w5.drewN nq);have hb1:nD w5 w1:=by rw[←hw1];exact Vw nB _
   rw[hw1];have HB1:=nF (HB5.o.2.trans (hb1.mono HB5.o.2.size)) (HB5.o.1.next hb1 HB5.o.1.lt);have hr1:=hri w1 HB1.o.1;clear hri hb1 hw1 c0 c1 c2 d0 d1 hb5;obtain⟨d0,d1⟩:=HB1.o.2.c2;go_wp2_with fail
   refine hr1.mono ?_;rintro e w' ⟨rfl,q,rfl⟩;obtain⟨w2,hw2⟩:=nC (w1.drewN q);have hb2:nD w1 w2:=by rw[←hw2];exact Vw nB _
   rw[hw2];have HB2:=nF (HB1.o.1.trans (hb2.mono HB1.o.1.size)) (HB1.o.2.next hb2 HB1.o.2.lt);clear hr1 hb2 hw2 d0 d1;obtain⟨d0,d1⟩:=HB2.o.2.c2;have hp2:=HP.o.next HB2.o.1;obtain⟨p,rfl⟩:∃p,n=p+1:=⟨n - 1,by omega⟩
   obtain⟨x0,hx0⟩:=nC (ps[0]'(by omega));obtain⟨xp,hxp⟩:=nC (ps[p]'(by omega));obtain⟨ad,rfl,had,e0,_⟩:=Vk Vy hp2.rd (k:=0) (by omega) (u:=.int .i64 x0.lba) (v:=.slice x0.A x0.n x0.c) (by rw[hx0];rfl)
   have e1:w2.cell? (ad.add (p*2))=some (.int .i64 xp.lba):=by
    obtain⟨ad2,e,_,cc,_⟩:=Vk Vy hp2.rd (k:=p) (by omega) (u:=.int .i64 xp.lba) (v:=.slice xp.A xp.n xp.c) (by rw[hxp];rfl);injection e with e;subst e;exact cc
   have e0:w2.cell? ad=some (.int .i64 x0.lba):=by simpa [Addr.add] using e0
   have hX2:=HX.o.1.ag (.of_below HB2.o.1);have r0:=HOK.o.ps x0 (by rw[←hx0];exact rC _);have rp:=HOK.o.ps xp (by rw[←hxp];exact rC _);have hb0:=aEp gm (.map (some bm)) last x0.lba w2 hX2.bx ⟨r0.1,r0.2.1⟩;have hbp:=aEp gm (.map (some bm)) last xp.lba w2 hX2.bx ⟨rp.1,rp.2.1⟩;have hcf:=aCd (some ad) (p+1) c ps 171 #[] aMa w2 hp2 (enters_of func171 (by kernel_rfl) rfl) (fun y _ w' _=>aXm y w');have n0:(0:Int)<(p:Int)+1:=by omega
   have n1:(0:Int)≤(p:Int):=by omega
   have n2:(p:Int)<(p:Int)+1:=by omega
   have w0:wrap64 ((p:Int)+1 - 1)=(p:Int):=by unfold wrap64;omega
   have HN40:=hid (show ∀y∈ps,0≤y.lba∧y.lba<258∧y.n=40 from HOK.o.ps);clear hp2 hX2 r0 rp hx0 hxp;go_wp2_with fail
   refine hb0.mono ?_;rintro e w' ⟨rfl,rfl⟩;clear hb0;go_wp2_with fail
   refine hbp.mono ?_;rintro e w' ⟨rfl,rfl⟩;clear hbp;go_wp2_with fail
   refine hcf.mono ?_;rintro e w3 ⟨⟨r3,rfl,hr3⟩,hb3⟩
   obtain rfl:r3=false:=by
    cases r3 with
    | false=>rfl
    | true =>
      obtain⟨y,hy,hb⟩:=hr3.1 rfl;have:=(HN40.o y hy).2.2;simp[aMa,this] at hb
   have HB3:=nF (HB2.o.1.trans (hb3.mono HB2.o.1.size)) (HB2.o.2.next hb3 HB2.o.2.lt);clear hcf hr3 hb3 e0 e1 d0 d1;obtain⟨d0,d1⟩:=HB3.o.2.c2;have HX3:=nF (HX.o.1.ag (.of_below HB3.o.1)) (HX.o.2.2.next HB3.o.1.size);have HNF:=hid (show ¬F w.heap.size from fun q=>by have:=HX.o.2.2 _ q;omega);have HRd:=hid (HP.o.next HB3.o.1).rd;have HYs:=hid (fun y hy=>((HP.o.y y hy).ag (F:=fun _=>True) (.of_below HB3.o.1)));have hadF:=hAF ad rfl;go_wp2_with fail
   go_loopw [58] (fun iv wr=>∃k sk:Nat,k≤p+1∧iv=.int .i64 (k:Int)∧∃fk Fk,Hid (Up wr Fk gm bm sk (N+k) last T fk∧Kf F w3 wr∧Sb w3 F Fk∧In wr Fk)) (fun iv _=>p+1 - (intOf iv).toNat)
   case atStart=>exact⟨0,s,zL,rfl,f,F,HX3.o.1.raise (by omega),.refl _ _,.refl _ _,HX3.o.2⟩
   case round =>
    clear d0 d1 n0 n1 n2 w0;obtain⟨k,sk,hk,rfl,fk,Fk,HL⟩:=hrel;by_cases hlt:k<p+1
    · have agw:Ag (fun b=>¬F b) w3 wr:=HL.o.2.1.ag (fun b q r=>q r);obtain⟨x,hpx⟩:=nC (ps[k]'(by omega));have hmx:x∈ps:=by rw[←hpx];exact rC _
      obtain⟨adx,eAx,hadx,e0,e1⟩:=Vk Vy (Rd.ag HRd.o agw (fun a e=>by injection e with e;rw[←e];exact hadF)) (k:=k) (by omega) (u:=.int .i64 x.lba) (v:=.slice x.A x.n x.c) (by rw[hpx];rfl);injection eAx with eAx;subst eAx;have hxr:=HN40.o x hmx;have hxy:=(HYs.o x hmx).ag (F:=fun b=>¬F b) agw;have btx:=Bk.ag (F:=fun b=>¬F b) HB3.o.2 agw HNF.o;obtain⟨xl,xA,xn,xc,xb⟩:=x;simp only at hxr hxy e0 e1
      obtain⟨hx0,hx1,rfl⟩:=hxr;have hxw:Un xl:=aDt (by omega) (by omega);have n0:(k:Int)<((p+1:Nat):Int):=by omega
      have n0':(k:Int)<(p:Int)+1:=by omega
      have n1:(0:Int)≤(k:Int):=by omega
      clear hpx hmx;obtain⟨w6,hw6⟩:=nC (wr.alloc (.cells #[.int .i64 xl,.slice xA 40 xc] 50));have hB6:Bk w6 wr.heap.size 50 [.int .i64 xl,.slice xA 40 xc]:=by rw[←hw6];exact Bk.new wr _ _
      have hb6:nD wr w6:=by rw[←hw6];exact nB.alloc lR _
      obtain⟨d0,d1⟩:=hB6.c2;have hX6:=HL.o.1.ag (.of_below hb6);obtain⟨rA,m,rc,vs,ha,hat⟩:=hX6.att xl;have hav:=ha.val;have bt6:=btx.next hb6 btx.lt
      have KK:=hid (fun (w':World) (hS:PuS (.slice rA m rc) Fk w6 w')=>(show w'.cell? ⟨gm,1,none⟩=some (.map (some bm))∧w'.cell? ⟨wr.heap.size,0,none⟩=some (.int .i64 xl)∧w'.cell? ⟨wr.heap.size,1,none⟩=some (.slice xA 40 xc)∧w'.cell? ⟨w.heap.size,0,none⟩=some (.int .i64 T)∧
        (Instr.lookup 240 (.map (some bm)) (.int .i64 xl) false).run prog w'=.ok (.slice rA m rc) w' from
       ⟨(Bk.ag hX6.bx hS.ag (fun e=>Vc ha.own hX6.bx (by decide) e)).cell (i:=1) (by simp),(Bk.ag hB6 hS.ag (fun e=>Vc ha.own hB6 (by decide) e)).cell (i:=0) (by simp),(Bk.ag hB6 hS.ag (fun e=>Vc ha.own hB6 (by decide) e)).cell (i:=1) (by simp),
        (Bk.ag bt6 hS.ag (fun e=>Vc ha.own bt6 (by decide) e)).cell (i:=0) (by simp),by rw[(hX6.im10 ha hS).look Uy Ug aEf (bCe w') hxw,hav]⟩))
      have HA:=nI hX6 ha hb6 (hxy.ag (F:=fun _=>True) (.of_below hb6));have HAT:=hid hat;have hmN:m≤100000:=tK ha.le hX6.big;clear hB6 hX6 ha hat hav bt6 btx hb6 hxy d0 d1 agw;go_wp2_with fail
      have Kq:=KK;refine aAn (PuS (.slice rA m rc) Fk w6) 21 (by kernel_rfl) (PuS.of_below (Xu nB)) (fun nE=>?_);refine kL 0 ?_;refine kL 1 ?_;refine kL 2 ?_;refine kL 3 ?_;refine kL 4 ?_;refine kL 5 ?_;refine kL 6 ?_;refine kL 7 ?_;refine kL 8 ?_;refine kL 9 ?_;refine kL 10 ?_;refine kL 11 ?_;refine kL 12 ?_;refine kL 13 ?_;refine kL 14 ?_;refine kL 15 ?_;refine kL 16 ?_;refine rL 17 (fun K hK=>?_);go_simp;refine(aAh xA 40 xc 0 (xb.map (Value.int .u8)) _ (by rw[rU];exact HA.o.2.2.2.b.len) (HA.o.2.2.2.ag (F:=fun _=>False) (.of_below (Xu nB))).b.rd Ui (by omega) zL).mono ?_;rintro e w8 ⟨⟨vc,rfl,hvc⟩,hb8⟩;have hB8:nD w6 w8:=(Xu nB).trans hb8;obtain⟨yA,yc,rfl⟩:=Xs hvc;have HY8:=hid (aTw HA.o.2.2.2 hvc);clear hvc hb8;go_simp;refine hK.out _ _ (fun _=>PuS.of_below (v:=.slice rA m rc) (F:=Fk) hB8) ?_;clear hK K nE;have nE:=PuS.of_below (v:=.slice rA m rc) (F:=Fk) hB8;try simp only[Act.put,tC,tD,tE]
      refine kL 18 ?_;refine rL 19 (fun K hK=>?_);go_simp;refine hK.out _ _ (fun _=>PuS.of_below (v:=.slice rA m rc) (F:=Fk) (hB8.alloc hB8.size (.cells #[.int .i64 T,.slice yA 40 yc] 266))) ?_;clear hK K nE;have nE:=PuS.of_below (v:=.slice rA m rc) (F:=Fk) (hB8.alloc hB8.size (.cells #[.int .i64 T,.slice yA 40 yc] 266));try simp only[Act.put,tC,tD,tE]
      refine rL 20 (fun K hK=>?_);obtain⟨w9,hw9⟩:=nC (w8.alloc (.cells #[.int .i64 T,.slice yA 40 yc] 266));have hB9:nD w6 w9:=by rw[←hw9];exact hB8.alloc hB8.size _
      have hk9:Bk w9 w8.heap.size 266 [.int .i64 T,.slice yA 40 yc]:=by rw[←hw9];exact Bk.new w8 _ _
      have hb89:nD w8 w9:=by rw[←hw9];exact(Below.refl w8.heap.size w8).alloc lR _
      have HY9:=hid (HY8.o.ag (F:=fun _=>True) (.of_below hb89));rw[hw9];refine aAf rfl (aAw w9 _ _ 264 rfl 0 266 xi xz 2 32 underlying264 hxi hxz hx5 hx56 hxc (by omega) (.slice rA m rc) m (vs.flatMap Kl.cells) (by rfl) (Vg HA.o.2.1.own hB9) w9.heap.size (some ⟨w8.heap.size,0,none⟩) 1 1 [.int .i64 T,.slice yA 40 yc] (by rfl) rfl hk9.rd (by intro u hu;simp at hu;rcases hu with rfl|rfl<;>rfl) (by omega) (by omega) zL ?_);intro fS w10 hO10 hG10 hv10;have hS10:=PuS.grown HA.o.1 HA.o.2.1 hB9 hG10;have HO10:=nH hO10 hG10 hv10;have HB9:=hid hB9;clear hO10 hG10 hv10 hB9 hk9 hb89;refine hK.out _ _ (fun _=>hS10) ?_;clear hK K nE;have nE:=hS10;try simp only[Act.put,tC,tD,tE]
      refine rL 21 (fun K hK=>?_);refine aAf rfl (aDc _ _ _ _ 240 rfl 3 264 Uy Ug aEf bm sk fk (by rfl) (HA.o.1.im10 HA.o.2.1 nE) (tK HA.o.1.size (by omega)) xl fS (by rfl) (by rfl) hxw ?_);intro w11 hI11 hG11;have HE:=hid (HA.o.1.push (HL.o.2.2.2.next HA.o.2.2.1.size) ⟨hx0,hx1⟩ HA.o.2.1 HB9.o HY9.o HO10.o.1 HO10.o.2.1 HO10.o.2.2 hI11 hG11 (by omega) HAT.o (Int.le_refl _));clear hI11 hG11;refine hK.out _ _ (fun h=>absurd rfl h) ?_;clear hK K;try simp only[Act.put,tC,tD,tE]
      refine aAz (by kernel_rfl) ?_ _;clear Kq;go_wp2_with fail
      obtain⟨F2,hX2,hk2,hs2,hi2⟩:=HE.o
      have HE2:=hid (show Up w11 F2 gm bm (Uv sk (fk xl)) (N+(k+1)) last T (upd fk xl (some fS))∧Kf F w3 w11∧Sb w3 F F2∧In w11 F2 from
       ⟨hX2,HL.o.2.1.trans ((Kf.of_below (F:=Fk) HA.o.2.2.1).trans (G:=Fk) hk2 (fun b q=>.inl q)) HL.o.2.2.1,HL.o.2.2.1.trans (w:=wr) (fun b q=>(hs2 b q).imp id (fun r=>tK HA.o.2.2.1.size r)) HL.o.2.1.size,hi2⟩)
      clear hX2 hk2 hs2 hi2;go_roundw
      case rel=>exact⟨k+1,_,by omega,by go_num,_,F2,HE2.o⟩
      case measure=>simp[intOf];omega
    · obtain rfl:k=p+1:=by omega
      have n0:¬((p+1:Nat):Int)<((p+1:Nat):Int):=by omega
      have n0':¬(p:Int)+1<(p:Int)+1:=by omega
      have agw:Ag (fun b=>¬F b) w3 wr:=HL.o.2.1.ag (fun b q r=>q r);have btx:=Bk.ag (F:=fun b=>¬F b) HB3.o.2 agw HNF.o;have d0:=btx.cell (i:=0) (by simp);simp only[tI] at d0;obtain⟨c0,c1,c2⟩:=HL.o.1.bx.c3;have f2:=HL.o.1.bx.free 2;have HE:=hid (HL.o.1.setLast (by omega));have HKF:=nF ((Kf.of_below (F:=F) HB3.o.1).trans (G:=F) HL.o.2.1 (fun b q=>.inl q)) (Sb.trans (F:=F) (F':=F) (.refl w F) HL.o.2.2.1 HB3.o.1.size);clear btx agw;go_wp2_with fail
      go_ret;refine⟨by first|exact⟨_,rfl,fun _=>rfl⟩|exact rfl,Fk,T,⟨bm,sk,fk,(HE.o.1).mono (by omega) hN,fun e=>by omega⟩,.inr rfl,HKF.o.1.trans (G:=Fk) HE.o.2 (fun b q=>HKF.o.2 b q),HKF.o.2,fun b q=>?_⟩;have:=HL.o.2.2.2 b q;simpa using this
theorem OkT.okL {T:Int} {A:Option Addr} {n c:Nat} {ps:List Vd} (h:OkT ⟨T,A,n,c,ps⟩):OkL T n ps:=⟨h.time,⟨h.n.1,tK h.n.2 (by decide)⟩,h.up,h.ps⟩
section
open Go.RowKit Go.Maps Go.ChangeMaps Go.MapKept
open Go.WideElems (Fit rd rg pl rd_key rd_val rg_of rd_mk other_key)
theorem aTp {l:List MapEntry} {j:Nat} {e0 e':MapEntry} (h:l[j]? =some e0) (hb:e'.born=e0.born) (q:Nat→Bool):((l.set j e').filter fun e=>q e.born).length=(l.filter fun e=>q e.born).length:=by
 have key:∀l:List MapEntry,(l.filter fun e=>q e.born).length=((l.map (·.born)).filter q).length:=fun l=>by
  induction l with
  | nil=>rfl
  | cons a l ih=>simp only[List.filter_cons,List.map_cons];split<;>simp[ih]
 rw[key,key,List.map_set,hb];congr 2
 apply List.ext_getElem?;intro i;rw[rD];split
 · next e =>
   subst e;split
   · rw[rW,h];rfl
   · next h2=>rw[List.getElem?_eq_none (by omega)]
 · rfl
theorem IR.over {w:World} {P:Program} {k t e:TypeId} {b r s cnt:Nat} {f:Int→Option Value} {left:Lit→Bool} (h:IR w P k b r s f left cnt) (K:Keyed P k) (hk:P.underlying k=some (.int .i64)) (ht:P.underlying t=some (.map k e)) {x:Int} (hx:Un x) {v0:Value} (hf:f x=some v0) (v:Value) (hs:s≤1000000) :
  ∃w',(Instr.mapUpdate t (.map (some b)) (.int .i64 x) v).run P w=.ok () w'∧IR w' P k b r s (upd f x (some v)) left cnt∧w.grownBy w' (some b):=by
 have hne:r≠b:=by obtain⟨D,h,_⟩:=h;exact h.ne
 have hIM:=h.im;obtain⟨D,hR,hsz,hat⟩:=h;have hown:=hR.owns;obtain⟨es,cl,si,se,c0,hb,F,hle,hD,hr,hold,hcnt,hl1,hl2,hsc,hsk⟩:=hR;have hkey:=aLy hk hx;have hhas:Maps.has D (.int .i64 x)=true:=Maps.has_true_of_atKey (y:=.held v0) (fun z=>by rw[hat x hx,hf];rfl);obtain⟨w2,hrun2,hput2,hg2⟩:=hown.update K ht (by simp only[maxLen];omega) hkey (val:=v) (d:=.held v) (ps:=[]) rfl;have hIM2:=IMd.put (w:=w) (b:=b) (s:=s) (D:=D) (f:=f) ⟨hown,hsz,hat⟩ K hk hx v hput2;rw[hf] at hIM2;obtain⟨es1,cl1,hrun1,F1,hput1,_,_,_⟩:=Maps.fit_store (R':=aGl) K ht hb F (by simp only[maxLen];omega) (fun _ _ _ _ hz=>hz) hkey (val:=v) (yv:=(.held v,[])) rfl;rcases K.find w hkey es.toList F.keys with ⟨h1,h2⟩|⟨j,e0,h1,h2,h3⟩
 · exfalso
   rw[hD] at hhas;obtain⟨p,hp,hpk⟩:=List.any_eq_true.1 hhas;obtain⟨y,hy,rfl⟩:=List.mem_map.1 (mem_sorted.1 hp);obtain⟨z,hz⟩:=F.reads y hy;rw[rg_of hz] at hpk;have:=WideAt.sameKey_eq hpk;exact h2 y hy (K.inj (this▸rd_key hz) hkey)
 · have hj:es[j]? =some e0:=by simpa using h2
   have hrun:(Instr.mapUpdate t (.map (some b)) (.int .i64 x) v).run P w=.ok () (setBlock w b (.map (es.modify j (fun e'=>{e' with key:=.int .i64 x,val:=v})) cl)):=by
    simp[Instr.mapUpdate,run_underlying ht,MapKept.run_getObj_map hb,K.check w false hkey,h1,hj,h3,K.stays w hkey,MapKept.run_setObj_map _ hb,Result.andThen,setBlock]
   have e1:=hrun1.symm.trans hrun;injection e1 with _ e1;have e2:=congrArg (fun W:World=>W.heap[b]?) e1;simp only[heap_setBlock_same hb] at e2;injection e2 with e2;injection e2 with e2 e3;have hlist:es1.toList=es.toList.set j {e0 with key:=.int .i64 x,val:=v}:=by rw[e2,Array.toList_modify,modify_eq_set _ _ _ _ h2]
   have hjl:j<es.toList.length:=(rB.1 h2).1;have he0:e0∈es.toList:=(rB.1 h2).2▸rC hjl;have rgk:(rg P k aGl {e0 with key:=.int .i64 x,val:=v}).1=.int .i64 x:=by rw[rg_of (rd_mk hkey (show aGl v=some (.held v,[]) from rfl))]
   have rg0:(rg P k aGl e0).1=.int .i64 x:=by
    obtain⟨z,hz⟩:=F.reads e0 he0;rw[rg_of hz];have:=rd_key hz;rw[h3,hkey] at this;exact(rT this).symm
   have who:∀y∈es1.toList,y={e0 with key:=.int .i64 x,val:=v}∨y∈es.toList:=fun y hy=>by
    rw[hlist] at hy;rcases List.mem_or_eq_of_mem_set hy with q|q
    · exact .inr q
    · exact .inl q
   refine⟨_,hrun1,?_,⟨rfl,rfl,rfl,by simp[setBlock],fun i _ hi=>heap_setBlock_other hb _ (fun q=>hi (by rw[q]))⟩⟩;obtain⟨D2,hI2a,hI2b,hI2c⟩:=hIM2;refine⟨.map ((es1.toList.map (rg P k aGl)).foldr DataW.insert []),⟨es1,cl1,si,se,c0,heap_setBlock_same hb _,F1,?_,rfl,(heap_setBlock_other hb _ hne).trans hr,fun y hy=>?_,?_,fun y hy=>?_,fun kl hkl=>?_,hsc,by rw[e3];exact hsk⟩,?_,fun y hy z=>?_⟩
   · have:es1.size=es.size:=by rw[e2];simp
     omega
   · rcases who y hy with rfl|q
     · exact hold e0 he0
     · exact hold y q
   · have e4:∀a:Array MapEntry,(leftOf a se).size=(a.toList.filter fun e=>!se.contains e.born).length:=fun a=>by
      unfold leftOf
      rw[←Array.toList_filter,Array.length_toList]
     rw[←hcnt,e4,e4,hlist];exact aTp (e':={e0 with key:=.int .i64 x,val:=v}) h2 rfl (fun n=>!se.contains n)
   · rcases who y hy with rfl|q
     · rw[rgk,←rg0];exact hl1 e0 he0
     · exact hl1 y q
   · obtain⟨y,hy,hyk⟩:=hl2 kl hkl;by_cases q:y.key=e0.key
     · refine⟨{e0 with key:=.int .i64 x,val:=v},by rw[hlist];exact List.mem_iff_getElem?.2 ⟨j,by rw[rD,if_pos rfl,if_pos hjl]⟩,?_⟩;rw[rgk,←hyk];obtain⟨z,hz⟩:=F.reads y hy;rw[rg_of hz];have:=rd_key hz;rw[q,h3,hkey] at this;exact rT this
     · refine⟨y,?_,hyk⟩;rw[hlist];obtain⟨i,hi,hiy⟩:=List.getElem_of_mem hy
       have hij:j≠i:=fun q2=>by
        subst q2;rw[tX hi,hiy] at h2;exact q (by rw[rT h2])
       exact List.mem_iff_getElem?.2 ⟨i,by rw[rD,if_neg hij,tX hi,hiy]⟩
   · have q:=hput1;rw[hput1,←DataW.put_eq,←hD];have h5:=Maps.size_put (hown.tidy K) (.held v) (k:=.int .i64 x);rw[hhas] at h5;simpa [hsz] using h5
   · rw[hput1,←DataW.put_eq,←hD];by_cases e5:y=x
     · subst e5;rw[aAj,atKey_put_same hown.isMap (by simp[WideAt.IsKeyLit])];rfl
     · rw[aAd _ _ e5,atKey_put_other (fun e6=>by injection e6 with _ e6;exact e5 e6)];exact hat y hy z
section
variable {P:Program} (w:World) {ops:Array Oper} {rest:List Oper} {o:Oper} {a:Act} {Q:Exit→Act→World→Prop}
theorem aWz {K:Act→World→Prop} (m x v:Operand) (t:TypeId) (hop:o.op=Op.mapUpdate t m x v) (k e:TypeId) (KK:Keyed P k) (hk:P.underlying k=some (.int .i64)) (ht:P.underlying t=some (.map k e)) (b r s cnt:Nat) (f:Int→Option Value) (left:Lit→Bool)
  (hm:a.eval m=.map (some b)) (h:IR w P k b r s f left cnt) (hs:s≤1000000) (key:Int) (val v0:Value) (hx:a.eval x=.int .i64 key) (hv:a.eval v=val) (hw:Un key) (hf:f key=some v0)
  (hK:∀w',IR w' P k b r s (upd f key (some val)) left cnt→w.grownBy w' (some b)→K (a.put o.dst undef) w'):o.wp P a w K Q:=by
 obtain⟨w',hrun,h1,h2⟩:=h.over KK hk ht hw hf val hs;unfold Oper.wp
 simp[execOp,hop,hm,hx,hv,hrun,Result.andThen]
 exact hK w' h1 h2
end
end
theorem bAz {l:List Kl}:∀u∈l.flatMap Kl.cells,u.oneCell'=true:=fun u hu=>by
 obtain⟨x,_,hx⟩:=List.mem_flatMap.1 hu;simp[Kl.cells] at hx
 rcases hx with rfl|rfl<;>rfl
theorem aRc (ad:Addr) (n c:Nat) (vs:List Kl) (w:World) (hl:vs.length=n) (h:Rd w w.heap.size (some ad) (vs.flatMap Kl.cells)) (hn:n≤100000) :
  Calls prog 254 #[.slice (some ad) n c] w fun e w'=>(∃v,e=.returned v∧w'.ownsRow w.heap.size 266 2 v n (vs.flatMap Kl.cells))∧nD w w':=by
 obtain⟨xi,xz,hxi,hxz,hx5,hx56,hxc⟩:=aPt;have q:∀(w:World) (a:Option Addr) (n c n' c':Nat),(binOp .eql 264 (.slice a n c) (.slice none n' c')).run prog w=.ok (.bool a.isNone) w:=fun w a n c n' c'=>Lib.run_eql_slice_nil w _ _ a n c n' c' underlying264
 have HR:=hid h;have HN:=hid hn;clear h hn;go_enter func254,ntmps254
 go_wp2_with (at_builtin;go_must (refine aAa _ rfl _ _ 264 rfl w.heap.size 266 xi xz 2 32 underlying264 hxi hxz hx5 hx56 hxc (by omega) _ 0 [] (by rfl) (by exact World.ownsRow_lit w #[] 0 lR (by decide) rfl) w.heap.size (some ad) n c (vs.flatMap Kl.cells) (by rfl) (by rw[Vt aCf,hl]) (by exact HR.o.alloc lR _) bAz (by have:=HN.o;omega) (by have:=HN.o;omega) (by simp) ?_);intro v1 w1 hO1 hG1 hv1)
 have HB:nD w w1:=(nB.alloc lR _).grown hG1 (by simp) (fun g hg=>tO (rT (show some w.heap.size=some g from hg)));have HE:=hid (show w1.ownsRow w.heap.size 266 2 v1 n (vs.flatMap Kl.cells) from by simpa using hO1);clear hO1 hG1 hv1;go_ret;exact⟨⟨v1,rfl,HE.o⟩,HB⟩
theorem aJb {α :Type} {f: α→List Value} (hs:∀x,(f x).length=2):∀(l:List α) (k:Nat),(l.flatMap f).drop (k*2)=(l.drop k).flatMap f
 | l,0=>by simp
 | [],k+1=>by simp
 | x::l,k+1=>by
   have ih:=aJb hs l k;rw[List.flatMap_cons,List.drop_succ_cons,←ih,show (k+1)*2=(f x).length+k*2 by rw[hs];omega,List.drop_append];simp
theorem aZg {w w':World} {P:Program} {k:TypeId} {b r s cnt:Nat} {f:Int→Option Value} {left:Lit→Bool} (h:IR w P k b r s f left cnt) (hg:w.grownBy w' (some r)):Kf (fun b=>b=r) w w':=by
 obtain⟨D,⟨es,cl,si,se,c0,_,_,_,_,hr,_⟩,_⟩:=h
 exact⟨hg.os,hg.tape,hg.output,hg.size,fun b ob ho hn=>by
  rw[hg.block b (Vz ho) (fun e=>by
   injection e with e;rcases hn with q|⟨cs,fr,q⟩
   · exact q e
   · rw[e,hr] at ho;injection ho with ho;rw[q] at ho;cases ho)]
  exact ho⟩
theorem Up.reset {w2 w8 w9:World} {F:Xt} {gm bm s N n:Nat} {last tb y:Int} {f:Int→Option Value} {v:Value} {us:List Kl} (h:Up w2 F gm bm s N last tb f) (hI:In w2 F) (hy:0≤y∧y<258) (hb:nD w2 w8) (hl:us.length=n) (ho:w8.ownsRow w2.heap.size 266 2 v n (us.flatMap Kl.cells)) (hn:0<n) (hnN:n≤N) (hu:∀u∈us,IsY w2 u.A 40 u.c u.bs) (hut:∀u∈us,u.t≤tb)
  (hi:IM w9 prog 3 bm s (upd f y (some v))) (hg:w8.grownBy w9 (some bm)):∃F',Up w9 F' gm bm s N last tb (upd f y (some v))∧Kf F w2 w9∧Sb w2 F F'∧In w9 F'∧∀b,F' b→F b∨w2.heap.size≤b:=by
 have h8:=h.ag (.of_below hb);have k9:=aDa h8.im hg;have kall:Kf F w2 w9:=(Kf.of_below (F:=F) hb).trans (G:=F) (k9.mono (fun b q=>by rw[q];exact h.f1)) (fun b q=>.inl q);have a9:Ag (fun b=>b≠bm) w8 w9:=k9.ag (fun b q r=>q r)
 have cells_ne:∀(g:Nat) (cs:Array Value) (t:TypeId) (fr:Nat×Nat),w8.heap[g]? =some (.cells cs t fr)→g≠bm:=fun g cs t fr hg e=>by
  obtain⟨es,cl,hm⟩:=h8.im.at_;rw[e,hm] at hg;cases hg
 have row9:∀{B m:Nat} {u:Value} {xs:List Value},w8.ownsRow B 266 2 u m xs→w9.ownsRow B 266 2 u m xs:=fun q=>Vj q a9 (fun g e=>by obtain⟨_,_,hh⟩:=Vx q e;exact cells_ne g _ _ _ hh)
 have hnew:∀g,v.ownBlock=some g→w2.heap.size≤g:=fun g e=>Xv ho e
 have old:∀x u,f x=some u→∃g,u.ownBlock=some g∧g<w2.heap.size:=fun x u hu=>by
  obtain⟨vs,h1,_,h3,_,hF,_⟩:=h.row x u hu;rcases h3.2 with ⟨_,h0⟩|⟨g,cap,cur,e,_⟩
  · omega
  · exact⟨g,by rw[e];rfl,hI g (hF g (by rw[e];rfl))⟩
 have apart:∀x u,f x=some u→u.ownBlock≠v.ownBlock:=fun x u hu e=>by
  obtain⟨g,hg1,hg2⟩:=old x u hu;have:=hnew g (e.symm.trans hg1);omega
 have hsb:∀b,orF F (fun b=>v.ownBlock=some b) b→F b∨w2.heap.size≤b:=fun b q=>q.imp id (hnew b)
 refine⟨orF F (fun b=>v.ownBlock=some b),⟨Bk.ag h8.bx a9 (cells_ne gm _ _ _ h8.bx),hi,fun x u hxu=>?_,fun x z u u' hn hxu hzu=>?_,fun x hx=>?_,h.pos,h.big,.inl h.f0,.inl h.f1⟩,kall,hsb,fun b q=>?_,hsb⟩
 · by_cases e:x=y
   · subst e;rw[aAj] at hxu;injection hxu with hxu;subst hxu;rw[←hl] at ho hn hnN;exact⟨us,hn,hnN,ownsRow_base_a (row9 ho) zL,fun u hu'=>((hu u hu').ag (F:=fun _=>False) (kall.ag (fun _ q=>q.elim))),fun g q=>.inr q,hut⟩
   · rw[aAd _ _ e] at hxu;obtain⟨vs,h1,h2,h3,h4,h5,h6⟩:=h8.row x u hxu;exact⟨vs,h1,h2,row9 h3,fun u hu=>(h4 u hu).ag a9,fun g q=>.inl (h5 g q),h6⟩
 · by_cases e1:x=y<;>by_cases e2:z=y
   · exact absurd (e1.trans e2.symm) hn
   · subst e1;rw[aAj] at hxu;rw[aAd _ _ e2] at hzu;injection hxu with hxu;subst hxu;exact fun e=>apart z u' hzu e.symm
   · subst e2;rw[aAj] at hzu;rw[aAd _ _ e1] at hxu;injection hzu with hzu;subst hzu;exact apart x u hxu
   · rw[aAd _ _ e1] at hxu;rw[aAd _ _ e2] at hzu;exact h.dj x z u u' hn hxu hzu
 · unfold upd at hx;split at hx
   · next e=>rw[e];exact hy
   · exact h.rng x hx
 · rcases q with q|q
   · exact tL (hI b q) kall.size
   · obtain⟨_,_,hh⟩:=Vx ho q;exact tL (Vz hh) k9.size
theorem aSh (F:Xt) (gm N:Nat) (last a:Int) (w:World) (h:Kn w F gm N last) (hI:In w F) :
  Calls prog 195 #[.pointer (some ⟨gm,0,none⟩),.int .i64 a] w fun e w'=>(∃r:Int,e=.returned (.int .i64 r))∧∃F',Kn w' F' gm N last∧Kf F w w'∧Sb w F F'∧In w' F':=by
 obtain⟨bm,s,f,hX,hE⟩:=h;have hgo:=aDw gm _ last w hX.bx;obtain⟨c0,c1,c2⟩:=hX.bx.c3;have HX:=nH hX hE hI;clear hX hE;go_enter func195,ntmps195
 go_wp2_with fail
 refine hgo.mono ?_;rintro e w' ⟨rfl,rfl⟩;clear hgo;go_wp2_with (at_range;go_must (refine aCj _ rfl _ 240 rfl 3 264 Uy aEf bm s f (by rfl) (by exact HX.o.1.im) ?_);intro w1 left hR1 hG1 hs1)
 have hb1:nD w w1:=⟨hG1.os,hG1.tape,hG1.output,hG1.size,fun b hb=>hG1.block b hb (by simp)⟩;have HR:=nJ hR1 (HX.o.1.ag (.of_below hb1)) (HX.o.2.2.next hb1.size) (Kf.of_below (F:=F) hb1) (show ¬F w.heap.size from fun q=>by have:=HX.o.2.2 _ q;omega);clear hG1 hs1 hR1 hb1 c0 c1 c2;try go_frame
 go_loopw [4] (fun nv wr=>∃(x:Int) (left:Lit→Bool) (cnt:Nat),nv=.int .i64 x∧∃fk Fk,IR wr prog 3 bm w.heap.size s fk left cnt∧Hid (Up wr Fk gm bm s N last last fk∧(last=0→∀y,fk y=none)∧Kf F w wr∧Sb w F Fk∧In wr Fk∧¬Fk w.heap.size)) (fun _ wr=>wr.rangeLeft bm w.heap.size)
 case atStart=>exact⟨0,left,s,rfl,f,F,HR.o.1,HR.o.2.1,HX.o.2.1,HR.o.2.2.2.1,.refl _ _,HR.o.2.2.1,HR.o.2.2.2.2⟩
 case round =>
  obtain⟨x,left,cnt,rfl,fk,Fk,hR,HL⟩:=hrel;have HRR:=hid hR;clear hR;go_wp2_with (at_next;go_must (refine aDb _ rfl _ rfl 3 Uy Ug bm w.heap.size s fk left cnt (by rfl) (by exact HRR.o) ?_ ?_))
  · go_wp2_with fail
    go_ret;exact⟨⟨_,rfl⟩,Fk,⟨bm,s,fk,HL.o.1,HL.o.2.1⟩,HL.o.2.2.1,HL.o.2.2.2.1,HL.o.2.2.2.2.1⟩
  · intro y c w2 left2 cnt2 hyw hyc hR2 hlt2 hG2 hs2 hen;have hkI:Kf (fun b=>b=w.heap.size) wr w2:=aZg HRR.o hG2;have hX2:Up w2 Fk gm bm s N last last fk:=HL.o.1.ag (hkI.ag (fun b q r=>HL.o.2.2.2.2.2 (r▸q)));obtain⟨rA,m,rc,vs,ha,htm⟩:=hX2.att y;have HAT:=hid htm;clear htm;have hcv:=ha.val;rw[hyc] at hcv;simp only[Option.getD_some] at hcv;subst hcv;have hat:=aPl Fk gm bm s N m rc last y a fk rA vs w2 hX2 hyw ha;have hKF2:Kf F w w2:=HL.o.2.2.1.trans (G:=fun b=>b=w.heap.size) hkI (fun b q=>.inr (by have q:b=w.heap.size:=q;omega));have HK:=nF hKF2 (HL.o.2.2.2.2.1.next hkI.size);have hyr:=hX2.rng y (by rw[hyc];rfl);have HA:=nJ hX2 ha hR2 hlt2 hkI;clear hX2 hR2 hlt2 hG2 hs2 hkI hKF2;go_wp2_with fail
    refine hat.mono ?_;rintro e w' ⟨⟨i,rfl,hi0,hi1⟩,rfl⟩;clear hat;by_cases hi:0<i
    · have t0:decide (0<i)=true:=rZ hi;obtain⟨k,rfl⟩:∃k:Nat,i=(k:Int):=⟨i.toNat,by omega⟩
      have n0:(0:Int)≤(k:Int):=by omega
      have n1:(k:Int)≤(m:Int):=by omega
      have n2:(k:Int)<(m:Int):=by omega
      have n3:(m:Int)≤(rc:Int):=by have:=(Vv ha.own).1;omega
      have n4:rc≠k:=by omega
      have n5:¬(rc=k):=by omega
      obtain⟨c0,c1,c2⟩:=HA.o.1.bx.c3;obtain⟨v0,hv0⟩:=nC (vs[0]'(by have:=ha.len;omega));obtain⟨ad,rfl,had,_,_⟩:=Vk aCf (Ve ha.own) (k:=0) (by have:=ha.len;omega) (u:=.int .i64 v0.t) (v:=.slice v0.A 40 v0.c) (by rw[hv0];rfl)
      have hrd:Rd w2 w2.heap.size (some (ad.add (k*2))) ((vs.drop k).flatMap Kl.cells):=by
       have h1:=(Ve ha.own).drop (k:=k*2) (c:=m*2+1) (n:=m*2) (by rw[Vt aCf,ha.len]) (by omega) (by omega);rw[if_neg (by omega),aJb aCf] at h1;exact h1
      have hdl:(vs.drop k).length=m - k:=by rw[rN,ha.len]
      have hmN:m≤N:=ha.le;have hNb:N≤100000:=HA.o.1.big;have HD:=nH hdl hrd (show ∀u∈vs.drop k,IsY w2 u.A 40 u.c u.bs from fun u hu=>ha.y u (rS hu));have KK:=hid (fun (w':World) (hS:nD w2 w')=>(show w'.cell? ⟨gm,1,none⟩=some (.map (some bm)) from(HA.o.1.bx.next hS HA.o.1.bx.lt).cell (i:=1) (by simp)));clear ha hv0 hrd hdl;go_wp2_with fail
      have Kq:=KK;refine aAn (fun w'=>nD w2 w') 9 (by kernel_rfl) (Xu nB) (fun nE=>?_);refine kL 0 ?_;refine kL 1 ?_;refine kL 2 ?_;refine kL 3 ?_;refine kL 4 ?_;refine kL 5 ?_;refine kL 6 ?_;refine kL 7 ?_;refine rL 8 (fun K hK=>?_);go_simp;refine(aRc (ad.add (k*2)) (m - k) (rc - k) (vs.drop k) _ HD.o.1 (HD.o.2.1.drew) (by omega)).mono ?_;rintro e w8 ⟨⟨v8,rfl,ho8⟩,hb8⟩;have hB8:nD w2 w8:=(Xu nB).trans hb8;have HO8:=hid ho8;clear ho8 hb8;go_simp;refine hK.out _ _ (fun _=>hB8) ?_;clear hK K nE;have nE:=hB8;try simp only[Act.put,tC,tD,tE]
      refine rL 9 (fun K hK=>?_);refine aAf rfl (aWz _ _ _ _ 240 rfl 3 264 Uy Ug aEf bm w.heap.size s cnt2 fk left2 (by rfl) (HA.o.2.2.1.below nE) (tK HA.o.1.size (by omega)) y v8 _ (by rfl) (by rfl) hyw hyc ?_);intro w9 hI9 hG9;have HE:=nF hI9 (HA.o.1.reset HK.o.2 hyr nE HD.o.1 HO8.o (by omega) (by omega) HD.o.2.2 (fun u hu=>HAT.o u (rS hu)) hI9.im hG9);clear hI9 hG9;refine hK.out _ _ (fun h=>absurd rfl h) ?_;clear hK K;try simp only[Act.put,tC,tD,tE]
      refine aAz (by kernel_rfl) ?_ _;clear Kq;obtain⟨F2,hX9,hk9,hs9,hi9,hf9⟩:=HE.o.2
      have HE2:=hid (show Up w9 F2 gm bm s N last last (upd fk y (some v8))∧(last=0→∀z,upd fk y (some v8) z=none)∧Kf F w w9∧Sb w F F2∧In w9 F2∧¬F2 w.heap.size from
       ⟨hX9,(fun e=>by have:=HL.o.2.1 e y;rw[hyc] at this;cases this),HK.o.1.trans hk9 HL.o.2.2.2.1,HL.o.2.2.2.1.trans (w:=w2) hs9 HK.o.1.size,hi9,fun q=>(hf9 _ q).elim HL.o.2.2.2.2.2 (fun r=>by have:=HRR.o.lt;have:=HA.o.2.2.2.2.size;omega)⟩)
      have HE3:=hid HE.o.1;clear hX9 hk9 hs9 hi9 hf9 HE c0 c1 c2;go_wp2_with fail
      go_roundw
      case rel=>exact⟨_,left2,cnt2,rfl,_,F2,HE3.o,HE2.o⟩
      case measure=>rw[HE3.o.left_eq,HRR.o.left_eq];exact HA.o.2.2.2.1
    · have t0:decide (0<i)=false:=rY hi;go_wp2_with fail
      go_roundw
      case rel=>exact⟨_,left2,cnt2,rfl,fk,Fk,HA.o.2.2.1,HA.o.1,HL.o.2.1,HK.o.1,HL.o.2.2.2.1,HK.o.2,HL.o.2.2.2.2.2⟩
      case measure=>rw[HA.o.2.2.1.left_eq,HRR.o.left_eq];exact HA.o.2.2.2.1
structure TX where
 st:Nat
 time:Nat
 at':Nat
 keys:List Int
structure MS where
 last:Nat
 given:Nat
 num:Nat
 read:Bool
 txs:List TX
 queue:List Nat
 base:Nat
def aEm (ks:List Int):Prop:=ks.Pairwise (· < ·)∧ks.length≤16∧∀x∈ks,0≤x∧x<258
structure Vq (m:MS):Prop where
 lg:m.last≤m.given
 atl:∀(i:Nat) (t:TX),m.txs[i]? =some t→t.at'≤m.last
 com:∀(i:Nat) (t:TX),m.txs[i]? =some t→t.st=3→t.time≤m.last∧(t.keys≠[]→t.at' <t.time)
 que:∀i∈m.queue,∃t:TX,m.txs[i]? =some t∧t.st=2∧t.at' <t.time∧m.last<t.time∧t.time≤m.given∧t.keys≠[]
 srt:m.queue.Pairwise fun i j=>∀(t u:TX),m.txs[i]? =some t→m.txs[j]? =some u→t.time<u.time
 rng:∀(i:Nat) (t:TX),m.txs[i]? =some t→1≤t.st∧t.st≤4∧aEm t.keys
 cap:m.given≤1000∧m.num≤1000
structure Ext (m m':MS):Prop where
 last:m.last≤m'.last
 tx:∀(i:Nat) (t:TX),m.txs[i]? =some t→∃t':TX,m'.txs[i]? =some t'∧t'.at'=t.at'∧(3≤t.st→t'=t)∧(t.st≠1→t'.st≠1)
theorem Ext.refl (m:MS):Ext m m:=⟨lR,fun i t h=>⟨t,h,rfl,fun _=>rfl,id⟩⟩
theorem Ext.trans {a b c:MS} (h:Ext a b) (k:Ext b c):Ext a c:=⟨tK h.last k.last,fun i t e=>by
 obtain⟨t1,e1,a1,d1,o1⟩:=h.tx i t e;obtain⟨t2,e2,a2,d2,o2⟩:=k.tx i t1 e1;refine⟨t2,e2,a2.trans a1,fun h3=>?_,fun hn=>o2 (o1 hn)⟩;have:=d1 h3;subst this;exact d2 h3⟩
def MS.begin (m:MS):MS:={m with txs:=m.txs++[⟨1,0,m.last,[]⟩]}
def MS.put (m:MS) (i:Nat) (t:TX):MS:={m with txs:=m.txs.set i t}
def MS.pend (m:MS) (i:Nat) (t:TX):MS:={m with given:=m.given+1,txs:=m.txs.set i ⟨2,m.given+1,t.at',t.keys⟩,queue:=m.queue++[i]}
theorem Uk {α :Type} {l:List α} {x y: α} {i:Nat} (h:(l++[x])[i]? =some y):l[i]? =some y∨i=l.length∧y=x:=by
 rcases tN i l.length with g|g
 · rw[rO g] at h;exact .inl h
 · rw[rP g] at h;rcases tP (i - l.length) with e|e
   · rw[e] at h;simp at h;exact .inr ⟨by omega,h.symm⟩
   · rw[List.getElem?_eq_none (by simp;omega)] at h;cases h
theorem Vi {α :Type} {l:List α} {x: α} {i:Nat} (h:l[i]? =some x):i<l.length:=(rB.1 h).1
theorem Ub {α :Type} {l:List α} {x y: α} {i j:Nat} (h:(l.set i x)[j]? =some y):(j=i∧y=x)∨(j≠i∧l[j]? =some y):=by
 rw[rD] at h;by_cases e:i=j
 · rw[if_pos e] at h;by_cases g:i<l.length
   · rw[if_pos g] at h;exact .inl ⟨e.symm,(rT h).symm⟩
   · rw[if_neg g] at h;cases h
 · rw[if_neg e] at h;exact .inr ⟨fun q=>e q.symm,h⟩
theorem Vq.begin {m:MS} (h:Vq m):Vq m.begin∧Ext m m.begin:=by
 have keep:∀(i:Nat) (t:TX),m.txs[i]? =some t→m.begin.txs[i]? =some t:=fun i t e=>by
  show (m.txs++[_])[i]? =_
  rw[rO (Vi e)];exact e
 refine⟨⟨h.lg,fun i t e=>?_,fun i t e=>?_,fun i hi=>?_,?_,fun i t e=>?_,h.cap⟩,lR,fun i t e=>⟨t,keep i t e,rfl,fun _=>rfl,id⟩⟩
 · rcases Uk e with q|⟨_,rfl⟩
   · exact h.atl i t q
   · exact lR
 · rcases Uk e with q|⟨_,rfl⟩
   · exact h.com i t q
   · intro q;cases q
 · obtain⟨t,e,r⟩:=h.que i hi;exact⟨t,keep i t e,r⟩
 · refine List.Pairwise.imp_of_mem ?_ h.srt;intro i j hi hj hp t u e1 e2;obtain⟨t',e1',_⟩:=h.que i hi;obtain⟨u',e2',_⟩:=h.que j hj;rw[keep i t' e1'] at e1;rw[keep j u' e2'] at e2;injection e1 with e1;injection e2 with e2;subst e1 e2;exact hp _ _ e1' e2'
 · rcases Uk e with q|⟨_,rfl⟩
   · exact h.rng i t q
   · exact⟨Nat.le_refl 1,show (1:Nat)≤4 by decide,List.Pairwise.nil,zL,by simp⟩
theorem Vq.put {m:MS} (h:Vq m) {i:Nat} {t t':TX} (hi:m.txs[i]? =some t) (ho:t.st=1) (ha:t'.at'=t.at') (hk:aEm t'.keys)
  (hs:t'.st=1∨t'.st=4∨(t'.st=3∧t'.keys=[]∧t'.time=t.at')):Vq (m.put i t')∧Ext m (m.put i t'):=by
 have hl:=Vi hi
 have hnq:i∉m.queue:=fun q=>by
  obtain⟨u,e,s,_⟩:=h.que i q;rw[hi] at e;injection e with e;subst e;omega
 have keep:∀(j:Nat) (u:TX),j≠i→m.txs[j]? =some u→(m.put i t').txs[j]? =some u:=fun j u hn e=>by
  show (m.txs.set i t')[j]? =_
  rw[rD,if_neg (fun q=>hn q.symm)];exact e
 have at_i:(m.put i t').txs[i]? =some t':=by
  show (m.txs.set i t')[i]? =_
  rw[rD,if_pos rfl,if_pos hl]
 refine⟨⟨h.lg,fun j u e=>?_,fun j u e=>?_,fun j hj=>?_,?_,fun j u e=>?_,h.cap⟩,lR,fun j u e=>?_⟩
 · rcases Ub e with ⟨rfl,rfl⟩|⟨_,q⟩
   · rw[ha];exact h.atl _ _ hi
   · exact h.atl _ _ q
 · rcases Ub e with ⟨rfl,rfl⟩|⟨_,q⟩
   · intro h3;rcases hs with s|s|⟨_,s,q⟩
     · omega
     · omega
     · exact⟨by rw[q];exact h.atl _ _ hi,fun n=>absurd s n⟩
   · exact h.com _ _ q
 · obtain⟨u,e,r⟩:=h.que j hj;exact⟨u,keep j u (fun q=>hnq (q▸hj)) e,r⟩
 · refine List.Pairwise.imp_of_mem ?_ h.srt;intro a b hia hib hp x y e1 e2;rcases Ub e1 with ⟨rfl,_⟩|⟨_,q1⟩
   · exact absurd hia hnq
   · rcases Ub e2 with ⟨rfl,_⟩|⟨_,q2⟩
     · exact absurd hib hnq
     · exact hp _ _ q1 q2
 · rcases Ub e with ⟨rfl,rfl⟩|⟨_,q⟩
   · exact⟨by omega,by omega,hk⟩
   · exact h.rng _ _ q
 · by_cases e':j=i
   · subst e';rw[hi] at e;injection e with e;subst e;exact⟨t',at_i,ha,fun q=>absurd q (by omega),fun q=>absurd ho q⟩
   · exact⟨u,keep j u e' e,rfl,fun _=>rfl,id⟩
theorem Vq.pend {m:MS} (h:Vq m) {i:Nat} {t:TX} (hi:m.txs[i]? =some t) (ho:t.st=1) (hk:t.keys≠[]) (hc:m.given<1000):Vq (m.pend i t)∧Ext m (m.pend i t):=by
 have hl:=Vi hi
 have hnq:i∉m.queue:=fun q=>by
  obtain⟨u,e,s,_⟩:=h.que i q;rw[hi] at e;injection e with e;subst e;omega
 have keep:∀(j:Nat) (u:TX),j≠i→m.txs[j]? =some u→(m.pend i t).txs[j]? =some u:=fun j u hn e=>by
  show (m.txs.set i _)[j]? =_
  rw[rD,if_neg (fun q=>hn q.symm)];exact e
 have at_i:(m.pend i t).txs[i]? =some ⟨2,m.given+1,t.at',t.keys⟩:=by
  show (m.txs.set i _)[i]? =_
  rw[rD,if_pos rfl,if_pos hl]
 refine⟨⟨tK h.lg (tW _),fun j u e=>?_,fun j u e=>?_,fun j hj=>?_,?_,fun j u e=>?_,show m.given+1≤1000 by omega,h.cap.2⟩,lR,fun j u e=>?_⟩
 · rcases Ub e with ⟨rfl,rfl⟩|⟨_,q⟩
   · exact show t.at'≤m.last from h.atl _ _ hi
   · exact h.atl _ _ q
 · rcases Ub e with ⟨rfl,rfl⟩|⟨_,q⟩
   · intro h3;cases h3
   · exact h.com _ _ q
 · rcases rE.1 hj with q|q
   · obtain⟨u,e,s1,s2,s3,s4,s5⟩:=h.que j q;exact⟨u,keep j u (fun q'=>hnq (q'▸q)) e,s1,s2,s3,tK s4 (tW _),s5⟩
   · obtain rfl:j=i:=by simpa using q
     have:=h.atl _ _ hi;have:=h.lg;exact⟨_,at_i,rfl,show t.at' <m.given+1 by omega,show m.last<m.given+1 by omega,lR,hk⟩
 · refine List.pairwise_append.2 ⟨?_,by simp,fun a ha b hb=>?_⟩
   · refine List.Pairwise.imp_of_mem ?_ h.srt;intro a b hia hib hp x y e1 e2;rcases Ub e1 with ⟨rfl,_⟩|⟨_,q1⟩
     · exact absurd hia hnq
     · rcases Ub e2 with ⟨rfl,_⟩|⟨_,q2⟩
       · exact absurd hib hnq
       · exact hp _ _ q1 q2
   · obtain rfl:b=i:=by simpa using hb
     intro x y e1 e2;rw[at_i] at e2;injection e2 with e2;subst e2;obtain⟨u,e,_,_,_,s4,_⟩:=h.que a ha;rw[keep a u (fun q'=>hnq (q'▸ha)) e] at e1;injection e1 with e1;subst e1;exact Nat.lt_succ_of_le s4
 · rcases Ub e with ⟨rfl,rfl⟩|⟨_,q⟩
   · exact⟨show (1:Nat)≤2 by decide,show (2:Nat)≤4 by decide,(h.rng _ _ hi).2.2⟩
   · exact h.rng _ _ q
 · by_cases e':j=i
   · subst e';rw[hi] at e;injection e with e;subst e;exact⟨_,at_i,rfl,fun q=>absurd q (by omega),fun q=>absurd ho q⟩
   · exact⟨u,keep j u e' e,rfl,fun _=>rfl,id⟩
def TX.done (t:TX) (ok:Bool):TX:=if ok then {t with st:=3} else {t with st:=4,time:=0}
def MS.pop (m:MS) (ok:Bool):MS:=match m.queue with
 | []=>m
 | i::q=>match m.txs[i]? with
   | none=>m
   | some t=>{m with txs:=m.txs.set i (t.done ok),last:=if ok then t.time else m.last,queue:=q}
def MS.pops (m:MS) (ok:Bool):Nat→MS
 | 0=>m
 | n+1=>(m.pop ok).pops ok n
theorem aFz {m:MS} {i:Nat} {q:List Nat} {t:TX} (ok:Bool) (hq:m.queue=i::q) (hi:m.txs[i]? =some t):m.pop ok={m with txs:=m.txs.set i (t.done ok),last:=if ok then t.time else m.last,queue:=q}:=by
 unfold MS.pop;rw[hq];simp only[hi]
theorem Vq.pop {m:MS} (h:Vq m) {i:Nat} {q:List Nat} (ok:Bool) (hq:m.queue=i::q):Vq (m.pop ok)∧Ext m (m.pop ok):=by
 obtain⟨t,hi,s2,s3,s4,s5,s6⟩:=h.que i (by rw[hq];exact rQ);have hl:=Vi hi;have hsrt:=h.srt;rw[hq,List.pairwise_cons] at hsrt
 have hnq:i∉q:=fun r=>by
  have:=hsrt.1 i r t t hi hi;omega
 rw[aFz ok hq hi]
 have keep:∀(j:Nat) (u:TX),j≠i→m.txs[j]? =some u→(m.txs.set i (t.done ok))[j]? =some u:=fun j u hn e=>by
  rw[rD,if_neg (fun r=>hn r.symm)];exact e
 have at_i:(m.txs.set i (t.done ok))[i]? =some (t.done ok):=by rw[rD,if_pos rfl,if_pos hl]
 have hlast:m.last≤(if ok then t.time else m.last):=by split<;>omega
 have hda:(t.done ok).at'=t.at':=by unfold TX.done;split<;>rfl
 have hdk:(t.done ok).keys=t.keys:=by unfold TX.done;split<;>rfl
 have hds:(t.done ok).st=3∧ok=true∧(t.done ok).time=t.time∨(t.done ok).st=4:=by
  unfold TX.done;cases ok
  · exact .inr rfl
  · exact .inl ⟨rfl,rfl,rfl⟩
 refine⟨⟨?_,fun j u e=>?_,fun j u e=>?_,fun j hj=>?_,?_,fun j u e=>?_,h.cap⟩,hlast,fun j u e=>?_⟩
 · show (if ok then t.time else m.last)≤m.given
   have:=h.lg;split<;>omega
 · rcases Ub e with ⟨rfl,rfl⟩|⟨_,r⟩
   · rw[hda];exact tK (h.atl _ _ hi) hlast
   · exact tK (h.atl _ _ r) hlast
 · rcases Ub e with ⟨rfl,rfl⟩|⟨_,r⟩
   · intro h3;rcases hds with ⟨_,hok,ht⟩|d
     · refine⟨?_,fun _=>by rw[hda,ht];exact s3⟩;rw[ht];show t.time≤(if ok then t.time else m.last);rw[if_pos hok];exact lR
     · omega
   · intro h3;exact⟨tK (h.com _ _ r h3).1 hlast,(h.com _ _ r h3).2⟩
 · have hjq:j∈m.queue:=by rw[hq];exact List.mem_cons_of_mem _ hj
   obtain⟨u,e,r2,r3,r4,r5,r6⟩:=h.que j hjq;refine⟨u,keep j u (fun r=>hnq (r▸hj)) e,r2,r3,?_,r5,r6⟩;show (if ok then t.time else m.last)<u.time
   have:=hsrt.1 j hj t u hi e;split<;>omega
 · show q.Pairwise _
   refine List.Pairwise.imp_of_mem ?_ hsrt.2;intro a b hia hib hp x y e1 e2;rcases Ub e1 with ⟨rfl,_⟩|⟨_,q1⟩
   · exact absurd hia hnq
   · rcases Ub e2 with ⟨rfl,_⟩|⟨_,q2⟩
     · exact absurd hib hnq
     · exact hp _ _ q1 q2
 · rcases Ub e with ⟨rfl,rfl⟩|⟨_,r⟩
   · refine⟨by omega,by omega,?_⟩;rw[hdk];exact(h.rng _ _ hi).2.2
   · exact h.rng _ _ r
 · by_cases e':j=i
   · subst e';rw[hi] at e;injection e with e;subst e;exact⟨_,at_i,hda,fun r=>absurd r (by omega),fun _=>by omega⟩
   · exact⟨u,keep j u e' e,rfl,fun _=>rfl,id⟩
theorem Vq.pops {m:MS} (h:Vq m) (ok:Bool):∀n,n≤m.queue.length→Vq (m.pops ok n)∧Ext m (m.pops ok n):=by
 intro n
 induction n generalizing m with
 | zero=>intro _;exact⟨h,Ext.refl m⟩
 | succ n ih =>
   intro hn
   match hq:m.queue with
   | []=>rw[hq] at hn;simp at hn
   | i::q =>
     obtain⟨h1,e1⟩:=h.pop ok hq;obtain⟨t,hi,_⟩:=h.que i (by rw[hq];exact rQ);have hl:(m.pop ok).queue=q:=by rw[aFz ok hq hi]
     obtain⟨h2,e2⟩:=ih h1 (by rw[hl];rw[hq] at hn;simpa using hn);exact⟨h2,e1.trans e2⟩
theorem Vq.num {m:MS} (h:Vq m) {k:Nat} (hk:k≤1000):Vq {m with num:=k}∧Ext m {m with num:=k} :=
 ⟨⟨h.lg,h.atl,h.com,h.que,h.srt,h.rng,h.cap.1,hk⟩,⟨lR,(Ext.refl m).tx⟩⟩
theorem Vq.readonly {m:MS} (h:Vq m) (r:Bool):Vq {m with read:=r}∧Ext m {m with read:=r} :=
 ⟨⟨h.lg,h.atl,h.com,h.que,h.srt,h.rng,h.cap⟩,⟨lR,(Ext.refl m).tx⟩⟩
structure BG where
 fr:Nat
 til:Nat
structure aBe (m:MS) (bg:List BG) (ev:Nat):Prop where
 gm:Vq m
 len:bg.length=m.txs.length
 ev:∀(i:Nat) (b:BG),bg[i]? =some b→b.fr≤ev∧b.til≤ev
 dec:∀(i:Nat) (b:BG) (t:TX),bg[i]? =some b→m.txs[i]? =some t→b.til≠0→3≤t.st
 real:∀(i k:Nat) (b c:BG) (t u:TX),bg[i]? =some b→bg[k]? =some c→m.txs[i]? =some t→m.txs[k]? =some u→c.til≠0→c.til≤b.fr→u.st=3→u.time≤t.at'
theorem aBe.next {m:MS} {bg:List BG} {ev:Nat} (h:aBe m bg ev):aBe m bg (ev+1):=⟨h.gm,h.len,fun i b e=>⟨tM (h.ev i b e).1,tM (h.ev i b e).2⟩,h.dec,h.real⟩
theorem aBe.begin {m:MS} {bg:List BG} {ev:Nat} (h:aBe m bg ev):aBe m.begin (bg++[⟨ev,0⟩]) ev:=by
 refine⟨h.gm.begin.1,?_,fun i b e=>?_,fun i b t e1 e2 hn=>?_,fun i k b c t u e1 e2 e3 e4 hn hle h3=>?_⟩
 · show (bg++[_]).length=(m.txs++[_]).length
   rw[rH,rH,h.len];rfl
 · rcases Uk e with q|⟨_,rfl⟩
   · exact h.ev i b q
   · exact⟨lR,zL⟩
 · rcases Uk e1 with q|⟨_,rfl⟩
   · rcases Uk e2 with r|⟨r,_⟩
     · exact h.dec i b t q r hn
     · have:=Vi q;have:=h.len;omega
   · exact absurd rfl hn
 · rcases Uk e2 with q2|⟨_,rfl⟩
   · rcases Uk e4 with q4|⟨q4,_⟩
     · rcases Uk e1 with q1|⟨q1,rfl⟩
       · rcases Uk e3 with q3|⟨q3,_⟩
         · exact h.real i k b c t u q1 q2 q3 q4 hn hle h3
         · have:=Vi q1;have:=h.len;omega
       · rcases Uk e3 with q3|⟨_,rfl⟩
         · have:=Vi q3;have:=h.len;omega
         · exact(h.gm.com k u q4 h3).1
     · have:=Vi q2;have:=h.len;omega
   · exact absurd rfl hn
theorem aBe.ext {m m':MS} {bg:List BG} {ev:Nat} (h:aBe m bg ev) (hm:Vq m') (he:Ext m m') (hl:m'.txs.length=m.txs.length):aBe m' bg ev:=by
 have back:∀(i:Nat) (t':TX),m'.txs[i]? =some t'→∃t:TX,m.txs[i]? =some t∧t'.at'=t.at'∧(3≤t.st→t'=t):=fun i t' e=>by
  have hi:=Vi e;rw[hl] at hi;obtain⟨t2,e2,a,d,_⟩:=he.tx i _ (tX hi);rw[e] at e2;injection e2 with e2;subst e2;exact⟨_,tX hi,a,d⟩
 refine⟨hm,h.len.trans hl.symm,h.ev,fun i b t' e1 e2 hn=>?_,fun i k b c t' u' e1 e2 e3 e4 hn hle h3=>?_⟩
 · obtain⟨t,e,_,d⟩:=back i t' e2;have h3:=h.dec i b t e1 e hn;rw[d h3];exact h3
 · obtain⟨t,e,a,_⟩:=back i t' e3;obtain⟨u,e',_,d⟩:=back k u' e4;have hd:=h.dec k c u e2 e' hn;have:=d hd;subst this;rw[a];exact h.real i k b c t u' e1 e2 e e' hn hle h3
theorem aBe.told {m:MS} {bg:List BG} {ev k:Nat} {c:BG} {u:TX} (h:aBe m bg ev) (hk:bg[k]? =some c) (hu:m.txs[k]? =some u) (hd:3≤u.st) (hlt:∀(i:Nat) (b:BG),bg[i]? =some b→b.fr<ev):aBe m (bg.set k ⟨c.fr,ev⟩) ev:=by
 have fr:∀(i:Nat) (b:BG),(bg.set k ⟨c.fr,ev⟩)[i]? =some b→∃b0:BG,bg[i]? =some b0∧b0.fr=b.fr:=fun i b e=>by
  rcases Ub e with ⟨rfl,rfl⟩|⟨_,q⟩
  · exact⟨c,hk,rfl⟩
  · exact⟨b,q,rfl⟩
 refine⟨h.gm,by rw[rK];exact h.len,fun i b e=>?_,fun i b t e1 e2 hn=>?_,fun i j b d t x e1 e2 e3 e4 hn hle h3=>?_⟩
 · rcases Ub e with ⟨rfl,rfl⟩|⟨_,q⟩
   · exact⟨(h.ev _ c hk).1,lR⟩
   · exact h.ev i b q
 · rcases Ub e1 with ⟨rfl,rfl⟩|⟨_,q⟩
   · rw[hu] at e2;injection e2 with e2;subst e2;exact hd
   · exact h.dec i b t q e2 hn
 · obtain⟨b0,eb,ef⟩:=fr i b e1;rcases Ub e2 with ⟨rfl,rfl⟩|⟨_,q⟩
   · have:=hlt i b0 eb;have:ev≤b.fr:=hle;omega
   · exact h.real i j b0 d t x eb q e3 e4 hn (by omega) h3
structure RdD where
 lba:Int
 A:Option Addr
 c:Nat
 bs:List Int
 own:Bool
def RdD.cells (x:RdD):List Value:=[.int .i64 x.lba,.slice x.A 40 x.c,.bool x.own]
theorem aFd (p:RdD):p.cells.length=3:=rfl
structure Ka (w:World) (F Fs:Xt) (vb gm bb sb nr:Nat) (at':Int) (rv:Value) (rs:List RdD):Prop where
 bx:Bk w vb 246 [.pointer (some ⟨gm,0,none⟩),.pointer (some ⟨bb,0,none⟩),.int .i64 at',.pointer (some ⟨sb,0,none⟩),rv]
 set:aDf w Fs sb 64 nr
 own:w.ownsRow 0 204 3 rv rs.length (rs.flatMap RdD.cells)
 y:∀r∈rs,IsY w r.A 40 r.c r.bs
 le:rs.length≤nr
 big:nr≤100000
 sub:∀b,Fs b→F b
 ns:¬Fs vb
 fr:∀g,rv.ownBlock=some g→F g∧¬Fs g
 f0:F vb
def aBw (w:World) (F:Xt) (vb gm bb nr:Nat) (at':Int):Prop:=∃Fs sb rv rs,Ka w F Fs vb gm bb sb nr at' rv rs
theorem Ka.ag {w w':World} {F Fs:Xt} {vb gm bb sb nr:Nat} {at':Int} {rv:Value} {rs:List RdD} (h:Ka w F Fs vb gm bb sb nr at' rv rs) (k:Ag F w w'):Ka w' F Fs vb gm bb sb nr at' rv rs :=
 ⟨Bk.ag h.bx k h.f0,h.set.ag (k.mono h.sub),Vj h.own k (fun g e=>(h.fr g e).1),fun r hr=>(h.y r hr).ag k,h.le,h.big,h.sub,h.ns,h.fr,h.f0⟩
theorem aBw.ag {w w':World} {F:Xt} {vb gm bb nr:Nat} {at':Int} (h:aBw w F vb gm bb nr at') (k:Ag F w w'):aBw w' F vb gm bb nr at':=by
 obtain⟨Fs,sb,rv,rs,h⟩:=h;exact⟨Fs,sb,rv,rs,h.ag k⟩
theorem aSx {w:World} {B:Nat} {A:Option Addr} {l:List RdD} (h:Rd w B A (l.flatMap RdD.cells)) {k:Nat} (hk:k<l.length) {x:RdD} (hx:l[k]=x) :
  ∃ad,A=some ad∧ad.block<B∧w.cell? (ad.add (k*3))=some (.int .i64 x.lba)∧w.cell? ⟨(ad.add (k*3)).block,(ad.add (k*3)).off+1,none⟩=some (.slice x.A 40 x.c)∧w.cell? ⟨(ad.add (k*3)).block,(ad.add (k*3)).off+2,none⟩=some (.bool x.own):=by
 obtain⟨ad,e,hb,hc⟩:=h (by rw[Vt aFd];omega);have h0:=hc (k*3) (.int .i64 x.lba) (by have:=aAs aFd hk (j:=0) (by omega);rw[Nat.add_zero] at this;rw[this,hx];rfl);have h1:=hc (k*3+1) (.slice x.A 40 x.c) (by rw[aAs aFd hk (by omega),hx];rfl);have h2:=hc (k*3+2) (.bool x.own) (by rw[aAs aFd hk (by omega),hx];rfl);rw[←aBi] at h1 h2;exact⟨ad,e,hb,h0,h1,h2⟩
theorem aZe:(prog.info? 204).map (fun i=>(i.size,i.bytes,i.zero.map (·.cells.size)))=some (3,40,some 3):=by kernel_rfl
theorem aHo:∃i z,prog.info? 204=some i∧i.zero=some z∧i.size=3∧i.bytes=40∧z.cells.size=3:=by
 have h:=aZe
 cases hi:prog.info? 204 with
 | none=>rw[hi] at h;cases h
 | some i =>
   rw[hi] at h;simp at h
   obtain⟨h1,h2,z,hz,h3⟩:=h;exact⟨i,z,rfl,hz,h1,h2,h3⟩
theorem aNb (gm bb:Nat) (at':Int) (w:World) :
  Calls prog 89 #[.pointer (some ⟨gm,0,none⟩),.pointer (some ⟨bb,0,none⟩),.int .i64 at'] w fun e w'=>(∃vb,e=.returned (.pointer (some ⟨vb,0,none⟩))∧aBw w' (fun b=>w.heap.size≤b∧b<w'.heap.size) vb gm bb 0 at'∧w.heap.size≤vb∧vb<w'.heap.size)∧nD w w':=by
 have hn:=aHn 64 w;go_enter func89,ntmps89
 go_wp2_with fail
 refine hn.mono ?_;rintro e w1 ⟨⟨gs,rfl,hs,hg1,hg2⟩,hb1⟩;have HS:=nI hs hg1 hg2 hb1;clear hn hs hg1 hg2 hb1;go_wp2_with fail
 go_ret;obtain⟨hs,hg1,hg2,hb1⟩:=HS.o;have hz:=hb1.size;refine⟨⟨w1.heap.size,rfl,⟨fun b=>b=gs,gs,.slice none 0 0,[],?_⟩,by omega,by simp⟩,hb1.trans ((nB.alloc lR _).mono hb1.size)⟩;refine⟨Bk.new w1 _ _,hs.ag (.of_below (nB.alloc lR _)),⟨rfl,.inl ⟨rfl,rfl⟩⟩,by simp,lR,by omega,fun b q=>?_,fun q=>?_,(fun g e=>by cases e),?_⟩
 · have q:b=gs:=q;subst q;exact⟨hg1,by simp;omega⟩
 · have q:w1.heap.size=gs:=q;omega
 · exact⟨by omega,by simp⟩
theorem aNc (F:Xt) (vb gm bb nr:Nat) (at':Int) (w:World) (h:aBw w F vb gm bb nr at') :
  Calls prog 161 #[.pointer (some ⟨vb,0,none⟩)] w fun e w'=>(∃gs,e=.returned (.pointer (some ⟨gs,0,none⟩))∧∃F',aFn w' F' gs 64∧∀b,F' b→w.heap.size≤b∧b<w'.heap.size)∧nD w w':=by
 obtain⟨Fs,sb,rv,rs,h⟩:=h;have hn:=aHn 64 w;have HX:=hid h;clear h;go_enter func161,ntmps161
 go_wp2_with fail
 refine hn.mono ?_;rintro e w1 ⟨⟨gs,rfl,hs,hg1,hg2⟩,hb1⟩;have hx1:=HX.o.ag (.of_below hb1);obtain⟨v,xs,hsx,-⟩:=hx1.set;have hxe:=aDk Fs sb 64 0 v xs w1 hsx (by omega) zL;have hlx:=hsx.2.2.1;obtain⟨c0,c1,c2,c3,c4⟩:=hx1.bx.c5;have HS:=nI hs hg1 hg2 hb1;clear hn hs hg1 hg2 hb1 hsx hx1;go_wp2_with fail
 refine hxe.mono ?_;rintro e w2 ⟨⟨u,rfl,hu⟩,hb2⟩;obtain⟨uA,uc,rfl,hex⟩:=ExO.is hu;obtain⟨N,hN⟩:=nC (xs.length);rw[hN] at hex hlx ⊢;obtain⟨v2,ys,hsy,-⟩:=HS.o.1.ag (.of_below hb2);have had:=aJt (fun b=>b=gs) gs 64 N uc v2 ys xs uA w2 hsy (by omega) hex (by omega) (fun b q=>by have q:b=gs:=q;subst q;exact tL HS.o.2.2.1 hb2.size);have HB2:=hid hb2;clear hxe hu hex hsy hb2 c0 c1 c2 c3 c4 hN;go_wp2_with fail
 refine had.mono ?_;rintro e w3 ⟨⟨r,rfl,-⟩,F2,hs2,hk2,hsb,hin2⟩
 have HE:=hid (show aFn w3 F2 gs 64∧(∀b,F2 b→w.heap.size≤b∧b<w3.heap.size)∧nD w w3 from by
  have h12:=HS.o.2.2.2.trans (HB2.o.mono HS.o.2.2.2.size);have hk3:Below w.heap.size w2 w3:=hk2.below (fun b q=>by have q:b=gs:=q;subst q;exact HS.o.2.1) h12.size;exact⟨hs2.p,fun b q=>⟨(hsb b q).elim (fun e=>by have e:b=gs:=e;subst e;exact HS.o.2.1) (fun r=>tK h12.size r),hin2 b q⟩,h12.trans hk3⟩)
 clear had hs2 hk2 hsb hin2;go_wp2_with fail
 go_ret;exact⟨⟨_,rfl,F2,HE.o.1,HE.o.2.1⟩,HE.o.2.2⟩
theorem aIm (F:Xt) (vb gm bb nr:Nat) (at':Int) (w:World) (h:aBw w F vb gm bb nr at') :
  Calls prog 175 #[.pointer (some ⟨vb,0,none⟩)] w fun e w'=>(∃A n c,e=.returned (.slice A n c))∧nD w w':=by
 obtain⟨Fs,sb,rv,rs,h⟩:=h;obtain⟨xi,xz,hxi,hxz,hx5,hx56,hxc⟩:=aHo;obtain⟨rA,rc,hrv⟩:=Xs h.own;subst hrv;obtain⟨n,hn⟩:=nC (rs.length);have hle:=h.le;have hbig:=h.big;have hrd:=Ve h.own;have hcp:=Vv h.own;have hbx:=h.bx;have HY:=hid h.y;rw[hn] at hle hcp hbx;clear h;obtain⟨c0,c1,c2,c3,c4⟩:=hbx.c5;have hmx:maxLen≤9223372036854775807:=by decide
 go_enter func175,ntmps175
 go_wp2_with fail
 go_loopw [2,12] (fun pv iv wr=>∃k:Nat,k≤n∧iv=.int .i64 (k:Int)∧nD w wr∧∃xs,Hid (wr.ownsRow w.heap.size 204 3 pv k xs)) (fun _ iv _=>n - (intOf iv).toNat)
 case atStart=>exact⟨0,zL,rfl,nB,[],rfl,.inl ⟨rfl,rfl⟩⟩
 case round =>
  obtain⟨k,hk,rfl,hW,xs,HO⟩:=hrel;clear c0 c1 c2 c3 c4;by_cases hlt:k<n
  · obtain⟨x,hx⟩:∃x,rs[k]'(by omega)=x:=⟨_,rfl⟩
    obtain⟨ad,rfl,had,e0,e1,e2⟩:=aSx (hrd.next lR hW) (k:=k) (by omega) hx;have hxy:=(HY.o x (by rw[←hx];exact rC _)).ag (F:=fun _=>True) (.of_below hW);have n0:(k:Int)<(n:Int):=by omega
    have n1:(0:Int)≤(k:Int):=by omega
    obtain⟨xl,xA,xc,xb,xo⟩:=x;simp only at e0 e1 e2 hxy
    clear hx;obtain⟨w6,hw6⟩:=nC (wr.alloc (.cells #[.int .i64 xl,.slice xA 40 xc,.bool xo] 204));have hB6:Bk w6 wr.heap.size 204 [.int .i64 xl,.slice xA 40 xc,.bool xo]:=by rw[←hw6];exact Bk.new wr _ _
    have hb6:nD wr w6:=by rw[←hw6];exact nB.alloc lR _
    obtain⟨d0,d1,d2⟩:=hB6.c3;have hc:=aAh xA 40 xc 0 (xb.map (Value.int .u8)) w6 (by rw[rU];exact hxy.b.len) ((hxy.ag (F:=fun _=>True) (.of_below hb6)).b.rd) Ui (by omega) zL;have HB6:=nF hB6 hb6;have HW:=hid hW;clear hB6 hxy hW hb6;go_wp2_with fail
    refine hc.mono ?_;rintro e w7 ⟨⟨v7,rfl,ho7⟩,hb7⟩;obtain⟨yA,yc,rfl⟩:=Xs ho7;have hB7:=HB6.o.1.next hb7 HB6.o.1.lt;have f1:=hB7.free 1;have g1:=hB7.cell (i:=1) (by simp);simp only[tI,tJ] at g1;obtain⟨w8,hw8⟩:=nC (w7.setCell ⟨wr.heap.size,1,none⟩ (.slice yA 40 yc));have hB8:Bk w8 wr.heap.size 204 [.int .i64 xl,.slice yA 40 yc,.bool xo]:=by rw[←hw8];have:=hB7.set 1 (.slice yA 40 yc);simpa using this
    have hb8:nD wr w8:=by rw[←hw8];exact(HB6.o.2.trans (hb7.mono HB6.o.2.size)).setCell (p:=⟨wr.heap.size,1,none⟩) lR _
    obtain⟨q0,q1,q2⟩:=hB8.c3;obtain⟨w9,hw9⟩:=nC (w8.alloc (.cells #[.int .i64 xl,.slice yA 40 yc,.bool xo] 204));have hB9:Bk w9 w8.heap.size 204 [.int .i64 xl,.slice yA 40 yc,.bool xo]:=by rw[←hw9];exact Bk.new _ _ _
    have hb9:nD wr w9:=by rw[←hw9];exact hb8.alloc hb8.size _
    have HB9:=nF hB9 hb9;have HO9:=hid (Vg HO.o hb9);clear hc ho7 hb7 hB7 hB8 hb8 hB9 hb9 e0 e1 e2 d0 d1 d2;go_wp2_with (at_builtin;go_must (refine aAc _ rfl _ _ 68 rfl w.heap.size 204 xi xz 3 40 underlying68 hxi hxz hx5 hx56 hxc (by decide) _ _ _ (by rfl) (by exact HO9.o) _ [.int .i64 xl,.slice yA 40 yc,.bool xo] (by rfl) (by exact HB9.o.1) rfl (by intro u hu;simp at hu;rcases hu with rfl|rfl|rfl<;>rfl) (by omega) (by decide) (by exact tK HW.o.size HB9.o.2.size) ?_);intro fS w10 hO10 hG10 hn10)
    have HE:=nF hO10 ((HW.o.trans (HB9.o.2.mono HW.o.size)).grown hG10 (tK HW.o.size HB9.o.2.size) (fun g hg=>Xv HO9.o hg));clear hO10 hG10 hn10;go_roundw
    case rel=>exact⟨k+1,by omega,by go_num,HE.o.2,_,HE.o.1⟩
    case measure=>simp[intOf];omega
  · obtain rfl:k=n:=by omega
    have n0:¬(k:Int)<(k:Int):=by omega
    obtain⟨oA,oc,rfl⟩:=Xs HO.o;go_wp2_with fail
    go_ret;exact⟨⟨_,_,_,rfl⟩,hW⟩
theorem aKy {w:World} {ops:Array Oper} {rest:List Oper} {o:Oper} {a:Act} {Q:Exit→Act→World→Prop} (hgd:o.guard=none) (d s:Operand)
  (ho:o.op=.call {callee:=.builtin .copy,args:=#[d,s],argTypes:=#[41,41]}) (g n cap off dc:Nat) (hd:a.eval d=.slice (some ⟨g,off,none⟩) 40 dc) (sA:Option Addr) (sc:Nat) (sbs:List Int) (hs:a.eval s=.slice sA 40 sc) (hy:IsY w sA 40 sc sbs)
  (B:Nat) (bs:List Int) (hb:Byt w B (.slice (some ⟨g,0,none⟩) n cap) bs) (hl:bs.length=n) (hoff:off+40≤n)
  (h:∀w' bs',Byt w' B (.slice (some ⟨g,0,none⟩) n cap) bs'→bs'.length=n→w.grownBy w' (some g)→wpList prog ops Q rest (a.put o.dst (goInt ((40:Nat):Int))) w'):wpList prog ops Q (o::rest) a w:=by
 have hsl:(sbs.map (Value.int .u8)).length=40:=by rw[rU];exact hy.b.len
 obtain⟨ad,rfl,_,hsc⟩:=hy.b.rd (by omega);rcases hb.1.2 with ⟨h0,_⟩|⟨g',cap',cur,hv,hB,hh,hnc,hcm,hcs,ht⟩
 · cases h0
 · injection hv with h1 h2 h3;injection h1 with h1;injection h1 with h1 _;subst h1 h3;rw[hl,Nat.mul_one] at ht;rw[hl] at hnc;have hcl:cur.toList=bs.map (Value.int .u8)++cur.toList.drop n:=by rw[←ht,List.take_append_drop]
   have hbl:(bs.map (Value.int .u8)).length=n:=by rw[rU];exact hl
   have hinfo:(prog.info? 5).map (·.size)=some 1:=by
    obtain⟨i0,hi,hz0,hz1,hz2⟩:=info_parts aBq;rw[hi];simp[hz1]
   refine wpList_copy_own hgd d s _ _ ho 5 underlying41 hinfo g off 40 dc ad 40 sc hd hs cur 5 hh (sbs.map (Value.int .u8)) (by rw[hsl];rfl) hsc (by rw[hsl,hcs];omega) Ui ?_;rw[hsl];have e1:(bs.map (Value.int .u8)++cur.toList.drop n).take off=(bs.map (Value.int .u8)).take off:=by rw[List.take_append_of_le_length (by omega)]
   have e2:(bs.map (Value.int .u8)++cur.toList.drop n).drop (off+40)=(bs.map (Value.int .u8)).drop (off+40)++cur.toList.drop n:=by rw[List.drop_append_of_le_length (by omega)]
   have hbyl:=hy.b.len
   have hlen:(bs.take off++(sbs++bs.drop (off+40))).length=n:=by
    simp only[rH,rJ,rN,hbyl,hl];omega
   have htake:(cur.toList.take off++(sbs.map (Value.int .u8)++cur.toList.drop (off+40))).take n=(bs.take off++(sbs++bs.drop (off+40))).map (Value.int .u8):=by
    rw[hcl,e1,e2,rI,rI,List.map_take,List.map_drop,←List.append_assoc,←List.append_assoc,List.append_assoc ((bs.map (Value.int .u8)).take off)];rw[List.take_append_of_le_length (by simp only[rH,rJ,rN,hsl,hbl];omega)];exact rG (by simp only[rH,rJ,rN,hsl,hbl];omega)
   have hsize:(cur.toList.take off++(sbs.map (Value.int .u8)++cur.toList.drop (off+40))).length=cap*1:=by
    simp only[rH,rJ,rN,hsl,Array.length_toList,hcs];omega
   have hwf:∀x∈bs.take off++(sbs++bs.drop (off+40)),0≤x∧x<256:=fun x hx=>by
    rcases rE.1 hx with q|q
    · exact hb.2 x (rR q)
    · rcases rE.1 q with q|q
      · exact hy.b.wf x q
      · exact hb.2 x (rS q)
   generalize cur.toList.take off++(sbs.map (Value.int .u8)++cur.toList.drop (off+40))=X at htake hsize ⊢;generalize bs.take off++(sbs++bs.drop (off+40))=Y at htake hlen hwf;have hnew:(w.setRow g X.toArray).heap[g]? =some (.cells X.toArray 5 (0,0)):=setRow_heap w g cur _ _ _ hh;have hgr:w.grownBy (w.setRow g X.toArray) (some g):=⟨rfl,rfl,rfl,by simp[World.setRow],fun k _ hk=>setRow_other w g k _ (fun e=>hk (by rw[e]))⟩;generalize w.setRow g X.toArray=W at hnew hgr ⊢
   have hB2:Byt W B (.slice (some ⟨g,0,none⟩) n cap) Y:=by
    refine⟨?_,hwf⟩;rw[hlen];exact⟨by rw[rU,hlen,Nat.mul_one],.inr ⟨g,cap,_,rfl,hB,hnew,hnc,hcm,hsize,by rw[Nat.mul_one];exact htake⟩⟩
   exact h W Y hB2 hlen hgr
section
variable {w wr wA wB wC wD:World} {F Fs Fk:Xt} {vb gm bb sb nr go:Nat} {at':Int} {rv rv':Value} {rs:List RdD}
theorem Kf.growNew {a w w':World} {F:Xt} {g:Nat} (h:Kf F a w) (hg:w.grownBy w' (some g)) (hn:a.heap.size≤g):Kf F a w' :=
 ⟨hg.os.trans h.os,hg.tape.trans h.tape,hg.output.trans h.output,tK h.size hg.size,fun b ob hb hq=>by
  have:=Vz hb;rw[hg.block b (Vz (h.keep b ob hb hq)) (fun e=>by injection e with e;omega)];exact h.keep b ob hb hq⟩
theorem IsY.but {A:Option Addr} {n c:Nat} {bs:List Int} (h:IsY w A n c bs) (hg:w.grownBy wr (some go)) (hn:∀ad,A=some ad→ad.block≠go):IsY wr A n c bs:=by
 have keep:∀ad,A=some ad→0<n→wr.heap[ad.block]? =w.heap[ad.block]?:=fun ad e hn'=>by
  obtain⟨ob,ho,_⟩:=h.y ad e hn';exact hg.block _ (Vz ho) (fun q=>by injection q with q;exact hn ad e q)
 refine⟨⟨h.b.len,fun hl=>?_,h.b.wf,h.b.cap,h.b.big⟩,fun ad e hn'=>?_⟩
 · obtain⟨ad,e,hb,hc⟩:=h.b.rd hl;refine⟨ad,e,tL hb hg.size,fun j u hu=>?_⟩;rw[World.cell?_of_block (w:=w) (w':=wr) (by rw[aAk];exact keep ad e (by have:=h.b.len;rw[rU] at hl;omega))];exact hc j u hu
 · obtain⟨ob,ho,hd⟩:=h.y ad e hn';exact⟨ob,(keep ad e hn').trans ho,hd⟩
theorem aGv {B e s n:Nat} {v:Value} {xs:List Value} (h:w.ownsRow B e s v n xs) (hg:w.grownBy wr (some go)) (hn:∀g,v.ownBlock=some g→g≠go):wr.ownsRow B e s v n xs:=by
 rcases h.2 with h0|⟨g,cap,cur,hv,hb,hh,hr⟩
 · exact⟨h.1,.inl h0⟩
 · exact⟨h.1,.inr ⟨g,cap,cur,hv,hb,(hg.block g (Vz hh) (fun q=>by injection q with q;exact hn g (by rw[hv];rfl) q)).trans hh,hr⟩⟩
theorem aJv {g t:Nat} {cs:List Value} (h:Bk w g t cs) (hg:w.grownBy wr (some go)) (hn:g≠go):Bk wr g t cs:=(hg.block g h.lt (fun q=>by injection q with q;exact hn q)).trans h
theorem aDf.but {most:Nat} {gs k:Nat} (h:aDf w Fs gs most k) (hg:w.grownBy wr (some go)) (hn:¬Fs go):aDf wr Fs gs most k:=by
 obtain⟨v,xs,⟨h1,h2,h3,h4,h5⟩,h6⟩:=h;exact⟨v,xs,⟨aJv h1 hg (fun e=>hn (e▸h4)),aGv h2 hg (fun g q e=>hn (e▸h5 g q)),h3,h4,h5⟩,h6⟩
theorem aDf.up {most:Nat} {gs k k':Nat} (h:aDf w Fs gs most k) (hk:k≤k'):aDf w Fs gs most k':=by
 obtain⟨v,xs,h1,h2⟩:=h;exact⟨v,xs,h1,tK h2 hk⟩
def aXf (rs:List RdD) (go:Nat):Prop:=∀r∈rs,∀ad,r.A=some ad→ad.block≠go
theorem Ka.but (h:Ka w F Fs vb gm bb sb nr at' rv rs) (hg:w.grownBy wr (some go)) (hn:¬F go) (ha:aXf rs go):Ka wr F Fs vb gm bb sb nr at' rv rs :=
 ⟨aJv h.bx hg (fun e=>hn (e▸h.f0)),h.set.but hg (fun q=>hn (h.sub _ q)),aGv h.own hg (fun g q e=>hn (e▸(h.fr g q).1)),fun r hr=>(h.y r hr).but hg (ha r hr),h.le,h.big,h.sub,h.ns,h.fr,h.f0⟩
theorem Ka.away (h:Ka w F Fs vb gm bb sb nr at' rv rs) (hn:w.heap.size≤go):aXf rs go:=fun r hr ad e q=>by
 obtain⟨ob,ho,_⟩:=(h.y r hr).y ad e (by decide);have:=Vz ho;omega
theorem Ka.push (h:Ka wA F Fs vb gm bb sb nr at' rv rs) (hI:In wA F) (hb:nD wA wB) (r:RdD) (hy:IsY wB r.A 40 r.c r.bs) (ho:wC.ownsRow 0 204 3 rv' (rs.length+1) (rs.flatMap RdD.cells++r.cells)) (hg:wB.grownBy wC rv.ownBlock)
  (hv:rv'.ownBlock=rv.ownBlock∨rv'.ownBlock=some wB.heap.size) (e:wD=wC.setCell ⟨vb,4,none⟩ rv') (hbig:nr+1≤100000) :
  Ka wD (orF F (fun b=>rv'.ownBlock=some b)) Fs vb gm bb sb (nr+1) at' rv' (rs++[r])∧Kf F wA wD∧Sb wA F (orF F (fun b=>rv'.ownBlock=some b))∧In wD (orF F (fun b=>rv'.ownBlock=some b)):=by
 have hB:=h.ag (.of_below hb);have kBC:Kf (fun b=>rv.ownBlock=some b) wB wC:=(Kf.refl _ wB).grown hB.own hg (fun g q=>.inl ⟨q,by decide⟩)
 have bC:Bk wC vb 246 [.pointer (some ⟨gm,0,none⟩),.pointer (some ⟨bb,0,none⟩),.int .i64 at',.pointer (some ⟨sb,0,none⟩),rv] :=
  Bk.ag (F:=fun b=>b=vb) hB.bx (kBC.ag (fun b q s=>by have q:b=vb:=q;subst q;exact Vc hB.own hB.bx (by decide) s)) rfl
 have kCD:Kf (fun b=>b=vb) wC wD:=by rw[e];exact(Kf.refl (fun b=>b=vb) wC).set bC (by decide) (.inl rfl) 4 rv'
 have hrvF:∀g,rv.ownBlock=some g→F g:=fun g q=>(h.fr g q).1
 have kall:Kf F wA wD:=((Kf.of_below (F:=F) hb).trans (G:=F) (kBC.mono hrvF) (fun b q=>.inl q)).trans (G:=F) (kCD.mono (fun b q=>by have q:b=vb:=q;rw[q];exact h.f0)) (fun b q=>.inl q)
 have hnew:∀g,rv'.ownBlock=some g→F g∧¬Fs g∨wA.heap.size≤g:=fun g q=>by
  rcases hv with s|s
  · exact .inl (h.fr g (s.symm.trans q))
  · rw[s] at q;injection q with q;have:=hb.size;exact .inr (by omega)
 have hsb:Sb wA F (orF F (fun b=>rv'.ownBlock=some b)):=fun b q=>q.elim .inl (fun s=>(hnew b s).imp And.left id)
 have yD:∀{A:Option Addr} {n c:Nat} {bs:List Int},IsY wB A n c bs→IsY wD A n c bs:=fun q=>(q.ag (F:=fun _=>False) (kBC.ag (fun _ s=>s.elim))).ag (F:=fun _=>False) (kCD.ag (fun _ s=>s.elim))
 refine⟨⟨?_,?_,?_,fun x hx=>?_,by rw[rH];have:=h.le;simp;omega,hbig,fun b q=>.inl (h.sub b q),h.ns,fun g q=>⟨.inr q,?_⟩,.inl h.f0⟩,kall,hsb,fun b q=>?_⟩
 · have:=bC.set 4 rv';rw[e];simpa using this
 · refine((hB.set.ag (kBC.ag (fun b q s=>(h.fr b s).2 q))).ag (kCD.ag (fun b q s=>?_))).up (tW _);have s:b=vb:=s;exact h.ns (s▸q)
 · have h1:=Vj (F:=fun b=>b≠vb) ho (kCD.ag (fun b q s=>q s)) (fun g q s=>Vc ho bC (by decide) (s▸q));rw[rH,rX];simpa using h1
 · rcases rE.1 hx with q|q
   · exact yD (hB.y x q)
   · obtain rfl:x=r:=by simpa using q
     exact yD hy
 · rcases hnew g q with s|s
   · exact s.2
   · intro t;have:=hI g (h.sub g t);omega
 · rcases q with q|q
   · exact tL (hI b q) kall.size
   · obtain⟨_,_,hh⟩:=Vx ho q;exact tL (Vz hh) kCD.size
end
theorem Ka.up {w:World} {F Fs:Xt} {vb gm bb sb nr m:Nat} {at':Int} {rv:Value} {rs:List RdD} (h:Ka w F Fs vb gm bb sb nr at' rv rs) (hm:nr≤m) (hb:m≤100000):Ka w F Fs vb gm bb sb m at' rv rs :=
 ⟨h.bx,h.set.up hm,h.own,h.y,tK h.le hm,hb,h.sub,h.ns,h.fr,h.f0⟩
end Go.Proofs.YtdhlicgaalnmoaaGreatDoor.Tp
