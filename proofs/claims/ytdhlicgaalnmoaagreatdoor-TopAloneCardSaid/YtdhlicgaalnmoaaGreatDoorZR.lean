/- Contracts of the program's functions, and laws on memory: a part of the proof of TopAlone. -/
import Derived.Test.YtdhlicgaalnmoaaGreatDoorZQ
set_option linter.unusedSimpArgs false
set_option linter.unusedVariables false
namespace Go.Proofs.YtdhlicgaalnmoaaGreatDoor.Tp
open Lib (hid)
open Tryz
open Go.RowKit Go.Maps
set_option maxHeartbeats 8000000
set_option maxRecDepth 100000
theorem bFd {w:World} {F:Xt} {sb g:Nat} {s:SS} (h:Ue w F sb s g) (hg:g+1≤700) {j:Nat} {cl:CLD} (hj:s.cls[j]? =some cl) {k e0:Nat} {b:BG} {t:TX} (hk:s.es[k]? =some e0) (hb:s.bg[k]? =some b) (ht:s.m.txs[k]? =some t) (hlt:∀(i:Nat) (b:BG),s.bg[i]? =some b→b.fr<s.ev) (hask:cl.asked=true→t.st≠1) (kd oh lba len:Int) {A:Option Addr} {n c:Nat} {ps:List Vd} (hp:Uh w A n c ps) (hn:n≤20000) (hkd:kd=2∨kd=3∨kd=4∨kd=5) :
  Calls prog 117 #[.pointer (some ⟨sb,0,none⟩),.pointer (some ⟨sb,2+j*4,none⟩),.pointer (some ⟨e0,0,none⟩),.agg #[.int .i64 kd,.int .i64 oh,.int .i64 lba,.int .i64 len,.slice A n c],.agg #[.int .i64 kd,.int .i64 0,.int .i64 oh,.int .i64 0,.slice none 0 0]] w fun e w'=>∃ok,caE w' ok e∧∃s',caR s cl.asked k b t kd n ps s' ok∧Uc w w' F sb s' (g+1):=by
 obtain⟨Ft,st,gd,alv,hx⟩:=h.x;obtain⟨g8,w1,hzw1,hw1,Bw1,bw1⟩:=Xy w 60 [.int .i64 kd,.int .i64 oh,.int .i64 lba,.int .i64 len,.slice A n c];obtain⟨g9,w2,hzw2,hw2,Bw2,bw2⟩:=Xy w1 63 [.int .i64 kd,.int .i64 0,.int .i64 oh,.int .i64 0,.slice none 0 0];obtain⟨g10,w3,hzw3,hw3,Bw3,bw3⟩:=Xy w2 63 [.int .i64 0,.int .i64 0,.int .i64 0,.int .i64 0,.slice none 0 0];have b13:nD w w3:=bw1.trans ((bw2.trans (bw3.mono bw2.size)).mono bw1.size);have X3:=(((ScX.of hx).push bw1 Bw1 (tO hzw1)).push bw2 Bw2 (tO hzw2)).push bw3 Bw3 (tO hzw3);obtain⟨F3,Ft3,hx3,hq3⟩:=X3.at_;obtain⟨Fs,gx,mb,gs,num,count,ns,hgx,hs⟩:=hx3.sto;obtain rfl:=aCw hgx;have HS:=hid hs;have HT:=hid ht;have HP:=nF (hp.next b13) hn;have H:=nM h hg hj hk hb ht hlt hask;have H3:=hid (fun (W w5:World) (hS:nD w3 W) (m':MS) (he:Ext s.m m') (hr:Kc W w5 (Ft3 1) st (Uj gd) s.pos m' (g+1))=>hq3 w5 s.pos m' (Kc.pre hS hr) he);have hS3:CaS sb e0 g8 (Vm (Uj gd) st s.cls alv s.ev) (Vr k b) [.int .i64 kd,.int .i64 oh,.int .i64 lba,.int .i64 len,.slice A n c] w3:=⟨hx3.bx,hx3.beg k e0 b hk hb,X3.bkAt (i:=0) rfl⟩;have KK:=hid (fun (w':World) (hS:nD w3 w')=>aNt (hS3.next hS));have KC:=hid (fun (w':World) (hS:CaS sb e0 g8 (Vm (Uj gd) st s.cls alv s.ev) (Vr k b) [.int .i64 kd,.int .i64 oh,.int .i64 lba,.int .i64 len,.slice A n c] w')=>aNt hS);have HX3:=hid X3;have HB3:=hid b13;have B93:Bk w3 g9 63 [.int .i64 kd,.int .i64 0,.int .i64 oh,.int .i64 0,.slice none 0 0]:=X3.bkAt (i:=1) rfl;obtain⟨n0,n1,n2,n3,n4⟩:=B93.c5;obtain⟨_,_,o0,o1,o2,o3,o4⟩:=aNt hS3;have hcm:=aWk (s:=s) (h.next b13) hg hj hk hb ht hlt hask kd oh;clear bw1 Bw1 bw2 Bw2 bw3 Bw3 h hg hj hx hk hb ht hlt hask hx3 hs hq3 hp hn X3 b13 B93;rcases hkd with rfl|rfl|rfl|rfl
 · have HK:=hid (show ∀w5,ScX w w5 F _ (ScP sb st gd alv s.cls s.es s.es s.bg s.m s.ev s.pos (g+1))→CaS sb e0 g8 (Vm (Uj gd) st s.cls alv s.ev) (Vr k b) [.int .i64 2,.int .i64 oh,.int .i64 lba,.int .i64 len,.slice A n c] w5 from fun w5 X=>by
    obtain⟨Fq,Fz,hq⟩:=X.sch;exact⟨hq.bx,hq.beg k e0 b H.o.2.2.2.1 H.o.2.2.2.2.1,X.bkAt (L:=[⟨g8,60,[.int .i64 2,.int .i64 oh,.int .i64 lba,.int .i64 len,.slice A n c]⟩,⟨g9,63,[.int .i64 2,.int .i64 0,.int .i64 oh,.int .i64 0,.slice none 0 0]⟩,⟨g10,63,[.int .i64 0,.int .i64 0,.int .i64 0,.int .i64 0,.slice none 0 0]⟩]) (i:=0) rfl⟩)
   clear hcm KK;go_enter func117,ntmps117
   go_wp2_with fail
   have Kq:=KC;refine Vn (CaS sb e0 g8 (Vm (Uj gd) st s.cls alv s.ev) (Vr k b) [.int .i64 2,.int .i64 oh,.int .i64 lba,.int .i64 len,.slice A n c]) [18,20] (by kernel_rfl) (⟨hS3.1.drew,hS3.2.1.drew,hS3.2.2.drew⟩) (fun nE=>?_);refine kR 0 ?_;refine kR 1 ?_;refine kR 2 ?_;refine kM 3 ?_;refine kR 4 ?_;refine kR 5 ?_;refine kR 6 ?_;refine kM 7 ?_;refine kR 8 ?_;refine kM 9 ?_;refine kR 10 ?_;refine kM 11 ?_;refine kR 12 ?_;refine rM 13 (fun K hK=>?_);go_simp;have hHeldB:nD w3 w3.drew:=Xu nB;refine(bGz (HS.o.next hHeldB) H.o.2.1 HT.o lba len).mono ?_;rintro e w5 ⟨⟨v5,r,rfl,bs,hby,hbl⟩,hr⟩;obtain⟨A5,c5,rfl,hy5⟩:=hby.isY;have HC:=nH (H3.o _ w5 hHeldB s.m (Ext.refl _) hr) hy5 hbl;clear hr hby hbl hy5;have B95:Bk w5 g9 63 [.int .i64 2,.int .i64 0,.int .i64 oh,.int .i64 0,.slice none 0 0]:=HC.o.1.bkAt (i:=1) rfl;have x1:=B95.cell (i:=1) (by simp);have x4:=B95.cell (i:=4) (by simp);simp only[tI,tJ] at x1 x4;have xf1:=B95.free 1;have xf4:=B95.free 4;obtain⟨w6,hw6⟩:=nC (w5.setCell ⟨g9,4,none⟩ (.slice A5 bs.length c5));have B96:Bk w6 g9 63 [.int .i64 2,.int .i64 0,.int .i64 oh,.int .i64 0,.slice A5 bs.length c5]:=by rw[←hw6];exact B95.set 4 _
   have x6:=B96.cell (i:=1) (by simp);simp only[tI,tJ] at x6;have xf6:=B96.free 1;obtain⟨w7,hw7⟩:=nC (w6.setCell ⟨g9,1,none⟩ (.int .i64 r));have H7:=hid ((HC.o.1.set (i:=1) rfl (by rw[←hw6];exact(Kf.refl (fun b=>b=g9) w5).set B95 (by decide) (.inl rfl) 4 _) B96).set (i:=1) rfl (by rw[←hw7];exact(Kf.refl (fun b=>b=g9) w6).set B96 (by decide) (.inl rfl) 1 _) (show Bk w7 g9 63 [.int .i64 2,.int .i64 r,.int .i64 oh,.int .i64 0,.slice A5 bs.length c5] by rw[←hw7];exact B96.set 1 _));have HY7:=hid (show IsY w7 A5 bs.length c5 bs by rw[←hw7,←hw6];exact(HC.o.2.1.ag (((Kf.refl (fun b=>b=g9) w5).set B95 (by decide) (.inl rfl) 4 _).ag (F:=fun _=>False) (fun b q=>q.elim))).ag (((Kf.refl (fun b=>b=g9) (w5.setCell ⟨g9,4,none⟩ (.slice A5 bs.length c5))).set (by rw[hw6];exact B96) (by decide) (.inl rfl) 1 _).ag (F:=fun _=>False) (fun b q=>q.elim)));have hS5:CaS sb e0 g8 (Vm (Uj gd) st s.cls alv s.ev) (Vr k b) [.int .i64 2,.int .i64 oh,.int .i64 lba,.int .i64 len,.slice A n c] w5:=HK.o w5 HC.o.1;clear B95 B96;go_simp;refine hK.out _ _ (fun _ _=>hS5) ?_;clear hK K nE;have nE:=hS5;try simp only[Act.put,tC,tD,tE]
   refine kR 14 ?_;refine kR 15 ?_;refine kR 16 ?_;refine kR 17 ?_;refine rM 18 (fun K hK=>?_);go_simp;try rw[hw6]
   refine hK.out _ _ (fun h=>absurd (by decide) h) ?_;clear hK K;try simp only[Act.put,tC,tD,tE]
   refine kR 19 ?_;refine rM 20 (fun K hK=>?_);go_simp;try rw[hw7]
   refine hK.out _ _ (fun h=>absurd (by decide) h) ?_;clear hK K;try simp only[Act.put,tC,tD,tE]
   refine Vs (by kernel_rfl) ?_ _;clear Kq;have X7:=H7.o;have B1:Bk w7 g9 63 [.int .i64 2,.int .i64 r,.int .i64 oh,.int .i64 0,.slice A5 bs.length c5]:=X7.bkAt (i:=1) rfl;have B2:Bk w7 g10 63 [.int .i64 0,.int .i64 0,.int .i64 0,.int .i64 0,.slice none 0 0]:=X7.bkAt (i:=2) rfl;obtain⟨d0,d1,d2,d3,d4⟩:=B1.c5;obtain⟨t0,t1,t2,t3,t4⟩:=B2.c5;have u0:=B2.free 0;have u1:=B2.free 1;have u2:=B2.free 2;have u3:=B2.free 3;have u4:=B2.free 4;obtain⟨w8,hw8⟩:=nC (W5 w7 g10 (.int .i64 2) (.int .i64 r) (.int .i64 oh) (.int .i64 0) (.slice A5 bs.length c5));have X8:=X7.set (i:=2) rfl (Vf B2 (by decide) hw8) (Vb B2 hw8);unfold W5 at hw8;have HE:=nH (show Bk w8 g10 63 [.int .i64 2,.int .i64 r,.int .i64 oh,.int .i64 0,.slice A5 bs.length c5] from X8.bkAt (i:=2) rfl) (aXw (asked:=cl.asked) (b:=b) (t:=t) (k:=k) (n:=n) (ps:=ps) X8 H.o.1) (HY7.o.ag ((Vf B2 (by decide) (show W5 _ _ _ _ _ _ _=w8 from hw8)).ag (F:=fun _=>False) (fun b q=>q.elim)));clear X7 X8 B1 B2 x1 xf1 x4 xf4 x6 xf6 n0 n1 n2 n3 n4 o0 o1 o2 o3 o4;go_wp2_with fail
   refine bodyPost_ret (Vu rfl _ _ _ _ (by rfl) HE.o.1) rfl ?_;exact⟨true,⟨_,_,_,_,A5,_,c5,bs,rfl,HE.o.2.2,tK HC.o.2.2 (by decide)⟩,HE.o.2.1⟩
 · clear hcm KC;go_enter func117,ntmps117
   go_wp2_with fail
   have Kq:=KK;refine Vn (fun w'=>nD w3 w') [10,12] (by kernel_rfl) (Xu nB) (fun nE=>?_);refine kR 0 ?_;refine kR 1 ?_;refine kR 2 ?_;refine kM 3 ?_;refine kR 4 ?_;refine kR 5 ?_;refine kR 6 ?_;refine kM 7 ?_;refine kR 8 ?_;refine kM 9 ?_;refine rM 10 (fun K hK=>?_);go_simp;refine(aWj (HS.o.next nE) H.o.2.1 HT.o (HP.o.1.next nE) HP.o.2).mono ?_;rintro e w5 ⟨r,rfl,m',hwr,hr⟩;have HC:=nF (H3.o _ w5 nE m' (aQo H.o.1.b.gm HT.o hwr).2.1 hr) hwr;clear hr hwr;have B95:Bk w5 g9 63 [.int .i64 3,.int .i64 0,.int .i64 oh,.int .i64 0,.slice none 0 0]:=HC.o.1.bkAt (i:=1) rfl;have x1:=B95.cell (i:=1) (by simp);simp only[tI,tJ] at x1;have xf1:=B95.free 1;obtain⟨w7,hw7⟩:=nC (w5.setCell ⟨g9,1,none⟩ (.int .i64 r));have H7:=hid (HC.o.1.set (i:=1) rfl (by rw[←hw7];exact(Kf.refl (fun b=>b=g9) w5).set B95 (by decide) (.inl rfl) 1 _) (show Bk w7 g9 63 [.int .i64 3,.int .i64 r,.int .i64 oh,.int .i64 0,.slice none 0 0] by rw[←hw7];exact B95.set 1 _));clear B95;go_simp;refine hK.out _ _ (fun h=>absurd (by decide) h) ?_;clear hK K;try simp only[Act.put,tC,tD,tE]
   refine kR 11 ?_;refine rM 12 (fun K hK=>?_);go_simp;try rw[hw7]
   refine hK.out _ _ (fun h=>absurd (by decide) h) ?_;clear hK K;try simp only[Act.put,tC,tD,tE]
   refine Vs (by kernel_rfl) ?_ _;clear Kq;have X7:=H7.o;have B1:Bk w7 g9 63 [.int .i64 3,.int .i64 r,.int .i64 oh,.int .i64 0,.slice none 0 0]:=X7.bkAt (i:=1) rfl;have B2:Bk w7 g10 63 [.int .i64 0,.int .i64 0,.int .i64 0,.int .i64 0,.slice none 0 0]:=X7.bkAt (i:=2) rfl;obtain⟨d0,d1,d2,d3,d4⟩:=B1.c5;obtain⟨t0,t1,t2,t3,t4⟩:=B2.c5;have u0:=B2.free 0;have u1:=B2.free 1;have u2:=B2.free 2;have u3:=B2.free 3;have u4:=B2.free 4;obtain⟨w8,hw8⟩:=nC (W5 w7 g10 (.int .i64 3) (.int .i64 r) (.int .i64 oh) (.int .i64 0) (.slice none 0 0));have X8:=X7.set (i:=2) rfl (Vf B2 (by decide) hw8) (Vb B2 hw8);unfold W5 at hw8;have HE:=nF (show Bk w8 g10 63 [.int .i64 3,.int .i64 r,.int .i64 oh,.int .i64 0,.slice none 0 0] from X8.bkAt (i:=2) rfl) (aTx (asked:=cl.asked) (b:=b) X8 H.o.1 HT.o HC.o.2);clear X7 X8 B1 B2 x1 xf1 n0 n1 n2 n3 n4 o0 o1 o2 o3 o4;go_wp2_with fail
   refine bodyPost_ret (Vu rfl _ _ _ _ (by rfl) HE.o.1) rfl ?_;exact⟨true,⟨_,_,_,_,none,0,0,[],rfl,IsY.nil _ 0 zL,zL⟩,HE.o.2⟩
 · have B10:Bk w3 g10 63 [.int .i64 0,.int .i64 0,.int .i64 0,.int .i64 0,.slice none 0 0]:=HX3.o.bkAt (i:=2) rfl;have HB10:=nF B10 (HX3.o.ge _ (tZ (i:=2) rfl));clear KC KK B10;go_enter func117,ntmps117
   go_wp2_with fail
   refine hcm.mono ?_;rintro e w4 ⟨ok,⟨xop,xco,xh,xt,rfl⟩,s',hco,hsr⟩;have B4:Bk w4 g10 63 [.int .i64 0,.int .i64 0,.int .i64 0,.int .i64 0,.slice none 0 0]:=hsr.bk H.o.1.inn HB10.o.2 HB10.o.1;obtain⟨r0,r1,r2,r3,r4⟩:=B4.c5;have p0:=B4.free 0;have p1:=B4.free 1;have p2:=B4.free 2;have p3:=B4.free 3;have p4:=B4.free 4;obtain⟨w5,hw5⟩:=nC (W5 w4 g10 (.int .i64 xop) (.int .i64 xco) (.int .i64 xh) (.int .i64 xt) (.slice none 0 0));have HE:=nF (Vb B4 hw5) (show ∃s',caR s cl.asked k b t 4 n ps s' ok∧Uc w w5 F sb s' (g+1) from⟨s',.inr (.inr (.inl ⟨rfl,hco⟩)),hsr.loc HB3.o H.o.1.inn ⟨HB10.o.2,HB10.o.1.lt⟩ (Vf B4 (by decide) hw5)⟩);unfold W5 at hw5;clear hcm B4 hsr hco n0 n1 n2 n3 n4 o0 o1 o2 o3 o4;go_wp2_with fail
   refine bodyPost_ret (Vu rfl _ _ _ _ (by rfl) HE.o.1) rfl ?_;exact⟨ok,⟨_,_,_,_,none,0,0,[],rfl,IsY.nil _ 0 zL,zL⟩,HE.o.2⟩
 · clear hcm KC;go_enter func117,ntmps117
   go_wp2_with fail
   have Kq:=KK;refine Vn (fun w'=>nD w3 w') [8,10] (by kernel_rfl) (Xu nB) (fun nE=>?_);refine kR 0 ?_;refine kR 1 ?_;refine kR 2 ?_;refine kM 3 ?_;refine kR 4 ?_;refine kR 5 ?_;refine kR 6 ?_;refine kM 7 ?_;refine rM 8 (fun K hK=>?_);go_simp;refine(bEv (HS.o.next nE) H.o.2.1 HT.o).mono ?_;rintro e w5 ⟨r,rfl,hr⟩
   obtain⟨m',hab,hX⟩:∃m',abR s.m k t r m'∧ScX _ w5 _ _ (ScP sb st gd alv s.cls s.es s.es s.bg m' s.ev s.pos (g+1)):=by
    rcases hr with ⟨h1,h2,h3⟩|⟨h1,h2,h3⟩
    · exact⟨_,.inl ⟨h1,h2,rfl⟩,H3.o _ w5 nE _ (H.o.1.b.gm.put (t':={t with st:=4,time:=0}) HT.o h1 rfl (H.o.1.b.gm.rng k t HT.o).2.2 (.inr (.inl rfl))).2 h3⟩
    · exact⟨_,.inr ⟨h1,h2,rfl⟩,H3.o _ w5 nE _ (Ext.refl _) h3⟩
   have HC:=nF hX hab;clear hr hX;have B95:Bk w5 g9 63 [.int .i64 5,.int .i64 0,.int .i64 oh,.int .i64 0,.slice none 0 0]:=HC.o.1.bkAt (i:=1) rfl;have x1:=B95.cell (i:=1) (by simp);simp only[tI,tJ] at x1;have xf1:=B95.free 1;obtain⟨w7,hw7⟩:=nC (w5.setCell ⟨g9,1,none⟩ (.int .i64 r));have H7:=hid (HC.o.1.set (i:=1) rfl (by rw[←hw7];exact(Kf.refl (fun b=>b=g9) w5).set B95 (by decide) (.inl rfl) 1 _) (show Bk w7 g9 63 [.int .i64 5,.int .i64 r,.int .i64 oh,.int .i64 0,.slice none 0 0] by rw[←hw7];exact B95.set 1 _));clear B95;go_simp;refine hK.out _ _ (fun h=>absurd (by decide) h) ?_;clear hK K;try simp only[Act.put,tC,tD,tE]
   refine kR 9 ?_;refine rM 10 (fun K hK=>?_);go_simp;try rw[hw7]
   refine hK.out _ _ (fun h=>absurd (by decide) h) ?_;clear hK K;try simp only[Act.put,tC,tD,tE]
   refine Vs (by kernel_rfl) ?_ _;clear Kq;have X7:=H7.o;have B17:Bk w7 g9 63 [.int .i64 5,.int .i64 r,.int .i64 oh,.int .i64 0,.slice none 0 0]:=X7.bkAt (i:=1) rfl;have y1:=B17.cell (i:=1) (by simp);simp only[tI,tJ] at y1;clear B17 x1 xf1 n0 n1 n2 n3 n4 o0 o1 o2 o3 o4;rcases(show r=0∨r=5 from HC.o.2.elim (fun q=>.inl q.2.1) (fun q=>.inr q.2.1)) with rfl|rfl
   · obtain⟨F7,Ft7,hx7⟩:=X7.sch;have v35:=hx7.at_ev;have hb7:=hx7.beg k e0 b H.o.2.2.2.1 H.o.2.2.2.2.1;have z2:w7.cell? ⟨e0,2,none⟩=some (.int .i64 (b.til:Int)):=hb7.cell (i:=2) (by simp[Vr]);have zf:=hb7.free 2;obtain⟨w8,hw8⟩:=nC (w7.setCell ⟨e0,2,none⟩ (.int .i64 (s.ev:Int)));have X8:=X7.told H.o.2.2.2.1 H.o.2.2.2.2.1 hw8.symm;have B1:Bk w8 g9 63 [.int .i64 5,.int .i64 0,.int .i64 oh,.int .i64 0,.slice none 0 0]:=X8.bkAt (i:=1) rfl;have B2:Bk w8 g10 63 [.int .i64 0,.int .i64 0,.int .i64 0,.int .i64 0,.slice none 0 0]:=X8.bkAt (i:=2) rfl;obtain⟨d0,d1,d2,d3,d4⟩:=B1.c5;obtain⟨t0,t1,t2,t3,t4⟩:=B2.c5;have u0:=B2.free 0;have u1:=B2.free 1;have u2:=B2.free 2;have u3:=B2.free 3;have u4:=B2.free 4;obtain⟨w9,hw9⟩:=nC (W5 w8 g10 (.int .i64 5) (.int .i64 0) (.int .i64 oh) (.int .i64 0) (.slice none 0 0));have X9:=X8.set (i:=2) rfl (Vf B2 (by decide) hw9) (Vb B2 hw9);unfold W5 at hw9;have HE:=nF (show Bk w9 g10 63 [.int .i64 5,.int .i64 0,.int .i64 oh,.int .i64 0,.slice none 0 0] from X9.bkAt (i:=2) rfl) (aRa (asked:=cl.asked) (n:=n) (ps:=ps) X9 H.o.1 HT.o HC.o.2 H.o.2.2.2.2.1 H.o.2.2.2.2.2.2.1);clear X7 X8 X9 B1 B2 hx7 hb7;go_wp2_with fail
     refine bodyPost_ret (Vu rfl _ _ _ _ (by rfl) HE.o.1) rfl ?_;exact .inr ⟨⟨_,_,_,_,none,0,0,[],rfl,IsY.nil _ 0 zL,zL⟩,HE.o.2⟩
   · skip;have B1:Bk w7 g9 63 [.int .i64 5,.int .i64 5,.int .i64 oh,.int .i64 0,.slice none 0 0]:=X7.bkAt (i:=1) rfl;have B2:Bk w7 g10 63 [.int .i64 0,.int .i64 0,.int .i64 0,.int .i64 0,.slice none 0 0]:=X7.bkAt (i:=2) rfl;obtain⟨d0,d1,d2,d3,d4⟩:=B1.c5;obtain⟨t0,t1,t2,t3,t4⟩:=B2.c5;have u0:=B2.free 0;have u1:=B2.free 1;have u2:=B2.free 2;have u3:=B2.free 3;have u4:=B2.free 4;obtain⟨w8,hw8⟩:=nC (W5 w7 g10 (.int .i64 5) (.int .i64 5) (.int .i64 oh) (.int .i64 0) (.slice none 0 0));have X8:=X7.set (i:=2) rfl (Vf B2 (by decide) hw8) (Vb B2 hw8);unfold W5 at hw8;have HE:=nF (show Bk w8 g10 63 [.int .i64 5,.int .i64 5,.int .i64 oh,.int .i64 0,.slice none 0 0] from X8.bkAt (i:=2) rfl) (aQz (asked:=cl.asked) (b:=b) (n:=n) (ps:=ps) X8 H.o.1 HT.o HC.o.2);clear X7 X8 B1 B2;go_wp2_with fail
     refine bodyPost_ret (Vu rfl _ _ _ _ (by rfl) HE.o.1) rfl ?_;exact .inr ⟨⟨_,_,_,_,none,0,0,[],rfl,IsY.nil _ 0 zL,zL⟩,HE.o.2⟩
def doR (s:SS) (j:Nat) (cl:CLD) (kd oh:Int) (n:Nat) (ps:List Vd) (s':SS) (ok:Bool):Prop :=
 (kd=1∧ok=true∧bgR s j cl s')∨(kd≠1∧ok=true∧s'=s∧((kd=2∨kd=3∨kd=4∨kd=5)→∀i:Nat,oh=(i:Int)→cl.bgs[i]? =none))∨
 (∃(i k:Nat) (b:BG) (t:TX),oh=(i:Int)∧cl.bgs[i]? =some k∧s.bg[k]? =some b∧s.m.txs[k]? =some t∧caR s cl.asked k b t kd n ps s' ok)
section
variable {w w5:World} {g t:Nat} {a0 a1 a2 a3 a4:Value}
theorem aKt {F:Xt} {sb g k e:Nat} {s:SS} (h:Ue w F sb s g) (he:s.es[k]? =some e):∃b t,s.bg[k]? =some b∧s.m.txs[k]? =some t:=by
 obtain⟨Ft,st,gd,alv,hx⟩:=h.x;have h1:=hx.len;have h2:=h.b.len;have h3:=Vi he;exact⟨_,_,tX (by omega),tX (by omega)⟩
end
theorem aCh {w:World} {F:Xt} {sb g j:Nat} {s:SS} {cl:CLD} {kd oh:Int} {n:Nat} {ps:List Vd} {w0:World} {xop xco xh xt:Int} {A:Option Addr} {m c:Nat} {bs:List Int} {ok:Bool} (hy:IsY w A m c bs) (hn:m≤1000000) (h:∃s',doR s j cl kd oh n ps s' ok∧Uc w0 w F sb s' (g+1)) :
  ∃ok',caE w ok' (.returned (.tuple #[.agg #[.int .i64 xop,.int .i64 xco,.int .i64 xh,.int .i64 xt,.slice A m c],.bool ok]))∧∃s',doR s j cl kd oh n ps s' ok'∧Uc w0 w F sb s' (g+1) :=
 ⟨ok,⟨_,_,_,_,_,_,_,bs,rfl,hy,hn⟩,h⟩
theorem bId {w:World} {F:Xt} {sb g:Nat} {s:SS} (h:Ue w F sb s g) (hg:g+1≤700) {j:Nat} {cl:CLD} (hj:s.cls[j]? =some cl) (hlt:∀(i:Nat) (b:BG),s.bg[i]? =some b→b.fr<s.ev) (kd oh lba len:Int) {A:Option Addr} {n c:Nat} {ps:List Vd} (hask:cl.asked=true→∃(i k:Nat) (t:TX),oh=(i:Int)∧cl.bgs[i]? =some k∧s.m.txs[k]? =some t∧t.st≠1) (hp:Uh w A n c ps) (hn:n≤20000) :
  Calls prog 56 #[.pointer (some ⟨sb,0,none⟩),.pointer (some ⟨sb,2+j*4,none⟩),.agg #[.int .i64 kd,.int .i64 oh,.int .i64 lba,.int .i64 len,.slice A n c]] w fun e w'=>∃ok,caE w' ok e∧∃s',doR s j cl kd oh n ps s' ok∧Uc w w' F sb s' (g+1):=by
 obtain⟨Ft,st,gd,alv,hx⟩:=h.x;obtain⟨g5,w1,hzw1,hw1,Bw1,bw1⟩:=Xy w 60 [.int .i64 kd,.int .i64 oh,.int .i64 lba,.int .i64 len,.slice A n c];obtain⟨g6,w2,hzw2,hw2,Bw2,bw2⟩:=Xy w1 63 [.int .i64 0,.int .i64 0,.int .i64 0,.int .i64 0,.slice none 0 0];obtain⟨r0,r1,r2,r3,r4⟩:=Bw2.c5;have p0:=Bw2.free 0;have p1:=Bw2.free 1;have p2:=Bw2.free 2;have p3:=Bw2.free 3;have p4:=Bw2.free 4;have B52:Bk w2 g5 60 [.int .i64 kd,.int .i64 oh,.int .i64 lba,.int .i64 len,.slice A n c]:=Bw1.next bw2 Bw1.lt;obtain⟨d0,d1,d2,d3,d4⟩:=B52.c5;obtain⟨w3,hw3⟩:=nC (W5 w2 g6 (.int .i64 kd) (.int .i64 0) (.int .i64 oh) (.int .i64 0) (.slice none 0 0));have B63:=Vb Bw2 hw3;have b13:nD w w3:=aAo (bw1.trans (bw2.mono bw1.size)) (by rw[←hzw2];exact bw1.size) hw3;have B53:Bk w3 g5 60 [.int .i64 kd,.int .i64 oh,.int .i64 lba,.int .i64 len,.slice A n c]:=aGo B52 (Nat.ne_of_lt (by have:=Bw1.lt;omega)) hw3;obtain⟨o0,o1,o2,o3,o4⟩:=B53.c5;obtain⟨x0,x1,x2,x3,x4⟩:=B63.c5;have y0:=B63.free 0;have y1:=B63.free 1;have y2:=B63.free 2;have y3:=B63.free 3;have y4:=B63.free 4;have hg5:w.heap.size≤g5:=tO hzw1;have hg6:w.heap.size≤g6:=by rw[←hzw2];exact bw1.size
 have h3:=h.next b13;have hbl:cl.bgs.length≤1000:=tK (h.num cl (tZ hj)).2 (tK h.big (by decide));have hps:=hp.next b13;obtain⟨F3,st3,gd3,alv3,hx3⟩:=h3.x;have H:=nP h hg hj hlt hask hps hn h3 b13 hg6 B63 B53;have HB13:=hid b13;have HG6:=hid hg6;have HB63:=hid B63;have hat:=aXx hx3 hj hbl oh;have hbe:=bAp h3 hg hj kd oh;have HCall:=hid (fun (k e0:Nat) (b:BG) (t:TX) (hk:s.es[k]? =some e0) (hb:s.bg[k]? =some b) (ht:s.m.txs[k]? =some t) (ha:cl.asked=true→t.st≠1) (hkd:kd=2∨kd=3∨kd=4∨kd=5)=>bFd h3 hg hj hk hb ht hlt ha kd oh lba len hps hn hkd);unfold W5 at hw3;clear bw1 Bw1 bw2 Bw2 h hg hj hx hlt hask hp hn B63 b13 h3 hps hx3 B52 B53 hbl hg5 hg6;by_cases k1:kd=1
 · subst k1;clear hat HCall;go_enter func56,ntmps56
   go_wp2_with fail
   go_step3;go_wp2_with fail
   refine hbe.mono ?_;rintro e w4 ⟨⟨xco,xh,xt,rfl⟩,s',hbg,hsr⟩;clear hbe;have B64:Bk w4 g6 63 [.int .i64 1,.int .i64 0,.int .i64 oh,.int .i64 0,.slice none 0 0]:=hsr.bk H.o.1.inn HG6.o HB63.o;obtain⟨s0,s1,s2,s3,s4⟩:=B64.c5;have t0:=B64.free 0;have t1:=B64.free 1;have t2:=B64.free 2;have t3:=B64.free 3;have t4:=B64.free 4;obtain⟨w5,hw5⟩:=nC (W5 w4 g6 (.int .i64 1) (.int .i64 xco) (.int .i64 xh) (.int .i64 xt) (.slice none 0 0));have HE:=nF (Vb B64 hw5) (show ∃s',doR s j cl 1 oh n ps s' true∧Uc w w5 F sb s' (g+1) from⟨s',.inl ⟨rfl,rfl,hbg⟩,hsr.loc HB13.o H.o.1.inn ⟨HG6.o,HB63.o.lt⟩ (Vf B64 (by decide) hw5)⟩);unfold W5 at hw5;clear B64 hsr hbg;go_wp2_with fail
   (try simp only[Exit.noGoto,Exit.inBlock,Exit.then,Exit.noGoto_ret])
   refine bodyPost_ret (Vu rfl _ _ _ _ (by rfl) HE.o.1) rfl ?_;exact aCh (IsY.nil _ 0 zL) zL HE.o.2
 · by_cases k5:kd=2∨kd=3∨kd=4∨kd=5
   · clear hbe;rcases k5 with rfl|rfl|rfl|rfl
     · clear k1;go_enter func56,ntmps56
       go_wp2_with fail
       go_step3;go_wp2_with fail
       refine hat.mono ?_;rintro e w' ⟨har,rfl⟩;clear hat;rcases har with ⟨i,k,x,rfl,hk,hx,rfl⟩|⟨e1,rfl⟩
       · obtain⟨b,t,hb,ht⟩:=aKt H.o.1 hx;unfold Uj
         go_wp2_with fail
         go_step3;go_wp2_with fail
         refine(HCall.o k x b t hx hb ht (fun q=>by
          obtain⟨i',k',t',e1,e2,e3,e4⟩:=H.o.2.2.2.2.1 q;have ei:i'=i:=by omega
          subst ei;rw[hk] at e2;injection e2 with e2;subst e2;rw[ht] at e3;injection e3 with e3;subst e3;exact e4) (by decide)).mono ?_
         rintro e w4 ⟨ok,⟨xop,xco,xh,xt,A4,n4,c4,bs4,rfl,hy4,hn4⟩,s',hca,hsr⟩;have B64:Bk w4 g6 63 [.int .i64 2,.int .i64 0,.int .i64 (i:Int),.int .i64 0,.slice none 0 0]:=hsr.bk H.o.1.inn HG6.o HB63.o;obtain⟨s0,s1,s2,s3,s4⟩:=B64.c5;have t0:=B64.free 0;have t1:=B64.free 1;have t2:=B64.free 2;have t3:=B64.free 3;have t4:=B64.free 4;obtain⟨w5,hw5⟩:=nC (W5 w4 g6 (.int .i64 xop) (.int .i64 xco) (.int .i64 xh) (.int .i64 xt) (.slice A4 n4 c4));have HE:=nI (Vb B64 hw5) (show ∃s',doR s j cl 2 (i:Int) n ps s' ok∧Uc w w5 F sb s' (g+1) from⟨s',.inr (.inr ⟨i,k,b,t,rfl,hk,hb,ht,hca⟩),hsr.loc HB13.o H.o.1.inn ⟨HG6.o,HB63.o.lt⟩ (Vf B64 (by decide) hw5)⟩) (hy4.ag ((Vf B64 (by decide) hw5).ag (F:=fun _=>False) (fun b q=>q.elim))) hn4;unfold W5 at hw5;clear B64 hsr hca hy4 hn4;go_wp2_with fail
         (try simp only[Exit.noGoto,Exit.inBlock,Exit.then,Exit.noGoto_ret])
         refine bodyPost_ret (Vu rfl _ _ _ _ (by rfl) HE.o.1) rfl ?_;exact aCh HE.o.2.2.1 HE.o.2.2.2 HE.o.2.1
       · have HE1:=hid e1;clear e1;go_wp2_with fail
         go_step3;obtain⟨w4,hw4⟩:=nC (w3.setCell ⟨g6,1,none⟩ (.int .i64 5));have B64:Bk w4 g6 63 [.int .i64 2,.int .i64 5,.int .i64 oh,.int .i64 0,.slice none 0 0]:=by rw[←hw4];exact HB63.o.set 1 _
         obtain⟨s0,s1,s2,s3,s4⟩:=B64.c5;have t0:=B64.free 0;have t1:=B64.free 1;have t2:=B64.free 2;have t3:=B64.free 3;have t4:=B64.free 4;obtain⟨w5,hw5⟩:=nC (W5 w4 g6 (.int .i64 2) (.int .i64 5) (.int .i64 oh) (.int .i64 0) (.slice none 0 0));have HE:=nF (Vb B64 hw5) (Uc.same H.o.1 H.o.2.1 (aAo (aBk HB13.o HG6.o hw4) HG6.o hw5));unfold W5 at hw5;clear B64;go_wp2_with fail
         (try simp only[Exit.noGoto,Exit.inBlock,Exit.then,Exit.noGoto_ret])
         refine bodyPost_ret (Vu rfl _ _ _ _ (by rfl) HE.o.1) rfl ?_;exact aCh (IsY.nil _ 0 zL) zL ⟨s,.inr (.inl ⟨by decide,rfl,rfl,fun _=>HE1.o⟩),HE.o.2⟩
     · clear k1;go_enter func56,ntmps56
       go_wp2_with fail
       go_step3;go_wp2_with fail
       refine hat.mono ?_;rintro e w' ⟨har,rfl⟩;clear hat;rcases har with ⟨i,k,x,rfl,hk,hx,rfl⟩|⟨e1,rfl⟩
       · obtain⟨b,t,hb,ht⟩:=aKt H.o.1 hx;unfold Uj
         go_wp2_with fail
         go_step3;go_wp2_with fail
         refine(HCall.o k x b t hx hb ht (fun q=>by
          obtain⟨i',k',t',e1,e2,e3,e4⟩:=H.o.2.2.2.2.1 q;have ei:i'=i:=by omega
          subst ei;rw[hk] at e2;injection e2 with e2;subst e2;rw[ht] at e3;injection e3 with e3;subst e3;exact e4) (by decide)).mono ?_
         rintro e w4 ⟨ok,⟨xop,xco,xh,xt,A4,n4,c4,bs4,rfl,hy4,hn4⟩,s',hca,hsr⟩;have B64:Bk w4 g6 63 [.int .i64 3,.int .i64 0,.int .i64 (i:Int),.int .i64 0,.slice none 0 0]:=hsr.bk H.o.1.inn HG6.o HB63.o;obtain⟨s0,s1,s2,s3,s4⟩:=B64.c5;have t0:=B64.free 0;have t1:=B64.free 1;have t2:=B64.free 2;have t3:=B64.free 3;have t4:=B64.free 4;obtain⟨w5,hw5⟩:=nC (W5 w4 g6 (.int .i64 xop) (.int .i64 xco) (.int .i64 xh) (.int .i64 xt) (.slice A4 n4 c4));have HE:=nI (Vb B64 hw5) (show ∃s',doR s j cl 3 (i:Int) n ps s' ok∧Uc w w5 F sb s' (g+1) from⟨s',.inr (.inr ⟨i,k,b,t,rfl,hk,hb,ht,hca⟩),hsr.loc HB13.o H.o.1.inn ⟨HG6.o,HB63.o.lt⟩ (Vf B64 (by decide) hw5)⟩) (hy4.ag ((Vf B64 (by decide) hw5).ag (F:=fun _=>False) (fun b q=>q.elim))) hn4;unfold W5 at hw5;clear B64 hsr hca hy4 hn4;go_wp2_with fail
         (try simp only[Exit.noGoto,Exit.inBlock,Exit.then,Exit.noGoto_ret])
         refine bodyPost_ret (Vu rfl _ _ _ _ (by rfl) HE.o.1) rfl ?_;exact aCh HE.o.2.2.1 HE.o.2.2.2 HE.o.2.1
       · have HE1:=hid e1;clear e1;go_wp2_with fail
         go_step3;obtain⟨w4,hw4⟩:=nC (w3.setCell ⟨g6,1,none⟩ (.int .i64 5));have B64:Bk w4 g6 63 [.int .i64 3,.int .i64 5,.int .i64 oh,.int .i64 0,.slice none 0 0]:=by rw[←hw4];exact HB63.o.set 1 _
         obtain⟨s0,s1,s2,s3,s4⟩:=B64.c5;have t0:=B64.free 0;have t1:=B64.free 1;have t2:=B64.free 2;have t3:=B64.free 3;have t4:=B64.free 4;obtain⟨w5,hw5⟩:=nC (W5 w4 g6 (.int .i64 3) (.int .i64 5) (.int .i64 oh) (.int .i64 0) (.slice none 0 0));have HE:=nF (Vb B64 hw5) (Uc.same H.o.1 H.o.2.1 (aAo (aBk HB13.o HG6.o hw4) HG6.o hw5));unfold W5 at hw5;clear B64;go_wp2_with fail
         (try simp only[Exit.noGoto,Exit.inBlock,Exit.then,Exit.noGoto_ret])
         refine bodyPost_ret (Vu rfl _ _ _ _ (by rfl) HE.o.1) rfl ?_;exact aCh (IsY.nil _ 0 zL) zL ⟨s,.inr (.inl ⟨by decide,rfl,rfl,fun _=>HE1.o⟩),HE.o.2⟩
     · clear k1;go_enter func56,ntmps56
       go_wp2_with fail
       go_step3;go_wp2_with fail
       refine hat.mono ?_;rintro e w' ⟨har,rfl⟩;clear hat;rcases har with ⟨i,k,x,rfl,hk,hx,rfl⟩|⟨e1,rfl⟩
       · obtain⟨b,t,hb,ht⟩:=aKt H.o.1 hx;unfold Uj
         go_wp2_with fail
         go_step3;go_wp2_with fail
         refine(HCall.o k x b t hx hb ht (fun q=>by
          obtain⟨i',k',t',e1,e2,e3,e4⟩:=H.o.2.2.2.2.1 q;have ei:i'=i:=by omega
          subst ei;rw[hk] at e2;injection e2 with e2;subst e2;rw[ht] at e3;injection e3 with e3;subst e3;exact e4) (by decide)).mono ?_
         rintro e w4 ⟨ok,⟨xop,xco,xh,xt,A4,n4,c4,bs4,rfl,hy4,hn4⟩,s',hca,hsr⟩;have B64:Bk w4 g6 63 [.int .i64 4,.int .i64 0,.int .i64 (i:Int),.int .i64 0,.slice none 0 0]:=hsr.bk H.o.1.inn HG6.o HB63.o;obtain⟨s0,s1,s2,s3,s4⟩:=B64.c5;have t0:=B64.free 0;have t1:=B64.free 1;have t2:=B64.free 2;have t3:=B64.free 3;have t4:=B64.free 4;obtain⟨w5,hw5⟩:=nC (W5 w4 g6 (.int .i64 xop) (.int .i64 xco) (.int .i64 xh) (.int .i64 xt) (.slice A4 n4 c4));have HE:=nI (Vb B64 hw5) (show ∃s',doR s j cl 4 (i:Int) n ps s' ok∧Uc w w5 F sb s' (g+1) from⟨s',.inr (.inr ⟨i,k,b,t,rfl,hk,hb,ht,hca⟩),hsr.loc HB13.o H.o.1.inn ⟨HG6.o,HB63.o.lt⟩ (Vf B64 (by decide) hw5)⟩) (hy4.ag ((Vf B64 (by decide) hw5).ag (F:=fun _=>False) (fun b q=>q.elim))) hn4;unfold W5 at hw5;clear B64 hsr hca hy4 hn4;go_wp2_with fail
         (try simp only[Exit.noGoto,Exit.inBlock,Exit.then,Exit.noGoto_ret])
         refine bodyPost_ret (Vu rfl _ _ _ _ (by rfl) HE.o.1) rfl ?_;exact aCh HE.o.2.2.1 HE.o.2.2.2 HE.o.2.1
       · have HE1:=hid e1;clear e1;go_wp2_with fail
         go_step3;obtain⟨w4,hw4⟩:=nC (w3.setCell ⟨g6,1,none⟩ (.int .i64 5));have B64:Bk w4 g6 63 [.int .i64 4,.int .i64 5,.int .i64 oh,.int .i64 0,.slice none 0 0]:=by rw[←hw4];exact HB63.o.set 1 _
         obtain⟨s0,s1,s2,s3,s4⟩:=B64.c5;have t0:=B64.free 0;have t1:=B64.free 1;have t2:=B64.free 2;have t3:=B64.free 3;have t4:=B64.free 4;obtain⟨w5,hw5⟩:=nC (W5 w4 g6 (.int .i64 4) (.int .i64 5) (.int .i64 oh) (.int .i64 0) (.slice none 0 0));have HE:=nF (Vb B64 hw5) (Uc.same H.o.1 H.o.2.1 (aAo (aBk HB13.o HG6.o hw4) HG6.o hw5));unfold W5 at hw5;clear B64;go_wp2_with fail
         (try simp only[Exit.noGoto,Exit.inBlock,Exit.then,Exit.noGoto_ret])
         refine bodyPost_ret (Vu rfl _ _ _ _ (by rfl) HE.o.1) rfl ?_;exact aCh (IsY.nil _ 0 zL) zL ⟨s,.inr (.inl ⟨by decide,rfl,rfl,fun _=>HE1.o⟩),HE.o.2⟩
     · clear k1;go_enter func56,ntmps56
       go_wp2_with fail
       go_step3;go_wp2_with fail
       refine hat.mono ?_;rintro e w' ⟨har,rfl⟩;clear hat;rcases har with ⟨i,k,x,rfl,hk,hx,rfl⟩|⟨e1,rfl⟩
       · obtain⟨b,t,hb,ht⟩:=aKt H.o.1 hx;unfold Uj
         go_wp2_with fail
         go_step3;go_wp2_with fail
         refine(HCall.o k x b t hx hb ht (fun q=>by
          obtain⟨i',k',t',e1,e2,e3,e4⟩:=H.o.2.2.2.2.1 q;have ei:i'=i:=by omega
          subst ei;rw[hk] at e2;injection e2 with e2;subst e2;rw[ht] at e3;injection e3 with e3;subst e3;exact e4) (by decide)).mono ?_
         rintro e w4 ⟨ok,⟨xop,xco,xh,xt,A4,n4,c4,bs4,rfl,hy4,hn4⟩,s',hca,hsr⟩;have B64:Bk w4 g6 63 [.int .i64 5,.int .i64 0,.int .i64 (i:Int),.int .i64 0,.slice none 0 0]:=hsr.bk H.o.1.inn HG6.o HB63.o;obtain⟨s0,s1,s2,s3,s4⟩:=B64.c5;have t0:=B64.free 0;have t1:=B64.free 1;have t2:=B64.free 2;have t3:=B64.free 3;have t4:=B64.free 4;obtain⟨w5,hw5⟩:=nC (W5 w4 g6 (.int .i64 xop) (.int .i64 xco) (.int .i64 xh) (.int .i64 xt) (.slice A4 n4 c4));have HE:=nI (Vb B64 hw5) (show ∃s',doR s j cl 5 (i:Int) n ps s' ok∧Uc w w5 F sb s' (g+1) from⟨s',.inr (.inr ⟨i,k,b,t,rfl,hk,hb,ht,hca⟩),hsr.loc HB13.o H.o.1.inn ⟨HG6.o,HB63.o.lt⟩ (Vf B64 (by decide) hw5)⟩) (hy4.ag ((Vf B64 (by decide) hw5).ag (F:=fun _=>False) (fun b q=>q.elim))) hn4;unfold W5 at hw5;clear B64 hsr hca hy4 hn4;go_wp2_with fail
         (try simp only[Exit.noGoto,Exit.inBlock,Exit.then,Exit.noGoto_ret])
         refine bodyPost_ret (Vu rfl _ _ _ _ (by rfl) HE.o.1) rfl ?_;exact aCh HE.o.2.2.1 HE.o.2.2.2 HE.o.2.1
       · have HE1:=hid e1;clear e1;go_wp2_with fail
         go_step3;obtain⟨w4,hw4⟩:=nC (w3.setCell ⟨g6,1,none⟩ (.int .i64 5));have B64:Bk w4 g6 63 [.int .i64 5,.int .i64 5,.int .i64 oh,.int .i64 0,.slice none 0 0]:=by rw[←hw4];exact HB63.o.set 1 _
         obtain⟨s0,s1,s2,s3,s4⟩:=B64.c5;have t0:=B64.free 0;have t1:=B64.free 1;have t2:=B64.free 2;have t3:=B64.free 3;have t4:=B64.free 4;obtain⟨w5,hw5⟩:=nC (W5 w4 g6 (.int .i64 5) (.int .i64 5) (.int .i64 oh) (.int .i64 0) (.slice none 0 0));have HE:=nF (Vb B64 hw5) (Uc.same H.o.1 H.o.2.1 (aAo (aBk HB13.o HG6.o hw4) HG6.o hw5));unfold W5 at hw5;clear B64;go_wp2_with fail
         (try simp only[Exit.noGoto,Exit.inBlock,Exit.then,Exit.noGoto_ret])
         refine bodyPost_ret (Vu rfl _ _ _ _ (by rfl) HE.o.1) rfl ?_;exact aCh (IsY.nil _ 0 zL) zL ⟨s,.inr (.inl ⟨by decide,rfl,rfl,fun _=>HE1.o⟩),HE.o.2⟩
   · have n2:¬kd=2:=fun q=>k5 (.inl q)
     have n3:¬kd=3:=fun q=>k5 (.inr (.inl q))
     have n4:¬kd=4:=fun q=>k5 (.inr (.inr (.inl q)))
     have n5:¬kd=5:=fun q=>k5 (.inr (.inr (.inr q)))
     have HK:=nF k1 k5;clear hbe HCall k5;go_enter func56,ntmps56
     go_wp2_with fail
     go_step3;go_wp2_with fail
     refine hat.mono ?_;rintro e w' ⟨har,rfl⟩;clear hat;rcases har with ⟨i,k,x,-,-,-,rfl⟩|⟨-,rfl⟩
     all_goals
      go_wp2_with fail
      go_step3;obtain⟨w4,hw4⟩:=nC (w3.setCell ⟨g6,1,none⟩ (.int .i64 1));have B64:Bk w4 g6 63 [.int .i64 kd,.int .i64 1,.int .i64 oh,.int .i64 0,.slice none 0 0]:=by rw[←hw4];exact HB63.o.set 1 _
      obtain⟨s0,s1,s2,s3,s4⟩:=B64.c5;have t0:=B64.free 0;have t1:=B64.free 1;have t2:=B64.free 2;have t3:=B64.free 3;have t4:=B64.free 4;obtain⟨w5,hw5⟩:=nC (W5 w4 g6 (.int .i64 kd) (.int .i64 1) (.int .i64 oh) (.int .i64 0) (.slice none 0 0));have HE:=nF (Vb B64 hw5) (Uc.same H.o.1 H.o.2.1 (aAo (aBk HB13.o HG6.o hw4) HG6.o hw5));unfold W5 at hw5;clear B64;go_wp2_with fail
      (try simp only[Exit.noGoto,Exit.inBlock,Exit.then,Exit.noGoto_ret])
      refine bodyPost_ret (Vu rfl _ _ _ _ (by rfl) HE.o.1) rfl ?_;exact aCh (IsY.nil _ 0 zL) zL ⟨s,.inr (.inl ⟨HK.o.1,rfl,rfl,fun q=>absurd q HK.o.2⟩),HE.o.2⟩
def stR (s:SS) (j:Nat) (cl:CLD) (r:Int) (s':SS):Prop :=
 (cl.ops=[]∧r=14∧s'={s with ev:=s.ev+1})∨
 ∃o l s2 ok cl2,cl.ops=o::l∧doR {s with ev:=s.ev+1} j cl o.kind o.h o.n o.ps s2 ok∧s2.cls[j]? =some cl2∧cl2.bgs=(if o.kind=1 then cl2.bgs else cl.bgs)∧
  ((ok=false∧r=16∧s'={s2 with cls:=s2.cls.set j {cl2 with asked:=true}})∨
   (ok=true∧r=0∧∃ov' av',s'={s2 with cls:=s2.cls.set j {cl2 with ov:=ov',ops:=l,asked:=false,av:=av',na:=cl2.na+1}}))
theorem bBo {s s2:SS} {j:Nat} {cl:CLD} {kd oh:Int} {n:Nat} {ps:List Vd} {ok:Bool} (hj:s.cls[j]? =some cl) (h:doR s j cl kd oh n ps s2 ok) :
  ∃cl2,s2.cls[j]? =some cl2∧cl2.ov=cl.ov∧cl2.av=cl.av∧cl2.asked=cl.asked∧cl2.ops=cl.ops∧cl2.na=cl.na∧cl2.bgs=(if kd=1 then cl2.bgs else cl.bgs):=by
 have same:s2.cls=s.cls→∃cl2,s2.cls[j]? =some cl2∧cl2.ov=cl.ov∧cl2.av=cl.av∧cl2.asked=cl.asked∧cl2.ops=cl.ops∧cl2.na=cl.na∧cl2.bgs=(if kd=1 then cl2.bgs else cl.bgs):=fun e=>⟨cl,by rw[e];exact hj,rfl,rfl,rfl,rfl,rfl,by split<;>rfl⟩
 rcases h with ⟨k1,_,⟨_,rfl⟩|⟨e,bv',rfl⟩⟩|⟨_,_,rfl,_⟩|⟨i,k,b,t,_,_,_,_,hc⟩
 · exact same rfl
 · refine⟨{cl with bv:=bv',bgs:=cl.bgs++[s.es.length]},by show (s.cls.set j _)[j]? =_;rw[rD,if_pos rfl,if_pos (Vi hj)],rfl,rfl,rfl,rfl,rfl,?_⟩;rw[if_pos k1]
 · exact same rfl
 · rcases hc with ⟨_,_,rfl⟩|⟨_,_,r,m',_,rfl⟩|⟨_,r,m',t',_,_,⟨_,_,_,rfl⟩|⟨_,_,rfl⟩|⟨_,_,rfl⟩⟩|⟨_,_,r,m',_,rfl|rfl⟩<;>exact same rfl
theorem aYg {s s2:SS} {j:Nat} {cl:CLD} {kd oh:Int} {n:Nat} {ps:List Vd} (h:doR s j cl kd oh n ps s2 false) :
  s2.cls=s.cls∧kd=4∧∃(i k:Nat) (t:TX),oh=(i:Int)∧cl.bgs[i]? =some k∧s2.m.txs[k]? =some t∧t.st≠1:=by
 rcases h with ⟨_,q,_⟩|⟨_,q,_⟩|⟨i,k,b,t,e1,e2,e3,e4,hc⟩
 · cases q
 · cases q
 · rcases hc with ⟨_,q,_⟩|⟨_,q,_⟩|⟨k4,r,m',t',_,ht',⟨_,_,h2,rfl⟩|⟨q,_⟩|⟨q,_⟩⟩|⟨_,q,_⟩
   · cases q
   · cases q
   · exact⟨rfl,k4,i,k,t',e1,e2,ht',by rw[h2];decide⟩
   · cases q
   · cases q
   · cases q
section
variable {wb w w' w5:World} {F0 F:Xt} {Ft:Nat→Xt} {L:List LcD} {sb st gd g pos ev j:Nat} {alv dp:Value} {cls:List CLD} {al es:List Nat} {bg:List BG} {m:MS} {s:SS} {c c':CLD}
theorem Vo.recd (h:Vo w F Ft sb st dp alv cls al es bg m ev pos g) (hj:cls[j]? =some c) (hx:ClX w (Ft (3+j)) c' m es) (k6:Kf (fun b=>b=sb) w w') (hb:Bk w' sb 85 (Vm dp st (cls.set j c') alv ev)) :
  ∃F' Ft',Vo w' F' Ft' sb st dp alv (cls.set j c') al es bg m ev pos g∧Kf F w w'∧Sb w F F'∧In w' F' :=
 h.cld hj (.refl _ _) (.refl _ _) (h.fam.inn _) hx k6 hb
theorem ScX.asks (h:ScX wb w F0 L (ScP sb st gd alv cls al es bg m ev pos g)) (hj:cls[j]? =some c) {o:OpD} {l:List OpD} (ho:c.ops=o::l) (hk:o.kind=4) {i k:Nat} {t:TX} (e1:o.h=(i:Nat)) (e2:c.bgs[i]? =some k) (e3:m.txs[k]? =some t) (e4:t.st≠1) (e:w.setCell ⟨sb,2+j*4+3,none⟩ (.bool true)=w') :
  ScX wb w' F0 L (ScP sb st gd alv (cls.set j {c with asked:=true}) al es bg m ev pos g) :=
 h.step fun F Ft hp=>by
  have hp:Vo w F Ft sb st (Uj gd) alv cls al es bg m ev pos g:=hp;have hb:=hp.bx.set (2+(j*4+3)) (.bool true);rw[aDo (c':={c with asked:=true}) hp.cl8 hj (by decide) rfl] at hb;exact hp.recd hj ((hp.cl j c hj).asks ho hk e1 e2 e3 e4) (by rw[←e];exact(Kf.refl (fun b=>b=sb) w).set hp.bx (by decide) (.inl rfl) _ _) (by rw[←e];exact hb)
theorem ScX.tailc (h:ScX wb w F0 L (ScP sb st gd alv cls al es bg m ev pos g)) (hj:cls[j]? =some c) {o:OpD} {l:List OpD} (ho:c.ops=o::l) {gq off cap:Nat} (hov:c.ov=.slice (some ⟨gq,off,none⟩) (l.length+1) cap) {ov':Value} (hov':ov'=.slice (some ⟨gq,if cap=1 then off else off+5,none⟩) l.length (cap - 1)) (e:(w.setCell ⟨sb,2+j*4,none⟩ ov').setCell ⟨sb,2+j*4+3,none⟩ (.bool false)=w') :
  ScX wb w' F0 L (ScP sb st gd alv (cls.set j {c with ov:=ov',ops:=l,asked:=false}) al es bg m ev pos g) :=
 h.step fun F Ft hp=>by
  have hp:Vo w F Ft sb st (Uj gd) alv cls al es bg m ev pos g:=hp;have hb:=hp.bx.set (2+(j*4+0)) ov';rw[aDo (c':={c with ov:=ov',ops:=l}) hp.cl8 hj (by decide) rfl] at hb;have k1:Kf (fun b=>b=sb) w (w.setCell ⟨sb,2+j*4,none⟩ ov'):=(Kf.refl (fun b=>b=sb) w).set hp.bx (by decide) (.inl rfl) _ _;have hb2:=hb.set (2+(j*4+3)) (.bool false);rw[aDo (cls:=cls.set j {c with ov:=ov',ops:=l}) (c:={c with ov:=ov',ops:=l}) (c':={c with ov:=ov',ops:=l,asked:=false}) (by rw[rK];exact hp.cl8) (by rw[rD,if_pos rfl,if_pos (Vi hj)]) (by decide) rfl,List.set_set] at hb2;exact hp.recd hj ((hp.cl j c hj).tail ho hov hov') (by rw[←e];exact k1.set hb (by decide) (.inl rfl) _ _) (by rw[←e];exact hb2)
theorem ScX.answ (h:ScX wb w F0 L (ScP sb st gd alv cls al es bg m ev pos g)) (hj:cls[j]? =some c) {av':Value} {xs ys:List Value} (ha:w.ownsRow 0 63 5 c.av c.na xs) (ho:w5.ownsRow 0 63 5 av' (c.na+1) ys) (hg:w.grownBy w5 c.av.ownBlock) (hv:av'.ownBlock=c.av.ownBlock∨av'.ownBlock=some w.heap.size) (e:w5.setCell ⟨sb,2+j*4+2,none⟩ av'=w') :
  ScX wb w' F0 L (ScP sb st gd alv (cls.set j {c with av:=av',na:=c.na+1}) al es bg m ev pos g) :=
 h.step fun F Ft hp=>Vo.ansc hp hj ha ho hg hv e.symm
end
section
variable {wb w w':World} {F0:Xt} {L:List LcD} {sb st gd g:Nat} {alv:Value} {s:SS}
theorem ScX.evd (h:ScX wb w F0 L (ScP sb st gd alv s.cls s.es s.es s.bg s.m s.ev s.pos g)) (e:w.setCell ⟨sb,35,none⟩ (.int .i64 ((s.ev:Int)+1))=w'):ScX wb w' F0 L (ScP sb st gd alv s.cls s.es s.es s.bg s.m (s.ev+1) s.pos g) :=
 h.step fun F Ft hp=>by
  obtain⟨h1,h2⟩:=Vo.evd hp e.symm;exact⟨F,Ft,h1,h2,.refl _ _,h1.fam.lt⟩
theorem ScX.atB (h:ScX wb w F0 L (ScP sb st gd alv s.cls s.es s.es s.bg s.m s.ev s.pos g)) (hb:aBe s.m s.bg s.ev) (he:s.ev≤g) (hn:∀c∈s.cls,c.na≤g∧c.bgs.length≤g) :
  ∃F,Ue w F sb s g∧∀(w':World) (s2:SS) (g2:Nat),Uc w w' F sb s2 g2→aBe s2.m s2.bg s2.ev∧s2.ev≤g2∧(∀c∈s2.cls,c.na≤g2∧c.bgs.length≤g2)∧∃st2 gd2 alv2,ScX wb w' F0 L (ScP sb st2 gd2 alv2 s2.cls s2.es s2.es s2.bg s2.m s2.ev s2.pos g2):=by
 obtain⟨F,Ft,hp,h1,h2,h3,h4⟩:=h.p;refine⟨F,⟨⟨Ft,st,gd,alv,hp⟩,hb,he,hn⟩,fun w' s2 g2 hr=>?_⟩;obtain⟨F',⟨⟨Ft',st2,gd2,alv2,hx⟩,b1,b2,b3⟩,k1,k2,k3⟩:=hr;refine⟨b1,b2,b3,st2,gd2,alv2,?_⟩;have h0:ScX wb w F0 L (fun w2 F2 Ft2=>F2=F):=⟨⟨F,Ft,rfl,h1,h2,h3,h4⟩,h.bk,h.ge,h.nd⟩;refine h0.step fun F2 Ft2 q=>?_
 subst q;exact⟨F',Ft',hx,k1,k2,k3⟩
end
theorem aPx {P:CLD→Prop} {cls:List CLD} {j:Nat} {c':CLD} (h:∀c∈cls,P c) (hc:P c'):∀c∈cls.set j c',P c:=fun c hm=>by
 rcases List.mem_or_eq_of_mem_set hm with q|rfl
 · exact h c q
 · exact hc
theorem aWt {w w':World} {F:Xt} {L:List LcD} {sb st gd g j:Nat} {alv:Value} {s s2:SS} {cl cl2:CLD} {o:OpD} {l:List OpD} {ov' av':Value}
  (X:ScX w w' F L (ScP sb st gd alv (s2.cls.set j {cl2 with ov:=ov',ops:=l,asked:=false,av:=av',na:=cl2.na+1}) s2.es s2.es s2.bg s2.m s2.ev s2.pos (g+1+1))) (b1:aBe s2.m s2.bg s2.ev) (b2:s2.ev≤g+1+1) (b3:∀c∈s2.cls,c.na≤g+1+1∧c.bgs.length≤g+1+1) (hj:s2.cls[j]? =some cl2) (ho:cl.ops=o::l) (hd:doR {s with ev:=s.ev+1} j cl o.kind o.h o.n o.ps s2 true) (hb:cl2.bgs=(if o.kind=1 then cl2.bgs else cl.bgs)) (hg:g+1+1≤700) (hna:cl2.na+1≤g+1+1) :
  ∃s',stR s j cl 0 s'∧Uc w w' F sb s' (g+1+1) :=
 ⟨{s2 with cls:=s2.cls.set j {cl2 with ov:=ov',ops:=l,asked:=false,av:=av',na:=cl2.na+1}},.inr ⟨o,l,s2,true,cl2,ho,hd,hj,hb,.inr ⟨rfl,rfl,ov',av',rfl⟩⟩,ScX.fin (s:={s2 with cls:=s2.cls.set j {cl2 with ov:=ov',ops:=l,asked:=false,av:=av',na:=cl2.na+1}}) X b1 b2 (aPx (P:=fun c=>c.na≤g+1+1∧c.bgs.length≤g+1+1) b3 ⟨hna,(b3 cl2 (tZ hj)).2⟩)⟩
def StS (sb g7:Nat) (cs vs:List Value) (w:World):Prop:=Bk w sb 85 cs∧Bk w g7 63 vs
theorem StS.next {w w':World} {sb g7:Nat} {cs vs:List Value} (h:StS sb g7 cs vs w) (hb:nD w w'):StS sb g7 cs vs w':=⟨h.1.next hb h.1.lt,h.2.next hb h.2.lt⟩
theorem StS.grown {w w':World} {sb g7 B n:Nat} {cs vs xs:List Value} {v:Value} (h:StS sb g7 cs vs w) (ho:w.ownsRow B 63 5 v n xs) (hG:w.grownBy w' v.ownBlock) (hn:v.ownBlock≠some g7):StS sb g7 cs vs w' :=
 ⟨(hG.block _ h.1.lt (fun e=>by
  obtain⟨_,_,h1⟩:=Vx ho e.symm;exact absurd (aAp h1 h.1) (by decide))).trans h.1,(hG.block _ h.2.lt (fun e=>hn e.symm)).trans h.2⟩
theorem aMh {w:World} {F:Xt} {c:CLD} {m:MS} {es:List Nat} (h:ClX w F c m es) {o:OpD} {l:List OpD} (ho:c.ops=o::l):∃gq off cap,c.ov=.slice (some ⟨gq,off,none⟩) (l.length+1) cap∧l.length+1≤cap∧
  w.cell? ⟨gq,off,none⟩=some (.int .i64 o.kind)∧w.cell? ⟨gq,off+1,none⟩=some (.int .i64 o.h)∧w.cell? ⟨gq,off+2,none⟩=some (.int .i64 o.lba)∧w.cell? ⟨gq,off+3,none⟩=some (.int .i64 o.len)∧w.cell? ⟨gq,off+4,none⟩=some (.slice o.A o.n o.c):=by
 have hops:=h.ops;rw[ho] at hops;rcases hops.one with ⟨_,q⟩|⟨gq,off,cap,cur,hv,_,hc,_,_,hx⟩
 · cases q
 · have at_:∀j u,j<5→o.cells[j]? =some u→w.cell? ⟨gq,off+j,none⟩=some u:=fun j u hj hu=>hx j u (by rw[show (o::l).flatMap OpD.cells=o.cells++l.flatMap OpD.cells from rfl,rO (by rw[aEb];exact hj)];exact hu)
   exact⟨gq,off,cap,hv,hc,at_ 0 _ (by decide) rfl,at_ 1 _ (by decide) rfl,at_ 2 _ (by decide) rfl,at_ 3 _ (by decide) rfl,at_ 4 _ (by decide) rfl⟩
def stE (r:Int) (e:Ending):Prop:=∃av,e=.returned (.tuple #[av,.int .i64 r])
theorem aMs {w:World} {F:Xt} {sb g:Nat} {s:SS} (h:Ue w F sb s g) {k:Int} (hk:k<1∨8<k) :
  Calls prog 24 #[.pointer (some ⟨sb,0,none⟩),.int .i64 k] w fun e w'=>stE 1 e∧nD w w':=by
 obtain⟨g4,w1,hzw1,hw1,Bw1,bw1⟩:=Xy w 63 [.int .i64 0,.int .i64 0,.int .i64 0,.int .i64 0,.slice none 0 0];obtain⟨Ft,st,gd,alv,hx⟩:=(h.next bw1).x;have hc:=aHw hx.at_st hk;obtain⟨r0,r1,r2,r3,r4⟩:=Bw1.c5;have p0:=Bw1.free 0;have p1:=Bw1.free 1;have p2:=Bw1.free 2;have p3:=Bw1.free 3;have p4:=Bw1.free 4;obtain⟨w2,hw2⟩:=nC (W5 w1 g4 (.int .i64 0) (.int .i64 0) (.int .i64 0) (.int .i64 0) (.slice none 0 0));have HE:=nF (Vb Bw1 hw2) (aAo bw1 (tO hzw1) hw2);unfold W5 at hw2;clear h hx hk Bw1 bw1;go_enter func24,ntmps24
 go_wp2_with fail
 refine hc.mono ?_;rintro e w' ⟨rfl,rfl⟩;clear hc;go_wp2_with fail
 refine bodyPost_ret (Vu rfl _ _ _ _ (by rfl) HE.o.1) rfl ?_;exact⟨⟨_,rfl⟩,HE.o.2⟩
theorem aOt {w:World} {F:Xt} {sb g:Nat} {s:SS} (h:Ue w F sb s g) (hg:g+1+1≤700) {j:Nat} {cl:CLD} (hj:s.cls[j]? =some cl) (hsm:∀o∈cl.ops,o.n≤20000) :
  Calls prog 24 #[.pointer (some ⟨sb,0,none⟩),.int .i64 ((j:Int)+1)] w fun e w'=>∃r,stE r e∧∃s',stR s j cl r s'∧Uc w w' F sb s' (g+1+1):=by
 obtain⟨xi,xz,hxi,hxz,hx5,hx56,hxc⟩:=aUw;obtain⟨Ft,st,gd,alv,hx⟩:=h.x;have hc8:=h.c8;obtain⟨g4,w1,hzw1,hw1,Bw1,bw1⟩:=Xy w 63 [.int .i64 0,.int .i64 0,.int .i64 0,.int .i64 0,.slice none 0 0];have X1:=(ScX.of hx).push bw1 Bw1 (tO hzw1);obtain⟨F1,Ft1,hx1⟩:=X1.sch;have hc:=aGg hx1.at_st (by rw[←hc8];exact Vi hj);have zG:=hx1.at_ev;have f35:=hx1.bx.free 35;have m2:=aHv (ev:=s.ev) (tK h.ev (tK h.big (by decide)));obtain⟨w2,hw2⟩:=nC (w1.setCell ⟨sb,35,none⟩ (.int .i64 ((s.ev:Int)+1)));have X2:=X1.evd hw2;obtain⟨F2,Ft2,hx2⟩:=X2.sch;obtain⟨z0,z1,z2,z3⟩:=hx2.cl1 hj;have hcl2:=hx2.cl j cl hj;have H:=nJ h hg hj hsm X2;clear h hg hx hx1 hx2 X1 X2 bw1 Bw1 hc8
 match hops:cl.ops with
 | [] =>
   obtain⟨oA,oc,hov,-⟩:=hcl2.ops.shape;rw[hops] at hov;rw[hov] at z0;have B4:Bk w2 g4 63 [.int .i64 0,.int .i64 0,.int .i64 0,.int .i64 0,.slice none 0 0]:=H.o.2.2.2.2.bkAt (i:=0) rfl;obtain⟨r0,r1,r2,r3,r4⟩:=B4.c5;have p0:=B4.free 0;have p1:=B4.free 1;have p2:=B4.free 2;have p3:=B4.free 3;have p4:=B4.free 4;obtain⟨w3,hw3⟩:=nC (W5 w2 g4 (.int .i64 0) (.int .i64 0) (.int .i64 0) (.int .i64 0) (.slice none 0 0));have X3:=H.o.2.2.2.2.set (i:=0) rfl (Vf B4 (by decide) hw3) (Vb B4 hw3);have HE:=nF (Vb B4 hw3) (show Uc w w3 F sb {s with ev:=s.ev+1} (g+1+1) from Uc.up (ScX.fin (s:={s with ev:=s.ev+1}) (X3.up (Nat.le_of_succ_le H.o.2.1)) H.o.1.b.next (tS H.o.1.ev) (aCv (s:=s) H.o.1)) H.o.2.1);have HR:=hid (show stR s j cl 14 {s with ev:=s.ev+1} from .inl ⟨hops,rfl,rfl⟩);unfold W5 at hw3;clear B4 X3 hcl2 hops hsm z1 z2 z3;go_enter func24,ntmps24
   go_wp2_with fail
   refine hc.mono ?_;rintro e w' ⟨rfl,rfl⟩;clear hc;go_wp2_with fail
   refine bodyPost_ret (Vu rfl _ _ _ _ (by rfl) HE.o.1) rfl ?_;exact⟨14,⟨_,rfl⟩,_,HR.o,HE.o.2⟩
 | o::l =>
   obtain⟨gq,off,cap,hov,hcap,o0,o1,o2,o3,o4⟩:=aMh hcl2 hops;rw[hov] at z0;have nu1:(1:Int)≤(l.length:Int)+1:=by omega
   have nu2:(l.length:Int)+1≤(cap:Int):=by omega
   have nu3:(1:Int)≤(cap:Int):=by omega
   have nu4:¬((l.length:Int)+1=0):=by omega
   have nu5:(0:Int)<(l.length:Int)+1:=by omega
   have X2:=(H.o.2.2.2.2).up (Nat.le_of_succ_le H.o.2.1);obtain⟨FB,hB2,hatB⟩:=ScX.atB (s:={s with ev:=s.ev+1}) X2 H.o.1.b.next (show s.ev+1≤g+1 from tS H.o.1.ev) (aCv (s:=s) H.o.1)
   have hdo:=bId hB2 H.o.2.1 H.o.2.2.1 (fun i b hb=>Nat.lt_succ_of_le (H.o.1.b.ev i b hb).1) o.kind o.h o.lba o.len (A:=o.A) (n:=o.n) (c:=o.c) (ps:=o.ps)
    (fun q=>by
     obtain⟨o',l',e1,_,i,k,t,e2,e3,e4,e5⟩:=hcl2.ask q;rw[hops] at e1;injection e1 with e1 _;subst e1;exact⟨i,k,t,e2,e3,e4,e5⟩) (hcl2.puts o (by rw[hops];exact rQ)) (H.o.2.2.2.1 o (by rw[hops];exact rQ))
   have HA:=hid hatB;have HO:=nF hops hov;clear X2 hB2 hatB hcl2 hops hsm hov z1 z2 z3;go_enter func24,ntmps24
   go_wp2_with fail
   refine hc.mono ?_;rintro e w' ⟨rfl,rfl⟩;clear hc;go_wp2_with fail
   refine hdo.mono ?_;rintro e w3 ⟨ok,⟨xop,xco,xh,xt,A3,n3,k3,bs3,rfl,hy3,hn3⟩,s2,hdr,hsr⟩;obtain⟨b1,b2,b3,st2,gd2,alv2,X3⟩:=HA.o w3 s2 _ hsr;obtain⟨cl2,hj2,q1,q2,q3,q4,q5,q6⟩:=bBo (s:={s with ev:=s.ev+1}) H.o.2.2.1 hdr;obtain⟨g7,w4,hzw4,hw4,Bw4,bw4⟩:=Xy w3 63 [.int .i64 0,.int .i64 0,.int .i64 0,.int .i64 0,.slice none 0 0];have X4:=X3.push bw4 Bw4 (tO hzw4);obtain⟨r0,r1,r2,r3,r4⟩:=Bw4.c5;have p0:=Bw4.free 0;have p1:=Bw4.free 1;have p2:=Bw4.free 2;have p3:=Bw4.free 3;have p4:=Bw4.free 4;obtain⟨w5,hw5⟩:=nC (W5 w4 g7 (.int .i64 xop) (.int .i64 xco) (.int .i64 xh) (.int .i64 xt) (.slice A3 n3 k3));have X5:=X4.set (i:=1) rfl (Vf Bw4 (by decide) hw5) (Vb Bw4 hw5);have hy5:=(hy3.ag (F:=fun _=>False) (.of_below bw4)).ag ((Vf Bw4 (by decide) hw5).ag (F:=fun _=>False) (fun b q=>q.elim));obtain⟨F5,Ft5,hx5⟩:=X5.sch;obtain⟨y0,y1,y2,y3⟩:=hx5.cl1 hj2;rw[q1,HO.o.2] at y0;have fb:=hx5.bx.free (2+j*4);have fb3:=hx5.bx.free (2+j*4+3);have H5:=nM X5 hj2 b1 b2 b3 hdr hy5 hn3;have HQ:=nK q1 q2 q3 q4 q5 q6;unfold W5 at hw5;clear hdo hsr X3 X4 X5 hx5 hj2 b1 b2 b3 hdr hy3 hy5 hn3 Bw4 bw4 q1 q2 q3 q4 q5 q6 z0
   cases ok with
   | false =>
     obtain⟨_,k4,i,k,t,e1,e2,e3,e4⟩:=aYg H5.o.2.2.2.2.2.1;obtain⟨w6,hw6⟩:=nC (w5.setCell ⟨sb,2+j*4+3,none⟩ (.bool true));have X6:=H5.o.1.asks H5.o.2.1 (HQ.o.2.2.2.1.trans HO.o.1) k4 e1 (by rw[HQ.o.2.2.2.2.2,if_neg (by rw[k4];decide)];exact e2) e3 e4 hw6;have B4:Bk w6 g4 63 [.int .i64 0,.int .i64 0,.int .i64 0,.int .i64 0,.slice none 0 0]:=X6.bkAt (i:=0) rfl;obtain⟨t0,t1,t2,t3,t4⟩:=B4.c5;have u0:=B4.free 0;have u1:=B4.free 1;have u2:=B4.free 2;have u3:=B4.free 3;have u4:=B4.free 4;obtain⟨w7,hw7⟩:=nC (W5 w6 g4 (.int .i64 0) (.int .i64 0) (.int .i64 0) (.int .i64 0) (.slice none 0 0));have X7:=X6.set (i:=0) rfl (Vf B4 (by decide) hw7) (Vb B4 hw7);have HE:=nF (Vb B4 hw7) (show Uc w w7 F sb {s2 with cls:=s2.cls.set j {cl2 with asked:=true}} (g+1+1) from ScX.fin (s:={s2 with cls:=s2.cls.set j {cl2 with asked:=true}}) X7 H5.o.2.2.1 H5.o.2.2.2.1 (aPx (P:=fun c=>c.na≤g+1+1∧c.bgs.length≤g+1+1) H5.o.2.2.2.2.1 (H5.o.2.2.2.2.1 cl2 (tZ H5.o.2.1))));have HR:=hid (show stR s j cl 16 {s2 with cls:=s2.cls.set j {cl2 with asked:=true}} from .inr ⟨o,l,s2,false,cl2,HO.o.1,H5.o.2.2.2.2.2.1,H5.o.2.1,HQ.o.2.2.2.2.2,.inl ⟨rfl,rfl,rfl⟩⟩);unfold W5 at hw7;clear e1 e2 e3 e4 k4 X6 X7 B4 nu1 nu2 nu3 nu4 nu5;go_wp2_with fail
     refine bodyPost_ret (Vu rfl _ _ _ _ (by rfl) HE.o.1) rfl ?_;exact⟨16,⟨_,rfl⟩,_,HR.o,HE.o.2⟩
   | true =>
     by_cases hc1:cap=1
     · subst hc1;have HL0:=hid (show l.length=0 by omega);obtain⟨w6,hw6⟩:=nC ((w5.setCell ⟨sb,2+j*4,none⟩ (.slice (some ⟨gq,off,none⟩) 0 (0))).setCell ⟨sb,2+j*4+3,none⟩ (.bool false));have X6:=H5.o.1.tailc H5.o.2.1 (HQ.o.2.2.2.1.trans HO.o.1) (HQ.o.1.trans HO.o.2) (ov':=.slice (some ⟨gq,off,none⟩) 0 (0)) (by first|rw[if_neg hc1]|rw[if_pos rfl,HL0.o]) hw6;have HJ6:=hid (show (s2.cls.set j {cl2 with ov:=.slice (some ⟨gq,off,none⟩) 0 (0),ops:=l,asked:=false})[j]? =some {cl2 with ov:=.slice (some ⟨gq,off,none⟩) 0 (0),ops:=l,asked:=false} by rw[rD,if_pos rfl,if_pos (Vi H5.o.2.1)]);have HX6:=hid X6;obtain⟨F5,Ft5,hx5⟩:=H5.o.1.sch;have HY6:=hid (H5.o.2.2.2.2.2.2.1.ag ((show Kf (fun b=>b=sb) w5 w6 by rw[←hw6];exact((Kf.refl (fun b=>b=sb) w5).set hx5.bx (by decide) (.inl rfl) _ _).set (hx5.bx.set _ _) (by decide) (.inl rfl) _ _).ag (F:=fun _=>False) (fun b q=>q.elim)));clear hx5;obtain⟨F6,Ft6,hx6⟩:=X6.sch;obtain⟨xs8,ha6⟩:=(hx6.cl j _ HJ6.o).ans;obtain⟨aA,ac,hav⟩:=Xs ha6;have hav2:cl2.av=.slice aA cl2.na ac:=hav;have HAV:=hid hav2;have HR6:=hid (show w6.ownsRow 0 63 5 (.slice aA cl2.na ac) cl2.na xs8 from hav2▸ha6);have B76:Bk w6 g7 63 [.int .i64 xop,.int .i64 xco,.int .i64 xh,.int .i64 xt,.slice A3 n3 k3]:=X6.bkAt (i:=1) rfl;obtain⟨cs,ecs⟩:=nC (Vm (Uj gd2) st2 (s2.cls.set j {cl2 with ov:=.slice (some ⟨gq,off,none⟩) 0 (0),ops:=l,asked:=false}) alv2 s2.ev);have HS6:=hid (show StS sb g7 cs [.int .i64 xop,.int .i64 xco,.int .i64 xh,.int .i64 xt,.slice A3 n3 k3] w6 from⟨by rw[←ecs];exact hx6.bx,B76⟩);have ecj:cs[2+(j*4+2)]? =some (.slice aA cl2.na ac):=by rw[←ecs,←hav2];exact aCq hx6.cl8 HJ6.o (by decide) rfl
       have KS:=hid (fun (w':World) (hS:StS sb g7 cs [.int .i64 xop,.int .i64 xco,.int .i64 xh,.int .i64 xt,.slice A3 n3 k3] w')=>nS (show w'.cell? ⟨sb,2+j*4+2,none⟩=some (.slice aA cl2.na ac) from Bk.at' hS.1 ecj) (aCu hS.2));have HN:=hid (show cl2.na≤702 from tK (H5.o.2.2.2.2.1 cl2 (tZ H5.o.2.1)).1 (tK H.o.2.1 (by decide)));clear X6 hx6 ha6 hav hav2 B76 ecs ecj;go_wp2_with fail
       have Kq:=KS;refine Vn (StS sb g7 cs [.int .i64 xop,.int .i64 xco,.int .i64 xh,.int .i64 xt,.slice A3 n3 k3]) [10] (by kernel_rfl) (⟨HS6.o.1.drew,HS6.o.2.drew⟩) (fun nE=>?_);refine kR 0 ?_;refine kR 1 ?_;refine kR 2 ?_;refine kR 3 ?_;refine kM 4 ?_;refine kM 5 ?_;refine rM 6 (fun K hK=>?_);obtain⟨w8,hw8⟩:=nC (w6.drew.alloc (.cells #[.int .i64 xop,.int .i64 xco,.int .i64 xh,.int .i64 xt,.slice A3 n3 k3] 63));have hB8:Bk w8 w6.heap.size 63 [.int .i64 xop,.int .i64 xco,.int .i64 xh,.int .i64 xt,.slice A3 n3 k3]:=by rw[←hw8];exact Bk.new w6.drew _ _
       have hb68:nD w6 w8:=by rw[←hw8];exact(Xu nB).trans ((Below.refl w6.drew.heap.size w6.drew).alloc lR _)
       have hS8:=StS.next HS6.o hb68;have HY8:=hid (HY6.o.ag (F:=fun _=>False) (.of_below hb68));have H8:=nH hB8 (HX6.o.next hb68) (Vg HR6.o hb68);go_simp;try rw[hw8]
       clear hB8 hb68;refine hK.out _ _ (fun _ _=>hS8) ?_;clear hK K nE;have nE:=hS8;try simp only[Act.put,tC,tD,tE]
       refine rM 7 (fun K hK=>?_);refine aAf rfl (aAw _ _ _ 80 rfl 0 63 xi xz 5 56 underlying80 hxi hxz hx5 hx56 hxc (by decide) (.slice aA cl2.na ac) cl2.na xs8 (by rfl) (by exact H8.o.2.2) w8.heap.size (some ⟨w6.heap.size,0,none⟩) 1 1 [.int .i64 xop,.int .i64 xco,.int .i64 xh,.int .i64 xt,.slice A3 n3 k3] (by rfl) rfl H8.o.1.rd (by intro u hu;simp at hu;rcases hu with rfl|rfl|rfl|rfl|rfl<;>rfl) (tK (Nat.add_le_add_right HN.o 1) (by decide)) (tK (Nat.mul_le_mul_right 56 (Nat.add_le_add_right HN.o 1)) (by decide)) zL ?_);intro v9 w9 hO9 hG9 hv9;obtain⟨A9,c9,rfl⟩:=Xs hO9;obtain⟨F8,Ft8,hx8⟩:=H8.o.2.1.sch;have hb9:=aGw hx8 H8.o.2.2 (by decide) hG9
       have hng:(Value.slice aA cl2.na ac).ownBlock≠some g7:=fun q=>by
        obtain⟨Fz,Ftz,hp,_,_,_,h4⟩:=H8.o.2.1.p;exact h4 _ (tZ (i:=1) rfl) ((Vo.fam hp).sub _ _ ((Vo.cl hp j _ HJ6.o).fa g7 (show cl2.av.ownBlock=some g7 from HAV.o.symm▸q)))
       have hS9:=StS.grown nE H8.o.2.2 hG9 hng;have z9:w9.cell? ⟨sb,2+j*4+2,none⟩=some cl2.av:=Bk.at' hb9 (aCq (i:=2) hx8.cl8 HJ6.o (by decide) rfl);have fr9:=hb9.free (2+j*4+2);obtain⟨w10,hw10⟩:=nC (w9.setCell ⟨sb,2+j*4+2,none⟩ (.slice A9 (cl2.na+1) c9));have H10:=hid (ScX.answ H8.o.2.1 HJ6.o (show _ from HAV.o.symm▸H8.o.2.2) hO9 (show _ from HAV.o.symm▸hG9) (show _ from HAV.o.symm▸hv9) hw10);have k89:Kf (fun b=>(Value.slice aA cl2.na ac).ownBlock=some b) w8 w9:=(Kf.refl _ w8).grown H8.o.2.2 hG9 (fun g q=>.inl ⟨q,by decide⟩);have k910:Kf (fun b=>b=sb) w9 w10:=by rw[←hw10];exact(Kf.refl (fun b=>b=sb) w9).set hb9 (by decide) (.inl rfl) _ _
       have HY10:=hid ((HY8.o.ag (k89.ag (F:=fun _=>False) (fun b q=>q.elim))).ag (k910.ag (F:=fun _=>False) (fun b q=>q.elim)));clear hO9 hG9 hv9 hx8 hb9 k89 k910 hng;refine hK.out _ _ (fun _ _=>hS9) ?_;clear hK K nE;have nE:=hS9;try simp only[Act.put,tC,tD,tE]
       refine kR 8 ?_;refine kR 9 ?_;refine rM 10 (fun K hK=>?_);go_simp;try rw[hw10]
       refine hK.out _ _ (fun h=>absurd (by decide) h) ?_;clear hK K;try simp only[Act.put,tC,tD,tE]
       refine Vs (by kernel_rfl) ?_ _;clear Kq;have B710:Bk w10 g7 63 [.int .i64 xop,.int .i64 xco,.int .i64 xh,.int .i64 xt,.slice A3 n3 k3]:=H10.o.bkAt (i:=1) rfl;obtain⟨d0,d1,d2,d3,d4⟩:=B710.c5;have hke:=aLx xop xco xh xt A3 n3 k3 bs3 w10 HY10.o H5.o.2.2.2.2.2.2.2;clear B710;go_wp2_with fail
       refine hke.mono ?_;rintro e w11 ⟨⟨A11,qM,rfl⟩,hb11⟩;have X11:=H10.o.next hb11;have B411:Bk w11 g4 63 [.int .i64 0,.int .i64 0,.int .i64 0,.int .i64 0,.slice none 0 0]:=X11.bkAt (i:=0) rfl;obtain⟨t0,t1,t2,t3,t4⟩:=B411.c5;have u0:=B411.free 0;have u1:=B411.free 1;have u2:=B411.free 2;have u3:=B411.free 3;have u4:=B411.free 4;obtain⟨w12,hw12⟩:=nC (W5 w11 g4 (.int .i64 xop) (.int .i64 xco) (.int .i64 xh) (.int .i64 xt) (.slice A11 n3 qM));have X12:=X11.set (i:=0) rfl (Vf B411 (by decide) hw12) (Vb B411 hw12);rw[List.set_set] at X12;have HE:=nF (Vb B411 hw12) (aWt X12 H5.o.2.2.1 H5.o.2.2.2.1 H5.o.2.2.2.2.1 H5.o.2.1 HO.o.1 H5.o.2.2.2.2.2.1 HQ.o.2.2.2.2.2 (s:=s) H.o.2.1 (by rw[HQ.o.2.2.2.2.1];exact tM (tS (H.o.1.num cl (tZ H.o.2.2.1)).1)));unfold W5 at hw12;clear hke X11 X12 B411 hb11 d0 d1 d2 d3 d4;go_wp2_with fail
       refine bodyPost_ret (Vu rfl _ _ _ _ (by rfl) HE.o.1) rfl ?_;exact⟨0,⟨_,rfl⟩,HE.o.2⟩
     · skip;obtain⟨w6,hw6⟩:=nC ((w5.setCell ⟨sb,2+j*4,none⟩ (.slice (some ⟨gq,off+5,none⟩) l.length (cap - 1))).setCell ⟨sb,2+j*4+3,none⟩ (.bool false));have X6:=H5.o.1.tailc H5.o.2.1 (HQ.o.2.2.2.1.trans HO.o.1) (HQ.o.1.trans HO.o.2) (ov':=.slice (some ⟨gq,off+5,none⟩) l.length (cap - 1)) (by first|rw[if_neg hc1]|rw[if_pos rfl,HL0.o]) hw6;have HJ6:=hid (show (s2.cls.set j {cl2 with ov:=.slice (some ⟨gq,off+5,none⟩) l.length (cap - 1),ops:=l,asked:=false})[j]? =some {cl2 with ov:=.slice (some ⟨gq,off+5,none⟩) l.length (cap - 1),ops:=l,asked:=false} by rw[rD,if_pos rfl,if_pos (Vi H5.o.2.1)]);have HX6:=hid X6;obtain⟨F5,Ft5,hx5⟩:=H5.o.1.sch;have HY6:=hid (H5.o.2.2.2.2.2.2.1.ag ((show Kf (fun b=>b=sb) w5 w6 by rw[←hw6];exact((Kf.refl (fun b=>b=sb) w5).set hx5.bx (by decide) (.inl rfl) _ _).set (hx5.bx.set _ _) (by decide) (.inl rfl) _ _).ag (F:=fun _=>False) (fun b q=>q.elim)));clear hx5;obtain⟨F6,Ft6,hx6⟩:=X6.sch;obtain⟨xs8,ha6⟩:=(hx6.cl j _ HJ6.o).ans;obtain⟨aA,ac,hav⟩:=Xs ha6;have hav2:cl2.av=.slice aA cl2.na ac:=hav;have HAV:=hid hav2;have HR6:=hid (show w6.ownsRow 0 63 5 (.slice aA cl2.na ac) cl2.na xs8 from hav2▸ha6);have B76:Bk w6 g7 63 [.int .i64 xop,.int .i64 xco,.int .i64 xh,.int .i64 xt,.slice A3 n3 k3]:=X6.bkAt (i:=1) rfl;obtain⟨cs,ecs⟩:=nC (Vm (Uj gd2) st2 (s2.cls.set j {cl2 with ov:=.slice (some ⟨gq,off+5,none⟩) l.length (cap - 1),ops:=l,asked:=false}) alv2 s2.ev);have HS6:=hid (show StS sb g7 cs [.int .i64 xop,.int .i64 xco,.int .i64 xh,.int .i64 xt,.slice A3 n3 k3] w6 from⟨by rw[←ecs];exact hx6.bx,B76⟩);have ecj:cs[2+(j*4+2)]? =some (.slice aA cl2.na ac):=by rw[←ecs,←hav2];exact aCq hx6.cl8 HJ6.o (by decide) rfl
       have KS:=hid (fun (w':World) (hS:StS sb g7 cs [.int .i64 xop,.int .i64 xco,.int .i64 xh,.int .i64 xt,.slice A3 n3 k3] w')=>nS (show w'.cell? ⟨sb,2+j*4+2,none⟩=some (.slice aA cl2.na ac) from Bk.at' hS.1 ecj) (aCu hS.2));have HN:=hid (show cl2.na≤702 from tK (H5.o.2.2.2.2.1 cl2 (tZ H5.o.2.1)).1 (tK H.o.2.1 (by decide)));clear X6 hx6 ha6 hav hav2 B76 ecs ecj;go_wp2_with fail
       have Kq:=KS;refine Vn (StS sb g7 cs [.int .i64 xop,.int .i64 xco,.int .i64 xh,.int .i64 xt,.slice A3 n3 k3]) [10] (by kernel_rfl) (⟨HS6.o.1.drew,HS6.o.2.drew⟩) (fun nE=>?_);refine kR 0 ?_;refine kR 1 ?_;refine kR 2 ?_;refine kR 3 ?_;refine kM 4 ?_;refine kM 5 ?_;refine rM 6 (fun K hK=>?_);obtain⟨w8,hw8⟩:=nC (w6.drew.alloc (.cells #[.int .i64 xop,.int .i64 xco,.int .i64 xh,.int .i64 xt,.slice A3 n3 k3] 63));have hB8:Bk w8 w6.heap.size 63 [.int .i64 xop,.int .i64 xco,.int .i64 xh,.int .i64 xt,.slice A3 n3 k3]:=by rw[←hw8];exact Bk.new w6.drew _ _
       have hb68:nD w6 w8:=by rw[←hw8];exact(Xu nB).trans ((Below.refl w6.drew.heap.size w6.drew).alloc lR _)
       have hS8:=StS.next HS6.o hb68;have HY8:=hid (HY6.o.ag (F:=fun _=>False) (.of_below hb68));have H8:=nH hB8 (HX6.o.next hb68) (Vg HR6.o hb68);go_simp;try rw[hw8]
       clear hB8 hb68;refine hK.out _ _ (fun _ _=>hS8) ?_;clear hK K nE;have nE:=hS8;try simp only[Act.put,tC,tD,tE]
       refine rM 7 (fun K hK=>?_);refine aAf rfl (aAw _ _ _ 80 rfl 0 63 xi xz 5 56 underlying80 hxi hxz hx5 hx56 hxc (by decide) (.slice aA cl2.na ac) cl2.na xs8 (by rfl) (by exact H8.o.2.2) w8.heap.size (some ⟨w6.heap.size,0,none⟩) 1 1 [.int .i64 xop,.int .i64 xco,.int .i64 xh,.int .i64 xt,.slice A3 n3 k3] (by rfl) rfl H8.o.1.rd (by intro u hu;simp at hu;rcases hu with rfl|rfl|rfl|rfl|rfl<;>rfl) (tK (Nat.add_le_add_right HN.o 1) (by decide)) (tK (Nat.mul_le_mul_right 56 (Nat.add_le_add_right HN.o 1)) (by decide)) zL ?_);intro v9 w9 hO9 hG9 hv9;obtain⟨A9,c9,rfl⟩:=Xs hO9;obtain⟨F8,Ft8,hx8⟩:=H8.o.2.1.sch;have hb9:=aGw hx8 H8.o.2.2 (by decide) hG9
       have hng:(Value.slice aA cl2.na ac).ownBlock≠some g7:=fun q=>by
        obtain⟨Fz,Ftz,hp,_,_,_,h4⟩:=H8.o.2.1.p;exact h4 _ (tZ (i:=1) rfl) ((Vo.fam hp).sub _ _ ((Vo.cl hp j _ HJ6.o).fa g7 (show cl2.av.ownBlock=some g7 from HAV.o.symm▸q)))
       have hS9:=StS.grown nE H8.o.2.2 hG9 hng;have z9:w9.cell? ⟨sb,2+j*4+2,none⟩=some cl2.av:=Bk.at' hb9 (aCq (i:=2) hx8.cl8 HJ6.o (by decide) rfl);have fr9:=hb9.free (2+j*4+2);obtain⟨w10,hw10⟩:=nC (w9.setCell ⟨sb,2+j*4+2,none⟩ (.slice A9 (cl2.na+1) c9));have H10:=hid (ScX.answ H8.o.2.1 HJ6.o (show _ from HAV.o.symm▸H8.o.2.2) hO9 (show _ from HAV.o.symm▸hG9) (show _ from HAV.o.symm▸hv9) hw10);have k89:Kf (fun b=>(Value.slice aA cl2.na ac).ownBlock=some b) w8 w9:=(Kf.refl _ w8).grown H8.o.2.2 hG9 (fun g q=>.inl ⟨q,by decide⟩);have k910:Kf (fun b=>b=sb) w9 w10:=by rw[←hw10];exact(Kf.refl (fun b=>b=sb) w9).set hb9 (by decide) (.inl rfl) _ _
       have HY10:=hid ((HY8.o.ag (k89.ag (F:=fun _=>False) (fun b q=>q.elim))).ag (k910.ag (F:=fun _=>False) (fun b q=>q.elim)));clear hO9 hG9 hv9 hx8 hb9 k89 k910 hng;refine hK.out _ _ (fun _ _=>hS9) ?_;clear hK K nE;have nE:=hS9;try simp only[Act.put,tC,tD,tE]
       refine kR 8 ?_;refine kR 9 ?_;refine rM 10 (fun K hK=>?_);go_simp;try rw[hw10]
       refine hK.out _ _ (fun h=>absurd (by decide) h) ?_;clear hK K;try simp only[Act.put,tC,tD,tE]
       refine Vs (by kernel_rfl) ?_ _;clear Kq;have B710:Bk w10 g7 63 [.int .i64 xop,.int .i64 xco,.int .i64 xh,.int .i64 xt,.slice A3 n3 k3]:=H10.o.bkAt (i:=1) rfl;obtain⟨d0,d1,d2,d3,d4⟩:=B710.c5;have hke:=aLx xop xco xh xt A3 n3 k3 bs3 w10 HY10.o H5.o.2.2.2.2.2.2.2;clear B710;go_wp2_with fail
       refine hke.mono ?_;rintro e w11 ⟨⟨A11,qM,rfl⟩,hb11⟩;have X11:=H10.o.next hb11;have B411:Bk w11 g4 63 [.int .i64 0,.int .i64 0,.int .i64 0,.int .i64 0,.slice none 0 0]:=X11.bkAt (i:=0) rfl;obtain⟨t0,t1,t2,t3,t4⟩:=B411.c5;have u0:=B411.free 0;have u1:=B411.free 1;have u2:=B411.free 2;have u3:=B411.free 3;have u4:=B411.free 4;obtain⟨w12,hw12⟩:=nC (W5 w11 g4 (.int .i64 xop) (.int .i64 xco) (.int .i64 xh) (.int .i64 xt) (.slice A11 n3 qM));have X12:=X11.set (i:=0) rfl (Vf B411 (by decide) hw12) (Vb B411 hw12);rw[List.set_set] at X12;have HE:=nF (Vb B411 hw12) (aWt X12 H5.o.2.2.1 H5.o.2.2.2.1 H5.o.2.2.2.2.1 H5.o.2.1 HO.o.1 H5.o.2.2.2.2.2.1 HQ.o.2.2.2.2.2 (s:=s) H.o.2.1 (by rw[HQ.o.2.2.2.2.1];exact tM (tS (H.o.1.num cl (tZ H.o.2.2.1)).1)));unfold W5 at hw12;clear hke X11 X12 B411 hb11 d0 d1 d2 d3 d4;go_wp2_with fail
       refine bodyPost_ret (Vu rfl _ _ _ _ (by rfl) HE.o.1) rfl ?_;exact⟨0,⟨_,rfl⟩,HE.o.2⟩
def clz:CLD:=⟨.slice none 0 0,.slice none 0 0,.slice none 0 0,false,[],[],0⟩
def ss0:SS:=⟨List.replicate 8 clz,[],[],ms0,0,0⟩
theorem bGh (w:World) (F:Xt) (m:MS) (es:List Nat):ClX w F clz m es :=
 ⟨Kb.nil _ _ _,fun o ho=>by simp[clz] at ho,World.ownsRow_nil w _ _ _,⟨[],World.ownsRow_nil w _ _ _⟩,fun k hk=>by simp[clz] at hk,fun q=>(by cases q),zL,fun g q=>(by cases q),fun g q=>(by cases q),fun g q=>(by cases q),fun o ho=>by simp[clz] at ho,fun o ho=>by simp[clz] at ho⟩
theorem bDn:aBe ms0 [] 0 :=
 ⟨bBq zL,rfl,fun i b e=>by simp at e,fun i b t e=>by simp at e,fun i k b c t u e=>by simp at e⟩
def bIb (sb:Nat) (F1:Xt):Nat→Xt:=fun j=>match j with
 | 0=>fun b=>b=sb
 | 1=>F1
 | _=>fun _=>False
theorem Ue.made {w5 w':World} {F1:Xt} {st gd g:Nat} (hs:Sto w5 F1 st (gp gd) 0 ms0 g) (e:w5.alloc (.cells (Vm (Uj gd) st (List.replicate 8 clz) (.slice none 0 0) 0).toArray 85)=w') :
  Ue w' (orF F1 (fun b=>b=w5.heap.size)) w5.heap.size ss0 g:=by
 have hb:nD w5 w':=by rw[←e];exact nB.alloc lR _
 have hk:Bk w' w5.heap.size 85 (Vm (Uj gd) st (List.replicate 8 clz) (.slice none 0 0) 0):=by rw[←e];exact Bk.new w5 _ _
 have hin:=hs.inn;have hlt:In w' (orF F1 (fun b=>b=w5.heap.size)):=fun b q=>q.elim (fun r=>tL (hin b r) hb.size) (fun r=>by have r:b=w5.heap.size:=r;rw[r];exact hk.lt)
 refine⟨⟨bIb w5.heap.size F1,st,gd,.slice none 0 0,⟨⟨hlt,fun i b q=>?_,fun i j hn b q r=>?_⟩,hk,hs.ag (.of_below hb),World.ownsRow_nil _ _ _ _,fun i x b q=>by simp[ss0] at q,fun i j x q=>by simp[ss0] at q,rfl,fun j c q=>?_,rfl,rfl,fun b q=>(by cases q),fun x q=>by simp[ss0] at q⟩⟩,bDn,zL,fun c hc=>?_⟩
 · match i with
   | 0=>exact .inr q
   | 1=>exact .inl q
   | n+2=>exact q.elim
 · match i,j with
   | 0,0=>exact hn rfl
   | 0,1=>have q:b=w5.heap.size:=q;have:=hin b r;omega
   | 1,0=>have r:b=w5.heap.size:=r;have:=hin b q;omega
   | 1,1=>exact hn rfl
   | n+2,_=>exact q.elim
   | _,n+2=>exact r.elim
 · have:c=clz:=List.eq_of_mem_replicate (tZ q);subst this;exact bGh _ _ _ _
 · have:c=clz:=List.eq_of_mem_replicate hc;subst this;exact⟨zL,zL⟩
theorem aSc {w w2 w3 w4:World} {Fd F1:Xt} {o:Obj} (hb:nD w w2) (hF:∀b,Fd b→w.heap.size≤b) (hk:Kf Fd w2 w3) (hs:Sb w2 Fd F1) (e:w3.alloc o=w4):nD w w4∧∀b,orF F1 (fun b=>b=w3.heap.size) b→w.heap.size≤b:=by
 have h3:Below w.heap.size w2 w3:=hk.below hF hb.size;refine⟨by rw[←e];exact(hb.trans h3).alloc (tK hb.size hk.size) _,fun b q=>?_⟩;rcases q with q|q
 · exact(hs b q).elim (hF b) (fun r=>tK hb.size r)
 · have q:b=w3.heap.size:=q;rw[q];exact tK hb.size hk.size
theorem bCd (w:World):Calls prog 28 #[.agg #[.int .i64 8,.int .i64 96]] w fun e w'=>∃sb,e=.returned (.tuple #[.pointer (some ⟨sb,0,none⟩),.int .i64 0])∧∃F,Ue w' F sb ss0 5∧nD w w'∧∀b,F b→w.heap.size≤b:=by
 obtain⟨g1,w1,hzw1,hw1,Bw1,bw1⟩:=Xy w 75 [.int .i64 8,.int .i64 96];obtain⟨c0,c1⟩:=Bw1.c2;have hn:=aUf w1;have H1:=hid bw1;clear bw1 Bw1;go_enter func28,ntmps28
 go_wp2_with fail
 refine hn.mono ?_;rintro e w2 ⟨gd,Fd,v,zs,rfl,⟨hx,hz⟩,hb2,hF⟩;have hm:=aMu 0 0 Fd gd (List.replicate 8 0) w2 (Ut.new hx hz) (fun b q=>(hF b q).2) rfl rfl zL zL;have H2:=nF (H1.o.trans (hb2.mono H1.o.size)) (fun (b:Nat) (q:Fd b)=>tK H1.o.size (hF b q).1);clear hn hx hz hb2 hF;go_wp2_with fail
 refine hm.mono ?_;rintro e w3 ⟨st,rfl,F1,pos,t,⟨ht,hp⟩,hs,hk,hsb,hin⟩;obtain rfl:=Nat.le_zero.1 ht;obtain rfl:=Nat.le_zero.1 hp;have HE:=nF (Ue.made (gd:=gd) hs rfl) (aSc (o:=.cells (Vm (Uj gd) st (List.replicate 8 clz) (.slice none 0 0) 0).toArray 85) H2.o.1 H2.o.2 hk hsb rfl);clear hm hs hk hsb hin ht hp;go_wp2_with fail
 go_ret2
 exact⟨_,rfl,_,HE.o.1,HE.o.2⟩
theorem aMt {w:World} {sb st:Nat} (c1:w.cell? ⟨sb,1,none⟩=some (.pointer (some ⟨st,0,none⟩))):Calls prog 10 #[.pointer (some ⟨sb,0,none⟩)] w fun e w'=>e=.returned (.pointer (some ⟨st,0,none⟩))∧w=w':=by
 have hg:=aAt c1;go_enter func10,ntmps10
 go_wp2_with fail
 refine hg.mono ?_;rintro e w' ⟨rfl,rfl⟩;clear hg;go_wp2_with fail
 go_ret;exact⟨rfl,rfl⟩
theorem bAs {w:World} {F:Xt} {sb g:Nat} {s:SS} (h:Ue w F sb s g):Calls prog 10 #[.pointer (some ⟨sb,0,none⟩)] w fun e w'=>(∃st Fs dv,e=.returned (.pointer (some ⟨st,0,none⟩))∧Sto w Fs st dv s.pos s.m g)∧w=w':=by
 obtain⟨Ft,st,gd,alv,hx⟩:=h.x;refine(aMt hx.at_st).mono ?_;rintro e w' ⟨rfl,rfl⟩;exact⟨⟨st,_,_,rfl,hx.sto⟩,rfl⟩
theorem aZa:(prog.info? 70).map (·.size)=some 7:=by kernel_rfl
theorem aCa {fn:Func} {p:Tmp} (h:fn.results=#[.cell p 70]) (tmps:Array Value) (w:World) (g:Nat) (cs:List Value) (hp:tmps.getD p undef=.pointer (some ⟨g,0,none⟩)) (hg:Bk w g 70 cs) (hl:cs.length=7:=by rfl) :
  (results fn tmps).run prog w=.ok (.agg cs.toArray) w :=
 results_cell_row h tmps w g _ _ _ _ hp hg underlying70 rfl (by rw[aZa];simp[hl])
abbrev W7 (w:World) (g:Nat) (v0 v1 v2 v3 v4 v5 v6:Value):World:=((((((w.setCell ⟨g,0,none⟩ v0).setCell ⟨g,1,none⟩ v1).setCell ⟨g,2,none⟩ v2).setCell ⟨g,3,none⟩ v3).setCell ⟨g,4,none⟩ v4).setCell ⟨g,5,none⟩ v5).setCell ⟨g,6,none⟩ v6
def HiS (w:World) (g:Nat) (w':World):Prop:=nD w w'∧∃c0 c1 c2 c3 c4 c5 c6,Bk w' g 70 [c0,c1,c2,c3,c4,c5,c6]
theorem HiS.next {w w1 w2:World} {g:Nat} (h:HiS w g w1) (hb:nD w1 w2):HiS w g w2:=by
 obtain⟨h1,c0,c1,c2,c3,c4,c5,c6,hk⟩:=h;exact⟨h1.trans (hb.mono h1.size),c0,c1,c2,c3,c4,c5,c6,hk.next hb hk.lt⟩
theorem HiS.drew {w w1:World} {g:Nat} (h:HiS w g w1):HiS w g w1.drew:=h.next (Xu nB)
theorem aLu {w w1:World} {g:Nat} (h:HiS w g w1):(∃c,w1.cell? ⟨g,0,none⟩=some c)∧(∃c,w1.cell? ⟨g,1,none⟩=some c)∧(∃c,w1.cell? ⟨g,2,none⟩=some c)∧(∃c,w1.cell? ⟨g,3,none⟩=some c)∧(∃c,w1.cell? ⟨g,4,none⟩=some c)∧(∃c,w1.cell? ⟨g,5,none⟩=some c)∧(∃c,w1.cell? ⟨g,6,none⟩=some c)∧
  w1.frozen? ⟨g,0,none⟩=false∧w1.frozen? ⟨g,1,none⟩=false∧w1.frozen? ⟨g,2,none⟩=false∧w1.frozen? ⟨g,3,none⟩=false∧w1.frozen? ⟨g,4,none⟩=false∧w1.frozen? ⟨g,5,none⟩=false∧w1.frozen? ⟨g,6,none⟩=false:=by
 obtain⟨_,c0,c1,c2,c3,c4,c5,c6,hk⟩:=h;exact⟨⟨_,hk.cell (i:=0) (by simp)⟩,⟨_,hk.cell (i:=1) (by simp)⟩,⟨_,hk.cell (i:=2) (by simp)⟩,⟨_,hk.cell (i:=3) (by simp)⟩,⟨_,hk.cell (i:=4) (by simp)⟩,⟨_,hk.cell (i:=5) (by simp)⟩,⟨_,hk.cell (i:=6) (by simp)⟩,hk.free 0,hk.free 1,hk.free 2,hk.free 3,hk.free 4,hk.free 5,hk.free 6⟩
theorem aAy {w w1 w9:World} {g:Nat} {v0 v1 v2 v3 v4 v5 v6:Value} (h:HiS w g w1) (hg:w.heap.size≤g) (e:W7 w1 g v0 v1 v2 v3 v4 v5 v6=w9):HiS w g w9∧Bk w9 g 70 [v0,v1,v2,v3,v4,v5,v6]:=by
 obtain⟨hb,c0,c1,c2,c3,c4,c5,c6,hk⟩:=h
 have h9:Bk w9 g 70 [v0,v1,v2,v3,v4,v5,v6]:=by
  rw[←e];exact((((((hk.set 0 v0).set 1 v1).set 2 v2).set 3 v3).set 4 v4).set 5 v5).set 6 v6
 refine⟨⟨?_,_,_,_,_,_,_,_,h9⟩,h9⟩;rw[←e];exact((((((hb.setCell (p:=⟨g,0,none⟩) hg v0).setCell (p:=⟨g,1,none⟩) hg v1).setCell (p:=⟨g,2,none⟩) hg v2).setCell (p:=⟨g,3,none⟩) hg v3).setCell (p:=⟨g,4,none⟩) hg v4).setCell (p:=⟨g,5,none⟩) hg v5).setCell (p:=⟨g,6,none⟩) hg v6
def hiE (t:TX) (fr tt:Int) (e:Ending):Prop:=∃(rA:Option Addr) (rn rc:Nat) (pA:Option Addr) (pc:Nat),e=.returned (.agg #[.int .i64 (t.st:Int),.int .i64 (t.at':Int),.int .i64 (t.time:Int),.int .i64 fr,.int .i64 tt,.slice rA rn rc,.slice pA t.keys.length pc])
theorem aVf {w:World} {F:Xt} {mb g:Nat} {m:MS} (h:Man w F mb m g) {i:Nat} {t:TX} (ht:m.txs[i]? =some t):Calls prog 119 #[.pointer (some ⟨mb,0,none⟩),.int .i64 ((i:Int)+1)] w fun e w'=>hiE t 0 0 e∧nD w w':=by
 obtain⟨Ft,gm,kb,am,qv,es,hx⟩:=h.x;obtain⟨x,he⟩:=aHh hx ht;obtain⟨g1,w1,hzw1,hw1,Bw1,bw1⟩:=Xy w 70 [.int .i64 0,.int .i64 0,.int .i64 0,.int .i64 0,.int .i64 0,.slice none 0 0,.slice none 0 0];have hx1:=hx.next bw1;have hg:=aAl mb gm kb am 0 qv m w1 hx1.bx;obtain⟨_,_,c2,_⟩:=Xz hx1.bx;have hlk:=(hx1.look_ok he (by have:=Vi ht;have:=h.txs;have:=h.big;omega)).1;obtain⟨code,hb,-⟩:=(hx.tx i t x ht he).bx;have KH:=hid (fun (w':World) (hS:HiS w g1 w')=>aAg (hb.next hS.1 hb.lt));have HX:=hid hx;have HT:=nF ht he;have HS1:=hid (show HiS w g1 w1 from⟨bw1,_,_,_,_,_,_,_,Bw1⟩);have HG:=hid (tO hzw1);clear h hx hx1 ht he hb bw1 Bw1;go_enter func119,ntmps119
 go_wp2_with fail
 refine hg.mono ?_;rintro e w' ⟨rfl,rfl⟩;clear hg;go_wp2_with fail
 have Kq:=KH;refine wp_region_held_drew (S:=HiS w g1) (by kernel_rfl) (HS1.o.drew) (fun nE=>?_);refine kF 0 ?_;refine kF 1 ?_;refine kF 2 ?_;refine kF 3 ?_;refine kF 4 ?_;refine kF 5 ?_;refine kF 6 ?_;refine kF 7 ?_;refine kF 8 ?_;refine kF 9 ?_;refine kF 10 ?_;refine kF 11 ?_;refine kF 12 ?_;refine kF 13 ?_;refine kF 14 ?_;refine kF 15 ?_;refine kF 17 ?_;refine kF 18 ?_;refine kF 19 ?_;refine kF 20 ?_;refine rF 16 (fun K hK=>?_);go_simp;refine(aIm _ x.vb gm x.bb (17*g) (t.at':Int) _ ((HX.o.next nE.1).tx i t x HT.o.1 HT.o.2).view).mono ?_;rintro e w4 ⟨⟨rA,rn,rc,rfl⟩,hb4⟩;have hS4:=HiS.next nE hb4;clear hb4;go_simp;clear nE;refine hK.out _ _ hS4 (fun nE=>?_);clear hK K;try simp only[Act.put,tC,tD,tE]
 refine rF 21 (fun K hK=>?_);go_simp;refine(aFc _ x.bb 0 t.keys _ ((HX.o.next nE.1).tx i t x HT.o.1 HT.o.2).buf zL).mono ?_;rintro e w5 ⟨⟨v5,rfl,ps,hps⟩,hb5⟩;obtain⟨pA,pc,rfl⟩:=Xs hps.own;have hS5:=HiS.next nE hb5;clear hps hb5;go_simp;clear nE;refine hK.out _ _ hS5 (fun nE=>?_);clear hK K;try simp only[Act.put,tC,tD,tE]
 refine kF 22 ?_;refine rF 23 (fun K hK=>?_);obtain⟨⟨_,z0⟩,⟨_,z1⟩,⟨_,z2⟩,⟨_,z3⟩,⟨_,z4⟩,⟨_,z5⟩,⟨_,z6⟩,y0,y1,y2,y3,y4,y5,y6⟩:=aLu nE;obtain⟨w9,hw9⟩:=nC (W7 w5 g1 (.int .i64 (t.st:Int)) (.int .i64 (t.at':Int)) (.int .i64 (t.time:Int)) (.int .i64 0) (.int .i64 0) (.slice rA rn rc) (.slice pA t.keys.length pc));have HE:=hid (aAy nE HG.o hw9);unfold W7 at hw9;go_simp;try rw[hw9]
 refine hK.out _ _ (HE.o.1) (fun hHeld2=>?_);clear hK K nE;have nE:=hHeld2;clear hHeld2;try simp only[Act.put,tC,tD,tE]
 refine wpAnyH_done (by kernel_rfl) ?_ _;clear Kq;go_wp2_with fail
 refine bodyPost_ret (aCa rfl _ _ _ _ (by rfl) HE.o.2) rfl ?_;exact⟨⟨_,_,_,_,_,rfl⟩,HE.o.1.1⟩
theorem aHu {w:World} {F:Xt} {Ft:Nat→Xt} {sb gd mb gs pos num count g:Nat} {ns:List Nat} {m:MS} (h:Kh w F Ft sb gd mb gs pos num count ns m g) {i:Nat} {t:TX} (ht:m.txs[i]? =some t):Calls prog 59 #[.pointer (some ⟨sb,0,none⟩),.int .i64 ((i:Int)+1)] w fun e w'=>hiE t 0 0 e∧nD w w':=by
 obtain⟨g1,w1,hzw1,hw1,Bw1,bw1⟩:=Xy w 70 [.int .i64 0,.int .i64 0,.int .i64 0,.int .i64 0,.int .i64 0,.slice none 0 0,.slice none 0 0];have h1:=h.next bw1;have hd:=aBm sb gd mb gs pos num w1 h1.bx;have hm:=aVf h1.man ht;have HS1:=hid (show HiS w g1 w1 from⟨bw1,_,_,_,_,_,_,_,Bw1⟩);have HG:=hid (tO hzw1);clear h h1 bw1 Bw1;go_enter func59,ntmps59
 go_wp2_with fail
 refine hd.mono ?_;rintro e w' ⟨rfl,rfl⟩;clear hd;go_wp2_with fail
 refine hm.mono ?_;rintro e w2 ⟨⟨rA,rn,rc,pA,pc,rfl⟩,hb2⟩;have hS2:=HS1.o.next hb2;obtain⟨⟨_,z0⟩,⟨_,z1⟩,⟨_,z2⟩,⟨_,z3⟩,⟨_,z4⟩,⟨_,z5⟩,⟨_,z6⟩,y0,y1,y2,y3,y4,y5,y6⟩:=aLu hS2;obtain⟨w9,hw9⟩:=nC (W7 w2 g1 (.int .i64 (t.st:Int)) (.int .i64 (t.at':Int)) (.int .i64 (t.time:Int)) (.int .i64 0) (.int .i64 0) (.slice rA rn rc) (.slice pA t.keys.length pc));have HE:=hid (aAy hS2 HG.o hw9);unfold W7 at hw9;clear hm hS2 hb2;go_wp2_with fail
 refine bodyPost_ret (aCa rfl _ _ _ _ (by rfl) HE.o.2) rfl ?_;exact⟨⟨_,_,_,_,_,rfl⟩,HE.o.1.1⟩
theorem aTz (A:Option Addr) (n c:Nat) (xs:List Value) (w:World) (hl:xs.length=n*3) (h:Rd w w.heap.size A xs) (h1:∀u∈xs,u.oneCell'=true) (hn:n≤100000) :
  Calls prog 118 #[.slice A n c] w fun e w'=>(∃v,e=.returned v∧w'.ownsRow w.heap.size 204 3 v n xs)∧nD w w':=by
 obtain⟨xi,xz,hxi,hxz,hx5,hx56,hxc⟩:=aHo;have q:∀(w:World) (a:Option Addr) (n c n' c':Nat),(binOp .eql 68 (.slice a n c) (.slice none n' c')).run prog w=.ok (.bool a.isNone) w:=fun w a n c n' c'=>Lib.run_eql_slice_nil w _ _ a n c n' c' underlying68
 cases A with
 | none =>
   have hx:xs=[]:=by
    rcases tP xs.length with e|e
    · exact List.length_eq_zero_iff.1 e
    · obtain⟨_,e,_⟩:=h e;cases e
   subst hx;have hn0:n=0:=by simp at hl;omega
   subst hn0;clear h hn hl h1;go_enter func118,ntmps118
   go_wp2_with fail
   go_ret;exact⟨⟨_,rfl,rfl,.inl ⟨rfl,rfl⟩⟩,nB⟩
 | some ad =>
   have HR:=nF h h1;have HN:=hid hn;clear h hn h1;go_enter func118,ntmps118
   go_wp2_with (at_builtin;go_must (refine aAa _ rfl _ _ 68 rfl w.heap.size 204 xi xz 3 40 underlying68 hxi hxz hx5 hx56 hxc (by omega) _ 0 [] (by rfl) (by exact World.ownsRow_lit w #[] 0 lR (by decide) rfl) w.heap.size (some ad) n c xs (by rfl) (by exact hl) (by exact HR.o.1.alloc lR _) HR.o.2 (by have:=HN.o;omega) (by have:=HN.o;omega) (by simp) ?_);intro v1 w1 hO1 hG1 hv1)
   have HB:nD w w1:=(nB.alloc lR _).grown hG1 (by simp) (fun g hg=>tO (rT (show some w.heap.size=some g from hg)));have HE:=hid (show w1.ownsRow w.heap.size 204 3 v1 n xs from by simpa using hO1);clear hO1 hG1 hv1;go_ret;exact⟨⟨v1,rfl,HE.o⟩,HB⟩
def hz7:List Value:=[.int .i64 0,.int .i64 0,.int .i64 0,.int .i64 0,.int .i64 0,.slice none 0 0,.slice none 0 0]
def CpS (w:World) (g1 g2:Nat) (w':World):Prop:=nD w w'∧Bk w' g1 70 hz7∧Bk w' g2 70 hz7
theorem CpS.next {w w1 w2:World} {g1 g2:Nat} (h:CpS w g1 g2 w1) (hb:nD w1 w2):CpS w g1 g2 w2:=⟨h.1.trans (hb.mono h.1.size),h.2.1.next hb h.2.1.lt,h.2.2.next hb h.2.2.lt⟩
theorem aAe {w:World} {g t:Nat} {c0 c1 c2 c3 c4 c5 c6:Value} (hk:Bk w g t [c0,c1,c2,c3,c4,c5,c6]):w.cell? ⟨g,0,none⟩=some c0∧w.cell? ⟨g,1,none⟩=some c1∧w.cell? ⟨g,2,none⟩=some c2∧w.cell? ⟨g,3,none⟩=some c3∧w.cell? ⟨g,4,none⟩=some c4∧w.cell? ⟨g,5,none⟩=some c5∧w.cell? ⟨g,6,none⟩=some c6 :=
 ⟨hk.cell (i:=0) (by simp),hk.cell (i:=1) (by simp),hk.cell (i:=2) (by simp),hk.cell (i:=3) (by simp),hk.cell (i:=4) (by simp),hk.cell (i:=5) (by simp),hk.cell (i:=6) (by simp)⟩
theorem aYa (w:World):Calls prog 58 #[.agg #[.int .i64 0,.int .i64 0,.int .i64 0,.int .i64 0,.int .i64 0,.slice none 0 0,.slice none 0 0]] w fun e w'=>(∃rA rc pA pc,e=.returned (.agg #[.int .i64 0,.int .i64 0,.int .i64 0,.int .i64 0,.int .i64 0,.slice rA 0 rc,.slice pA 0 pc]))∧nD w w':=by
 obtain⟨g1,w1,hzw1,hw1,Bw1,bw1⟩:=Xy w 70 [.int .i64 0,.int .i64 0,.int .i64 0,.int .i64 0,.int .i64 0,.slice none 0 0,.slice none 0 0];obtain⟨g2,w2,hzw2,hw2,Bw2,bw2⟩:=Xy w1 70 [.int .i64 0,.int .i64 0,.int .i64 0,.int .i64 0,.int .i64 0,.slice none 0 0,.slice none 0 0];have HS2:=hid (show CpS w g1 g2 w2 from⟨bw1.trans (bw2.mono bw1.size),Bw1.next bw2 Bw1.lt,Bw2⟩);have HG:=hid (show w.heap.size≤g1∧g2≠g1∧w.heap.size≤g2 from⟨tO hzw1,Nat.ne_of_gt (by have:=Bw1.lt;omega),by rw[←hzw2];exact bw1.size⟩);have HG:=nF HG.o.1 HG.o.2.1;have HG2:=hid (show w.heap.size≤g2 by rw[←hzw2];exact bw1.size);have KC:=hid (fun (w':World) (hS:CpS w g1 g2 w')=>aAe hS.2.1);clear Bw1 bw1 Bw2 bw2;go_enter func58,ntmps58
 go_wp2_with fail
 have Kq:=KC;refine Vn (CpS w g1 g2) [7,9] (by kernel_rfl) (CpS.next HS2.o (Xu nB)) (fun nE=>?_);refine kR 0 ?_;refine kM 1 ?_;refine kR 3 ?_;refine kM 4 ?_;refine rM 2 (fun K hK=>?_);go_simp;refine(aTz none 0 0 [] _ rfl (Rd.nil _ _ _) (by simp) zL).mono ?_;rintro e w3 ⟨⟨v3,rfl,ho3⟩,hb3⟩;obtain⟨rA,rc,rfl⟩:=Xs ho3;have hS3:=CpS.next nE hb3;clear ho3 hb3;go_simp;refine hK.out _ _ (fun _ _=>hS3) ?_;clear hK K nE;have nE:=hS3;try simp only[Act.put,tC,tD,tE]
 refine kR 6 ?_;refine rM 5 (fun K hK=>?_);go_simp;refine(aIu none 0 0 [] _ rfl (Rd.nil _ _ _) (by simp) zL).mono ?_;rintro e w4 ⟨⟨v4,rfl,ho4⟩,hb4⟩;obtain⟨pA,pc,rfl⟩:=Xs ho4;have hS4:=CpS.next nE hb4;have B4:Bk w4 g1 70 [.int .i64 0,.int .i64 0,.int .i64 0,.int .i64 0,.int .i64 0,.slice none 0 0,.slice none 0 0]:=hS4.2.1;have z5:=B4.cell (i:=5) (by simp);simp only[tI,tJ] at z5;have y5:=B4.free 5;obtain⟨w5,hw5⟩:=nC (w4.setCell ⟨g1,5,none⟩ (.slice rA 0 rc));have B5:Bk w5 g1 70 [.int .i64 0,.int .i64 0,.int .i64 0,.int .i64 0,.int .i64 0,.slice rA 0 rc,.slice none 0 0]:=by rw[←hw5];exact B4.set 5 _
 have z6:=B5.cell (i:=6) (by simp);simp only[tI,tJ] at z6;have y6:=B5.free 6;obtain⟨w6,hw6⟩:=nC (w5.setCell ⟨g1,6,none⟩ (.slice pA 0 pc))
 have H6:=hid (show Bk w6 g1 70 [.int .i64 0,.int .i64 0,.int .i64 0,.int .i64 0,.int .i64 0,.slice rA 0 rc,.slice pA 0 pc]∧Bk w6 g2 70 [.int .i64 0,.int .i64 0,.int .i64 0,.int .i64 0,.int .i64 0,.slice none 0 0,.slice none 0 0]∧nD w w6 from
  ⟨by rw[←hw6];exact B5.set 6 _,by rw[←hw6,←hw5];exact(hS4.2.2.far HG.o.2 _).far HG.o.2 _,aBk (aBk hS4.1 HG.o.1 hw5) HG.o.1 hw6⟩)
 clear ho4 hb4 B4 B5;go_simp;refine hK.out _ _ (fun _ _=>hS4) ?_;clear hK K nE;have nE:=hS4;try simp only[Act.put,tC,tD,tE]
 refine rM 7 (fun K hK=>?_);go_simp;try rw[hw5]
 refine hK.out _ _ (fun h=>absurd (by decide) h) ?_;clear hK K;try simp only[Act.put,tC,tD,tE]
 refine kR 8 ?_;refine rM 9 (fun K hK=>?_);go_simp;try rw[hw6]
 refine hK.out _ _ (fun h=>absurd (by decide) h) ?_;clear hK K;try simp only[Act.put,tC,tD,tE]
 refine Vs (by kernel_rfl) ?_ _;clear Kq;obtain⟨d0,d1,d2,d3,d4,d5,d6⟩:=aAe H6.o.1;clear z5 z6 y5 y6;go_wp2_with fail
 go_loopw [16] (fun iv wr=>iv=.int .i64 0∧w6=wr) (fun _ _=>0)
 case atStart=>exact⟨rfl,rfl⟩
 case round =>
  obtain⟨rfl,rfl⟩:=hrel;go_wp2_with fail
  go_loopw [35] (fun iv wr=>iv=.int .i64 0∧w6=wr) (fun _ _=>0)
  case atStart=>exact⟨rfl,rfl⟩
  case round =>
   obtain⟨rfl,rfl⟩:=hrel;obtain⟨r0,r1,r2,r3,r4,r5,r6⟩:=aAe H6.o.2.1;have B26:=H6.o.2.1;have p0:=B26.free 0;have p1:=B26.free 1;have p2:=B26.free 2;have p3:=B26.free 3;have p4:=B26.free 4;have p5:=B26.free 5;have p6:=B26.free 6;obtain⟨w9,hw9⟩:=nC (W7 w6 g2 (.int .i64 0) (.int .i64 0) (.int .i64 0) (.int .i64 0) (.int .i64 0) (.slice rA 0 rc) (.slice pA 0 pc));have HE:=hid (aAy (w:=w) ⟨H6.o.2.2,_,_,_,_,_,_,_,B26⟩ HG2.o hw9);unfold W7 at hw9;clear B26;go_wp2_with fail
   refine bodyPost_ret (aCa rfl _ _ _ _ (by rfl) HE.o.2) rfl ?_;exact⟨⟨_,_,_,_,rfl⟩,HE.o.1.1⟩
end Go.Proofs.YtdhlicgaalnmoaaGreatDoor.Tp
