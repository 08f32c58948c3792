/- Contracts of the program's functions, and laws on memory: a part of the proof of TopAlone. -/
import Derived.Test.YtdhlicgaalnmoaaGreatDoorZR
import Derived.Lib.AppendIntMem
import Derived.Test.YtdhlicgaalnmoaaGreatDoorChecked
set_option linter.unusedSimpArgs false
set_option linter.unusedVariables false
namespace Go.Proofs.YtdhlicgaalnmoaaGreatDoor.Tp
open Lib (hid)
open Tryz
open Go.RowKit Go.Maps
set_option maxHeartbeats 8000000
set_option maxRecDepth 100000
theorem aRm:(prog.info? 70).map (fun i=>(i.size,i.bytes,i.zero.map (·.cells.size)))=some (7,88,some 7):=by kernel_rfl
theorem aUy:∃i z,prog.info? 70=some i∧i.zero=some z∧i.size=7∧i.bytes=88∧z.cells.size=7:=by
 have h:=aRm
 cases hi:prog.info? 70 with
 | none=>rw[hi] at h;cases h
 | some i =>
   rw[hi] at h;simp at h
   obtain⟨h1,h2,z,hz,h3⟩:=h;exact⟨i,z,rfl,hz,h1,h2,h3⟩
structure HD where
 t:TX
 b:BG
 rA:Option Addr
 rn:Nat
 rc:Nat
 pA:Option Addr
 pc:Nat
def HD.cells (h:HD):List Value:=[.int .i64 (h.t.st:Int),.int .i64 (h.t.at':Int),.int .i64 (h.t.time:Int),.int .i64 (h.b.fr:Int),.int .i64 (h.b.til:Int),.slice h.rA h.rn h.rc,.slice h.pA h.t.keys.length h.pc]
theorem aLt (h:HD):h.cells.length=7:=rfl
structure HiX (w wr:World) (s:SS) (v:Value) (i:Nat) (hs:List HD):Prop where
 own:wr.ownsRow w.heap.size 70 7 v i (hs.flatMap HD.cells)
 at_:∀(k:Nat) (h:HD),hs[k]? =some h→s.m.txs[k]? =some h.t∧s.bg[k]? =some h.b
 bel:nD w wr
theorem HiX.len {w wr:World} {s:SS} {v:Value} {i:Nat} {hs:List HD} (h:HiX w wr s v i hs):hs.length=i:=by
 have:=h.own.1;rw[Vt aLt] at this;omega
theorem HiX.step {w wr w10 w11:World} {s:SS} {v v':Value} {i:Nat} {hs:List HD} (h:HiX w wr s v i hs) {x:HD} (ht:s.m.txs[i]? =some x.t) (hb:s.bg[i]? =some x.b) (hO:w11.ownsRow w.heap.size 70 7 v' (i+1) (hs.flatMap HD.cells++x.cells)) (hbl:nD wr w10) (hG:w10.grownBy w11 v.ownBlock):HiX w w11 s v' (i+1) (hs++[x]):=by
 have b10:nD w w10:=h.bel.trans (hbl.mono h.bel.size);refine⟨by rw[rX];simpa using hO,fun k y hy=>?_,b10.grown hG b10.size (fun g e=>Xv h.own e)⟩;rcases Uk hy with q|⟨q,rfl⟩
 · exact h.at_ k y q
 · rw[h.len] at q;subst q;exact⟨ht,hb⟩
theorem aBj {w:World} {e i:Nat} {b:BG} (h:Bk w e 91 (Vr i b)):w.cell? ⟨e,0,none⟩=some (.int .i64 ((i:Int)+1))∧w.cell? ⟨e,1,none⟩=some (.int .i64 (b.fr:Int))∧w.cell? ⟨e,2,none⟩=some (.int .i64 (b.til:Int))∧w.cell? ⟨e,3,none⟩=some (.int .i64 0)∧w.cell? ⟨e,4,none⟩=some (.int .i64 0)∧w.cell? ⟨e,5,none⟩=some (.int .i64 0)∧w.cell? ⟨e,6,none⟩=some (.int .i64 0)∧w.cell? ⟨e,7,none⟩=some (.int .i64 0)∧w.cell? ⟨e,8,none⟩=some (.slice none 0 0)∧w.cell? ⟨e,9,none⟩=some (.slice none 0 0) :=
 ⟨h.cell (i:=0) (by simp[Vr]),h.cell (i:=1) (by simp[Vr]),h.cell (i:=2) (by simp[Vr]),h.cell (i:=3) (by simp[Vr]),h.cell (i:=4) (by simp[Vr]),h.cell (i:=5) (by simp[Vr]),h.cell (i:=6) (by simp[Vr]),h.cell (i:=7) (by simp[Vr]),h.cell (i:=8) (by simp[Vr]),h.cell (i:=9) (by simp[Vr])⟩
theorem bFe {w:World} {F:Xt} {sb g:Nat} {s:SS} (h:Ue w F sb s g):Calls prog 26 #[.pointer (some ⟨sb,0,none⟩)] w fun e w'=>∃v hs,e=.returned v∧HiX w w' s v s.bg.length hs:=by
 obtain⟨xi,xz,hxi,hxz,hx5,hx56,hxc⟩:=aUy;obtain⟨Ft,st,gd,alv,hx⟩:=h.x;have hg:=aAt hx.at_st;have zF:=hx.at_all;obtain⟨aA,ac,rfl⟩:=Xs hx.all;have hel:s.es.length=s.bg.length:=hx.len;have htl:s.bg.length=s.m.txs.length:=h.b.len;have hsm:s.bg.length≤700:=by rw[htl];exact tK hx.sto.txs h.big
 rw[hel] at zF;have HX:=hid hx;have HH:=nH hel htl hsm;have m1:∀i:Nat,i<s.bg.length→wrap64 ((i:Int)+1)=(i:Int)+1:=fun i hi=>by unfold wrap64;omega
 have HM:=hid m1;clear h hx hel htl hsm m1;go_enter func26,ntmps26
 go_wp2_with fail
 refine hg.mono ?_;rintro e w' ⟨rfl,rfl⟩;clear hg;go_wp2_with fail
 go_loopw [2,13] (fun ov iv wr=>∃i:Nat,i≤s.bg.length∧iv=.int .i64 (i:Int)∧∃hs,Hid (HiX w wr s ov i hs)) (fun _ iv _=>s.bg.length - (intOf iv).toNat)
 case atStart=>exact⟨0,zL,rfl,[],hid ⟨World.ownsRow_nil w _ _ _,fun k h q=>by simp at q,nB⟩⟩
 case round =>
  rename_i ov iv wr;obtain⟨i,hi,rfl,hs,HY⟩:=hrel;clear zF;obtain⟨vA,vc,rfl⟩:=Xs HY.o.own;rcases tN i s.bg.length with hlt|hge
  · have hxr:=HX.o.next HY.o.bel;obtain⟨e0,he⟩:∃e0,s.es[i]? =some e0:=⟨_,tX (by rw[HH.o.1];exact hlt)⟩
    obtain⟨b,hb⟩:∃b,s.bg[i]? =some b:=⟨_,tX hlt⟩
    obtain⟨t,ht⟩:∃t,s.m.txs[i]? =some t:=⟨_,tX (by rw[←HH.o.2.1];exact hlt)⟩
    obtain⟨aB,cB,hv⟩:=aBd hxr.all (by rw[HH.o.1];omega);injection hv with hv1 _ hv3;subst hv1 hv3
    have ce:wr.cell? ⟨aB,i,none⟩=some (.pointer (some ⟨e0,0,none⟩)):=by
     have:=hxr.all.cells (g:=aB) rfl i (Uj e0) (by rw[rW,he];rfl);rw[Addr.add_lit,Nat.zero_add] at this;exact this
    have hbk:=hxr.beg i e0 b he hb;obtain⟨b0,b1,b2,b3,b4,b5,b6,b7,b8,b9⟩:=aBj hbk;have n1:(i:Int)<(s.bg.length:Int):=by omega
    have n2:(0:Int)≤(i:Int):=by omega
    have m2:=HM.o i hlt;have hco:=aYa wr;have HI:=nK he hb hlt ht hbk hxr;clear hxr he hb ht hbk hi;go_wp2_with fail
    refine hco.mono ?_;rintro e w3 ⟨⟨qA,qc,uA,uc,rfl⟩,hb3⟩;obtain⟨g5,w4,hzw4,hw4,Bw4,bw4⟩:=Xy w3 70 [.int .i64 0,.int .i64 0,.int .i64 0,.int .i64 0,.int .i64 0,.slice none 0 0,.slice none 0 0];obtain⟨r0,r1,r2,r3,r4,r5,r6⟩:=aAe Bw4;have p0:=Bw4.free 0;have p1:=Bw4.free 1;have p2:=Bw4.free 2;have p3:=Bw4.free 3;have p4:=Bw4.free 4;have p5:=Bw4.free 5;have p6:=Bw4.free 6;have HG5:=hid (show wr.heap.size≤g5 by rw[←hzw4];exact hb3.size);obtain⟨w5,hw5⟩:=nC (W7 w4 g5 (.int .i64 0) (.int .i64 0) (.int .i64 0) (.int .i64 0) (.int .i64 0) (.slice qA 0 qc) (.slice uA 0 uc))
    have HB5:=hid (by
     have:=aAy (w:=wr) ⟨hb3.trans (bw4.mono hb3.size),_,_,_,_,_,_,_,Bw4⟩ HG5.o hw5;exact nS this.1.1 this.2)
    have hx5:=HI.o.2.2.2.2.2.next HB5.o.1;obtain⟨Fs,gx,mb,gs,num,count,ns,hgx,hst⟩:=hx5.sto;obtain rfl:=aCw hgx;have HS:=hid hst;have KK:=hid (fun (w':World) (hS:nD w5 w')=>nS ((hx5.next hS).at_st) (aBj ((hx5.next hS).beg i e0 b HI.o.1 HI.o.2.1)));obtain⟨b0,b1,b2,b3,b4,b5,b6,b7,b8,b9⟩:=aBj (hx5.beg i e0 b HI.o.1 HI.o.2.1);unfold W7 at hw5;clear hco hb3 bw4 Bw4 hx5 hst;go_wp2_with fail
    have Kq:=KK;refine Vn (fun w'=>nD w5 w') [9] (by kernel_rfl) (Xu nB) (fun nE=>?_);refine kR 0 ?_;refine kR 1 ?_;refine kR 2 ?_;refine kM 3 ?_;refine kR 4 ?_;refine kR 5 ?_;refine kR 6 ?_;refine kM 7 ?_;refine rM 8 (fun K hK=>?_);go_simp;refine(aHu (HS.o.next nE) HI.o.2.2.2.1).mono ?_;rintro e w6 ⟨⟨rA,rn,rc,pA,pc,rfl⟩,hb6⟩;have hS6:nD w5 w6:=nE.trans (hb6.mono nE.size);have B6:=HB5.o.2.next hS6 HB5.o.2.lt;obtain⟨z0,z1,z2,z3,z4,z5,z6⟩:=aAe B6;have y0:=B6.free 0;have y1:=B6.free 1;have y2:=B6.free 2;have y3:=B6.free 3;have y4:=B6.free 4;have y5:=B6.free 5;have y6:=B6.free 6;obtain⟨w7,hw7⟩:=nC (W7 w6 g5 (.int .i64 (t.st:Int)) (.int .i64 (t.at':Int)) (.int .i64 (t.time:Int)) (.int .i64 0) (.int .i64 0) (.slice rA rn rc) (.slice pA t.keys.length pc));have H7:=hid (aAy (w:=wr) ⟨HB5.o.1.trans (hS6.mono HB5.o.1.size),_,_,_,_,_,_,_,B6⟩ HG5.o hw7);unfold W7 at hw7;clear hb6 B6;go_simp;refine hK.out _ _ (fun _ _=>hS6) ?_;clear hK K nE;have nE:=hS6;try simp only[Act.put,tC,tD,tE]
    refine rM 9 (fun K hK=>?_);go_simp;try rw[hw7]
    refine hK.out _ _ (fun h=>absurd (by decide) h) ?_;clear hK K;try simp only[Act.put,tC,tD,tE]
    refine Vs (by kernel_rfl) ?_ _;clear Kq;have hx7:=HI.o.2.2.2.2.2.next H7.o.1.1;have hS7:Bk w7 e0 91 (Vr i b):=hx7.beg i e0 b HI.o.1 HI.o.2.1;have HS7:=hid hS7;have KK7:=hid (fun (w':World) (hS:Bk w' e0 91 (Vr i b))=>aBj hS);have hne7:e0≠g5:=aIs hS7 H7.o.2 (by decide);obtain⟨x0,x1,x2,x3,x4,x5,x6⟩:=aAe H7.o.2;have f3:=H7.o.2.free 3;obtain⟨w8,hw8⟩:=nC (w7.setCell ⟨g5,3,none⟩ (.int .i64 (b.fr:Int)));have hS8:Bk w8 e0 91 (Vr i b):=by rw[←hw8];exact hS7.far hne7 _
    have B8:Bk w8 g5 70 [.int .i64 (t.st:Int),.int .i64 (t.at':Int),.int .i64 (t.time:Int),.int .i64 (b.fr:Int),.int .i64 0,.slice rA rn rc,.slice pA t.keys.length pc]:=by rw[←hw8];exact H7.o.2.set 3 _
    have x84:=(aAe B8).2.2.2.2.1;have f84:=B8.free 4;obtain⟨w9,hw9⟩:=nC (w8.setCell ⟨g5,4,none⟩ (.int .i64 (b.til:Int)));have B9:Bk w9 g5 70 [.int .i64 (t.st:Int),.int .i64 (t.at':Int),.int .i64 (t.time:Int),.int .i64 (b.fr:Int),.int .i64 (b.til:Int),.slice rA rn rc,.slice pA t.keys.length pc]:=by rw[←hw9];exact B8.set 4 _
    have H9:=nF (aBk (aBk H7.o.1.1 HG5.o hw8) HG5.o hw9) B9;have HS8:=hid hS8;clear hS7 hS8 hne7 hx7 z0 z1 z2 z3 z4 z5 z6 y0 y1 y2 y3 y4 y5 y6 B8 B9 b0 b1 b2 b3 b4 b5 b6 b7 b8 b9 r0 r1 r2 r3 r4 r5 r6 p0 p1 p2 p3 p4 p5 p6;go_wp2_with fail
    have Kq:=KK7;refine Vn (fun w'=>Bk w' e0 91 (Vr i b)) [11] (by kernel_rfl) (HS7.o.drew) (fun nE=>?_);refine kR 0 ?_;refine kR 1 ?_;refine kR 2 ?_;refine kM 3 ?_;refine kR 4 ?_;refine kR 5 ?_;refine kR 6 ?_;refine kM 7 ?_;refine kR 8 ?_;refine rM 9 (fun K hK=>?_);go_simp;try rw[hw8]
    refine hK.out _ _ (fun _ _=>HS8.o) ?_;clear hK K nE;have nE:=HS8.o;try simp only[Act.put,tC,tD,tE]
    refine kR 10 ?_;refine rM 11 (fun K hK=>?_);go_simp;try rw[hw9]
    refine hK.out _ _ (fun h=>absurd (by decide) h) ?_;clear hK K;try simp only[Act.put,tC,tD,tE]
    refine Vs (by kernel_rfl) ?_ _;clear Kq;obtain⟨d0,d1,d2,d3,d4,d5,d6⟩:=aAe H9.o.2;obtain⟨g10,w10,hzw10,hw10,Bw10,bw10⟩:=Xy w9 70 [.int .i64 (t.st:Int),.int .i64 (t.at':Int),.int .i64 (t.time:Int),.int .i64 (b.fr:Int),.int .i64 (b.til:Int),.slice rA rn rc,.slice pA t.keys.length pc];have hb10:nD wr w10:=H9.o.1.trans (bw10.mono H9.o.1.size);have HO:=nF (Vg HY.o.own hb10) hb10;have HB10:=hid Bw10;have hn7:i+1≤701:=tK hlt (tK HH.o.2.2 (by decide));clear hb10 Bw10 bw10 x0 x1 x2 x3 x4 x5 x6 f3 x84 f84;go_wp2_with (at_builtin;go_must (refine aAa _ rfl _ _ 66 rfl w.heap.size 70 xi xz 7 88 underlying66 hxi hxz hx5 hx56 hxc (by decide) (.slice vA i vc) i (hs.flatMap HD.cells) (by rfl) (by exact HO.o.1) w10.heap.size (some ⟨g10,0,none⟩) 1 1 [.int .i64 (t.st:Int),.int .i64 (t.at':Int),.int .i64 (t.time:Int),.int .i64 (b.fr:Int),.int .i64 (b.til:Int),.slice rA rn rc,.slice pA t.keys.length pc] (by rfl) rfl HB10.o.rd (by intro u hu;simp at hu;rcases hu with rfl|rfl|rfl|rfl|rfl|rfl|rfl<;>rfl) (tK hn7 (by decide)) (tK (Nat.mul_le_mul_right 88 hn7) (by decide)) (tK HY.o.bel.size HO.o.2.size) ?_))
    intro bF w11 hO11 hG11 hv11;have HE:=hid (HY.o.step (x:=⟨t,b,rA,rn,rc,pA,pc⟩) HI.o.2.2.2.1 HI.o.2.1 hO11 (HO.o.2.trans ((Xu nB).mono HO.o.2.size)) hG11);clear hO11 hG11 hv11;go_wp2_with fail
    go_roundw
    case rel=>exact⟨i+1,hlt,Va (by first|rfl|exact m2),_,HE⟩
    case measure=>(try rw[m2]);exact Xw (x:=(i:Int)+1) hlt rfl
  · obtain rfl:i=s.bg.length:=tQ hi hge;go_wp2_with fail
    go_ret;exact⟨_,hs,rfl,HY.o⟩
theorem bFf {w:World} {Fs:Xt} {sb st e0 i pos g:Nat} {dv:Value} {cs:List Value} {b:BG} {m:MS} {t:TX} (hb:Bk w sb 85 cs) (h1:cs[1]? =some (.pointer (some ⟨st,0,none⟩))) (he:Bk w e0 91 (Vr i b)) (hs:Sto w Fs st dv pos m g) (ht:m.txs[i]? =some t) :
  Calls prog 36 #[.pointer (some ⟨sb,0,none⟩),.pointer (some ⟨e0,0,none⟩)] w fun e w'=>(∃(a b c:Int) (rA:Option Addr) (rn rc:Nat) (pA:Option Addr) (pn pc:Nat),e=.returned (.agg #[.int .i64 a,.int .i64 b,.int .i64 c,.int .i64 0,.int .i64 0,.slice rA rn rc,.slice pA pn pc]))∧nD w w':=by
 obtain⟨g1,w1,hzw1,hw1,Bw1,bw1⟩:=Xy w 70 [.int .i64 0,.int .i64 0,.int .i64 0,.int .i64 0,.int .i64 0,.slice none 0 0,.slice none 0 0];obtain⟨Fs',gd,mb,gs,num,count,ns,-,hs⟩:=hs;have KK:=hid (fun (w':World) (hS:nD w1 w')=>nS (Bk.at' ((hb.next bw1 hb.lt).next hS (tL hb.lt bw1.size)) h1) (aBj ((he.next bw1 he.lt).next hS (tL he.lt bw1.size))).1);have HS:=nF (hs.next bw1) ht;have HW:=nH bw1 Bw1 (tO hzw1);clear hb h1 he hs ht bw1 Bw1;go_enter func36,ntmps36
 go_wp2_with fail
 obtain⟨wd,hwd⟩:=nC (w1.drew);have Kq:=KK;refine wp_region_held_drew (S:=fun w'=>nD w1 w') (by kernel_rfl) (Xu nB) (fun nE=>?_);rw[hwd] at nE ⊢;refine kF 0 ?_;refine kF 1 ?_;refine kF 2 ?_;refine kF 3 ?_;refine kF 4 ?_;refine kF 5 ?_;refine kF 6 ?_;refine kF 7 ?_;clear hwd;refine wpAnyH_ready (rs:=[8,9]) (by kernel_rfl) (by simp) ?_;refine AllReadyH.cons (by simp only[tF,tG,tH];rfl) (fun K hK=>?_) (AllReadyH.cons (by simp only[tF,tG,tH];rfl) (fun K hK=>?_) AllReadyH.nil)
 · skip;go_simp;refine(aHu (HS.o.1.next nE) HS.o.2).mono ?_;rintro e w2 ⟨⟨rA,rn,rc,pA,pc,rfl⟩,hb'⟩;have hS':=nE.trans (hb'.mono nE.size);go_simp;clear hb';clear nE;refine hK.out _ _ hS' (fun nE=>?_);clear hK K;try simp only[Act.put,tC,tD,tE]
   clear hS';refine rF 9 (fun K hK=>?_);go_simp;obtain⟨g7,wA,hg7,hwA,hB7,hb'⟩:=aAi nE 70 [.int .i64 0,.int .i64 0,.int .i64 0,.int .i64 0,.int .i64 0,.slice none 0 0,.slice none 0 0];have HG7:=hid (show w1.heap.size≤g7 by rw[←hg7];exact nE.size);rw[hwA];clear hwA;try simp only[World.size_drew] at hg7
   have hS':=nE.trans (hb'.mono nE.size);try rw[hg7]
   clear hg7;clear hb';clear nE;refine hK.out _ _ hS' (fun nE=>?_);clear hK K;try simp only[Act.put,tC,tD,tE]
   clear hS';obtain⟨z0,z1,z2,z3,z4,z5,z6⟩:=aAe hB7;have y0:=hB7.free 0;have y1:=hB7.free 1;have y2:=hB7.free 2;have y3:=hB7.free 3;have y4:=hB7.free 4;have y5:=hB7.free 5;have y6:=hB7.free 6;obtain⟨w9,hw9⟩:=nC (W7 wA g7 (.int .i64 (t.st:Int)) (.int .i64 (t.at':Int)) (.int .i64 (t.time:Int)) (.int .i64 0) (.int .i64 0) (.slice rA rn rc) (.slice pA t.keys.length pc));obtain⟨⟨hb9,-⟩,B9⟩:=aAy (w:=w1) ⟨nE,_,_,_,_,_,_,_,hB7⟩ HG7.o hw9;have H9:=nF hb9 B9;unfold W7 at hw9;refine rF 10 (fun K hK=>?_);go_simp;try rw[hw9]
   refine hK.out _ _ (H9.o.1) (fun hHeld2=>?_);clear hK K nE;have nE:=hHeld2;clear hHeld2;try simp only[Act.put,tC,tD,tE]
   refine wpAnyH_done (by kernel_rfl) ?_ _;clear z0 z1 z2 z3 z4 z5 z6 y0 y1 y2 y3 y4 y5 y6 hb9 B9 hB7;obtain⟨d0,d1,d2,d3,d4,d5,d6⟩:=aAe H9.o.2;by_cases h1:t.st=1
   · have HB:=H9.o.2;rw[h1] at d0;have f0:=HB.free 0;obtain⟨w10,hw10⟩:=nC (w9.setCell ⟨g7,0,none⟩ (.int .i64 4));have B10:=HB.set 0 (.int .i64 4);rw[hw10] at B10;obtain⟨x0,x1,x2,x3,x4,x5,x6⟩:=aAe B10;have hb1:=aBk H9.o.1 HG7.o hw10;have B1:=HW.o.2.1.next hb1 HW.o.2.1.lt;obtain⟨p0,p1,p2,p3,p4,p5,p6⟩:=aAe B1;have q0:=B1.free 0;have q1:=B1.free 1;have q2:=B1.free 2;have q3:=B1.free 3;have q4:=B1.free 4;have q5:=B1.free 5;have q6:=B1.free 6;obtain⟨w11,hw11⟩:=nC (W7 w10 g1 (.int .i64 4) (.int .i64 (t.at':Int)) (.int .i64 (t.time:Int)) (.int .i64 0) (.int .i64 0) (.slice rA rn rc) (.slice pA t.keys.length pc));have HE:=hid (aAy (w:=w) ⟨HW.o.1.trans (hb1.mono HW.o.1.size),_,_,_,_,_,_,_,B1⟩ HW.o.2.2 hw11);unfold W7 at hw11;clear hb1 B1;go_wp2_with fail
     refine bodyPost_ret (aCa rfl _ _ _ _ (by rfl) HE.o.2) rfl ?_;exact⟨⟨_,_,_,_,_,_,_,_,_,rfl⟩,HE.o.1.1⟩
   · have n1:((t.st:Int)==1)=false:=beq_eq_false_iff_ne.2 (by omega);have n2:decide ((t.st:Int)=1)=false:=rY (by omega);have hb1:=H9.o.1;have B1:=HW.o.2.1.next hb1 HW.o.2.1.lt;obtain⟨p0,p1,p2,p3,p4,p5,p6⟩:=aAe B1;have q0:=B1.free 0;have q1:=B1.free 1;have q2:=B1.free 2;have q3:=B1.free 3;have q4:=B1.free 4;have q5:=B1.free 5;have q6:=B1.free 6;obtain⟨w11,hw11⟩:=nC (W7 w9 g1 (.int .i64 (t.st:Int)) (.int .i64 (t.at':Int)) (.int .i64 (t.time:Int)) (.int .i64 0) (.int .i64 0) (.slice rA rn rc) (.slice pA t.keys.length pc));have HE:=hid (aAy (w:=w) ⟨HW.o.1.trans (hb1.mono HW.o.1.size),_,_,_,_,_,_,_,B1⟩ HW.o.2.2 hw11);unfold W7 at hw11;clear hb1 B1;go_wp2_with fail
     refine bodyPost_ret (aCa rfl _ _ _ _ (by rfl) HE.o.2) rfl ?_;exact⟨⟨_,_,_,_,_,_,_,_,_,rfl⟩,HE.o.1.1⟩
 · skip;go_simp;obtain⟨g7,wA,hg7,hwA,hB7,hb'⟩:=aAi nE 70 [.int .i64 0,.int .i64 0,.int .i64 0,.int .i64 0,.int .i64 0,.slice none 0 0,.slice none 0 0];have HG7:=hid (show w1.heap.size≤g7 by rw[←hg7];exact nE.size);rw[hwA];clear hwA;try simp only[World.size_drew] at hg7
   have hS':=nE.trans (hb'.mono nE.size);try rw[hg7]
   clear hg7;clear hb';clear nE;refine hK.out _ _ hS' (fun nE=>?_);clear hK K;try simp only[Act.put,tC,tD,tE]
   clear hS';refine rF 8 (fun K hK=>?_);go_simp;refine(aHu (HS.o.1.next nE) HS.o.2).mono ?_;rintro e w2 ⟨⟨rA,rn,rc,pA,pc,rfl⟩,hb'⟩;have hS':=nE.trans (hb'.mono nE.size);go_simp;replace hB7:=hB7.next hb' hB7.lt
   clear hb';clear nE;refine hK.out _ _ hS' (fun nE=>?_);clear hK K;try simp only[Act.put,tC,tD,tE]
   clear hS';obtain⟨z0,z1,z2,z3,z4,z5,z6⟩:=aAe hB7;have y0:=hB7.free 0;have y1:=hB7.free 1;have y2:=hB7.free 2;have y3:=hB7.free 3;have y4:=hB7.free 4;have y5:=hB7.free 5;have y6:=hB7.free 6;obtain⟨w9,hw9⟩:=nC (W7 w2 g7 (.int .i64 (t.st:Int)) (.int .i64 (t.at':Int)) (.int .i64 (t.time:Int)) (.int .i64 0) (.int .i64 0) (.slice rA rn rc) (.slice pA t.keys.length pc));obtain⟨⟨hb9,-⟩,B9⟩:=aAy (w:=w1) ⟨nE,_,_,_,_,_,_,_,hB7⟩ HG7.o hw9;have H9:=nF hb9 B9;unfold W7 at hw9;refine rF 10 (fun K hK=>?_);go_simp;try rw[hw9]
   refine hK.out _ _ (H9.o.1) (fun hHeld2=>?_);clear hK K nE;have nE:=hHeld2;clear hHeld2;try simp only[Act.put,tC,tD,tE]
   refine wpAnyH_done (by kernel_rfl) ?_ _;clear z0 z1 z2 z3 z4 z5 z6 y0 y1 y2 y3 y4 y5 y6 hb9 B9 hB7;obtain⟨d0,d1,d2,d3,d4,d5,d6⟩:=aAe H9.o.2;by_cases h1:t.st=1
   · have HB:=H9.o.2;rw[h1] at d0;have f0:=HB.free 0;obtain⟨w10,hw10⟩:=nC (w9.setCell ⟨g7,0,none⟩ (.int .i64 4));have B10:=HB.set 0 (.int .i64 4);rw[hw10] at B10;obtain⟨x0,x1,x2,x3,x4,x5,x6⟩:=aAe B10;have hb1:=aBk H9.o.1 HG7.o hw10;have B1:=HW.o.2.1.next hb1 HW.o.2.1.lt;obtain⟨p0,p1,p2,p3,p4,p5,p6⟩:=aAe B1;have q0:=B1.free 0;have q1:=B1.free 1;have q2:=B1.free 2;have q3:=B1.free 3;have q4:=B1.free 4;have q5:=B1.free 5;have q6:=B1.free 6;obtain⟨w11,hw11⟩:=nC (W7 w10 g1 (.int .i64 4) (.int .i64 (t.at':Int)) (.int .i64 (t.time:Int)) (.int .i64 0) (.int .i64 0) (.slice rA rn rc) (.slice pA t.keys.length pc));have HE:=hid (aAy (w:=w) ⟨HW.o.1.trans (hb1.mono HW.o.1.size),_,_,_,_,_,_,_,B1⟩ HW.o.2.2 hw11);unfold W7 at hw11;clear hb1 B1;go_wp2_with fail
     refine bodyPost_ret (aCa rfl _ _ _ _ (by rfl) HE.o.2) rfl ?_;exact⟨⟨_,_,_,_,_,_,_,_,_,rfl⟩,HE.o.1.1⟩
   · have n1:((t.st:Int)==1)=false:=beq_eq_false_iff_ne.2 (by omega);have n2:decide ((t.st:Int)=1)=false:=rY (by omega);have hb1:=H9.o.1;have B1:=HW.o.2.1.next hb1 HW.o.2.1.lt;obtain⟨p0,p1,p2,p3,p4,p5,p6⟩:=aAe B1;have q0:=B1.free 0;have q1:=B1.free 1;have q2:=B1.free 2;have q3:=B1.free 3;have q4:=B1.free 4;have q5:=B1.free 5;have q6:=B1.free 6;obtain⟨w11,hw11⟩:=nC (W7 w9 g1 (.int .i64 (t.st:Int)) (.int .i64 (t.at':Int)) (.int .i64 (t.time:Int)) (.int .i64 0) (.int .i64 0) (.slice rA rn rc) (.slice pA t.keys.length pc));have HE:=hid (aAy (w:=w) ⟨HW.o.1.trans (hb1.mono HW.o.1.size),_,_,_,_,_,_,_,B1⟩ HW.o.2.2 hw11);unfold W7 at hw11;clear hb1 B1;go_wp2_with fail
     refine bodyPost_ret (aCa rfl _ _ _ _ (by rfl) HE.o.2) rfl ?_;exact⟨⟨_,_,_,_,_,_,_,_,_,rfl⟩,HE.o.1.1⟩
abbrev WB (w:World) (e:Nat) (v0 v1 v2 v3 v4 v5 v6:Value):World:=(((((((w.setCell ⟨e,3,none⟩ v0).setCell ⟨e,4,none⟩ v1).setCell ⟨e,5,none⟩ v2).setCell ⟨e,6,none⟩ v3).setCell ⟨e,7,none⟩ v4).setCell ⟨e,8,none⟩ v5).setCell ⟨e,9,none⟩ v6).setCell ⟨e,0,none⟩ (.int .i64 0)
theorem bHm {w w':World} {e i:Nat} {b:BG} {v0 v1 v2 v3 v4 v5 v6:Value} (h:Bk w e 91 (Vr i b)) (q:WB w e v0 v1 v2 v3 v4 v5 v6=w'):Kf (fun b=>b=e) w w':=by
 have k:=Kf.refl (fun b=>b=e) w;have k:=k.set h (by decide) (.inl rfl) 3 v0;have h:=h.set 3 v0;have k:=k.set h (by decide) (.inl rfl) 4 v1;have h:=h.set 4 v1;have k:=k.set h (by decide) (.inl rfl) 5 v2;have h:=h.set 5 v2;have k:=k.set h (by decide) (.inl rfl) 6 v3;have h:=h.set 6 v3;have k:=k.set h (by decide) (.inl rfl) 7 v4;have h:=h.set 7 v4;have k:=k.set h (by decide) (.inl rfl) 8 v5;have h:=h.set 8 v5;have k:=k.set h (by decide) (.inl rfl) 9 v6;have h:=h.set 9 v6;have k:=k.set h (by decide) (.inl rfl) 0 (.int .i64 0);rw[←q];exact k
def CrL (w3 wr:World) (F2:Xt) (es:List Nat) (bg:List BG) (i:Nat):Prop:=Kf F2 w3 wr∧∀(j e:Nat) (b:BG),i≤j→es[j]? =some e→bg[j]? =some b→Bk wr e 91 (Vr j b)
theorem CrL.step {w3 wr w5 w6:World} {F2:Xt} {es:List Nat} {bg:List BG} {i e0:Nat} (h:CrL w3 wr F2 es bg i) (hb:nD wr w5) (he:es[i]? =some e0) (k:Kf (fun b=>b=e0) w5 w6) (hF:F2 e0) (nd:∀(i j x:Nat),es[i]? =some x→es[j]? =some x→i=j):CrL w3 w6 F2 es bg (i+1):=by
 refine⟨(h.1.next hb).trans (k.mono (fun b q=>by have q:b=e0:=q;rw[q];exact hF)) (fun b q=>.inl q),fun j e b hj q r=>?_⟩;have h1:=h.2 j e b (by omega) q r
 exact Bk.ag (F:=fun b=>b=e) (h1.next hb h1.lt) (k.ag (fun b s t=>by
  have s:b=e:=s;have t:b=e0:=t;have:=nd i j e0 he (by rw[q,←s,t]);omega)) rfl
def CrC (w5 wr:World) (sb st:Nat) (dp alv:Value) (cls:List CLD) (ev k:Nat):Prop:=∃cls':List CLD,cls'.length=8∧(∀j,k≤j→cls'[j]? =cls[j]?)∧Bk wr sb 85 (Vm dp st cls' alv ev)∧Kf (fun b=>b=sb) w5 wr
theorem CrC.skip {w5 wr:World} {sb st ev k:Nat} {dp alv:Value} {cls:List CLD} (h:CrC w5 wr sb st dp alv cls ev k):CrC w5 wr sb st dp alv cls ev (k+1):=by
 obtain⟨c',h1,h2,h3⟩:=h;exact⟨c',h1,fun j hj=>h2 j (by omega),h3⟩
theorem CrC.tail {w5 wr w6:World} {sb st ev k:Nat} {dp alv:Value} {cls:List CLD} {c:CLD} (h:CrC w5 wr sb st dp alv cls ev k) (hj:cls[k]? =some c) (ov':Value) (e:(wr.setCell ⟨sb,2+k*4,none⟩ ov').setCell ⟨sb,2+k*4+3,none⟩ (.bool false)=w6):CrC w5 w6 sb st dp alv cls ev (k+1):=by
 obtain⟨c',h8,ho,hB,hk⟩:=h;rw[←ho k lR] at hj;have b1:=hB.set (2+(k*4+0)) ov';rw[aDo h8 hj (c':={c with ov:=ov'}) (by decide) rfl] at b1;have hj1:(c'.set k {c with ov:=ov'})[k]? =some {c with ov:=ov'}:=by rw[rD,if_pos rfl,if_pos (Vi hj)]
 have b2:=b1.set (2+(k*4+3)) (.bool false);rw[aDo (by rw[rK];exact h8) hj1 (c':={c with ov:=ov',asked:=false}) (by decide) rfl] at b2;refine⟨_,?_,?_,by rw[←e];exact b2,by rw[←e];exact(hk.set hB (by decide) (.inl rfl) _ _).set (hB.set _ _) (by decide) (.inl rfl) _ _⟩
 · rw[rK,rK];exact h8
 · intro j hj';rw[rD,if_neg (by omega),rD,if_neg (by omega)];exact ho j (by omega)
theorem CrC.at_ {w5 wr:World} {sb st ev k:Nat} {dp alv:Value} {cls:List CLD} {c:CLD} (h:CrC w5 wr sb st dp alv cls ev k) (hj:cls[k]? =some c):wr.cell? ⟨sb,2+k*4,none⟩=some c.ov∧wr.cell? ⟨sb,2+k*4+3,none⟩=some (.bool c.asked)∧wr.frozen? ⟨sb,2+k*4,none⟩=false∧wr.frozen? ⟨sb,2+k*4+3,none⟩=false:=by
 obtain⟨c',h8,ho,hB,hk⟩:=h;rw[←ho k lR] at hj;exact⟨Bk.at' hB (aCq h8 hj (i:=0) (by decide) rfl),Bk.at' hB (aCq h8 hj (i:=3) (by decide) rfl),hB.free _,hB.free _⟩
theorem bDb {w w1 w3 w5 w8:World} {F F3:Xt} {Ft:Nat→Xt} {sb st st' gd' pos' t ev pos g:Nat} {dp alv:Value} {cls:List CLD} {al es:List Nat} {bg:List BG} {m:MS} (hx:Vo w1 F Ft sb st dp alv cls al es bg m ev pos g) (k1:Kf F w w1) (hz:w.heap.size=w1.heap.size) (hb:nD w1 w3) (k2:Kf (Ft 2) w3 w5) (k3:Kf (fun b=>b=sb) w5 w8) (hs:Sto w3 F3 st' (gp gd') pos' (msB t) (g+5)) (hF:∀b,F3 b→w1.heap.size≤b) (hc:w8.cell? ⟨sb,1,none⟩=some (.pointer (some ⟨st',0,none⟩))) (ht:t≤g) :
  ∃st gd pos t F',t≤g∧w8.cell? ⟨sb,1,none⟩=some (.pointer (some ⟨st,0,none⟩))∧Sto w8 F' st (gp gd) pos (msB t) (g+5)∧Kf F w w8∧∀b,F' b→w.heap.size≤b:=by
 have k38:Kf F w3 w8:=(k2.mono (hx.fam.sub 2)).trans (k3.mono (fun b q=>by have q:b=sb:=q;rw[q];exact hx.inF)) (fun b q=>.inl q);exact⟨st',gd',pos',t,F3,ht,hc,hs.ag (k38.ag (fun b q r=>by have h1:=hF b q;have h2:=hx.fam.lt b r;omega)),(k1.trans (Kf.of_below (F:=F) hb) (fun b q=>.inl q)).trans k38 (fun b q=>.inl q),fun b q=>by rw[hz];exact hF b q⟩
theorem bAr {w:World} {F:Xt} {sb g:Nat} {s:SS} (h:Ue w F sb s g) (hg:g≤600):Calls prog 8 #[.pointer (some ⟨sb,0,none⟩),.slice none 0 0,.slice none 0 0] w fun e w'=>e=.returned (.int .i64 0)∧∃st gd pos t F',t≤g∧w'.cell? ⟨sb,1,none⟩=some (.pointer (some ⟨st,0,none⟩))∧Sto w' F' st (gp gd) pos (msB t) (g+5)∧Kf F w w'∧∀b,F' b→w.heap.size≤b:=by
 obtain⟨Ft,st,gd,alv,hx⟩:=h.x;have hgo:=aAt hx.at_st;have zG:=hx.at_ev;have f35:=hx.bx.free 35;have m2:=aHv (ev:=s.ev) (by have:=h.ev;omega);obtain⟨aA,ac,rfl⟩:=Xs hx.all;obtain⟨w1,hw1⟩:=nC (w.setCell ⟨sb,35,none⟩ (.int .i64 ((s.ev:Int)+1)));have hz1:w.heap.size=w1.heap.size:=by rw[←hw1];exact(World.size_setCell _ _ _).symm
 obtain⟨hx1,hk1⟩:=hx.evd (w':=w1) hw1.symm;obtain⟨Fs,gx,mb,gs,num,count,ns,hgx,hs⟩:=hx1.sto;obtain rfl:=aCw hgx;obtain⟨cs,hdc,hns,hcon⟩:=hs.dev;have d0:w1.cell? ⟨sb,0,none⟩=some (.pointer (some ⟨gd,0,none⟩)):=Bk.at' hx1.bx (i:=0) rfl;have hc:=aXc (Fs 2) gd cs w1 hdc (hs.fam.inn 2);have htl:s.es.length=s.m.txs.length:=hx.len.trans h.b.len;have hel:s.es.length≤700:=by rw[htl];exact tK hx.sto.txs h.big
 have H:=nP hx1 hk1 hz1 hs.z6 hs.z7 hs.pos hns hcon hg htl hel hx.len;clear h hx hx1 hk1 hz1 hgx hs hdc hns hcon hg htl hel;go_enter func8,ntmps8
 go_wp2_with fail
 refine hgo.mono ?_;rintro e w' ⟨rfl,rfl⟩;clear hgo;go_wp2_with fail
 refine hc.mono ?_;rintro e w2 ⟨gd',rfl,F',hd',hb2,hF',hi'⟩;have hm:=aMu g s.pos F' gd' ns w2 ⟨cs,hd',H.o.2.2.2.2.2.2.1,H.o.2.2.2.2.2.2.2.1⟩ hi' H.o.2.2.2.1 H.o.2.2.2.2.1 H.o.2.2.2.2.2.1 H.o.2.2.2.2.2.2.2.2.1;have H2:=nF hb2 hF';clear hc hd' hb2 hF' hi' zG f35 d0;go_wp2_with fail
 refine hm.mono ?_;rintro e w3 ⟨st',rfl,F3,pos',t,⟨ht,-⟩,hs3,hk3,hsb3,-⟩;have hb13:=H2.o.1.trans (hk3.below H2.o.2 H2.o.1.size);have hx3:=H.o.1.next hb13;have zF:=hx3.at_all;have HS:=nH ht hs3 (fun (b:Nat) (q:F3 b)=>(hsb3 b q).elim (H2.o.2 b) (tK H2.o.1.size));have HX:=nF hx3 hb13;clear hm ht hs3 hk3 hsb3 hb13 hx3;go_wp2_with fail
 go_loopw [43] (fun iv wr=>∃i:Nat,i≤s.es.length∧iv=.int .i64 (i:Int)∧Hid (CrL w3 wr (Ft 2) s.es s.bg i)) (fun iv _=>s.es.length - (intOf iv).toNat)
 case atStart=>exact⟨0,zL,rfl,hid ⟨Kf.refl _ _,fun j e b _ q r=>HX.o.1.beg j e b q r⟩⟩
 case round =>
  obtain⟨i,hi,rfl,HY⟩:=hrel;clear zF;have a0:Ag (Ft 0) w3 wr:=HX.o.1.fam.ag HY.o.1 (by decide:(0:Nat)≠2);have hbs:Bk wr sb 85 (Vm (Uj gd) st s.cls (.slice aA s.es.length ac) (s.ev+1)):=Bk.ag HX.o.1.bx a0 HX.o.1.f0;rcases tN i s.es.length with hlt|hge
  · obtain⟨e0,he⟩:∃e0,s.es[i]? =some e0:=⟨_,tX hlt⟩
    obtain⟨b,hb⟩:∃b,s.bg[i]? =some b:=⟨_,tX (by rw[←H.o.2.2.2.2.2.2.2.2.2.2.2];exact hlt)⟩
    obtain⟨t2,ht2⟩:∃t2,s.m.txs[i]? =some t2:=⟨_,tX (by rw[←H.o.2.2.2.2.2.2.2.2.2.1];exact hlt)⟩
    have hall:=Vj HX.o.1.all a0 HX.o.1.f1;obtain⟨aB,cB,hv⟩:=aBd hall (by omega);injection hv with hv1 _ hv3;subst hv1 hv3
    have ce:wr.cell? ⟨aB,i,none⟩=some (.pointer (some ⟨e0,0,none⟩)):=by
     have:=hall.cells (g:=aB) rfl i (Uj e0) (by rw[rW,he];rfl);rw[Addr.add_lit,Nat.zero_add] at this;exact this
    have B0:=HY.o.2 i e0 b lR he hb;have b0:=(aBj B0).1;have hen:=bFf hbs rfl B0 (HX.o.1.sto.ag (HX.o.1.fam.ag HY.o.1 (by decide:(1:Nat)≠2))) ht2;have n1:(i:Int)<(s.es.length:Int):=by omega
    have n2:(0:Int)≤(i:Int):=by omega
    have n3:(0:Int)<(i:Int)+1:=by omega
    have m2:wrap64 ((i:Int)+1)=(i:Int)+1:=by have:=H.o.2.2.2.2.2.2.2.2.2.2.1;unfold wrap64;omega
    have HI:=nH he B0 hlt;clear a0 hbs hall he hb ht2 hi B0;go_wp2_with fail
    refine hen.mono ?_;rintro e w4 ⟨⟨u0,u1,u2,rA,rn,rc,pA,pn,pc,rfl⟩,hb4⟩;have B4:=HI.o.2.1.next hb4 HI.o.2.1.lt;obtain⟨z0,z1,z2,z3,z4,z5,z6,z7,z8,z9⟩:=aBj B4;have y0:=B4.free 0;have y3:=B4.free 3;have y4:=B4.free 4;have y5:=B4.free 5;have y6:=B4.free 6;have y7:=B4.free 7;have y8:=B4.free 8;have y9:=B4.free 9;obtain⟨w6,hw6⟩:=nC (WB w4 e0 (.int .i64 u0) (.int .i64 u1) (.int .i64 u2) (.int .i64 0) (.int .i64 0) (.slice rA rn rc) (.slice pA pn pc));have HE:=hid (HY.o.step hb4 HI.o.1 (bHm B4 hw6) (HX.o.1.f2 e0 (tZ HI.o.1)) HX.o.1.nd);unfold WB at hw6;clear hen hb4 B4 ce b0 z1 z2;go_wp2_with fail
    go_roundw
    case rel=>exact⟨i+1,HI.o.2.2,Va (by first|rfl|exact m2),HE⟩
    case measure=>(try rw[m2]);exact Xw (x:=(i:Int)+1) HI.o.2.2 rfl
  · obtain rfl:i=s.es.length:=tQ hi hge;obtain⟨w6,rfl⟩:∃w6,w6=wr:=⟨_,rfl⟩
    have HC0:=hid (show CrC w6 w6 sb st (Uj gd) (.slice aA s.es.length ac) s.cls (s.ev+1) 0 from⟨s.cls,HX.o.1.cl8,fun j _=>rfl,hbs,Kf.refl _ _⟩);clear a0 hbs hi hge;go_wp2_with fail
    go_loopw [62] (fun kv wq=>∃k:Nat,k≤8∧kv=.int .i64 (k:Int)∧Hid (CrC w6 wq sb st (Uj gd) (.slice aA s.es.length ac) s.cls (s.ev+1) k)) (fun kv _=>8 - (intOf kv).toNat)
    case atStart=>exact⟨0,zL,rfl,HC0⟩
    case round =>
     obtain⟨k,hk,rfl,HC⟩:=hrel;rcases tN k 8 with hlt|hge
     · obtain⟨c,hj⟩:∃c,s.cls[k]? =some c:=⟨_,tX (by rw[HX.o.1.cl8];exact hlt)⟩
       obtain⟨y0,y3,f0,f3⟩:=HC.o.at_ hj;have hcl:=HX.o.1.cl k c hj;have n1:(k:Int)<8:=by omega
       have n2:(0:Int)≤(k:Int):=by omega
       have m2:wrap64 ((k:Int)+1)=(k:Int)+1:=by unfold wrap64;omega
       have HJ:=nF hj hlt
       cases hask:c.asked with
       | false =>
         rw[hask] at y3;clear hcl hask hj hk hlt;go_wp2_with fail
         go_roundw
         case rel=>exact⟨k+1,HJ.o.2,Va (by first|rfl|exact m2),hid HC.o.skip⟩
         case measure=>(try rw[m2]);exact Xw (x:=(k:Int)+1) HJ.o.2 rfl
       | true =>
         rw[hask] at y3;obtain⟨o,l,hops,-⟩:=hcl.ask hask;obtain⟨gq,off,cap,hov,hcap,-⟩:=aMh hcl hops;rw[hov] at y0;have nu1:(1:Int)≤(l.length:Int)+1:=by omega
         have nu2:(l.length:Int)+1≤(cap:Int):=by omega
         have nu3:(1:Int)≤(cap:Int):=by omega
         clear hcl hask hj hk hlt hov hops;by_cases hc1:cap=1
         · subst hc1;obtain⟨w7,hw7⟩:=nC ((wr.setCell ⟨sb,2+k*4,none⟩ (.slice (some ⟨gq,off,none⟩) 0 (0))).setCell ⟨sb,2+k*4+3,none⟩ (.bool false));have HE:=hid (HC.o.tail HJ.o.1 _ hw7);go_wp2_with fail
           go_roundw
           case rel=>exact⟨k+1,HJ.o.2,Va (by first|rfl|exact m2),HE⟩
           case measure=>(try rw[m2]);exact Xw (x:=(k:Int)+1) HJ.o.2 rfl
         · skip;obtain⟨w7,hw7⟩:=nC ((wr.setCell ⟨sb,2+k*4,none⟩ (.slice (some ⟨gq,off+5,none⟩) l.length (cap - 1))).setCell ⟨sb,2+k*4+3,none⟩ (.bool false));have HE:=hid (HC.o.tail HJ.o.1 _ hw7);go_wp2_with fail
           go_roundw
           case rel=>exact⟨k+1,HJ.o.2,Va (by first|rfl|exact m2),HE⟩
           case measure=>(try rw[m2]);exact Xw (x:=(k:Int)+1) HJ.o.2 rfl
     · obtain rfl:k=8:=tQ hk hge;obtain⟨cls',h8,-,hB,hkf⟩:=HC.o;have x0:wr.cell? ⟨sb,0,none⟩=some (Uj gd):=Bk.at' hB (i:=0) rfl;have x1:wr.cell? ⟨sb,1,none⟩=some (Uj st):=Bk.at' hB (i:=1) rfl;have f0:=hB.free 0;have f1:=hB.free 1;obtain⟨w8,hw8⟩:=nC ((wr.setCell ⟨sb,0,none⟩ (.pointer (some ⟨gd',0,none⟩))).setCell ⟨sb,1,none⟩ (.pointer (some ⟨st',0,none⟩)));have B8:=(hB.set 0 (.pointer (some ⟨gd',0,none⟩))).set 1 (.pointer (some ⟨st',0,none⟩));have k8:=(hkf.set hB (by decide) (.inl rfl) 0 (.pointer (some ⟨gd',0,none⟩))).set (hB.set 0 _) (by decide) (.inl rfl) 1 (.pointer (some ⟨st',0,none⟩));rw[hw8] at B8 k8;have HE:=hid (bDb H.o.1 H.o.2.1 H.o.2.2.1 HX.o.2 HY.o.1 k8 HS.o.2.1 HS.o.2.2 (Bk.at' B8 (i:=1) rfl) HS.o.1);clear h8 hB hkf B8 k8;go_wp2_with fail
       go_ret;exact⟨rfl,HE.o⟩
theorem aSs {xs:List Int} {k:Nat} (hk:k<xs.length):(xs.take (k+1)).sum=(xs.take k).sum+xs[k]:=by
 rw[List.take_succ_eq_append_getElem hk,List.sum_append];simp
theorem aEt (m:Int) (A:Option Addr) (n c B:Nat) (xs:List Int) (w:World) (h:Rd w B A (xs.map (Value.int .i64))) (hl:xs.length=n) (hn:n≤1000) (h0:∀x∈xs,0≤x∧x≤9223372036854775807) (hm:0≤m∧m≤1099511627776) :
  Calls prog 21 #[.int .i64 m,.slice A n c] w fun e w'=>(∃v:Int,e=.returned (.int .i64 v)∧0≤v∧v≤1099511627776∧(v=m+xs.sum∨v=1099511627776))∧w=w':=by
 go_enter func21,ntmps21
 go_wp2_with fail
 go_loop [0,5] (fun v i=>∃k:Nat,k≤n∧i=.int .i64 k∧∃s:Int,v=.int .i64 s∧0≤s∧s≤1099511627776∧Hid (s=m+(xs.take k).sum)) (fun _ i=>n - (intOf i).toNat)
 case atStart=>exact⟨0,zL,rfl,m,rfl,hm.1,hm.2,by show _=_;simp⟩
 case round =>
  obtain⟨k,hk,rfl,s,rfl,hs0,hs1,HS⟩:=hrel;by_cases hlt:k<n
  · obtain⟨ad,rfl,_,c1⟩:=h.get (k:=k) (by rw[rU];omega);rw[rV] at c1;obtain⟨x,hx⟩:=nC (xs[k]'(by omega));rw[hx] at c1;obtain⟨x0,x1⟩:=h0 x (by rw[←hx];exact rC _);have HN:=hid (show s+x=m+(xs.take (k+1)).sum by rw[aSs (by omega),hx];have:=HS.o;omega);have n0:(k:Int)<(n:Int):=by omega
    have n1:(0:Int)≤(k:Int):=by omega
    have t0:decide (1099511627776<s)=false:=rY (by omega);clear hx h0;by_cases hx2:1099511627776 - s<x
    · have t1:decide (1099511627776 - s<x)=true:=rZ hx2;clear hx2;go_wp2_with fail
      go_ret;exact⟨⟨1099511627776,rfl,by omega,by omega,.inr rfl⟩,rfl⟩
    · have t1:decide (1099511627776 - s<x)=false:=rY hx2;have hsx:s+x≤1099511627776:=by omega
      clear hx2;go_wp2_with fail
      go_round
      case rel=>exact⟨k+1,by omega,by go_num,s+x,rfl,by omega,hsx,HN⟩
      case measure=>simp[intOf];omega
  · obtain rfl:k=n:=by omega
    have hS:=HS.o;rw[rG (by omega)] at hS;have HS2:=hid hS;clear hS;go_wp2_with fail
    go_ret;exact⟨⟨s,rfl,hs0,hs1,.inl HS2.o⟩,rfl⟩
def puR (n:Nat) (ps:List Vd) (v:Int):Prop:=0≤v∧v≤1099511627776∧(v≤20000→(n:Int)≤v∧∀p∈ps,(p.n:Int)≤v)
theorem aQv (G:Xt) (A:Option Addr) (n c:Nat) (ps:List Vd) (w:World) (h:aGk w G A n c ps) :
  Calls prog 22 #[.slice A n c,.int .i64 20000] w fun e w'=>(∃v:Int,e=.returned (.int .i64 v)∧puR n ps v)∧nD w w':=by
 have hbig:maxLen≤9223372036854775807:=by decide
 have hnm:n≤maxLen:=tK h.cap h.big;have hdm:∀p∈ps,p.n≤maxLen:=fun p hp=>tK (h.y p hp).b.cap (h.y p hp).b.big
 have HD:=nH hdm hbig hnm;go_enter func22,ntmps22
 go_wp2_with fail
 refine(aEt 0 _ 1 1 _ [(n:Int)] _ (by exact(Bk.new w 3 [Value.int .i64 (n:Int)]).rd) (by rfl) (by omega) (by intro x hx;simp at hx;subst hx;omega) (by omega)).mono ?_;rintro e w' ⟨⟨s,rfl,s0,s1,ss⟩,rfl⟩;have hs:s≤20000→(n:Int)≤s:=fun q=>by simp at ss;omega
 have HS0:=hid hs;clear ss hs hbig hnm hdm;have hW0:nD w (w.alloc (.cells #[Value.int .i64 (n:Int)] 3)):=nB.alloc lR _;go_wp2_with fail
 go_loopw [5,6] (fun v i wr=>∃k:Nat,k≤n∧i=.int .i64 k∧Hid (nD w wr)∧∃s:Int,v=.int .i64 s∧0≤s∧s≤1099511627776∧Hid (s≤20000→(n:Int)≤s∧∀p∈ps.take k,(p.n:Int)≤s)) (fun _ i _=>n - (intOf i).toNat)
 case atStart=>exact⟨0,zL,rfl,hid hW0,s,rfl,s0,s1,hid fun q=>⟨HS0.o q,by simp⟩⟩
 case round =>
  obtain⟨k,hk,rfl,HW,s,rfl,hs0,hs1,HS⟩:=hrel;clear hW0;by_cases hlt:k<n
  · by_cases hst:s≤20000
    · have t0:decide (s≤20000)=true:=rZ hst;obtain⟨p,hp⟩:=nC (ps[k]'(by rw[h.len];exact hlt));obtain⟨ad,rfl,had,c0,c1⟩:=Vk Vy (h.rd.next lR HW.o) (k:=k) (by rw[h.len];exact hlt) (u:=.int .i64 p.lba) (v:=.slice p.A p.n p.c) (by rw[hp];rfl);have hpm:p∈ps:=by rw[←hp];exact rC _
      have hpn:=HD.o.1 p hpm;have hb:=HD.o.2.1;have hx:(p.n:Int)≤9223372036854775807:=by omega
      have HP:=hid (show ps.take (k+1)=ps.take k++[p] by rw[List.take_succ_eq_append_getElem (by rw[h.len];exact hlt),hp]);clear hp hpn hb had hpm;have n0:(k:Int)<(n:Int):=by omega
      have n1:(0:Int)≤(k:Int):=by omega
      have m2:wrap64 ((k:Int)+1)=(k:Int)+1:=by unfold wrap64;have:=HD.o.2;omega
      go_wp2_with fail
      refine(aEt s _ 1 1 _ [(p.n:Int)] _ (by exact(Bk.new wr 3 [Value.int .i64 (p.n:Int)]).rd) (by rfl) (by omega) (by intro x hx;simp at hx;subst hx;omega) (by omega)).mono ?_;rintro e w' ⟨⟨q,rfl,q0,q1,qs⟩,rfl⟩
      have HQ:=hid (show q≤20000→(n:Int)≤q∧∀p∈ps.take (k+1),(p.n:Int)≤q from fun hq=>by
       have e1:q=s+(p.n:Int):=by
        rcases qs with e|e
        · simp at e;omega
        · omega
       obtain⟨a1,a2⟩:=HS.o hst;refine⟨by omega,fun y hy=>?_⟩;rw[HP.o] at hy;rcases rE.1 hy with r|r
       · have:=a2 y r;omega
       · obtain rfl:y=p:=by simpa using r
         omega)
      have HW2:=hid (show nD w (wr.alloc (.cells #[Value.int .i64 (p.n:Int)] 3)) from HW.o.alloc HW.o.size _);clear qs;go_wp2_with fail
      go_roundw
      case rel=>exact⟨k+1,hlt,Va (by first|rfl|exact m2),HW2,q,rfl,q0,q1,HQ⟩
      case measure=>(try rw[m2]);exact Xw (x:=(k:Int)+1) hlt rfl
    · have t0:decide (s≤20000)=false:=rY hst;have n0:(k:Int)<(n:Int):=by omega
      go_wp2_with fail
      go_ret;exact⟨⟨s,rfl,hs0,hs1,fun q=>absurd q (by omega)⟩,HW.o⟩
  · obtain rfl:k=n:=by omega
    have HF:=hid (show puR k ps s from⟨hs0,hs1,fun q=>by have:=HS.o q;rw[rG (by rw[h.len];exact lR)] at this;exact this⟩);go_wp2_with fail
    go_ret;exact⟨⟨s,rfl,HF.o⟩,HW.o⟩
structure aBv where
 kind:Int
 client:Int
 A:Option Addr
 n:Nat
 c:Nat
 os:List OpD
 N:Int
 pA:Option Addr
 pn:Nat
 pc:Nat
 tA:Option Addr
 tn:Nat
 tc:Nat
def aBv.cells (x:aBv):List Value:=[.int .i64 x.kind,.int .i64 x.client,.slice x.A x.n x.c,.int .i64 x.N,.slice x.pA x.pn x.pc,.slice x.tA x.tn x.tc]
theorem aFi (x:aBv):x.cells.length=6:=rfl
structure aCc (w:World) (G:Xt) (A:Option Addr) (n c:Nat) (l:List aBv):Prop where
 len:l.length=n
 rd:Rd w w.heap.size A (l.flatMap aBv.cells)
 ops:∀x∈l,aEj w G x.A x.n x.c x.os∧x.pn≤maxLen∧x.tn≤maxLen
 cap:n≤c
 big:c≤maxLen
 ga:∀ad,A=some ad→0<n→G ad.block
theorem aCc.ag {w w':World} {G:Xt} {A:Option Addr} {n c:Nat} {l:List aBv} (h:aCc w G A n c l) (k:Ag G w w'):aCc w' G A n c l :=
 ⟨h.len,Rd.agn h.rd k (fun ad e q=>h.ga ad e (by rw[Vt aFi,h.len] at q;omega)),fun x hx=>⟨(h.ops x hx).1.ag k,(h.ops x hx).2⟩,h.cap,h.big,h.ga⟩
theorem aKr {w:World} {B:Nat} {A:Option Addr} {l:List aBv} (h:Rd w B A (l.flatMap aBv.cells)) {k:Nat} (hk:k<l.length) {x:aBv} (hx:l[k]=x) :
  ∃ad,A=some ad∧w.cell? (ad.add (k*6))=some (.int .i64 x.kind)∧w.cell? ⟨(ad.add (k*6)).block,(ad.add (k*6)).off+1,none⟩=some (.int .i64 x.client)∧w.cell? ⟨(ad.add (k*6)).block,(ad.add (k*6)).off+2,none⟩=some (.slice x.A x.n x.c)∧w.cell? ⟨(ad.add (k*6)).block,(ad.add (k*6)).off+3,none⟩=some (.int .i64 x.N)∧w.cell? ⟨(ad.add (k*6)).block,(ad.add (k*6)).off+4,none⟩=some (.slice x.pA x.pn x.pc)∧w.cell? ⟨(ad.add (k*6)).block,(ad.add (k*6)).off+5,none⟩=some (.slice x.tA x.tn x.tc):=by
 obtain⟨ad,e,hb,hc⟩:=h (by rw[Vt aFi];omega);have key:∀j,j<6→∀u,x.cells[j]? =some u→w.cell? (ad.add (k*6+j))=some u:=fun j hj u hu=>hc _ _ (by rw[aAs aFi hk hj,hx];exact hu)
 have h0:=key 0 (by omega) _ rfl;have h1:=key 1 (by omega) _ rfl;have h2:=key 2 (by omega) _ rfl;have h3:=key 3 (by omega) _ rfl;have h4:=key 4 (by omega) _ rfl;have h5:=key 5 (by omega) _ rfl;rw[Nat.add_zero] at h0;rw[←aBi] at h1 h2 h3 h4 h5;exact⟨ad,e,h0,h1,h2,h3,h4,h5⟩
theorem aMx {w:World} {G:Xt} {ad:Addr} {n c k:Nat} {l:List aBv} (h:aCc w G (some ad) n c l) (hk:k<l.length) {x:aBv} (hx:l[k]=x) :
  w.cell? (ad.add (k*6))=some (.int .i64 x.kind)∧w.cell? ⟨(ad.add (k*6)).block,(ad.add (k*6)).off+1,none⟩=some (.int .i64 x.client)∧w.cell? ⟨(ad.add (k*6)).block,(ad.add (k*6)).off+2,none⟩=some (.slice x.A x.n x.c)∧w.cell? ⟨(ad.add (k*6)).block,(ad.add (k*6)).off+3,none⟩=some (.int .i64 x.N)∧w.cell? ⟨(ad.add (k*6)).block,(ad.add (k*6)).off+4,none⟩=some (.slice x.pA x.pn x.pc)∧w.cell? ⟨(ad.add (k*6)).block,(ad.add (k*6)).off+5,none⟩=some (.slice x.tA x.tn x.tc):=by
 obtain⟨ad',e',h⟩:=aKr h.rd hk hx;injection e' with e';subst e';exact h
def smO (o:OpD):Prop:=o.n≤20000∧∀p∈o.ps,p.n≤20000
def smX (x:aBv):Prop:=x.n≤20000∧∀o∈x.os,smO o
def smE (n:Nat) (l:List aBv) (e:Ending):Prop:=∃b,e=.returned (.bool b)∧(b=true→n≤150∧∀x∈l,smX x)
theorem bFh {a b c:Nat} (ha:a≤maxLen) (hb:b≤maxLen) (hc:c≤maxLen):∀y∈[(a:Int),(b:Int),(c:Int),3],0≤y∧y≤9223372036854775807:=fun y hy=>by
 have hbig:maxLen≤9223372036854775807:=by decide
 simp only[List.mem_cons,List.not_mem_nil,or_false] at hy;rcases hy with rfl|rfl|rfl|rfl<;>omega
theorem bHd {s s1:Int} {a b c:Nat} (h:0≤s) (hs:s1=s+[(a:Int),(b:Int),(c:Int),3].sum∨s1=1099511627776) (q:s1≤20000):(a:Int)≤s1:=by
 rcases hs with e|e
 · simp at e;omega
 · omega
theorem bAu {s q v:Int} {n:Nat} {os:List OpD} {o:OpD} (h:s≤20000→(n:Int)≤s∧∀o∈os,smO o) (hv:puR o.n o.ps v) (hs:q=s+[v].sum∨q=1099511627776) (hq:q≤20000) (hs2:s≤20000):(n:Int)≤q∧∀y∈os++[o],smO y:=by
 obtain⟨v0,v1,v2⟩:=hv
 have e:q=s+v:=by
  rcases hs with e|e
  · simpa using e
  · omega
 obtain⟨a1,a2⟩:=h hs2;by_cases h0:0≤s
 · have hv2:v≤20000:=by omega
   obtain⟨b1,b2⟩:=v2 hv2;refine⟨by omega,fun y hy=>?_⟩;rcases rE.1 hy with r|r
   · exact a2 y r
   · obtain rfl:y=o:=by simpa using r
     exact⟨by omega,fun p hp=>by have:=b2 p hp;omega⟩
 · omega
theorem aSo (G:Xt) (A:Option Addr) (n c:Nat) (l:List aBv) (w:World) (h:aCc w G A n c l) (hI:In w G) :
  Calls prog 4 #[.slice A n c] w fun e w'=>smE n l e∧nD w w':=by
 have H:=hid h;have hl:=h.len;have hbn:(n:Int)≤9223372036854775807:=by have:=h.cap;have:=h.big;have:maxLen≤9223372036854775807:=(by decide);omega
 have HN:=nF hl hbn;clear h hl hbn;go_enter func4,ntmps4
 go_wp2_with fail
 go_loopw [3,4] (fun sv iv wr=>∃i:Nat,i≤n∧iv=.int .i64 (i:Int)∧Hid (nD w wr)∧∃s:Int,sv=.int .i64 s∧Hid ((0≤s∧s≤1099511627776)∧∀x∈l.take i,smX x)) (fun _ iv _=>n - (intOf iv).toNat)
 case atStart=>exact⟨0,zL,rfl,hid nB,0,rfl,hid ⟨by decide,by simp⟩⟩
 case round =>
  obtain⟨i,hi,rfl,HW,s,rfl,HS⟩:=hrel;rcases tN i n with hlt|hge
  · obtain⟨x,hx⟩:∃x,l[i]'(tV hlt HN.o.1.symm)=x:=⟨_,rfl⟩
    have hm:x∈l:=by rw[←hx];exact rC _
    have hst:=H.o.ag (G:=G) (.of_below HW.o);obtain⟨ad,rfl,c0,c1,c2,c3,c4,c5⟩:=aKr hst.rd (tV hlt HN.o.1.symm) hx;have HC:=nK hx hm hlt (H.o.ops x hm).1 (tK (H.o.ops x hm).1.cap (H.o.ops x hm).1.big) (H.o.ops x hm).2;have KK:=hid (fun (w':World) (hS:nD wr w')=>aMx (hst.ag (G:=G) (.of_below hS)) (tV hlt HN.o.1.symm) hx);have n1:(i:Int)<(n:Int):=by omega
    have n2:(0:Int)≤(i:Int):=by omega
    have m2:wrap64 ((i:Int)+1)=(i:Int)+1:=by unfold wrap64;have:=HN.o.2;omega
    clear hx hm hst hi;go_wp2_with fail
    have Kq:=KK;refine wp_region_held_drew (S:=fun w'=>nD wr w') (by kernel_rfl) (Xu nB) (fun nE=>?_);refine kF 0 ?_;refine kF 1 ?_;refine kF 2 ?_;refine kF 3 ?_;refine kF 4 ?_;refine kF 5 ?_;refine kF 6 ?_;refine kF 7 ?_;refine kF 8 ?_;refine kF 9 ?_;refine kF 10 ?_;refine kF 11 ?_;refine kF 12 ?_;refine kF 13 ?_;refine kF 14 ?_;refine kF 15 ?_;refine kF 16 ?_;refine kF 17 ?_;refine kF 18 ?_;refine rF 19 (fun K hK=>?_);obtain⟨w8,hw8⟩:=nC (wr.drew.alloc (.cells #[.int .i64 (x.n:Int),.int .i64 (x.pn:Int),.int .i64 (x.tn:Int),.int .i64 3] 3));have hB8:Bk w8 wr.heap.size 3 [.int .i64 (x.n:Int),.int .i64 (x.pn:Int),.int .i64 (x.tn:Int),.int .i64 3]:=by rw[←hw8];exact Bk.new wr.drew _ _
    have hS8:nD wr w8:=by rw[←hw8];exact(Xu nB).trans ((Below.refl wr.drew.heap.size wr.drew).alloc lR _)
    have HB8:=nF hB8 hS8;go_simp;try rw[hw8]
    clear hB8;clear nE;refine hK.out _ _ hS8 (fun nE=>?_);clear hK K;try simp only[Act.put,tC,tD,tE]
    refine rF 20 (fun K hK=>?_);go_simp;refine(aEt s _ 4 4 _ [(x.n:Int),(x.pn:Int),(x.tn:Int),3] _ (by exact HB8.o.1.rd) (by rfl) (by decide) (fun y hy=>bFh HC.o.2.2.2.2.1 HC.o.2.2.2.2.2.1 HC.o.2.2.2.2.2.2 y hy) HS.o.1).mono ?_;rintro e w' ⟨⟨s1,rfl,q0,q1,qs⟩,rfl⟩;have HS1:=hid (show 0≤s1∧s1≤1099511627776∧(s1≤20000→(x.n:Int)≤s1) from⟨q0,q1,fun q=>bHd HS.o.1.1 qs q⟩);clear qs q0 q1;go_simp;refine hK.out _ _ nE (fun _=>?_);clear hK K;try simp only[Act.put,tC,tD,tE]
    refine kF 21 ?_;refine wpAnyH_done (by kernel_rfl) ?_ _;clear Kq;have hW8:nD w w8:=HW.o.trans (hS8.mono HW.o.size);have HW8:=hid hW8;have HL8:=hid hS8;clear hW8 hS8 c0 c1 c2 c3 c4 c5 hw8;go_wp2_with fail
    go_loopw [3,5] (fun sv kv wr2=>∃k:Nat,k≤x.n∧kv=.int .i64 (k:Int)∧Hid (nD w8 wr2)∧∃s2:Int,sv=.int .i64 s2∧Hid ((0≤s2∧s2≤1099511627776)∧(s2≤20000→(x.n:Int)≤s2∧∀o∈x.os.take k,smO o))) (fun _ kv _=>x.n - (intOf kv).toNat)
    case atStart=>exact⟨0,zL,rfl,hid nB,s1,rfl,hid ⟨⟨HS1.o.1,HS1.o.2.1⟩,fun q=>⟨HS1.o.2.2 q,by simp⟩⟩⟩
    case round =>
     obtain⟨k,hk,rfl,HW2,s2,rfl,HS2⟩:=hrel;have hst2:=H.o.ag (G:=G) (.of_below (HW8.o.trans (HW2.o.mono HW8.o.size)));obtain⟨c0,c1,c2,c3,c4,c5⟩:=aMx hst2 (tV HC.o.2.2.1 HN.o.1.symm) HC.o.1;have hop2:=(hst2.ops x HC.o.2.1).1;clear hst2;rcases tN k x.n with hkl|hkg
     · have n3:(k:Int)<(x.n:Int):=by omega
       have n4:(0:Int)≤(k:Int):=by omega
       have m3:wrap64 ((k:Int)+1)=(k:Int)+1:=by unfold wrap64;have:=HC.o.2.2.2.2.1;have:maxLen≤9223372036854775807:=(by decide);omega
       by_cases hs2:s2≤20000
       · have t0:decide (s2≤20000)=true:=rZ hs2;obtain⟨o,ho⟩:∃o,x.os[k]? =some o:=⟨_,tX (tV hkl hop2.len.symm)⟩
         obtain⟨ad2,hA2,_,o0,o1,o2,o3,o4⟩:=aJa aEb hop2.rd (k:=k) (tV hkl hop2.len.symm) (by rw[tX (Vi ho)] at ho;rw[rT ho];rfl);rw[hA2] at c2;have hpu:=aQv G o.A o.n o.c o.ps _ (hop2.ps o (tZ ho));have HO:=hid (show x.os.take (k+1)=x.os.take k++[o] by rw[List.take_add_one,ho];rfl);have HK:=nF hkl hs2;clear hop2 ho hA2 hs2 hk;go_wp2_with fail
         refine hpu.mono ?_;rintro e w9 ⟨⟨v,rfl,hv⟩,hb9⟩;have HV:=hid hv;have HB9:=hid (HW2.o.trans (hb9.mono HW2.o.size));clear hpu hv hb9;go_wp2_with fail
         refine(aEt s2 _ 1 1 _ [v] _ (by exact(Bk.new w9 3 [Value.int .i64 v]).rd) (by rfl) (by decide) (by intro y hy;simp at hy;subst hy;exact⟨HV.o.1,Int.le_trans HV.o.2.1 (by decide)⟩) HS2.o.1).mono ?_;rintro e w' ⟨⟨q,rfl,q0,q1,qs⟩,rfl⟩
         have HQ:=hid (show (0≤q∧q≤1099511627776)∧(q≤20000→(x.n:Int)≤q∧∀o∈x.os.take (k+1),smO o) from⟨⟨q0,q1⟩,fun hq=>by
          rw[HO.o];exact bAu HS2.o.2 HV.o qs hq HK.o.2⟩)
         have HB10:=hid (show nD w8 (w9.alloc (.cells #[.int .i64 v] 3)) from HB9.o.alloc HB9.o.size _);clear q0 q1 qs;go_wp2_with fail
         go_roundw
         case rel=>exact⟨k+1,HK.o.1,Va (by first|rfl|exact m3),HB10,q,rfl,HQ⟩
         case measure=>(try rw[m3]);exact Xw (x:=(k:Int)+1) HK.o.1 rfl
       · have t0:decide (s2≤20000)=false:=rY hs2;have t1:(20000:Int)<s2:=by omega
         clear hop2;go_wp2_with fail
         go_ret;exact⟨⟨false,rfl,fun q=>by cases q⟩,HW8.o.trans (HW2.o.mono HW8.o.size)⟩
     · obtain rfl:k=x.n:=tQ hk hkg;clear hop2;by_cases hs2:s2≤20000
       · have t0:decide (s2≤20000)=true:=rZ hs2;have t1:¬(20000:Int)<s2:=by omega
         have HQ:=hid (show (0≤s2∧s2≤1099511627776)∧∀y∈l.take (i+1),smX y from⟨HS2.o.1,fun y hy=>by
          rw[List.take_add_one,tX (tV HC.o.2.2.1 HN.o.1.symm),HC.o.1] at hy;rcases rE.1 hy with r|r
          · exact HS.o.2 y r
          · obtain rfl:y=x:=by simpa using r
            obtain⟨a1,a2⟩:=HS2.o.2 hs2;exact⟨by omega,fun o ho=>a2 o (by rw[rG (tO HC.o.2.2.2.1.len)];exact ho)⟩⟩)
         go_wp2_with fail
         go_roundw
         case rel=>exact⟨i+1,HC.o.2.2.1,Va (by first|rfl|exact m2),hid (HW8.o.trans (HW2.o.mono HW8.o.size)),s2,rfl,HQ⟩
         case measure=>(try rw[m2]);exact Xw (x:=(i:Int)+1) HC.o.2.2.1 rfl
       · have t0:decide (s2≤20000)=false:=rY hs2;have t1:(20000:Int)<s2:=by omega
         go_wp2_with fail
         go_ret;exact⟨⟨false,rfl,fun q=>by cases q⟩,HW8.o.trans (HW2.o.mono HW8.o.size)⟩
  · obtain rfl:i=n:=tQ hi hge;have HF:=hid (show ∀x∈l,smX x from fun x hx=>HS.o.2 x (by rw[rG (tO HN.o.1)];exact hx));go_wp2_with fail
    go_ret;exact⟨⟨_,rfl,fun q=>⟨by have:=of_decide_eq_true q;omega,HF.o⟩⟩,HW.o⟩
theorem aRr (w:World):Calls prog 29 #[] w fun e w'=>e=.returned (.agg #[.int .i64 8,.int .i64 96])∧nD w w':=by
 obtain⟨g1,w1,hzw1,hw1,Bw1,bw1⟩:=Xy w 75 [.int .i64 0,.int .i64 0];obtain⟨c0,c1⟩:=Bw1.c2;have f0:=Bw1.free 0;have f1:=Bw1.free 1;obtain⟨w2,hw2⟩:=nC ((w1.setCell ⟨g1,0,none⟩ (.int .i64 8)).setCell ⟨g1,1,none⟩ (.int .i64 96));have HE:=hid (show Bk w2 g1 75 [.int .i64 8,.int .i64 96]∧nD w w2 from⟨by rw[←hw2];exact(Bw1.set 0 _).set 1 _,by rw[←hw2];exact(bw1.setCell (p:=⟨g1,0,none⟩) (tO hzw1) _).setCell (p:=⟨g1,1,none⟩) (tO hzw1) _⟩);clear Bw1 bw1;go_enter func29,ntmps29
 go_wp2_with fail
 refine bodyPost_ret (aQd rfl _ _ _ _ (by rfl) HE.o.1) rfl ?_;exact⟨rfl,HE.o.2⟩
theorem aIa (w:World):Calls prog 6 #[] w fun e w'=>∃sb,e=.returned (.tuple #[.pointer (some ⟨sb,0,none⟩),.bool true])∧∃F,Ue w' F sb ss0 5∧nD w w'∧∀b,F b→w.heap.size≤b:=by
 have hl:=aRr w;go_enter func6,ntmps6
 go_wp2_with fail
 refine hl.mono ?_;rintro e w1 ⟨rfl,hb1⟩;have hn:=bCd w1;have H1:=hid hb1;clear hl hb1;go_wp2_with fail
 refine hn.mono ?_;rintro e w2 ⟨sb,rfl,F,hB,hb2,hF⟩;have HE:=nH hB (H1.o.trans (hb2.mono H1.o.size)) (fun (b:Nat) (q:F b)=>tK H1.o.size (hF b q));clear hn hB hb2 hF;go_wp2_with fail
 go_ret2
 exact⟨sb,rfl,F,HE.o⟩
def tfR (s:SS) (r:Int) (s':SS):Prop:=∃pos' m',flR s.m s.pos r pos' m'∧((r≠9∧s'={s with m:=m',pos:=pos',ev:=s.ev+1})∨(r=9∧s'={s with m:=m',pos:=0,ev:=s.ev+1+1}))
theorem aOx {w:World} {F:Xt} {sb g:Nat} {s:SS} (h:Ue w F sb s g) (hg:g+1+1≤700):Calls prog 30 #[.pointer (some ⟨sb,0,none⟩)] w fun e w'=>∃r:Int,e=.returned (.int .i64 r)∧∃s',tfR s r s'∧Uc w w' F sb s' (g+1+1):=by
 have hf:=aQk h (Nat.le_of_succ_le hg);have HG:=hid hg;go_enter func30,ntmps30
 go_wp2_with fail
 refine hf.mono ?_;rintro e w1 ⟨r,rfl,pos',m',hr,hsr⟩;clear hf;by_cases h9:r=9
 · subst h9;obtain⟨F1,hB,hk,hs,hi⟩:=hsr;have hc:=aQj hB HG.o;have H1:=nI hr hk hs hi;clear hr hk hs hi hB hg h;go_wp2_with fail
   refine hc.mono ?_;rintro e w2 ⟨rfl,F2,h1,h2,h3,h4⟩;have HE:=hid (show ∃s',tfR s 9 s'∧Uc w w2 F sb s' (g+1+1) from⟨_,⟨pos',m',H1.o.1,.inr ⟨rfl,rfl⟩⟩,F2,h1,H1.o.2.1.trans h2 H1.o.2.2.1,Sb.trans H1.o.2.2.1 h3 H1.o.2.1.size,h4⟩);clear hc h1 h2 h3 h4;go_wp2_with fail
   go_ret;exact⟨9,rfl,HE.o⟩
 · have HE:=hid (show ∃s',tfR s r s'∧Uc w w1 F sb s' (g+1+1) from⟨_,⟨pos',m',hr,.inl ⟨h9,rfl⟩⟩,hsr.up HG.o⟩);clear hr hsr hg h;go_wp2_with fail
   go_ret;exact⟨r,rfl,HE.o⟩
def SmS (s:SS):Prop:=∀c∈s.cls,∀o∈c.ops,o.n≤20000
theorem bHc {s s':SS} {j:Nat} {cl:CLD} {os:List OpD} {r:Int} (h:SmS s) (hj:s.cls[j]? =some cl) (ho:∀o∈os,o.n≤20000∧o.ps.length=o.n) (hp:∀c∈s'.cls,∀o∈c.ops,o.ps.length=o.n) (ha:adR s j cl os r s'):SmS s':=by
 rcases ha with ⟨_,_,rfl⟩|⟨_,_,ov',os',hs,rfl⟩
 · exact h
 · intro c hc o hm;rcases List.mem_or_eq_of_mem_set hc with q|rfl
   · exact h c q o hm
   · rcases rE.1 hm with q|q
     · exact h cl (tZ hj) o q
     · have hl:=hp _ hc o hm;have:o.key∈os'.map OpD.key:=List.mem_map.2 ⟨o,q,rfl⟩;rw[show os'.map OpD.key=os.map OpD.key from hs] at this;obtain⟨y,hy,e⟩:=List.mem_map.1 this;unfold OpD.key at e
       injection e with _ e;injection e with _ e;injection e with _ e;injection e with _ e;have e2:=congrArg List.length e;rw[rU,rU,(ho y hy).2,hl] at e2;rw[←e2];exact(ho y hy).1
theorem bHe {s s':SS} {j:Nat} {cl:CLD} {r:Int} (h:SmS s) (hj:s.cls[j]? =some cl) (hs:stR s j cl r s'):SmS s':=by
 rcases hs with ⟨_,_,rfl⟩|⟨o,l,s2,ok,cl2,ho,hd,hj2,_,hr⟩
 · exact h
 · obtain⟨c2,hc2,_,_,_,e4,_⟩:=bBo (s:={s with ev:=s.ev+1}) hj hd;rw[hj2] at hc2;injection hc2 with hc2;subst hc2
   have h2:SmS s2:=by
    intro c hc o' ho';rcases hd with ⟨_,_,⟨_,rfl⟩|⟨e,bv',rfl⟩⟩|⟨_,_,rfl,_⟩|⟨i,k,b,t,_,_,_,_,hc'⟩
    · exact h c hc o' ho'
    · rcases List.mem_or_eq_of_mem_set hc with q|rfl
      · exact h c q o' ho'
      · exact h cl (tZ hj) o' ho'
    · exact h c hc o' ho'
    · have e:s2.cls=s.cls:=by
       rcases hc' with ⟨_,_,rfl⟩|⟨_,_,r,m',_,rfl⟩|⟨_,r,m',t',_,_,⟨_,_,_,rfl⟩|⟨_,_,rfl⟩|⟨_,_,rfl⟩⟩|⟨_,_,r,m',_,rfl|rfl⟩<;>rfl
      rw[e] at hc;exact h c hc o' ho'
   rcases hr with ⟨_,_,rfl⟩|⟨_,_,ov',av',rfl⟩
   · intro c hc o' ho';rcases List.mem_or_eq_of_mem_set hc with q|rfl
     · exact h2 c q o' ho'
     · exact h2 cl2 (tZ hj2) o' ho'
   · intro c hc o' ho';rcases List.mem_or_eq_of_mem_set hc with q|rfl
     · exact h2 c q o' ho'
     · exact h2 cl2 (tZ hj2) o' (by rw[e4,ho];exact List.mem_cons_of_mem _ ho')
theorem aWn {w:World} {F:Xt} {sb g:Nat} {s:SS} (h:Ue w F sb s g):∀c∈s.cls,∀o∈c.ops,o.ps.length=o.n:=fun c hc o ho=>by
 obtain⟨Ft,st,gd,alv,hx⟩:=h.x;obtain⟨j,hj⟩:=List.getElem?_of_mem hc;exact((hx.cl j c hj).puts o ho).len
def onR (w w':World) (F:Xt) (sb g:Nat) (s:SS) (kd:Int) (e:Ending):Prop:=e=.returned (.tuple #[])∧∃s',SmS s'∧(kd≠3→s'.pos≤s.pos)∧Uc w w' F sb s' (g+1+1)
theorem bCh {s s':SS} {j:Nat} {cl:CLD} {os:List OpD} {r:Int} (ha:adR s j cl os r s'):s'.pos≤s.pos:=by rcases ha with ⟨_,_,rfl⟩|⟨_,_,ov',os',hs,rfl⟩<;>exact lR
theorem bFj {s s':SS} {j:Nat} {cl:CLD} {r:Int} (hs:stR s j cl r s'):s'.pos≤s.pos:=by
 rcases hs with ⟨_,_,rfl⟩|⟨o,l,s2,ok,cl2,ho,hd,hj2,_,hr⟩
 · exact lR
 · have h2:s2.pos=s.pos:=by
    rcases hd with ⟨_,_,⟨_,rfl⟩|⟨e,bv',rfl⟩⟩|⟨_,_,rfl,_⟩|⟨i,k,b,t,_,_,_,_,hc'⟩
    · rfl
    · rfl
    · rfl
    · rcases hc' with ⟨_,_,rfl⟩|⟨_,_,r,m',_,rfl⟩|⟨_,r,m',t',_,_,⟨_,_,_,rfl⟩|⟨_,_,rfl⟩|⟨_,_,rfl⟩⟩|⟨_,_,r,m',_,rfl|rfl⟩<;>rfl
   rcases hr with ⟨_,_,rfl⟩|⟨_,_,ov',av',rfl⟩<;>exact tO h2
theorem bEl {w w1 w':World} {F:Xt} {sb g:Nat} {s s':SS} {kd:Int} (hb:nD w w1) (hs:SmS s') (hp:kd≠3→s'.pos≤s.pos) (h:Uc w1 w' F sb s' (g+1+1)):onR w w' F sb g s kd (.returned (.tuple #[])):=⟨rfl,s',hs,hp,h.pre hb⟩
theorem aKs {s s':SS} (h:SmS s) (e:s'.cls=s.cls):SmS s':=fun c hc=>h c (e▸hc)
theorem aIt {w:World} {F:Xt} {sb g:Nat} {s:SS} (h:Ue w F sb s g) {k:Int} (hk:¬(k<1∨8<k)):∃(j:Nat) (cl:CLD),k=(j:Int)+1∧s.cls[j]? =some cl:=by
 have h8:=h.c8;have hl:(k - 1).toNat<s.cls.length:=by omega
 exact⟨(k - 1).toNat,_,by omega,tX hl⟩
theorem aZs {w:World} {F G:Xt} {sb g:Nat} {s:SS} (h:Ue w F sb s g) (hg:g+1+1≤700) (hs:SmS s) (kd cl:Int) {A:Option Addr} {n c:Nat} {os:List OpD} (N:Int) (pA:Option Addr) (pn pc:Nat) (tA:Option Addr) (tn tc:Nat) (ho:aEj w G A n c os) (hd:Dis G F) (hG:In w G) (hn:n≤20000) (hq:∀o∈os,smO o) :
  Calls prog 7 #[.pointer (some ⟨sb,0,none⟩),.agg #[.int .i64 kd,.int .i64 cl,.slice A n c,.int .i64 N,.slice pA pn pc,.slice tA tn tc]] w fun e w'=>onR w w' F sb g s kd e:=by
 obtain⟨g3,w1,hzw1,hw1,Bw1,bw1⟩:=Xy w 31 [.int .i64 kd,.int .i64 cl,.slice A n c,.int .i64 N,.slice pA pn pc,.slice tA tn tc];have h1:=h.next bw1;have ho1:=ho.ag (.of_below bw1);have HG:=nN h1 hs bw1 ho1 (hG.next bw1.size) hd hn hq hg;obtain⟨c0,c1,c2,c3,c4,c5⟩:=Bw1.c6;clear h ho hs hG hd hn hq bw1 Bw1 h1 ho1 hg;have fin:∀(s':SS) (w':World),SmS s'→(kd≠3→s'.pos≤s.pos)→Uc w1 w' F sb s' (g+1+1)→onR w w' F sb g s kd (.returned (.tuple #[])):=fun s' w' a p b=>bEl HG.o.2.2.1 a p b
 have HF:=hid fin;have HS0:=hid (show onR w w1 F sb g s kd (.returned (.tuple #[])) from fin s w1 HG.o.2.1 (fun _=>lR) (((Uc.same0 HG.o.1 nB).up (Nat.le_of_succ_le HG.o.2.2.2.2.2.2.2.2)).up HG.o.2.2.2.2.2.2.2.2));clear fin;by_cases k1:kd=1
 · subst k1;by_cases hc:cl<1∨8<cl
   · have hcall:=aOr HG.o.1 hc A n c;clear hc;go_enter func7,ntmps7
     go_wp2_with fail
     refine hcall.mono ?_;rintro e w' ⟨rfl,rfl⟩;clear hcall;go_wp2_with fail
     go_end0
     exact HS0.o
   · obtain⟨j,cld,rfl,hj⟩:=aIt HG.o.1 hc;have hcall:=bCc HG.o.1 hj HG.o.2.2.2.1 HG.o.2.2.2.2.2.1 HG.o.2.2.2.2.1 HG.o.2.2.2.2.2.2.1 (fun o hm=>HG.o.2.2.2.2.2.2.2.1 o hm);have HJ:=hid hj;clear hc hj;go_enter func7,ntmps7
     go_wp2_with fail
     refine hcall.mono ?_;rintro e w2 ⟨r,rfl,s',ha,hr⟩
     have HE:=hid (HF.o s' w2 (by
      obtain⟨F',hB',_⟩:=id hr;exact bHc HG.o.2.1 HJ.o (fun o hm=>⟨(HG.o.2.2.2.2.2.2.2.1 o hm).1,(HG.o.2.2.2.1.ps o hm).len⟩) (aWn hB') ha) (fun _=>bCh ha) ((hr.up (Nat.le_of_succ_le HG.o.2.2.2.2.2.2.2.2)).up HG.o.2.2.2.2.2.2.2.2))
     clear hcall ha hr;go_wp2_with fail
     go_end0
     exact HE.o
 · by_cases k2:kd=2
   · subst k2;by_cases hc:cl<1∨8<cl
     · have hcall:=aMs HG.o.1 hc;clear hc k1;go_enter func7,ntmps7
       go_wp2_with fail
       refine hcall.mono ?_;rintro e w2 ⟨⟨av,rfl⟩,hb⟩;have HE:=hid (HF.o s w2 HG.o.2.1 (fun _=>lR) (((Uc.same0 HG.o.1 hb).up (Nat.le_of_succ_le HG.o.2.2.2.2.2.2.2.2)).up HG.o.2.2.2.2.2.2.2.2));clear hcall hb;go_wp2_with fail
       go_end0
       exact HE.o
     · obtain⟨j,cld,rfl,hj⟩:=aIt HG.o.1 hc;have hcall:=aOt HG.o.1 HG.o.2.2.2.2.2.2.2.2 hj (HG.o.2.1 cld (tZ hj));have HJ:=hid hj;clear hc hj k1;go_enter func7,ntmps7
       go_wp2_with fail
       refine hcall.mono ?_;rintro e w2 ⟨r,⟨av,rfl⟩,s',hst,hr⟩;have HE:=hid (HF.o s' w2 (bHe HG.o.2.1 HJ.o hst) (fun _=>bFj hst) hr);clear hcall hst hr;go_wp2_with fail
       go_end0
       exact HE.o
   · by_cases k3:kd=3
     · subst k3;have hcall:=aOx HG.o.1 HG.o.2.2.2.2.2.2.2.2;clear k1 k2;go_enter func7,ntmps7
       go_wp2_with fail
       refine hcall.mono ?_;rintro e w2 ⟨r,rfl,s',htf,hr⟩;have HE:=hid (HF.o s' w2 (aKs HG.o.2.1 (by obtain⟨_,_,_,⟨_,rfl⟩|⟨_,rfl⟩⟩:=htf<;>rfl)) (fun q=>absurd rfl q) hr);clear hcall htf hr;go_wp2_with fail
       go_end0
       exact HE.o
     · by_cases k4:kd=4
       · subst k4;have hcall:=aQj HG.o.1 (Nat.le_of_succ_le HG.o.2.2.2.2.2.2.2.2);clear k1 k2 k3;go_enter func7,ntmps7
         go_wp2_with fail
         refine hcall.mono ?_;rintro e w2 ⟨rfl,hr⟩;have HE:=hid (HF.o _ w2 (by exact aKs HG.o.2.1 rfl) (by exact fun _=>zL) (hr.up HG.o.2.2.2.2.2.2.2.2));clear hcall hr;go_wp2_with fail
         go_end0
         exact HE.o
       · by_cases k5:kd=5
         · subst k5;have hcall:=bAq HG.o.1 (Nat.le_of_succ_le HG.o.2.2.2.2.2.2.2.2);clear k1 k2 k3 k4;go_enter func7,ntmps7
           go_wp2_with fail
           refine hcall.mono ?_;rintro e w2 ⟨⟨r,rfl⟩,hr⟩;have HE:=hid (HF.o _ w2 (by exact aKs HG.o.2.1 rfl) (by exact fun _=>lR) (hr.up HG.o.2.2.2.2.2.2.2.2));clear hcall hr;go_wp2_with fail
           go_end0
           exact HE.o
         · by_cases k6:kd=6
           · subst k6;clear k1 k2 k3 k4 k5;go_enter func7,ntmps7
             go_wp2_with fail
             refine(aOs HG.o.1 (Nat.le_of_succ_le HG.o.2.2.2.2.2.2.2.2) _).mono ?_;rintro e w2 ⟨rfl,hr⟩;have HE:=hid (HF.o _ w2 (by exact aKs HG.o.2.1 rfl) (by exact fun _=>lR) (hr.up HG.o.2.2.2.2.2.2.2.2));clear hr;go_wp2_with fail
             go_end0
             exact HE.o
           · skip;go_enter func7,ntmps7
             go_wp2_with fail
             go_end0
             exact HS0.o
def Pow (w:World):Prop:=Lib.TabIs prog w "internal/strconv.uint64pow10" .u64 Lib.pow10Tab
theorem Pow.next {w w':World} (h:Pow w) (hb:nD w w'):Pow w':=Lib.tabBelow_of_tabIs h w' hb
theorem aYx {w:World} {B hB n c:Nat} {hs:List HD} (ho:w.ownsRow B 70 7 (.slice (some ⟨hB,0,none⟩) n c) n (hs.flatMap HD.cells)) {k:Nat} {x:HD} (hk:hs[k]? =some x) :
  w.cell? ⟨hB,k*7,none⟩=some (.int .i64 (x.t.st:Int))∧w.cell? ⟨hB,k*7+1,none⟩=some (.int .i64 (x.t.at':Int))∧w.cell? ⟨hB,k*7+2,none⟩=some (.int .i64 (x.t.time:Int))∧w.cell? ⟨hB,k*7+3,none⟩=some (.int .i64 (x.b.fr:Int))∧w.cell? ⟨hB,k*7+4,none⟩=some (.int .i64 (x.b.til:Int))∧w.cell? ⟨hB,k*7+6,none⟩=some (.slice x.pA x.t.keys.length x.pc):=by
 have hl:=Vi hk
 have key:∀j u,j<7→x.cells[j]? =some u→w.cell? ⟨hB,k*7+j,none⟩=some u:=fun j u hj hu=>by
  have:=ho.cells (g:=hB) rfl (k*7+j) u (by
   rw[aAs aLt hl hj];rw[tX hl] at hk;rw[rT hk];exact hu)
  rw[Addr.add_lit,Nat.zero_add] at this;exact this
 exact⟨key 0 _ (by decide) rfl,key 1 _ (by decide) rfl,key 2 _ (by decide) rfl,key 3 _ (by decide) rfl,key 4 _ (by decide) rfl,key 6 _ (by decide) rfl⟩
def aIn:Prop:=∀w,Pow w→Calls prog 5 #[] w fun e w'=>e=.returned (.bool true)∧nD w w'
end Go.Proofs.YtdhlicgaalnmoaaGreatDoor.Tp
namespace Go.Proofs.YtdhlicgaalnmoaaGreatDoor.Ro
open Lib (hid)
open Tryz
open Go.RowKit Go.Maps
set_option maxHeartbeats 8000000
set_option maxRecDepth 100000
section
open Go.RowKit
theorem aQm (k:Int) (n:Nat) (h:0<n): -(n:Int)<k.tmod n:=by
 have h1:=Int.natAbs_tmod (a:=k) (b:=n);have h2:=Nat.mod_lt k.natAbs h;rw[Int.natAbs_natCast] at h1;omega
theorem aWb (k:Int) (n:Nat) (h:0<n):∃j:Nat,j<n∧(if k.tmod n<0 then k.tmod n+n else k.tmod n)=(j:Int):=by
 have h1:=Int.tmod_lt_of_pos k (show (0:Int)<n by omega);have h2:=aQm k n h;by_cases h0:k.tmod n<0
 · exact⟨(k.tmod n+n).toNat,by omega,by rw[if_pos h0];omega⟩
 · exact⟨(k.tmod n).toNat,by omega,by rw[if_neg h0];omega⟩
theorem round_any (k:Int) (n:Nat) (w:World) (h:0<n) (hn:n≤1000000) (hk:(Lit.int .i64 k).wf=true) :
  Calls prog 14 #[.int .i64 k,.int .i64 n] w fun e w'=>(∃j:Nat,j<n∧e=.returned (.int .i64 j))∧w=w':=by
 obtain⟨j,hj,e⟩:=aWb k n h;have h1:=Int.tmod_lt_of_pos k (show (0:Int)<n by omega);have h2:=aQm k n h;have n0:((n:Int)==0)=false:=beq_eq_false_iff_ne.2 (by omega);have n1:¬(n:Int)=0:=by omega
 have HJ:=hid e;clear e;have hk1: -9223372036854775808≤k∧k≤9223372036854775807:=by simpa [Lit.wf,IntKind.min,IntKind.max,IntKind.bits,IntKind.signed] using hk
 obtain⟨hk1,hk2⟩:=hk1;clear hk;have w0:IntKind.i64.wrap (k.tmod n)=k.tmod n:=IntWalk.i64_in _ (by omega);obtain⟨r,hr⟩:=nC (k.tmod n);rw[hr] at h1 h2 w0 HJ;by_cases h0:r<0
 · have t0:decide (r<0)=true:=rZ h0;go_enter func14,ntmps14
   go_wp2_with fail
   go_ret;exact⟨⟨j,hj,aEd (by have:=HJ.o;rw[if_pos h0] at this;exact this)⟩,rfl⟩
 · have t0:decide (r<0)=false:=rY h0;go_enter func14,ntmps14
   go_wp2_with fail
   go_ret;exact⟨⟨j,hj,aEd (by have:=HJ.o;rw[if_neg (by omega)] at this;exact this)⟩,rfl⟩
end
end Go.Proofs.YtdhlicgaalnmoaaGreatDoor.Ro
namespace Go.Proofs.YtdhlicgaalnmoaaGreatDoor.Tp
open Lib (hid)
open Tryz
open Go.RowKit Go.Maps
set_option maxHeartbeats 8000000
set_option maxRecDepth 100000
theorem aZn:madeCells #[Value.int .u8 0] 40=(List.replicate 40 (Value.int .u8 0)).toArray:=by first|rfl|kernel_rfl
theorem aWx (x:Int):(Lit.int .i64 (wrap64 x)).wf=true:=by
 simp only[Lit.wf,IntKind.min,IntKind.max,IntKind.bits,IntKind.signed];simp
 unfold wrap64
 omega
def aTe (w:World) (g:Nat):Prop:=∃bs:List Int,bs.length=40∧Bk w g 5 (bs.map (Value.int .u8))∧∀x∈bs,0≤x∧x<256
theorem aTe.y {w:World} {g:Nat} (h:aTe w g):∃bs,IsY w (some ⟨g,0,none⟩) 40 40 bs:=by
 obtain⟨bs,h1,h2,h3⟩:=h;have hy:Byt w 0 (.slice (some ⟨g,0,none⟩) 40 40) bs:=⟨⟨by rw[rU,h1],.inr ⟨g,40,(bs.map (Value.int .u8)).toArray,by rw[h1],zL,h2,by rw[h1];exact lR,by decide,by simp[h1],by simpa [h1] using rG (l:=bs.map (Value.int .u8)) (i:=40) (by rw[rU,h1];exact lR)⟩⟩,h3⟩;obtain⟨A,c,e,hi⟩:=hy.isY;rw[h1] at e hi;injection e with e1 _ e3;subst e1 e3;exact⟨bs,hi⟩
theorem aMq (W:World):(Instr.makeSlice 41 (.int .i64 40) (.int .i64 40)).run prog W=.ok (.slice (some ⟨W.heap.size,0,none⟩) 40 40) (W.alloc (.cells (madeCells (Value.int .u8 0).cells 40) 5)):=by
 obtain⟨i0,hi,hz0,hz1,hz2⟩:=info_parts aBq;have h:=run_make (P:=prog) W 41 5 i0 (.int .u8 0) underlying41 hi hz0 .i64 .i64 40 40 (by omega) (by omega) (by rw[hz2];omega) (by omega);rw[hz1] at h;exact h
theorem aNi (s:Int) (w:World) :
  Calls prog 44 #[.int .i64 40,.int .i64 s] w fun e w'=>e=.returned (.slice (some ⟨w.heap.size,0,none⟩) 40 40)∧aTe w' w.heap.size∧nD w w':=by
 have hmk:=aMq;have hmx:max (40:Int) 0=40:=by decide
 go_enter func44,ntmps44
 go_wp2_with fail
 go_loopw [6] (fun i wr=>∃k:Nat,k≤40∧i=.int .i64 (k:Int)∧Hid (aTe wr w.heap.size∧nD w wr)) (fun i _=>40 - (intOf i).toNat)
 case atStart=>exact⟨0,by omega,rfl,hid ⟨⟨List.replicate 40 0,by simp,by rw[List.map_replicate];exact aZn▸Bk.new w _ _,fun x hx=>by have:=List.eq_of_mem_replicate hx;omega⟩,nB.alloc lR _⟩⟩
 case round =>
  obtain⟨k,hk,rfl,HY⟩:=hrel;by_cases hlt:k<40
  · obtain⟨⟨bs,hd,hB,h1⟩,hb⟩:=HY.o;have t0:decide ((k:Int)<40)=true:=rZ (by omega);have n0:(k:Int)<40:=by omega
    have n1:(0:Int)≤(k:Int):=by omega
    have m2:wrap64 ((k:Int)+1)=(k:Int)+1:=by unfold wrap64;omega
    have c0:=hB.cell (i:=k) (by rw[rU];omega);rw[rV] at c0;obtain⟨y,hy⟩:=nC (bs[k]'(by omega));rw[hy] at c0;have f0:=hB.free k;have HD:=nI hd hB h1 hb;clear hd hB h1 hb hy;go_wp2_with fail
    refine(Go.Proofs.YtdhlicgaalnmoaaGreatDoor.Ro.round_any _ 251 _ (by omega) (by omega) (aWx _)).mono ?_;rintro e w' ⟨⟨j,hj,rfl⟩,rfl⟩;have hw8:IntKind.u8.wrap (j:Int)=(j:Int):=by simp[IntKind.wrap,IntKind.bits,IntKind.signed];omega
    go_wp2_with fail
    go_roundw
    case rel=>exact⟨k+1,hlt,Va (by first|rfl|exact m2),hid ⟨⟨bs.set k (j:Int),by rw[rK];exact HD.o.1,by rw[List.map_set];exact HD.o.2.1.set k _,fun x hx=>by
     rcases List.mem_or_eq_of_mem_set hx with g|g
     · exact HD.o.2.2.1 x g
     · omega⟩,HD.o.2.2.2.setCell lR _⟩⟩
    case measure=>(try rw[m2]);exact Xw (x:=(k:Int)+1) hlt rfl
  · obtain rfl:k=40:=by omega
    go_wp2_with fail
    go_ret;exact⟨rfl,HY.o.1,HY.o.2⟩
theorem aIo (s:Int) (w:World) :
  Calls prog 16 #[.int .i64 s] w fun e w'=>e=.returned (.slice (some ⟨w.heap.size,0,none⟩) 40 40)∧aTe w' w.heap.size∧nD w w':=by
 go_enter func16,ntmps16
 go_wp2_with fail
 refine(aNi _ _).mono ?_;rintro e w' ⟨rfl,h1,h2⟩;go_wp2_with fail
 go_ret;exact⟨rfl,h1,h2⟩
theorem aw1 {s s':SS} {c:CLD} {o:OpD} {l:List OpD} {r:Int} (hm:s.m=ms0) (hb:s.bg=[]) (he:s.es=[]) (hj:s.cls[0]? =some c) (ho:c.ops=o::l) (hk:o.kind=1) (hg:c.bgs=[]) (h:stR s 0 c r s') :
  ∃c',s'.cls[0]? =some c'∧c'.ops=l∧c'.bgs=[0]∧c'.asked=false∧s'.m=ms0.begin∧s'.bg=[⟨s.ev+1,0⟩]∧s'.ev=s.ev+1∧s'.pos=s.pos:=by
 rcases h with ⟨e,_⟩|⟨o',l',s2,ok,cl2,e,hd,hj2,_,hr⟩
 · rw[ho] at e;cases e
 · rw[ho] at e;injection e with e1 e2;subst e1 e2;rcases hd with ⟨_,rfl,⟨hn,_⟩|⟨x,bv',rfl⟩⟩|⟨hn,_⟩|⟨i,k,b,t,_,q,_⟩
   · rw[show ({s with ev:=s.ev+1}:SS).m=s.m from rfl,hm] at hn;exact absurd rfl hn
   · have hl:=Vi hj
     have e2:cl2={c with bv:=bv',bgs:=c.bgs++[s.es.length]}:=by
      have:(s.cls.set 0 {c with bv:=bv',bgs:=c.bgs++[s.es.length]})[0]? =some cl2:=hj2;rw[rD,if_pos rfl,if_pos hl] at this;exact(rT this).symm
     rcases hr with ⟨q,_⟩|⟨_,_,ov',av',rfl⟩
     · cases q
     · refine⟨_,by show ((s.cls.set 0 _).set 0 _)[0]? =_;rw[rD,if_pos rfl,if_pos (by rw[rK];exact hl)],rfl,?_,rfl,?_,?_,rfl,rfl⟩
       · show cl2.bgs=_
         rw[e2];show c.bgs++[s.es.length]=_;rw[hg,he];rfl
       · show s.m.begin=_;rw[hm]
       · show s.bg++[_]=_;rw[hb];rfl
   · exact absurd hk hn
   · rw[hg] at q;simp at q
theorem aw2 {s s':SS} {c:CLD} {o:OpD} {l:List OpD} {r:Int} {t:TX} {b:BG} (hm:s.m.txs=[t]) (hb:s.bg=[b]) (hj:s.cls[0]? =some c) (ho:c.ops=o::l) (hk:o.kind=3) (hh:o.h=0) (hn:o.n=1) (hp:∀p∈o.ps,0≤p.lba∧p.lba<258∧p.n=40) (hg:c.bgs=[0]) (hst:t.st=1) (hks:t.keys=[]) (h:stR s 0 c r s') :
  ∃c' ks',s'.cls[0]? =some c'∧c'.ops=l∧c'.bgs=[0]∧c'.asked=false∧ks'≠[]∧s'.m={s.m with txs:=[{t with keys:=ks'}]}∧s'.bg=[b]∧s'.ev=s.ev+1∧s'.pos=s.pos:=by
 rcases h with ⟨e,_⟩|⟨o',l',s2,ok,cl2,e,hd,hj2,hbg,hr⟩
 · rw[ho] at e;cases e
 · rw[ho] at e;injection e with e1 e2;subst e1 e2;have hl:=Vi hj;rcases hd with ⟨q,_⟩|⟨_,_,_,q⟩|⟨i,k,b',t',e1,e2,e3,e4,hc⟩
   · omega
   · have:=q (.inr (.inl hk)) 0 hh;rw[hg] at this;cases this
   · have hi:i=0:=by omega
     subst hi;rw[hg] at e2;have hk0:k=0:=by simpa using e2.symm
     subst hk0;have e4:s.m.txs[0]? =some t':=e4;rw[hm] at e4;have ht:t=t':=by simpa using e4
     subst ht;rcases hc with ⟨q,_⟩|⟨_,rfl,r',m',hw,rfl⟩|⟨q,_⟩|⟨q,_⟩
     · omega
     · rcases hw with ⟨q,_⟩|⟨_,ks',hm',_,hgood⟩
       · exact absurd hst q
       · obtain⟨_,hne,_⟩:=hgood (by rw[hks];exact Nat.succ_pos 15) hn hp
         have ecl:cl2=c:=by
          have:s.cls[0]? =some cl2:=hj2;rw[hj] at this;exact(rT this).symm
         rcases hr with ⟨q,_⟩|⟨_,_,ov',av',rfl⟩
         · cases q
         · refine⟨_,ks',by show (s.cls.set 0 _)[0]? =_;rw[rD,if_pos rfl,if_pos hl],rfl,by show cl2.bgs=_;rw[ecl];exact hg,rfl,hne,?_,hb,rfl,rfl⟩;show m'=_
           rw[hm'];show ({s.m with txs:=s.m.txs.set 0 _}:MS)=_
           rw[hm];rfl
     · omega
     · omega
theorem aw3 {s s':SS} {c:CLD} {o:OpD} {l:List OpD} {r:Int} {t:TX} {b:BG} (hm:s.m.txs=[t]) (hq:s.m.queue=[]) (hla:s.m.last=0) (hrd:s.m.read=false) (hb:s.bg=[b]) (hj:s.cls[0]? =some c) (ho:c.ops=o::l) (hk:o.kind=4) (hh:o.h=0) (hg:c.bgs=[0]) (has:c.asked=false) (hst:t.st=1) (hks:t.keys≠[]) (h:stR s 0 c r s') :
  ∃c',s'.cls[0]? =some c'∧c'.ops=o::l∧c'.bgs=[0]∧c'.asked=true∧s'.m=s.m.pend 0 t∧s'.bg=[b]∧s'.ev=s.ev+1∧s'.pos=s.pos:=by
 rcases h with ⟨e,_⟩|⟨o',l',s2,ok,cl2,e,hd,hj2,hbg,hr⟩
 · rw[ho] at e;cases e
 · rw[ho] at e;injection e with e1 e2;subst e1 e2;have hl:=Vi hj;rcases hd with ⟨q,_⟩|⟨_,_,_,q⟩|⟨i,k,b',t',e1,e2,e3,e4,hc⟩
   · omega
   · have:=q (.inr (.inr (.inl hk))) 0 hh;rw[hg] at this;cases this
   · have hi:i=0:=by omega
     subst hi;rw[hg] at e2;have hk0:k=0:=by simpa using e2.symm
     subst hk0;have e4:s.m.txs[0]? =some t':=e4;rw[hm] at e4;have ht:t=t':=by simpa using e4
     subst ht;rcases hc with ⟨q,_⟩|⟨q,_⟩|⟨_,r',m',t2,hrel,ht2,hres⟩|⟨q,_⟩
     · omega
     · omega
     · rw[has] at hrel;rcases hrel with ⟨q,_⟩|⟨_,hcm⟩
       · cases q
       · rcases hcm with ⟨q,_⟩|⟨_,⟨q,_⟩|⟨_,⟨_,q,_⟩|⟨hr0,hm'⟩⟩⟩
         · exact absurd hst q
         · exact absurd q hks
         · exact absurd ⟨hrd,hq,tK (tO hla) zL⟩ q
         · have hs2:t2.st=2:=by
            rw[hm'] at ht2;have:(s.m.txs.set 0 _)[0]? =some t2:=ht2;rw[hm] at this;have e:=rT (show some _=some t2 from this);rw[←e]
           rcases hres with ⟨hok,_,_,rfl⟩|⟨_,q,_⟩|⟨_,q,_⟩
           · have ecl:cl2=c:=by
              have:s.cls[0]? =some cl2:=hj2;rw[hj] at this;exact(rT this).symm
             rcases hr with ⟨_,_,rfl⟩|⟨q,_⟩
             · refine⟨_,by show (s.cls.set 0 _)[0]? =_;rw[rD,if_pos rfl,if_pos hl],by show cl2.ops=_;rw[ecl];exact ho,by show cl2.bgs=_;rw[ecl];exact hg,rfl,hm',hb,rfl,rfl⟩
             · rw[hok] at q;cases q
           · omega
           · exact absurd hr0 q
     · omega
theorem aw4 {m m':MS} {r:Int} {pos':Nat} {t:TX} (hm:m.txs=[t]) (hq:m.queue=[0]) (hst:t.st=2) (h:flR m 0 r pos' m'):r=0∧∃t',m'.txs=[t']∧t'.st=3:=by
 rcases h with ⟨q,_⟩|⟨_,n,L,h1,h2,h3,⟨_,hr,_,hm'⟩|⟨q,_⟩⟩
 · rw[hq] at q;cases q
 · rw[hq] at h2
   have hn:n=1:=by
    have:n≤1:=h2;omega
   subst hn;refine⟨hr,{t with st:=3},?_,rfl⟩;rw[hm'];show (m.pop true).txs=_
   rw[aFz true hq (by rw[hm];rfl),hm];rfl
 · omega
theorem aw5 {s s':SS} {c:CLD} {o:OpD} {l:List OpD} {r:Int} {t:TX} {b:BG} (hm:s.m.txs=[t]) (hb:s.bg=[b]) (hj:s.cls[0]? =some c) (ho:c.ops=o::l) (hk:o.kind=4) (hh:o.h=0) (hg:c.bgs=[0]) (has:c.asked=true) (hst:t.st=3) (h:stR s 0 c r s') :
  s'.m.txs=[t]∧s'.bg=[⟨b.fr,s.ev+1⟩]:=by
 rcases h with ⟨e,_⟩|⟨o',l',s2,ok,cl2,e,hd,hj2,hbg,hr⟩
 · rw[ho] at e;cases e
 · rw[ho] at e;injection e with e1 e2;subst e1 e2;rcases hd with ⟨q,_⟩|⟨_,_,_,q⟩|⟨i,k,b',t',e1,e2,e3,e4,hc⟩
   · omega
   · have:=q (.inr (.inr (.inl hk))) 0 hh;rw[hg] at this;cases this
   · have hi:i=0:=by omega
     subst hi;rw[hg] at e2;have hk0:k=0:=by simpa using e2.symm
     subst hk0;have e4:s.m.txs[0]? =some t':=e4;have e3:s.bg[0]? =some b':=e3;rw[hm] at e4;rw[hb] at e3;have ht:t=t':=by simpa using e4
     have hbb:b=b':=by simpa using e3
     subst ht hbb;rcases hc with ⟨q,_⟩|⟨q,_⟩|⟨_,r',m',t2,hrel,ht2,hres⟩|⟨q,_⟩
     · omega
     · omega
     · rw[has] at hrel;rcases hrel with ⟨_,hr0,hm'⟩|⟨q,_⟩
       · have hm':m'=s.m:=hm';rw[hm',hm] at ht2;have e:t=t2:=by simpa using ht2
         subst e;rcases hres with ⟨_,_,q,_⟩|⟨hok,_,rfl⟩|⟨_,q,_⟩
         · omega
         · rcases hr with ⟨q,_⟩|⟨_,_,ov',av',rfl⟩
           · rw[hok] at q;cases q
           · refine⟨by show m'.txs=_;rw[hm',hm],?_⟩;show s.bg.set 0 _=_
             rw[hb];rfl
         · exact absurd hr0 q
       · cases q
     · omega
def bCf:Prop:=∀w,Pow w→Calls prog 27 #[.string ⟨#[115,116,97,116,10]⟩] w fun e w'=>e=.returned (.string ⟨#[108,97,115,116,32,48,32,111,112,101,110,32,48,32,113,117,101,117,101,32,48,32,98,108,111,99,107,115,32,50,53,56,10]⟩)∧nD w w'
structure AwC (s:SS) (ops:List OpD) (bgs:List Nat) (asked:Bool):Prop where
 c:∃c,s.cls[0]? =some c∧c.ops=ops∧c.bgs=bgs∧c.asked=asked
 sm:∀o∈ops,o.n≤20000
 pos:s.pos=0
structure AwW (b d:OpD):Prop where
 k:b.kind=3∧b.h=0∧b.n=1∧∀p∈b.ps,0≤p.lba∧p.lba<258∧p.n=40
 d:d.kind=4∧d.h=0
def AwS:Nat→SS→Prop
 | 0,s=>s.m=ms0∧s.bg=[]∧s.es=[]∧s.ev=0∧∃a b d,AwC s [a,b,d] [] false∧a.kind=1∧AwW b d
 | 1,s=>s.m=ms0.begin∧s.bg=[⟨1,0⟩]∧s.ev=1∧∃b d,AwC s [b,d] [0] false∧AwW b d
 | 2,s=>∃t:TX,s.m={ms0.begin with txs:=[t]}∧t.st=1∧t.keys≠[]∧s.bg=[⟨1,0⟩]∧s.ev=2∧∃d,AwC s [d] [0] false∧d.kind=4∧d.h=0
 | 3,s=>∃t:TX,s.m.txs=[t]∧t.st=2∧s.m.queue=[0]∧s.bg=[⟨1,0⟩]∧s.ev=3∧∃d,AwC s [d] [0] true∧d.kind=4∧d.h=0
 | _,_=>False
theorem aXn {i:Nat} {s:SS} (hi:i<3) (h:AwS i s):∃c,s.cls[0]? =some c∧(∀o∈c.ops,o.n≤20000)∧∀r s',stR s 0 c r s'→AwS (i+1) s':=by
 match i with
 | 0 =>
   obtain⟨h1,h2,h3,h4,a,b,d,⟨⟨c,hj,ho,hg,ha⟩,hsm,hp⟩,hk,hw⟩:=h;refine⟨c,hj,by rw[ho];exact hsm,fun r s' hs=>?_⟩;obtain⟨c',e1,e2,e3,e4,e5,e6,e7,e8⟩:=aw1 h1 h2 h3 hj ho hk hg hs;rw[h4] at e6 e7;exact⟨e5,e6,e7,b,d,⟨⟨c',e1,e2,e3,e4⟩,fun o q=>hsm o (List.mem_cons_of_mem _ q),e8.trans hp⟩,hw⟩
 | 1 =>
   obtain⟨h1,h2,h3,b,d,⟨⟨c,hj,ho,hg,ha⟩,hsm,hp⟩,hw⟩:=h;refine⟨c,hj,by rw[ho];exact hsm,fun r s' hs=>?_⟩;obtain⟨c',ks',e1,e2,e3,e4,e5,e6,e7,e8,e9⟩:=aw2 (t:=⟨1,0,0,[]⟩) (by rw[h1];rfl) h2 hj ho hw.k.1 hw.k.2.1 hw.k.2.2.1 hw.k.2.2.2 hg rfl rfl hs;rw[h3] at e8;exact⟨_,by rw[e6,h1],rfl,e5,e7,e8,d,⟨⟨c',e1,e2,e3,e4⟩,fun o q=>hsm o (List.mem_cons_of_mem _ q),e9.trans hp⟩,hw.d⟩
 | 2 =>
   obtain⟨t,h1,h2,h3,h4,h5,d,⟨⟨c,hj,ho,hg,ha⟩,hsm,hp⟩,hk,hh⟩:=h;refine⟨c,hj,by rw[ho];exact hsm,fun r s' hs=>?_⟩;obtain⟨c',e1,e2,e3,e4,e5,e6,e7,e8⟩:=aw3 (by rw[h1]) (by rw[h1];rfl) (by rw[h1];rfl) (by rw[h1];rfl) h4 hj ho hk hh hg ha h2 h3 hs;rw[h5] at e7;exact⟨⟨2,s.m.given+1,t.at',t.keys⟩,by rw[e5];show s.m.txs.set 0 _=_;rw[h1];rfl,rfl,by rw[e5];show s.m.queue++[0]=_;rw[h1];rfl,e6,e7,d,⟨⟨c',e1,e2,e3,e4⟩,hsm,e8.trans hp⟩,hk,hh⟩
def AwI (w wr:World) (sb i:Nat):Prop:=∃s F,Ue wr F sb s (2*i+5)∧AwS i s∧nD w wr∧∀b,F b→w.heap.size≤b
theorem AwI.step {w wr w':World} {sb i:Nat} {F:Xt} {s':SS} (hb:nD w wr) (hF:∀b,F b→w.heap.size≤b) (hs:AwS (i+1) s') (h:Uc wr w' F sb s' (2*i+5+1+1)):AwI w w' sb (i+1):=by
 obtain⟨F',h1,h2,h3,h4⟩:=h;rw[show 2*i+5+1+1=2*(i+1)+5 by omega] at h1;exact⟨s',F',h1,hs,hb.trans (h2.below hF hb.size),fun b q=>(h3 b q).elim (hF b) (tK hb.size)⟩
def awO (gd gp:Nat) (bs:List Int):List OpD:=[⟨1,0,0,0,none,0,0,[]⟩,⟨3,0,0,0,some ⟨gp,0,none⟩,1,1,[⟨1,some ⟨gd,0,none⟩,40,40,bs⟩]⟩,⟨4,0,0,0,none,0,0,[]⟩]
theorem bCi {w:World} {gd gp gq:Nat} {bs:List Int} (hq:Bk w gq 60 ((awO gd gp bs).flatMap OpD.cells)) (hp:Bk w gp 50 [.int .i64 1,.slice (some ⟨gd,0,none⟩) 40 40]) (hy:IsY w (some ⟨gd,0,none⟩) 40 40 bs) :
  aEj w (fun b=>b=gq∨b=gp) (some ⟨gq,0,none⟩) 3 3 (awO gd gp bs):=by
 refine⟨rfl,hq.rd,fun o ho=>?_,lR,by show (3:Nat)≤maxLen;decide,fun ad e _=>by injection e with e;subst e;exact .inl rfl,fun o ho ad e _=>?_⟩
 · simp only[awO,List.mem_cons,List.not_mem_nil,or_false] at ho;rcases ho with rfl|rfl|rfl
   · exact(Uh.nil w).a _
   · refine Uh.a (ps:=[⟨1,some ⟨gd,0,none⟩,40,40,bs⟩]) ⟨rfl,hp.rd,fun p hp=>?_,lR,by show (1:Nat)≤maxLen;decide⟩ _;obtain rfl:p=⟨1,some ⟨gd,0,none⟩,40,40,bs⟩:=by simpa using hp
     exact hy
   · exact(Uh.nil w).a _
 · simp only[awO,List.mem_cons,List.not_mem_nil,or_false] at ho;rcases ho with rfl|rfl|rfl
   · cases e
   · injection e with e;subst e;exact .inr rfl
   · cases e
theorem aTm {w:World} {F:Xt} {sb g gd gp:Nat} {bs:List Int} {r:Int} {s':SS} (hB:Ue w F sb s' g) (h:adR ss0 0 clz (awO gd gp bs) r s'):r=0∧AwS 0 s':=by
 rcases h with ⟨q,_⟩|⟨_,hr,ov',os',hs,rfl⟩
 · simp[clz,awO] at q
 · refine⟨hr,rfl,rfl,rfl,rfl,?_⟩;have hl:os'.length=3:=by have:=congrArg List.length hs;simpa [awO] using this
   match os',hl with
   | [a,b,d],_ =>
     have hs': [a.key,b.key,d.key]=(awO gd gp bs).map OpD.key:=hs;have hcl:(List.replicate 8 clz).set 0 {clz with ov:=ov',ops:=[]++[a,b,d]}={clz with ov:=ov',ops:=[a,b,d]}::List.replicate 7 clz:=rfl;have hps:=aWn hB {clz with ov:=ov',ops:=[a,b,d]} (by show _∈(List.replicate 8 clz).set 0 _;exact hcl▸rQ);have la:=hps a (by simp);have lb:=hps b (by simp);have ld:=hps d (by simp);simp only[awO,List.map_cons,List.map_nil,OpD.key,List.cons.injEq,Prod.mk.injEq,and_true] at hs';obtain⟨⟨a1,_,_,_,a5⟩,⟨b1,b2,_,_,b5⟩,⟨d1,d2,_,_,d5⟩⟩:=hs';have hna:a.n=0:=by rw[←la];have:=congrArg List.length a5;simpa using this
     have hnb:b.n=1:=by rw[←lb];have:=congrArg List.length b5;simpa using this
     have hnd:d.n=0:=by rw[←ld];have:=congrArg List.length d5;simpa using this
     refine⟨a,b,d,⟨⟨{clz with ov:=ov',ops:=[a,b,d]},rfl,rfl,rfl,rfl⟩,fun o ho=>?_,rfl⟩,a1,⟨⟨b1,b2,hnb,fun p hp=>?_⟩,d1,d2⟩⟩
     · simp only[List.mem_cons,List.not_mem_nil,or_false] at ho;rcases ho with rfl|rfl|rfl<;>omega
     · have:(p.lba,p.n)∈b.ps.map fun p=>(p.lba,p.n):=List.mem_map.2 ⟨p,hp,rfl⟩
       rw[b5] at this;have e:(p.lba,p.n)=(1,40):=by simpa using this
       injection e with e1 e2;omega
end Go.Proofs.YtdhlicgaalnmoaaGreatDoor.Tp
