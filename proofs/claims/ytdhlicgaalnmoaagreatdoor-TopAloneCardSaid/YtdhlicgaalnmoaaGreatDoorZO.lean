/- Contracts of the program's functions, and laws on memory: a part of the proof of TopAlone. -/
import Derived.Test.YtdhlicgaalnmoaaGreatDoorZN
set_option linter.unusedSimpArgs false
set_option linter.unusedVariables false
namespace Go.Proofs.YtdhlicgaalnmoaaGreatDoor.Tp
open Lib (hid)
open Tryz
open Go.RowKit Go.Maps
set_option maxHeartbeats 8000000
set_option maxRecDepth 100000
theorem bEn {j n:Nat} (h:j+1<n) (hn:n≤1000):(j:Int)+1<(n:Int)∧(0:Int)≤(j:Int)∧(j:Int)<(n:Int)∧(0:Int)≤(j:Int)+1∧IntKind.i64.wrap (j:Int)=(j:Int)∧IntKind.i64.wrap ((j:Int)+1)=(j:Int)+1∧wrap64 ((j:Int)+1+1)=(j:Int)+1+1 :=
 ⟨by omega,by omega,by omega,by omega,IntWalk.i64_in _ (by omega),IntWalk.i64_in _ (by omega),by unfold wrap64;omega⟩
theorem bBx {ps:List Vd} {w:World} {B:Nat} {ad:Addr} (hr:Rd w B (some ad) (ps.flatMap Vd.cells)) {k:Nat} (h:k<ps.length):∃x:Int,w.cell? (ad.add (k*2))=some (.int .i64 x):=by
 obtain⟨ad',e,_,g0,_⟩:=Vk Vy hr h (u:=.int .i64 ps[k].lba) (v:=.slice ps[k].A ps[k].n ps[k].c) rfl;injection e with e;subst e;exact⟨_,g0⟩
theorem bBy {n:Nat} (h:n≠0):decide ((n:Int)=0)=false∧((n:Int)==0)=false∧¬(n:Int)=0∧1≤n:=⟨rY (by omega),by simp;omega,by omega,by omega⟩
theorem aZt (A:Option Addr) (n c:Nat) (ts:List TxD) (w:World) (h:Ki w A n c ts) (hn:n≤1000) (hsm:∀t∈ts,t.n≤1000) :
  Calls prog 221 #[.slice A n c] w fun e w'=>(∃b,e=.returned (.bool b))∧nD w w':=by
 have HX:=nI h hsm hn h.len;clear h hsm hn;go_enter func221,ntmps221
 go_wp2_with fail
 go_loopw [3,9] (fun lv i wr=>∃(k:Nat) (L:Int),k≤n∧i=.int .i64 (k:Int)∧lv=.int .i64 L∧Hid (nD w wr)) (fun _ i _=>n - (intOf i).toNat)
 case atStart=>exact⟨0,0,zL,rfl,rfl,hid nB⟩
 case round =>
  obtain⟨k,L,hk,rfl,rfl,HW⟩:=hrel;rcases tN k n with hlt|hge
  · have hr:=HX.o.1.rd.next lR HW.o;obtain⟨t,hpt⟩:=nC (ts[k]'(by rw[HX.o.2.2.2];exact hlt));have hmt:t∈ts:=by rw[←hpt];exact rC _
    obtain⟨adt,eAt,hadt,c0,c1⟩:=Vk aAu hr (k:=k) (by rw[HX.o.2.2.2];exact hlt) (u:=.int .i64 t.time) (v:=.slice t.A t.n t.c) (by rw[hpt];rfl);subst eAt;obtain⟨n1,n2,m2⟩:=aVz hlt HX.o.2.2.1;obtain⟨g6,w6,hzw6,hw6,Bw6,bw6⟩:=Xy wr 196 [.int .i64 t.time,.slice t.A t.n t.c];obtain⟨d0,d1⟩:=Bw6.c2;have HP:=nI hlt (((HX.o.1.y t hmt).next HW.o).next bw6) (HX.o.2.1 t hmt) (HW.o.trans (bw6.mono HW.o.size));clear hr hpt hmt hadt hlt hk bw6 Bw6;by_cases q0:t.time≤L
    · have t0:decide (t.time≤L)=true:=rZ q0;go_wp2_with fail
      go_ret;exact⟨by first|exact .inl rfl|exact .inr rfl|exact⟨_,rfl⟩,HP.o.2.2.2⟩
    have t0:decide (t.time≤L)=false:=rY q0;by_cases q1:1099511627776<t.time
    · have t1:decide (1099511627776<t.time)=true:=rZ q1;go_wp2_with fail
      go_ret;exact⟨by first|exact .inl rfl|exact .inr rfl|exact⟨_,rfl⟩,HP.o.2.2.2⟩
    have t1:decide (1099511627776<t.time)=false:=rY q1;by_cases q2:t.n=0
    · rw[q2] at c1 d1 hw6;go_wp2_with fail
      go_ret;exact⟨by first|exact .inl rfl|exact .inr rfl|exact⟨_,rfl⟩,HP.o.2.2.2⟩
    obtain⟨t2,t3,q3,q4⟩:=bBy q2;obtain⟨tn,htn⟩:=nC (t.n);rw[htn] at c1 d1 hw6 t2 t3 q3 q4 HP;clear q0 q1 q2;go_wp2_with fail
    clear c0 c1;go_loopw [6] (fun iv wr=>∃j q:Nat,j+1≤tn∧iv=.int .i64 ((j:Int)+1)∧wr=w6.drewN q) (fun iv _=>tn - (intOf iv).toNat)
    case atStart=>exact⟨0,0,q4,rfl,rfl⟩
    case round =>
     obtain⟨j,q,hj,rfl,rfl⟩:=hrel;rcases tN (j+1) tn with hjl|hjg
     · have hpl:=HP.o.2.1.len;obtain⟨ad,eA,-⟩:=HP.o.2.1.rd.get (k:=0) (by rw[Vt Vy,hpl];omega);have hrd:=HP.o.2.1.rd;rw[eA] at hrd;obtain⟨x,e0⟩:=bBx hrd (k:=j) (by rw[hpl];omega);obtain⟨y,e1⟩:=bBx hrd (k:=j+1) (by rw[hpl];exact hjl);obtain⟨n3,n4,n5,n6,wj,wj1,m3⟩:=bEn hjl HP.o.2.2.1;rw[eA] at d1;have HJ:=hid hjl;clear hpl hrd eA hjl hj;by_cases q5:y≤x
       · have t4:decide (y≤x)=true:=rZ q5;go_wp2_with fail
         go_quiet (fail)
         go_wp2_with fail
         go_ret;exact⟨by first|exact .inl rfl|exact .inr rfl|exact⟨_,rfl⟩,HP.o.2.2.2.trans ((by first|exact Vw (Below.refl w6.heap.size w6) _|(simp only[World.drewN_drewN];exact Vw (Below.refl w6.heap.size w6) _):nD w6 _).mono HP.o.2.2.2.size)⟩
       · have t4:decide (y≤x)=false:=rY q5;go_wp2_with fail
         go_quiet (fail)
         go_wp2_with fail
         go_roundw
         case rel=>exact⟨j+1,_,HJ.o,congrArg (Value.int .i64) (m3.trans (show (j:Int)+1+1=((j+1:Nat):Int)+1 from rfl)),by first|rfl|(simp only[World.drewN_drewN];rfl)⟩
         case measure=>rw[m3];exact Xw (k:=j+1) (x:=(j:Int)+1+1) HJ.o rfl
     · have n3:¬((j:Int)+1<(tn:Int)):=by omega
       have HE:=hid (HP.o.2.2.2.trans ((Vw (Below.refl w6.heap.size w6) q).mono HP.o.2.2.2.size));go_wp2_with fail
       go_roundw
       case rel=>exact⟨k+1,t.time,HP.o.1,Va (by first|rfl|exact m2),rfl,HE⟩
       case measure=>(first|exact Xw HP.o.1 rfl|(rw[m2];exact Xw HP.o.1 rfl))
  · obtain rfl:k=n:=tQ hk hge;have n0:¬(k:Int)<(k:Int):=Int.lt_irrefl _;go_wp2_with fail
    go_ret;exact⟨by first|exact .inl rfl|exact .inr rfl|exact⟨_,rfl⟩,HW.o⟩
def OkG (ts:List TxD):Prop:=∀t∈ts,(0≤t.time∧t.time≤1000)∧t.n≤1000∧∀p∈t.ps,0≤p.lba∧p.lba<258∧p.n=40
theorem bIc {a b:Int} (ha:0≤a∧a≤1000) (hb:0≤b∧b≤1000):decide (65535<wrap64 (a - b))=false∧decide (65535<IntKind.i64.wrap (a - b))=false :=
 ⟨rY (by unfold wrap64;omega),rY (by rw[IntWalk.i64_in _ (by omega)];omega)⟩
theorem aVk {m:Nat} (h:¬m≤16):decide (16<(m:Int))=true∧16<(m:Int):=⟨rZ (by omega),by omega⟩
theorem bEj {ts:List TxD} (h:OkG ts) (hn:ts.length≤8):(ts.map (·.n)).sum≤100000:=by
 have key:∀l:List TxD,(∀t∈l,t.n≤1000)→(l.map (·.n)).sum≤1000*l.length:=fun l=>by
  induction l with
  | nil=>intro _;exact lR
  | cons a l ih =>
    intro q;have h1:=q a rQ;have h2:=ih fun t ht=>q t (List.mem_cons_of_mem _ ht)
    rw[List.map_cons,List.sum_cons,List.length_cons];omega
 have:=key ts fun t ht=>(h t ht).2.1
 omega
theorem aXy (num:Int) (A:Option Addr) (n c:Nat) (ts:List TxD) (w:World) (h:Ki w A n c ts) (hn:n≤1000) (hok:OkG ts) :
  Calls prog 167 #[.agg #[.int .i64 num,.slice A n c]] w fun e w'=>(∃r:Int,e=.returned (.int .i64 r)∧(r=0→0<n))∧nD w w':=by
 obtain⟨w5,hw5⟩:=nC (w.alloc (.cells #[.int .i64 num,.slice A n c] 107));have hB5:Bk w5 w.heap.size 107 [.int .i64 num,.slice A n c]:=by rw[←hw5];exact Bk.new w _ _
 have hb5:nD w w5:=by rw[←hw5];exact nB.alloc lR _
 obtain⟨d0,d1⟩:=hB5.c2;have h5:=h.next hb5;have ho:=aZt A n c ts w5 h5 hn (fun t ht=>(hok t ht).2.1);have HX:=nH h5 hok h.len;have HB5:=nF hB5 hb5;clear h h5 hok hB5 hb5 hn;go_enter func167,ntmps167
 by_cases q0:num<1
 · have t0:decide (num<1)=true:=rZ q0;go_wp2_with fail
   go_ret;exact⟨⟨_,rfl,fun q=>by cases q⟩,HB5.o.2⟩
 have t0:decide (num<1)=false:=rY q0;by_cases q1:1099511627776<num
 · have t1:decide (1099511627776<num)=true:=rZ q1;go_wp2_with fail
   go_ret;exact⟨⟨_,rfl,fun q=>by cases q⟩,HB5.o.2⟩
 have t1:decide (1099511627776<num)=false:=rY q1;by_cases q2:n=0
 · subst q2;go_wp2_with fail
   go_ret;exact⟨⟨_,rfl,fun q=>by cases q⟩,HB5.o.2⟩
 obtain⟨t2,t3,q3,q4⟩:=bBy q2;by_cases q5:8<n
 · have t5:decide (8<(n:Int))=true:=rZ (by omega);have t6:(8:Int)<(n:Int):=by omega
   go_wp2_with fail
   go_ret;exact⟨⟨_,rfl,fun q=>by cases q⟩,HB5.o.2⟩
 have t5:decide (8<(n:Int))=false:=rY (by omega);have HN:=hid (show n≤8∧1≤n from⟨by omega,q4⟩);clear q0 q1 q5 q4;go_wp2_with fail
 refine ho.mono ?_;rintro e w6 ⟨⟨b,rfl⟩,hb6⟩;clear ho
 cases b with
 | false =>
   have HE:=hid (HB5.o.2.trans (hb6.mono HB5.o.2.size));clear hb6;go_wp2_with fail
   go_ret;exact⟨⟨_,rfl,fun q=>by cases q⟩,HE.o⟩
 | true =>
 have hB6:=HB5.o.1.next hb6 HB5.o.1.lt;obtain⟨S,hS⟩:=nC (1+(ts.map (·.n)).sum);have hbl:=aGd num A n c S ts w6 (HX.o.1.next hb6) (bEj HX.o.2.1 (by rw[HX.o.2.2];exact HN.o.1)) hS;have HB6:=nF hb6 hB6;clear hS hb6 d0 d1;obtain⟨d0,d1⟩:=hB6.c2;clear hB6;go_wp2_with fail
 refine hbl.mono ?_;rintro e w7 ⟨rfl,hb7⟩;have HB7:=nF (HB6.o.1.trans (hb7.mono HB6.o.1.size)) (HB6.o.2.next hb7 HB6.o.2.lt);clear hbl hb7 d0 d1;have HE7:=hid (HB5.o.2.trans (HB7.o.1.mono HB5.o.2.size));by_cases q6:33<S
 · have t7:decide (33<(S:Int))=true:=rZ (by omega);have t8:(33:Int)<(S:Int):=by omega
   go_wp2_with fail
   go_ret;exact⟨⟨_,rfl,fun q=>by cases q⟩,HE7.o⟩
 have t7:decide (33<(S:Int))=false:=rY (by omega);have hB7:=HB7.o.2;obtain⟨d0,d1⟩:=hB7.c2;clear hB7 q6;go_wp2_with fail
 have h7:=HX.o.1.next HB7.o.1;obtain⟨adx,hA,-⟩:=h7.rd (by rw[Vt aAu,HX.o.2.2];have:=HN.o.2;omega);subst hA;have H7:=hid h7;clear t0 t1 t2 t3 t5 t7 q2 q3 d0 d1 h7;go_loopw [39] (fun iv wr=>∃k:Nat,k≤n∧iv=.int .i64 (k:Int)∧Hid (nD w7 wr)) (fun iv _=>n - (intOf iv).toNat)
 case atStart=>exact⟨0,zL,rfl,hid nB⟩
 case round =>
  obtain⟨k,hk,rfl,HW⟩:=hrel;rcases tN k n with hlt|hge
  · have hr:=H7.o.rd.next lR HW.o;have hl:=HX.o.2.2;obtain⟨x,hpx⟩:=nC (ts[k]'(by omega));have hmx:x∈ts:=by rw[←hpx];exact rC _
    obtain⟨adx,eAx,hadx,e0,e1⟩:=Vk aAu (hr) (k:=k) (by omega) (u:=.int .i64 x.time) (v:=.slice x.A x.n x.c) (by rw[hpx];rfl);obtain⟨n1,n2,wk,m2⟩:=aHc hlt HN.o.1;have hxo:=HX.o.2.1 x hmx;obtain⟨w8,hw8⟩:=nC (wr.alloc (.cells #[.int .i64 x.time,.slice x.A x.n x.c] 196));have hB8:Bk w8 wr.heap.size 196 [.int .i64 x.time,.slice x.A x.n x.c]:=by rw[←hw8];exact Bk.new wr _ _
    have hb8:nD wr w8:=by rw[←hw8];exact nB.alloc lR _
    obtain⟨d0,d1⟩:=hB8.c2;have hb78:=HW.o.trans (hb8.mono HW.o.size);have HPS:=hid ((H7.o.y x hmx).next hb78);have hB78:=HB7.o.2.next hb78 HB7.o.2.lt;have HXP:=hid hxo.2.2;have HB8:=hid hb78;have HBX:=hid (HE7.o.trans (hb78.mono HE7.o.size));have HS9X:=hid (fun (w9:World) (hS:nD w8 w9)=>hid (hb78.trans (hS.mono hb78.size)));have KK:=hid (fun (w':World) (hS:nD w8 w')=>nU ((hB8.next hS hB8.lt).cell (i:=0) (by simp)) ((hB8.next hS hB8.lt).cell (i:=1) (by simp)) ((hB78.next hS hB78.lt).cell (i:=0) (by simp)) ((hB78.next hS hB78.lt).cell (i:=1) (by simp)));injection eAx with eAx;subst eAx;have HK:=hid hlt;by_cases h0:k=0
    · obtain⟨t1,t1n⟩:=bBl h0;clear hpx hmx hr hxo hB8 hB78 hb8 hb78 h0 hlt hk hl;by_cases h16:x.n≤16
      · obtain⟨t0,t0'⟩:=aPe h16;clear h16;go_wp2_with fail
        have Kq:=KK;refine wp_region_held_drew (S:=fun w'=>nD w8 w') (by kernel_rfl) (Xu nB) (fun nE=>?_);refine kF 0 ?_;refine kF 1 ?_;refine kF 2 ?_;refine kS 3 ?_;refine kS 4 ?_;refine kS 5 ?_;refine kS 6 ?_;refine kS 7 ?_;refine kS 8 ?_;refine kS 9 ?_;refine kS 10 ?_;refine kS 11 ?_;refine kS 12 ?_;refine kS 13 ?_;refine kF 14 ?_;refine kF 15 ?_;refine kF 16 ?_;refine kF 17 ?_;refine kF 18 ?_;refine kF 19 ?_;refine kF 20 ?_;refine kF 21 ?_;refine kF 22 ?_;refine kF 23 ?_;refine rF 24 (fun K hK=>?_);go_simp;refine(aCd x.A x.n x.c x.ps 223 #[] (fun _=>false) _ (HPS.o.next nE) aYm (fun p hp w' _=>aEu p.lba p.A p.n p.c w' (HXP.o p hp))).mono ?_;rintro e w9 ⟨⟨rb,rfl,hrb⟩,hb9⟩
        obtain rfl:rb=false:=by
         cases rb with
         | false=>rfl
         | true=>obtain⟨_,_,q⟩:=hrb.1 rfl;cases q
        have hS9:nD w8 w9:=nE.trans (hb9.mono nE.size);have HS9:=hid (HB8.o.trans (hS9.mono HB8.o.size));clear hrb hb9;go_simp;clear nE;refine hK.out _ _ hS9 (fun nE=>?_);clear hK K;try simp only[Act.put,tC,tD,tE]
        refine kF 25 ?_;refine wpAnyH_done (by kernel_rfl) ?_ _;clear Kq;clear d0 d1 e0 e1 wk;go_wp2_with fail
        go_roundw
        case rel=>exact⟨k+1,HK.o,Va (by first|rfl|exact m2),HS9X.o w9 nE⟩
        case measure=>(first|exact Xw HK.o rfl|(rw[m2];exact Xw HK.o rfl))
      · obtain⟨t0,t0'⟩:=aVk h16;clear h16;go_wp2_with fail
        have Kq:=KK;refine wp_region_held_drew (S:=fun w'=>nD w8 w') (by kernel_rfl) (Xu nB) (fun nE=>?_);refine kF 0 ?_;refine kF 1 ?_;refine kF 2 ?_;refine kS 3 ?_;refine kS 4 ?_;refine kS 5 ?_;refine kS 6 ?_;refine kS 7 ?_;refine kS 8 ?_;refine kS 9 ?_;refine kS 10 ?_;refine kS 11 ?_;refine kS 12 ?_;refine kS 13 ?_;refine kF 14 ?_;refine kF 15 ?_;refine kF 16 ?_;refine kF 17 ?_;refine kF 18 ?_;refine kF 19 ?_;refine kF 20 ?_;refine kF 21 ?_;refine kS 22 ?_;refine kS 23 ?_;refine kS 24 ?_;refine kF 25 ?_;refine wpAnyH_done (by kernel_rfl) ?_ _;clear Kq;go_wp2_with fail
        go_ret;exact⟨⟨_,rfl,fun q=>by cases q⟩,HBX.o.trans ((Xu (Below.refl w8.heap.size w8)).mono HBX.o.size)⟩
    · obtain⟨k1,hk1,t1,t1n,m3,m3',m4,m5⟩:=bBm h0 hlt HN.o.1;obtain⟨y,hym,hk1b,had1⟩:=aWw (H7.o.rd.next lR HB8.o) (k1:=k1) (by rw[HX.o.2.2];exact hk1);obtain⟨t2,t2'⟩:=bIc hxo.1 (HX.o.2.1 y hym).1
      have KK2:=hid (fun (w':World) (hS:nD w8 w')=>(show w'.cell? (adx.add (k1*2))=some (.int .i64 y.time) from by
       rw[World.cell?_of_block (w:=w8) (w':=w') (by rw[aAk];exact hS.block _ (tL had1 HB8.o.size))];exact hk1b))
      clear hpx hmx hr hxo hB8 hB78 hb8 hb78 h0 hlt hk hl hym had1 hk1 hk1b;by_cases h16:x.n≤16
      · obtain⟨t0,t0'⟩:=aPe h16;clear h16;go_wp2_with fail
        have Kq:=hid (fun (w':World) hS=>nS (KK.o w' hS) (KK2.o w' hS));refine wp_region_held_drew (S:=fun w'=>nD w8 w') (by kernel_rfl) (Xu nB) (fun nE=>?_);refine kF 0 ?_;refine kF 1 ?_;refine kF 2 ?_;refine kF 3 ?_;refine kF 4 ?_;refine kF 5 ?_;refine kF 6 ?_;refine kF 7 ?_;refine kF 8 ?_;refine kF 9 ?_;refine kF 10 ?_;refine kF 11 ?_;refine kF 12 ?_;refine kF 13 ?_;refine kF 14 ?_;refine kF 15 ?_;refine kF 16 ?_;refine kF 17 ?_;refine kF 18 ?_;refine kF 19 ?_;refine kF 20 ?_;refine kF 21 ?_;refine kF 22 ?_;refine kF 23 ?_;refine rF 24 (fun K hK=>?_);go_simp;refine(aCd x.A x.n x.c x.ps 223 #[] (fun _=>false) _ (HPS.o.next nE) aYm (fun p hp w' _=>aEu p.lba p.A p.n p.c w' (HXP.o p hp))).mono ?_;rintro e w9 ⟨⟨rb,rfl,hrb⟩,hb9⟩
        obtain rfl:rb=false:=by
         cases rb with
         | false=>rfl
         | true=>obtain⟨_,_,q⟩:=hrb.1 rfl;cases q
        have hS9:nD w8 w9:=nE.trans (hb9.mono nE.size);have HS9:=hid (HB8.o.trans (hS9.mono HB8.o.size));clear hrb hb9;go_simp;clear nE;refine hK.out _ _ hS9 (fun nE=>?_);clear hK K;try simp only[Act.put,tC,tD,tE]
        refine kF 25 ?_;refine wpAnyH_done (by kernel_rfl) ?_ _;clear Kq;clear d0 d1 e0 e1 wk;go_wp2_with fail
        go_roundw
        case rel=>exact⟨k+1,HK.o,Va (by first|rfl|exact m2),HS9X.o w9 nE⟩
        case measure=>(first|exact Xw HK.o rfl|(rw[m2];exact Xw HK.o rfl))
      · obtain⟨t0,t0'⟩:=aVk h16;clear h16;go_wp2_with fail
        have Kq:=hid (fun (w':World) hS=>nS (KK.o w' hS) (KK2.o w' hS));refine wp_region_held_drew (S:=fun w'=>nD w8 w') (by kernel_rfl) (Xu nB) (fun nE=>?_);refine kF 0 ?_;refine kF 1 ?_;refine kF 2 ?_;refine kF 3 ?_;refine kF 4 ?_;refine kF 5 ?_;refine kF 6 ?_;refine kF 7 ?_;refine kF 8 ?_;refine kF 9 ?_;refine kF 10 ?_;refine kF 11 ?_;refine kF 12 ?_;refine kF 13 ?_;refine kF 14 ?_;refine kF 15 ?_;refine kF 16 ?_;refine kF 17 ?_;refine kF 18 ?_;refine kF 19 ?_;refine kF 20 ?_;refine kF 21 ?_;refine kS 22 ?_;refine kS 23 ?_;refine kS 24 ?_;refine kF 25 ?_;refine wpAnyH_done (by kernel_rfl) ?_ _;clear Kq;go_wp2_with fail
        go_ret;exact⟨⟨_,rfl,fun q=>by cases q⟩,HBX.o.trans ((Xu (Below.refl w8.heap.size w8)).mono HBX.o.size)⟩
  · obtain rfl:k=n:=tQ hk hge;have n0:¬(k:Int)<(k:Int):=Int.lt_irrefl _;go_wp2_with fail
    go_ret;exact⟨⟨_,rfl,fun _=>HN.o.2⟩,HE7.o.trans (HW.o.mono HE7.o.size)⟩
def PtB (w:World) (A:Option Addr):Prop:=∀ad,A=some ad→∃cs fr,w.heap[ad.block]? =some (.cells cs 50 fr)
theorem PtB.own {w:World} {B s n c:Nat} {A:Option Addr} {xs:List Value} (h:w.ownsRow B 50 s (.slice A n c) n xs):PtB w A:=fun ad e=>by
 subst e;rcases h.2 with ⟨h0,_⟩|⟨g',cap,cur,hv,hB,hh,_⟩
 · cases h0
 · injection hv with hA _ hc;injection hA with hA;subst hA;exact⟨_,_,hh⟩
structure BtX (w wr:World) (g4:Nat) (num:Int) (T:Nat) (ts:List TxD) (pA:Option Addr) (m pc:Nat) (ps:List Vd):Prop where
 bel:nD w wr
 bx:∃tv,Bk wr g4 107 [.int .i64 num,tv]∧wr.ownsRow w.heap.size 196 2 tv ts.length (ts.flatMap TxD.cells)
 tx:∀t∈ts,Uh w t.A t.n t.c t.ps∧(0≤t.time∧t.time≤(T:Int))∧t.n≤1000∧∀p∈t.ps,0≤p.lba∧p.lba<258∧p.n=40
 rest:Uh w pA m pc ps
 pg:∀p∈ps,0≤p.lba∧p.lba<258∧p.n=40
 sm:m≤1000
 ptx:∀t∈ts,PtB w t.A
 pr:PtB w pA
theorem aHj {α :Type} {f: α→List Value} (hs:∀x,(f x).length=2):∀(l:List α) (k:Nat),(l.flatMap f).drop (k*2)=(l.drop k).flatMap f
 | [],k=>by simp
 | x::l,0=>by simp
 | x::l,k+1=>by
   rw[List.flatMap_cons,List.drop_append,List.drop_eq_nil_of_le (by rw[hs];omega),hs,show (k+1)*2 - 2=k*2 by omega,aHj hs l k];rfl
theorem aHk {α :Type} {f: α→List Value} (hs:∀x,(f x).length=2):∀(l:List α) (k:Nat),(l.flatMap f).take (k*2)=(l.take k).flatMap f
 | [],k=>by simp
 | x::l,0=>by simp
 | x::l,k+1=>by
   rw[List.flatMap_cons,List.take_append,rG (by rw[hs];omega),hs,show (k+1)*2 - 2=k*2 by omega,aHk hs l k];rfl
theorem Uh.take_ {w:World} {A:Option Addr} {m c k:Nat} {ps:List Vd} (h:Uh w A m c ps) (hk:k≤m):Uh w A k k (ps.take k) :=
 ⟨by rw[rJ,h.len];omega,by rw[←aHk Vy];exact h.rd.take _,fun p hp=>h.y p (rR hp),lR,by have:=h.cap;have:=h.big;omega⟩
theorem Uh.drop_ {w:World} {A:Option Addr} {m c k:Nat} {ps:List Vd} (h:Uh w A m c ps) (hk:k≤m) {A':Option Addr} (hA:A'=if c=k then A else A.map (·.add (k*2))):Uh w A' (m - k) (c - k) (ps.drop k):=by
 have hr:=h.rd.drop (k:=k*2) (c:=c*2) (n:=m*2) (by rw[Vt Vy,h.len]) (by omega) (by have:=h.cap;omega);rw[aHj Vy] at hr;refine⟨by rw[rN,h.len],?_,fun p hp=>h.y p (rS hp),by have:=h.cap;omega,by have:=h.big;omega⟩;rw[hA];by_cases q:c=k
 · rw[if_pos q];rw[if_pos (by rw[q])] at hr;exact hr
 · rw[if_neg q];rw[if_neg (by omega)] at hr;exact hr
theorem BtX.push {w wr w9 w10:World} {T g4 m pc k tc oc:Nat} {num s:Int} {ts:List TxD} {pA pA' tA oA:Option Addr} {ps:List Vd} (h:BtX w wr g4 num T ts pA m pc ps) (hB:Bk wr g4 107 [.int .i64 num,.slice tA ts.length tc]) (hO:wr.ownsRow w.heap.size 196 2 (.slice tA ts.length tc) ts.length (ts.flatMap TxD.cells)) (h9:nD wr w9) (hO10:w10.ownsRow w.heap.size 196 2 (.slice oA (ts.length+1) oc) (ts.length+1) (ts.flatMap TxD.cells++[.int .i64 s,.slice pA k k])) (hG:w9.grownBy w10 (Value.slice tA ts.length tc).ownBlock) (hg4:w.heap.size≤g4) (k1:k≤m) (hs:0≤s∧s≤(T:Int)) (hp:pA'=if pc=k then pA else pA.map (·.add (k*2))) :
  BtX w (w10.setCell ⟨g4,1,none⟩ (.slice oA (ts.length+1) oc)) g4 num T (ts++[⟨s,pA,k,k,ps.take k⟩]) pA' (m - k) (pc - k) (ps.drop k):=by
 have hO9:=Vg hO h9;have hB9:=hB.next h9 hB.lt;have hB10:Bk w10 g4 107 [.int .i64 num,.slice tA ts.length tc]:=aCt hB9 hG (Vc hO9 hB9 (by decide));have b9:=h.bel.trans (h9.mono h.bel.size);have b10:nD w w10:=b9.grown hG b9.size (fun g e=>Xv hO9 e);have hf:(ts++[TxD.mk s pA k k (ps.take k)]).flatMap TxD.cells=ts.flatMap TxD.cells++[.int .i64 s,.slice pA k k]:=by rw[rX];rfl
 refine⟨b10.setCell (p:=⟨g4,1,none⟩) hg4 _,⟨_,hB10.set 1 _,?_⟩,fun t ht=>?_,h.rest.drop_ k1 hp,fun p hp'=>h.pg p (rS hp'),by have:=h.sm;omega,fun t ht=>?_,fun ad e=>?_⟩
 · rw[hf,show (ts++[(⟨s,pA,k,k,ps.take k⟩:TxD)]).length=ts.length+1 by simp];exact aFx hO10 hB10 (by decide) ((Kf.refl (fun b=>b=g4) w10).set hB10 (by decide) (.inl rfl) 1 _)
 · rcases rE.1 ht with q|q
   · exact h.tx t q
   · obtain rfl:=List.mem_singleton.1 q;exact⟨h.rest.take_ k1,hs,by show k≤1000;have:=h.sm;omega,fun p hp'=>h.pg p (rR hp')⟩
 · rcases rE.1 ht with q|q
   · exact h.ptx t q
   · obtain rfl:=List.mem_singleton.1 q;exact h.pr
 · rw[hp] at e;by_cases q:pc=k
   · rw[if_pos q] at e;exact h.pr ad e
   · rw[if_neg q] at e
     cases pA with
     | none=>cases e
     | some a =>
       injection e with e;subst e;show ∃cs fr,w.heap[(a.add (k*2)).block]? =some (.cells cs _ fr)
       rw[aAk];exact h.pr a rfl
structure TsG (B:Nat) (w:World) (A:Option Addr) (n c:Nat) (ts:List TxD):Prop where
 own:w.ownsRow B 196 2 (.slice A n c) n (ts.flatMap TxD.cells)
 len:ts.length=n
 y:∀t∈ts,Uh w t.A t.n t.c t.ps
 pt:∀t∈ts,PtB w t.A
theorem aKh {w:World} {b:Nat} {o:Obj} (h:w.heap[b]? =some o):b<w.heap.size:=by
 rcases tN b w.heap.size with r|r
 · exact r
 · rw[Array.getElem?_eq_none r] at h;cases h
theorem PtB.next {w w':World} {A:Option Addr} (h:PtB w A) (hb:nD w w'):PtB w' A:=fun ad e=>by
 obtain⟨cs,fr,hh⟩:=h ad e;exact⟨cs,fr,(hb.block _ (aKh hh)).trans hh⟩
theorem TsG.out {B:Nat} {w:World} {A:Option Addr} {n c:Nat} {ts:List TxD} (h:TsG B w A n c ts):Ki w A n c ts:=⟨h.len,Ve h.own,h.y,(Vv h.own).1,(Vv h.own).2⟩
theorem TsG.next {B:Nat} {w w':World} {A:Option Addr} {n c:Nat} {ts:List TxD} (h:TsG B w A n c ts) (hb:nD w w'):TsG B w' A n c ts:=⟨Vg h.own hb,h.len,fun t ht=>(h.y t ht).next hb,fun t ht=>(h.pt t ht).next hb⟩
theorem TsG.base {B B':Nat} {w:World} {A:Option Addr} {n c:Nat} {ts:List TxD} (h:TsG B w A n c ts) (hb:B'≤B):TsG B' w A n c ts:=⟨ownsRow_base_a h.own hb,h.len,h.y,h.pt⟩
theorem TsG.kf {B:Nat} {w w9:World} {A:Option Addr} {n c g t:Nat} {ts:List TxD} {cs:List Value} (h:TsG B w A n c ts) (hB:Bk w g t cs) (h1:196≠t) (h2:50≠t) (k:Kf (fun b=>b=g) w w9):TsG B w9 A n c ts:=by
 have hne:∀x∈ts,∀ad,x.A=some ad→ad.block≠g:=fun x hx ad e q=>by
  obtain⟨cs',fr,hh⟩:=h.pt x hx ad e;rw[q] at hh;exact absurd (aAp hh hB) h2
 exact⟨aFx h.own hB h1 k,h.len,fun x hx=>(h.y x hx).agn (G:=fun b=>b≠g) (k.ag (fun b q r=>q r)) (fun ad e _=>hne x hx ad e),fun x hx ad e=>by
  obtain⟨cs',fr,hh⟩:=h.pt x hx ad e;exact⟨cs',fr,k.keep _ _ hh (.inl (hne x hx ad e))⟩⟩
theorem bEm {a b:Int} (ha:0≤a∧a<256) (hb:0≤b∧b<256):bits .or .i64 a (b*256)=a+256*b:=by
 obtain⟨x,rfl⟩:=Int.eq_ofNat_of_zero_le ha.1;obtain⟨y,rfl⟩:=Int.eq_ofNat_of_zero_le hb.1;have h:=(bits_nat .i64 62 (by decide) (fun n h0 h1=>by rw[IntKind.wrap_i64];omega) x (y*256) (by omega) (by omega)).2;have e:=Nat.two_pow_add_eq_or_of_lt (i:=8) (show x<2 ^ 8 by omega) y;rw[show (((y:Nat):Int)*256)=((y*256:Nat):Int) by omega,h,Nat.or_comm,Nat.mul_comm y,show (256:Nat)=2 ^ 8 from rfl,←e];omega
theorem aJp {bs:List Int} {k:Nat} (hw:∀x∈bs,0≤x∧x<256) (n:Nat):0≤Um ((bs.drop k).take n):=(aCe (bs:=bs.drop k) (fun x hx=>hw x (rS hx)) n).1
theorem aGy {bs:List Int} (hw:∀x∈bs,0≤x∧x<256) {i n:Nat} (h:i≤n):0≤Uw bs i∧Uw bs i≤Uw bs n:=by
 have z:∀k,0≤Uw bs k:=fun k=>by
  induction k with
  | zero=>unfold Uw;exact(aCe (bs:=bs) hw 8).1
  | succ k ih=>unfold Uw;have:=aJp (k:=9+2*k) hw 2;omega
 refine⟨z i,?_⟩
 induction n with
 | zero=>obtain rfl:i=0:=by omega
         exact Int.le_refl _
 | succ n ih =>
   rcases tN i (n+1) with q|q
   · have h1:=ih (by omega);have h2:=aJp (k:=9+2*n) hw 2;show Uw bs i≤Uw bs n+_
     omega
   · obtain rfl:i=n+1:=by omega
     exact Int.le_refl _
theorem bHl {bs:List Int} {k:Nat} {a b:Int} (ha:bs[k]? =some a) (hb:bs[k+1]? =some b):Um ((bs.drop k).take 2)=a+256*b:=by
 obtain⟨l1,e1⟩:=rB.1 ha;obtain⟨l2,e2⟩:=rB.1 hb;rw[List.drop_eq_getElem_cons l1,List.take_succ_cons,List.drop_eq_getElem_cons l2,List.take_succ_cons,List.take_zero,e1,e2];simp[Um]
def aFq (bs:List Int) (ts:List TxD) (i:Nat):Prop:=ts.length=i∧∀j t,ts[j]? =some t→t.time=Uw bs (j+1)
theorem aFq.nil (bs:List Int):aFq bs [] 0:=⟨rfl,fun j t e=>by simp at e⟩
theorem aFq.push {bs:List Int} {ts:List TxD} {i:Nat} (h:aFq bs ts i) {x:TxD} (e:Uw bs (i+1)=x.time):aFq bs (ts++[x]) (i+1):=by
 refine⟨by rw[rH,h.1];rfl,fun j t q=>?_⟩;rcases tN j ts.length with r|r
 · rw[rO r] at q;exact h.2 j t q
 · rw[rP r] at q;rcases Nat.eq_or_lt_of_le r with r2|r2
   · rw[←r2,Nat.sub_self] at q;injection q with q;rw[←q,←e,←r2,h.1]
   · rw[List.getElem?_eq_none (by simp;omega)] at q;cases q
theorem aFq.up {bs:List Int} {ts:List TxD} {i:Nat} (h:aFq bs ts i) (hw:∀x∈bs,0≤x∧x<256) {t0:TxD} (h0:ts[0]? =some t0):∀t∈ts,t0.time≤t.time:=fun t ht=>by
 obtain⟨j,hj⟩:=List.getElem?_of_mem ht;rw[h.2 0 t0 h0,h.2 j t hj];exact(aGy hw (by omega)).2
theorem IsY.sub_ {w:World} {ad:Addr} {n c:Nat} {bs:List Int} (h:IsY w (some ad) n c bs) {i j:Nat} (hij:i≤j) (hj:j≤n) {A':Option Addr} (hA:A'=if c=i then some ad else some (ad.add i)):IsY w A' (j - i) (c - i) ((bs.drop i).take (j - i)):=by
 have h':=h.from_ (tK hij hj) hA;refine⟨⟨by rw[rJ,h'.b.len];omega,?_,fun x hx=>h'.b.wf x (rR hx),by have:=h'.b.cap;omega,h'.b.big⟩,fun ad' e hn=>h'.y ad' e (by omega)⟩;rw[List.map_take];exact h'.b.rd.take _
structure BtH (w:World) (T n:Nat) (bs:List Int) (sA kA:Option Addr) (sn sc kn kc g4:Nat):Prop where
 s:IsY w sA sn sc ((bs.drop 9).take (2*n))
 k:IsY w kA kn kc (bs.drop (9+2*n))
 sn:sn=2*n
 kn:kn=n
 wf:∀x∈bs,0≤x∧x<256
 len:bs.length=9+3*n
 tm:Uw bs n≤(T:Int)
 hT:T≤1000
 hn:n<256
 g4:w.heap.size≤g4
theorem aTr {w wr:World} {T n i sn sc kn kc g4:Nat} {bs:List Int} {sA kA:Option Addr} (H:BtH w T n bs sA kA sn sc kn kc g4) (hb:nD w wr) (hi:i<n) :
  ∃(ads adk:Addr) (x0 x1:Int) (k:Nat),sA=some ads∧kA=some adk∧(0≤x0∧x0<256)∧(0≤x1∧x1<256)∧k<256∧(∀w',nD wr w'→w'.cell? (ads.add (2*i))=some (.int .u8 x0)∧w'.cell? ⟨ads.block,ads.off+(2*i+1),none⟩=some (.int .u8 x1)∧w'.cell? (adk.add i)=some (.int .u8 (k:Int)))∧
   (∃z0 z1:Int,∀w',nD wr w'→w'.cell? ads=some (.int .u8 z0)∧w'.cell? ⟨ads.block,ads.off+1,none⟩=some (.int .u8 z1))∧Uw bs (i+1)=Uw bs i+(x0+256*x1):=by
 obtain⟨ads,rfl,-⟩:=H.s.b.rd.get (k:=0) (by rw[rU,H.s.b.len,H.sn];omega);obtain⟨adk,rfl,-⟩:=H.k.b.rd.get (k:=0) (by rw[rU,H.k.b.len,H.kn];omega);have hB:∀w',nD wr w'→nD w w':=fun w' q=>hb.trans (q.mono hb.size)
 obtain⟨x0,e0,r0,c0⟩:=aBt H.s.b (k:=2*i) (by rw[H.sn];omega);obtain⟨x1,e1,r1,c1⟩:=aBt H.s.b (k:=2*i+1) (by rw[H.sn];omega);obtain⟨y,e2,r2,c2⟩:=aBt H.k.b (k:=i) (by rw[H.kn];exact hi);obtain⟨z0,_,_,d0⟩:=aBt H.s.b (k:=0) (by rw[H.sn];omega);obtain⟨z1,_,_,d1⟩:=aBt H.s.b (k:=1) (by rw[H.sn];omega);obtain⟨k,rfl⟩:=Int.eq_ofNat_of_zero_le r2.1;refine⟨ads,adk,x0,x1,k,rfl,rfl,r0,r1,Int.ofNat_lt.1 r2.2,fun w' q=>⟨c0 w' (hB w' q),c1 w' (hB w' q),c2 w' (hB w' q)⟩,⟨z0,z1,fun w' q=>⟨d0 w' (hB w' q),d1 w' (hB w' q)⟩⟩,?_⟩;rw[List.getElem?_take,if_pos (by omega),List.getElem?_drop] at e0 e1;show Uw bs i+Um ((bs.drop (9+2*i)).take 2)=_
 rw[bHl e0 (by rw[show 9+2*i+1=9+(2*i+1) by omega];exact e1)]
def BTI (w:World) (g4 n sn sc kn kc:Nat) (num:Int) (T:Nat) (bs:List Int) (sA kA:Option Addr) (c0 c2 c3 c6 c7 c8 jK jL jM jN jO jP jQ jR jS jT jU jV jW jX jY jZ zB zC zD zE zF zG zH zI zJ zK Xr zM zN zO zP zQ zR zS zT zU zV zW zX zY zZ yB yC yE yF yG yH yI yJ yK yL yM yN yO jA jB jD jE jF jG jH jI jJ:Value) (a:Act) (wr:World):Prop :=
 ∃u1 vI vU pE gL gM gN gO gP gQ gR gT gU gV gW gX gY gZ fA fC fD fE fF fG fH fI fJ fK fL fM fN fO fP fQ fR xX xY xZ vB vC vD vE vF vG vH vJ vK vL vM vN vO vP vQ vR vT vV vW vX vY vZ pB pC pD:Value,(∃(i:Nat) (ts:List TxD) (pA:Option Addr) (m pc:Nat) (ps:List Vd),i≤n∧gL=.int .i64 (i:Int)∧vI=.int .i64 (Uw bs i)∧u1=.slice pA m pc∧aFq bs ts i∧BtX w wr g4 num T ts pA m pc ps)∧a=⟨#[c0,u1,c2,c3,.pointer (some ⟨g4,0,none⟩),.bool false,c6,c7,c8,.slice sA sn sc,.slice kA kn kc,vI,vU,pE,jK,jL,jM,jN,jO,jP,jQ,jR,jS,jT,jU,jV,jW,jX,jY,jZ,zB,zC,zD,zE,zF,zG,zH,zI,zJ,zK,Xr,zM,zN,zO,zP,zQ,zR,zS,zT,zU,zV,zW,zX,zY,zZ,yB,yC,yE,yF,yG,yH,yI,yJ,yK,yL,yM,yN,yO,.int .i64 (n:Int),gL,gM,gN,gO,gP,gQ,gR,gT,gU,gV,gW,gX,gY,gZ,fA,fC,fD,fE,fF,fG,fH,fI,fJ,fK,fL,fM,fN,fO,fP,fQ,fR,xX,xY,xZ,vB,vC,vD,vE,vF,vG,vH,vJ,vK,vL,vM,vN,vO,vP,vQ,vR,vT,vV,vW,vX,vY,vZ,pB,pC,pD,jA,jB,jD,jE,jF,jG,jH,jI,jJ],[]⟩
theorem BTI.mk {w wr:World} {g4 n sn sc kn kc:Nat} {num:Int} {T:Nat} {bs:List Int} {sA kA:Option Addr} {c0 c2 c3 c6 c7 c8 jK jL jM jN jO jP jQ jR jS jT jU jV jW jX jY jZ zB zC zD zE zF zG zH zI zJ zK Xr zM zN zO zP zQ zR zS zT zU zV zW zX zY zZ yB yC yE yF yG yH yI yJ yK yL yM yN yO jA jB jD jE jF jG jH jI jJ:Value} {u1 vI vU pE gL gM gN gO gP gQ gR gT gU gV gW gX gY gZ fA fC fD fE fF fG fH fI fJ fK fL fM fN fO fP fQ fR xX xY xZ vB vC vD vE vF vG vH vJ vK vL vM vN vO vP vQ vR vT vV vW vX vY vZ pB pC pD:Value} (h:∃(i:Nat) (ts:List TxD) (pA:Option Addr) (m pc:Nat) (ps:List Vd),i≤n∧gL=.int .i64 (i:Int)∧vI=.int .i64 (Uw bs i)∧u1=.slice pA m pc∧aFq bs ts i∧BtX w wr g4 num T ts pA m pc ps):BTI w g4 n sn sc kn kc num T bs sA kA c0 c2 c3 c6 c7 c8 jK jL jM jN jO jP jQ jR jS jT jU jV jW jX jY jZ zB zC zD zE zF zG zH zI zJ zK Xr zM zN zO zP zQ zR zS zT zU zV zW zX zY zZ yB yC yE yF yG yH yI yJ yK yL yM yN yO jA jB jD jE jF jG jH jI jJ ⟨#[c0,u1,c2,c3,.pointer (some ⟨g4,0,none⟩),.bool false,c6,c7,c8,.slice sA sn sc,.slice kA kn kc,vI,vU,pE,jK,jL,jM,jN,jO,jP,jQ,jR,jS,jT,jU,jV,jW,jX,jY,jZ,zB,zC,zD,zE,zF,zG,zH,zI,zJ,zK,Xr,zM,zN,zO,zP,zQ,zR,zS,zT,zU,zV,zW,zX,zY,zZ,yB,yC,yE,yF,yG,yH,yI,yJ,yK,yL,yM,yN,yO,.int .i64 (n:Int),gL,gM,gN,gO,gP,gQ,gR,gT,gU,gV,gW,gX,gY,gZ,fA,fC,fD,fE,fF,fG,fH,fI,fJ,fK,fL,fM,fN,fO,fP,fQ,fR,xX,xY,xZ,vB,vC,vD,vE,vF,vG,vH,vJ,vK,vL,vM,vN,vO,vP,vQ,vR,vT,vV,vW,vX,vY,vZ,pB,pC,pD,jA,jB,jD,jE,jF,jG,jH,jI,jJ],[]⟩ wr:=⟨u1,vI,vU,pE,gL,gM,gN,gO,gP,gQ,gR,gT,gU,gV,gW,gX,gY,gZ,fA,fC,fD,fE,fF,fG,fH,fI,fJ,fK,fL,fM,fN,fO,fP,fQ,fR,xX,xY,xZ,vB,vC,vD,vE,vF,vG,vH,vJ,vK,vL,vM,vN,vO,vP,vQ,vR,vT,vV,vW,vX,vY,vZ,pB,pC,pD,h,rfl⟩
def aXv (n:Nat) (a:Act) (_:World):Nat:=n - (intOf (a.tmps.getD 69 undef)).toNat
theorem aGp {g4 n sn sc kn kc m pc:Nat} {sA kA pA:Option Addr} {tm:Int} {w:World} {x:Int} {c0 c2 c3 c6 c7 c8 jK jL jM jN jO jP jQ jR jS jT jU jV jW jX jY jZ zB zC zD zE zF zG zH zI zJ zK Xr zM zN zO zP zQ zR zS zT zU zV zW zX zY zZ yB yC yE yF yG yH yI yJ yK yL yM yN yO jA jB jD jE jF jG jH jI jJ vU pE gM gN gO gP gQ gR gT gU gV gW gX gY gZ fA fC fD fE fF fG fH fI fJ fK fL fM fN fO fP fQ fR xX xY xZ vB vC vD vE vF vG vH vJ vK vL vM vN vO vP vQ vR vT vV vW vX vY vZ pB pC pD:Value}:aXv n ⟨#[c0,.slice pA m pc,c2,c3,.pointer (some ⟨g4,0,none⟩),.bool false,c6,c7,c8,.slice sA sn sc,.slice kA kn kc,.int .i64 tm,vU,pE,jK,jL,jM,jN,jO,jP,jQ,jR,jS,jT,jU,jV,jW,jX,jY,jZ,zB,zC,zD,zE,zF,zG,zH,zI,zJ,zK,Xr,zM,zN,zO,zP,zQ,zR,zS,zT,zU,zV,zW,zX,zY,zZ,yB,yC,yE,yF,yG,yH,yI,yJ,yK,yL,yM,yN,yO,.int .i64 (n:Int),.int .i64 x,gM,gN,gO,gP,gQ,gR,gT,gU,gV,gW,gX,gY,gZ,fA,fC,fD,fE,fF,fG,fH,fI,fJ,fK,fL,fM,fN,fO,fP,fQ,fR,xX,xY,xZ,vB,vC,vD,vE,vF,vG,vH,vJ,vK,vL,vM,vN,vO,vP,vQ,vR,vT,vV,vW,vX,vY,vZ,pB,pC,pD,jA,jB,jD,jE,jF,jG,jH,jI,jJ],[]⟩ w=n - x.toNat:=rfl
theorem bGe {i n sn:Nat} (h:i<n) (hn:n<256) (hs:sn=2*n):(i:Int)<(n:Int)∧(0:Int)≤(i:Int)∧wrap64 ((i:Int)+1)=(i:Int)+1∧wrap64 (2*(i:Int))=2*(i:Int)∧wrap64 (2*(i:Int)+1)=2*(i:Int)+1∧IntKind.i64.wrap (2*(i:Int))=2*(i:Int)∧IntKind.i64.wrap (2*(i:Int)+1)=2*(i:Int)+1∧(0:Int)≤2*(i:Int)∧2*(i:Int)<(sn:Int)∧(0:Int)≤2*(i:Int)+1∧2*(i:Int)+1<(sn:Int)∧(2*(i:Int)).toNat=2*i∧(2*(i:Int)+1).toNat=2*i+1∧(0:Int)<(sn:Int)∧(1:Int)<(sn:Int) :=
 ⟨by omega,by omega,by unfold wrap64;omega,by unfold wrap64;omega,by unfold wrap64;omega,IntWalk.i64_in _ (by omega),IntWalk.i64_in _ (by omega),by omega,by omega,by omega,by omega,by omega,by omega,by omega,by omega⟩
theorem bGf {x0 x1 tm s:Int} (h0:0≤x0∧x0<256) (h1:0≤x1∧x1<256) (ht:0≤tm) (hs:tm+(x0+256*x1)=s) (hs2:s≤1000):IntKind.i64.wrap x0=x0∧IntKind.i64.wrap x1=x1∧IntKind.i64.wrap (x1*256)=x1*256∧wrap64 (x1*256)=x1*256∧wrap64 (tm+(x0+256*x1))=s∧IntKind.i64.wrap (tm+(x0+256*x1))=s :=
 ⟨IntWalk.i64_in _ (by omega),IntWalk.i64_in _ (by omega),IntWalk.i64_in _ (by omega),by unfold wrap64;omega,by unfold wrap64;omega,(IntWalk.i64_in _ (by omega)).trans hs⟩
theorem bHs {k:Nat} (h:k<256):wrap64 (k:Int)=(k:Int)∧IntKind.i64.wrap (k:Int)=(k:Int):=⟨by unfold wrap64;omega,IntWalk.i64_in _ (by omega)⟩
theorem aTs (w wr:World) (g4 n sn sc kn kc:Nat) (num:Int) (T:Nat) (bs:List Int) (sA kA:Option Addr) (i:Nat) (tm:Int) (ts:List TxD) (pA:Option Addr) (m pc:Nat) (ps:List Vd) (c0 c2 c3 c6 c7 c8 jK jL jM jN jO jP jQ jR jS jT jU jV jW jX jY jZ zB zC zD zE zF zG zH zI zJ zK Xr zM zN zO zP zQ zR zS zT zU zV zW zX zY zZ yB yC yE yF yG yH yI yJ yK yL yM yN yO jA jB jD jE jF jG jH jI jJ vU pE gM gN gO gP gQ gR gT gU gV gW gX gY gZ fA fC fD fE fF fG fH fI fJ fK fL fM fN fO fP fQ fR xX xY xZ vB vC vD vE vF vG vH vJ vK vL vM vN vO vP vQ vR vT vV vW vX vY vZ pB pC pD:Value) (Q0:Exit→Act→World→Prop) (hpan:∀c a d v w,Q0 (.panic c) (Act.put a d v) w→Q0 (.panic c) a w)
  (hret:∀(u1 vI vU pE gL gM gN gO gP gQ gR gT gU gV gW gX gY gZ fA fC fD fE fF fG fH fI fJ fK fL fM fN fO fP fQ fR xX xY xZ vB vC vD vE vF vG vH vJ vK vL vM vN vO vP vQ vR vT vV vW vX vY vZ pB pC pD:Value) (w':World) (nm:Int) (tA:Option Addr) (tn tc:Nat),Bk w' g4 107 [.int .i64 nm,.slice tA tn tc]→nD w w'→Q0 .ret ⟨#[c0,u1,c2,c3,.pointer (some ⟨g4,0,none⟩),.bool false,c6,c7,c8,.slice sA sn sc,.slice kA kn kc,vI,vU,pE,jK,jL,jM,jN,jO,jP,jQ,jR,jS,jT,jU,jV,jW,jX,jY,jZ,zB,zC,zD,zE,zF,zG,zH,zI,zJ,zK,Xr,zM,zN,zO,zP,zQ,zR,zS,zT,zU,zV,zW,zX,zY,zZ,yB,yC,yE,yF,yG,yH,yI,yJ,yK,yL,yM,yN,yO,.int .i64 (n:Int),gL,gM,gN,gO,gP,gQ,gR,gT,gU,gV,gW,gX,gY,gZ,fA,fC,fD,fE,fF,fG,fH,fI,fJ,fK,fL,fM,fN,fO,fP,fQ,fR,xX,xY,xZ,vB,vC,vD,vE,vF,vG,vH,vJ,vK,vL,vM,vN,vO,vP,vQ,vR,vT,vV,vW,vX,vY,vZ,pB,pC,pD,jA,jB,jD,jE,jF,jG,jH,jI,jJ],[]⟩ w')
  (H:BtH w T n bs sA kA sn sc kn kc g4) (hX:BtX w wr g4 num T ts pA m pc ps) (hts:aFq bs ts i) (htm:tm=Uw bs i) (hlt:i<n) :
  Code.wp prog (Ur f201) (Exit.then (fun a' w''=>BTI w g4 n sn sc kn kc num T bs sA kA c0 c2 c3 c6 c7 c8 jK jL jM jN jO jP jQ jR jS jT jU jV jW jX jY jZ zB zC zD zE zF zG zH zI zJ zK Xr zM zN zO zP zQ zR zS zT zU zV zW zX zY zZ yB yC yE yF yG yH yI yJ yK yL yM yN yO jA jB jD jE jF jG jH jI jJ a' w''∧aXv n a' w'' <aXv n ⟨#[c0,.slice pA m pc,c2,c3,.pointer (some ⟨g4,0,none⟩),.bool false,c6,c7,c8,.slice sA sn sc,.slice kA kn kc,.int .i64 tm,vU,pE,jK,jL,jM,jN,jO,jP,jQ,jR,jS,jT,jU,jV,jW,jX,jY,jZ,zB,zC,zD,zE,zF,zG,zH,zI,zJ,zK,Xr,zM,zN,zO,zP,zQ,zR,zS,zT,zU,zV,zW,zX,zY,zZ,yB,yC,yE,yF,yG,yH,yI,yJ,yK,yL,yM,yN,yO,.int .i64 (n:Int),.int .i64 (i:Int),gM,gN,gO,gP,gQ,gR,gT,gU,gV,gW,gX,gY,gZ,fA,fC,fD,fE,fF,fG,fH,fI,fJ,fK,fL,fM,fN,fO,fP,fQ,fR,xX,xY,xZ,vB,vC,vD,vE,vF,vG,vH,vJ,vK,vL,vM,vN,vO,vP,vQ,vR,vT,vV,vW,vX,vY,vZ,pB,pC,pD,jA,jB,jD,jE,jF,jG,jH,jI,jJ],[]⟩ wr) Q0) ⟨#[c0,.slice pA m pc,c2,c3,.pointer (some ⟨g4,0,none⟩),.bool false,c6,c7,c8,.slice sA sn sc,.slice kA kn kc,.int .i64 tm,vU,pE,jK,jL,jM,jN,jO,jP,jQ,jR,jS,jT,jU,jV,jW,jX,jY,jZ,zB,zC,zD,zE,zF,zG,zH,zI,zJ,zK,Xr,zM,zN,zO,zP,zQ,zR,zS,zT,zU,zV,zW,zX,zY,zZ,yB,yC,yE,yF,yG,yH,yI,yJ,yK,yL,yM,yN,yO,.int .i64 (n:Int),.int .i64 (i:Int),gM,gN,gO,gP,gQ,gR,gT,gU,gV,gW,gX,gY,gZ,fA,fC,fD,fE,fF,fG,fH,fI,fJ,fK,fL,fM,fN,fO,fP,fQ,fR,xX,xY,xZ,vB,vC,vD,vE,vF,vG,vH,vJ,vK,vL,vM,vN,vO,vP,vQ,vR,vT,vV,vW,vX,vY,vZ,pB,pC,pD,jA,jB,jD,jE,jF,jG,jH,jI,jJ],[]⟩ wr:=by
 obtain⟨ads,adk,x0,x1,k,rfl,rfl,hx0,hx1,hk,hcell,⟨z0,z1,hz⟩,hst⟩:=aTr H hX.bel hlt;obtain⟨n1,n2,m2,a1,a2,a3,a4,a5,a6,a7,a8,a9,a10,a11,a12⟩:=bGe hlt H.hn H.sn;have hle:=aGy H.wf (show i+1≤n from hlt);obtain⟨s,hs⟩:=nC (Uw bs (i+1));rw[hs] at hle hst;have ht0:=(aGy H.wf (show i≤n from tU hlt)).1;rw[←htm] at hst ht0;obtain⟨b1,b2,b3,b4,b5,b6⟩:=bGf hx0 hx1 ht0 hst.symm (by have:=H.tm;have:=H.hT;omega);have hor:=bEm hx0 hx1;obtain⟨w1,w2⟩:=bHs hk;have a11n:0<sn:=Int.ofNat_lt.1 a11;have a12n:1<sn:=Int.ofNat_lt.1 a12;have kc0:=hX.rest.cap;obtain⟨xi,xz,hxi,hxz,hx5,hx56,hxc⟩:=aVb;have a13:(i:Int)<(kn:Int):=by rw[H.kn];exact n1
 obtain⟨tv,hB,hO⟩:=hX.bx;obtain⟨tA,tc,rfl⟩:=Xs hO;obtain⟨g0,g1⟩:=hB.c2;have f0:=hB.free 0;have f1:=hB.free 1;have HNO:=nF ((hB.set 0 (.int .i64 num)).set 1 (.slice tA ts.length tc)) ((hX.bel.setCell (p:=⟨g4,0,none⟩) H.g4 (.int .i64 num)).setCell (p:=⟨g4,1,none⟩) H.g4 (.slice tA ts.length tc));have HG:=nF hB hO;clear hB hO;obtain⟨c0,c1,ck⟩:=hcell wr nB;obtain⟨d0,d1⟩:=hz wr nB;have HX:=nI hX hts hlt H;have HT:=nH hs hle hk;have HL:=hid (show ts.length+1≤1000000000∧(ts.length+1)*32≤1000000000000 by have:=H.hn;have:=hts.1;omega);have HS:=hid (show 0≤s∧s≤(T:Int) from⟨hle.1,Int.le_trans hle.2 H.tm⟩);have KK:=hid hcell;have KZ:=hid hz;clear hX hts htm hlt H hs hle hst ht0 hx0 hx1 hk hcell hz;conv=>arg 2;whnf
 go_wp2_with fail
 have Kq:=KK;refine wp_region_held_drew (S:=fun w'=>nD wr w') (by kernel_rfl) (Xu nB) (fun nE=>?_);refine kF 0 ?_;refine kF 1 ?_;refine kF 2 ?_;refine kF 3 ?_;refine kF 4 ?_;refine kF 5 ?_;refine kF 6 ?_;refine kF 7 ?_;refine kF 8 ?_;refine kF 9 ?_;refine kF 10 ?_;refine kF 11 ?_;refine kF 12 ?_;refine kF 13 ?_;refine kF 14 ?_;refine kF 15 ?_;refine kF 16 ?_;refine kF 17 ?_;refine wpAnyH_done (by kernel_rfl) ?_ _;clear Kq;go_wp2_with fail
 by_cases q0:m<k
 · have t0:decide ((m:Int)<(k:Int))=true:=rZ (Int.ofNat_lt.2 q0);have t0':(m:Int)<(k:Int):=Int.ofNat_lt.2 q0;have Kq:=KK;refine wp_region_held_drew (S:=fun w'=>nD wr w') (by kernel_rfl) (Xu (Xu nB)) (fun nE=>?_);refine kF 0 ?_;refine kF 1 ?_;refine kF 2 ?_;refine kF 3 ?_;refine kF 4 ?_;refine kS 5 ?_;refine kS 6 ?_;refine kS 7 ?_;refine kS 8 ?_;refine kS 9 ?_;refine kS 10 ?_;refine kS 11 ?_;refine kS 12 ?_;refine kS 13 ?_;refine kS 14 ?_;refine kS 15 ?_;refine kS 16 ?_;refine kF 17 ?_;refine wpAnyH_done (by kernel_rfl) ?_ _;clear Kq;clear KK;go_wp2_with fail
   exact hret _ _ _ _ _ _ _ _ _ _ _ _ _ _ _ _ _ _ _ _ _ _ _ _ _ _ _ _ _ _ _ _ _ _ _ _ _ _ _ _ _ _ _ _ _ _ _ _ _ _ _ _ _ _ _ _ _ _ _ _ _ _ _ _ num tA ts.length tc (HNO.o.1.drew.drew) (HNO.o.2.drew.drew)
 have t0:decide ((m:Int)<(k:Int))=false:=rY (fun q=>q0 (Int.ofNat_lt.1 q));have t0':¬(m:Int)<(k:Int):=fun q=>q0 (Int.ofNat_lt.1 q)
 have k1:k≤m:=Nat.le_of_not_lt q0;have k2:k≤pc:=tK k1 kc0;have k3:(k:Int)≤(pc:Int):=Int.ofNat_le.2 k2;have k4:(k:Int)≤(m:Int):=Int.ofNat_le.2 k1;by_cases q1:i=0
 · have t1:((i:Int)==0)=true:=beq_iff_eq.2 (by omega);by_cases q2:(bits .or .u8 z0 z1 !=0)=true
   · have q2':(bits .or .u8 z0 z1==0)=false:=by simpa using q2
     have Kq:=KZ;refine wp_region_held_drew (S:=fun w'=>nD wr w') (by kernel_rfl) (Xu (Xu nB)) (fun nE=>?_);refine kF 0 ?_;refine kF 1 ?_;refine kF 2 ?_;refine kF 3 ?_;refine kF 4 ?_;refine kF 5 ?_;refine kF 6 ?_;refine kF 7 ?_;refine kF 8 ?_;refine kF 9 ?_;refine kF 10 ?_;refine kF 11 ?_;refine kF 12 ?_;refine kF 13 ?_;refine kF 14 ?_;refine kF 15 ?_;refine kF 16 ?_;refine kF 17 ?_;refine wpAnyH_done (by kernel_rfl) ?_ _;clear Kq;clear KK;go_wp2_with fail
     exact hret _ _ _ _ _ _ _ _ _ _ _ _ _ _ _ _ _ _ _ _ _ _ _ _ _ _ _ _ _ _ _ _ _ _ _ _ _ _ _ _ _ _ _ _ _ _ _ _ _ _ _ _ _ _ _ _ _ _ _ _ _ _ _ _ num tA ts.length tc (HNO.o.1.drew.drew) (HNO.o.2.drew.drew)
   have q3:(bits .or .u8 z0 z1 !=0)=false:=by simpa using q2
   have q3':(bits .or .u8 z0 z1==0)=true:=by simpa using q2
   have Kq:=KZ;refine wp_region_held_drew (S:=fun w'=>nD wr w') (by kernel_rfl) (Xu (Xu nB)) (fun nE=>?_);refine kF 0 ?_;refine kF 1 ?_;refine kF 2 ?_;refine kF 3 ?_;refine kF 4 ?_;refine kF 5 ?_;refine kF 6 ?_;refine kF 7 ?_;refine kF 8 ?_;refine kF 9 ?_;refine kF 10 ?_;refine kF 11 ?_;refine kF 12 ?_;refine kF 13 ?_;refine kF 14 ?_;refine kF 15 ?_;refine kF 16 ?_;refine kF 17 ?_;refine wpAnyH_done (by kernel_rfl) ?_ _;clear Kq;have KG:=hid (fun (w':World) (hS:nD wr w')=>(HG.o.1.next hS HG.o.1.lt).c2);clear g0 g1 KK KZ c0 c1 ck d0 d1;go_wp2_with fail
   have Kq:=KG;refine Vn (fun w'=>nD wr w') [9,11] (by kernel_rfl) (Xu (Xu (Xu nB))) (fun nE=>?_);refine kR 0 ?_;refine kR 2 ?_;refine kR 3 ?_;refine kR 4 ?_;refine kR 5 ?_;refine kM 1 ?_;refine kR 6 ?_;refine kR 7 ?_;refine rM 8 (fun K hK=>?_);go_simp;refine hK.out _ _ (fun _ _=>nE.alloc nE.size (.cells #[.int .i64 s,.slice pA k k] 196)) ?_;clear hK K nE;have nE:=nE.alloc nE.size (.cells #[.int .i64 s,.slice pA k k] 196);try simp only[Act.put,tC,tD,tE]
   refine rM 9 (fun K hK=>?_);obtain⟨w9,hw9⟩:=nC ((wr.alloc (.cells #[.int .i64 s,.slice pA k k] 196)).drew.drew.drew);have hk9:Bk w9 wr.heap.size 196 [.int .i64 s,.slice pA k k]:=by rw[←hw9];exact(Bk.new wr _ _).drew.drew.drew
   have hb9:nD wr w9:=by rw[←hw9];exact Xu (Xu (Xu (nB.alloc lR _)))
   try rw[hw9]
   refine aAf rfl (aAw w9 _ _ 105 rfl w.heap.size 196 xi xz 2 32 underlying105 hxi hxz hx5 hx56 hxc (by decide) (.slice tA ts.length tc) ts.length (ts.flatMap TxD.cells) (by rfl) (Vg HG.o.2 hb9) w9.heap.size (some ⟨wr.heap.size,0,none⟩) 1 1 [.int .i64 s,.slice pA k k] (by rfl) rfl hk9.rd (by intro u hu;simp at hu;rcases hu with rfl|rfl<;>rfl) HL.o.1 HL.o.2 (HX.o.1.bel.trans (hb9.mono HX.o.1.bel.size)).size ?_);intro fS w10 hO10 hG10 hv10;obtain⟨oA,oc,rfl⟩:=Xs hO10;have HP:=hid (HX.o.1.push (pA':=if pc=k then pA else pA.map (·.add (k*2))) HG.o.1 HG.o.2 hb9 hO10 hG10 HX.o.2.2.2.g4 k1 HS.o rfl);have hB10:Bk w10 g4 107 [.int .i64 num,.slice tA ts.length tc]:=aCt (HG.o.1.next hb9 HG.o.1.lt) hG10 (Vc (Vg HG.o.2 hb9) (HG.o.1.next hb9 HG.o.1.lt) (by decide));obtain⟨_,z10⟩:=hB10.c2;have f10:=hB10.free 1;clear hO10 hG10 hv10 hb9 hk9 hB10;refine hK.out _ _ (fun h=>absurd (by decide) h) ?_;clear hK K;try simp only[Act.put,tC,tD,tE]
   refine kR 10 ?_;refine rM 11 (fun K hK=>?_);go_simp;refine hK.out _ _ (fun h=>absurd (by decide) h) ?_;clear hK K;try simp only[Act.put,tC,tD,tE]
   refine Vs (by kernel_rfl) ?_ _;clear Kq;go_wp2_with fail
   all_goals
    refine⟨?_,?_⟩
    · refine BTI.mk ?_;first
      | exact⟨i+1,ts++[⟨s,pA,k,k,ps.take k⟩],_,m - k,pc - k,ps.drop k,HX.o.2.2.1,Va (by first|rfl|exact m2|(rw[q1];rfl)),congrArg (Value.int .i64) HT.o.1.symm,rfl,HX.o.2.1.push HT.o.1,by have q:=HP.o;rw[if_neg h] at q;exact q⟩
      | exact⟨i+1,ts++[⟨s,pA,k,k,ps.take k⟩],_,m - k,0,ps.drop k,HX.o.2.2.1,Va (by first|rfl|exact m2|(rw[q1];rfl)),congrArg (Value.int .i64) HT.o.1.symm,rfl,HX.o.2.1.push HT.o.1,by have q:=HP.o;rw[if_pos h,show pc - k=0 by rw[h];exact Nat.sub_self k] at q;exact q⟩
    · rw[aGp,aGp];first
      | exact Xw HX.o.2.2.1 (by first|rfl|exact m2)
      | exact(show n - 1<n - 0 from Nat.sub_lt (by have q:=HX.o.2.2.1;rw[q1] at q;exact q) Nat.one_pos)
 have t1:((i:Int)==0)=false:=by simpa using q1
 have Kq:=KZ;refine wp_region_held_drew (S:=fun w'=>nD wr w') (by kernel_rfl) (Xu (Xu nB)) (fun nE=>?_);refine kF 0 ?_;refine kF 1 ?_;refine kF 2 ?_;refine kF 3 ?_;refine kF 4 ?_;refine kF 5 ?_;refine kF 6 ?_;refine kF 7 ?_;refine kS 8 ?_;refine kS 9 ?_;refine kS 10 ?_;refine kS 11 ?_;refine kS 12 ?_;refine kS 13 ?_;refine kS 14 ?_;refine kS 15 ?_;refine kF 16 ?_;refine kF 17 ?_;refine wpAnyH_done (by kernel_rfl) ?_ _;clear Kq;have KG:=hid (fun (w':World) (hS:nD wr w')=>(HG.o.1.next hS HG.o.1.lt).c2);clear g0 g1 KK KZ c0 c1 ck d0 d1;go_wp2_with fail
 have Kq:=KG;refine Vn (fun w'=>nD wr w') [9,11] (by kernel_rfl) (Xu (Xu (Xu nB))) (fun nE=>?_);refine kR 0 ?_;refine kR 2 ?_;refine kR 3 ?_;refine kR 4 ?_;refine kR 5 ?_;refine kM 1 ?_;refine kR 6 ?_;refine kR 7 ?_;refine rM 8 (fun K hK=>?_);go_simp;refine hK.out _ _ (fun _ _=>nE.alloc nE.size (.cells #[.int .i64 s,.slice pA k k] 196)) ?_;clear hK K nE;have nE:=nE.alloc nE.size (.cells #[.int .i64 s,.slice pA k k] 196);try simp only[Act.put,tC,tD,tE]
 refine rM 9 (fun K hK=>?_);obtain⟨w9,hw9⟩:=nC ((wr.alloc (.cells #[.int .i64 s,.slice pA k k] 196)).drew.drew.drew);have hk9:Bk w9 wr.heap.size 196 [.int .i64 s,.slice pA k k]:=by rw[←hw9];exact(Bk.new wr _ _).drew.drew.drew
 have hb9:nD wr w9:=by rw[←hw9];exact Xu (Xu (Xu (nB.alloc lR _)))
 try rw[hw9]
 refine aAf rfl (aAw w9 _ _ 105 rfl w.heap.size 196 xi xz 2 32 underlying105 hxi hxz hx5 hx56 hxc (by decide) (.slice tA ts.length tc) ts.length (ts.flatMap TxD.cells) (by rfl) (Vg HG.o.2 hb9) w9.heap.size (some ⟨wr.heap.size,0,none⟩) 1 1 [.int .i64 s,.slice pA k k] (by rfl) rfl hk9.rd (by intro u hu;simp at hu;rcases hu with rfl|rfl<;>rfl) HL.o.1 HL.o.2 (HX.o.1.bel.trans (hb9.mono HX.o.1.bel.size)).size ?_);intro fS w10 hO10 hG10 hv10;obtain⟨oA,oc,rfl⟩:=Xs hO10;have HP:=hid (HX.o.1.push (pA':=if pc=k then pA else pA.map (·.add (k*2))) HG.o.1 HG.o.2 hb9 hO10 hG10 HX.o.2.2.2.g4 k1 HS.o rfl);have hB10:Bk w10 g4 107 [.int .i64 num,.slice tA ts.length tc]:=aCt (HG.o.1.next hb9 HG.o.1.lt) hG10 (Vc (Vg HG.o.2 hb9) (HG.o.1.next hb9 HG.o.1.lt) (by decide));obtain⟨_,z10⟩:=hB10.c2;have f10:=hB10.free 1;clear hO10 hG10 hv10 hb9 hk9 hB10;refine hK.out _ _ (fun h=>absurd (by decide) h) ?_;clear hK K;try simp only[Act.put,tC,tD,tE]
 refine kR 10 ?_;refine rM 11 (fun K hK=>?_);go_simp;refine hK.out _ _ (fun h=>absurd (by decide) h) ?_;clear hK K;try simp only[Act.put,tC,tD,tE]
 refine Vs (by kernel_rfl) ?_ _;clear Kq;go_wp2_with fail
 all_goals
  refine⟨?_,?_⟩
  · refine BTI.mk ?_;first
    | exact⟨i+1,ts++[⟨s,pA,k,k,ps.take k⟩],_,m - k,pc - k,ps.drop k,HX.o.2.2.1,Va (by first|rfl|exact m2|(rw[q1];rfl)),congrArg (Value.int .i64) HT.o.1.symm,rfl,HX.o.2.1.push HT.o.1,by have q:=HP.o;rw[if_neg h] at q;exact q⟩
    | exact⟨i+1,ts++[⟨s,pA,k,k,ps.take k⟩],_,m - k,0,ps.drop k,HX.o.2.2.1,Va (by first|rfl|exact m2|(rw[q1];rfl)),congrArg (Value.int .i64) HT.o.1.symm,rfl,HX.o.2.1.push HT.o.1,by have q:=HP.o;rw[if_pos h,show pc - k=0 by rw[h];exact Nat.sub_self k] at q;exact q⟩
  · rw[aGp,aGp];first
    | exact Xw HX.o.2.2.1 (by first|rfl|exact m2)
    | exact(show n - 1<n - 0 from Nat.sub_lt (by have q:=HX.o.2.2.1;rw[q1] at q;exact q) Nat.one_pos)
theorem bCp (n k g4 sn sc kn kc m pc:Nat) (tm:Int) (sA kA pA:Option Addr) (w'':World) (c0 c2 c3 c6 c7 c8 jK jL jM jN jO jP jQ jR jS jT jU jV jW jX jY jZ zB zC zD zE zF zG zH zI zJ zK Xr zM zN zO zP zQ zR zS zT zU zV zW zX zY zZ yB yC yE yF yG yH yI yJ yK yL yM yN yO jA jB jD jE jF jG jH jI jJ vU pE gM gN gO gP gQ gR gT gU gV gW gX gY gZ fA fC fD fE fF fG fH fI fJ fK fL fM fN fO fP fQ fR xX xY xZ vB vC vD vE vF vG vH vJ vK vL vM vN vO vP vQ vR vT vV vW vX vY vZ pB pC pD:Value) (Q:Exit→Act→World→Prop) (hk:k=n) (h:∀vI vU pE gL gM gN gO gP gQ gR gT gU gV gW gX gY gZ fA fC fD fE fF fG fH fI fJ fK fL fM fN fO fP fQ fR xX xY xZ vB vC vD vE vF vG vH vJ vK vL vM vN vO vP vQ vR vT vV vW vX vY vZ pB pC pD:Value,Q (.exit 0) ⟨#[c0,.slice pA m pc,c2,c3,.pointer (some ⟨g4,0,none⟩),.bool false,c6,c7,c8,.slice sA sn sc,.slice kA kn kc,vI,vU,pE,jK,jL,jM,jN,jO,jP,jQ,jR,jS,jT,jU,jV,jW,jX,jY,jZ,zB,zC,zD,zE,zF,zG,zH,zI,zJ,zK,Xr,zM,zN,zO,zP,zQ,zR,zS,zT,zU,zV,zW,zX,zY,zZ,yB,yC,yE,yF,yG,yH,yI,yJ,yK,yL,yM,yN,yO,.int .i64 (n:Int),gL,gM,gN,gO,gP,gQ,gR,gT,gU,gV,gW,gX,gY,gZ,fA,fC,fD,fE,fF,fG,fH,fI,fJ,fK,fL,fM,fN,fO,fP,fQ,fR,xX,xY,xZ,vB,vC,vD,vE,vF,vG,vH,vJ,vK,vL,vM,vN,vO,vP,vQ,vR,vT,vV,vW,vX,vY,vZ,pB,pC,pD,jA,jB,jD,jE,jF,jG,jH,jI,jJ],[]⟩ w'') :
  Code.wp prog (Ur f201) Q ⟨#[c0,.slice pA m pc,c2,c3,.pointer (some ⟨g4,0,none⟩),.bool false,c6,c7,c8,.slice sA sn sc,.slice kA kn kc,.int .i64 tm,vU,pE,jK,jL,jM,jN,jO,jP,jQ,jR,jS,jT,jU,jV,jW,jX,jY,jZ,zB,zC,zD,zE,zF,zG,zH,zI,zJ,zK,Xr,zM,zN,zO,zP,zQ,zR,zS,zT,zU,zV,zW,zX,zY,zZ,yB,yC,yE,yF,yG,yH,yI,yJ,yK,yL,yM,yN,yO,.int .i64 (n:Int),.int .i64 (k:Int),gM,gN,gO,gP,gQ,gR,gT,gU,gV,gW,gX,gY,gZ,fA,fC,fD,fE,fF,fG,fH,fI,fJ,fK,fL,fM,fN,fO,fP,fQ,fR,xX,xY,xZ,vB,vC,vD,vE,vF,vG,vH,vJ,vK,vL,vM,vN,vO,vP,vQ,vR,vT,vV,vW,vX,vY,vZ,pB,pC,pD,jA,jB,jD,jE,jF,jG,jH,jI,jJ],[]⟩ w'':=by
 subst hk;have n0:¬(k:Int)<(k:Int):=fun q=>absurd q (Int.lt_irrefl _)
 conv=>arg 2;whnf
 go_wp2_with fail
 exact h _ _ _ _ _ _ _ _ _ _ _ _ _ _ _ _ _ _ _ _ _ _ _ _ _ _ _ _ _ _ _ _ _ _ _ _ _ _ _ _ _ _ _ _ _ _ _ _ _ _ _ _ _ _ _ _ _ _ _ _ _ _
theorem aXt (w wr:World) (g4 n sn sc kn kc:Nat) (num:Int) (T:Nat) (bs:List Int) (sA kA:Option Addr) (c0 c2 c3 c6 c7 c8 jK jL jM jN jO jP jQ jR jS jT jU jV jW jX jY jZ zB zC zD zE zF zG zH zI zJ zK Xr zM zN zO zP zQ zR zS zT zU zV zW zX zY zZ yB yC yE yF yG yH yI yJ yK yL yM yN yO jA jB jD jE jF jG jH jI jJ u1 vI vU pE gL gM gN gO gP gQ gR gT gU gV gW gX gY gZ fA fC fD fE fF fG fH fI fJ fK fL fM fN fO fP fQ fR xX xY xZ vB vC vD vE vF vG vH vJ vK vL vM vN vO vP vQ vR vT vV vW vX vY vZ pB pC pD:Value) (Q0:Exit→Act→World→Prop) (hpan:∀c a d v w,Q0 (.panic c) (Act.put a d v) w→Q0 (.panic c) a w)
  (hret:∀(u1 vI vU pE gL gM gN gO gP gQ gR gT gU gV gW gX gY gZ fA fC fD fE fF fG fH fI fJ fK fL fM fN fO fP fQ fR xX xY xZ vB vC vD vE vF vG vH vJ vK vL vM vN vO vP vQ vR vT vV vW vX vY vZ pB pC pD:Value) (w':World) (nm:Int) (tA:Option Addr) (tn tc:Nat),Bk w' g4 107 [.int .i64 nm,.slice tA tn tc]→nD w w'→Q0 .ret ⟨#[c0,u1,c2,c3,.pointer (some ⟨g4,0,none⟩),.bool false,c6,c7,c8,.slice sA sn sc,.slice kA kn kc,vI,vU,pE,jK,jL,jM,jN,jO,jP,jQ,jR,jS,jT,jU,jV,jW,jX,jY,jZ,zB,zC,zD,zE,zF,zG,zH,zI,zJ,zK,Xr,zM,zN,zO,zP,zQ,zR,zS,zT,zU,zV,zW,zX,zY,zZ,yB,yC,yE,yF,yG,yH,yI,yJ,yK,yL,yM,yN,yO,.int .i64 (n:Int),gL,gM,gN,gO,gP,gQ,gR,gT,gU,gV,gW,gX,gY,gZ,fA,fC,fD,fE,fF,fG,fH,fI,fJ,fK,fL,fM,fN,fO,fP,fQ,fR,xX,xY,xZ,vB,vC,vD,vE,vF,vG,vH,vJ,vK,vL,vM,vN,vO,vP,vQ,vR,vT,vV,vW,vX,vY,vZ,pB,pC,pD,jA,jB,jD,jE,jF,jG,jH,jI,jJ],[]⟩ w')
  (H:BtH w T n bs sA kA sn sc kn kc g4) (h0:∃(i:Nat) (ts:List TxD) (pA:Option Addr) (m pc:Nat) (ps:List Vd),i≤n∧gL=.int .i64 (i:Int)∧vI=.int .i64 (Uw bs i)∧u1=.slice pA m pc∧aFq bs ts i∧BtX w wr g4 num T ts pA m pc ps)
  (hexit:∀(vI vU pE gL gM gN gO gP gQ gR gT gU gV gW gX gY gZ fA fC fD fE fF fG fH fI fJ fK fL fM fN fO fP fQ fR xX xY xZ vB vC vD vE vF vG vH vJ vK vL vM vN vO vP vQ vR vT vV vW vX vY vZ pB pC pD:Value) (w':World) (ts:List TxD) (pA:Option Addr) (m pc:Nat) (ps:List Vd),aFq bs ts n→BtX w w' g4 num T ts pA m pc ps→Q0 (.exit 0) ⟨#[c0,.slice pA m pc,c2,c3,.pointer (some ⟨g4,0,none⟩),.bool false,c6,c7,c8,.slice sA sn sc,.slice kA kn kc,vI,vU,pE,jK,jL,jM,jN,jO,jP,jQ,jR,jS,jT,jU,jV,jW,jX,jY,jZ,zB,zC,zD,zE,zF,zG,zH,zI,zJ,zK,Xr,zM,zN,zO,zP,zQ,zR,zS,zT,zU,zV,zW,zX,zY,zZ,yB,yC,yE,yF,yG,yH,yI,yJ,yK,yL,yM,yN,yO,.int .i64 (n:Int),gL,gM,gN,gO,gP,gQ,gR,gT,gU,gV,gW,gX,gY,gZ,fA,fC,fD,fE,fF,fG,fH,fI,fJ,fK,fL,fM,fN,fO,fP,fQ,fR,xX,xY,xZ,vB,vC,vD,vE,vF,vG,vH,vJ,vK,vL,vM,vN,vO,vP,vQ,vR,vT,vV,vW,vX,vY,vZ,pB,pC,pD,jA,jB,jD,jE,jF,jG,jH,jI,jJ],[]⟩ w') :
  Code.wp prog (Code.loop (Ur f201)) Q0 ⟨#[c0,u1,c2,c3,.pointer (some ⟨g4,0,none⟩),.bool false,c6,c7,c8,.slice sA sn sc,.slice kA kn kc,vI,vU,pE,jK,jL,jM,jN,jO,jP,jQ,jR,jS,jT,jU,jV,jW,jX,jY,jZ,zB,zC,zD,zE,zF,zG,zH,zI,zJ,zK,Xr,zM,zN,zO,zP,zQ,zR,zS,zT,zU,zV,zW,zX,zY,zZ,yB,yC,yE,yF,yG,yH,yI,yJ,yK,yL,yM,yN,yO,.int .i64 (n:Int),gL,gM,gN,gO,gP,gQ,gR,gT,gU,gV,gW,gX,gY,gZ,fA,fC,fD,fE,fF,fG,fH,fI,fJ,fK,fL,fM,fN,fO,fP,fQ,fR,xX,xY,xZ,vB,vC,vD,vE,vF,vG,vH,vJ,vK,vL,vM,vN,vO,vP,vQ,vR,vT,vV,vW,vX,vY,vZ,pB,pC,pD,jA,jB,jD,jE,jF,jG,jH,jI,jJ],[]⟩ wr:=by
 refine wp_loop (BTI w g4 n sn sc kn kc num T bs sA kA c0 c2 c3 c6 c7 c8 jK jL jM jN jO jP jQ jR jS jT jU jV jW jX jY jZ zB zC zD zE zF zG zH zI zJ zK Xr zM zN zO zP zQ zR zS zT zU zV zW zX zY zZ yB yC yE yF yG yH yI yJ yK yL yM yN yO jA jB jD jE jF jG jH jI jJ) (aXv n) (BTI.mk h0) (fun a w'' hI=>?_);unfold BTI at hI;obtain⟨v1,bF,bQ,bY,dZ,v70,mA,v72,mB,mC,v75,v76,v77,mD,mE,mF,mG,mH,mI,mJ,mL,mM,mN,mO,mP,mQ,mR,mT,mU,mV,mW,mX,mY,mZ,tB,fT,fU,fV,fW,fX,fY,fZ,bB,bD,bE,bG,bH,bI,bJ,bK,bL,bM,bN,bO,bP,bR,bS,bT,bU,bV,bW,bX,v127,hI⟩:=hI;obtain⟨⟨i,ts,pA,m,pc,ps,hi,e69,e11,e1,hl,hX⟩,rfl⟩:=hI;subst e69;subst e11;subst e1;rcases tN i n with hlt|hge
 · exact aTs w w'' g4 n sn sc kn kc num T bs sA kA i _ ts pA m pc ps _ _ _ _ _ _ _ _ _ _ _ _ _ _ _ _ _ _ _ _ _ _ _ _ _ _ _ _ _ _ _ _ _ _ _ _ _ _ _ _ _ _ _ _ _ _ _ _ _ _ _ _ _ _ _ _ _ _ _ _ _ _ _ _ _ _ _ _ _ _ _ _ _ _ _ _ _ _ _ _ _ _ _ _ _ _ _ _ _ _ _ _ _ _ _ _ _ _ _ _ _ _ _ _ _ _ _ _ _ _ _ _ _ _ _ _ _ _ _ _ _ _ _ _ _ _ _ _ _ Q0 hpan hret H hX hl rfl hlt
 · have e:i=n:=tQ hi hge;exact bCp n i g4 sn sc kn kc m pc _ sA kA pA w'' _ _ _ _ _ _ _ _ _ _ _ _ _ _ _ _ _ _ _ _ _ _ _ _ _ _ _ _ _ _ _ _ _ _ _ _ _ _ _ _ _ _ _ _ _ _ _ _ _ _ _ _ _ _ _ _ _ _ _ _ _ _ _ _ _ _ _ _ _ _ _ _ _ _ _ _ _ _ _ _ _ _ _ _ _ _ _ _ _ _ _ _ _ _ _ _ _ _ _ _ _ _ _ _ _ _ _ _ _ _ _ _ _ _ _ _ _ _ _ _ _ _ _ _ _ _ _ _ _ _ e (fun vI vU pE gL gM gN gO gP gQ gR gT gU gV gW gX gY gZ fA fC fD fE fF fG fH fI fJ fK fL fM fN fO fP fQ fR xX xY xZ vB vC vD vE vF vG vH vJ vK vL vM vN vO vP vQ vR vT vV vW vX vY vZ pB pC pD=>hexit vI vU pE gL gM gN gO gP gQ gR gT gU gV gW gX gY gZ fA fC fD fE fF fG fH fI fJ fK fL fM fN fO fP fQ fR xX xY xZ vB vC vD vE vF vG vH vJ vK vL vM vN vO vP vQ vR vT vV vW vX vY vZ pB pC pD w'' ts pA m pc ps (by rw[←e];exact hl) hX)
theorem bCq {n:Nat} (h:n<256):wrap64 (3*(n:Int))=3*(n:Int)∧wrap64 (9+3*(n:Int))=9+3*(n:Int)∧IntKind.i64.wrap (n:Int)=(n:Int):=⟨by unfold wrap64;omega,by unfold wrap64;omega,IntWalk.i64_in _ (by omega)⟩
theorem aXu {n yn yc:Nat} (h:n<256) (e:yn=9+3*n) (hc:yn≤yc):wrap64 (2*(n:Int))=2*(n:Int)∧wrap64 (9+2*(n:Int))=9+2*(n:Int)∧IntKind.i64.wrap (2*(n:Int))=2*(n:Int)∧IntKind.i64.wrap (9+2*(n:Int))=9+2*(n:Int)∧(9:Int)≤9+2*(n:Int)∧9+2*(n:Int)≤(yc:Int)∧9+2*(n:Int)≤(yn:Int)∧(0:Int)≤9+2*(n:Int) :=
 ⟨by unfold wrap64;omega,by unfold wrap64;omega,IntWalk.i64_in _ (by omega),IntWalk.i64_in _ (by omega),by omega,by omega,by omega,by omega⟩
theorem bGg {yn n:Nat} (h:¬yn=9+3*n):((yn:Int) !=9+3*(n:Int))=true∧((yn:Int)==9+3*(n:Int))=false:=⟨bne_iff_ne.2 (by omega),by simp;omega⟩
theorem bGd {yn n:Nat} (h:yn=9+3*n):((yn:Int) !=9+3*(n:Int))=false∧((yn:Int)==9+3*(n:Int))=true:=⟨by simp;omega,by simp;omega⟩
theorem bHt {T n:Nat} {bs:List Int} {v:Int} (hv:Um (bs.take 8)=v) (ht:Uw bs n≤(T:Int)) (hw:∀x∈bs,0≤x∧x<256) (hT:T≤1000):min v 4611686018427387904=v∧IntKind.i64.wrap v=v:=by
 have h1:=aGy hw (Nat.zero_le n);have e:Uw bs 0=v:=hv;rw[e] at h1;exact⟨Int.min_eq_left (by omega),IntWalk.i64_in _ (by omega)⟩
theorem bHr {w:World} {ad:Addr} {yn yc n T g4 sn sc kn kc:Nat} {bs:List Int} {sA kA:Option Addr} (h:IsY w (some ad) yn yc bs) (e:yn=9+3*n) (hn:n<256) (ht:Uw bs n≤(T:Int)) (hT:T≤1000) (hg:w.heap.size≤g4) (hsA:sA=if yc=9 then some ad else some (⟨ad.block,ad.off+9,none⟩:Addr)) (hsn:sn=9+2*n - 9) (hsc:sc=yc - 9) (hkA:kA=if yc=9+2*n then some ad else some (ad.add (9+2*n))) (hkn:kn=yn - (9+2*n)) (hkc:kc=yc - (9+2*n)):BtH w T n bs sA kA sn sc kn kc g4:=by
 have hs:=h.sub_ (i:=9) (j:=9+2*n) (by omega) (by omega) hsA;have hk:=h.from_ (j:=9+2*n) (by omega) hkA;rw[←hsn,←hsc] at hs;rw[←hkn,←hkc] at hk;have e2:sn=2*n:=by omega
 rw[e2] at hs;exact⟨by rw[e2];exact hs,hk,e2,by omega,h.b.wf,by rw[h.b.len];exact e,ht,hT,hn,hg⟩
def btR (T:Nat) (w w':World) (e:Ending):Prop:=∃nm tA tn tc ok,e=.returned (.tuple #[.agg #[.int .i64 nm,.slice tA tn tc],.bool ok])∧(ok=true→∃ts,TsG w.heap.size w' tA tn tc ts∧0<tn∧tn≤1000∧(∀t0,ts[0]? =some t0→∀t∈ts,t0.time≤t.time)∧∀t∈ts,(0≤t.time∧t.time≤(T:Int))∧t.n≤1000∧∀p∈t.ps,0≤p.lba∧p.lba<258∧p.n=40)∧nD w w'
theorem btR.no {T:Nat} {w w':World} {nm:Int} {tA:Option Addr} {tn tc:Nat} (h:nD w w'):btR T w w' (.returned (.tuple #[.agg #[.int .i64 nm,.slice tA tn tc],.bool false])):=⟨nm,tA,tn,tc,false,rfl,(fun q=>by cases q),h⟩
theorem aXo (T:Nat) (kd ep num lb:Int) (yA:Option Addr) (yn yc:Nat) (bs:List Int) (pA:Option Addr) (m pc:Nat) (ps:List Vd) (w:World) (hy:IsY w yA yn yc bs) (hn40:yn≤40) (htim:aTf T kd bs) (hp:Uh w pA m pc ps) (hpg:∀p∈ps,0≤p.lba∧p.lba<258∧p.n=40) (hm:m≤1000) (hT:T≤1000) (hpt:PtB w pA) :
  Calls prog 201 #[.agg #[.int .i64 kd,.int .i64 ep,.int .i64 num,.int .i64 lb,.slice yA yn yc],.slice pA m pc] w fun e w'=>btR T w w' e:=by
 obtain⟨g2,w1,hzw1,hw1,Bw1,bw1⟩:=Xy w 258 [.int .i64 kd,.int .i64 ep,.int .i64 num,.int .i64 lb,.slice yA yn yc];obtain⟨g4,w2,hzw2,hw2,Bw2,bw2⟩:=Xy w1 107 [.int .i64 0,.slice none 0 0];have B2:=Bw1.next bw2 Bw1.lt;obtain⟨d0,d1,d2,d3,d4⟩:=B2.c5;obtain⟨b0,b1⟩:=Bw2.c2;have r0:=Bw2.free 0;have r1:=Bw2.free 1;have hb:=bw1.trans (bw2.mono bw1.size);obtain⟨wz,hwz⟩:=nC ((w2.setCell ⟨g4,0,none⟩ (.int .i64 0)).setCell ⟨g4,1,none⟩ (.slice none 0 0));have HZ:=hid (show Bk wz g4 107 [.int .i64 0,.slice none 0 0]∧nD w wz from⟨by rw[←hwz];exact(Bw2.set 0 (.int .i64 0)).set 1 (.slice none 0 0),by rw[←hwz];exact(hb.setCell (p:=⟨g4,0,none⟩) (by show w.heap.size≤g4;have:=bw1.size;omega) _).setCell (p:=⟨g4,1,none⟩) (by show w.heap.size≤g4;have:=bw1.size;omega) _⟩);have HZA:=hid (show Ag (fun _=>False) w2 wz by rw[←hwz];exact((((Kf.refl (fun b=>b=g4) w2).set Bw2 (by decide) (.inl rfl) 0 _).set (Bw2.set 0 (.int .i64 0)) (by decide) (.inl rfl) 1 _).ag (F:=fun _=>False) (fun _ q=>q.elim)));have HB:=nI hb Bw2 (show w.heap.size≤g4 by have:=bw1.size;omega) (show g2<g4 by have:=Bw1.lt;omega);have HY:=nH (hy.ag (F:=fun _=>False) (.of_below hb)) hn40 htim;have HY0:=hid hy;have HP0:=hid hp;have HP:=nI (hp.next hb) hpg hm hT;have hl:=hy.b.len;have hcap:=hy.b.cap;have hbig:=hy.b.big;have hml:maxLen≤9223372036854775807:=by decide
 clear hy hn40 htim hp hpg hm hT hb Bw1 Bw2 bw1 bw2 B2;go_enter func201,ntmps201
 by_cases q0:kd=2;rotate_left
 · have t0:(kd !=2)=true:=bne_iff_ne.2 q0;have t0':(kd==2)=false:=by simp[q0]
   go_wp2_with fail
   refine bodyPost_ret (aBa rfl _ _ _ _ (by rfl) HZ.o.1) rfl ?_;exact .no HZ.o.2
 subst q0;by_cases q1:lb=(m:Int);rotate_left
 · have t1:(lb !=(m:Int))=true:=bne_iff_ne.2 q1;have t1':(lb==(m:Int))=false:=by simp[q1]
   go_wp2_with fail
   refine bodyPost_ret (aBa rfl _ _ _ _ (by rfl) HZ.o.1) rfl ?_;exact .no HZ.o.2
 subst q1;by_cases q2:yn<9
 · have t2:decide ((yn:Int)<9)=true:=rZ (by omega);have t2':(yn:Int)<9:=by omega
   go_wp2_with fail
   refine bodyPost_ret (aBa rfl _ _ _ _ (by rfl) HZ.o.1) rfl ?_;exact .no HZ.o.2
 have t2:decide ((yn:Int)<9)=false:=rY (by omega);have t2':¬(yn:Int)<9:=by omega
 obtain⟨ad,eA,-⟩:=HY.o.1.b.rd.get (k:=0) (by rw[rU];omega);subst eA;obtain⟨x8,e8,⟨x80,x81⟩,k8⟩:=aBt HY.o.1.b (k:=8) (by omega);obtain⟨n,rfl⟩:=Int.eq_ofNat_of_zero_le x80;have c8:w2.cell? ⟨ad.block,ad.off+8,none⟩=some (.int .u8 (n:Int)):=k8 w2 nB;obtain⟨z1,z2,z3⟩:=bCq (n:=n) (Int.ofNat_lt.1 x81);by_cases q3:yn=9+3*n;rotate_left
 · obtain⟨t3,t3'⟩:=bGg q3;go_wp2_with fail
   refine bodyPost_ret (aBa rfl _ _ _ _ (by rfl) HZ.o.1) rfl ?_;exact .no HZ.o.2
 obtain⟨t3,t3'⟩:=bGd q3;have HQ:=nF q3 (Int.ofNat_lt.1 x81);clear q3;have g64:=aHm (some ad) yn yc bs w2 HY.o.1.b (by have:=HQ.o;omega);obtain⟨v0,hv0⟩:=nC (Um (bs.take 8));rw[hv0] at g64;obtain⟨s1,s2,s3,s4,s5,s6,s7,s8⟩:=aXu HQ.o.2 HQ.o.1 hcap;have HQ2:=nF hcap hv0;have hv0':=hv0;have HV:=hid hv0';clear hl hcap hbig hml e8 x80 x81 k8 hv0 hv0' q2;go_wp2_with fail
 refine g64.mono ?_;rintro e w' ⟨rfl,rfl⟩;clear g64 t2 t2' t3 t3';go_wp2_with fail
 go_quiet (fail)
 obtain⟨sA,hsA⟩:=nC ((if yc=9 then some ad else some (⟨ad.block,ad.off+9,none⟩:Addr)));obtain⟨sn,hsn⟩:=nC (9+2*n - 9);obtain⟨sc,hsc⟩:=nC (yc - 9);obtain⟨kA,hkA⟩:=nC ((if yc=9+2*n then some ad else some (ad.add (9+2*n))));obtain⟨kn,hkn⟩:=nC (yn - (9+2*n));obtain⟨kc,hkc⟩:=nC (yc - (9+2*n));rw[hsA,hsn,hsc,hkA,hkn,hkc];obtain⟨u1,u2⟩:=bHt HV.o (HY.o.2.2 rfl n (by rw[HY0.o.b.len];exact HQ.o.1)) HY0.o.b.wf HP.o.2.2.2;have HH:=hid (bHr HY0.o HQ.o.1 HQ.o.2 (HY.o.2.2 rfl n (by rw[HY0.o.b.len];exact HQ.o.1)) HP.o.2.2.2 HB.o.2.2.1 hsA.symm hsn.symm hsc.symm hkA.symm hkn.symm hkc.symm);clear hsA hsn hsc hkA hkn hkc s1 s2 s3 s4 s5 s6 s7 s8 c8;go_wp2_with fail
 have hX0:BtX w ((w2.drewN nq).setCell ⟨g4,0,none⟩ (.int .i64 num)) g4 num T [] pA m pc ps :=
  ⟨(Vw HB.o.1 nq).setCell (p:=⟨g4,0,none⟩) HB.o.2.2.1 _,⟨.slice none 0 0,(HB.o.2.1.drewN nq).set 0 _,World.ownsRow_nil _ _ _ _⟩,(fun _ h=>absurd h List.not_mem_nil),HP0.o,HP.o.2.1,HP.o.2.2.1,(fun _ h=>absurd h List.not_mem_nil),hpt⟩
 refine aXt w _ g4 n sn sc kn kc num T bs sA kA _ _ _ _ _ _ _ _ _ _ _ _ _ _ _ _ _ _ _ _ _ _ _ _ _ _ _ _ _ _ _ _ _ _ _ _ _ _ _ _ _ _ _ _ _ _ _ _ _ _ _ _ _ _ _ _ _ _ _ _ _ _ _ _ _ _ _ _ _ _ _ _ _ _ _ _ _ _ _ _ _ _ _ _ _ _ _ _ _ _ _ _ _ _ _ _ _ _ _ _ _ _ _ _ _ _ _ _ _ _ _ _ _ _ _ _ _ _ _ _ _ _ _ _ _ _ _ _ _ _ _ _ _ (fun _ _ d _ _ h=>by cases d<;>exact h) ?hret HH.o ⟨0,[],pA,m,pc,ps,zL,rfl,congrArg (Value.int .i64) HV.o.symm,rfl,aFq.nil bs,hX0⟩ ?hexit
 case hret =>
  intro u1 vI vU pE gL gM gN gO gP gQ gR gT gU gV gW gX gY gZ fA fC fD fE fF fG fH fI fJ fK fL fM fN fO fP fQ fR xX xY xZ vB vC vD vE vF vG vH vJ vK vL vM vN vO vP vQ vR vT vV vW vX vY vZ pB pC pD w' nm tA tn tc hB' hb';go_wp2_with fail
  refine bodyPost_ret (aBa rfl _ _ _ _ (by rfl) hB') rfl ?_;exact .no hb'
 case hexit =>
  intro vI vU pE gL gM gN gO gP gQ gR gT gU gV gW gX gY gZ fA fC fD fE fF fG fH fI fJ fK fL fM fN fO fP fQ fR xX xY xZ vB vC vD vE vF vG vH vJ vK vL vM vN vO vP vQ vR vT vV vW vX vY vZ pB pC pD w' ts pA' m' pc' ps' hl hX;clear b0 b1 r0 r1 d1 d2;obtain⟨tv,hB,hO⟩:=hX.bx;obtain⟨tA,tc,rfl⟩:=Xs hO;have hcap:=Vv hO;have HT:=nH (show Ki w' tA ts.length tc ts from⟨rfl,Ve hO,fun t ht=>(hX.tx t ht).1.next hX.bel,hcap.1,hcap.2⟩) (show OkG ts from fun t ht=>⟨⟨(hX.tx t ht).2.1.1,Int.le_trans (hX.tx t ht).2.1.2 (by have:=HP.o.2.2.2;omega)⟩,(hX.tx t ht).2.2⟩) (show ts.length≤1000 by rw[hl.1];have:=HQ.o.2;omega);have HU:=hid (fun t0 h0=>hl.up HY0.o.b.wf (t0:=t0) h0);have HX:=hid hX;have HG:=nF hB hO;have KG:=hid (fun (w'':World) (hS:nD w' w'')=>(hB.next hS hB.lt).c2);obtain⟨y0,y1⟩:=hB.c2;have f0:=hB.free 0;have f1:=hB.free 1;clear hB hO hcap hX hl hX0;go_wp2_with fail
  by_cases q5:m'=0
  · have t5:((m':Int)==0)=true:=beq_iff_eq.2 (by omega);have Kq:=KG;refine Vn (fun w9=>nD w' w9) [9] (by kernel_rfl) (Xu nB) (fun nE=>?_);refine kM 0 ?_;refine kR 1 ?_;refine kR 2 ?_;refine kR 3 ?_;refine kR 4 ?_;refine kM 5 ?_;refine rM 6 (fun K hK=>?_);go_simp;refine(aXy num tA ts.length tc ts _ (HT.o.1.next nE) (HT.o.2.2) HT.o.2.1).mono ?_;rintro e w9 ⟨⟨r,rfl,hr⟩,hb9⟩;have hS6:nD w' w9:=nE.trans (hb9.mono nE.size);have HR:=nF hr hS6;have hB9:=HG.o.1.next hS6 HG.o.1.lt;obtain⟨z0,z1⟩:=hB9.c2;have f0:=hB9.free 0;have f1:=hB9.free 1;clear hr hb9 hB9;go_simp;refine hK.out _ _ (fun _ _=>hS6) ?_;clear hK K nE;have nE:=hS6;try simp only[Act.put,tC,tD,tE]
    refine kR 7 ?_;refine kR 8 ?_;refine rM 9 (fun K hK=>?_);go_simp;refine hK.out _ _ (fun h=>absurd (by decide) h) ?_;clear hK K;try simp only[Act.put,tC,tD,tE]
    refine kR 10 ?_;refine Vs (by kernel_rfl) ?_ _;clear Kq;go_wp2_with fail
    refine bodyPost_ret (aBa rfl _ _ _ _ (by rfl) (((HG.o.1.next HR.o.2 HG.o.1.lt).set 0 (.int .i64 num)).set 1 (.slice tA ts.length tc))) rfl ?_;refine⟨num,tA,ts.length,tc,r==0,rfl,fun q=>⟨ts,?_,HR.o.1 (beq_iff_eq.1 q),HT.o.2.2,HU.o,fun t ht=>(HX.o.tx t ht).2⟩,?_⟩
    · have hX9:=(HX.o.bel.trans (HR.o.2.mono HX.o.bel.size));have hb:=((hX9.setCell (p:=⟨g4,0,none⟩) HB.o.2.2.1 (.int .i64 num)).setCell (p:=⟨g4,1,none⟩) HB.o.2.2.1 (.slice tA ts.length tc));have hO9:=aFx (Vg HG.o.2 HR.o.2) (HG.o.1.next HR.o.2 HG.o.1.lt) (by decide) (((Kf.refl (fun b=>b=g4) w9).set (HG.o.1.next HR.o.2 HG.o.1.lt) (by decide) (.inl rfl) 0 (.int .i64 num)).set ((HG.o.1.next HR.o.2 HG.o.1.lt).set 0 (.int .i64 num)) (by decide) (.inl rfl) 1 (.slice tA ts.length tc));exact⟨hO9,rfl,fun t ht=>(HX.o.tx t ht).1.next hb,fun t ht=>(HX.o.ptx t ht).next hb⟩
    · exact((HX.o.bel.trans (HR.o.2.mono HX.o.bel.size)).setCell (p:=⟨g4,0,none⟩) HB.o.2.2.1 _).setCell (p:=⟨g4,1,none⟩) HB.o.2.2.1 _
  have t5:((m':Int)==0)=false:=by simpa using q5
  have Kq:=KG;refine Vn (fun w9=>nD w' w9) [9] (by kernel_rfl) (Xu nB) (fun nE=>?_);refine kM 0 ?_;refine kR 1 ?_;refine kR 2 ?_;refine kR 3 ?_;refine kR 4 ?_;refine kR 5 ?_ (v:=undef) (y:=.inr ⟨by rfl,by rfl⟩);refine kR 6 ?_ (v:=undef) (y:=.inr ⟨by rfl,by rfl⟩);refine kR 7 ?_ (v:=undef) (y:=.inr ⟨by rfl,by rfl⟩);refine kR 8 ?_;refine rM 9 (fun K hK=>?_);go_simp;refine hK.out _ _ (fun h=>absurd (by decide) h) ?_;clear hK K;try simp only[Act.put,tC,tD,tE]
  refine kR 10 ?_;refine Vs (by kernel_rfl) ?_ _;clear Kq;go_wp2_with fail
  refine bodyPost_ret (aBa rfl _ _ _ _ (by rfl) (((HG.o.1.set 0 (.int .i64 num)).set 1 (.slice tA ts.length tc)).drew)) rfl ?_;exact .no (((HX.o.bel.setCell (p:=⟨g4,0,none⟩) HB.o.2.2.1 _).setCell (p:=⟨g4,1,none⟩) HB.o.2.2.1 _).drew)
theorem aVx {fn:Func} {p q u v:Tmp} {ty:TypeId} (h:fn.results=#[.cell p ty,.tmp q,.tmp u,.tmp v]) (tmps:Array Value) (P:Program) (w:World) :
  (results fn tmps).run P w=((asAddr (tmps.getD p undef)).run P w).andThen fun a w₁ =>((loadVar ty a).run P w₁).andThen fun x w₂ =>.ok (.tuple #[x,tmps.getD q undef,tmps.getD u undef,tmps.getD v undef]) w₂ :=by
 simp only[results,h];simp[Sem.run_bind,Result.andThen]
theorem aKn {fn:Func} {p q u v:Tmp} (h:fn.results=#[.cell p 107,.tmp q,.tmp u,.tmp v]) (tmps:Array Value) (w:World) (g:Nat) (cs:List Value) (hp:tmps.getD p undef=.pointer (some ⟨g,0,none⟩)) (hg:Bk w g 107 cs) (hl:cs.length=2:=by rfl) :
  (results fn tmps).run prog w=.ok (.tuple #[.agg cs.toArray,tmps.getD q undef,tmps.getD u undef,tmps.getD v undef]) w:=by
 rw[aVx h,hp];simp[asAddr,run_loadVar_row w g 107 107 cs.toArray (0,0) _ hg underlying107 rfl (by rw[aUx];simp[hl]),Result.andThen]
def bdR (T n:Nat) (w w':World) (e:Ending):Prop:=∃nm tA tn tc ep k r,e=.returned (.tuple #[.agg #[.int .i64 nm,.slice tA tn tc],.int .i64 ep,.int .i64 k,.int .i64 r])∧(r=0→∃(ts:List TxD) (m:Nat),TsG w.heap.size w' tA tn tc ts∧0<tn∧tn≤1000∧(∀t0,ts[0]? =some t0→∀t∈ts,t0.time≤t.time)∧(∀t∈ts,(0≤t.time∧t.time≤(T:Int))∧t.n≤1000∧∀p∈t.ps,0≤p.lba∧p.lba<258∧p.n=40)∧k=((m+1:Nat):Int)∧m+1≤n)∧nD w w'
theorem bdR.no {T n:Nat} {w w':World} {nm ep k r:Int} {tA:Option Addr} {tn tc:Nat} (h:nD w w') (hr:r≠0):bdR T n w w' (.returned (.tuple #[.agg #[.int .i64 nm,.slice tA tn tc],.int .i64 ep,.int .i64 k,.int .i64 r])):=⟨nm,tA,tn,tc,ep,k,r,rfl,(fun q=>absurd q hr),h⟩
theorem bCl (T:Nat) (A:Option Addr) (n c:Nat) (xs:List BR) (w:World) (h:aCk w A n c xs) (hlg:∀x∈xs,aDi T x.bs) (hT:T≤1000) :
  Calls prog 143 #[.slice A n c] w fun e w'=>bdR T n w w' e:=by
 obtain⟨g2,w1,hzw1,hw1,Bw1,bw1⟩:=Xy w 107 [.int .i64 0,.slice none 0 0];have hr:=bGw T A n c xs w1 (h.next bw1) hlg;have HB:=nF Bw1 bw1;have HN:=hid h.sm;clear h hlg Bw1 bw1;go_enter func143,ntmps143
 go_wp2_with fail
 refine hr.mono ?_;intro e w2 hR;unfold roR at hR;obtain⟨pv,ps,kd,ep,sq,lb,yA,yn,yc,bs,wh,rfl,hO,hG,hY,hLK,hwh,hyn,hb⟩:=hR;obtain⟨pA,pc,rfl⟩:=Xs hO;clear hr;have B2:=HB.o.1.next hb HB.o.1.lt;obtain⟨w3,hw3⟩:=nC (w2.alloc (.cells #[.int .i64 kd,.int .i64 ep,.int .i64 sq,.int .i64 lb,.slice yA yn yc] 258));have B3:Bk w3 w2.heap.size 258 [.int .i64 kd,.int .i64 ep,.int .i64 sq,.int .i64 lb,.slice yA yn yc]:=by rw[←hw3];exact Bk.new w2 _ _
 have hb3:nD w2 w3:=by rw[←hw3];exact nB.alloc lR _
 obtain⟨f0,f1,f2,f3,f4⟩:=B3.c5;have hb03:=HB.o.2.trans ((hb.trans (hb3.mono hb.size)).mono HB.o.2.size);have B23:=B2.next hb3 B2.lt;have HP:=hid (show Uh w3 pA ps.length pc ps∧PtB w3 pA∧(∀p∈ps,0≤p.lba∧p.lba<258∧p.n=40) from⟨⟨rfl,Ve (Vg hO hb3),fun p hp=>((hG p hp).1.ag (F:=fun _=>False) (.of_below hb3)),(Vv hO).1,(Vv hO).2⟩,PtB.own (Vg hO hb3),fun p hp=>(hG p hp).2⟩);have HY:=nH (hY.ag (F:=fun _=>False) (.of_below hb3)) hyn hLK;have HC:=nH B23 hb03 (show w.heap.size≤g2 by omega);have HS:=hid B3;have g27:¬w2.heap.size=g2:=by have:=HB.o.1.lt;have:=hb.size;omega
 have g72:¬g2=w2.heap.size:=fun q=>g27 q.symm
 obtain⟨c0,c1⟩:=B23.c2;have q0:=B23.free 0;have q1:=B23.free 1;clear hO hG hY hLK hyn hb B2 B3 hb3 hb03 B23
 cases wh with
 | false =>
   go_wp2_with fail
   refine bodyPost_ret (aKn rfl _ _ _ _ (by rfl) ((HC.o.1.set 0 (.int .i64 0)).set 1 (.slice none 0 0))) rfl ?_;exact .no ((HC.o.2.1.setCell (p:=⟨g2,0,none⟩) HC.o.2.2 _).setCell (p:=⟨g2,1,none⟩) HC.o.2.2 _) (by decide)
 | true =>
   have hln:ps.length+1≤n:=hwh rfl;have hm:ps.length≤1000:=by have:=HN.o;omega
   have hbk:=aXo T kd ep sq lb yA yn yc bs pA ps.length pc ps w3 HY.o.1 HY.o.2.1 HY.o.2.2 HP.o.1 HP.o.2.2 hm hT HP.o.2.1;have HL:=hid hln;clear hwh hln hm;go_wp2_with fail
   refine hbk.mono ?_;intro e w4 hR;unfold btR at hR;obtain⟨nm,tA,tn,tc,ok,rfl,hok,hb4⟩:=hR;clear hbk c0 c1 q0 q1;have B24:=HC.o.1.next hb4 HC.o.1.lt;have b04:=HC.o.2.1.trans (hb4.mono HC.o.2.1.size);obtain⟨c0,c1⟩:=B24.c2;have q0:=B24.free 0;have q1:=B24.free 1;have hb5:=((b04.setCell (p:=⟨g2,0,none⟩) HC.o.2.2 (.int .i64 nm)).setCell (p:=⟨g2,1,none⟩) HC.o.2.2 (.slice tA tn tc));have B25:=((B24.set 0 (.int .i64 nm)).set 1 (.slice tA tn tc));have k45:=(((Kf.refl (fun b=>b=g2) w4).set B24 (by decide) (.inl rfl) 0 (.int .i64 nm)).set (B24.set 0 (.int .i64 nm)) (by decide) (.inl rfl) 1 (.slice tA tn tc));have HD:=nK B24 b04 B25 hb5 k45 (HS.o.next hb4 HS.o.lt);obtain⟨f0',f1',f2',f3',f4'⟩:=(HS.o.next hb4 HS.o.lt).c5;clear hb4 B24 b04 B25 hb5 k45
   cases ok with
   | false =>
     go_wp2_with fail
     refine bodyPost_ret (aKn rfl _ _ _ _ (by rfl) ((HD.o.2.2.1.set 0 (.int .i64 0)).set 1 (.slice none 0 0))) rfl ?_;exact .no ((HD.o.2.2.2.1.setCell (p:=⟨g2,0,none⟩) HC.o.2.2 _).setCell (p:=⟨g2,1,none⟩) HC.o.2.2 _) (by decide)
   | true =>
     have m1:=IntWalk.i64_in ((ps.length:Int)+1) (by have:=HL.o;have:=HN.o;omega);have m2:wrap64 ((ps.length:Int)+1)=(ps.length:Int)+1:=by have:=HL.o;have:=HN.o;unfold wrap64;omega
     go_wp2_with fail
     go_region
     go_wp2_with fail
     obtain⟨ts,h1,h2,h3,h3',h4⟩:=hok (by first|rfl|trivial);have hT6:=((h1.kf HD.o.1 (by decide) (by decide) HD.o.2.2.2.2.1).kf HD.o.2.2.1 (by decide) (by decide) (((Kf.refl (fun b=>b=g2) _).set HD.o.2.2.1 (by decide) (.inl rfl) 0 (.int .i64 nm)).set (HD.o.2.2.1.set 0 (.int .i64 nm)) (by decide) (.inl rfl) 1 (.slice tA tn tc))).next (Xu nB);refine bodyPost_ret (aKn rfl _ _ _ _ (by rfl) ((HD.o.2.2.1.set 0 (.int .i64 nm)).set 1 (.slice tA tn tc)).drew) rfl ?_;exact⟨nm,tA,tn,tc,ep,_,0,rfl,fun _=>⟨ts,ps.length,hT6.base (tK HC.o.2.1.size lR),h2,h3,h3',h4,rfl,HL.o⟩,((HD.o.2.2.2.1.setCell (p:=⟨g2,0,none⟩) HC.o.2.2 _).setCell (p:=⟨g2,1,none⟩) HC.o.2.2 _).drew⟩
end Go.Proofs.YtdhlicgaalnmoaaGreatDoor.Tp
