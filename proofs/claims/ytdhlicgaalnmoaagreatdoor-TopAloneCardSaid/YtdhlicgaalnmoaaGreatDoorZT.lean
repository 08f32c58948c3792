/- Contracts of the program's functions, and laws on memory: a part of the proof of TopAlone. -/
import Derived.Test.YtdhlicgaalnmoaaGreatDoorZS
import Derived.Shelf.Strings.Builder1
import Derived.Shelf.Strings.Builder2
import Derived.Shelf.Strings.OnBuilder
import Derived.Shelf.Strconv.Itoa0
import Derived.Shelf.Strconv.Itoa1
import Derived.Shelf.LaysM
import Derived.Shelf.Strconv.Itoa2
import Derived.Shelf.Strconv.Itoa3
import Derived.Shelf.Strings.Search1
import Derived.Shelf.Strings.Search2
import Derived.Shelf.Strings.Search3
import Derived.Shelf.Strings.Count
import Derived.Shelf.Strings.Prefix
import Derived.DataReads
import Derived.Test.YtdhlicgaalnmoaaGreatDoorCards
import Derived.JoinedCond
import Derived.JoinedOf
import GoSem.ClaimGoes
set_option linter.unusedSimpArgs false
set_option linter.unusedVariables false
namespace Go.Proofs.YtdhlicgaalnmoaaGreatDoor.Tp
open Lib (hid)
open Go.Proofs.Tryz
open Go.RowKit Go.Maps
set_option maxHeartbeats 8000000
set_option maxRecDepth 100000
theorem awake_any (pl:bCf):aIn:=by
 intro w hw;have hbg:=aIa w;have HP:=nF pl hw;clear pl hw;go_enter func5,ntmps5
 go_wp2_with fail
 refine hbg.mono ?_;rintro e w2 ⟨sb,rfl,F,hB,hb2,hF⟩;have HR:=nH hB hb2 hF;clear hbg hB hb2 hF;obtain⟨gd,hgd⟩:=nC (w2.heap.size);go_wp2_with fail
 refine(aIo _ _).mono ?_;rintro e w3 ⟨rfl,h40,hb3⟩;rw[hgd] at h40;obtain⟨bs,hy⟩:=h40.y;obtain⟨gp,w4,hzw4,hw4,Bw4,bw4⟩:=Xy w3 50 [.int .i64 1,.slice (some ⟨gd,0,none⟩) 40 40];obtain⟨gq,w5,hzw5,hw5,Bw5,bw5⟩:=Xy w4 60 [.int .i64 1,.int .i64 0,.int .i64 0,.int .i64 0,.slice none 0 0,.int .i64 3,.int .i64 0,.int .i64 0,.int .i64 0,.slice (some ⟨gp,0,none⟩) 1 1,.int .i64 4,.int .i64 0,.int .i64 0,.int .i64 0,.slice none 0 0];have hgp:gp=w3.heap.size:=by omega
 have hgq:gq=w4.heap.size:=by omega
 have hB5:=HR.o.1.next ((hb3.trans (bw4.mono hb3.size)).trans (bw5.mono (hb3.trans (bw4.mono hb3.size)).size));have hops:aEj w5 (fun b=>b=gq∨b=gp) (some ⟨gq,0,none⟩) 3 3 (awO gd gp bs):=bCi Bw5 (Bw4.next bw5 Bw4.lt) ((hy.ag (F:=fun _=>False) (.of_below bw4)).ag (F:=fun _=>False) (.of_below bw5));have hlt:w2.heap.size≤w3.heap.size:=hb3.size;have hlt4:w3.heap.size≤w4.heap.size:=bw4.size
 have hcall:=bCc (j:=0) hB5 rfl hops (fun b q r=>by have:=HR.o.1.inn b r;rcases q with rfl|rfl<;>omega) (fun b q=>by
  rcases q with rfl|rfl
  · exact Bw5.lt
  · exact(Bw4.next bw5 Bw4.lt).lt) (by decide) (fun o ho=>by
  simp only[awO,List.mem_cons,List.not_mem_nil,or_false] at ho;rcases ho with rfl|rfl|rfl
  · exact⟨zL,fun p hp=>by cases hp⟩
  · refine⟨by show (1:Nat)≤20000;decide,fun p hp=>?_⟩;obtain rfl:p=⟨1,some ⟨gd,0,none⟩,40,40,bs⟩:=by simpa using hp
    show (40:Nat)≤20000;decide
  · exact⟨zL,fun p hp=>by cases hp⟩)
 have hb5:nD w w5:=((HR.o.2.1.trans (hb3.mono HR.o.2.1.size)).trans (bw4.mono (HR.o.2.1.trans (hb3.mono HR.o.2.1.size)).size)).trans (bw5.mono ((HR.o.2.1.trans (hb3.mono HR.o.2.1.size)).trans (bw4.mono (HR.o.2.1.trans (hb3.mono HR.o.2.1.size)).size)).size);have H5:=nF hB5 hb5;clear hb5 hB5 hops h40 hy hb3 hlt hlt4 hgp hgq;go_wp2_with fail
 refine hcall.mono ?_;rintro e w6 ⟨r,rfl,s',ha,hr⟩
 obtain⟨rfl,hs⟩:r=0∧AwS 0 s':=by
  obtain⟨F',h1,-⟩:=hr;exact aTm h1 ha
 have H0:=hid (show AwI w w6 sb 0 by
  obtain⟨F',h1,h2,h3,h4⟩:=hr;exact⟨s',F',h1,hs,H5.o.2.trans (h2.below HR.o.2.2 H5.o.2.size),fun b q=>(h3 b q).elim (HR.o.2.2 b) (tK H5.o.2.size)⟩)
 clear hcall ha hr hs hgd H5 HR bw4 bw5 Bw4 Bw5;go_wp2_with fail
 go_loopw [3] (fun iv wr=>∃i:Nat,i≤3∧iv=.int .i64 (i:Int)∧Hid (AwI w wr sb i)) (fun iv _=>3 - (intOf iv).toNat)
 case atStart=>exact⟨0,zL,rfl,H0⟩
 case round =>
  obtain⟨i,hi,rfl,HY⟩:=hrel;by_cases hlt:i<3
  · obtain⟨s,F2,hB,hss,hbr,hF2⟩:=HY.o;obtain⟨c,hj,hsm,hnx⟩:=aXn hlt hss;have hst:=aOt (j:=0) hB (by omega) hj hsm;have HC:=nI hbr hF2 hnx hlt;have t0:decide ((i:Int)<3)=true:=rZ (by omega);have n1:(i:Int)<3:=by omega
    have m2:wrap64 ((i:Int)+1)=(i:Int)+1:=by unfold wrap64;omega
    clear hB hss hbr hF2 hj hsm hnx;go_wp2_with fail
    refine hst.mono ?_;rintro e w7 ⟨r,⟨av,rfl⟩,s',hs',hr'⟩;have HE:=hid (AwI.step HC.o.1 HC.o.2.1 (HC.o.2.2.1 r s' hs') hr');clear hst hs' hr';go_wp2_with fail
    go_roundw
    case rel=>exact⟨i+1,HC.o.2.2.2,Va (by first|rfl|exact m2),HE⟩
    case measure=>(try rw[m2]);exact Xw (x:=(i:Int)+1) HC.o.2.2.2 rfl
  · obtain rfl:i=3:=by omega
    obtain⟨s,F2,hB,hss,hbr,hF2⟩:=HY.o;obtain⟨t,h1,h2,h3,h4,h5,d,⟨⟨c,hj,ho,hg,ha⟩,hsm,hp⟩,hk,hh⟩:=hss;have hfl:=aQk hB (by omega);have HC:=nR hbr hF2 h1 h2 h3 h4 hj ho hg ha hsm hp hk hh h5;clear hB hbr hF2 h1 h2 h3 h4 h5 hj ho hg ha hsm hp hk hh;go_wp2_with fail
    refine hfl.mono ?_;rintro e w8 ⟨r,rfl,pos',m',hr,hsr⟩;obtain⟨hbr,hF2,h1,h2,h3,h4,hj,ho,hg,ha,hsm,hp,hk,hh,h5⟩:=HC.o;obtain⟨rfl,t',ht1,ht2⟩:=aw4 h1 h3 h2 (hp▸hr);obtain⟨F3,hB3,k1,k2,k3⟩:=hsr;have hst:=aOt (j:=0) hB3 (by omega) hj (by rw[ho];exact hsm);have b8:nD w w8:=hbr.trans (k1.below hF2 hbr.size);have H8:=nF b8 (fun (b:Nat) (q:F3 b)=>(k2 b q).elim (hF2 b) (tK hbr.size));have HT:=nF ht1 ht2;clear hbr hF2 h1 h2 h3 h4 hj ho hg ha hsm hp hk hh h5 hr hfl hB3 k1 k2 k3 b8 ht1 ht2;go_wp2_with fail
    refine hst.mono ?_;rintro e w9 ⟨r9,⟨av,rfl⟩,s9,hs9,hr9⟩;obtain⟨hbr,hF2,h1,h2,h3,h4,hj,ho,hg,ha,hsm,hp,hk,hh,h5⟩:=HC.o;obtain⟨q1,q2⟩:=aw5 (s:={s with m:=m',pos:=pos',ev:=s.ev+1}) HT.o.1 h4 hj ho hk hh hg ha HT.o.2 hs9;obtain⟨F4,hB4,l1,l2,l3⟩:=hr9;have hhi:=bFe hB4;have b9:nD w w9:=H8.o.1.trans (l1.below H8.o.2 H8.o.1.size);have H9:=nI b9 q1 q2 h5;clear hbr hF2 h1 h2 h3 h4 hj ho hg ha hsm hp hk hh h5 hst hs9 hB4 l1 l2 l3 b9 q1 q2;go_wp2_with fail
    refine hhi.mono ?_;rintro e w10 ⟨v,hs,rfl,hx⟩;obtain⟨b9,q1,q2,h5⟩:=H9.o;have hbl:s9.bg.length=1:=by rw[q2];rfl
    rw[hbl] at hx;obtain⟨hBk,hc,rfl,-,-⟩:=hx.own.form (Nat.succ_pos 0);have hlen:=hx.len;obtain⟨x,hxi⟩:∃x,hs[0]? =some x:=⟨_,tX (by omega)⟩
    obtain⟨e1,e2⟩:=hx.at_ 0 x hxi;rw[q1] at e1;rw[q2] at e2;injection e1 with e1;injection e2 with e2;have hst3:(x.t.st:Int)=3:=by rw[←e1,HT.o.2];rfl
    have hto:(x.b.til:Int)=5:=by rw[←e2,h5];rfl
    obtain⟨c0,-,-,-,c4,-⟩:=aYx hx.own hxi;rw[hst3] at c0;rw[hto] at c4;have hpl:=HP.o.1 w10 (HP.o.2.next (b9.trans (hx.bel.mono b9.size)));have H10:=hid (b9.trans (hx.bel.mono b9.size));clear hhi b9 q1 q2 h5 hbl hx hlen hxi e1 e2 hst3 hto;go_wp2_with fail
    refine hpl.mono ?_;rintro e w11 ⟨rfl,hb11⟩;have HE:=hid (H10.o.trans (hb11.mono H10.o.size));clear hpl hb11 c0 c4;go_wp2_with fail
    go_ret;exact⟨rfl,HE.o⟩
end Go.Proofs.YtdhlicgaalnmoaaGreatDoor.Tp
namespace Go.Proofs
open Lib (hid)
open Go.Proofs.Tryz
open Go.Proofs.YtdhlicgaalnmoaaGreatDoor
open Go.RowKit Go.Maps
set_option maxHeartbeats 8000000
set_option maxRecDepth 100000
section
open Go.Shelf
open Go.RowKit in
open Go.RowKit in
open Go.RowKit in
open Go.RowKit in
open Go.RowKit in
open Go.RowKit in
def Tryz.lays156_ren:Go.Shelf.Ren:=⟨fun|156=>133|165=>192|166=>193|169=>194|240=>251|241=>252|276=>298|277=>299|n=>n,fun|31=>209|9=>9|3=>3|4=>4|0=>0|20=>20|72=>285|76=>274|70=>283|37=>41|75=>273|127=>333|164=>373|5=>5|80=>286|n=>n,fun|n=>n⟩
theorem Tryz.lays156:Go.Proofs.Lays.n156 prog Tryz.lays156_ren:={
 mixed:=by kernel_rfl
 f156:=func133.trans (congrArg some (by kernel_rfl))
 f165:=func192.trans (congrArg some (by kernel_rfl))
 f166:=func193.trans (congrArg some (by kernel_rfl))
 f169:=func194.trans (congrArg some (by kernel_rfl))
 f240:=func251.trans (congrArg some (by kernel_rfl))
 f241:=func252.trans (congrArg some (by kernel_rfl))
 f276:=func298.trans (congrArg some (by kernel_rfl))
 f277:=func299.trans (congrArg some (by kernel_rfl))
 t0:=underlying0
 a0:=Tryz.isAgg0
 z0:=Tryz.sizeOf0
 v0:=Tryz.zeroValue0
 t3:=underlying3
 a3:=Tryz.isAgg3
 z3:=Tryz.sizeOf3
 v3:=Tryz.zeroValue3
 t4:=underlying4
 a4:=Tryz.isAgg4
 z4:=Tryz.sizeOf4
 v4:=Tryz.zeroValue4
 t9:=underlying9
 a9:=Tryz.isAgg9
 z9:=Tryz.sizeOf9
 v9:=Tryz.zeroValue9
 t20:=underlying20
 a20:=Tryz.isAgg20
 z20:=Tryz.sizeOf20
 v20:=Tryz.zeroValue20
 t31:=underlying209
 a31:=Tryz.isAgg209
 z31:=Tryz.sizeOf209
 v31:=Tryz.zeroValue209
 t37:=underlying41
 a37:=Tryz.isAgg41
 z37:=Tryz.sizeOf41
 v37:=Tryz.zeroValue41
 t70:=underlying283
 a70:=Tryz.isAgg283
 z70:=Tryz.sizeOf283
 v70:=Tryz.zeroValue283
 t72:=underlying285
 a72:=Tryz.isAgg285
 z72:=Tryz.sizeOf285
 v72:=Tryz.zeroValue285
 t75:=underlying273
 a75:=Tryz.isAgg273
 z75:=Tryz.sizeOf273
 v75:=Tryz.zeroValue273
 t76:=underlying274
 a76:=Tryz.isAgg274
 z76:=Tryz.sizeOf274
 v76:=Tryz.zeroValue274
 t127:=underlying333
 a127:=Tryz.isAgg333
 z127:=Tryz.sizeOf333
 v127:=Tryz.zeroValue333
 t164:=underlying373
 a164:=Tryz.isAgg373
 z164:=Tryz.sizeOf373
 v164:=Tryz.zeroValue373}
theorem Tryz.Builder_Extra_156:Builder.Extra prog Tryz.lays156_ren:={
 sizeBuilder:=by kernel_rfl
 liesBuilder:=by kernel_rfl
 t5:=underlying5
 a5:=Tryz.isAgg5
 z5:=Tryz.sizeOf5
 v5:=Tryz.zeroValue5
 infoByte:=by kernel_rfl
 cellsByte:=by kernel_rfl
 sizeByte:=by kernel_rfl
 neB5:=by decide}
open Go.RowKit in
open Go.RowKit in
theorem Tryz.strings_Join (bk o c:Nat) (xs:List ByteArray) (sep:ByteArray) (w:World) (hcells:∀(j:Nat) x,xs[j]? =some x→w.cell? ⟨bk,o+j,none⟩=some (.string x)) (hbk:bk<w.heap.size) (hN:xs.length≤140737488355328) (hcap:xs.length≤c) (hlen:(Lib.join (xs.map (·.data.toList)) sep.data.toList).length≤140737488355328) :
  Calls prog 133 #[.slice (some ⟨bk,o,none⟩) xs.length c,.string sep] w fun e w'=>e=.returned (.string ⟨(Lib.join (xs.map (·.data.toList)) sep.data.toList).toArray⟩)∧nD w w':=Any.strings_Join Tryz.lays156 Tryz.Builder_Extra_156 bk o c xs sep w hcells hbk hN hcap hlen
open Go.Lib in
open Go.Lib in
open Go.Lib in
open Go.Lib in
open Go.RowKit Go.Sort Go.Lib in
open Go.RowKit Go.Sort Go.Lib in
open Go.RowKit Go.Sort Go.Lib in
open Go.RowKit Go.Sort Go.Lib in
open Go.RowKit Go.Sort Go.Lib in
def Tryz.laysM171_ren:Go.Shelf.Ren:=⟨fun|171=>182|243=>241|246=>283|283=>320|284=>321|285=>322|286=>323|129=>310|317=>362|318=>363|319=>364|320=>365|337=>385|338=>386|n=>n,fun|3=>3|9=>9|2=>2|4=>4|171=>393|0=>0|53=>184|37=>41|5=>5|173=>395|212=>436|51=>186|20=>20|213=>437|46=>262|232=>467|233=>468|n=>n,fun|17=>6|18=>7|19=>8|n=>n⟩
theorem Tryz.laysM171:Go.Proofs.LaysM.n171 prog Tryz.laysM171_ren:={
 mixed:=by kernel_rfl
 f129:=func310.trans (congrArg some (by kernel_rfl))
 f171:=func182.trans (congrArg some (by kernel_rfl))
 f243:=func241.trans (congrArg some (by kernel_rfl))
 f246:=func283.trans (congrArg some (by kernel_rfl))
 f283:=func320.trans (congrArg some (by kernel_rfl))
 f284:=func321.trans (congrArg some (by kernel_rfl))
 f285:=func322.trans (congrArg some (by kernel_rfl))
 f286:=func323.trans (congrArg some (by kernel_rfl))
 f317:=func362.trans (congrArg some (by kernel_rfl))
 f318:=func363.trans (congrArg some (by kernel_rfl))
 f319:=func364.trans (congrArg some (by kernel_rfl))
 f320:=func365.trans (congrArg some (by kernel_rfl))
 f337:=func385.trans (congrArg some (by kernel_rfl))
 f338:=func386.trans (congrArg some (by kernel_rfl))
 t0:=underlying0
 a0:=Tryz.isAgg0
 z0:=Tryz.sizeOf0
 v0:=Tryz.zeroValue0
 t2:=underlying2
 a2:=Tryz.isAgg2
 z2:=Tryz.sizeOf2
 v2:=Tryz.zeroValue2
 t3:=underlying3
 a3:=Tryz.isAgg3
 z3:=Tryz.sizeOf3
 v3:=Tryz.zeroValue3
 t4:=underlying4
 a4:=Tryz.isAgg4
 z4:=Tryz.sizeOf4
 v4:=Tryz.zeroValue4
 t5:=underlying5
 a5:=Tryz.isAgg5
 z5:=Tryz.sizeOf5
 v5:=Tryz.zeroValue5
 t9:=underlying9
 a9:=Tryz.isAgg9
 z9:=Tryz.sizeOf9
 v9:=Tryz.zeroValue9
 t20:=underlying20
 a20:=Tryz.isAgg20
 z20:=Tryz.sizeOf20
 v20:=Tryz.zeroValue20
 t37:=underlying41
 a37:=Tryz.isAgg41
 z37:=Tryz.sizeOf41
 v37:=Tryz.zeroValue41
 t46:=underlying262
 a46:=Tryz.isAgg262
 z46:=Tryz.sizeOf262
 v46:=Tryz.zeroValue262
 t51:=underlying186
 a51:=Tryz.isAgg186
 z51:=Tryz.sizeOf186
 v51:=Tryz.zeroValue186
 t53:=underlying184
 a53:=Tryz.isAgg184
 z53:=Tryz.sizeOf184
 v53:=Tryz.zeroValue184
 t171:=underlying393
 a171:=Tryz.isAgg393
 z171:=Tryz.sizeOf393
 v171:=Tryz.zeroValue393
 t173:=underlying395
 a173:=Tryz.isAgg395
 z173:=Tryz.sizeOf395
 v173:=Tryz.zeroValue395
 t212:=underlying436
 a212:=Tryz.isAgg436
 z212:=Tryz.sizeOf436
 v212:=Tryz.zeroValue436
 t213:=underlying437
 a213:=Tryz.isAgg437
 z213:=Tryz.sizeOf437
 t232:=underlying467
 a232:=Tryz.isAgg467
 z232:=Tryz.sizeOf467
 v232:=Tryz.zeroValue467
 t233:=underlying468
 a233:=Tryz.isAgg468
 z233:=Tryz.sizeOf468
 v233:=Tryz.zeroValue468
 g17:=by kernel_rfl
 g18:=by kernel_rfl
 g19:=by kernel_rfl
 i0:=by kernel_rfl
 i2:=by kernel_rfl
 i3:=by kernel_rfl
 i4:=by kernel_rfl
 i5:=by kernel_rfl
 i9:=by kernel_rfl
 i20:=by kernel_rfl
 i37:=by kernel_rfl
 i46:=by kernel_rfl
 i51:=by kernel_rfl
 i53:=by kernel_rfl
 i171:=by kernel_rfl
 i173:=by kernel_rfl
 i212:=by kernel_rfl
 i232:=by kernel_rfl
 i233:=by kernel_rfl
 m17:=by kernel_rfl
 m18:=by kernel_rfl
 m19:=by kernel_rfl}
open Go.RowKit Go.Sort Go.Lib in
theorem Tryz.strconv_Itoa (n:Int) (h0: -9223372036854775808≤n) (h1:n≤9223372036854775807) (w:World) (htab:Lib.TabIs prog w "internal/strconv.uint64pow10" .u64 Lib.pow10Tab) :
  Calls prog 182 #[.int .i64 n] w fun e w'=>e=.returned (.string ⟨(Lib.itoa n).toArray⟩)∧∃k os,w'=grow (w.drewN k) os:=Any.strconv_Itoa Tryz.laysM171 n h0 h1 w htab
def Tryz.lays171_ren:Go.Shelf.Ren:=⟨fun|171=>182|243=>241|246=>283|283=>320|284=>321|285=>322|286=>323|129=>310|317=>362|318=>363|319=>364|320=>365|337=>385|338=>386|n=>n,fun|3=>3|9=>9|2=>2|4=>4|171=>393|0=>0|53=>184|37=>41|5=>5|173=>395|212=>436|51=>186|20=>20|213=>437|46=>262|232=>467|233=>468|n=>n,fun|17=>6|18=>7|19=>8|n=>n⟩
theorem Tryz.lays171:Go.Proofs.Lays.n171 prog Tryz.lays171_ren:={
 mixed:=by kernel_rfl
 f129:=func310.trans (congrArg some (by kernel_rfl))
 f171:=func182.trans (congrArg some (by kernel_rfl))
 f243:=func241.trans (congrArg some (by kernel_rfl))
 f246:=func283.trans (congrArg some (by kernel_rfl))
 f283:=func320.trans (congrArg some (by kernel_rfl))
 f284:=func321.trans (congrArg some (by kernel_rfl))
 f285:=func322.trans (congrArg some (by kernel_rfl))
 f286:=func323.trans (congrArg some (by kernel_rfl))
 f317:=func362.trans (congrArg some (by kernel_rfl))
 f318:=func363.trans (congrArg some (by kernel_rfl))
 f319:=func364.trans (congrArg some (by kernel_rfl))
 f320:=func365.trans (congrArg some (by kernel_rfl))
 f337:=func385.trans (congrArg some (by kernel_rfl))
 f338:=func386.trans (congrArg some (by kernel_rfl))
 t0:=underlying0
 a0:=Tryz.isAgg0
 z0:=Tryz.sizeOf0
 v0:=Tryz.zeroValue0
 t2:=underlying2
 a2:=Tryz.isAgg2
 z2:=Tryz.sizeOf2
 v2:=Tryz.zeroValue2
 t3:=underlying3
 a3:=Tryz.isAgg3
 z3:=Tryz.sizeOf3
 v3:=Tryz.zeroValue3
 t4:=underlying4
 a4:=Tryz.isAgg4
 z4:=Tryz.sizeOf4
 v4:=Tryz.zeroValue4
 t5:=underlying5
 a5:=Tryz.isAgg5
 z5:=Tryz.sizeOf5
 v5:=Tryz.zeroValue5
 t9:=underlying9
 a9:=Tryz.isAgg9
 z9:=Tryz.sizeOf9
 v9:=Tryz.zeroValue9
 t20:=underlying20
 a20:=Tryz.isAgg20
 z20:=Tryz.sizeOf20
 v20:=Tryz.zeroValue20
 t37:=underlying41
 a37:=Tryz.isAgg41
 z37:=Tryz.sizeOf41
 v37:=Tryz.zeroValue41
 t46:=underlying262
 a46:=Tryz.isAgg262
 z46:=Tryz.sizeOf262
 v46:=Tryz.zeroValue262
 t51:=underlying186
 a51:=Tryz.isAgg186
 z51:=Tryz.sizeOf186
 v51:=Tryz.zeroValue186
 t53:=underlying184
 a53:=Tryz.isAgg184
 z53:=Tryz.sizeOf184
 v53:=Tryz.zeroValue184
 t171:=underlying393
 a171:=Tryz.isAgg393
 z171:=Tryz.sizeOf393
 v171:=Tryz.zeroValue393
 t173:=underlying395
 a173:=Tryz.isAgg395
 z173:=Tryz.sizeOf395
 v173:=Tryz.zeroValue395
 t212:=underlying436
 a212:=Tryz.isAgg436
 z212:=Tryz.sizeOf436
 v212:=Tryz.zeroValue436
 t213:=underlying437
 a213:=Tryz.isAgg437
 z213:=Tryz.sizeOf437
 t232:=underlying467
 a232:=Tryz.isAgg467
 z232:=Tryz.sizeOf467
 v232:=Tryz.zeroValue467
 t233:=underlying468
 a233:=Tryz.isAgg468
 z233:=Tryz.sizeOf468
 v233:=Tryz.zeroValue468
 g17:=by kernel_rfl
 g18:=by kernel_rfl
 g19:=by kernel_rfl}
open Go.RowKit Go.Sort Go.Lib in
theorem Tryz.strconv_Itoa_small (i:Nat) (hi:i<100) (w:World) :
  Calls prog 182 #[.int .i64 i] w fun e w'=>e=.returned (.string ⟨(Lib.decDigits i).toArray⟩)∧w'=w:=Any.strconv_Itoa_small Tryz.lays171 i hi w
open Go.RowKit Go.Lib in
open Go.RowKit Go.Lib in
open Go.RowKit Go.Lib in
open Go.RowKit Go.Lib in
def Tryz.lays219_ren:Go.Shelf.Ren:=⟨fun|219=>176|217=>226|225=>227|224=>228|267=>229|266=>274|314=>275|n=>n,fun|9=>9|3=>3|4=>4|5=>5|46=>262|146=>348|51=>186|n=>n,fun|1=>0|n=>n⟩
theorem Tryz.lays219:Go.Proofs.Lays.n219 prog Tryz.lays219_ren:={
 mixed:=by kernel_rfl
 f217:=func226.trans (congrArg some (by kernel_rfl))
 f219:=func176.trans (congrArg some (by kernel_rfl))
 f224:=func228.trans (congrArg some (by kernel_rfl))
 f225:=func227.trans (congrArg some (by kernel_rfl))
 f266:=func274.trans (congrArg some (by kernel_rfl))
 f267:=func229.trans (congrArg some (by kernel_rfl))
 f314:=func275.trans (congrArg some (by kernel_rfl))
 t3:=underlying3
 a3:=Tryz.isAgg3
 z3:=Tryz.sizeOf3
 v3:=Tryz.zeroValue3
 t4:=underlying4
 a4:=Tryz.isAgg4
 z4:=Tryz.sizeOf4
 v4:=Tryz.zeroValue4
 t5:=underlying5
 a5:=Tryz.isAgg5
 z5:=Tryz.sizeOf5
 v5:=Tryz.zeroValue5
 t9:=underlying9
 a9:=Tryz.isAgg9
 z9:=Tryz.sizeOf9
 v9:=Tryz.zeroValue9
 t46:=underlying262
 a46:=Tryz.isAgg262
 z46:=Tryz.sizeOf262
 v46:=Tryz.zeroValue262
 t51:=underlying186
 a51:=Tryz.isAgg186
 z51:=Tryz.sizeOf186
 v51:=Tryz.zeroValue186
 t146:=underlying348
 a146:=Tryz.isAgg348
 z146:=Tryz.sizeOf348
 v146:=Tryz.zeroValue348
 g1:=by kernel_rfl}
open Go.RowKit Go.Lib in
theorem Tryz.stringslite_Index_one (s:ByteArray) (c:UInt8) (w:World) :
  Calls prog 176 #[.string s,.string ⟨#[c]⟩] w fun e w'=>e=.returned (.int .i64 (Lib.indexByte s.data.toList c))∧w'=w:=Any.stringslite_Index_one Tryz.lays219 s c w
open Go.RowKit Go.Lib in
open Go.RowKit Go.Lib in
open Go.RowKit Go.Lib in
def Tryz.lays138_ren:Go.Shelf.Ren:=⟨fun|138=>60|195=>120|218=>121|143=>122|219=>176|217=>226|225=>227|224=>228|267=>229|266=>274|314=>275|n=>n,fun|9=>9|3=>3|4=>4|5=>5|0=>0|46=>262|146=>348|51=>186|n=>n,fun|1=>0|n=>n⟩
theorem Tryz.lays138:Go.Proofs.Lays.n138 prog Tryz.lays138_ren:={
 mixed:=by kernel_rfl
 f138:=func60.trans (congrArg some (by kernel_rfl))
 f143:=func122.trans (congrArg some (by kernel_rfl))
 f195:=func120.trans (congrArg some (by kernel_rfl))
 f217:=func226.trans (congrArg some (by kernel_rfl))
 f218:=func121.trans (congrArg some (by kernel_rfl))
 f219:=func176.trans (congrArg some (by kernel_rfl))
 f224:=func228.trans (congrArg some (by kernel_rfl))
 f225:=func227.trans (congrArg some (by kernel_rfl))
 f266:=func274.trans (congrArg some (by kernel_rfl))
 f267:=func229.trans (congrArg some (by kernel_rfl))
 f314:=func275.trans (congrArg some (by kernel_rfl))
 t0:=underlying0
 a0:=Tryz.isAgg0
 z0:=Tryz.sizeOf0
 v0:=Tryz.zeroValue0
 t3:=underlying3
 a3:=Tryz.isAgg3
 z3:=Tryz.sizeOf3
 v3:=Tryz.zeroValue3
 t4:=underlying4
 a4:=Tryz.isAgg4
 z4:=Tryz.sizeOf4
 v4:=Tryz.zeroValue4
 t5:=underlying5
 a5:=Tryz.isAgg5
 z5:=Tryz.sizeOf5
 v5:=Tryz.zeroValue5
 t9:=underlying9
 a9:=Tryz.isAgg9
 z9:=Tryz.sizeOf9
 v9:=Tryz.zeroValue9
 t46:=underlying262
 a46:=Tryz.isAgg262
 z46:=Tryz.sizeOf262
 v46:=Tryz.zeroValue262
 t51:=underlying186
 a51:=Tryz.isAgg186
 z51:=Tryz.sizeOf186
 v51:=Tryz.zeroValue186
 t146:=underlying348
 a146:=Tryz.isAgg348
 z146:=Tryz.sizeOf348
 v146:=Tryz.zeroValue348
 g1:=by kernel_rfl}
open Go.RowKit Go.Lib in
theorem Tryz.strings_Count_one (s:ByteArray) (c:UInt8) (w:World) :
  Calls prog 60 #[.string s,.string ⟨#[c]⟩] w fun e w'=>e=.returned (.int .i64 (Lib.countByte s.data.toList c))∧w'=w:=Any.strings_Count_one Tryz.lays138 s c w
open Go.RowKit Go.Lib in
def Tryz.lays206_ren:Go.Shelf.Ren:=⟨fun|206=>230|n=>n,fun|9=>9|4=>4|3=>3|n=>n,fun|n=>n⟩
theorem Tryz.lays206:Go.Proofs.Lays.n206 prog Tryz.lays206_ren:={
 mixed:=by kernel_rfl
 f206:=func230.trans (congrArg some (by kernel_rfl))
 t3:=underlying3
 a3:=Tryz.isAgg3
 z3:=Tryz.sizeOf3
 v3:=Tryz.zeroValue3
 t4:=underlying4
 a4:=Tryz.isAgg4
 z4:=Tryz.sizeOf4
 v4:=Tryz.zeroValue4
 t9:=underlying9
 a9:=Tryz.isAgg9
 z9:=Tryz.sizeOf9
 v9:=Tryz.zeroValue9}
open Go.RowKit Go.Lib in
theorem Tryz.stringslite_HasPrefix (s p:ByteArray) (w:World) :
  Calls prog 230 #[.string s,.string p] w fun e w'=>e=.returned (.bool (Lib.hasPrefix s.data.toList p.data.toList))∧w'=w:=Any.stringslite_HasPrefix Tryz.lays206 s p w
open Go.RowKit Go.Lib in
end
end Go.Proofs
namespace Go.Proofs.YtdhlicgaalnmoaaGreatDoor.Tp
open Lib (hid)
open Go.Proofs.Tryz
open Go.RowKit Go.Maps
set_option maxHeartbeats 8000000
set_option maxRecDepth 100000
abbrev sNl:ByteArray:=⟨#[10]⟩
abbrev sSp:ByteArray:=⟨#[32]⟩
abbrev sStat:ByteArray:=⟨#[115,116,97,116]⟩
abbrev sStatNl:ByteArray:=⟨#[115,116,97,116,10]⟩
abbrev sOp:ByteArray:=⟨#[111,112,32]⟩
theorem infoStr:(prog.info? 9).map (fun i=>(i.zero,i.size,i.bytes))=some (some (.string ⟨#[]⟩),1,16):=by kernel_rfl
theorem made1S:madeCells #[Value.string ⟨#[]⟩] 1=#[Value.string ⟨#[]⟩]:=by first|rfl|kernel_rfl
theorem run_make1S (W:World):(Instr.makeSlice 209 (.int .i64 1) (.int .i64 1)).run prog W=.ok (.slice (some ⟨W.heap.size,0,none⟩) 1 1) (W.alloc (.cells #[Value.string ⟨#[]⟩] 9)):=by
 obtain⟨i0,hi,hz0,hz1,hz2⟩:=info_parts infoStr;have h:=run_make (P:=prog) W 209 9 i0 (.string ⟨#[]⟩) underlying209 hi hz0 .i64 .i64 1 1 (by omega) (by omega) (by rw[hz2];omega) (by omega);rw[hz1] at h;exact h.trans (by rw[show (Value.string ⟨#[]⟩).cells=#[Value.string ⟨#[]⟩] from rfl];exact congrArg (fun c=>Result.ok _ (W.alloc (.cells c 9))) made1S)
theorem slcut_stat (w:World):Calls prog 123 #[.string sStatNl,.string sNl] w fun e w'=>e=.returned (.tuple #[.string sStat,.string ⟨#[]⟩,.bool true])∧nD w w':=by
 have hi:=Tryz.stringslite_Index_one sStatNl 10 w;have hv:Lib.indexByte sStatNl.data.toList 10=4:=by decide
 rw[hv] at hi;clear hv;go_enter func123,ntmps123
 go_wp2_with fail
 refine hi.mono ?_;rintro e w' ⟨rfl,rfl⟩;clear hi;go_wp2_with fail
 go_quiet (fail)
 go_wp2_with fail
 go_ret3
 exact⟨rfl,Vw nB _⟩
theorem slcutp_stat (w:World):Calls prog 177 #[.string sStat,.string sOp] w fun e w'=>e=.returned (.tuple #[.string sStat,.bool false])∧w=w':=by
 have hi:=Tryz.stringslite_HasPrefix sStat sOp w;have hv:Lib.hasPrefix sStat.data.toList sOp.data.toList=false:=by decide
 rw[hv] at hi;clear hv;go_enter func177,ntmps177
 go_wp2_with fail
 refine hi.mono ?_;rintro e w' ⟨rfl,rfl⟩;clear hi;go_wp2_with fail
 go_ret2
 exact⟨rfl,rfl⟩
theorem cutp_stat (w:World):Calls prog 124 #[.string sStat,.string sOp] w fun e w'=>e=.returned (.tuple #[.string sStat,.bool false])∧w=w':=by
 go_enter func124,ntmps124
 go_wp2_with fail
 refine(slcutp_stat w).mono ?_;rintro e w' ⟨rfl,rfl⟩;go_wp2_with fail
 go_ret2
 exact⟨rfl,rfl⟩
theorem split_stat (w:World):Calls prog 180 #[.string sStat,.string sSp,.int .i64 0,.int .i64 (-1)] w fun e w'=>e=.returned (.slice (some ⟨w.heap.size,0,none⟩) 1 1)∧Bk w' w.heap.size 9 [.string sStat]∧nD w w':=by
 have hi:=Tryz.strings_Count_one sStat 32 w;have hv:Lib.countByte sStat.data.toList 32=0:=by decide
 rw[hv] at hi;clear hv;go_enter func180,ntmps180
 go_wp2_with fail
 have hmk:=run_make1S;have hmin:min (1:Int) 5=1:=by decide
 refine hi.mono ?_;rintro e w' ⟨rfl,rfl⟩;clear hi;obtain⟨gs,w6,hzw6,hw6,Bw6,bw6⟩:=Xy w' 9 [.string ⟨#[]⟩];have c0:=Bw6.cell (i:=0) (by simp);simp only[tI,tJ] at c0;have q0:=Bw6.free 0;have HE:=hid (show Bk (w6.setCell ⟨gs,0,none⟩ (.string sStat)) gs 9 [.string sStat]∧nD w' (w6.setCell ⟨gs,0,none⟩ (.string sStat)) from⟨Bw6.set 0 _,bw6.setCell (p:=⟨gs,0,none⟩) (tO hzw6) _⟩);clear bw6;go_wp2_with fail
 go_loopw [0,10] (fun sv iv wr=>sv=.string sStat∧iv=.int .i64 0∧w6=wr) (fun _ iv _=>0)
 case atStart=>exact⟨rfl,rfl,rfl⟩
 case round =>
  obtain⟨rfl,rfl,rfl⟩:=hrel;go_wp2_with fail
  go_ret;exact⟨by rw[hzw6];rfl,by rw[hzw6];exact HE.o.1,HE.o.2⟩
theorem numbers_none (w:World) (A:Option Addr) (c:Nat):Calls prog 127 #[.slice A 0 c] w fun e w'=>e=.returned (.tuple #[.slice none 0 0,.bool true])∧w=w':=by
 go_enter func127,ntmps127
 go_wp2_with fail
 go_loopw [2,10] (fun ov iv wr=>ov=.slice none 0 0∧iv=.int .i64 0∧w=wr) (fun _ iv _=>0)
 case atStart=>exact⟨rfl,rfl,rfl⟩
 case round =>
  obtain⟨rfl,rfl,rfl⟩:=hrel;go_wp2_with fail
  go_ret2
  exact⟨rfl,rfl⟩
abbrev sStats:ByteArray:=⟨#[108,97,115,116,32,48,32,111,112,101,110,32,48,32,113,117,101,117,101,32,48,32,98,108,111,99,107,115,32,50,53,56]⟩
abbrev s0:ByteArray:=⟨#[48]⟩
abbrev lWords:List ByteArray:=[⟨#[108,97,115,116]⟩,s0,⟨#[111,112,101,110]⟩,s0,⟨#[113,117,101,117,101]⟩,s0,⟨#[98,108,111,99,107,115]⟩,⟨#[50,53,56]⟩]
theorem words_join:Lib.join (lWords.map (·.data.toList)) sSp.data.toList=sStats.data.toList:=by first|rfl|decide
theorem words_at {w:World} {bk:Nat} (h:Bk w bk 9 (lWords.map Value.string)):∀(j:Nat) x,lWords[j]? =some x→w.cell? ⟨bk,0+j,none⟩=some (.string x):=fun j x hx=>by
 have hl:j<lWords.length:=(rB.1 hx).1;have:=h.cell (i:=j) (by rw[rU];exact hl);rw[Nat.zero_add,this,rV,(rB.1 hx).2]
section
open Go.Lib
theorem wp_appStr {P:Program} (w:World) {o:Oper} {a:Act} {K:Act→World→Prop} {Q:Exit→Act→World→Prop} (sl x:Operand) (t u:TypeId)
  (ho:o.op=.call {callee:=.builtin .append,args:=#[sl,x],argTypes:=#[t,u]})
  (base:Nat) (e:TypeId) (i:TypeInfo) (ht:P.underlying t=some (.slice e)) (hu:P.underlying u=some .string) (hi:P.info? e=some i) (hz:i.zero=some (.int .u8 0))
  (hsize:i.size=1) (hby:i.bytes=1)
  (v:Value) (n:Nat) (xs:List Value) (hs:a.eval sl=v) (hown:w.ownsRow base e 1 v n xs) (s:ByteArray) (hx:a.eval x=.string s)
  (h63:n+s.size≤maxLen) (hbytes:n+s.size≤140737488355328) (hbase:base≤w.heap.size)
  (h:∀v' w',w'.ownsRow base e 1 v' (n+s.size) (xs++strCells s)→w.grownBy w' v.ownBlock→K (a.put o.dst v') w'):o.wp P a w K Q:=by
 obtain⟨v',w',hr,h2,h3,h4⟩:=run_append_own_string (P:=P) w base t u o.type e i ht hu hi hz hsize hby v n xs hown s h63 hbytes hbase;unfold Oper.wp execOp
 simp only[ho,resolve,invoke,builtin,Sem.run_bind,Sem.run_pure,Result.andThen_ok,List.map_toArray,List.map_cons,List.map_nil,hs,hx,hr];exact h v' w' h2 h3
end
theorem say_end {w w6 w9:World} {sh sb:Nat} {yA:Option Addr} {yc:Nat} {v9:Value} (h1:Bk w6 sh 121 [.pointer (some ⟨sb,0,none⟩),.slice yA 32 yc]) (h2:w6.ownsRow w.heap.size 5 1 (.slice yA 32 yc) 32 (Lib.strCells sStats)) (hl:sh<w.heap.size) (hb:Below sh w w6)
  (hO:w9.ownsRow w.heap.size 5 1 v9 (32+1) (Lib.strCells sStats++[.int .u8 10])) (hG:(w6.alloc (.cells #[.int .u8 10] 5)).grownBy w9 (Value.slice yA 32 yc).ownBlock) :
  Bk (w9.setCell ⟨sh,1,none⟩ v9) sh 121 [.pointer (some ⟨sb,0,none⟩),v9]∧(w9.setCell ⟨sh,1,none⟩ v9).ownsRow w.heap.size 5 1 v9 33 (Lib.strCells sStats++[.int .u8 10])∧Below sh w (w9.setCell ⟨sh,1,none⟩ v9)∧w9.cell? ⟨sh,1,none⟩=some (.slice yA 32 yc)∧w9.frozen? ⟨sh,1,none⟩=false:=by
 have hA:nD w6 (w6.alloc (.cells #[.int .u8 10] 5)):=nB.alloc lR _;have bA:=h1.next hA h1.lt;have ge:∀g,(Value.slice yA 32 yc).ownBlock=some g→w.heap.size≤g:=fun g e=>Xv h2 e
 have B9:Bk w9 sh 121 [.pointer (some ⟨sb,0,none⟩),.slice yA 32 yc]:=(hG.block _ bA.lt (fun e=>by have:=ge _ e.symm;omega)).trans bA;have b9:Below sh w w9:=(hb.trans (hA.mono (tK (tU hl) hb.size))).grown hG (tU (tL hl (tK hb.size hA.size))) (fun g e=>tK (tU hl) (ge g e));exact⟨B9.set 1 _,aKk hO hl _,b9.setCell (p:=⟨sh,1,none⟩) lR _,B9.cell (i:=1) (by simp),B9.free 1⟩
theorem say_any {w:World} {sh sb bk c:Nat} (hB:Bk w sh 121 [.pointer (some ⟨sb,0,none⟩),.slice none 0 0]) (hR:Bk w bk 9 (lWords.map Value.string)) (hc:8≤c) :
  Calls prog 63 #[.pointer (some ⟨sh,0,none⟩),.slice (some ⟨bk,0,none⟩) 8 c] w fun e w'=>e=.returned (.tuple #[])∧∃v,Bk w' sh 121 [.pointer (some ⟨sb,0,none⟩),v]∧w'.ownsRow w.heap.size 5 1 v 33 (Lib.strCells sStats++[.int .u8 10])∧Below sh w w':=by
 obtain⟨xi,hxi,hxz,hx5,hx56⟩:=info_parts aBq;obtain⟨xi7,xz7,hxi7,hxz7,hx57,hx567,hxc7⟩:∃i z,prog.info? 5=some i∧i.zero=some z∧i.size=1∧i.bytes=1∧z.cells.size=1:=⟨xi,_,hxi,hxz,hx5,hx56,rfl⟩
 have HL:=hid hB.lt;have HR:=hid hR;have HC:=hid hc;have KK:=hid (fun (w':World) (hS:Bk w' sh 121 [.pointer (some ⟨sb,0,none⟩),.slice none 0 0]∧nD w w')=>(show w'.cell? ⟨sh,1,none⟩=some (.slice none 0 0) from hS.1.cell (i:=1) (by simp)));go_enter func63,ntmps63
 go_wp2_with fail
 have Kq:=KK;refine aAn (fun w'=>Bk w' sh 121 [.pointer (some ⟨sb,0,none⟩),.slice none 0 0]∧nD w w') 10 (by kernel_rfl) (⟨hB.drew,Xu nB⟩) (fun nE=>?_);refine kL 0 ?_;refine kL 1 ?_;refine kL 2 ?_;refine kL 3 ?_;refine kL 4 ?_;refine kL 5 ?_;refine rL 6 (fun K hK=>?_);go_simp;refine(Tryz.strings_Join bk 0 c lWords sSp _ (words_at (HR.o.next nE.2 HR.o.lt)) (HR.o.next nE.2 HR.o.lt).lt (by decide) HC.o (by rw[words_join];decide)).mono ?_;rintro e w4 ⟨rfl,hb4⟩;rw[words_join];have hS4:Bk w4 sh 121 [.pointer (some ⟨sb,0,none⟩),.slice none 0 0]∧nD w w4:=⟨(nE.1.next hb4 nE.1.lt),nE.2.trans (hb4.mono nE.2.size)⟩;clear hb4;go_simp;refine hK.out _ _ (fun _=>hS4) ?_;clear hK K nE;have nE:=hS4;try simp only[Act.put,tC,tD,tE]
 refine rL 7 (fun K hK=>?_);refine aAf rfl (wp_appStr w4 _ _ 41 9 rfl w.heap.size 5 xi underlying41 underlying9 hxi hxz hx5 hx56 (.slice none 0 0) 0 [] (by rfl) ⟨rfl,.inl ⟨rfl,rfl⟩⟩ sStats (by rfl) (by decide) (by decide) hS4.2.size ?_);intro v5 w5 hO5 hG5;have hS5:Bk w5 sh 121 [.pointer (some ⟨sb,0,none⟩),.slice none 0 0]∧nD w w5:=⟨(hG5.block _ hS4.1.lt (fun e=>by cases e)).trans hS4.1,hS4.2.grown hG5 hS4.2.size (fun g e=>by cases e)⟩;obtain⟨yA,yc,rfl⟩:=Xs hO5;have HO:=hid hO5;clear hO5 hG5;refine hK.out _ _ (fun _=>hS5) ?_;clear hK K nE;have nE:=hS5;try simp only[Act.put,tC,tD,tE]
 refine rL 8 (fun K hK=>?_);go_simp;refine hK.out _ _ (fun _=>hS5) ?_;clear hK K nE;have nE:=hS5;try simp only[Act.put,tC,tD,tE]
 refine rL 9 (fun K hK=>?_);go_simp;refine hK.out _ _ (fun _=>hS5) ?_;clear hK K nE;have nE:=hS5;try simp only[Act.put,tC,tD,tE]
 refine rL 10 (fun K hK=>?_);have z1:=nE.1.cell (i:=1) (by simp);simp only[tI,tJ] at z1;have y1:=nE.1.free 1;obtain⟨w6,hw6⟩:=nC (w5.setCell ⟨sh,1,none⟩ (.slice yA 32 yc));have B6:Bk w6 sh 121 [.pointer (some ⟨sb,0,none⟩),.slice yA 32 yc]:=by rw[←hw6];exact nE.1.set 1 _
 have O6:w6.ownsRow w.heap.size 5 1 (.slice yA 32 yc) 32 (Lib.strCells sStats):=by rw[←hw6];exact aKk HO.o HL.o _
 have b6:Below sh w w6:=by rw[←hw6];exact(nE.2.mono (tU HL.o)).setCell (p:=⟨sh,1,none⟩) lR _
 have z6:=B6.cell (i:=1) (by simp);simp only[tI,tJ] at z6;have HE6:=nH B6 O6 b6;clear B6 O6 b6;go_simp;try rw[hw6]
 refine hK.out _ _ (fun h=>absurd rfl h) ?_;clear hK K;try simp only[Act.put,tC,tD,tE]
 refine aAz (by kernel_rfl) ?_ _;clear Kq;clear z1 y1 hS4 hS5 hB hR hc;go_wp2_with (at_builtin;go_must (refine aAc _ rfl _ _ 41 rfl w.heap.size 5 xi7 xz7 1 1 underlying41 hxi7 hxz7 hx57 hx567 hxc7 (by decide) _ _ _ (by rfl) (by exact Vg HE6.o.2.1 (nB.alloc lR _)) _ [.int .u8 10] (by rfl) (by exact Bk.new _ _ _) rfl (by intro u hu;simp at hu;rcases hu with rfl<;>rfl) (by omega) (by decide) (by exact tK HE6.o.2.2.size (by simp)) ?_);intro v9 w9 hO9 hG9 hn9;obtain⟨A9,c9,rfl⟩:=Xs hO9;have HE:=hid (say_end HE6.o.1 HE6.o.2.1 HL.o HE6.o.2.2 hO9 hG9);have z9:=HE.o.2.2.2.1;have y9:=HE.o.2.2.2.2;clear hO9 hG9 hn9)
 go_end0
 exact⟨rfl,_,HE.o.1,HE.o.2.1,HE.o.2.2.1⟩
theorem dec0:(Lib.decDigits 0).toArray=#[48]:=by rw[Lib.decDigits,dif_pos (by decide)];rfl
theorem ito258:(Lib.itoa 258).toArray=#[50,53,56]:=by
 have h:Lib.itoa 258=Lib.decDigits 258:=by unfold Lib.itoa;rw[if_neg (by decide)];rfl
 rw[h,Lib.decDigits,dif_neg (by decide),show 258 / 10=25 from rfl,Lib.decDigits,dif_neg (by decide),show 25 / 10=2 from rfl,Lib.decDigits,dif_pos (by decide)];rfl
theorem itoa_0 (w:World):Calls prog 182 #[.int .i64 0] w fun e w'=>e=.returned (.string s0)∧w=w':=(Tryz.strconv_Itoa_small 0 (by decide) w).mono fun e w' h=>⟨by rw[h.1,dec0],h.2.symm⟩
theorem itoa_258 (w:World) (hp:Pow w):Calls prog 182 #[.int .i64 258] w fun e w'=>e=.returned (.string ⟨#[50,53,56]⟩)∧nD w w':=(Tryz.strconv_Itoa 258 (by decide) (by decide) w hp).mono fun e w' h=>⟨by rw[h.1,ito258],by
 obtain⟨k,os,rfl⟩:=h.2;exact Lib.below_grow _ _ lR k os⟩
theorem bare_any {w:World} {F:Xt} {sh sb:Nat} (hS:Ue w F sb ss0 5) (hp:Pow w) (hB:Bk w sh 121 [.pointer (some ⟨sb,0,none⟩),.slice none 0 0]) :
  Calls prog 129 #[.pointer (some ⟨sh,0,none⟩),.string sStat] w fun e w'=>e=.returned (.bool true)∧∃v,Bk w' sh 121 [.pointer (some ⟨sb,0,none⟩),v]∧(∃B,w'.ownsRow B 5 1 v 33 (Lib.strCells sStats++[.int .u8 10]))∧Below sh w w':=by
 have hst:=bAs hS;obtain⟨c0,c1⟩:=hB.c2;have HB:=nF hB hp;clear hS hp hB;go_enter func129,ntmps129
 go_wp2_with fail
 refine hst.mono ?_;rintro e w' ⟨⟨st,Fs,dv,rfl,Ft,gd,mb,gs,num,count,ns,-,hx⟩,rfl⟩;have hla:=bCb hx;have HX:=hid hx;clear hst hx;go_wp2_with fail
 refine hla.mono ?_;rintro e w' ⟨rfl,rfl⟩;clear hla;have e0:((ss0.m.last:Nat):Int)=0:=rfl;rw[e0];clear e0;go_wp2_with fail
 refine(itoa_0 _).mono ?_;rintro e w' ⟨rfl,rfl⟩;have hop:=bGy HX.o;go_wp2_with fail
 refine hop.mono ?_;rintro e w2 ⟨⟨k,rfl,hk⟩,hb2⟩;obtain rfl:k=0:=hk rfl;clear hop hk;go_wp2_with fail
 refine(itoa_0 _).mono ?_;rintro e w' ⟨rfl,rfl⟩;have hqu:=bEz (HX.o.next hb2);go_wp2_with fail
 refine hqu.mono ?_;rintro e w' ⟨rfl,rfl⟩;clear hqu;have e0:((ss0.m.queue.length:Nat):Int)=0:=rfl;rw[e0];clear e0;go_wp2_with fail
 refine(itoa_0 _).mono ?_;rintro e w' ⟨rfl,rfl⟩;have hbl:=bAn (HX.o.next hb2);go_wp2_with fail
 refine hbl.mono ?_;rintro e w3 ⟨rfl,hb3⟩;have hb13:=hb2.trans (hb3.mono hb2.size);have hito:=itoa_258 _ (HB.o.2.next hb13);clear hbl;go_wp2_with fail
 refine hito.mono ?_;rintro e w4 ⟨rfl,hb4⟩;have hb14:=hb13.trans (hb4.mono hb13.size);obtain⟨bk,w5,hzw5,hw5,Bw5,bw5⟩:=Xy w4 9 [.string ⟨#[108,97,115,116]⟩,.string s0,.string ⟨#[111,112,101,110]⟩,.string s0,.string ⟨#[113,117,101,117,101]⟩,.string s0,.string ⟨#[98,108,111,99,107,115]⟩,.string ⟨#[50,53,56]⟩];have hb15:=hb14.trans (bw5.mono hb14.size);have hsay:=say_any (HB.o.1.next hb15 HB.o.1.lt) (by exact Bw5) (Nat.le_refl 8);have H5:=nF hb15 HB.o.1.lt;clear hito hb13 hb14 hb4 hb3 hb2 bw5 hb15;go_wp2_with fail
 refine hsay.mono ?_;rintro e w6 ⟨rfl,v,h1,h2,h3⟩;have HE:=nH h1 h2 ((H5.o.1.mono (tU H5.o.2)).trans h3);clear hsay h1 h2 h3;go_wp2_with fail
 go_ret;exact⟨rfl,v,HE.o.1,⟨_,HE.o.2.1⟩,HE.o.2.2⟩
theorem cut_stat (w:World):Calls prog 61 #[.string sStatNl,.string sNl] w fun e w'=>e=.returned (.tuple #[.string sStat,.string ⟨#[]⟩,.bool true])∧nD w w':=by
 go_enter func61,ntmps61
 go_wp2_with fail
 refine(slcut_stat w).mono ?_;rintro e w' ⟨rfl,hb⟩;go_wp2_with fail
 go_ret3
 exact⟨rfl,hb⟩
theorem split1_stat (w:World):Calls prog 126 #[.string sStat,.string sSp] w fun e w'=>e=.returned (.slice (some ⟨w.heap.size,0,none⟩) 1 1)∧Bk w' w.heap.size 9 [.string sStat]∧nD w w':=by
 go_enter func126,ntmps126
 go_wp2_with fail
 refine(split_stat w).mono ?_;rintro e w' ⟨rfl,h1,h2⟩;go_wp2_with fail
 go_ret;exact⟨rfl,h1,h2⟩
def AnsR (w:World) (v:Value):Prop:=∃B,w.ownsRow B 5 1 v 33 (Lib.strCells sStats++[.int .u8 10])
theorem line_any {w:World} {F:Xt} {sh sb:Nat} (hS:Ue w F sb ss0 5) (hp:Pow w) (hB:Bk w sh 121 [.pointer (some ⟨sb,0,none⟩),.slice none 0 0]) :
  Calls prog 62 #[.pointer (some ⟨sh,0,none⟩),.string sStat] w fun e w'=>e=.returned (.bool true)∧∃v,Bk w' sh 121 [.pointer (some ⟨sb,0,none⟩),v]∧AnsR w' v∧Below sh w w':=by
 have HS:=nH hS hp hB;clear hS hp hB;go_enter func62,ntmps62
 go_wp2_with fail
 refine(cutp_stat w).mono ?_;rintro e w' ⟨rfl,rfl⟩;go_wp2_with fail
 refine(split1_stat w).mono ?_;rintro e w2 ⟨rfl,h1,h2⟩;obtain⟨gl,hgl⟩:=nC (w.heap.size);rw[hgl] at h1;rw[hgl];have c0:=h1.cell (i:=0) (by simp);simp only[tI] at c0;have hba:=bare_any (HS.o.1.next h2) (HS.o.2.1.next h2) (HS.o.2.2.next h2 HS.o.2.2.lt);have H2:=hid (h2.mono (tU HS.o.2.2.lt));clear h1 h2;go_wp2_with fail
 refine(numbers_none _ _ _).mono ?_;rintro e w' ⟨rfl,rfl⟩;go_wp2_with fail
 refine hba.mono ?_;rintro e w6 ⟨rfl,v,k1,k2,k3⟩;have HE:=hid (show ∃v,Bk w6 sh 121 [.pointer (some ⟨sb,0,none⟩),v]∧AnsR w6 v∧Below sh w w6 from⟨v,k1,k2,H2.o.trans k3⟩);clear hba k1 k2 k3;go_wp2_with fail
 go_ret;exact⟨rfl,HE.o⟩
def lAns:List UInt8:=[108,97,115,116,32,48,32,111,112,101,110,32,48,32,113,117,101,117,101,32,48,32,98,108,111,99,107,115,32,50,53,56,10]
theorem ans_cells:Lib.strCells sStats++[Value.int .u8 10]=lAns.map fun b=>Value.int .u8 (b.toNat:Int):=by first|rfl|decide
theorem ans_conv {w:World} {v:Value} (h:AnsR w v):∃g c,v=.slice (some ⟨g,0,none⟩) 33 c∧(convert 41 9 v).run prog w=.ok (.string ⟨lAns.toArray⟩) w:=by
 obtain⟨B,ho⟩:=h;obtain⟨g,c,rfl,-,-⟩:=ho.form (by decide);refine⟨g,c,rfl,?_⟩;exact run_convert_bytes_back w 41 9 5 ⟨g,0,none⟩ c lAns underlying41 underlying5 underlying9 (fun j hj=>ho.cells (g:=g) rfl j _ (by rw[ans_cells,rW,tX hj];rfl))
def plM (v:Value):Nat:=match v with
 | .string s=>s.size
 | _=>0
def PlI (w w4:World) (sh sb:Nat) (tv:Value) (wr:World):Prop:=(tv=.string sStatNl∧w4=wr)∨(tv=.string ⟨#[]⟩∧∃v,Bk wr sh 121 [.pointer (some ⟨sb,0,none⟩),v]∧AnsR wr v∧nD w wr)
theorem play_any (w:World) (hp:Pow w):Calls prog 27 #[.string sStatNl] w fun e w'=>e=.returned (.string ⟨lAns.toArray⟩)∧nD w w':=by
 obtain⟨sh,w1,hzw1,hw1,Bw1,bw1⟩:=Xy w 121 [.pointer none,.slice none 0 0];obtain⟨c0,c1⟩:=Bw1.c2;have q0:=Bw1.free 0;have q1:=Bw1.free 1;have hn:=bCd w1;have H1:=nI hp Bw1 bw1 (tO hzw1);clear hp bw1 Bw1;go_enter func27,ntmps27
 go_wp2_with fail
 go_step3;go_wp2_with fail
 refine hn.mono ?_;rintro e w2 ⟨sb,rfl,F,hB,hb2,hF⟩;have B2:=H1.o.2.1.next hb2 H1.o.2.1.lt;obtain⟨e0,e1⟩:=B2.c2;have g0:=B2.free 0;have g1:=B2.free 1;obtain⟨w3,hw3⟩:=nC (w2.setCell ⟨sh,0,none⟩ (.pointer (some ⟨sb,0,none⟩)))
 have H3:=hid (show Ue w3 F sb ss0 5∧Pow w3∧Bk w3 sh 121 [.pointer (some ⟨sb,0,none⟩),.slice none 0 0]∧nD w w3 from by
  have b2:nD w w2:=H1.o.2.2.1.trans (hb2.mono H1.o.2.2.1.size);have hsl:sh<w1.heap.size:=H1.o.2.1.lt;have b3:nD w w3:=by rw[←hw3];exact b2.setCell (p:=⟨sh,0,none⟩) (tO hzw1) _
  exact⟨hB.ag (by rw[←hw3];exact((Kf.refl (fun b=>b=sh) w2).set B2 (by decide) (.inl rfl) 0 _).ag (fun b q r=>by have:=hF b q;have r:b=sh:=r;omega)),H1.o.1.next b3,by rw[←hw3];exact B2.set 0 _,b3⟩)
 clear hn hB hb2 hF B2;have hct:=Tryz.strings_Count_one sStatNl 10 w3;have hv:Lib.countByte sStatNl.data.toList 10=1:=by decide
 rw[hv] at hct;clear hv;go_wp2_with fail
 refine hct.mono ?_;rintro e w4 ⟨rfl,rfl⟩;clear hct e0 e1 g0 g1 c0 c1 q0 q1 hw3 hw1 H1;go_wp2_with fail
 go_step3;go_wp2_with fail
 go_loopw [0] (fun tv wr=>Hid (PlI w w4 sh sb tv wr)) (fun tv _=>plM tv)
 case atStart=>exact hid (.inl ⟨rfl,rfl⟩)
 case round =>
  rcases hrel.out with ⟨rfl,rfl⟩|⟨rfl,HY⟩
  · go_wp2_with fail
    refine(cut_stat _).mono ?_;rintro e w5 ⟨rfl,hb5⟩;have hli:=line_any (H3.o.1.next hb5) (H3.o.2.1.next hb5) (H3.o.2.2.1.next hb5 H3.o.2.2.1.lt);have H5:=hid (H3.o.2.2.2.trans (hb5.mono H3.o.2.2.2.size));clear hb5;go_wp2_with fail
    refine hli.mono ?_;rintro e w6 ⟨rfl,v,k1,k2,k3⟩;have HE:=hid (show ∃v,Bk w6 sh 121 [.pointer (some ⟨sb,0,none⟩),v]∧AnsR w6 v∧nD w w6 from⟨v,k1,k2,H5.o.trans (k3.mono (tO hzw1))⟩);clear hli k1 k2 k3;go_wp2_with fail
    go_roundw
    case rel=>exact⟨_,_,_,_,_,_,_,_,_,_,_,_,_,_,_,_,_,_,_,_,_,_,_,_,_,_,_,hid (.inr ⟨rfl,HE.o⟩),rfl⟩
    case measure=>show (0:Nat)<5;decide
  · obtain⟨v,k1,k2,k3⟩:=HY;obtain⟨gv,cv,rfl,hcv⟩:=ans_conv k2;obtain⟨d0,d1⟩:=k1.c2;have HE:=hid k3;clear k1 k2 k3 hrel;go_wp2_with fail
    rw[Exit.noGoto_ret];go_ret;exact⟨rfl,HE.o⟩
section
open Go.ChangeShapes Go.WideShapes Go.Deep
variable {P:Program} {H:Type} {enc:TypeId×Value→H} {w:World} {base:Nat} {spare:Nat→Bool} {held:Bool}
theorem slice_cs {α :Type} (f: α→List Value) {k:Nat} (hk:0<k) (hs:∀x,(f x).length=k) {t e:TypeId} (ht:P.underlying t=some (.slice e)) (hc:P.cellsOf e=k) (Pr: α→Prop)
  (each:∀(fuel:Nat) (cs:List Value) (x:DataW H×List MemPlace),DataW.trod enc P w base spare held fuel e cs=some x→cs.length=k→∃a,f a=cs∧Pr a)
  {fuel:Nat} {cs:List Value} {x:DataW H×List MemPlace} (h:DataW.trod enc P w base spare held fuel t cs=some x) :
  ∃A n c,∃l:List α,cs=[.slice A n c]∧l.length=n∧Rd w w.heap.size A (l.flatMap f)∧(∀a∈l,Pr a)∧n≤c∧c≤maxLen∧∀ad,A=some ad→0<n→ad.block<w.heap.size:=by
 have lt:=DataW.trod_lt _ _ _ _ h;rcases open_slice ht h with ⟨hcs,_⟩|⟨a,len,cap,m,n',D,Pl,hcs,hb,hl,hm,hmm,hx,hi⟩
 · exact⟨none,0,0,[],hcs,rfl,Rd.nil _ _ _,by simp,lR,by simp[maxLen],fun _ e=>by cases e⟩
 · have hlm:len≤m:=by rw[hmm];split<;>omega
   obtain⟨l,hlen,hp⟩:=aZi len (fun i (p: α)=>(∀j,j<k→w.cell? (a.add (i*k+j))=(f p)[j]?)∧Pr p) fun i hin=>by
    obtain⟨cs',hcc,htr⟩:=hi i (by omega);rw[hc] at hcc;obtain⟨_,hcl,hat⟩:=World.cells?_some hcc;obtain⟨p,rfl,hp⟩:=each _ _ _ htr hcl;exact⟨p,fun j hj=>by rw[←aBi];exact hat j hj,hp⟩
   have hblk:0<len→a.block<w.heap.size:=fun hn=>by
    have hx2:=(Prod.mk.inj hx).2;exact lt (MemPlace.cell a.block (a.off+0)) (by rw[hx2,hc];exact List.mem_append_left _ (List.mem_map.2 ⟨0,by simp;exact Nat.mul_pos (by omega) hk,rfl⟩))
   refine⟨some a,len,cap,l,hcs,hlen,fun hn=>⟨a,rfl,hblk ?_,fun j u hu=>?_⟩,fun p h=>?_,hl,hm,fun ad e hn=>by injection e with e;subst e;exact hblk hn⟩
   · rw[Vt hs] at hn;rw[←hlen];exact Nat.pos_of_mul_pos_right hn
   · have hjl:j<l.length*k:=by
      obtain⟨hj,_⟩:=rB.1 hu;rwa [Vt hs] at hj
     have hq:j / k<l.length:=Nat.div_lt_of_lt_mul (by rw[Nat.mul_comm];exact hjl);have hr:=aAs hs hq (j:=j % k) (Nat.mod_lt _ hk);have he:j / k*k+j % k=j:=by rw[Nat.mul_comm];exact Nat.div_add_mod j k
     have hcell:=(hp (j / k) hq).1 (j % k) (Nat.mod_lt _ hk);rw[he] at hr hcell;rw[hcell,←hr,hu]
   · obtain⟨i,hi',rfl⟩:=List.getElem_of_mem h;exact(hp i hi').2
end
section
open Go.ChangeShapes Go.WideShapes Go.Deep
variable {H:Type} {enc:TypeId×Value→H} {w:World} {base:Nat} {spare:Nat→Bool} {held:Bool}
theorem flat_one (f:Int→Value) (l:List Int):l.flatMap (fun z=>[f z])=l.map f:=by
 induction l with
 | nil=>rfl
 | cons a r ih=>simp[ih]
theorem wf_u8 {z:Int} (h:(Lit.int .u8 z).wf=true):0≤z∧z<256:=by
 have e1:IntKind.u8.min=0:=rfl;have e2:IntKind.u8.max=255:=rfl;simp[Lit.wf,e1,e2] at h
 omega
theorem ya_cs {fuel:Nat} {cs:List Value} {x:DataW H×List MemPlace} (h:DataW.trod enc prog w base spare held fuel 41 cs=some x) :
  ∃A n c bs,cs=[.slice A n c]∧aDe w (fun b=>b<w.heap.size) A n c bs:=by
 obtain⟨A,n,c,l,e,hl,hr,hp,h1,h2,h3⟩:=slice_cs (fun z:Int=>[Value.int .u8 z]) (by decide) (fun _=>rfl) underlying41 (by kernel_rfl) (fun z=>0≤z∧z<256) (fun fuel cs x htr hcl=>by
  obtain⟨z0,e0,_,w0⟩:=DataW.trod_int underlying5 htr;exact⟨z0,e0.symm,wf_u8 w0⟩) h
 rw[flat_one] at hr;exact⟨A,n,c,l,e,⟨hl,hr,hp,h1,h2⟩,fun ad q hn=>⟨_,Array.getElem?_eq_getElem (h3 ad q hn),.inl (h3 ad q hn)⟩⟩
theorem ints_le {fuel:Nat} {cs:List Value} {x:DataW H×List MemPlace} (h:DataW.trod enc prog w base spare held fuel 23 cs=some x) :
  ∃A n c,cs=[.slice A n c]∧n≤maxLen:=by
 obtain⟨A,n,c,l,e,hl,hr,hp,h1,h2,h3⟩:=slice_cs (fun z:Int=>[Value.int .i64 z]) (by decide) (fun _=>rfl) underlying23 (by kernel_rfl) (fun z=>True) (fun fuel cs x htr hcl=>by
  obtain⟨z0,e0,_,w0⟩:=DataW.trod_int underlying3 htr;exact⟨z0,e0.symm,trivial⟩) h
 exact⟨A,n,c,e,tK h1 h2⟩
theorem pa_cs {fuel:Nat} {cs:List Value} {x:DataW H×List MemPlace} (h:DataW.trod enc prog w base spare held fuel 58 cs=some x) :
  ∃A n c ps,cs=[.slice A n c]∧aGk w (fun b=>b<w.heap.size) A n c ps∧∀ad,A=some ad→0<n→ad.block<w.heap.size:=by
 obtain⟨A,n,c,l,e,hl,hr,hp,h1,h2,h3⟩:=slice_cs Vd.cells (by decide) Vy underlying58 (by kernel_rfl) (fun p=>aDe w (fun b=>b<w.heap.size) p.A p.n p.c p.bs) (fun fuel cs x htr hcl=>by
  match cs,hcl with
  | [v0,v1],_ =>
    obtain⟨ys,n',_,_,_,hyl,hf2⟩:=DataW.trod_struct underlying50 htr;have hyl2:ys.length=2:=by rw[hyl];rfl
    have f0:=hf2 0 _ rfl;rw[tX (show 0<ys.length by omega)] at f0;obtain⟨z0,e0,_,_⟩:=DataW.trod_int underlying3 f0
    have e0': [v0]=[Value.int .i64 z0]:=by
     rw[←e0];show [v0]=(([v0,v1]:List Value).drop 0).take (prog.cellsOf 3);rw[show prog.cellsOf 3=1 by kernel_rfl];rfl
    injection e0' with e0';have f1:=hf2 1 _ rfl;rw[tX (show 1<ys.length by omega)] at f1;obtain⟨A1,n1,c1,l1,e1,hy1⟩:=ya_cs f1
    have e1': [v1]=[Value.slice A1 n1 c1]:=by
     rw[←e1];show [v1]=(([v0,v1]:List Value).drop 1).take (prog.cellsOf 41);rw[show prog.cellsOf 41=1 by kernel_rfl];rfl
    injection e1' with e1';subst e0' e1';exact⟨⟨z0,A1,n1,c1,l1⟩,rfl,hy1⟩) h
 exact⟨A,n,c,l,e,⟨hl,hr,hp,h1,h2⟩,h3⟩
theorem ops_cs {fuel:Nat} {cs:List Value} {x:DataW H×List MemPlace} (h:DataW.trod enc prog w base spare held fuel 29 cs=some x) :
  ∃A n c os,cs=[.slice A n c]∧aEj w (fun b=>b<w.heap.size) A n c os:=by
 obtain⟨A,n,c,l,e,hl,hr,hp,h1,h2,h3⟩:=slice_cs OpD.cells (by decide) aEb underlying29 (by kernel_rfl) (fun o=>aGk w (fun b=>b<w.heap.size) o.A o.n o.c o.ps∧∀ad,o.A=some ad→0<o.n→ad.block<w.heap.size) (fun fuel cs x htr hcl=>by
  match cs,hcl with
  | [v0,v1,v2,v3,v4],_ =>
    obtain⟨ys,n',_,_,_,hyl,hf2⟩:=DataW.trod_struct underlying60 htr;have hyl2:ys.length=5:=by rw[hyl];rfl
    have f0:=hf2 0 _ rfl;rw[tX (show 0<ys.length by omega)] at f0;obtain⟨z0,e0,_,_⟩:=DataW.trod_int underlying3 f0
    have e0': [v0]=[Value.int .i64 z0]:=by
     rw[←e0];show [v0]=(([v0,v1,v2,v3,v4]:List Value).drop 0).take (prog.cellsOf 3);rw[show prog.cellsOf 3=1 by kernel_rfl];rfl
    injection e0' with e0';have f1:=hf2 1 _ rfl;rw[tX (show 1<ys.length by omega)] at f1;obtain⟨z1,e1,_,_⟩:=DataW.trod_int underlying3 f1
    have e1': [v1]=[Value.int .i64 z1]:=by
     rw[←e1];show [v1]=(([v0,v1,v2,v3,v4]:List Value).drop 1).take (prog.cellsOf 3);rw[show prog.cellsOf 3=1 by kernel_rfl];rfl
    injection e1' with e1';have f2:=hf2 2 _ rfl;rw[tX (show 2<ys.length by omega)] at f2;obtain⟨z2,e2,_,_⟩:=DataW.trod_int underlying3 f2
    have e2': [v2]=[Value.int .i64 z2]:=by
     rw[←e2];show [v2]=(([v0,v1,v2,v3,v4]:List Value).drop 2).take (prog.cellsOf 3);rw[show prog.cellsOf 3=1 by kernel_rfl];rfl
    injection e2' with e2';have f3:=hf2 3 _ rfl;rw[tX (show 3<ys.length by omega)] at f3;obtain⟨z3,e3,_,_⟩:=DataW.trod_int underlying3 f3
    have e3': [v3]=[Value.int .i64 z3]:=by
     rw[←e3];show [v3]=(([v0,v1,v2,v3,v4]:List Value).drop 3).take (prog.cellsOf 3);rw[show prog.cellsOf 3=1 by kernel_rfl];rfl
    injection e3' with e3';have f4:=hf2 4 _ rfl;rw[tX (show 4<ys.length by omega)] at f4;obtain⟨A4,n4,c4,l4,e4,hy4,hg4⟩:=pa_cs f4
    have e4': [v4]=[Value.slice A4 n4 c4]:=by
     rw[←e4];show [v4]=(([v0,v1,v2,v3,v4]:List Value).drop 4).take (prog.cellsOf 58);rw[show prog.cellsOf 58=1 by kernel_rfl];rfl
    injection e4' with e4';subst e0' e1' e2' e3' e4';exact⟨⟨z0,z1,z2,z3,A4,n4,c4,l4⟩,rfl,hy4,hg4⟩) h
 exact⟨A,n,c,l,e,hl,hr,fun o ho=>(hp o ho).1,h1,h2,h3,fun o ho=>(hp o ho).2⟩
theorem steps_cs {fuel:Nat} {cs:List Value} {x:DataW H×List MemPlace} (h:DataW.trod enc prog w base spare held fuel 22 cs=some x) :
  ∃A n c l,cs=[.slice A n c]∧aCc w (fun b=>b<w.heap.size) A n c l:=by
 obtain⟨A,n,c,l,e,hl,hr,hp,h1,h2,h3⟩:=slice_cs aBv.cells (by decide) aFi underlying22 (by kernel_rfl) (fun x=>aEj w (fun b=>b<w.heap.size) x.A x.n x.c x.os∧x.pn≤maxLen∧x.tn≤maxLen) (fun fuel cs x htr hcl=>by
  match cs,hcl with
  | [v0,v1,v2,v3,v4,v5],_ =>
    obtain⟨ys,n',_,_,_,hyl,hf2⟩:=DataW.trod_struct underlying31 htr;have hyl2:ys.length=6:=by rw[hyl];rfl
    have f0:=hf2 0 _ rfl;rw[tX (show 0<ys.length by omega)] at f0;obtain⟨z0,e0,_,_⟩:=DataW.trod_int underlying3 f0
    have e0': [v0]=[Value.int .i64 z0]:=by
     rw[←e0];show [v0]=(([v0,v1,v2,v3,v4,v5]:List Value).drop 0).take (prog.cellsOf 3);rw[show prog.cellsOf 3=1 by kernel_rfl];rfl
    injection e0' with e0';have f1:=hf2 1 _ rfl;rw[tX (show 1<ys.length by omega)] at f1;obtain⟨z1,e1,_,_⟩:=DataW.trod_int underlying3 f1
    have e1': [v1]=[Value.int .i64 z1]:=by
     rw[←e1];show [v1]=(([v0,v1,v2,v3,v4,v5]:List Value).drop 1).take (prog.cellsOf 3);rw[show prog.cellsOf 3=1 by kernel_rfl];rfl
    injection e1' with e1';have f2:=hf2 2 _ rfl;rw[tX (show 2<ys.length by omega)] at f2;obtain⟨A2,n2,c2,l2,e2,hy2⟩:=ops_cs f2
    have e2': [v2]=[Value.slice A2 n2 c2]:=by
     rw[←e2];show [v2]=(([v0,v1,v2,v3,v4,v5]:List Value).drop 2).take (prog.cellsOf 29);rw[show prog.cellsOf 29=1 by kernel_rfl];rfl
    injection e2' with e2';have f3:=hf2 3 _ rfl;rw[tX (show 3<ys.length by omega)] at f3;obtain⟨z3,e3,_,_⟩:=DataW.trod_int underlying3 f3
    have e3': [v3]=[Value.int .i64 z3]:=by
     rw[←e3];show [v3]=(([v0,v1,v2,v3,v4,v5]:List Value).drop 3).take (prog.cellsOf 3);rw[show prog.cellsOf 3=1 by kernel_rfl];rfl
    injection e3' with e3';have f4:=hf2 4 _ rfl;rw[tX (show 4<ys.length by omega)] at f4;obtain⟨A4,n4,c4,e4,hy4⟩:=ints_le f4
    have e4': [v4]=[Value.slice A4 n4 c4]:=by
     rw[←e4];show [v4]=(([v0,v1,v2,v3,v4,v5]:List Value).drop 4).take (prog.cellsOf 23);rw[show prog.cellsOf 23=1 by kernel_rfl];rfl
    injection e4' with e4';have f5:=hf2 5 _ rfl;rw[tX (show 5<ys.length by omega)] at f5;obtain⟨A5,n5,c5,e5,hy5⟩:=ints_le f5
    have e5': [v5]=[Value.slice A5 n5 c5]:=by
     rw[←e5];show [v5]=(([v0,v1,v2,v3,v4,v5]:List Value).drop 5).take (prog.cellsOf 23);rw[show prog.cellsOf 23=1 by kernel_rfl];rfl
    injection e5' with e5';subst e0' e1' e2' e3' e4' e5';exact⟨⟨z0,z1,A2,n2,c2,l2,z3,A4,n4,c4,A5,n5,c5⟩,rfl,hy2,hy4,hy5⟩) h
 exact⟨A,n,c,l,e,hl,hr,hp,h1,h2,h3⟩
theorem open_steps {A:Option Addr} {n c:Nat} {d:DataW H} {ps:List MemPlace} (h:DataW.Trod enc prog w base spare held 22 (.slice A n c) d ps):∃l,aCc w (fun b=>b<w.heap.size) A n c l:=by
 obtain⟨fuel,hf⟩:=h;obtain⟨A',n',c',l,e,hl⟩:=steps_cs hf;simp[Value.cells] at e
 obtain⟨rfl,rfl,rfl⟩:=e;exact⟨l,hl⟩
end
theorem round_any (k:Int) (w:World):Calls prog 14 #[.int .i64 k,.int .i64 258] w fun e w'=>(∃r:Int,e=.returned (.int .i64 r)∧0≤r∧r<258)∧w=w':=by
 have h1: -258<Int.tmod k 258∧Int.tmod k 258<258:=by
  have:=Int.lt_tmod_of_pos k (show (0:Int)<258 by decide);have:=Int.tmod_lt_of_pos k (show (0:Int)<258 by decide);omega
 obtain⟨r,hr⟩:=nC (Int.tmod k 258);rw[hr] at h1;have m0:wrap64 r=r:=by unfold wrap64;omega
 have m1:IntKind.i64.wrap r=r:=IntWalk.i64_in _ (by omega);by_cases hn:r<0
 · have n1:decide (r<0)=true:=rZ hn;have m2:wrap64 (r+258)=r+258:=by unfold wrap64;omega
   have HE:=hid (show 0≤r+258∧r+258<258 by omega);go_enter func14,ntmps14
   go_wp2_with fail
   go_ret;exact⟨⟨_,rfl,HE.o⟩,rfl⟩
 · have n1:decide (r<0)=false:=rY hn;have HE:=hid (show 0≤r∧r<258 by omega);go_enter func14,ntmps14
   go_wp2_with fail
   go_ret;exact⟨⟨_,rfl,HE.o⟩,rfl⟩
theorem cell_kf {w w':World} {F:Xt} {b i:Nat} {v:Value} (k:Kf F w w') (h:w.cell? ⟨b,i,none⟩=some v) (hn:¬F b):w'.cell? ⟨b,i,none⟩=some v:=by
 cases hh:w.heap[b]? with
 | none=>simp[World.cell?,hh] at h
 | some ob =>
   have:=k.keep b ob hh (.inl hn);rw[World.cell?_of_block (w:=w) (w':=w') (by rw[this,hh])];exact h
theorem scRead1 {w:World} {F:Xt} {sb st pos g:Nat} {dv:Value} {m:MS} (c1:w.cell? ⟨sb,1,none⟩=some (.pointer (some ⟨st,0,none⟩))) (hs:Sto w F st dv pos m g) (hg:g+1≤700) (yes:Bool):Calls prog 9 #[.pointer (some ⟨sb,0,none⟩),.bool yes] w fun e w'=>e=.returned (.tuple #[])∧Kc w w' F st dv pos {m with read:=yes} (g+1):=by
 have hgo:=aAt c1;obtain⟨Ft,gd,mb,gs,num,count,ns,rfl,hs⟩:=hs;have hc:=aJn hs hg yes;clear hs;go_enter func9,ntmps9
 go_wp2_with fail
 refine hgo.mono ?_;rintro e w' ⟨rfl,rfl⟩;clear hgo;go_wp2_with fail
 refine hc.mono ?_;rintro e w2 ⟨rfl,hr⟩;have HR:=hid hr;clear hc hr;go_wp2_with fail
 go_end0
 exact⟨rfl,HR.o⟩
def mK (t:Nat) (ks:List Int):MS:={msB t with txs:=[⟨1,0,t,ks⟩]}
theorem mK_at (t:Nat) (ks:List Int):(mK t ks).txs[0]? =some ⟨1,0,t,ks⟩:=rfl
theorem mK_wr {t n:Nat} {ks:List Int} {ps:List Vd} {r:Int} {m':MS} (h:wrR (mK t ks) 0 ⟨1,0,t,ks⟩ n ps r m') (hk:ks.length<16) (hn:n=1) (hp:∀p∈ps,0≤p.lba∧p.lba<258∧p.n=40):r=0∧∃ks',m'=mK t ks'∧ks'≠[]∧ks'.length≤ks.length+1:=by
 rcases h with ⟨h,_⟩|⟨_,ks',rfl,_,hg⟩
 · exact absurd rfl h
 · obtain⟨h1,h2,h3⟩:=hg hk hn hp;exact⟨h1,ks',rfl,h2,h3⟩
theorem mK_cm {t:Nat} {ks:List Int} {r:Int} {m':MS} (h:cmR (mK t ks) 0 ⟨1,0,t,ks⟩ r m'):r=0∧((ks=[]∧m'.queue=[]∧m'.txs=[⟨3,t,t,ks⟩])∨(ks≠[]∧m'.queue=[0]∧∃u:TX,m'.txs=[u]∧u.st=2)):=by
 rcases h with ⟨h,_⟩|⟨_,⟨h,hr,rfl⟩|⟨h,⟨_,q,_⟩|⟨hr,rfl⟩⟩⟩
 · exact absurd rfl h
 · exact⟨hr,.inl ⟨h,rfl,rfl⟩⟩
 · exact absurd ⟨rfl,rfl,lR⟩ q
 · exact⟨hr,.inr ⟨h,rfl,_,rfl,rfl⟩⟩
theorem mK_fl {t pos':Nat} {ks:List Int} {r:Int} {m m':MS} (h:(ks=[]∧m.queue=[]∧m.txs=[⟨3,t,t,ks⟩])∨(ks≠[]∧m.queue=[0]∧∃u:TX,m.txs=[u]∧u.st=2)) (hf:flR m 0 r pos' m'):r=(if ks=[] then 14 else 0)∧∃u:TX,m'.txs[0]? =some u∧u.st=3:=by
 rcases h with ⟨h1,h2,h3⟩|⟨h1,h2,u,h3,h4⟩
 · rcases hf with ⟨_,hr,rfl,_⟩|⟨q,_⟩
   · exact⟨by rw[if_pos h1];exact hr,⟨3,t,t,ks⟩,by rw[h3];rfl,rfl⟩
   · exact absurd h2 q
 · obtain⟨hr,u',e,h5⟩:=aw4 h3 h2 h4 hf;exact⟨by rw[if_neg h1];exact hr,u',by rw[e];rfl,h5⟩
def AlI (w wr:World) (sb i:Nat):Prop:=∃s F,Ue wr F sb s (2*i+5)∧SmS s∧nD w wr∧∀b,F b→w.heap.size≤b
theorem AlI.step {w wr w':World} {sb i:Nat} {F:Xt} {s':SS} (hb:nD w wr) (hF:∀b,F b→w.heap.size≤b) (hs:SmS s') (h:Uc wr w' F sb s' (2*i+5+1+1)):AlI w w' sb (i+1):=by
 obtain⟨F',h1,h2,h3,h4⟩:=h;rw[show 2*i+5+1+1=2*(i+1)+5 by omega] at h1;exact⟨s',F',h1,hs,hb.trans (h2.below hF hb.size),fun b q=>(h3 b q).elim (hF b) (tK hb.size)⟩
theorem AlI.skip {w wr:World} {sb i:Nat} (h:AlI w wr sb i) (hi:i≤150):AlI w wr sb (i+1):=by
 obtain⟨s,F,h1,h2⟩:=h;have h3:=(h1.up (by omega)).up (by omega);rw[show 2*i+5+1+1=2*(i+1)+5 by omega] at h3;exact⟨s,F,h3,h2⟩
theorem One.up {w:World} {F:Xt} {mb g R R':Nat} {m:MS} (h:One w F mb m g R) (hR:R≤R') (hb:R'≤100000) (hg:g≤700):One w F mb m g R':=by
 obtain⟨Ft,gm,kb,am,qv,es,hx⟩:=h;exact⟨Ft,gm,kb,am,qv,es,hx.up lR (by omega) hR hb⟩
def RdI (w wr:World) (st pos t g i:Nat):Prop:=∃F Ft gd mb gs num count ns,(Kh wr F Ft st gd mb gs pos num count ns (mK t []) (g+i)∧One wr (Ft 1) mb (mK t []) (g+i) (2*i))∧nD w wr∧∀b,F b→w.heap.size≤b
def WrI (w wr:World) (st pos t g i:Nat):Prop:=∃F Ft gd mb gs num count ns ks,Kh wr F Ft st gd mb gs pos num count ns (mK t ks) (g+i)∧(ks.length≤i∧(0<i→ks≠[]))∧nD w wr∧∀b,F b→w.heap.size≤b
theorem RdI.wr {w wr:World} {st pos t g n:Nat} (h:RdI w wr st pos t g n):WrI w wr st pos t (g+n) 0:=by
 obtain⟨F,Ft,gd,mb,gs,num,count,ns,⟨h1,-⟩,h2,h3⟩:=h;exact⟨F,Ft,gd,mb,gs,num,count,ns,[],h1,⟨lR,fun q=>absurd q (tT _)⟩,h2,h3⟩
theorem RdI.step {w wr w':World} {F:Xt} {st pos t g i gd mb gs num count:Nat} {ns:List Nat} (hb:nD w wr) (hF:∀b,F b→w.heap.size≤b) (hi:i≤20) (hg:g+i+1≤700) (h:∃F' Ft',(Kh w' F' Ft' st gd mb gs pos num count ns (mK t []) (g+i+1)∧∃k,(k≤17∧(True→k≤2))∧One w' (Ft' 1) mb (mK t []) (g+i+1) (2*i+k))∧Kf F wr w'∧Sb wr F F'∧In w' F'):RdI w w' st pos t g (i+1):=by
 obtain⟨F',Ft',⟨h1,k,hk,ho⟩,h2,h3,h4⟩:=h;have:=hk.2 trivial;exact⟨F',Ft',gd,mb,gs,num,count,ns,⟨h1,ho.up (by omega) (by omega) hg⟩,hb.trans (h2.below hF hb.size),fun b q=>(h3 b q).elim (hF b) (tK hb.size)⟩
theorem WrI.step {w w5 w':World} {F:Xt} {st pos t g i gd:Nat} {ks ks':List Int} {m':MS} (hb:nD w w5) (hF:∀b,F b→w.heap.size≤b) (hm:m'=mK t ks') (hn:ks'≠[]) (hl:ks'.length≤ks.length+1) (hk:ks.length≤i) (h:Kc w5 w' F st (gp gd) pos m' (g+i+1)):WrI w w' st pos t g (i+1):=by
 obtain⟨F',⟨Ft',gd',mb,gs,num,count,ns,-,h1⟩,h2,h3,h4⟩:=h;subst hm;exact⟨F',Ft',gd',mb,gs,num,count,ns,ks',h1,⟨by omega,fun _=>hn⟩,hb.trans (h2.below hF hb.size),fun b q=>(h3 b q).elim (hF b) (tK hb.size)⟩
theorem topalone_any (aw:aIn) (G:Xt) (A:Option Addr) (n c:Nat) (l:List aBv) (rA:Option Addr) (rn rc:Nat) (rl:List Int) (yA:Option Addr) (yn yc:Nat) (yl:List Int) (w:World) (h:aCc w G A n c l) (hI:In w G) (hp:Pow w) (hr:aFm .i64 w rA rn rc rl) (hy:aFm .i64 w yA yn yc yl) :
  Calls prog 3 #[.slice A n c,.slice rA rn rc,.slice yA yn yc] w fun e w'=>e=.returned (.bool true)∧nD w w':=by
 have hsm:=aSo G A n c l w h hI;have H:=nI h hI aw hp;have HA:=nF hr hy;clear h hI aw hp hr hy;go_enter func3,ntmps3
 go_wp2_with fail
 refine hsm.mono ?_;rintro e w1 ⟨⟨b,rfl,hb⟩,hb1⟩;have HB1:=hid hb1;clear hsm hb1;by_cases hout:b=true∧rn≤20∧yn≤16;rotate_left
 · have haw:=H.o.2.2.1 w1 (H.o.2.2.2.next HB1.o);have HO:=hid hout;clear hb hout
   cases b with
   | false =>
     go_wp2_with fail
     refine haw.mono ?_;rintro e w2 ⟨rfl,hb2⟩;have HE:=hid (HB1.o.trans (hb2.mono HB1.o.size));clear haw hb2;go_wp2_with fail
     go_ret;exact⟨rfl,HE.o⟩
   | true =>
     by_cases h20:rn≤20
     · have t0:decide ((20:Int)<(rn:Int))=false:=rY (by omega)
       have t1:decide ((16:Int)<(yn:Int))=true:=rZ (by
        have h1:=HO.o;have:¬yn≤16:=fun q=>h1 ⟨rfl,h20,q⟩
        omega)
       clear h20;go_wp2_with fail
       refine haw.mono ?_;rintro e w2 ⟨rfl,hb2⟩;have HE:=hid (HB1.o.trans (hb2.mono HB1.o.size));clear haw hb2;go_wp2_with fail
       go_ret;exact⟨rfl,HE.o⟩
     · have t0:decide ((20:Int)<(rn:Int))=true:=rZ (by omega);clear h20;go_wp2_with fail
       refine haw.mono ?_;rintro e w2 ⟨rfl,hb2⟩;have HE:=hid (HB1.o.trans (hb2.mono HB1.o.size));clear haw hb2;go_wp2_with fail
       go_ret;exact⟨rfl,HE.o⟩
 obtain⟨rfl,hrn,hyn⟩:=hout;have t0:decide ((20:Int)<(rn:Int))=false:=rY (by omega);have t1:decide ((16:Int)<(yn:Int))=false:=rY (by omega);obtain⟨h150,hall⟩:=hb rfl;have HN:=nJ h150 hall H.o.1.len hrn hyn;have hbg:=aIa w1;clear hb hall;go_wp2_with fail
 refine hbg.mono ?_;rintro e w2 ⟨sb,rfl,F,hB,hb2,hF⟩;have HR:=hid (show AlI w w2 sb 0 from⟨ss0,F,hB,fun c hc o ho=>by have:c=clz:=List.eq_of_mem_replicate hc;subst this;simp[clz] at ho,HB1.o.trans (hb2.mono HB1.o.size),fun b q=>tK HB1.o.size (hF b q)⟩);clear hbg hB hb2 hF t0 t1 h150 hrn hyn;go_wp2_with fail
 go_loopw [9] (fun iv wr=>∃i:Nat,i≤n∧iv=.int .i64 (i:Int)∧Hid (AlI w wr sb i)) (fun iv _=>n - (intOf iv).toNat)
 case atStart=>exact⟨0,zL,rfl,HR⟩
 case round =>
  obtain⟨i,hi,rfl,HY⟩:=hrel;rcases tN i n with hlt|hge
  · obtain⟨s,F2,hB,hss,hbr,hF2⟩:=HY.o;obtain⟨x,hx⟩:=nC (l[i]'(tV hlt HN.o.2.2.1.symm));have hm:x∈l:=by rw[←hx];exact rC _
    have hst:=H.o.1.ag (G:=G) (.of_below hbr);obtain⟨ad,rfl,c0,c1,c2,c3,c4,c5⟩:=aKr hst.rd (tV hlt HN.o.2.2.1.symm) hx;have h150:=HN.o.1;have n1:(i:Int)<(n:Int):=by omega
    have n2:(0:Int)≤(i:Int):=by omega
    have m2:wrap64 ((i:Int)+1)=(i:Int)+1:=by unfold wrap64;omega
    have HC:=nI hbr hF2 hlt (tK hi h150);by_cases h7:x.kind=7
    · rw[h7] at c0;clear hB hss hbr hF2 hx hm hst h7 h150 hi;go_wp2_with fail
      go_roundw
      case rel=>exact⟨i+1,HC.o.2.2.1,Va (by first|rfl|exact m2),hid (HY.o.skip HC.o.2.2.2)⟩
      case measure=>(try rw[m2]);exact Xw (x:=(i:Int)+1) HC.o.2.2.1 rfl
    · have n7:(x.kind !=7)=true:=bne_iff_ne.2 h7;have n7':(x.kind==7)=false:=beq_eq_false_iff_ne.2 h7;have hone:=aZs hB (by omega) hss x.kind x.client x.N x.pA x.pn x.pc x.tA x.tn x.tc (hst.ops x hm).1 (fun b q r=>by have h1:=H.o.2.1 b q;have h2:=hF2 b r;omega) (H.o.2.1.next hbr.size) (HN.o.2.1 x hm).1 (HN.o.2.1 x hm).2;clear hB hss hbr hF2 hx hm hst h7 h150 hi;go_wp2_with fail
      refine hone.mono ?_;rintro e w3 ⟨rfl,s',hs',-,hr'⟩;have HE:=hid (AlI.step HC.o.1 HC.o.2.1 hs' hr');clear hone hs' hr' c0 c1 c2 c3 c4 c5;go_wp2_with fail
      go_roundw
      case rel=>exact⟨i+1,HC.o.2.2.1,Va (by first|rfl|exact m2),HE⟩
      case measure=>(try rw[m2]);exact Xw (x:=(i:Int)+1) HC.o.2.2.1 rfl
  · obtain rfl:i=n:=tQ hi hge;obtain⟨s,F2,hB,hss,hbr,hF2⟩:=HY.o;have h150:=HN.o.1;have hcr:=bAr hB (by omega);have HS:=nI hbr hF2 (hB.inn sb hB.inF) (show 2*i+5≤305 by omega);clear hB hss hbr hF2 hge hi h150;go_wp2_with fail
    refine hcr.mono ?_;rintro e w4 ⟨rfl,st,gd,pos,t,F4,-,k1,hs4,hk4,hF4⟩;have b4:nD w w4:=HS.o.1.trans (hk4.below HS.o.2.1 HS.o.1.size);have hro:=scRead1 k1 hs4 (by have:=HS.o.2.2.2;omega) false;have H4:=nH b4 k1 (fun (b:Nat) (q:F4 b)=>nS (tK HS.o.1.size (hF4 b q)) (show b≠sb from fun e=>by have:=hF4 b q;have:=HS.o.2.2.1;omega));clear hcr hs4 hk4 hF4 b4 k1;go_wp2_with fail
    refine hro.mono ?_;rintro e w5 ⟨rfl,F5,⟨Ft5,gd5,mb5,gs5,num5,count5,ns5,-,hx5⟩,k5,s5,i5⟩;have hsr:=aMt (cell_kf k5 H4.o.2.1 (fun q=>(H4.o.2.2 sb q).2 rfl));have hbe:=bAm (m:=msB t) hx5 (by have:=HS.o.2.2.2;omega) rfl;have H5:=hid (show nD w w5∧∀b,F5 b→w.heap.size≤b from⟨H4.o.1.trans (k5.below (fun b q=>(H4.o.2.2 b q).1) H4.o.1.size),fun b q=>(s5 b q).elim (fun r=>(H4.o.2.2 b r).1) (tK H4.o.1.size)⟩);clear hro k5 s5 i5 hx5;go_wp2_with fail
    refine hsr.mono ?_;rintro e w' ⟨rfl,rfl⟩;clear hsr;go_wp2_with fail
    refine hbe.mono ?_;rintro e w6 ⟨rfl,F6,Ft6,⟨hx6,ho6,hk6⟩,k6,s6,i6⟩;have hop:=bEy hx6 hk6;have H6:=hid (show RdI w w6 st pos t (2*i+5+5+1+1) 0 from⟨F6,Ft6,gd5,mb5,gs5,num5,count5,ns5,⟨hx6,ho6⟩,H5.o.1.trans (k6.below H5.o.2 H5.o.1.size),fun b q=>(s6 b q).elim (H5.o.2 b) (tK H5.o.1.size)⟩);clear hbe hx6 ho6 hk6 k6 s6 i6;go_wp2_with fail
    refine hop.mono ?_;rintro e w7 ⟨rfl,hb7⟩;obtain⟨g0,hg0⟩:=nC (2*i+5+5+1+1);have HG:=hid (show g0≤312 by have:=HS.o.2.2.2;omega);rw[hg0] at H6
    have H7:=hid (show RdI w w7 st pos t g0 0 by
     obtain⟨F,Ft,gd,mb,gs,num,count,ns,⟨h1,h2⟩,h3,h4⟩:=H6.o;exact⟨F,Ft,gd,mb,gs,num,count,ns,⟨h1.next hb7,h2.ag (.of_below hb7)⟩,h3.trans (hb7.mono h3.size),h4⟩)
    clear hop hb7 hg0 H6;go_wp2_with fail
    go_loopw [13] (fun iv wr=>∃i:Nat,i≤rn∧iv=.int .i64 (i:Int)∧Hid (RdI w wr st pos t g0 i)) (fun iv _=>rn - (intOf iv).toNat)
    case atStart=>exact⟨0,zL,rfl,H7⟩
    case round =>
     obtain⟨j,hj,rfl,HX⟩:=hrel;rcases tN j rn with hlt|hge
     · obtain⟨F7,Ft7,gd7,mb7,gs7,num7,count7,ns7,⟨hx7,ho7⟩,hb7,hF7⟩:=HX.o;have hrr:=HA.o.1.next nB;obtain⟨ad,rfl,-,ck⟩:=(HA.o.1.next hb7).rd.get (k:=j) (by rw[rU,HA.o.1.len];exact hlt);rw[rV] at ck;obtain⟨x,hx⟩:=nC (rl[j]'(by rw[HA.o.1.len];exact hlt));rw[hx] at ck;have hjr:j<20:=tL hlt HN.o.2.2.2.1;have n1:(j:Int)<(rn:Int):=by omega
       have n2:(0:Int)≤(j:Int):=by omega
       have m2:wrap64 ((j:Int)+1)=(j:Int)+1:=by unfold wrap64;omega
       have HJ:=nK hx7 ho7 hb7 hF7 hlt hjr;clear hx7 ho7 hb7 hF7 hx hrr hj hlt hjr;go_wp2_with fail
       refine(round_any _ _).mono ?_;rintro e w' ⟨⟨r,rfl,hr0,hr1⟩,rfl⟩;have hsr:=aWi HJ.o.1 HJ.o.2.1 (by have:=HJ.o.2.2.2.2.2;omega) (by have:=HJ.o.2.2.2.2.2;have:=HG.o;omega) (mK_at t []) r 1;rw[show (((0:Nat):Int)+1)=1 from rfl] at hsr;have HQ:=hid (show aIh r 1 (2*j) from⟨rfl,hr0,hr1,by have:=HJ.o.2.2.2.2.2;omega⟩);clear hr0 hr1;go_wp2_with fail
       refine hsr.mono ?_;rintro e w8 ⟨⟨v,r2,rfl,hrr,bs,hbs,-⟩,hpost⟩;obtain⟨vA,vc,rfl⟩:=Xs hbs.1;obtain rfl:r2=0:=hrr (by first|rfl|trivial) HQ.o;have HE:=hid (RdI.step (g:=g0) (i:=j) HJ.o.2.2.1 HJ.o.2.2.2.1 (tU HJ.o.2.2.2.2.2) (by have:=HJ.o.2.2.2.2.2;have:=HG.o;omega) hpost);clear hsr hrr hbs hpost ck;go_wp2_with fail
       go_roundw
       case rel=>exact⟨j+1,HJ.o.2.2.2.2.1,Va (by first|rfl|exact m2),HE⟩
       case measure=>(try rw[m2]);exact Xw (x:=(j:Int)+1) HJ.o.2.2.2.2.1 rfl
     · obtain rfl:j=rn:=tQ hj hge;have HW0:=hid (HX.o.wr);have HG2:=hid (show g0+j≤332 by have:=HG.o;have:=HN.o.2.2.2.1;omega);obtain⟨g2,hg2⟩:=nC (g0+j);rw[hg2] at HW0 HG2;clear hg2 hj hge HX;go_wp2_with fail
       go_loopw [16] (fun iv wr=>∃i:Nat,i≤yn∧iv=.int .i64 (i:Int)∧Hid (WrI w wr st pos t g2 i)) (fun iv _=>yn - (intOf iv).toNat)
       case atStart=>exact⟨0,zL,rfl,HW0⟩
       case round =>
        obtain⟨k,hk,rfl,HX⟩:=hrel;rcases tN k yn with hlt|hge
        · obtain⟨F8,Ft8,gd8,mb8,gs8,num8,count8,ns8,ks,hx8,hks,hb8,hF8⟩:=HX.o;obtain⟨ad,rfl,-,ck⟩:=(HA.o.2.next hb8).rd.get (k:=k) (by rw[rU,HA.o.2.len];exact hlt);rw[rV] at ck;obtain⟨x,hx⟩:=nC (yl[k]'(by rw[HA.o.2.len];exact hlt));rw[hx] at ck;have hkr:k<16:=tL hlt HN.o.2.2.2.2;have n1:(k:Int)<(yn:Int):=by omega
          have n2:(0:Int)≤(k:Int):=by omega
          have m2:wrap64 ((k:Int)+1)=(k:Int)+1:=by unfold wrap64;omega
          have HJ:=nK hx8 hks hb8 hF8 hlt hkr;clear hx8 hks hb8 hF8 hx hk hlt hkr;go_wp2_with fail
          refine(round_any _ _).mono ?_;rintro e w' ⟨⟨r,rfl,hr0,hr1⟩,rfl⟩;have HQ:=nF hr0 hr1;clear hr0 hr1;obtain⟨gz,hgz⟩:=nC (wr.heap.size);go_wp2_with fail
          refine(aIo _ _).mono ?_;rintro e w9 ⟨rfl,h40,hb9⟩;rw[hgz] at h40;obtain⟨bs,hy9⟩:=h40.y;obtain⟨gq,wa,hzwa,hwa,Bwa,bwa⟩:=Xy w9 50 [.int .i64 r,.slice (some ⟨gz,0,none⟩) 40 40];have hya:=hy9.ag (F:=fun _=>False) (.of_below bwa);have hb9a:nD wr wa:=hb9.trans (bwa.mono hb9.size)
          have hps:Uh wa (some ⟨gq,0,none⟩) 1 1 [⟨r,some ⟨gz,0,none⟩,40,40,bs⟩]:=⟨rfl,Bwa.rd,fun p hp=>by
           obtain rfl:p=⟨r,some ⟨gz,0,none⟩,40,40,bs⟩:=by simpa using hp
           exact hya,lR,by show (1:Nat)≤maxLen;decide⟩
          have hgt:g2+k+1≤700:=by have:=HJ.o.2.2.2.2.2;have:=HG2.o;omega
          have hwt:=aWj (HJ.o.1.next hb9a) hgt (mK_at t ks) hps (by decide);rw[show (((0:Nat):Int)+1)=1 from rfl] at hwt
          have HP:=hid (show nD w wa∧(∀p∈([⟨r,some ⟨gz,0,none⟩,40,40,bs⟩]:List Vd),0≤p.lba∧p.lba<258∧p.n=40) from⟨HJ.o.2.2.1.trans (hb9a.mono HJ.o.2.2.1.size),fun p hp=>by
           obtain rfl:p=⟨r,some ⟨gz,0,none⟩,40,40,bs⟩:=by simpa using hp
           exact⟨HQ.o.1,HQ.o.2,rfl⟩⟩)
          clear h40 hy9 hya hb9 hb9a bwa Bwa hps hgt;go_wp2_with fail
          refine hwt.mono ?_;rintro e wb ⟨r2,rfl,m',hw,hsr⟩;obtain⟨rfl,ks',hm,hne,hle⟩:=mK_wr hw (Nat.lt_of_le_of_lt HJ.o.2.1.1 HJ.o.2.2.2.2.2) rfl HP.o.2;have HE:=hid (WrI.step (g:=g2) (i:=k) (w5:=wa) HP.o.1 HJ.o.2.2.2.1 hm hne hle HJ.o.2.1.1 hsr);clear hwt hw hsr hm hne hle hgz ck;go_wp2_with fail
          go_roundw
          case rel=>exact⟨k+1,HJ.o.2.2.2.2.1,Va (by first|rfl|exact m2),HE⟩
          case measure=>(try rw[m2]);exact Xw (x:=(k:Int)+1) HJ.o.2.2.2.2.1 rfl
        · obtain rfl:k=yn:=tQ hk hge;obtain⟨F8,Ft8,gd8,mb8,gs8,num8,count8,ns8,ks,hx8,hks,hb8,hF8⟩:=HX.o;have hgk:g2+k≤348:=by have:=HG2.o;have:=HN.o.2.2.2.2;omega
          obtain⟨g3,hg3⟩:=nC (g2+k);rw[hg3] at hx8 hgk;have hcm:=aQg hx8 (by omega) (mK_at t ks);rw[show (((0:Nat):Int)+1)=1 from rfl] at hcm;have HK:=hid (show (k=0→ks=[])∧(0<k→ks≠[]) from⟨fun e=>List.eq_nil_of_length_eq_zero (Nat.le_zero.1 (e▸hks.1)),hks.2⟩);have H8:=nH hb8 hF8 hgk;clear hx8 hks hb8 hF8 hgk hg3 hk hge;go_wp2_with fail
          refine hcm.mono ?_;rintro e w9 ⟨r,rfl,m2,hc,F9,⟨Ft9,gd9,mb9,gs9,num9,count9,ns9,-,hx9⟩,k9,s9,i9⟩;obtain⟨rfl,hcase⟩:=mK_cm hc;have hck:=aDn hx9 (by have:=H8.o.2.2;omega);have H9:=hid (show nD w w9∧∀b,F9 b→w.heap.size≤b from⟨H8.o.1.trans (k9.below H8.o.2.1 H8.o.1.size),fun b q=>(s9 b q).elim (H8.o.2.1 b) (tK H8.o.1.size)⟩);have HC:=hid hcase;clear hcm hc hcase hx9 k9 s9 i9;go_wp2_with fail
          refine hck.mono ?_;rintro e w10 ⟨rfl,F10,⟨Ft10,gd10,mb10,gs10,num10,count10,ns10,-,hx10⟩,k10,s10,i10⟩;have hfl:=aWh hx10 (by have:=H8.o.2.2;omega);have H10:=hid (show nD w w10∧∀b,F10 b→w.heap.size≤b from⟨H9.o.1.trans (k10.below H9.o.2 H9.o.1.size),fun b q=>(s10 b q).elim (H9.o.2 b) (tK H9.o.1.size)⟩);clear hck hx10 k10 s10 i10;go_wp2_with fail
          refine hfl.mono ?_;rintro e w11 ⟨r,rfl,pos',m3,hf,F11,⟨Ft11,gd11,mb11,gs11,num11,count11,ns11,-,hx11⟩,k11,s11,i11⟩;obtain⟨hr,u,hu,hu3⟩:=mK_fl HC.o hf;have hrs:=aFf hx11 hu;rw[show (((0:Nat):Int)+1)=1 from rfl,hu3] at hrs;have H11:=hid (show nD w w11 from H10.o.1.trans (k11.below H10.o.2 H10.o.1.size));have HU:=hid hr;clear hfl hf hx11 k11 s11 i11 hu hu3 hr;go_wp2_with fail
          refine hrs.mono ?_;rintro e w12 ⟨⟨code,rfl,hcode⟩,hb12⟩;obtain rfl:code=0:=hcode (by first|rfl|trivial);have b12:=H11.o.trans (hb12.mono H11.o.size);have haw:=H.o.2.2.1 w12 (H.o.2.2.2.next b12);have H12:=hid b12;have HRR:=HU.o;clear hrs hcode hb12 b12;rcases tP k with h0|h0
          · rw[if_pos (HK.o.1 h0)] at HRR;subst HRR;have n1:(k:Int)=0:=by omega
            subst h0;go_wp2_with fail
            refine haw.mono ?_;rintro e w13 ⟨rfl,hb13⟩;have HE:=hid (H12.o.trans (hb13.mono H12.o.size));clear haw hb13;go_wp2_with fail
            go_ret;exact⟨rfl,HE.o⟩
          · rw[if_neg (HK.o.2 h0)] at HRR;subst HRR;have n1:((k:Int)==0)=false:=beq_eq_false_iff_ne.2 (by omega);have n2:decide ((k:Int)=0)=false:=rY (by omega);clear h0;go_wp2_with fail
            refine haw.mono ?_;rintro e w13 ⟨rfl,hb13⟩;have HE:=hid (H12.o.trans (hb13.mono H12.o.size));clear haw hb13;go_wp2_with fail
            go_ret;exact⟨rfl,HE.o⟩
end Go.Proofs.YtdhlicgaalnmoaaGreatDoor.Tp
namespace Go.Proofs.YtdhlicgaalnmoaaGreatDoor.lawTopAlone
open Lib (hid)
open Go.Proofs.Tryz
open Go.RowKit Go.Maps
set_option maxHeartbeats 8000000
set_option maxRecDepth 100000
section
open Go.ChangeShapes Go.WideShapes Go.ChangeAt Go.RowKit
theorem closed:joinedFacts Tryz.pinned.checked.prog 3 Tryz.f3 Rows.topAloneSpec Rows.topAloneRow=true:=by
 simp only[joinedFacts,Bool.and_eq_true];repeat' apply And.intro
 all_goals (as_aux_lemma=>kernel_rfl)
theorem inst:Func.isInstance Tryz.pinned.checked.prog Tryz.f3 Rows.topAloneRow.origin Rows.topAloneRow.targs:=of_decide_eq_true (by kernel_rfl)
theorem wrap:Func.isWrapper Tryz.pinned.checked.prog Tryz.f3 Rows.topAloneRow.wrapper Rows.topAloneRow.mainSum:=by
 unfold Func.isWrapper;first|(rw[if_pos (by decide +kernel)];kernel_rfl)|(rw[if_neg (by decide +kernel)];exact⟨rfl,rfl⟩)
theorem byText:OpenClaim.wfByText (OpenSpec.ofChange Rows.topAloneSpec) Rows.topAloneRow=true:=by kernel_rfl
theorem noGo:Tryz.pinned.checked.prog.funcs.any Func.goes=false:=by kernel_rfl
theorem goes_none {P:Program} (h:P.funcs.any Func.goes=false) (f:FuncId):P.goes f=false:=by
 have h0:∀g:Nat,(P.funcs[g]?).any Func.goes=false:=fun g=>by
  cases hg:P.funcs[g]? with
  | none=>rfl
  | some fn =>
    cases he:fn.goes with
    | false=>simpa using he
    | true =>
      rw[Array.any_eq_false] at h;obtain⟨hi,e⟩:=Array.getElem?_eq_some_iff.1 hg;exact absurd (by rw[e];exact he) (h g hi)
 unfold Program.goes
 rw[h,Bool.and_false,Bool.or_false];exact List.any_eq_false.2 fun g _=>by rw[h0 g];decide
theorem mainIs:Tryz.pinned.checked.prog.mainIs=some (Rows.topAloneCard.stood.harness.1,Rows.topAloneCard.stood.harness.2.toList):=by kernel_rfl
end
end Go.Proofs.YtdhlicgaalnmoaaGreatDoor.lawTopAlone
