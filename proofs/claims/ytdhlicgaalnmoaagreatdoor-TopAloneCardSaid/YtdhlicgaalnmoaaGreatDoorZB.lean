/- Contracts of the program's functions, and laws on memory: a part of the proof of TopAlone. -/
import Derived.Test.YtdhlicgaalnmoaaGreatDoorZA
import Derived.Deep.CutRange
import Derived.Deep.DeepCutAuto
import Derived.Deep.CutBlock
import Derived.Deep.QuietTactic
import Derived.BigQuiet
import Derived.Shelf.Abstract
set_option linter.unusedSimpArgs false
set_option linter.unusedVariables false
namespace Go.Proofs.YtdhlicgaalnmoaaGreatDoor.Tp
open Lib (hid)
open Tryz
open Go.RowKit Go.Maps
set_option maxHeartbeats 8000000
set_option maxRecDepth 100000
section
open Go.RowKit
theorem aVq {w:World} {B e n c:Nat} {A:Option Addr} {xs:List Value} (h:w.ownsRow B e 1 (.slice A n c) n xs):w.ownsRow B e 1 (.slice A 0 c) 0 []:=by
 rcases h.2 with ⟨h0,hn⟩|⟨g,cap,cur,hv,hb,hh,hc,hm,hs,_⟩
 · injection h0 with h1 h2 h3;subst h1 h2 h3;exact⟨rfl,.inl ⟨rfl,rfl⟩⟩
 · injection hv with h1 h2 h3;subst h1 h3;exact⟨rfl,.inr ⟨g,c,cur,rfl,hb,hh,zL,hm,hs,by simp⟩⟩
theorem aUs (n:Nat) (w:World) (hn:n≤1000) :
  Calls prog 269 #[.slice none 0 0,.int .i64 (n:Int)] w fun e w'=>(∃v,e=.returned v∧w'.ownsRow w.heap.size 5 1 v 0 [])∧nD w w':=by
 obtain⟨i0,hi,hz0,hz1,hz2⟩:=info_parts aBq;have n0:¬((n:Int)<0):=by omega
 have w0:wrap64 (n:Int)=(n:Int):=by unfold wrap64;omega
 have hzc:(Value.int .u8 0).cells=#[Value.int .u8 0]:=rfl;by_cases h0:n=0
 · subst h0;go_enter func269,ntmps269
   go_wp2_with fail
   go_ret;exact⟨⟨_,rfl,rfl,.inl ⟨rfl,rfl⟩⟩,nB⟩
 · have n1:(0:Int)<(n:Int):=by omega
   have HN:=hid hn;clear hn h0;go_enter func269,ntmps269
   go_wp2_with (at_builtin;go_must (refine aCr _ rfl _ _ 41 3 rfl w.heap.size 5 i0 (.int .u8 0) .i64 .i64 underlying41 underlying3 hi hz0 hz1 hz2 hzc rfl _ 0 [] (by rfl) (by exact⟨rfl,.inl ⟨rfl,rfl⟩⟩) n (by first|rfl|exact congrArg (Value.int .i64) w0) (by have:=HN.o;omega) lR ?_);intro v1 w1 hO1 hG1;have HB:=hid (show nD w w1 from nB.grown hG1 lR (fun g hg=>by cases hg));rw[Nat.zero_add] at hO1;obtain⟨vA,vc,rfl⟩:=Xs hO1;have HO:=hid (aVq hO1);clear hO1 hG1)
   go_ret;exact⟨⟨_,rfl,HO.o⟩,HB.o⟩
theorem aXb {a c:Nat} (h:a+c≤1000):wrap64 ((a:Int)+(c:Int))=((a+c:Nat):Int):=by unfold wrap64;omega
structure RB where
 A:Option Addr
 n:Nat
 c:Nat
 bs:List Int
def RB.cell (x:RB):Value:=.slice x.A x.n x.c
theorem aBy (A:Option Addr) (n c:Nat) (rs:List RB) (w:World) (hl:rs.length=n) (h:Rd w w.heap.size A (rs.map RB.cell)) (hb:∀x∈rs,IsB w x.A x.n x.c x.bs) (hn:n≤1000) (ht:(rs.map (·.n)).sum≤1000) :
  Calls prog 217 #[.slice A n c] w fun e w'=>(∃v,e=.returned v∧Byt w' w.heap.size v (rs.flatMap (·.bs)))∧nD w w':=by
 obtain⟨i0,hi,hz0,hz1,hz2⟩:=info_parts aBq
 have tk:∀k,k≤n→((rs.take k).map (·.n)).sum≤(rs.map (·.n)).sum:=fun k _=>by
  conv=>rhs;rw[←List.take_append_drop k rs,rI,List.sum_append]
  omega
 have ts:∀k,(hk:k<rs.length)→((rs.take (k+1)).map (·.n)).sum=((rs.take k).map (·.n)).sum+rs[k].n:=fun k hk=>by rw[List.take_succ_eq_append_getElem hk,rI,List.sum_append];simp
 have tf:∀k,(hk:k<rs.length)→(rs.take (k+1)).flatMap (·.bs)=(rs.take k).flatMap (·.bs)++rs[k].bs:=fun k hk=>by rw[List.take_succ_eq_append_getElem hk,rX];simp
 have tn:∀k,k≤n→((rs.take k).flatMap (·.bs)).length=((rs.take k).map (·.n)).sum:=fun k=>by
  induction k with
  | zero=>intro _;simp
  | succ k ih=>intro hk;rw[tf k (by omega),ts k (by omega),rH,ih (by omega),(hb _ (rC _)).len]
 have HT:=nJ tk ts tf tn ht;have HB:=hid hb;clear tk ts tf tn ht hb;go_enter func217,ntmps217
 go_wp2_with fail
 go_loop [3,11] (fun s i=>∃(k t:Nat),k≤n∧i=.int .i64 (k:Int)∧s=.int .i64 (t:Int)∧Hid (t=((rs.take k).map (·.n)).sum)∧t≤1000) (fun _ i=>n - (intOf i).toNat)
 case atStart=>exact⟨0,0,zL,rfl,rfl,hid (by simp),by omega⟩
 case round =>
  obtain⟨k,t,hk,rfl,rfl,HS,ht⟩:=hrel;by_cases hlt:k<n
  · obtain⟨ad,rfl,_,e0⟩:=h.get (k:=k) (by rw[rU];omega);rw[rV] at e0;obtain⟨y,hy⟩:=nC (rs[k]'(by omega));rw[hy] at e0;unfold RB.cell at e0
    have n0:(k:Int)<(n:Int):=by omega
    have n1:(0:Int)≤(k:Int):=by omega
    have h1:=HT.o.2.1 k (by omega);rw[hy] at h1;have h2:=HT.o.1 (k+1) hlt;have h3:=HT.o.2.2.2.2;have h4:=HS.o;have ht2:t+y.n≤1000:=by omega
    have HS2:=hid (show t+y.n=((rs.take (k+1)).map (·.n)).sum by omega);have wk:=aXb ht2;have m0:¬(((t+y.n:Nat):Int)<0):=Int.not_lt.2 (Int.natCast_nonneg _);clear hy h1 h2 h3 h4;go_wp2_with fail
    go_round
    case rel=>exact⟨k+1,t+y.n,hlt,by go_num,by go_num,HS2,ht2⟩
    case measure=>exact aGn hlt
  · obtain rfl:k=n:=by omega
    have n0:¬((k:Int)<(k:Int)):=by omega
    have hgr:=aUs t w ht;go_wp2_with fail
    refine hgr.mono ?_;rintro e w1 ⟨⟨v,rfl,hv⟩,hb1⟩;go_wp2_with fail
    go_loopw [6,27] (fun s i wr=>∃j:Nat,j≤k∧i=.int .i64 (j:Int)∧wr.ownsRow w.heap.size 5 1 s ((rs.take j).flatMap (·.bs)).length (((rs.take j).flatMap (·.bs)).map (Value.int .u8))∧nD w wr) (fun _ i _=>k - (intOf i).toNat)
    case atStart=>exact⟨0,zL,rfl,by simpa using hv,hb1⟩
    case round =>
     clear hv hb1;obtain⟨j,hj,rfl,hO,hW⟩:=hrel;by_cases hlt:j<k
     · obtain⟨ad,rfl,_,e0⟩:=(h.next lR hW).get (k:=j) (by rw[rU];omega);rw[rV] at e0;obtain⟨y,hy⟩:=nC (rs[j]'(by omega));rw[hy] at e0;unfold RB.cell at e0
       have n1:(j:Int)<(k:Int):=by omega
       have n2:(0:Int)≤(j:Int):=by omega
       have h1:=HT.o.2.1 j (by omega);have h5:=HT.o.2.2.1 j (by omega);rw[hy] at h1 h5;have h2:=HT.o.1 (j+1) hlt;have h3:=HT.o.2.2.2.2;have h4:=HT.o.2.2.2.1 j (by omega);have hyb:=HB.o y (by rw[←hy];exact rC _);have HY:=hid (show IsB wr y.A y.n y.c y.bs∧((rs.take j).flatMap (·.bs)).length+y.n≤1000 from⟨hyb.next hW,by omega⟩);have HW:=nF hO hW;have HF:=nF h5 hyb.len;clear hy h1 h2 h3 h4 h5 hyb hO hW;go_wp2_with (at_builtin;go_must (refine aDu _ rfl _ _ 41 rfl w.heap.size 5 i0 (.int .u8 0) 1 underlying41 hi hz0 hz1 hz2 rfl _ _ _ (by rfl) (by exact HW.o.1) wr.heap.size y.A y.n y.c (y.bs.map (Value.int .u8)) (by rfl) (by rw[rU];exact HY.o.1.len) (by exact HY.o.1.rd) Ui (by have:=HY.o.2;omega) (by have:=HY.o.2;omega) (by exact HW.o.2.size) ?_);intro v1 w1 hO1 hG1)
       go_roundw
       case rel=>exact⟨j+1,hlt,by go_num,by rw[HF.o.1,rH,rI,HF.o.2];exact hO1,HW.o.2.grown hG1 HW.o.2.size (fun g hg=>(Xv HW.o.1 hg))⟩
       case measure=>exact aGn hlt
     · obtain rfl:j=k:=by omega
       rw[rG (by omega)] at hO;have HW:=nF hO hW;clear hO hW;go_wp2_with fail
       go_ret;refine⟨⟨_,rfl,HW.o.1,fun x hx=>?_⟩,HW.o.2⟩;obtain⟨y,hy,hxy⟩:=List.mem_flatMap.1 hx;exact(HB.o y hy).wf x hxy
theorem aIf (n a z:Int) (w:World) :
  Calls prog 219 #[.int .i64 n,.int .i64 a,.int .i64 z] w fun e w'=>e=.returned (.bool (decide (a≤n)&&decide (n≤z)))∧w'=w:=by
 by_cases h1:a≤n
 · have d1:decide (a≤n)=true:=rZ h1;by_cases h2:n≤z
   · have d2:decide (n≤z)=true:=rZ h2;go_enter func219,ntmps219
     go_wp2_with fail
     go_ret;exact⟨by simp[h1,h2],rfl⟩
   · have d2:decide (n≤z)=false:=rY h2;go_enter func219,ntmps219
     go_wp2_with fail
     go_ret;exact⟨by simp[h1,h2],rfl⟩
 · have d1:decide (a≤n)=false:=rY h1;go_enter func219,ntmps219
   go_wp2_with fail
   go_ret;exact⟨by simp[h1],rfl⟩
end
section
open Go.RowKit
theorem aYd {w:World} {F:Xt} {gd:Nat} {ns:List Nat} (h:Dev w F gd ns) {i k:Nat} (hi:ns[i]? =some k):∃zsl ops reads left zs z,Uo w F gd zsl ops reads left zs∧zs.map (·.n)=ns∧zs[i]? =some z∧z.n=k:=by
 obtain⟨zsl,ops,reads,left,zs,hx,hn⟩:=h;rw[←hn,rW] at hi
 cases hz:zs[i]? with
 | none=>rw[hz] at hi;cases hi
 | some z=>rw[hz] at hi;injection hi with hi;exact⟨zsl,ops,reads,left,zs,z,hx,hn,hz,hi⟩
theorem bAg (F:Xt) (gd:Nat) (zsl:Value) (ops reads left:Int) (zs:List ZD) (i:Nat) (z:ZD) (w:World) (hx:Uo w F gd zsl ops reads left zs) (hz:zs[i]? =some z) :
  Calls prog 49 #[.pointer (some ⟨gd,0,none⟩),.int .i64 (i:Int)] w fun e w'=>e=.returned (.int .i64 0)∧(∃ops',Uo w' F gd zsl ops' reads left (zs.set i ⟨z.gz,.slice none 0 0,0,[],0⟩))∧Kf F w w':=by
 have ha:=aJu F gd zsl ops reads left zs i z w hx hz;have hg:=aFr F gd zsl ops reads left zs w hx;unfold zp at ha;go_enter func49,ntmps49
 go_wp2_with fail
 refine ha.mono ?_;rintro e w' ⟨rfl,rfl⟩;go_wp2_with fail
 refine hg.mono ?_;rintro e w1 ⟨rfl,⟨ops',hx1⟩,hk1⟩;have hzm:=tZ hz;have hb:=hx1.zb z hzm;obtain⟨c0,c1⟩:=hb.c2;have f0:=hb.free 0;have f1:=hb.free 1;obtain⟨w2,hw2⟩:=nC ((w1.setCell ⟨z.gz,0,none⟩ (.slice none 0 0)).setCell ⟨z.gz,1,none⟩ (.int .i64 0));have hb2:Bk w2 z.gz 135 [.slice none 0 0,.int .i64 0]:=by rw[←hw2];exact(hb.set 0 _).set 1 _
 have hk2:Kf F w w2:=by rw[←hw2];exact(hk1.set hb (by decide) (.inl (hx1.f2 z hzm)) _ _).set (hb.set 0 _) (by decide) (.inl (hx1.f2 z hzm)) _ _
 have hq2:Kp2 (fun b=>b=z.gz∨z.v.ownBlock=some b) w1 w2:=by rw[←hw2];exact((Kp2.set w1 z.gz 0 _).trans (Kp2.set _ z.gz 1 _)).mono (fun b q=>.inl q)
 have hD:∃ops',Uo w2 F gd zsl ops' reads left (zs.set i ⟨z.gz,.slice none 0 0,0,[],0⟩):=⟨ops',hx1.setZ hz (.slice none 0 0) 0 [] 0 hq2 hb2 ⟨rfl,.inl ⟨rfl,rfl⟩⟩ (by omega) (fun g hg=>by cases hg) (fun b q=>q) (fun g hg=>by cases hg)⟩
 have HE:=nF hD hk2;clear hD hk2 hq2 hb2 hb hx1 hk1 hx ha hg hzm hz;go_wp2_with fail
 go_ret;exact⟨rfl,HE.o⟩
def aTd (zs zs':List ZD) (k:Nat):Prop:=∀i z',zs'[i]? =some z'→∃z,zs[i]? =some z∧z'.n=z.n∧z'.rows=z.rows∧(i<k→z'.good=(z'.n:Int))
theorem aTd.step {zs zs':List ZD} {k:Nat} {z:ZD} (h:aTd zs zs' k) (hz:zs'[k]? =some z):aTd zs (zs'.set k ⟨z.gz,z.v,z.n,z.rows,(z.n:Int)⟩) (k+1):=fun i z' hi=>by
 by_cases e:k=i
 · subst e;rw[List.getElem?_set_self (rB.1 hz).1] at hi;injection hi with hi;subst hi;obtain⟨z0,h1,h2,h3,_⟩:=h k z hz;exact⟨z0,h1,h2,h3,fun _=>rfl⟩
 · rw[List.getElem?_set_ne e] at hi;obtain⟨z0,h1,h2,h3,h4⟩:=h i z' hi;exact⟨z0,h1,h2,h3,fun q=>h4 (by omega)⟩
theorem aUe (F:Xt) (gd:Nat) (zsl:Value) (ops reads left:Int) (zs:List ZD) (w:World) (hx:Uo w F gd zsl ops reads left zs) :
  Calls prog 111 #[.pointer (some ⟨gd,0,none⟩)] w fun e w'=>e=.returned (.int .i64 0)∧(∃ops' zs',Uo w' F gd zsl ops' reads left zs'∧aTd zs zs' 8)∧Kf F w w':=by
 have hgo:=aFb F gd zsl ops reads left zs w hx;have hg:=aFr F gd zsl ops reads left zs w hx;go_enter func111,ntmps111
 go_wp2_with fail
 refine hgo.mono ?_;rintro e w' ⟨rfl,rfl⟩;go_wp2_with fail
 refine hg.mono ?_;rintro e w1 ⟨rfl,⟨ops',hx1⟩,hk1⟩;obtain⟨az,cz,hzs⟩:=aBd hx1.zr (by omega);subst hzs;have c2:=hx1.bx.cell (i:=2) (by simp);simp only[tI,tJ] at c2;have H1:=nF hx1 hk1;clear hx1 hk1 hgo hg hx;go_wp2_with fail
 go_loopw [17] (fun i wr=>∃(k:Nat) (zs':List ZD),k≤8∧i=.int .i64 (k:Int)∧Kf F w wr∧Uo wr F gd (.slice (some ⟨az,0,none⟩) 8 cz) ops' reads left zs'∧aTd zs zs' k) (fun i _=>8 - (intOf i).toNat)
 case atStart=>exact⟨0,zs,by omega,rfl,H1.o.2,H1.o.1,fun i z' hi=>⟨z',hi,rfl,rfl,fun q=>by omega⟩⟩
 case round =>
  clear c2;obtain⟨k,zs',hk,rfl,hkf,hx2,hn2⟩:=hrel;by_cases hlt:k<8
  · have hil:k<zs'.length:=by rw[hx2.zl];exact hlt
    obtain⟨z,hz⟩:∃z,zs'[k]? =some z:=⟨_,tX hil⟩
    have hzm:=tZ hz;have e0:=hx2.zr.cellAt k (by omega);rw[rW,hz] at e0;replace e0:wr.cell? ⟨az,k,none⟩=some (.pointer (some ⟨z.gz,0,none⟩)):=e0
    have hb:=hx2.zb z hzm;obtain⟨d0,d1⟩:=hb.c2;have f1:=hb.free 1;obtain⟨vA,vc,hvs⟩:=Xs (hx2.zo z hzm);rw[hvs] at d0;have n0:(k:Int)<8:=by omega
    have n1:(0:Int)≤(k:Int):=by omega
    obtain⟨w2,hw2⟩:=nC (wr.setCell ⟨z.gz,1,none⟩ (.int .i64 (z.n:Int)));have hb2:Bk w2 z.gz 135 [z.v,.int .i64 (z.n:Int)]:=by rw[←hw2];exact hb.set 1 _
    have hk2:Kf F w w2:=by rw[←hw2];exact hkf.set hb (by decide) (.inl (hx2.f2 z hzm)) _ _
    have hq:Kp2 (fun b=>b=z.gz) wr w2:=by rw[←hw2];exact Kp2.set wr z.gz 1 _
    have ho2:w2.ownsRow 0 41 1 z.v z.n z.rows:=hq.own (hx2.zo z hzm) (fun g hg e=>Vc (hx2.zo z hzm) hb (by decide) (by rw[hg,e]));have hD:=hx2.setZ hz z.v z.n z.rows (z.n:Int) (hq.mono (fun b q=>.inl q)) hb2 ho2 (hx2.mx z hzm) (fun g hg=>.inl hg) (fun b q=>q) (fun g hg=>hx2.f3 z hzm g hg);have hn3:=hn2.step hz;have HE:=nH hk2 hD hn3;clear hk2 hD hn3 hq ho2 hb2 hb hx2 hn2 hkf hzm hz hvs;go_wp2_with fail
    go_roundw
    case rel=>exact⟨k+1,_,hlt,by go_num,HE.o.1,HE.o.2.1,HE.o.2.2⟩
    case measure=>exact aGn hlt
  · obtain rfl:k=8:=by omega
    have n0:¬(((8:Nat):Int)<8):=by decide
    have HE:=nH hkf hx2 hn2;clear hkf hx2 hn2;go_wp2_with fail
    go_ret;exact⟨rfl,⟨_,_,HE.o.2.1,HE.o.2.2⟩,HE.o.1⟩
end
def aFs (v:Int) (k:Nat):Int:=v / 2 ^ (8*k) % 256
theorem aQy (v:Int) (k:Nat):0≤aFs v k∧aFs v k<256:=⟨Int.emod_nonneg _ (by decide),Int.emod_lt_of_pos _ (by decide)⟩
def leB (n:Nat) (v:Int):List Int:=(List.range n).map (aFs v)
theorem aAv (n:Nat) (v:Int):(leB n v).length=n:=by simp[leB]
theorem aLz (k:Nat) (v:Int):leB (k+1) v=leB k v++[aFs v k]:=by simp[leB,List.range_succ]
theorem aSu {bs:List Int} {k:Nat} {x:Int} (h:k<bs.length):(bs.set k x).take (k+1)=bs.take k++[x]:=by
 rw[List.take_succ_eq_append_getElem (by rw[rK];exact h),List.getElem_set_self,List.take_set_of_le lR]
theorem aVs (v:Int) (n:Nat) (w:World) (hn:n≤8) :
  Calls prog 165 #[.int .u64 v,.int .i64 (n:Int)] w fun e w'=>(∃u,e=.returned u∧Byt w' w.heap.size u (leB n v))∧nD w w':=by
 have hmk:=aGb w n (by omega);have hn8:n≤1000:=by omega
 have hb1:nD w (w.alloc (.cells (List.replicate n (Value.int .u8 0)).toArray 5)):=nB.alloc lR _;have hk1:Bk (w.alloc (.cells (List.replicate n (Value.int .u8 0)).toArray 5)) w.heap.size 5 ((List.replicate n (0:Int)).map (Value.int .u8)):=by rw[List.map_replicate];exact Bk.new w _ _
 obtain⟨w1,hw1⟩:=nC (w.alloc (.cells (List.replicate n (Value.int .u8 0)).toArray 5));rw[hw1] at hmk hb1 hk1;have H1:=nF hb1 hk1;clear hb1 hk1 hw1;go_enter func165,ntmps165
 go_wp2_with fail
 go_loopw [11] (fun i wr=>∃(k:Nat) (bs:List Int),k≤n∧i=.int .i64 (k:Int)∧Hid (nD w wr∧bs.length=n∧Bk wr w.heap.size 5 (bs.map (Value.int .u8))∧(∀x∈bs,0≤x∧x<256)∧bs.take k=leB k v)) (fun i _=>n - (intOf i).toNat)
 case atStart=>exact⟨0,_,zL,rfl,hid ⟨H1.o.1,List.length_replicate,H1.o.2,fun x hx=>by rw[(List.mem_replicate.1 hx).2];omega,rfl⟩⟩
 case round =>
  obtain⟨k,bs,hk,rfl,HB⟩:=hrel;by_cases hlt:k<n
  · have n0:(k:Int)<(n:Int):=by omega
    have n1:(0:Int)≤(k:Int):=by omega
    have hB:=HB.o.2.2.1;have hl:=HB.o.2.1;have c0:=hB.cell (i:=k) (by rw[rU];omega);obtain⟨old,hold⟩:=nC ((bs.map (Value.int .u8))[k]'(by rw[rU];omega));rw[hold] at c0;have f0:=hB.free k;have wk:wrap64 (8*(k:Int))=8*(k:Int):=by unfold wrap64;omega
    have n3:¬(8*(k:Int)<0):=by omega
    have et:(8*(k:Int)).toNat=8*k:=by omega
    have HT:=hid et;clear hold hB hl et;go_wp2_with fail
    go_roundw
    case rel =>
     refine⟨k+1,bs.set k (aFs v k),hlt,by go_num,hid ⟨HB.o.1.setCell (p:=⟨w.heap.size,k,none⟩) lR _,by rw[rK];exact HB.o.2.1,?lb,aWr HB.o.2.2.2.1 (aQy _ _),?ld⟩⟩
     case lb=>rw[←aWq];exact HB.o.2.2.1.set k _
     case ld=>rw[aSu (by rw[HB.o.2.1];exact hlt),HB.o.2.2.2.2,aLz]
    case measure=>exact aGn hlt
  · obtain rfl:k=n:=by omega
    have n0:¬((k:Int)<(k:Int)):=by omega
    go_wp2_with fail
    go_ret;have hl:=HB.o.2.1;have e:bs=leB k v:=by rw[←HB.o.2.2.2.2,rG (tO hl)]
    exact⟨⟨_,rfl,by rw[←e];exact aNs hl hn8 HB.o.2.2.1 lR HB.o.2.2.2.1⟩,HB.o.1⟩
theorem aVr (v:Int) (w:World) :
  Calls prog 101 #[.int .u64 v] w fun e w'=>(∃u,e=.returned u∧Byt w' w.heap.size u (leB 8 v))∧nD w w':=by
 have hp:=aVs v 8 w (by omega);go_enter func101,ntmps101
 go_wp2_with fail
 refine hp.mono ?_;rintro e w' ⟨⟨u,rfl,hu⟩,hb⟩;go_wp2_with fail
 go_ret;exact⟨⟨u,rfl,hu⟩,hb⟩
theorem aCy (v:Int) (w:World):Calls prog 104 #[.int .u32 v] w fun e w'=>(∃u bs,e=.returned u∧Byt w' w.heap.size u bs∧(bs.length=4∧bs=leB 4 (IntKind.u64.wrap v)))∧nD w w':=by
 have hp:∀x,_:=fun x=>aVs x 4 w (by omega)
 go_enter func104,ntmps104
 go_wp2_with fail
 refine(hp _).mono ?_;rintro e w' ⟨⟨u,rfl,h1⟩,hb⟩;go_wp2_with fail
 go_ret;exact⟨⟨_,_,rfl,h1,aAv _ _,rfl⟩,hb⟩
theorem aEc (v:Int) (w:World):Calls prog 101 #[.int .u64 v] w fun e w'=>(∃u bs,e=.returned u∧Byt w' w.heap.size u bs∧(bs.length=8∧bs=leB 8 v))∧nD w w' :=
 (aVr v w).mono fun e w' ⟨⟨u,h1,h2⟩,h3⟩=>⟨⟨u,_,h1,h2,aAv _ _,rfl⟩,h3⟩
section
open Go.RowKit
theorem aBc (n a z:Int) (w:World) (h1:a≤n) (h2:n≤z):Calls prog 219 #[.int .i64 n,.int .i64 a,.int .i64 z] w fun e w'=>e=.returned (.bool true)∧w=w' :=
 (aIf n a z w).mono fun e w' h=>by rw[rZ h1,rZ h2] at h;exact⟨h.1,h.2.symm⟩
theorem aAi {B:Nat} {a W:World} (_:Below B a W) (t:TypeId) (cs:List Value):∃g wA,W.heap.size=g∧W.alloc (.cells cs.toArray t)=wA∧Bk wA g t cs∧Below W.heap.size W wA:=⟨_,_,rfl,rfl,Bk.new W t cs,nB.alloc lR _⟩
theorem Byt.next {w w':World} {B:Nat} {v:Value} {bs:List Int} (h:Byt w B v bs) (hb:nD w w'):Byt w' B v bs:=⟨Vg h.1 hb,h.2⟩
theorem Byt.base {w:World} {B C:Nat} {v:Value} {bs:List Int} (h:Byt w C v bs) (hB:B≤C):Byt w B v bs:=by
 refine⟨⟨h.1.1,?_⟩,h.2⟩;rcases h.1.2 with h0|⟨g,cap,cur,hv,hb,r⟩
 · exact .inl h0
 · exact .inr ⟨g,cap,cur,hv,tK hB hb,r⟩
theorem aYr {W:World} {g7 g22 n n4 n8 n5 c c4 c8 c5 B4 B8 B5:Nat} {A A4 A8 A5:Option Addr} {x y:Int} {b4 b8 b5 bs:List Int} (h7:Bk W g7 5 [.int .u8 x,.int .u8 y]) (hx:0≤x∧x<256) (hy:0≤y∧y<256) (h4:Byt W B4 (.slice A4 n4 c4) b4) (l4:b4.length=4) (h8:Byt W B8 (.slice A8 n8 c8) b8) (l8:b8.length=8) (h5:Byt W B5 (.slice A5 n5 c5) b5) (l5:b5.length=4)
  (hb:IsB W A n c bs) (hn:n≤40) (h22:Bk W g22 41 [.slice (some ⟨g7,0,none⟩) 2 2,.slice A4 n4 c4,.slice A8 n8 c8,.slice A5 n5 c5,.slice A n c]) :
  ∃rs:List RB,rs.length=5∧Rd W W.heap.size (some ⟨g22,0,none⟩) (rs.map RB.cell)∧(∀x∈rs,IsB W x.A x.n x.c x.bs)∧(rs.map (·.n)).sum≤1000∧(rs.flatMap (·.bs)).length=18+n∧rs.flatMap (·.bs)=[x,y]++b4++b8++b5++bs:=by
 have e:∀{A:Option Addr} {n c B:Nat} {bs:List Int},Byt W B (.slice A n c) bs→n=bs.length∧IsB W A n c bs:=fun h=>by
  obtain⟨A',c',e,hi⟩:=h.isB;injection e with e1 e2 e3;subst e1 e2 e3;exact⟨rfl,hi⟩
 obtain⟨e4,i4⟩:=e h4;obtain⟨e8,i8⟩:=e h8;obtain⟨e5,i5⟩:=e h5;have i7:IsB W (some ⟨g7,0,none⟩) 2 2 [x,y]:=⟨rfl,h7.rd,by intro z hz;simp at hz;rcases hz with rfl|rfl<;>assumption,lR,by simp[maxLen]⟩;refine⟨[⟨some ⟨g7,0,none⟩,2,2,[x,y]⟩,⟨A4,n4,c4,b4⟩,⟨A8,n8,c8,b8⟩,⟨A5,n5,c5,b5⟩,⟨A,n,c,bs⟩],rfl,h22.rd,?_,?_,?_,by simp⟩
 · intro z hz;simp at hz
   rcases hz with rfl|rfl|rfl|rfl|rfl<;>assumption
 · simp;omega
 · have:=hb.len;simp;omega
def frA (kind ep seq lba:Int) (n:Nat) (bs:List Int):List Int:=[kind,(n:Int)]++leB 4 ep++leB 8 seq++leB 4 lba++bs
theorem aGr {kind ep seq lba:Int} {n:Nat} (bs:List Int) (hk:1≤kind∧kind≤4) (he:0≤ep∧ep≤4294967295) (hs:0≤seq∧seq≤1099511627776) (hl:0≤lba∧lba≤1048576) (hn:n≤40): [IntKind.u8.wrap kind,IntKind.u8.wrap (n:Int)]++leB 4 (IntKind.u64.wrap (IntKind.u32.wrap ep))++leB 8 (IntKind.u64.wrap seq)++leB 4 (IntKind.u64.wrap (IntKind.u32.wrap lba))++bs=frA kind ep seq lba n bs:=by
 rw[show IntKind.u8.wrap kind=kind by rw[IntKind.wrap_u8];omega,show IntKind.u8.wrap (n:Int)=n by rw[IntKind.wrap_u8];omega,show IntKind.u32.wrap ep=ep by rw[IntKind.wrap_u32];omega,show IntKind.u32.wrap lba=lba by rw[IntKind.wrap_u32];omega,show IntKind.u64.wrap ep=ep by rw[IntKind.wrap_u64];omega,show IntKind.u64.wrap lba=lba by rw[IntKind.wrap_u64];omega,show IntKind.u64.wrap seq=seq by rw[IntKind.wrap_u64];omega];rfl
def frB (kind ep seq lba:Int) (n:Nat) (bs:List Int):List Int:=frA kind ep seq lba n bs++List.replicate (42 - n) 0
theorem aDx (kind ep seq lba:Int) (A:Option Addr) (n c:Nat) (bs:List Int) (w:World) (hk:1≤kind∧kind≤4) (he:0≤ep∧ep≤4294967295) (hs:0≤seq∧seq≤1099511627776) (hl:0≤lba∧lba≤1048576) (hb:IsB w A n c bs) (hn:n≤40) :
  Calls prog 164 #[.agg #[.int .i64 kind,.int .i64 ep,.int .i64 seq,.int .i64 lba,.slice A n c]] w fun e w'=>(∃v bs',e=.returned (.tuple #[v,.int .i64 0])∧Byt w' w.heap.size v bs'∧(bs'.length=64∧bs'.take 60=frB kind ep seq lba n bs))∧nD w w':=by
 obtain⟨i0,hi,hz0,hz1,hz2⟩:=info_parts aBq;obtain⟨w1,hw1⟩:=nC (w.alloc (.cells #[.int .i64 kind,.int .i64 ep,.int .i64 seq,.int .i64 lba,.slice A n c] 258));have hb1:nD w w1:=by rw[←hw1];exact nB.alloc lR _
 have hp1:Bk w1 w.heap.size 258 [.int .i64 kind,.int .i64 ep,.int .i64 seq,.int .i64 lba,.slice A n c]:=by rw[←hw1];exact Bk.new w _ _
 obtain⟨c0,c1,c2,c3,c4⟩:=hp1.c5
 have K:=hid (fun w' (h:nD w1 w')=>(show w'.cell? ⟨w.heap.size,0,none⟩=some (.int .i64 kind)∧w'.cell? ⟨w.heap.size,1,none⟩=some (.int .i64 ep)∧w'.cell? ⟨w.heap.size,2,none⟩=some (.int .i64 seq)∧w'.cell? ⟨w.heap.size,3,none⟩=some (.int .i64 lba)∧w'.cell? ⟨w.heap.size,4,none⟩=some (.slice A n c) from by
  have h:=hp1.next h hp1.lt;exact⟨h.cell (i:=0) (by simp),h.cell (i:=1) (by simp),h.cell (i:=2) (by simp),h.cell (i:=3) (by simp),h.cell (i:=4) (by simp)⟩))
 have H1:=nH hb1 hp1 (hb.next hb1);have t0:decide (40<(n:Int))=false:=rY (by omega);have HC:=nJ hk he hs hl hn;clear hb1 hp1 hb hk he hs hl hn;go_enter func164,ntmps164
 go_wp2_with fail
 refine(aBc _ _ _ _ HC.o.1.1 HC.o.1.2).mono ?_;rintro e w' ⟨rfl,rfl⟩;go_wp2_with fail
 refine(aBc _ _ _ _ HC.o.2.1.1 HC.o.2.1.2).mono ?_;rintro e w' ⟨rfl,rfl⟩;go_wp2_with fail
 refine(aBc _ _ _ _ HC.o.2.2.1.1 HC.o.2.2.1.2).mono ?_;rintro e w' ⟨rfl,rfl⟩;go_wp2_with fail
 refine(aBc _ _ _ _ HC.o.2.2.2.1.1 HC.o.2.2.2.1.2).mono ?_;rintro e w' ⟨rfl,rfl⟩;go_wp2_with fail
 go_cut [4] from 33 to 56 (fun v wx=>∃bs',Byt wx w.heap.size v bs'∧(bs'.length=18+n∧bs'=frA kind ep seq lba n bs)∧nD w wx)
 case first =>
  have Kq:=K;refine wp_region_held_drew (S:=fun w'=>nD w1 w') (by kernel_rfl) (Xu nB) (fun nE=>?_);obtain⟨wd,hwd⟩:=nC (w1.drew);rw[hwd] at nE ⊢;clear hwd;refine kF 0 ?_;refine kF 1 ?_;refine kF 2 ?_;refine kF 3 ?_;refine kF 4 ?_;refine kF 5 ?_;refine kF 6 ?_;refine kF 8 ?_;refine kF 9 ?_;refine kF 10 ?_;refine kF 12 ?_;refine kF 13 ?_;refine kF 14 ?_;refine kF 16 ?_;refine kF 17 ?_;refine kF 18 ?_;refine kF 20 ?_;refine kF 21 ?_;refine wpAnyH_ready (rs:=[7,11]) (by kernel_rfl) (by simp) ?_;refine AllReadyH.cons (by simp only[tF,tG,tH];rfl) (fun K' hK=>?_) (AllReadyH.cons (by simp only[tF,tG,tH];rfl) (fun K' hK=>?_) AllReadyH.nil)
  · skip;go_simp;obtain⟨g7,wA,hg7,hwA,hB7,hb'⟩:=aAi nE 5 [.int .u8 (IntKind.u8.wrap kind),.int .u8 (IntKind.u8.wrap (n:Int))];rw[hwA];clear hwA;try simp only[World.size_drew] at hg7
    have hS':=nE.trans (hb'.mono nE.size);clear hb';refine hK.out _ _ (hS') (fun hHeld2=>?_);clear hK K' nE;have nE:=hHeld2;clear hHeld2;try simp only[Act.put,tC,tD,tE]
    clear hS';refine rF 11 (fun K' hK=>?_);go_simp;refine(aCy _ _).mono ?_;rintro e w4 ⟨⟨u4,b4,rfl,hY4,l4⟩,hb'⟩;obtain⟨A4,c4,rfl⟩:=Xs hY4.1;have L4:=hid l4;clear l4;have hS':=nE.trans (hb'.mono nE.size);go_simp;replace hB7:=hB7.next hb' hB7.lt
    clear hb';refine hK.out _ _ (hS') (fun hHeld2=>?_);clear hK K' nE;have nE:=hHeld2;clear hHeld2;try simp only[Act.put,tC,tD,tE]
    clear hS';refine rF 15 (fun K' hK=>?_);go_simp;refine(aEc _ _).mono ?_;rintro e w8 ⟨⟨u8,b8,rfl,hY8,l8⟩,hb'⟩;obtain⟨A8,c8,rfl⟩:=Xs hY8.1;have L8:=hid l8;clear l8;have hS':=nE.trans (hb'.mono nE.size);go_simp;replace hB7:=hB7.next hb' hB7.lt
    replace hY4:=hY4.next hb'
    clear hb';refine hK.out _ _ (hS') (fun hHeld2=>?_);clear hK K' nE;have nE:=hHeld2;clear hHeld2;try simp only[Act.put,tC,tD,tE]
    clear hS';refine rF 19 (fun K' hK=>?_);go_simp;refine(aCy _ _).mono ?_;rintro e w5 ⟨⟨u5,b5,rfl,hY5,l5⟩,hb'⟩;obtain⟨A5,c5,rfl⟩:=Xs hY5.1;have L5:=hid l5;clear l5;have hS':=nE.trans (hb'.mono nE.size);go_simp;replace hB7:=hB7.next hb' hB7.lt
    replace hY4:=hY4.next hb'
    replace hY8:=hY8.next hb'
    clear hb';refine hK.out _ _ (hS') (fun hHeld2=>?_);clear hK K' nE;have nE:=hHeld2;clear hHeld2;try simp only[Act.put,tC,tD,tE]
    clear hS';refine rF 22 (fun K' hK=>?_);go_simp;obtain⟨g22,wB,hg22,hwB,h22,hb'⟩:=aAi nE 41 [.slice (some ⟨g7,0,none⟩) 2 2,.slice A4 b4.length c4,.slice A8 b8.length c8,.slice A5 b5.length c5,.slice A n c];rw[hwB];clear hwB;have hS':=nE.trans (hb'.mono nE.size);replace hB7:=hB7.next hb' hB7.lt
    replace hY4:=hY4.next hb'
    replace hY8:=hY8.next hb'
    replace hY5:=hY5.next hb'
    clear hb';refine hK.out _ _ (hS') (fun hHeld2=>?_);clear hK K' nE;have nE:=hHeld2;clear hHeld2;try simp only[Act.put,tC,tD,tE]
    clear hS';refine rF 23 (fun K' hK=>?_);go_simp;obtain⟨rs,r1,r2,r3,r4,r5,r6⟩:=aYr hB7 (aBo _) (aBo _) hY4 L4.o.1 hY8 L8.o.1 hY5 L5.o.1 (H1.o.2.2.next nE) HC.o.2.2.2.2 h22;refine(aBy _ _ _ rs _ r1 r2 r3 (by omega) r4).mono ?_;rintro e wc ⟨⟨v,rfl,hv⟩,hb'⟩;have hS':=nE.trans (hb'.mono nE.size);have hvb:=hv.base (B:=w.heap.size) (tK H1.o.1.size nE.size);clear hv hb' r1 r2 r3 r4;go_simp;refine hK.out _ _ (hS') (fun hHeld2=>?_);clear hK K' nE;have nE:=hHeld2;clear hHeld2;try simp only[Act.put,tC,tD,tE]
    refine kF 24 ?_;refine wpAnyH_done (by kernel_rfl) ?_ _;go_wp2_with fail
    go_meet
    exact⟨_,hvb,⟨r5,by rw[r6,L4.o.2,L8.o.2,L5.o.2];exact aGr bs HC.o.1 HC.o.2.1 HC.o.2.2.1 HC.o.2.2.2.1 HC.o.2.2.2.2⟩,H1.o.1.trans (nE.mono H1.o.1.size)⟩
  · skip;go_simp;refine(aCy _ _).mono ?_;rintro e w4 ⟨⟨u4,b4,rfl,hY4,l4⟩,hb'⟩;obtain⟨A4,c4,rfl⟩:=Xs hY4.1;have L4:=hid l4;clear l4;have hS':=nE.trans (hb'.mono nE.size);go_simp;clear hb';refine hK.out _ _ (hS') (fun hHeld2=>?_);clear hK K' nE;have nE:=hHeld2;clear hHeld2;try simp only[Act.put,tC,tD,tE]
    clear hS';refine wpAnyH_ready (rs:=[7,15]) (by kernel_rfl) (by simp) ?_;refine AllReadyH.cons (by simp only[tF,tG,tH];rfl) (fun K' hK=>?_) (AllReadyH.cons (by simp only[tF,tG,tH];rfl) (fun K' hK=>?_) AllReadyH.nil)
    · skip;go_simp;obtain⟨g7,wA,hg7,hwA,hB7,hb'⟩:=aAi nE 5 [.int .u8 (IntKind.u8.wrap kind),.int .u8 (IntKind.u8.wrap (n:Int))];rw[hwA];clear hwA;try simp only[World.size_drew] at hg7
      have hS':=nE.trans (hb'.mono nE.size);replace hY4:=hY4.next hb'
      clear hb';refine hK.out _ _ (hS') (fun hHeld2=>?_);clear hK K' nE;have nE:=hHeld2;clear hHeld2;try simp only[Act.put,tC,tD,tE]
      clear hS';refine rF 15 (fun K' hK=>?_);go_simp;refine(aEc _ _).mono ?_;rintro e w8 ⟨⟨u8,b8,rfl,hY8,l8⟩,hb'⟩;obtain⟨A8,c8,rfl⟩:=Xs hY8.1;have L8:=hid l8;clear l8;have hS':=nE.trans (hb'.mono nE.size);go_simp;replace hB7:=hB7.next hb' hB7.lt
      replace hY4:=hY4.next hb'
      clear hb';refine hK.out _ _ (hS') (fun hHeld2=>?_);clear hK K' nE;have nE:=hHeld2;clear hHeld2;try simp only[Act.put,tC,tD,tE]
      clear hS';refine rF 19 (fun K' hK=>?_);go_simp;refine(aCy _ _).mono ?_;rintro e w5 ⟨⟨u5,b5,rfl,hY5,l5⟩,hb'⟩;obtain⟨A5,c5,rfl⟩:=Xs hY5.1;have L5:=hid l5;clear l5;have hS':=nE.trans (hb'.mono nE.size);go_simp;replace hB7:=hB7.next hb' hB7.lt
      replace hY4:=hY4.next hb'
      replace hY8:=hY8.next hb'
      clear hb';refine hK.out _ _ (hS') (fun hHeld2=>?_);clear hK K' nE;have nE:=hHeld2;clear hHeld2;try simp only[Act.put,tC,tD,tE]
      clear hS';refine rF 22 (fun K' hK=>?_);go_simp;obtain⟨g22,wB,hg22,hwB,h22,hb'⟩:=aAi nE 41 [.slice (some ⟨g7,0,none⟩) 2 2,.slice A4 b4.length c4,.slice A8 b8.length c8,.slice A5 b5.length c5,.slice A n c];rw[hwB];clear hwB;have hS':=nE.trans (hb'.mono nE.size);replace hB7:=hB7.next hb' hB7.lt
      replace hY4:=hY4.next hb'
      replace hY8:=hY8.next hb'
      replace hY5:=hY5.next hb'
      clear hb';refine hK.out _ _ (hS') (fun hHeld2=>?_);clear hK K' nE;have nE:=hHeld2;clear hHeld2;try simp only[Act.put,tC,tD,tE]
      clear hS';refine rF 23 (fun K' hK=>?_);go_simp;obtain⟨rs,r1,r2,r3,r4,r5,r6⟩:=aYr hB7 (aBo _) (aBo _) hY4 L4.o.1 hY8 L8.o.1 hY5 L5.o.1 (H1.o.2.2.next nE) HC.o.2.2.2.2 h22;refine(aBy _ _ _ rs _ r1 r2 r3 (by omega) r4).mono ?_;rintro e wc ⟨⟨v,rfl,hv⟩,hb'⟩;have hS':=nE.trans (hb'.mono nE.size);have hvb:=hv.base (B:=w.heap.size) (tK H1.o.1.size nE.size);clear hv hb' r1 r2 r3 r4;go_simp;refine hK.out _ _ (hS') (fun hHeld2=>?_);clear hK K' nE;have nE:=hHeld2;clear hHeld2;try simp only[Act.put,tC,tD,tE]
      refine kF 24 ?_;refine wpAnyH_done (by kernel_rfl) ?_ _;go_wp2_with fail
      go_meet
      exact⟨_,hvb,⟨r5,by rw[r6,L4.o.2,L8.o.2,L5.o.2];exact aGr bs HC.o.1 HC.o.2.1 HC.o.2.2.1 HC.o.2.2.2.1 HC.o.2.2.2.2⟩,H1.o.1.trans (nE.mono H1.o.1.size)⟩
    · skip;go_simp;refine(aEc _ _).mono ?_;rintro e w8 ⟨⟨u8,b8,rfl,hY8,l8⟩,hb'⟩;obtain⟨A8,c8,rfl⟩:=Xs hY8.1;have L8:=hid l8;clear l8;have hS':=nE.trans (hb'.mono nE.size);go_simp;replace hY4:=hY4.next hb'
      clear hb';refine hK.out _ _ (hS') (fun hHeld2=>?_);clear hK K' nE;have nE:=hHeld2;clear hHeld2;try simp only[Act.put,tC,tD,tE]
      clear hS';refine wpAnyH_ready (rs:=[7,19]) (by kernel_rfl) (by simp) ?_;refine AllReadyH.cons (by simp only[tF,tG,tH];rfl) (fun K' hK=>?_) (AllReadyH.cons (by simp only[tF,tG,tH];rfl) (fun K' hK=>?_) AllReadyH.nil)
      · skip;go_simp;obtain⟨g7,wA,hg7,hwA,hB7,hb'⟩:=aAi nE 5 [.int .u8 (IntKind.u8.wrap kind),.int .u8 (IntKind.u8.wrap (n:Int))];rw[hwA];clear hwA;try simp only[World.size_drew] at hg7
        have hS':=nE.trans (hb'.mono nE.size);replace hY4:=hY4.next hb'
        replace hY8:=hY8.next hb'
        clear hb';refine hK.out _ _ (hS') (fun hHeld2=>?_);clear hK K' nE;have nE:=hHeld2;clear hHeld2;try simp only[Act.put,tC,tD,tE]
        clear hS';refine rF 19 (fun K' hK=>?_);go_simp;refine(aCy _ _).mono ?_;rintro e w5 ⟨⟨u5,b5,rfl,hY5,l5⟩,hb'⟩;obtain⟨A5,c5,rfl⟩:=Xs hY5.1;have L5:=hid l5;clear l5;have hS':=nE.trans (hb'.mono nE.size);go_simp;replace hB7:=hB7.next hb' hB7.lt
        replace hY4:=hY4.next hb'
        replace hY8:=hY8.next hb'
        clear hb';refine hK.out _ _ (hS') (fun hHeld2=>?_);clear hK K' nE;have nE:=hHeld2;clear hHeld2;try simp only[Act.put,tC,tD,tE]
        clear hS';refine rF 22 (fun K' hK=>?_);go_simp;obtain⟨g22,wB,hg22,hwB,h22,hb'⟩:=aAi nE 41 [.slice (some ⟨g7,0,none⟩) 2 2,.slice A4 b4.length c4,.slice A8 b8.length c8,.slice A5 b5.length c5,.slice A n c];rw[hwB];clear hwB;have hS':=nE.trans (hb'.mono nE.size);replace hB7:=hB7.next hb' hB7.lt
        replace hY4:=hY4.next hb'
        replace hY8:=hY8.next hb'
        replace hY5:=hY5.next hb'
        clear hb';refine hK.out _ _ (hS') (fun hHeld2=>?_);clear hK K' nE;have nE:=hHeld2;clear hHeld2;try simp only[Act.put,tC,tD,tE]
        clear hS';refine rF 23 (fun K' hK=>?_);go_simp;obtain⟨rs,r1,r2,r3,r4,r5,r6⟩:=aYr hB7 (aBo _) (aBo _) hY4 L4.o.1 hY8 L8.o.1 hY5 L5.o.1 (H1.o.2.2.next nE) HC.o.2.2.2.2 h22;refine(aBy _ _ _ rs _ r1 r2 r3 (by omega) r4).mono ?_;rintro e wc ⟨⟨v,rfl,hv⟩,hb'⟩;have hS':=nE.trans (hb'.mono nE.size);have hvb:=hv.base (B:=w.heap.size) (tK H1.o.1.size nE.size);clear hv hb' r1 r2 r3 r4;go_simp;refine hK.out _ _ (hS') (fun hHeld2=>?_);clear hK K' nE;have nE:=hHeld2;clear hHeld2;try simp only[Act.put,tC,tD,tE]
        refine kF 24 ?_;refine wpAnyH_done (by kernel_rfl) ?_ _;go_wp2_with fail
        go_meet
        exact⟨_,hvb,⟨r5,by rw[r6,L4.o.2,L8.o.2,L5.o.2];exact aGr bs HC.o.1 HC.o.2.1 HC.o.2.2.1 HC.o.2.2.2.1 HC.o.2.2.2.2⟩,H1.o.1.trans (nE.mono H1.o.1.size)⟩
      · skip;go_simp;refine(aCy _ _).mono ?_;rintro e w5 ⟨⟨u5,b5,rfl,hY5,l5⟩,hb'⟩;obtain⟨A5,c5,rfl⟩:=Xs hY5.1;have L5:=hid l5;clear l5;have hS':=nE.trans (hb'.mono nE.size);go_simp;replace hY4:=hY4.next hb'
        replace hY8:=hY8.next hb'
        clear hb';refine hK.out _ _ (hS') (fun hHeld2=>?_);clear hK K' nE;have nE:=hHeld2;clear hHeld2;try simp only[Act.put,tC,tD,tE]
        clear hS';refine rF 7 (fun K' hK=>?_);go_simp;obtain⟨g7,wA,hg7,hwA,hB7,hb'⟩:=aAi nE 5 [.int .u8 (IntKind.u8.wrap kind),.int .u8 (IntKind.u8.wrap (n:Int))];rw[hwA];clear hwA;try simp only[World.size_drew] at hg7
        have hS':=nE.trans (hb'.mono nE.size);replace hY4:=hY4.next hb'
        replace hY8:=hY8.next hb'
        replace hY5:=hY5.next hb'
        clear hb';refine hK.out _ _ (hS') (fun hHeld2=>?_);clear hK K' nE;have nE:=hHeld2;clear hHeld2;try simp only[Act.put,tC,tD,tE]
        clear hS';refine rF 22 (fun K' hK=>?_);go_simp;obtain⟨g22,wB,hg22,hwB,h22,hb'⟩:=aAi nE 41 [.slice (some ⟨g7,0,none⟩) 2 2,.slice A4 b4.length c4,.slice A8 b8.length c8,.slice A5 b5.length c5,.slice A n c];rw[hwB];clear hwB;have hS':=nE.trans (hb'.mono nE.size);replace hB7:=hB7.next hb' hB7.lt
        replace hY4:=hY4.next hb'
        replace hY8:=hY8.next hb'
        replace hY5:=hY5.next hb'
        clear hb';refine hK.out _ _ (hS') (fun hHeld2=>?_);clear hK K' nE;have nE:=hHeld2;clear hHeld2;try simp only[Act.put,tC,tD,tE]
        clear hS';refine rF 23 (fun K' hK=>?_);go_simp;obtain⟨rs,r1,r2,r3,r4,r5,r6⟩:=aYr hB7 (aBo _) (aBo _) hY4 L4.o.1 hY8 L8.o.1 hY5 L5.o.1 (H1.o.2.2.next nE) HC.o.2.2.2.2 h22;refine(aBy _ _ _ rs _ r1 r2 r3 (by omega) r4).mono ?_;rintro e wc ⟨⟨v,rfl,hv⟩,hb'⟩;have hS':=nE.trans (hb'.mono nE.size);have hvb:=hv.base (B:=w.heap.size) (tK H1.o.1.size nE.size);clear hv hb' r1 r2 r3 r4;go_simp;refine hK.out _ _ (hS') (fun hHeld2=>?_);clear hK K' nE;have nE:=hHeld2;clear hHeld2;try simp only[Act.put,tC,tD,tE]
        refine kF 24 ?_;refine wpAnyH_done (by kernel_rfl) ?_ _;go_wp2_with fail
        go_meet
        exact⟨_,hvb,⟨r5,by rw[r6,L4.o.2,L8.o.2,L5.o.2];exact aGr bs HC.o.1 HC.o.2.1 HC.o.2.2.1 HC.o.2.2.2.1 HC.o.2.2.2.2⟩,H1.o.1.trans (nE.mono H1.o.1.size)⟩
 case rest =>
  obtain⟨bs',hv,⟨hl,hfr⟩,hB⟩:=hcut;have HFR:=nF hfr hl;clear hfr;obtain⟨vA,vc,rfl⟩:=Xs hv.1;have hn:=HC.o.2.2.2.2;obtain⟨m,hm⟩:=nC (bs'.length);rw[hm] at hl;have hv1:=hv.1;rw[hm] at hv1 ⊢;have wk:wrap64 (60 - (m:Int))=((60 - m:Nat):Int):=by unfold wrap64;omega
  have HV:=nI hv1 hv.2 hl hB;have HZ:=hid (show m+(60 - m)=60∧m+(60 - m)≤1000000 by omega);clear hv hv1 hl hB hm;go_wp2_with (at_builtin;refine aCr _ rfl _ _ 41 3 rfl w.heap.size 5 i0 (.int .u8 0) .i64 .i64 underlying41 underlying3 hi hz0 hz1 hz2 rfl rfl _ m _ (by rfl) (by exact HV.o.1) (60 - m) (by first|rfl|exact congrArg (Value.int .i64) wk) HZ.o.2 (by exact HV.o.2.2.2.size) ?_;intro v1 wz hO1 hG1)
  rw[HZ.o.1] at hO1;obtain⟨xA,xc,rfl⟩:=Xs hO1
  have hBy:Byt wz w.heap.size (.slice xA 60 xc) (bs'++List.replicate (60 - m) 0):=⟨by
   have e:(bs'++List.replicate (60 - m) (0:Int)).map (Value.int .u8)=bs'.map (Value.int .u8)++List.replicate (60 - m) (Value.int .u8 0):=by rw[rI,List.map_replicate]
   rw[e];have hl:=hO1.1;rw[rH,rU,List.length_replicate] at hl;have e2:(bs'++List.replicate (60 - m) (0:Int)).length=60:=by rw[rH,List.length_replicate];omega
   rw[e2];exact hO1,fun x hx=>by
   rcases rE.1 hx with q|q
   · exact HV.o.2.1 x q
   · rw[(List.mem_replicate.1 q).2];omega⟩
  obtain⟨bz,hbz⟩:=nC (bs'++List.replicate (60 - m) 0);rw[hbz] at hBy;have HBZ:=hid (show bz=frB kind ep seq lba n bs by rw[←hbz];unfold frB;rw[←HFR.o.1,show 60 - m=42 - n by have:=HV.o.2.2.1;omega]);have hlz:bz.length=60:=by have:=hBy.1.1;rw[rU] at this;obtain⟨A',c',e,_⟩:=hBy.isB;injection e with _ e _;exact e.symm
  have hBz:nD w wz:=HV.o.2.2.2.grown hG1 HV.o.2.2.2.size (fun g hg=>Xv HV.o.1 hg)
  have hIz:IsB wz xA 60 xc bz:=by
   obtain⟨A',c',e,hi⟩:=hBy.isB;rw[hlz] at e hi;injection e with e1 _ e3;subst e1 e3;exact hi
  have H5:=nH hBy hlz hBz;clear hO1 hG1 hBy hbz hlz hBz;refine(aIw xA 60 xc bz wz hIz (by omega)).mono ?_;rintro e wy ⟨⟨x,rfl⟩,hby⟩;go_wp2_with fail
  refine(aGa x wy).mono ?_;rintro e wx ⟨⟨u,b4,rfl,hu,hlu⟩,hbx⟩;obtain⟨uA,uc,eu,hui⟩:=hu.isB;subst eu;rw[hlu] at hui ⊢;have hbyx:=hby.trans (hbx.mono hby.size);have H6:=nI (H5.o.1.next hbyx) (H5.o.2.2.trans (hbyx.mono H5.o.2.2.size)) hui hlu;have hwf4:=hid hu.2;clear hu hby hbx hbyx hui;go_wp2_with (at_builtin;go_must (refine aDu _ rfl _ _ 41 rfl w.heap.size 5 i0 (.int .u8 0) 1 underlying41 hi hz0 hz1 hz2 rfl _ 60 (bz.map (Value.int .u8)) (by rfl) (by have:=H6.o.1.1;rw[H5.o.2.1] at this;exact this) wx.heap.size uA 4 uc (b4.map (Value.int .u8)) (by rfl) (by rw[rU];exact H6.o.2.2.2) (by exact H6.o.2.2.1.rd) Ui (by omega) (by omega) (by exact H6.o.2.1.size) ?_);intro v2 wF hO2 hG2)
  have e64:(bz++b4).length=60+4:=by rw[rH,H5.o.2.1,H6.o.2.2.2]
  have hF:Byt wF w.heap.size v2 (bz++b4):=⟨by rw[e64,rI];exact hO2,fun y hy=>by
   rcases rE.1 hy with q|q
   · exact H5.o.1.2 y q
   · exact hwf4.out y q⟩
  have hbF:nD w wF:=H6.o.2.1.grown hG2 H6.o.2.1.size (fun g hg=>Xv H6.o.1.1 hg);have HF:=nH hF e64 hbF;clear hF e64 hbF hO2 hG2;go_ret2
  exact⟨⟨_,_,rfl,HF.o.1,HF.o.2.1,by rw[List.take_left' H5.o.2.1];exact HBZ.o⟩,HF.o.2.2⟩
theorem aNy (kind ep seq lba:Int) (A:Option Addr) (n c:Nat) (bs:List Int) (w:World) (hk:1≤kind∧kind≤4) (he:0≤ep∧ep≤4294967295) (hs:0≤seq∧seq≤1099511627776) (hl:0≤lba∧lba≤1048576) (hb:IsB w A n c bs) (hn:n≤40) :
  Calls prog 164 #[.agg #[.int .i64 kind,.int .i64 ep,.int .i64 seq,.int .i64 lba,.slice A n c]] w fun e w'=>(∃v bs',e=.returned (.tuple #[v,.int .i64 0])∧Byt w' w.heap.size v bs'∧bs'.length=64)∧nD w w' :=
 (aDx kind ep seq lba A n c bs w hk he hs hl hb hn).mono fun e w' ⟨⟨v,bs',h1,h2,h3,_⟩,h4⟩=>⟨⟨v,bs',h1,h2,h3⟩,h4⟩
end
section
open Go.RowKit
theorem bDr:(prog.info? 41).map (fun i=>(i.zero,i.size,i.bytes))=some (some (.slice none 0 0),1,24):=by kernel_rfl
structure IsY (w:World) (A:Option Addr) (n c:Nat) (bs:List Int):Prop where
 b:IsB w A n c bs
 y:∀ad,A=some ad→0<n→∃ob,w.heap[ad.block]? =some ob∧Dat ob
theorem IsY.ag {w w':World} {F:Xt} {A:Option Addr} {n c:Nat} {bs:List Int} (h:IsY w A n c bs) (k:Ag F w w'):IsY w' A n c bs:=by
 refine⟨⟨h.b.len,fun hl=>?_,h.b.wf,h.b.cap,h.b.big⟩,fun ad e hn=>?_⟩
 · obtain⟨ad,e,hb,hc⟩:=h.b.rd hl;refine⟨ad,e,tL hb k.size,fun j u hu=>?_⟩;obtain⟨ob,ho,hd⟩:=h.y ad e (by have:=h.b.len;rw[rU] at hl;omega);have:=hc j u hu;rw[World.cell?_of_block (w:=w) (w':=w') (by rw[aAk,ho,k.keep _ _ ho (.inr hd)])];exact this
 · obtain⟨ob,ho,hd⟩:=h.y ad e hn;exact⟨ob,k.keep _ _ ho (.inr hd),hd⟩
theorem Byt.isY {w:World} {B:Nat} {v:Value} {bs:List Int} (h:Byt w B v bs):∃A c,v=.slice A bs.length c∧IsY w A bs.length c bs:=by
 obtain⟨A,c,rfl,hi⟩:=h.isB;refine⟨A,c,rfl,hi,fun ad e _=>?_⟩;subst e;obtain⟨cs,fr,hh⟩:=Vx h.1 (g:=ad.block) rfl;exact⟨_,hh,cs,fr,rfl⟩
theorem IsY.kp {w w':World} {P:Nat→Prop} {A:Option Addr} {n c:Nat} {bs:List Int} (h:IsY w A n c bs) (k:Kp2 P w w') (hs:w.heap.size≤w'.heap.size) (hp:∀b ob,w.heap[b]? =some ob→Dat ob→¬P b):IsY w' A n c bs :=
 h.ag (F:=fun _=>False) ⟨hs,fun b ob hb hn=>hn.elim (fun q=>q.elim) (fun hd=>k b ob hb (hp b ob hb hd))⟩
theorem Xy (W:World) (t:TypeId) (cs:List Value):∃g wA,W.heap.size=g∧W.alloc (.cells cs.toArray t)=wA∧Bk wA g t cs∧Below W.heap.size W wA:=⟨_,_,rfl,rfl,Bk.new W t cs,nB.alloc lR _⟩
theorem aTl (F:Xt) (gd:Nat) (zsl:Value) (ops reads left:Int) (zs:List ZD) (i:Nat) (z:ZD) (A:Option Addr) (c:Nat) (bs:List Int) (w:World) (hx:Uo w F gd zsl ops reads left zs) (hz:zs[i]? =some z) (hk:z.n<96) (hp:IsY w A 64 c bs) (hI:In w F) :
  Calls prog 110 #[.pointer (some ⟨gd,0,none⟩),.int .i64 (i:Int),.slice A 64 c] w fun e w'=>e=.returned (.tuple #[.int .i64 (z.n:Int),.int .i64 0])∧∃F' ops' vz xA xc,(Uo w' F' gd zsl ops' reads left (zs.set i ⟨z.gz,vz,z.n+1,z.rows++[.slice xA 64 xc],z.good⟩)∧IsY w' xA 64 xc bs)∧Kf F w w'∧Sb w F F'∧In w' F':=by
 obtain⟨i0,hi,hz0,hz1,hz2⟩:=info_parts bDr;have ha:=aJu F gd zsl ops reads left zs i z w hx hz;have hg:=aFr F gd zsl ops reads left zs w hx;unfold zp at ha;go_enter func110,ntmps110
 go_wp2_with fail
 refine ha.mono ?_;rintro e w' ⟨rfl,rfl⟩;go_wp2_with fail
 refine hg.mono ?_;rintro e w1 ⟨rfl,⟨ops',hx1⟩,hk1⟩;have hzm:=tZ hz;have hb:=hx1.zb z hzm;obtain⟨c0,c1⟩:=hb.c2;have d1:=hx1.bx.cell (i:=1) (by simp);simp only[tI,tJ] at d1;have hzo:=hx1.zo z hzm;obtain⟨va,vc,hvs⟩:=Xs hzo;rw[hvs] at c0;have t0:decide (96≤(z.n:Int))=false:=rY (by omega);have HP:=hid (hp.ag (hk1.ag (F:=fun _=>False) (fun _ q=>q.elim)));have HX:=nK hx1 hk1 trivial hz trivial hI;have HV:=hid hvs;have HZ:=nF hb hzo;have HN:=hid (show z.n+1≤96 by omega);clear ha hg hp hI hk hx hk1;go_wp2_with fail
 refine wp_region_held_drew (S:=Ke w1) (by kernel_rfl) (by first|exact Ke.of _ _|exact Ke.one _) (fun nE=>?_);refine kD 0 ?_;refine kD 1 ?_;refine kD 2 ?_;refine kD 3 ?_;refine kD 4 ?_;refine kD 5 ?_;refine kD 6 ?_;refine kD 7 ?_;refine kD 8 ?_;refine kD 9 ?_;refine kD 10 ?_;refine kD 11 ?_;refine wpAnyH_done (by kernel_rfl) ?_ _;go_wp2_with fail
 obtain⟨w2,hw2⟩:=nC (w1.drew);have hb2:nD w1 w2:=by rw[←hw2];exact Xu nB
 have hsz:w2.heap.size=w1.heap.size:=by rw[←hw2];rfl
 rw[hw2];have hx2:Uo w2 F gd zsl ops' reads left zs:=hx1.ag (.of_below hb2);have hbz:=hx2.zb z hzm;have hoz:=hx2.zo z hzm;have HPY:Hid (IsY w2 A 64 c bs):=hid (HP.o.ag (F:=fun _=>False) (.of_below hb2))
 have HND:=hid (show ∀b ob,w2.heap[b]? =some ob→Dat ob→¬z.v.ownBlock=some b from fun b ob hb hd q=>by
  obtain⟨cs,fr,rfl⟩:=hd;obtain⟨_,_,hh⟩:=Vx hoz q;rw[hh] at hb;injection hb with hb;injection hb with _ hb _;exact absurd hb (by decide))
 have K1:=hid (fun w' (h:Kp2 (fun b=>z.v.ownBlock=some b) w2 w'∧w2.heap.size≤w'.heap.size)=>(show w'.cell? ⟨z.gz,0,none⟩=some (.slice va z.n vc) from by
  have:=(h.1.bk hbz (fun q=>Vc hoz hbz (by decide) q)).cell (i:=0) (by simp);simp only[tI,HV.o] at this;exact this))
 have KF:=hid (fun w' (h:Kp2 (fun b=>z.v.ownBlock=some b) w2 w'∧w2.heap.size≤w'.heap.size)=>(h.1.bk hbz (fun q=>Vc hoz hbz (by decide) q)).free 0);have HBZ:=hid (fun w' (h:Kp2 (fun b=>z.v.ownBlock=some b) w2 w'∧w2.heap.size≤w'.heap.size)=>h.1.bk hbz (fun q=>Vc hoz hbz (by decide) q));have H2:=nH hx2 hb2 hsz;rw[HV.o] at hoz;have HOZ:=hid hoz;clear hw2 hx1 hx2 hbz hoz hb hzo hvs hb2 hsz hzm c0 c1 d1 nE;have Kq:=K1;refine aAn (fun w'=>Kp2 (fun b=>z.v.ownBlock=some b) w2 w'∧w2.heap.size≤w'.heap.size) 11 (by kernel_rfl) (⟨fun _ _ h _=>h,lR⟩) (fun nE=>?_);refine kL 0 ?_;refine kL 1 ?_;refine kL 2 ?_;refine kL 3 ?_;refine kL 4 ?_;refine kL 5 ?_;refine rL 6 (fun K hK=>?_);go_simp;refine(aAh A 64 c 0 (bs.map (Value.int .u8)) _ (by rw[rU];exact HP.o.b.len) ((HPY.o.kp nE.1 nE.2 HND.o).b.rd) Ui (by omega) zL).mono ?_;rintro e w4 ⟨⟨vc,rfl,hvc⟩,hb4⟩;have hS4:=nS (nE.1.trans (Kp2.of_below hb4)) (tK nE.2 hb4.size);obtain⟨xA,xc,rfl⟩:=Xs hvc;have HVC:=hid hvc
 have HIY:=hid (show IsY w4 xA 64 xc bs from by
  have hl:=HP.o.b.len;obtain⟨A',c',e,hy⟩:=Byt.isY (w:=w4) (B:=0) (v:=.slice xA 64 xc) (bs:=bs) ⟨by rw[hl];exact hvc,HP.o.b.wf⟩;rw[hl] at e hy;injection e with e1 _ e2;subst e1 e2;exact hy)
 have HB4:=hid hb4;clear hvc hb4;go_simp;refine hK.out _ _ (fun _=>hS4) ?_;clear hK K nE;have nE:=hS4;try simp only[Act.put,tC,tD,tE]
 refine rL 7 (fun K hK=>?_);go_simp;obtain⟨g5,w5,hg5,hw5,hB5,hb5⟩:=Xy w4 41 [.slice xA 64 xc];rw[hw5];clear hw5;subst hg5;have hS5:=nS (nE.1.trans (Kp2.of_below hb5)) (tK nE.2 hb5.size);have HB5:=nF hB5 hb5;clear hB5 hb5;refine hK.out _ _ (fun _=>hS5) ?_;clear hK K nE;have nE:=hS5;try simp only[Act.put,tC,tD,tE]
 refine rL 8 (fun K hK=>?_);have HROW:=hid (Vg (Vg (w:=w2.drew) HOZ.o HB4.o) HB5.o.2);refine aAf rfl (aAw _ _ _ 133 rfl 0 41 i0 (.slice none 0 0) 1 24 underlying133 hi hz0 hz1 hz2 rfl (by omega) (.slice va z.n vc) z.n z.rows (by rfl) (by exact HROW.o) w5.heap.size (some ⟨w4.heap.size,0,none⟩) 1 1 [.slice xA 64 xc] (by rfl) rfl (by simpa using HB5.o.1.rd) (by intro u hu;simp at hu;subst hu;rfl) (by have:=HN.o;omega) (by have:=HN.o;omega) zL ?_);intro v9 w9 hO9 hG9 hn9;obtain⟨vA9,vc9,rfl⟩:=Xs hO9;have hsz5:=hid (show w2.heap.size≤w5.heap.size from nE.2);have ho5:=hid (show w9.os=w2.os∧w9.tape=w2.tape∧w9.output=w2.output from⟨hG9.os.trans (HB5.o.2.os.trans HB4.o.os),hG9.tape.trans (HB5.o.2.tape.trans HB4.o.tape),hG9.output.trans (HB5.o.2.output.trans HB4.o.output)⟩);have hG9':w5.grownBy w9 z.v.ownBlock:=by rw[HV.o];exact hG9
 have HIY9:=hid ((HIY.o.ag (F:=fun _=>False) (.of_below HB5.o.2)).kp (Kp2.grown hG9') hG9.size (fun b ob hb hd q=>by
  obtain⟨cs,fr,rfl⟩:=hd;rw[HV.o] at q;obtain⟨_,_,hh⟩:=Vx HROW.o q;rw[hh] at hb;injection hb with hb;injection hb with _ hb _;exact absurd hb (by decide)))
 have hS9:=nS (nE.1.trans (Kp2.grown hG9')) (tK nE.2 hG9.size);refine hK.out _ _ (fun _=>hS9) ?_;clear hK K nE;have nE:=hS9;try simp only[Act.put,tC,tD,tE]
 refine rL 9 (fun K hK=>?_);have hS9b:=nE;go_simp;refine hK.out _ _ (fun _=>hS9b) ?_;clear hK K nE;have nE:=hS9b;try simp only[Act.put,tC,tD,tE]
 refine kL 10 ?_;refine rL 11 (fun K hK=>?_);have kk:=K1.o _ nE;have kf:=KF.o _ nE;go_simp;refine hK.out _ _ (fun h=>absurd rfl h) ?_;clear hK K;try simp only[Act.put,tC,tD,tE]
 refine aAz (by kernel_rfl) ?_ _;clear Kq;obtain⟨w10,hw10⟩:=nC (w9.setCell ⟨z.gz,0,none⟩ (.slice vA9 (z.n+1) vc9));have hzm:=tZ HX.o.2.2.2.1;have hb9:=HBZ.o w9 nE;have hb10:Bk w10 z.gz 135 [.slice vA9 (z.n+1) vc9,.int .i64 z.good]:=by rw[←hw10];exact hb9.set 0 _
 have hq9:Kp2 (fun b=>b=z.gz) w9 w10:=by rw[←hw10];exact Kp2.set w9 z.gz 0 _
 have hs10:w10.heap.size=w9.heap.size:=by rw[←hw10,World.size_setCell]
 have ho10:w10.ownsRow 0 41 1 (.slice vA9 (z.n+1) vc9) (z.n+1) (z.rows++[.slice xA 64 xc]):=hq9.own hO9 (fun g hg e=>Vc hO9 hb9 (by decide) (by rw[hg,e]))
 have hiy:IsY w10 xA 64 xc bs:=HIY9.o.kp hq9 (tO hs10.symm) (fun b ob hb hd q=>by
  subst q;obtain⟨cs,fr,rfl⟩:=hd;have hb9':=hb9;unfold Bk at hb9';rw[hb9'] at hb;injection hb with hb;injection hb with _ hb _;exact absurd hb (by decide))
 have hkp:Kp2 (fun b=>b=z.gz∨z.v.ownBlock=some b) w2 w10:=(nE.1.mono (fun b q=>.inr q)).trans (hq9.mono (fun b q=>.inl q))
 have hnw:∀g,(Value.slice vA9 (z.n+1) vc9).ownBlock=some g→z.v.ownBlock=some g∨w2.heap.size≤g:=fun g hg=>by
  rcases hn9 with q|q
  · left;rw[HV.o,←q];exact hg
  · right
    rw[q] at hg;have:w5.heap.size=g:=rT hg;have:=tK hsz5.out (Nat.le_refl w5.heap.size);omega
 have hD:=H2.o.1.setZ (F':=fun b=>F b∨(w.heap.size≤b∧b<w10.heap.size)) HX.o.2.2.2.1 (.slice vA9 (z.n+1) vc9) (z.n+1) (z.rows++[.slice xA 64 xc]) z.good hkp hb10 ho10 (by have:=HN.o;omega) hnw (fun b q=>.inl q) (fun g hg=>by
  obtain⟨_,_,hh⟩:=Vx ho10 hg;rcases hnw g hg with q|q
  · exact .inl (H2.o.1.f3 z hzm g q)
  · exact .inr ⟨by have:=HX.o.2.1.size;have:=H2.o.2.2;omega,Vz hh⟩)
 have hkf:Kf F w w10:=by
  have h1:Kf F w w2:=HX.o.2.1.next H2.o.2.1;refine⟨by rw[←hw10];exact ho5.out.1.trans h1.os,by rw[←hw10];exact ho5.out.2.1.trans h1.tape,by rw[←hw10];exact ho5.out.2.2.trans h1.output,by have:=h1.size;have:=nE.2;omega,fun b ob hb hn=>?_⟩;have h2:=h1.keep b ob hb hn;refine hkp b ob h2 (fun q=>?_);have hFb:F b:=q.elim (fun e=>by rw[e];exact H2.o.1.f2 z hzm) (fun e=>H2.o.1.f3 z hzm b e);rcases hn with r|r
  · exact r hFb
  · rcases q with e|e
    · subst e;exact aVi (H2.o.1.zb z hzm) (by decide) (fun ob h1' h2'=>h1.keep _ ob h1' (.inr h2')) hb r
    · exact HND.o b ob h2 r e
 have d0:=hb10.cell (i:=0) (by simp);simp only[tI] at d0;have wk:wrap64 (z.n:Int)=(z.n:Int):=by have:=HN.o;unfold wrap64;omega
 have HE:=nI (nS hD hiy) hkf (show Sb w F (fun b=>F b∨(w.heap.size≤b∧b<w10.heap.size)) from fun b q=>q.imp id (fun r=>r.1)) (show In w10 (fun b=>F b∨(w.heap.size≤b∧b<w10.heap.size)) from fun b q=>q.elim (fun r=>tL (HX.o.2.2.2.2.2 b r) hkf.size) (fun r=>r.2));clear hD hiy hkf hnw hkp ho10 hq9 hb10 hb9 hzm hO9 hG9 hG9' hn9;go_wp2_with fail
 go_ret2
 exact⟨by first|rfl|exact congrArg (fun v=>Ending.returned (.tuple #[Value.int .i64 v,.int .i64 0])) wk,_,_,_,_,_,HE.o.1,HE.o.2⟩
end
structure aGm (w:World) (z:ZD) (c:List (List Int)):Prop where
 n:z.n=c.length
 y:∀(k:Nat) (b:List Int),c[k]? =some b→∃A cp,z.rows[k]? =some (Value.slice A 64 cp)∧IsY w A 64 cp b
theorem aGm.ag {w w':World} {F:Xt} {z:ZD} {c:List (List Int)} (h:aGm w z c) (k:Ag F w w'):aGm w' z c:=⟨h.n,fun j b hj=>by
 obtain⟨A,cp,h1,h2⟩:=h.y j b hj;exact⟨A,cp,h1,h2.ag k⟩⟩
def Ul (w:World) (F:Xt) (gd:Nat) (cs:List (List (List Int))) (gf:Bool):Prop:=∃zsl ops reads left zs,Uo w F gd zsl ops reads left zs∧zs.length=cs.length∧(∀(i:Nat) (z:ZD) (c:List (List Int)),zs[i]? =some z→cs[i]? =some c→aGm w z c)∧(gf=true→∀z∈zs,z.good=(z.n:Int))
section
variable {w w':World} {F:Xt} {gd:Nat} {cs:List (List (List Int))} {gf:Bool}
theorem Ul.ag (h:Ul w F gd cs gf) (k:Ag F w w'):Ul w' F gd cs gf:=by
 obtain⟨a,b,c,d,zs,h1,h2,h3,h4⟩:=h;exact⟨a,b,c,d,zs,h1.ag k,h2,fun i z c hi hc=>(h3 i z c hi hc).ag k,h4⟩
theorem Ul.eight (h:Ul w F gd cs gf):cs.length=8:=by
 obtain⟨a,b,c,d,zs,h1,h2,h3,h4⟩:=h;rw[←h2];exact h1.zl
theorem Ul.dev (h:Ul w F gd cs gf):Dev w F gd (cs.map List.length):=by
 obtain⟨a,b,c,d,zs,h1,h2,h3,h4⟩:=h;refine⟨a,b,c,d,zs,h1,List.ext_getElem? fun i=>?_⟩;rw[rW,rW]
 cases hz:zs[i]? with
 | none =>
   have:cs[i]? =none:=List.getElem?_eq_none (by rw[←h2];exact List.getElem?_eq_none_iff.1 hz);rw[this];rfl
 | some z =>
   obtain⟨x,hx⟩:∃x,cs[i]? =some x:=⟨_,tX (by rw[←h2];exact(rB.1 hz).1)⟩
   rw[hx];exact congrArg some (h3 i z x hz hx).n
theorem aEx (h:Ul w F gd cs gf) {i:Nat} {c:List (List Int)} (hi:cs[i]? =some c):∃zsl ops reads left zs z,Uo w F gd zsl ops reads left zs∧zs.length=cs.length∧(∀(i:Nat) (z:ZD) (c:List (List Int)),zs[i]? =some z→cs[i]? =some c→aGm w z c)∧(gf=true→∀z∈zs,z.good=(z.n:Int))∧zs[i]? =some z∧aGm w z c:=by
 obtain⟨a,b,d,e,zs,h1,h2,h3,h4⟩:=h;have hl:i<zs.length:=by rw[h2];exact(rB.1 hi).1
 exact⟨a,b,d,e,zs,zs[i],h1,h2,h3,h4,tX hl,h3 i _ c (tX hl) hi⟩
theorem aMn {zs:List ZD} {i:Nat} {z':ZD} {c':List (List Int)} (h:∀(i:Nat) (z:ZD) (c:List (List Int)),zs[i]? =some z→cs[i]? =some c→aGm w z c) (k:Ag F w w') (hz:aGm w' z' c'):∀(j:Nat) (z:ZD) (c:List (List Int)),(zs.set i z')[j]? =some z→(cs.set i c')[j]? =some c→aGm w' z c:=fun j z c h1 h2=>by
 by_cases e:i=j
 · subst e;have l1:=(rB.1 h1).1;have l2:=(rB.1 h2).1;rw[rK] at l1 l2;rw[List.getElem?_set_self l1] at h1;rw[List.getElem?_set_self l2] at h2;injection h1 with h1;injection h2 with h2;subst h1 h2;exact hz
 · rw[List.getElem?_set_ne e] at h1 h2;exact(h j z c h1 h2).ag k
theorem aLd (h:Ul w F gd cs gf) {i:Nat} {c:List (List Int)} (hi:cs[i]? =some c) (hk:c.length<96) {A:Option Addr} {cp:Nat} {b:List Int} (hp:IsY w A 64 cp b) (hI:In w F) :
  Calls prog 110 #[.pointer (some ⟨gd,0,none⟩),.int .i64 (i:Int),.slice A 64 cp] w fun e w'=>e=.returned (.tuple #[.int .i64 (c.length:Int),.int .i64 0])∧∃F',Ul w' F' gd (cs.set i (c++[b])) false∧Kf F w w'∧Sb w F F'∧In w' F':=by
 obtain⟨zsl,ops,reads,left,zs,z,hx,hl,hr,hg,hz,hc⟩:=aEx h hi;refine(aTl F gd zsl ops reads left zs i z A cp b w hx hz (by rw[hc.n];exact hk) hp hI).mono ?_;rintro e w' ⟨h1,F',ops',vz,xA,xc,⟨h2,h3⟩,h4,h5,h6⟩;have ka:Ag (fun _=>False) w w':=h4.ag fun _ q=>q.elim
 have hrl:z.rows.length=c.length:=by have:=(hx.zo z (tZ hz)).1;rw[Nat.mul_one] at this;rw[this,hc.n]
 refine⟨by rw[h1,hc.n],F',⟨zsl,ops',reads,left,_,h2,by rw[rK,rK,hl],aMn hr ka ⟨?_,fun k b' hb=>?_⟩,fun q=>by cases q⟩,h4,h5,h6⟩
 · show z.n+1=(c++[b]).length
   rw[rH,hc.n];rfl
 · show ∃A cp,(z.rows++[Value.slice xA 64 xc])[k]? =some (Value.slice A 64 cp)∧IsY w' A 64 cp b'
   rcases tN k c.length with q|q
   · rw[rO q] at hb;obtain⟨A',cp',e1,e2⟩:=hc.y k b' hb;exact⟨A',cp',by rw[rO (by rw[hrl];exact q)];exact e1,e2.ag ka⟩
   · rw[rP q] at hb
     have hk0:k - c.length=0:=by
      have:=(rB.1 hb).1;simp at this;omega
     rw[hk0] at hb;injection hb with hb;subst hb;exact⟨xA,xc,by rw[rP (by rw[hrl];exact q),hrl,hk0];rfl,h3⟩
theorem aQe (h:Ul w F gd cs gf) {i:Nat} {c:List (List Int)} (hi:cs[i]? =some c) :
  Calls prog 49 #[.pointer (some ⟨gd,0,none⟩),.int .i64 (i:Int)] w fun e w'=>e=.returned (.int .i64 0)∧Ul w' F gd (cs.set i []) gf∧Kf F w w':=by
 obtain⟨zsl,ops,reads,left,zs,z,hx,hl,hr,hg,hz,hc⟩:=aEx h hi;refine(bAg F gd zsl ops reads left zs i z w hx hz).mono ?_;rintro e w' ⟨h1,⟨ops',h2⟩,h4⟩;have ka:Ag (fun _=>False) w w':=h4.ag fun _ q=>q.elim
 refine⟨h1,⟨zsl,ops',reads,left,_,h2,by rw[rK,rK,hl],aMn hr ka ⟨rfl,fun k b' hb=>by simp at hb⟩,fun q y hy=>?_⟩,h4⟩;rcases List.mem_or_eq_of_mem_set hy with r|r
 · exact hg q y r
 · subst r;rfl
theorem aLl (h:Ul w F gd cs gf) :
  Calls prog 111 #[.pointer (some ⟨gd,0,none⟩)] w fun e w'=>e=.returned (.int .i64 0)∧Ul w' F gd cs true∧Kf F w w':=by
 obtain⟨zsl,ops,reads,left,zs,hx,hl,hr,hg⟩:=h;refine(aUe F gd zsl ops reads left zs w hx).mono ?_;rintro e w' ⟨h1,⟨ops',zs',h2,h3⟩,h4⟩;have ka:Ag (fun _=>False) w w':=h4.ag fun _ q=>q.elim
 refine⟨h1,⟨zsl,ops',reads,left,zs',h2,by rw[h2.zl,←hl,hx.zl],fun i z' c hz hc=>?_,fun _ z' hz=>?_⟩,h4⟩
 · obtain⟨z,e1,e2,e3,_⟩:=h3 i z' hz;have hrc:=(hr i z c e1 hc).ag ka;exact⟨e2.trans hrc.n,fun k b hb=>by rw[e3];exact hrc.y k b hb⟩
 · obtain⟨i,hi⟩:=List.getElem?_of_mem hz;obtain⟨z,e1,e2,e3,e4⟩:=h3 i z' hi;exact e4 (by have:=(rB.1 hi).1;rw[h2.zl] at this;exact this)
end
theorem aMo {w:World} {v:Value} {n:Nat} {rows:List Value} (h:w.ownsRow 0 41 1 v n rows) {k:Nat} {u:Value} (hk:rows[k]? =some u):∃A c,v=.slice (some A) n c∧w.cell? (A.add k)=some u∧k<n:=by
 have hl:=h.1;have hk2:=(rB.1 hk).1;obtain⟨g,c,hv,_,_⟩:=h.form (by omega);exact⟨_,c,hv,h.cells (g:=g) (by rw[hv];rfl) k u hk,by omega⟩
theorem aPk {w:World} {F:Xt} {gd:Nat} {cs:List (List (List Int))} {gf:Bool} (h:Ul w F gd cs gf) {i k:Nat} {c:List (List Int)} {b:List Int} (hi:cs[i]? =some c) (hk:c[k]? =some b) :
  Calls prog 141 #[.pointer (some ⟨gd,0,none⟩),.int .i64 (i:Int),.int .i64 (k:Int)] w fun e w'=>∃A cp,e=.returned (.tuple #[.slice A 64 cp,.int .i64 0])∧IsY w' A 64 cp b∧Ul w' F gd cs gf∧Kf F w w':=by
 obtain⟨zsl,ops,reads,left,zs,z,hx,hl,hr,hg,hz,hc⟩:=aEx h hi;have hzm:=tZ hz;obtain⟨A0,cp0,hrow,hy⟩:=hc.y k b hk;obtain⟨zA,zc,hzv,hcell,hkn⟩:=aMo (hx.zo z hzm) hrow;have ha:=aJu F gd zsl ops reads left zs i z w hx hz;unfold zp at ha;obtain⟨c0,c1⟩:=(hx.zb z hzm).c2;rw[hzv] at c0;obtain⟨d0,d1,d2,d3,d4,d5,d6,d7⟩:=hx.bx.c8;have f4:=hx.bx.free 4;obtain⟨r2,hr2⟩:=nC (wrap64 (reads+1));obtain⟨w1,hw1⟩:=nC (w.setCell ⟨gd,4,none⟩ (.int .i64 r2));have hx1:Uo w1 F gd zsl ops r2 left zs:=by rw[←hw1];exact hx.rds r2
 have k1:Kf F w w1:=by rw[←hw1];exact(Kf.refl F w).set hx.bx (by decide) (.inl hx.f0) _ _
 have ka:Ag (fun _=>False) w w1:=k1.ag fun _ q=>q.elim
 have hy1:IsY w1 A0 64 cp0 b:=hy.ag ka;obtain⟨e0,e1⟩:=(hx1.zb z hzm).c2;rw[hzv] at e0;obtain⟨zA',zc',hzv',hcell1,_⟩:=aMo (hx1.zo z hzm) hrow;rw[hzv] at hzv';injection hzv' with q1 _ q3;injection q1 with q1;subst q1 q3;have t0:¬((k:Int)<0):=by omega
 have t1:(k:Int)<(z.n:Int):=by omega
 have t2:(0:Int)≤(k:Int):=by omega
 have t3:decide ((z.n:Int)≤(k:Int))=false:=rY (by omega);have HE:=nK hx1 k1 hl hg (fun (i:Nat) (z:ZD) (c:List (List Int)) (a:zs[i]? =some z) (b:cs[i]? =some c)=>(hr i z c a b).ag ka) hy1;clear h hx hx1 hy hy1 hr hg hc k1 ka hz hzm hrow hk hi hzv;go_enter func141,ntmps141
 go_wp2_with fail
 refine ha.mono ?_;rintro e w' ⟨rfl,rfl⟩;clear ha;go_wp2_with fail
 refine(aAh A0 64 cp0 w1.heap.size (b.map (Value.int .u8)) w1 (by rw[rU];exact HE.o.2.2.2.2.2.b.len) HE.o.2.2.2.2.2.b.rd Ui (by omega) lR).mono ?_;rintro e w2 ⟨⟨v,rfl,hv⟩,hb2⟩;have hl64:=HE.o.2.2.2.2.2.b.len;obtain⟨A',cp',ev,hyv⟩:=Byt.isY (w:=w2) (B:=w1.heap.size) (v:=v) (bs:=b) ⟨by rw[hl64];exact hv,HE.o.2.2.2.2.2.b.wf⟩;rw[hl64] at ev hyv;subst ev;have HF:=nH hyv (show Ul w2 F gd cs gf from⟨zsl,ops,r2,left,zs,HE.o.1.ag (.of_below hb2),HE.o.2.2.1,fun i z c a b=>(HE.o.2.2.2.2.1 i z c a b).ag (F:=fun _=>False) (.of_below hb2),HE.o.2.2.2.1⟩) (HE.o.2.1.next hb2);clear hyv hb2 hv;go_wp2_with fail
 go_ret2
 exact⟨A',cp',rfl,HF.o⟩
section
open Go.RowKit
theorem bDs:(prog.info? 132).map (fun i=>(i.zero,i.size,i.bytes))=some (some (.pointer none),1,8):=by kernel_rfl
def gp (g:Nat):Value:=.pointer (some ⟨g,0,none⟩)
structure aXg (w0 w:World) (B gd k:Nat) (v:Value) (gs:List Nat):Prop where
 bel:nD w0 w
 bx:Bk w gd 131 [.int .i64 8,.int .i64 96,v,.int .i64 0,.int .i64 0,.bool false,.int .i64 0,.bool false]
 row:w.ownsRow B 132 1 v k (gs.map gp)
 gl:gs.length=k
 gb:∀g∈gs,Bk w g 135 [.slice none 0 0,.int .i64 0]
 nd:gs.Nodup
 ge:∀g∈gs,B≤g
theorem aXg.dev {w0 w:World} {B gd:Nat} {v:Value} {gs:List Nat} (h:aXg w0 w B gd 8 v gs) (hB:B≤gd):∃zs,Uo w (fun b=>B≤b∧b<w.heap.size) gd v 0 0 0 zs∧∀z∈zs,z.v=.slice none 0 0∧z.n=0∧z.rows=[]∧z.good=0:=by
 refine⟨gs.map (fun g=>⟨g,.slice none 0 0,0,[],0⟩),⟨h.bx,by rw[rU,h.gl],?_,fun z hz=>?_,fun z hz=>?_,fun i j hi hj hne=>?_,fun i j hi hj hne=>?_,fun z hz=>?_,⟨hB,h.bx.lt⟩,fun g hg=>⟨Xv h.row hg,?_⟩,fun z hz=>?_,fun z hz g hg=>?_⟩,?_⟩
 · have e:(gs.map (fun g=>(⟨g,.slice none 0 0,0,[],0⟩:ZD))).map zp=gs.map gp:=by rw[List.map_map];rfl
   rw[e];refine⟨h.row.1,?_⟩;rcases h.row.2 with h0|⟨g,cap,cur,hv,hb,r⟩
   · exact .inl h0
   · exact .inr ⟨g,cap,cur,hv,zL,r⟩
 · obtain⟨g,hg,rfl⟩:=List.mem_map.1 hz;exact h.gb g hg
 · obtain⟨g,hg,rfl⟩:=List.mem_map.1 hz;exact⟨rfl,.inl ⟨rfl,rfl⟩⟩
 · rw[rV,rV];rw[rU] at hi hj;intro e;exact hne ((List.getElem_inj h.nd).1 e)
 · left
   rw[rV];rfl
 · obtain⟨g,hg,rfl⟩:=List.mem_map.1 hz;show 0≤96;omega
 · obtain⟨_,_,hh⟩:=Vx h.row hg;exact Vz hh
 · obtain⟨g,hg,rfl⟩:=List.mem_map.1 hz;exact⟨h.ge g hg,(h.gb g hg).lt⟩
 · obtain⟨g',hg',rfl⟩:=List.mem_map.1 hz;cases hg
 · intro z hz;obtain⟨g,_,rfl⟩:=List.mem_map.1 hz;exact⟨rfl,rfl,rfl,rfl⟩
theorem aUf (w:World) :
  Calls prog 64 #[.agg #[.int .i64 8,.int .i64 96]] w fun e w'=>∃gd F v zs,e=.returned (.tuple #[.pointer (some ⟨gd,0,none⟩),.int .i64 0])∧(Uo w' F gd v 0 0 0 zs∧∀z∈zs,z.v=.slice none 0 0∧z.n=0∧z.rows=[]∧z.good=0)∧nD w w'∧(∀b,F b→w.heap.size≤b∧b<w'.heap.size):=by
 obtain⟨i0,hi,hz0,hz1,hz2⟩:=info_parts bDs;obtain⟨g1,w1,hg1,hw1,hB1,hb1⟩:=Xy w 75 [.int .i64 8,.int .i64 96];obtain⟨c0,c1⟩:=hB1.c2;obtain⟨gd,w2,hg2,hw2,hB2,hb2⟩:=Xy w1 131 [.int .i64 8,.int .i64 96,.slice none 0 0,.int .i64 0,.int .i64 0,.bool false,.int .i64 0,.bool false];have hb12:=hb1.trans (hb2.mono hb1.size);obtain⟨d0,d1⟩:=(hB1.next hb2 hB1.lt).c2;have HS:=nF hb12 hB2;have HG:=hid (show w.heap.size≤gd by have:=hb1.size;omega);subst hg1;clear hb12 hB2 hb1 hb2 hB1;go_enter func64,ntmps64
 go_wp2_with fail
 go_loopw [28] (fun i wr=>∃(k:Nat) (v:Value) (gs:List Nat),k≤8∧i=.int .i64 (k:Int)∧aXg w wr w.heap.size gd k v gs) (fun i _=>8 - (intOf i).toNat)
 case atStart=>exact⟨0,.slice none 0 0,[],by omega,rfl,HS.o.1,HS.o.2,⟨rfl,.inl ⟨rfl,rfl⟩⟩,rfl,by simp,by simp,by simp⟩
 case round =>
  obtain⟨k,v,gs,hk,rfl,hI⟩:=hrel;by_cases hlt:k<8
  · have n0:(k:Int)<8:=by omega
    have c2:=hI.bx.cell (i:=2) (by simp);simp only[tI,tJ] at c2;obtain⟨g3,w3,hg3,hw3,hB3,hb3⟩:=Xy wr 135 [.slice none 0 0,.int .i64 0];subst hg3;obtain⟨g4,w4,hg4,hw4,hB4,hb4⟩:=Xy w3 132 [.pointer (some ⟨wr.heap.size,0,none⟩)];subst hg4;have hb34:=hb3.trans (hb4.mono hb3.size);have HL:=nH hB4 (hB3.next hb4 hB3.lt) hb34;have HI:=nF (tK hI.bel.size hb34.size) (Vg hI.row hb34);have HJ:=nF hI (hI.bx.next hb34 hI.bx.lt);clear hI hB3 hB4 hb3 hb4 hb34;go_wp2_with (at_builtin;go_must (refine aAa _ rfl _ _ 129 rfl w.heap.size 132 i0 (.pointer none) 1 8 underlying129 hi hz0 hz1 hz2 rfl (by omega) v k (gs.map gp) (by rfl) (by exact HI.o.2) w4.heap.size (some ⟨w3.heap.size,0,none⟩) 1 1 [.pointer (some ⟨wr.heap.size,0,none⟩)] (by rfl) rfl (by exact HL.o.1.rd.more lR) (by intro u hu;simp at hu;subst hu;rfl) (by omega) (by omega) (by exact HI.o.1) ?_);intro v9 w9 hO9 hG9 hn9;obtain⟨v9A,v9c,rfl⟩:=Xs hO9;have hb9:Bk w9 gd 131 [.int .i64 8,.int .i64 96,v,.int .i64 0,.int .i64 0,.bool false,.int .i64 0,.bool false]:=(Kp2.grown hG9).bk HJ.o.2 (fun q=>Vc HI.o.2 HJ.o.2 (by decide) q);have f2:=hb9.free 2;have e2:=hb9.cell (i:=2) (by simp);simp only[tI,tJ] at e2;obtain⟨w10,hw10⟩:∃w10,w9.setCell ⟨gd,2,none⟩ (.slice v9A (k+1) v9c)=w10:=⟨_,rfl⟩)
    have hN:aXg w w10 w.heap.size gd (k+1) (.slice v9A (k+1) v9c) (gs++[wr.heap.size]):=by
     have hq:Kp2 (fun b=>b=gd) w9 w10:=by rw[←hw10];exact Kp2.set w9 gd 2 _
     have hz:∀g,Bk w4 g 135 [.slice none 0 0,.int .i64 0]→Bk w10 g 135 [.slice none 0 0,.int .i64 0]:=fun g hg =>
      hq.bk ((Kp2.grown hG9).bk hg (fun q=>Vc HI.o.2 hg (by decide) q)) (fun e=>by
       subst e;exact aIs hb9 ((Kp2.grown hG9).bk hg (fun q=>Vc HI.o.2 hg (by decide) q)) (by decide) rfl)
     have hbw:nD w w10:=by
      rw[←hw10];exact((HJ.o.1.bel.trans (HL.o.2.2.mono HJ.o.1.bel.size)).grown hG9 HI.o.1 (fun g hg=>Xv HI.o.2 hg)).setCell (p:=⟨gd,2,none⟩) HG.o _
     refine⟨hbw,by rw[←hw10];exact hb9.set 2 _,?_,by rw[rH,HJ.o.1.gl];rfl,fun g hg=>?_,?_,fun g hg=>?_⟩
     · rw[rI];exact hq.own hO9 (fun g hg e=>Vc hO9 hb9 (by decide) (by rw[hg,e]))
     · rcases rE.1 hg with q|q
       · exact hz g ((HJ.o.1.gb g q).next HL.o.2.2 (HJ.o.1.gb g q).lt)
       · obtain rfl:g=wr.heap.size:=by simpa using q
         exact hz _ HL.o.2.1
     · refine List.nodup_append.2 ⟨HJ.o.1.nd,by simp,fun a ha c hc e=>?_⟩;have:=(HJ.o.1.gb a ha).lt;have:c=wr.heap.size:=by simpa using hc
       omega
     · rcases rE.1 hg with q|q
       · exact HJ.o.1.ge g q
       · obtain rfl:g=wr.heap.size:=by simpa using q
         exact HJ.o.1.bel.size
    have HN:=hid hN;clear hN hb9 hO9 hG9 hn9;go_wp2_with fail
    go_roundw
    case rel=>exact⟨k+1,_,_,hlt,by go_num,HN.o⟩
    case measure=>exact aGn hlt
  · obtain rfl:k=8:=by omega
    have n0:¬(((8:Nat):Int)<8):=by omega
    have HN:=hid hI;clear hI;go_wp2_with fail
    go_ret2
    obtain⟨zs,hz⟩:=HN.o.dev HG.o;exact⟨gd,rfl,_,⟨v,zs,hz⟩,HN.o.bel,fun b q=>q⟩
end
section
open Go.RowKit
structure Uz (w:World) (gd gs:Nat) (inn:Int) (v:Value) (bs:List Int) (count:Nat):Prop where
 bx:Bk w gs 182 [.pointer (some ⟨gd,0,none⟩),.int .i64 0,.int .i64 3,.int .i64 6,.int .i64 96,.int .i64 inn,v,.int .i64 (count:Int),.bool false]
 txt:Byt w 0 v bs
 two:inn=0∨inn=1
 big:bs.length≤20000
theorem Uz.ag {w w':World} {F:Xt} {gd gs count:Nat} {inn:Int} {v:Value} {bs:List Int} (h:Uz w gd gs inn v bs count) (k:Ag F w w') (hF:F gs):Uz w' gd gs inn v bs count:=⟨Bk.ag h.bx k hF,h.txt.ag k,h.two,h.big⟩
theorem aMk {w:World} {F:Xt} {gd:Nat} {ns:List Nat} (h:Dev w F gd ns) {i k:Nat} (hi:ns[i]? =some k):Calls prog 48 #[.pointer (some ⟨gd,0,none⟩),.int .i64 (i:Int)] w fun e w'=>e=.returned (.tuple #[.int .i64 (k:Int),.int .i64 0])∧w=w':=by
 obtain⟨zsl,ops,reads,left,zs,z,hx,hn,hz,hzn⟩:=aYd h hi;subst hzn;exact aMl F gd zsl ops reads left zs i z w hx hz
theorem aOc {w:World} {F:Xt} {gd:Nat} {ns:List Nat} (h:Dev w F gd ns):Calls prog 72 #[.pointer (some ⟨gd,0,none⟩)] w fun e w'=>e=.returned (.agg #[.int .i64 8,.int .i64 96])∧nD w w':=by
 obtain⟨zsl,ops,reads,left,zs,hx,hn⟩:=h;exact aYt F gd zsl ops reads left zs w hx
theorem aJo (gd gs count:Nat) (inn:Int) (v:Value) (bs:List Int) (w:World) (h:Uz w gd gs inn v bs count) :
  Calls prog 98 #[.pointer (some ⟨gs,0,none⟩)] w fun e w'=>e=.returned (.bool false)∧w=w':=by
 obtain⟨c0,c1,c2,c3,c4,c5,c6,c7,c8⟩:=h.bx.c9;go_enter func98,ntmps98
 go_wp2_with fail
 go_ret;exact⟨rfl,rfl⟩
theorem aWa (gd gs count:Nat) (inn:Int) (v:Value) (bs:List Int) (w:World) (h:Uz w gd gs inn v bs count) :
  Calls prog 97 #[.pointer (some ⟨gs,0,none⟩)] w fun e w'=>e=.returned (.int .i64 11440)∧∃q,w'=w.drewN q:=by
 obtain⟨c0,c1,c2,c3,c4,c5,c6,c7,c8⟩:=h.bx.c9;clear h;go_enter func97,ntmps97
 go_wp2_with fail
 refine wp_region_held_drew (S:=Ke w) (by kernel_rfl) (by first|exact Ke.of _ _|exact Ke.one _) (fun nE=>?_);refine kD 0 ?_;refine kD 1 ?_;refine kD 2 ?_;refine kD 3 ?_;refine kD 4 ?_;refine kD 5 ?_;refine kD 6 ?_;refine kD 7 ?_;refine kD 8 ?_;refine kD 9 ?_;refine kD 10 ?_;refine kD 11 ?_;refine kD 12 ?_;refine kD 13 ?_;refine kD 14 ?_;refine kD 15 ?_;refine kD 16 ?_;refine kD 17 ?_;refine kD 18 ?_;refine kD 19 ?_;refine kD 20 ?_;refine kD 21 ?_;refine kD 22 ?_;refine kD 23 ?_;refine wpAnyH_done (by kernel_rfl) ?_ _;go_wp2_with fail
 go_ret;exact⟨rfl,1,rfl⟩
theorem aHq (gd gs count:Nat) (inn:Int) (v:Value) (bs:List Int) (w:World) (h:Uz w gd gs inn v bs count) :
  Calls prog 74 #[.pointer (some ⟨gs,0,none⟩)] w fun e w'=>(∃u,e=.returned (.tuple #[u,.int .i64 (count:Int)])∧Byt w' 0 u bs)∧nD w w':=by
 obtain⟨c0,c1,c2,c3,c4,c5,c6,c7,c8⟩:=h.bx.c9;obtain⟨A,c,rfl,hi⟩:=h.txt.isB;have HT:=hid (fun w' (k:nD w w')=>hi.next k);have HBIG:=hid h.big;have HWF:=hid h.txt.2;have K1:=hid (fun w' (k:nD w w')=>(show w'.cell? ⟨gs,6,none⟩=some (.slice A bs.length c)∧w'.cell? ⟨gs,7,none⟩=some (.int .i64 (count:Int)) from⟨(h.bx.next k h.bx.lt).cell (i:=6) (by simp),(h.bx.next k h.bx.lt).cell (i:=7) (by simp)⟩));clear h hi;go_enter func74,ntmps74
 go_wp2_with fail
 have Kq:=K1;refine wp_region_held_drew (S:=fun w'=>nD w w') (by kernel_rfl) (Xu nB) (fun nE=>?_);refine kF 0 ?_;refine kF 1 ?_;refine kF 2 ?_;refine kF 3 ?_;refine kF 5 ?_;refine kF 6 ?_;refine kF 7 ?_;refine kF 8 ?_;refine rF 4 (fun K hK=>?_);go_simp;refine(aAh A bs.length c 0 (bs.map (Value.int .u8)) _ (by rw[rU]) (HT.o _ nE).rd Ui (by have:=HBIG.o;omega) zL).mono ?_;rintro e w4 ⟨⟨vc,rfl,hvc⟩,hb4⟩;have hS4:=nE.trans (hb4.mono nE.size);have HVC:=hid hvc;have h1c:=aZw hvc;clear hvc hb4;go_simp;clear nE;refine hK.out _ _ hS4 (fun nE=>?_);clear hK K;try simp only[Act.put,tC,tD,tE]
 refine kF 9 ?_;refine kF 10 ?_;refine wpAnyH_done (by kernel_rfl) ?_ _;clear Kq;go_wp2_with fail
 go_ret2
 exact⟨⟨_,rfl,by have:=HVC.o;rw[←rU (f:=Value.int .u8)] at this;simpa [Byt] using ⟨by simpa using HVC.o,HWF.o⟩⟩,nE⟩
theorem aYw (f:Value) (w:World) :
  Calls prog 77 #[.slice none 0 0,f] w fun e w'=>e=.returned (.bool false)∧w=w':=by
 have hI:Calls prog 142 #[.slice none 0 0,f] w fun e w'=>e=.returned (.int .i64 (-1))∧w=w':=by
  go_enter func142,ntmps142
  go_wp2_with fail
  go_loop [8] (fun i=>i=.int .i64 0) (fun _=>0)
  case atStart=>rfl
  case round =>
   obtain rfl:=hrel;go_wp2_with fail
   go_ret;exact⟨rfl,rfl⟩
 go_enter func77,ntmps77
 go_wp2_with fail
 refine hI.mono ?_;rintro e w' ⟨rfl,rfl⟩;go_wp2_with fail
 go_ret;exact⟨rfl,rfl⟩
end
section
open Go.RowKit
theorem aMz (A:Option Addr) (n c:Nat) (bs:List Int) (w:World) (h:IsY w A n c bs) (hn:n≤20000) :
  Calls prog 163 #[.slice A n c] w fun e w'=>(∃v bs',e=.returned v∧Byt w' w.heap.size v bs'∧bs'.length=8)∧nD w w':=by
 go_enter func163,ntmps163
 go_wp2_with fail
 refine(aGa _ w).mono ?_;rintro e w1 ⟨⟨u1,b1,rfl,hY1,l1⟩,hb1⟩;obtain⟨A1,c1,rfl,hY1'⟩:=hY1.isY;have L1:=hid l1;clear l1;have h1:IsY w1 A n c bs:=h.ag (F:=fun _=>False) (.of_below hb1);go_wp2_with fail
 refine(aIw A n c bs w1 h1.b (by omega)).mono ?_;rintro e w2 ⟨⟨x,rfl⟩,hb2⟩;go_wp2_with fail
 refine(aGa x w2).mono ?_;rintro e w3 ⟨⟨u3,b3,rfl,hY3,l3⟩,hb3⟩;obtain⟨A3,c3,rfl,hY3'⟩:=hY3.isY;have L3:=hid l3;clear l3;have hb13:=hb2.trans (hb3.mono hb2.size);have h13:IsY w3 A1 b1.length c1 b1:=hY1'.ag (F:=fun _=>False) (.of_below hb13);obtain⟨g4,w4,hg4,hw4,hB4,hb4⟩:=Xy w3 41 [.slice A1 b1.length c1,.slice A3 b3.length c3];subst hg4;have hbT:=hb1.trans ((hb13.trans (hb4.mono hb13.size)).mono hb1.size)
 have hc:Calls prog 217 #[.slice (some ⟨w3.heap.size,0,none⟩) 2 2] w4 _:=aBy (some ⟨w3.heap.size,0,none⟩) 2 2 [⟨A1,b1.length,c1,b1⟩,⟨A3,b3.length,c3,b3⟩] w4 rfl hB4.rd (by
  intro x hx;simp at hx
  rcases hx with rfl|rfl
  · exact(h13.b.next hb4)
  · exact(hY3'.b.next hb4)) (by omega) (by simp;have:=L1.o;have:=L3.o;omega)
 have HB:=hid hbT;clear hbT h13 hY1' hY3' hY1 hY3 hb13 hb1 hb2 hb3 hb4 hB4 h1;go_wp2_with fail
 refine hc.mono ?_;rintro e w5 ⟨⟨v,rfl,hv⟩,hb5⟩;have hbF:=HB.o.trans (hb5.mono HB.o.size);have HF:=nH (hv.base HB.o.size) (show ([(⟨A1,b1.length,c1,b1⟩:RB),⟨A3,b3.length,c3,b3⟩].flatMap (·.bs)).length=8 by simp;have:=L1.o;have:=L3.o;omega) hbF;clear hv hb5 hbF hc;go_wp2_with fail
 go_ret;exact⟨⟨_,_,rfl,HF.o.1,HF.o.2.1⟩,HF.o.2.2⟩
theorem bDo:(prog.info? 258).map (fun i=>(i.size,i.bytes,i.zero.map (·.cells.size)))=some (5,56,some 5):=by kernel_rfl
theorem aYy:∃i z,prog.info? 258=some i∧i.zero=some z∧i.size=5∧i.bytes=56∧z.cells.size=5:=by
 have h:=bDo
 cases hi:prog.info? 258 with
 | none=>rw[hi] at h;cases h
 | some i =>
   rw[hi] at h;simp at h
   obtain⟨h1,h2,z,hz,h3⟩:=h;exact⟨i,z,rfl,hz,h1,h2,h3⟩
structure BD where
 kind:Int
 seq:Int
 lba:Int
 A:Option Addr
 n:Nat
 c:Nat
 bs:List Int
def BD.cells (x:BD):List Value:=[.int .i64 x.kind,.int .i64 0,.int .i64 x.seq,.int .i64 x.lba,.slice x.A x.n x.c]
structure BD.ok (x:BD) (w:World):Prop where
 k:1≤x.kind∧x.kind≤4
 s:0≤x.seq∧x.seq≤1099511627776
 l:0≤x.lba∧x.lba≤1048576
 y:IsY w x.A x.n x.c x.bs
 n:x.n≤40
theorem BD.ok.ag {x:BD} {w w':World} {F:Xt} (h:x.ok w) (k:Ag F w w'):x.ok w':=⟨h.k,h.s,h.l,h.y.ag k,h.n⟩
theorem aPg (p:BD):p.cells.length=5:=rfl
theorem IsY.sub {w:World} {ad:Addr} {n c:Nat} {bs:List Int} (h:IsY w (some ad) n c bs) {i j:Nat} (hij:i≤j) (hj:j≤n) (hic:i<c):IsY w (some (ad.add i)) (j - i) (c - i) ((bs.drop i).take (j - i)):=by
 have hl:=h.b.len;refine⟨⟨by rw[rJ,rN];omega,?_,fun x hx=>h.b.wf x (rS (rR hx)),by have:=h.b.cap;omega,by have:=h.b.big;omega⟩,fun ad' e hn=>?_⟩
 · have hd:=(h.b.rd).drop (k:=i) (c:=c) (n:=n) (by rw[rU];omega) (by omega) h.b.cap;rw[if_neg (by omega)] at hd;have ht:=hd.take (j - i);rw[List.map_take,List.map_drop];exact ht
 · injection e with e;subst e;obtain⟨ob,ho,hd⟩:=h.y ad rfl (by omega);exact⟨ob,by rw[aAk];exact ho,hd⟩
theorem IsY.nil (w:World) (c:Nat) (hc:c≤maxLen):IsY w none 0 c []:=⟨⟨rfl,Rd.nil _ _ _,by simp,zL,hc⟩,fun ad e _=>by cases e⟩
end
section
open Go.RowKit
theorem Ag.grown {F:Xt} {w w':World} {B e size n:Nat} {v:Value} {xs:List Value} (ho:w.ownsRow B e size v n xs) (he:e≠5) (hg:w.grownBy w' v.ownBlock) (hF:∀g,v.ownBlock=some g→¬F g):Ag F w w' :=
 ⟨hg.size,fun b ob hb hn=>by
  rw[hg.block b (Vz hb) (fun q=>by
   rcases hn with r|⟨cs,fr,rfl⟩
   · exact hF b q.symm r
   · obtain⟨_,_,hh⟩:=Vx ho q.symm;rw[hb] at hh;injection hh with hh;injection hh with _ hh _;exact he hh.symm)]
  exact hb⟩
theorem aUo {w:World} {B:Nat} {A:Option Addr} {l:List BD} (h:Rd w B A (l.flatMap BD.cells)) {k:Nat} (hk:k<l.length) {x:BD} (hx:l[k]=x) :
  ∃ad,A=some ad∧ad.block<B∧w.cell? (ad.add (k*5))=some (.int .i64 x.kind)∧w.cell? ⟨(ad.add (k*5)).block,(ad.add (k*5)).off+1,none⟩=some (.int .i64 0)∧w.cell? ⟨(ad.add (k*5)).block,(ad.add (k*5)).off+2,none⟩=some (.int .i64 x.seq)∧w.cell? ⟨(ad.add (k*5)).block,(ad.add (k*5)).off+3,none⟩=some (.int .i64 x.lba)∧w.cell? ⟨(ad.add (k*5)).block,(ad.add (k*5)).off+4,none⟩=some (.slice x.A x.n x.c):=by
 obtain⟨ad,e,hb,hc⟩:=h (by rw[Vt aPg];omega);have key:∀j,j<5→∀u,x.cells[j]? =some u→w.cell? (ad.add (k*5+j))=some u:=fun j hj u hu=>hc _ _ (by rw[aAs aPg hk hj,hx];exact hu)
 have h0:=key 0 (by omega) _ rfl;have h1:=key 1 (by omega) _ rfl;have h2:=key 2 (by omega) _ rfl;have h3:=key 3 (by omega) _ rfl;have h4:=key 4 (by omega) _ rfl;rw[Nat.add_zero] at h0;rw[←aBi] at h1 h2 h3 h4;exact⟨ad,e,hb,h0,h1,h2,h3,h4⟩
def zc (k j:Nat):Nat:=min 96 (k - 96*j)
theorem bHn (k:Nat):zc k (k / 96)<96:=by unfold zc;omega
theorem aQp (k:Nat):zc (k+1) (k / 96)=zc k (k / 96)+1:=by unfold zc;omega
theorem aNf {k j:Nat} (h:j≠k / 96):zc (k+1) j=zc k j:=by
 unfold zc
 rcases tN j (k / 96) with q|q
 · omega
 · have:k / 96+1≤j:=by omega
   omega
theorem aYe {k:Nat} (h:k<288):k / 96<3:=by omega
theorem bFx {q:Nat} (h:q<3):wrap64 (q:Int)=(q:Int)∧wrap64 (3+(q:Int))=3+(q:Int)∧((0+q:Nat):Int)=(q:Int)∧((3+q:Nat):Int)=3+(q:Int):=by unfold wrap64;omega
theorem bBg {q:Nat} (h:q<3):IntKind.i64.wrap (q:Int)=(q:Int)∧IntKind.i64.wrap (3+(q:Int))=3+(q:Int):=⟨IntWalk.i64_in _ (by omega),IntWalk.i64_in _ (by omega)⟩
theorem bBz (k:Nat):((k:Int).tdiv 96)=((k / 96:Nat):Int):=by rw[Int.tdiv_eq_ediv_of_nonneg (by omega)];rfl
structure ZS (fr k:Nat) (ns0 ns:List Nat):Prop where
 len:ns.length=8
 at':∀j,j<3→ns[fr+j]? =some (zc k j)
 hi:∀j,6≤j→ns[j]? =ns0[j]?
structure ZE (fr k:Nat) (ns0 ns:List Nat):Prop where
 len:ns.length=8
 at':∀j,j<k→ns[fr+j]? =some 0
 hi:∀j,6≤j→ns[j]? =ns0[j]?
end
end Go.Proofs.YtdhlicgaalnmoaaGreatDoor.Tp
