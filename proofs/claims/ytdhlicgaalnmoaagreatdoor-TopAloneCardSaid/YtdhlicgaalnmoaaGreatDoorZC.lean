/- Contracts of the program's functions, and laws on memory: a part of the proof of TopAlone. -/
import Derived.Test.YtdhlicgaalnmoaaGreatDoorZB
import Derived.Laws.BitsLemmas
set_option linter.unusedSimpArgs false
set_option linter.unusedVariables false
namespace Go.Proofs.YtdhlicgaalnmoaaGreatDoor.Tp
open Lib (hid)
open Tryz
open Go.RowKit Go.Maps
set_option maxHeartbeats 8000000
set_option maxRecDepth 100000
section
open Go.RowKit
structure Vd where
 lba:Int
 A:Option Addr
 n:Nat
 c:Nat
 bs:List Int
def Vd.cells (x:Vd):List Value:=[.int .i64 x.lba,.slice x.A x.n x.c]
theorem Vy (p:Vd):p.cells.length=2:=rfl
theorem Rd.agn {w w':World} {G:Xt} {A:Option Addr} {xs:List Value} (h:Rd w w.heap.size A xs) (k:Ag G w w') (hG:∀ad,A=some ad→0<xs.length→G ad.block):Rd w' w'.heap.size A xs:=fun hn=>by
 obtain⟨ad,e,hb,hc⟩:=h hn;refine⟨ad,e,tL hb k.size,fun j u hu=>?_⟩;have h1:=hc j u hu;have ho:w.heap[ad.block]? =some w.heap[ad.block]:=Array.getElem?_eq_getElem hb;rw[World.cell?_of_block (w:=w) (w':=w') (by rw[aAk,ho,k.keep _ _ ho (.inl (hG ad e hn))])];exact h1
theorem Rd.ag {w w':World} {G:Xt} {A:Option Addr} {xs:List Value} (h:Rd w w.heap.size A xs) (k:Ag G w w') (hG:∀ad,A=some ad→G ad.block):Rd w' w'.heap.size A xs:=Rd.agn h k fun a e _=>hG a e
structure Uh (w:World) (A:Option Addr) (n c:Nat) (ps:List Vd):Prop where
 len:ps.length=n
 rd:Rd w w.heap.size A (ps.flatMap Vd.cells)
 y:∀p∈ps,IsY w p.A p.n p.c p.bs
 cap:n≤c
 big:c≤maxLen
theorem Uh.agn {w w':World} {G:Xt} {A:Option Addr} {n c:Nat} {ps:List Vd} (h:Uh w A n c ps) (k:Ag G w w') (hG:∀ad,A=some ad→0<n→G ad.block):Uh w' A n c ps :=
 ⟨h.len,Rd.agn h.rd k (fun ad e q=>hG ad e (by rw[Vt Vy,h.len] at q;omega)),fun p hp=>(h.y p hp).ag k,h.cap,h.big⟩
theorem Uh.ag {w w':World} {G:Xt} {A:Option Addr} {n c:Nat} {ps:List Vd} (h:Uh w A n c ps) (k:Ag G w w') (hG:∀ad,A=some ad→G ad.block):Uh w' A n c ps:=h.agn k fun a e _=>hG a e
theorem Uh.next {w w':World} {A:Option Addr} {n c:Nat} {ps:List Vd} (h:Uh w A n c ps) (hb:nD w w'):Uh w' A n c ps:=h.ag (.of_below (F:=fun _=>True) hb) (fun _ _=>trivial)
theorem Uh.nil (w:World):Uh w none 0 0 []:=⟨rfl,Rd.nil _ _ _,by simp,lR,by simp[maxLen]⟩
structure TxD where
 time:Int
 A:Option Addr
 n:Nat
 c:Nat
 ps:List Vd
def TxD.cells (x:TxD):List Value:=[.int .i64 x.time,.slice x.A x.n x.c]
theorem aAu (p:TxD):p.cells.length=2:=rfl
structure Ki (w:World) (A:Option Addr) (n c:Nat) (ts:List TxD):Prop where
 len:ts.length=n
 rd:Rd w w.heap.size A (ts.flatMap TxD.cells)
 y:∀t∈ts,Uh w t.A t.n t.c t.ps
 cap:n≤c
 big:c≤maxLen
theorem Ki.next {w w':World} {A:Option Addr} {n c:Nat} {ts:List TxD} (h:Ki w A n c ts) (hb:nD w w'):Ki w' A n c ts :=
 ⟨h.len,Rd.ag h.rd (.of_below (F:=fun _=>True) hb) (fun _ _=>trivial),fun t ht=>(h.y t ht).next hb,h.cap,h.big⟩
def bBj (w:World) (g:Nat) (lb:Array Value) (b:Vd→Bool) (ps:List Vd):Prop:=∀p∈ps,∀w',nD w w'→Calls prog g (#[.agg #[.int .i64 p.lba,.slice p.A p.n p.c]]++lb) w' fun e w''=>e=.returned (.bool (b p))∧nD w' w''
theorem aRk (A:Option Addr) (n c:Nat) (ps:List Vd) (g:Nat) (lb:Array Value) (b:Vd→Bool) (w:World) (h:Uh w A n c ps) (eg:∀args w,(callFunc g args).run prog w=.ok (.enter g args) w) (hp:bBj w g lb b ps) :
  Calls prog 211 #[.slice A n c,.func (.func g) #[] lb] w fun e w'=>(∃r:Int,e=.returned (.int .i64 r)∧-1≤r∧(0≤r↔∃p∈ps,b p=true))∧nD w w':=by
 have hl:=h.len;have hnn:=tK h.cap h.big;have hbig:maxLen≤9223372036854775807:=by decide
 go_enter func211,ntmps211
 go_wp2_with fail
 go_loopw [5,8] (fun s5 i wr=>∃k:Nat,k≤n∧i=.int .i64 k∧nD w wr∧Hid (∀j,(hj:j<ps.length)→j<k→b ps[j]=false)) (fun _ i _=>n - (intOf i).toNat)
 case atStart=>exact⟨0,zL,rfl,nB,fun j hj h=>absurd h (by omega)⟩
 case round =>
  obtain⟨k,hk,rfl,hW,HU⟩:=hrel;by_cases hlt:k<n
  · obtain⟨p,hpk⟩:∃p,ps[k]'(by omega)=p:=⟨_,rfl⟩
    have hpm:p∈ps:=by rw[←hpk];exact rC _
    obtain⟨ad,rfl,had,c0,c1⟩:=Vk Vy (h.rd.next lR hW) (k:=k) (by omega) (u:=.int .i64 p.lba) (v:=.slice p.A p.n p.c) (by rw[hpk];rfl);have n0:(k:Int)<(n:Int):=by omega
    have n1:(0:Int)≤(k:Int):=by omega
    have hcall:=hp p hpm wr hW;have HP:=hid hpk;clear hpk
    cases hq:b p with
    | false =>
      rw[hq] at hcall
      have HN:=hid (show ∀j,(hj:j<ps.length)→j<k+1→b ps[j]=false from fun j hj hjk=>by
       rcases tN j k with g|g
       · exact HU.o j hj g
       · obtain rfl:j=k:=by omega
         rw[HP.o];exact hq)
      clear HU hq;go_wp2_with (go_at_fn g;refine hcall.mono ?_;rintro e w' ⟨rfl,hb⟩)
      have hW2:=hW.trans (hb.mono hW.size);go_roundw
      case rel=>exact⟨k+1,by omega,by go_num,hW2,HN⟩
      case measure=>simp[intOf];omega
    | true =>
      rw[hq] at hcall;have HN:=hid (show ∃p∈ps,b p=true from⟨p,hpm,hq⟩);clear HU hq;go_wp2_with (go_at_fn g;refine hcall.mono ?_;rintro e w' ⟨rfl,hb⟩)
      have hW2:=hW.trans (hb.mono hW.size);go_ret;exact⟨⟨k,rfl,by omega,fun _=>HN.o,fun _=>by omega⟩,hW2⟩
  · have HN:=hid (show ¬∃p∈ps,b p=true from fun ⟨p,hp,h4⟩=>by
     obtain⟨i,hi,rfl⟩:=List.getElem_of_mem hp;rw[HU.o i hi (by omega)] at h4;cases h4)
    clear HU;have n0:¬(k:Int)<(n:Int):=by omega
    go_wp2_with fail
    go_ret;exact⟨⟨-1,rfl,by omega,fun h=>absurd h (by decide),fun h=>absurd h HN.o⟩,hW⟩
theorem aCd (A:Option Addr) (n c:Nat) (ps:List Vd) (g:Nat) (lb:Array Value) (b:Vd→Bool) (w:World) (h:Uh w A n c ps) (eg:∀args w,(callFunc g args).run prog w=.ok (.enter g args) w) (hp:bBj w g lb b ps) :
  Calls prog 154 #[.slice A n c,.func (.func g) #[] lb] w fun e w'=>(∃r:Bool,e=.returned (.bool r)∧(r=true↔∃p∈ps,b p=true))∧nD w w':=by
 have hix:=aRk A n c ps g lb b w h eg hp;clear hp;go_enter func154,ntmps154
 go_wp2_with fail
 refine hix.mono ?_;rintro e w' ⟨⟨r,rfl,h1,hr⟩,hb⟩;have HR:=hid hr;clear hr;by_cases h0:0≤r
 · have t0:decide (0≤r)=true:=rZ h0;have HN:=hid (HR.o.1 h0);go_wp2_with fail
   go_ret;exact⟨⟨true,rfl,fun _=>HN.o,fun _=>rfl⟩,hb⟩
 · have t0:decide (0≤r)=false:=rY h0;have HN:=hid (fun q=>h0 (HR.o.2 q));go_wp2_with fail
   go_ret;exact⟨⟨false,rfl,fun q=>(by cases q),fun q=>absurd q HN.o⟩,hb⟩
structure OkT (t:TxD):Prop where
 time:1≤t.time∧t.time≤1000
 n:1≤t.n∧t.n≤16
 up:∀j,(hj:j+1<t.ps.length)→t.ps[j].lba<t.ps[j+1].lba
 ps:∀p∈t.ps,0≤p.lba∧p.lba<258∧p.n=40
structure OkB (num:Int) (ts:List TxD):Prop where
 num:1≤num∧num≤1000
 len:1≤ts.length∧ts.length≤8
 up:∀j,(hj:j+1<ts.length)→ts[j].time<ts[j+1].time
 tx:∀t∈ts,OkT t
 sum:(ts.map (·.n)).sum≤32
theorem aEa {ts:List TxD} {k:Nat} (hk:k<ts.length):((ts.take (k+1)).map (·.n)).sum=((ts.take k).map (·.n)).sum+ts[k].n:=by
 rw[List.take_succ_eq_append_getElem hk,rI,List.sum_append];simp
theorem aUq (A:Option Addr) (n c:Nat) (ts:List TxD) (w:World) (h:Ki w A n c ts) (h16:∀t∈ts,t.n≤16) :
  Calls prog 108 #[.slice A n c] w fun e w'=>(∃k:Nat,e=.returned (.int .i64 k)∧k≤n∧k≤8∧((ts.take k).map (·.n)).sum≤32∧(0<n→0<k))∧nD w w':=by
 have hl:=h.len;go_enter func108,ntmps108
 go_wp2_with fail
 go_loopw [2,3,8] (fun nv pv i wr=>∃k P:Nat,k≤n∧k≤8∧i=.int .i64 k∧nv=.int .i64 k∧pv=.int .i64 P∧P≤32∧nD w wr∧Hid (((ts.take k).map (·.n)).sum=P)) (fun _ _ i _=>n - (intOf i).toNat)
 case atStart=>exact⟨0,0,zL,by omega,rfl,rfl,rfl,by omega,nB,by show _=_;simp⟩
 case round =>
  obtain⟨k,P,hk,hk8,rfl,rfl,rfl,hP,hW,HS⟩:=hrel;by_cases hlt:k<n
  · obtain⟨t,hpt⟩:∃p,ts[k]'(by omega)=p:=⟨_,rfl⟩
    have hmt:t∈ts:=by rw[←hpt];exact rC _
    obtain⟨adt,eAt,hadt,c0,c1⟩:=Vk aAu (h.rd.next lR hW) (k:=k) (by omega) (u:=.int .i64 t.time) (v:=.slice t.A t.n t.c) (by rw[hpt];rfl);have ht16:=h16 t hmt;have HT:=hid hpt;have n0:(k:Int)<(n:Int):=by omega
    have n1:(0:Int)≤(k:Int):=by omega
    subst eAt;clear hpt hmt;obtain⟨w5,hw5⟩:=nC (wr.alloc (.cells #[.int .i64 t.time,.slice t.A t.n t.c] 196));have hB5:Bk w5 wr.heap.size 196 [.int .i64 t.time,.slice t.A t.n t.c]:=by rw[←hw5];exact Bk.new wr _ _
    have hW5:nD w w5:=by rw[←hw5];exact hW.alloc hW.size _
    have d1:=hB5.cell (i:=1) (by simp);simp only[tI,tJ] at d1;clear hB5;have BRK:=hid (show (∃j:Nat,Value.int .i64 (k:Int)=.int .i64 (j:Int)∧j≤n∧j≤8∧((ts.take j).map (·.n)).sum≤32) from⟨k,rfl,hk,hk8,by rw[HS.o];exact hP⟩);by_cases h8:k=8
    · have t0:decide ((8:Int)≤(k:Int))=true:=rZ (by omega);have HZ:=hid (show 0<k by omega);clear h8;go_wp2_with fail
      go_ret;exact⟨⟨k,rfl,hk,hk8,by rw[HS.o];exact hP,fun _=>HZ.o⟩,hW5⟩
    · have t0:decide ((8:Int)≤(k:Int))=false:=rY (by omega);by_cases hb:0<k∧32 - (P:Int)<(t.n:Int)
      · have t1:decide ((0:Int)<(k:Int))=true:=rZ (by omega);have t2:decide (32 - (P:Int)<(t.n:Int))=true:=rZ hb.2;have t3:(0:Int)<(k:Int):=by omega
        have wk:wrap64 (32 - (P:Int))=32 - (P:Int):=by unfold wrap64;omega
        have HZ:=hid hb.1;clear hb h8;go_wp2_with fail
        go_ret;exact⟨⟨k,rfl,hk,hk8,by rw[HS.o];exact hP,fun _=>HZ.o⟩,hW5⟩
      · have wk:wrap64 (32 - (P:Int))=32 - (P:Int):=by unfold wrap64;omega
        have wp:wrap64 ((P:Int)+(t.n:Int))=((P+t.n:Nat):Int):=by unfold wrap64;omega
        have hPn:P+t.n≤32:=by
         rcases tP k with e|e
         · subst e;have:=HS.o;simp at this
           omega
         · omega
        have HN:=hid (show ((ts.take (k+1)).map (·.n)).sum=P+t.n by rw[aEa (by omega),HS.o,HT.o]);have t2:decide (32 - (P:Int)<(t.n:Int))=false:=rY (by omega);clear hb;rcases tP k with e|e
        · have t1:decide ((0:Int)<(k:Int))=false:=rY (by omega);have t3:¬(0:Int)<(k:Int):=by omega
          clear e;go_wp2_with fail
          go_roundw
          case rel=>exact⟨k+1,P+t.n,by omega,by omega,by go_num,by go_num,by first|rfl|(congr 1),hPn,hW5,HN⟩
          case measure=>simp[intOf];omega
        · have t1:decide ((0:Int)<(k:Int))=true:=rZ (by omega);have t3:(0:Int)<(k:Int):=by omega
          go_wp2_with fail
          go_roundw
          case rel=>exact⟨k+1,P+t.n,by omega,by omega,by go_num,by go_num,by first|rfl|(congr 1),hPn,hW5,HN⟩
          case measure=>simp[intOf];omega
  · obtain rfl:k=n:=by omega
    have n0:¬(k:Int)<(k:Int):=by omega
    go_wp2_with fail
    go_ret;exact⟨⟨k,rfl,hk,hk8,by first|(rw[HS.o];exact hP)|(rw[←List.map_take,HS.o];exact hP),fun h=>h⟩,hW⟩
end
section
open Go.RowKit
theorem aTq (lba:Int) (A:Option Addr) (n c:Nat) (w:World) (h:0≤lba∧lba<258∧n=40) :
  Calls prog 224 #[.agg #[.int .i64 lba,.slice A n c]] w fun e w'=>e=.returned (.bool true)∧nD w w':=by
 obtain⟨h0,h1,rfl⟩:=h;have t1:decide (lba≤1048576)=true:=rZ (by omega);have t2:decide (0≤lba)=true:=rZ h0;have h2:lba≤1048576:=by omega
 obtain⟨w5,hw5⟩:=nC (w.alloc (.cells #[.int .i64 lba,.slice A 40 c] 50));have hB5:Bk w5 w.heap.size 50 [.int .i64 lba,.slice A 40 c]:=by rw[←hw5];exact Bk.new w _ _
 have hb5:nD w w5:=by rw[←hw5];exact nB.alloc lR _
 obtain⟨d0,d1⟩:=hB5.c2;go_enter func224,ntmps224
 go_wp2_with fail
 go_ret;exact⟨rfl,hb5⟩
theorem aEu (lba:Int) (A:Option Addr) (n c:Nat) (w:World) (h:0≤lba∧lba<258∧n=40) :
  Calls prog 223 #[.agg #[.int .i64 lba,.slice A n c]] w fun e w'=>e=.returned (.bool false)∧nD w w':=by
 have hp:=fun w'=>aTq lba A n c w' h
 obtain⟨w5,hw5⟩:=nC (w.alloc (.cells #[.int .i64 lba,.slice A n c] 50));have hB5:Bk w5 w.heap.size 50 [.int .i64 lba,.slice A n c]:=by rw[←hw5];exact Bk.new w _ _
 have hb5:nD w w5:=by rw[←hw5];exact nB.alloc lR _
 obtain⟨d0,d1⟩:=hB5.c2;clear h;go_enter func223,ntmps223
 go_wp2_with fail
 refine(hp _).mono ?_;rintro e w' ⟨rfl,hb⟩;have hb6:=hb5.trans (hb.mono hb5.size);clear hp hb;go_wp2_with fail
 go_ret;exact⟨rfl,hb6⟩
theorem aGd (num:Int) (A:Option Addr) (n c S:Nat) (ts:List TxD) (w:World) (h:Ki w A n c ts) (hs:(ts.map (·.n)).sum≤100000) (hS:1+(ts.map (·.n)).sum=S) :
  Calls prog 222 #[.agg #[.int .i64 num,.slice A n c]] w fun e w'=>e=.returned (.int .i64 (S:Int))∧nD w w':=by
 have hl:=h.len;obtain⟨w5,hw5⟩:=nC (w.alloc (.cells #[.int .i64 num,.slice A n c] 107));have hB5:Bk w5 w.heap.size 107 [.int .i64 num,.slice A n c]:=by rw[←hw5];exact Bk.new w _ _
 have hb5:nD w w5:=by rw[←hw5];exact nB.alloc lR _
 obtain⟨d0,d1⟩:=hB5.c2;have h5:=h.next hb5
 have tk:∀k,((ts.take k).map (·.n)).sum≤(ts.map (·.n)).sum:=fun k=>by
  conv=>rhs;rw[←List.take_append_drop k ts,rI,List.sum_append]
  omega
 have HK:=nF tk hs;have HSS:=hid hS;have hnn:=tK h.cap h.big;have hbig:maxLen≤9223372036854775807:=by decide
 clear h tk hs hB5 hS;go_enter func222,ntmps222
 go_wp2_with fail
 go_loopw [3,9] (fun pv i wr=>∃k P:Nat,k≤n∧i=.int .i64 k∧pv=.int .i64 P∧P≤100001∧nD w wr∧nD w5 wr∧Hid (1+((ts.take k).map (·.n)).sum=P)) (fun _ i _=>n - (intOf i).toNat)
 case atStart=>exact⟨0,1,zL,rfl,rfl,by omega,hb5,nB,by show _=_;simp⟩
 case round =>
  obtain⟨k,P,hk,rfl,rfl,hP,hW,hW5,HS⟩:=hrel;clear d0 d1;by_cases hlt:k<n
  · obtain⟨t,hpt⟩:∃p,ts[k]'(by omega)=p:=⟨_,rfl⟩
    have hmt:t∈ts:=by rw[←hpt];exact rC _
    obtain⟨adt,eAt,hadt,c0,c1⟩:=Vk aAu (h5.rd.next lR hW5) (k:=k) (by omega) (u:=.int .i64 t.time) (v:=.slice t.A t.n t.c) (by rw[hpt];rfl);have HT:=hid hpt;have n0:(k:Int)<(n:Int):=by omega
    have n1:(0:Int)≤(k:Int):=by omega
    subst eAt
    have hPn:P+t.n≤100001:=by
     have h1:=HK.o.1 (k+1);rw[aEa (by omega),HT.o] at h1;have:=HS.o;have:=HK.o.2;omega
    have wp:wrap64 ((P:Int)+(t.n:Int))=((P+t.n:Nat):Int):=by unfold wrap64;omega
    have HN:=hid (show 1+((ts.take (k+1)).map (·.n)).sum=P+t.n by rw[aEa (by omega),HT.o];have:=HS.o;omega);clear hpt hmt;obtain⟨w6,hw6⟩:=nC (wr.alloc (.cells #[.int .i64 t.time,.slice t.A t.n t.c] 196));have hB6:Bk w6 wr.heap.size 196 [.int .i64 t.time,.slice t.A t.n t.c]:=by rw[←hw6];exact Bk.new wr _ _
    have hb6:nD wr w6:=by rw[←hw6];exact nB.alloc lR _
    obtain⟨d0,d1⟩:=hB6.c2;have hW2:=hW.trans (hb6.mono hW.size);have hW3:=hW5.trans (hb6.mono hW5.size);clear hB6;go_wp2_with fail
    go_roundw
    case rel=>exact⟨k+1,P+t.n,by omega,by go_num,by first|rfl|(congr 1),hPn,hW2,hW3,HN⟩
    case measure=>simp[intOf];omega
  · obtain rfl:k=n:=by omega
    have n0:¬(k:Int)<(k:Int):=by omega
    have hE:=HS.o;rw[rG (by omega)] at hE;obtain rfl:P=S:=hE.symm.trans HSS.o;clear hE;go_wp2_with fail
    go_ret;exact⟨rfl,hW⟩
theorem aSe (A:Option Addr) (n c:Nat) (ts:List TxD) (w:World) (h:Ki w A n c ts) (hok:∀t∈ts,OkT t) (hup:∀j,(hj:j+1<ts.length)→ts[j].time<ts[j+1].time) :
  Calls prog 221 #[.slice A n c] w fun e w'=>e=.returned (.bool true)∧nD w w':=by
 have hl:=h.len;have HU:=hid hup;have HO:=hid hok;have hnn:=tK h.cap h.big;have hbig:maxLen≤9223372036854775807:=by decide
 clear hup hok;go_enter func221,ntmps221
 go_wp2_with fail
 go_loopw [3,9] (fun lv i wr=>∃(k:Nat) (L:Int),k≤n∧i=.int .i64 k∧lv=.int .i64 L∧nD w wr∧Hid (∀(hk:k<ts.length),L<ts[k].time)) (fun _ i _=>n - (intOf i).toNat)
 case atStart=>exact⟨0,0,zL,rfl,rfl,nB,fun hk=>by have:=(HO.o _ (rC hk)).time.1;omega⟩
 case round =>
  obtain⟨k,L,hk,rfl,rfl,hW,HL⟩:=hrel;by_cases hlt:k<n
  · obtain⟨t,hpt⟩:∃p,ts[k]'(by omega)=p:=⟨_,rfl⟩
    have hmt:t∈ts:=by rw[←hpt];exact rC _
    obtain⟨adt,eAt,hadt,c0,c1⟩:=Vk aAu (h.rd.next lR hW) (k:=k) (by omega) (u:=.int .i64 t.time) (v:=.slice t.A t.n t.c) (by rw[hpt];rfl);have ho:=HO.o t hmt;have hLt:L<t.time:=by rw[←hpt];exact HL.o (by omega)
    have HT:=hid (show ∀(hk:k+1<ts.length),t.time<ts[k+1].time from fun hk1=>by rw[←hpt];exact HU.o k hk1);have hps:=(h.y t hmt).next hW;have n0:(k:Int)<(n:Int):=by omega
    have n1:(0:Int)≤(k:Int):=by omega
    have t0:decide (t.time≤L)=false:=rY (by omega);have ht1:=ho.time;have t1:decide (1099511627776<t.time)=false:=rY (by omega);have t2:decide ((t.n:Int)=0)=false:=rY (by have:=ho.n;omega);have t3:((t.n:Int)==0)=false:=by have:=ho.n;simp;omega
    have hn1:=ho.n;have ht0:t.n≠0:=by omega
    subst eAt;clear hpt hmt HL;obtain⟨w6,hw6⟩:=nC (wr.alloc (.cells #[.int .i64 t.time,.slice t.A t.n t.c] 196));have hB6:Bk w6 wr.heap.size 196 [.int .i64 t.time,.slice t.A t.n t.c]:=by rw[←hw6];exact Bk.new wr _ _
    have hb6:nD wr w6:=by rw[←hw6];exact nB.alloc lR _
    obtain⟨d0,d1⟩:=hB6.c2;have hW2:=hW.trans (hb6.mono hW.size);have hps6:=hps.next hb6;have HP6:=hid hps6;have HX:=nF ho.up hps.len;have HTL:=nF ht1 hLt;clear hB6 hps hps6 ho ht1 hLt;go_wp2_with fail
    clear c0 c1;go_loopw [6] (fun iv wr=>∃j q:Nat,j+1≤t.n∧iv=.int .i64 ((j:Int)+1)∧wr=w6.drewN q) (fun iv _=>t.n - (intOf iv).toNat)
    case atStart=>exact⟨0,0,hn1.1,rfl,rfl⟩
    case round =>
     obtain⟨j,q,hj,rfl,rfl⟩:=hrel;by_cases hjl:j+1<t.n
     · obtain⟨x,hx⟩:∃p,t.ps[j]'(by have:=HX.o.2;omega)=p:=⟨_,rfl⟩
       obtain⟨y,hy⟩:=nC (t.ps[j+1]'(by have:=HX.o.2;omega));obtain⟨ad,eA,had,e0,_⟩:=Vk Vy HP6.o.rd (k:=j) (by have:=HX.o.2;omega) (u:=.int .i64 x.lba) (v:=.slice x.A x.n x.c) (by rw[hx];rfl)
       have e1:w6.cell? (ad.add ((j+1)*2))=some (.int .i64 y.lba):=by
        obtain⟨ad2,e,_,cc,_⟩:=Vk Vy HP6.o.rd (k:=j+1) (by have:=HX.o.2;omega) (u:=.int .i64 y.lba) (v:=.slice y.A y.n y.c) (by rw[hy];rfl);rw[eA] at e;injection e with e;subst e;exact cc
       have hxy:x.lba<y.lba:=by rw[←hx,←hy];exact HX.o.1 j (by have:=HX.o.2;omega)
       have t4:decide (y.lba≤x.lba)=false:=rY (by omega);have n2:(j:Int)+1<(t.n:Int):=by omega
       have n3:(0:Int)≤(j:Int):=by omega
       have n4:(j:Int)<(t.n:Int):=by omega
       have n5:(0:Int)≤(j:Int)+1:=by omega
       have wj:IntKind.i64.wrap (j:Int)=j:=IntWalk.i64_in _ (by have:=hn1;omega);have wj1:IntKind.i64.wrap ((j:Int)+1)=j+1:=IntWalk.i64_in _ (by have:=hn1;omega);rw[eA] at d1;clear hx hy eA;go_wp2_with fail
       go_quiet (fail)
       go_wp2_with fail
       go_roundw
       case rel=>exact⟨j+1,_,by omega,by go_num,by first|rfl|(simp only[World.drewN_drewN];rfl)⟩
       case measure=>simp[intOf];omega
     · have hjn:j+1=t.n:=by omega
       have n2:¬((j:Int)+1<(t.n:Int)):=by omega
       go_wp2_with fail
       go_roundw
       case rel=>exact⟨k+1,t.time,by omega,by go_num,rfl,hW2.trans (Vw nB q),HT⟩
       case measure=>simp[intOf];omega
  · obtain rfl:k=n:=by omega
    have n0:¬(k:Int)<(k:Int):=by omega
    go_wp2_with fail
    go_ret;exact⟨rfl,hW⟩
end
def aEr:Code→Option Code
 | .loop c=>some c
 | .seq a b=>match aEr a with
   | some c=>some c
   | none=>aEr b
 | .block _ c=>aEr c
 | .scope c=>aEr c
 | .cond _ a b=>match aEr a with
   | some c=>some c
   | none=>aEr b
 | _=>none
noncomputable def Ur (f:Func):Code:=(f.body.bind aEr).getD .skip
theorem Va {k:Nat} {x:Int} (e:x=(k:Int)+1):Value.int .i64 x=.int .i64 ((k+1:Nat):Int):=by rw[e];rfl
theorem Xw {n k:Nat} (h:k<n) {x:Int} (e:x=(k:Int)+1):n - x.toNat<n - (k:Int).toNat:=by omega
section
open Go.RowKit
structure ExD where
 f:Int
 l:Int
def exc (x:ExD):List Value:=[.int .i64 x.f,.int .i64 x.l]
theorem aBb (x:ExD):(exc x).length=2:=rfl
theorem aUn {l:List (ExD)}:∀u∈l.flatMap exc,u.oneCell'=true:=fun u hu=>by
 obtain⟨x,_,hx⟩:=List.mem_flatMap.1 hu;simp[exc] at hx
 rcases hx with rfl|rfl<;>rfl
structure aEg (w:World) (A:Option Addr) (n c:Nat) (xs:List (ExD)):Prop where
 len:xs.length=n
 rd:Rd w w.heap.size A (xs.flatMap exc)
 cap:n≤c
 big:c≤maxLen
theorem aEg.ag {w w':World} {G:Xt} {A:Option Addr} {n c:Nat} {xs:List (ExD)} (h:aEg w A n c xs) (k:Ag G w w') (hG:∀ad,A=some ad→G ad.block):aEg w' A n c xs:=⟨h.len,Rd.ag h.rd k hG,h.cap,h.big⟩
theorem aEg.next {w w':World} {A:Option Addr} {n c:Nat} {xs:List (ExD)} (h:aEg w A n c xs) (hb:nD w w'):aEg w' A n c xs:=h.ag (.of_below (F:=fun _=>True) hb) (fun _ _=>trivial)
def ExO (w:World) (B:Nat) (v:Value) (xs:List (ExD)):Prop:=w.ownsRow B 46 2 v xs.length (xs.flatMap exc)
theorem ExO.is {w:World} {B:Nat} {v:Value} {xs:List (ExD)} (h:ExO w B v xs):∃A c,v=.slice A xs.length c∧aEg w A xs.length c xs:=by
 obtain⟨A,c,rfl⟩:=Xs h;exact⟨A,c,rfl,rfl,Ve h,(Vv h).1,(Vv h).2⟩
def bBi (w:World) (g:Nat) (lb:Array Value) (b:ExD→Bool) (xs:List (ExD)):Prop:=∀p∈xs,∀w',nD w w'→Calls prog g (#[.agg #[.int .i64 p.f,.int .i64 p.l]]++lb) w' fun e w''=>e=.returned (.bool (b p))∧nD w' w''
theorem bGp:(prog.info? 46).map (fun i=>(i.size,i.bytes,i.zero.map (·.cells.size)))=some (2,16,some 2):=by kernel_rfl
theorem aKd:∃i z,prog.info? 46=some i∧i.zero=some z∧i.size=2∧i.bytes=16∧z.cells.size=2:=by
 have h:=bGp
 cases hi:prog.info? 46 with
 | none=>rw[hi] at h;cases h
 | some i =>
   rw[hi] at h;simp at h
   obtain⟨h1,h2,z,hz,h3⟩:=h;exact⟨i,z,rfl,hz,h1,h2,h3⟩
theorem aSf {w:World} {B e s n c:Nat} {A:Option Addr} {xs:List Value} (h:w.ownsRow B e s (.slice A n c) n xs):w.ownsRow B e s (.slice A 0 c) 0 []:=by
 rcases h.2 with ⟨h0,hn⟩|⟨g,cap,cur,hv,hb,hh,hc,hm,hs,_⟩
 · injection h0 with h1 h2 h3;subst h1 h2 h3;exact⟨by simp,.inl ⟨rfl,rfl⟩⟩
 · injection hv with h1 h2 h3;subst h1 h3;exact⟨by simp,.inr ⟨g,c,cur,rfl,hb,hh,zL,hm,hs,by simp⟩⟩
section
variable {P:Program} (w:World)
theorem aHt (base:Nat) (t tn ty e:TypeId) (i:TypeInfo) (z:Value) (kn kq:IntKind) (size bytes:Nat) (ht:P.underlying t=some (.slice e)) (htn:P.underlying tn=some (.int kn)) (hi:P.info? e=some i) (hz:i.zero=some z)
  (hsize:i.size=size) (hby:i.bytes=bytes) (hzs:z.cells.size=size) (hs0:0<size) (k:Nat) (hk:0<k) (h63:k≤1000000) (hb6:k*bytes≤1000000000) (hbase:base≤w.heap.size) :
  ∃v' w' xs,(Builtin.append_ #[t,tn] ty #[.slice none 0 0,.int kq k]).run P w=.ok v' w'∧w'.ownsRow base e size v' k xs∧nD w w':=by
 have hr:=Lib.run_append_nil_zeros (P:=P) w t tn ty e i z kq kn ht htn hi hz k hk (by omega) (by omega) (by rw[hby];omega);have hge:=grownCap_ge w k 0 e;have hcm:grownCap w k 0 e≤maxLen:=grownCap_le_maxLen w k 0 e (by simp only[maxLen];omega);refine⟨_,_,(Builtin.zeroCells z.cells k).toList,hr,⟨?_,.inr ⟨w.heap.size,_,_,rfl,hbase,heap_alloc_new w.drew _,hge,hcm,?_,?_⟩⟩,(Xu nB).alloc lR _⟩
 · rw[Array.length_toList,size_zeroCells,hzs]
 · simp only[Array.size_append,size_zeroCells,hzs];rw[←Nat.add_mul];congr 1
   omega
 · rw[Array.toList_append];have:(Builtin.zeroCells z.cells k).toList.length=k*size:=by rw[Array.length_toList,size_zeroCells,hzs]
   rw[←this];exact List.take_left
theorem aFk {ops:Array Oper} {rest:List Oper} {o:Oper} {a:Act} {Q:Exit→Act→World→Prop} (hgd:o.guard=none) (s x:Operand) (t tn:TypeId)
  (ho:o.op=.call {callee:=.builtin .append,args:=#[s,x],argTypes:=#[t,tn]})
  (base:Nat) (e:TypeId) (i:TypeInfo) (z:Value) (kn kq:IntKind) (size bytes:Nat) (ht:P.underlying t=some (.slice e)) (htn:P.underlying tn=some (.int kn)) (hi:P.info? e=some i) (hz:i.zero=some z)
  (hsize:i.size=size) (hby:i.bytes=bytes) (hzs:z.cells.size=size) (hs0:0<size)
  (hs:a.eval s=.slice none 0 0) (k:Nat) (hx:a.eval x=.int kq k) (hk:0<k) (h63:k≤1000000) (hb6:k*bytes≤1000000000) (hbase:base≤w.heap.size)
  (h:∀v' w' xs,w'.ownsRow base e size v' k xs→nD w w'→wpList P ops Q rest (a.put o.dst v') w'):wpList P ops Q (o::rest) a w:=by
 obtain⟨v',w',xs,hr,h2,h3⟩:=aHt (P:=P) w base t tn o.type e i z kn kq size bytes ht htn hi hz hsize hby hzs hs0 k hk h63 hb6 hbase;exact Lib.wpList_append_run w hgd s x t tn ho _ _ hs hx v' w' hr (h v' w' xs h2 h3)
end
theorem aUv (A:Option Addr) (n c:Nat) (ps:List (ExD)) (g:Nat) (lb:Array Value) (b:ExD→Bool) (w:World) (h:aEg w A n c ps) (eg:∀args w,(callFunc g args).run prog w=.ok (.enter g args) w) (hp:bBi w g lb b ps) :
  Calls prog 311 #[.slice A n c,.func (.func g) #[] lb] w fun e w'=>(∃r:Int,e=.returned (.int .i64 r)∧-1≤r∧(0≤r↔∃p∈ps,b p=true))∧nD w w':=by
 have hl:=h.len;have hnn:=tK h.cap h.big;have hbig:maxLen≤9223372036854775807:=by decide
 go_enter func311,ntmps311
 go_wp2_with fail
 go_loopw [5,8] (fun s5 i wr=>∃k:Nat,k≤n∧i=.int .i64 k∧nD w wr∧Hid (∀j,(hj:j<ps.length)→j<k→b ps[j]=false)) (fun _ i _=>n - (intOf i).toNat)
 case atStart=>exact⟨0,zL,rfl,nB,fun j hj h=>absurd h (by omega)⟩
 case round =>
  obtain⟨k,hk,rfl,hW,HU⟩:=hrel;by_cases hlt:k<n
  · obtain⟨p,hpk⟩:∃p,ps[k]'(by omega)=p:=⟨_,rfl⟩
    have hpm:p∈ps:=by rw[←hpk];exact rC _
    obtain⟨ad,rfl,had,c0,c1⟩:=Vk aBb (h.rd.next lR hW) (k:=k) (by omega) (u:=.int .i64 p.f) (v:=.int .i64 p.l) (by rw[hpk];rfl);have n0:(k:Int)<(n:Int):=by omega
    have n1:(0:Int)≤(k:Int):=by omega
    have hcall:=hp p hpm wr hW;have HP:=hid hpk;clear hpk
    cases hq:b p with
    | false =>
      rw[hq] at hcall
      have HN:=hid (show ∀j,(hj:j<ps.length)→j<k+1→b ps[j]=false from fun j hj hjk=>by
       rcases tN j k with g|g
       · exact HU.o j hj g
       · obtain rfl:j=k:=by omega
         rw[HP.o];exact hq)
      clear HU hq;go_wp2_with (go_at_fn g;refine hcall.mono ?_;rintro e w' ⟨rfl,hb⟩)
      have hW2:=hW.trans (hb.mono hW.size);go_roundw
      case rel=>exact⟨k+1,by omega,by go_num,hW2,HN⟩
      case measure=>simp[intOf];omega
    | true =>
      rw[hq] at hcall;have HN:=hid (show ∃p∈ps,b p=true from⟨p,hpm,hq⟩);clear HU hq;go_wp2_with (go_at_fn g;refine hcall.mono ?_;rintro e w' ⟨rfl,hb⟩)
      have hW2:=hW.trans (hb.mono hW.size);go_ret;exact⟨⟨k,rfl,by omega,fun _=>HN.o,fun _=>by omega⟩,hW2⟩
  · have HN:=hid (show ¬∃p∈ps,b p=true from fun ⟨p,hp,h4⟩=>by
     obtain⟨i,hi,rfl⟩:=List.getElem_of_mem hp;rw[HU.o i hi (by omega)] at h4;cases h4)
    clear HU;have n0:¬(k:Int)<(n:Int):=by omega
    go_wp2_with fail
    go_ret;exact⟨⟨-1,rfl,by omega,fun h=>absurd h (by decide),fun h=>absurd h HN.o⟩,hW⟩
theorem aUt (A:Option Addr) (n c:Nat) (ps:List (ExD)) (g:Nat) (lb:Array Value) (b:ExD→Bool) (w:World) (h:aEg w A n c ps) (eg:∀args w,(callFunc g args).run prog w=.ok (.enter g args) w) (hp:bBi w g lb b ps) :
  Calls prog 259 #[.slice A n c,.func (.func g) #[] lb] w fun e w'=>(∃r:Bool,e=.returned (.bool r)∧(r=true↔∃p∈ps,b p=true))∧nD w w':=by
 have hix:=aUv A n c ps g lb b w h eg hp;clear hp;go_enter func259,ntmps259
 go_wp2_with fail
 refine hix.mono ?_;rintro e w' ⟨⟨r,rfl,h1,hr⟩,hb⟩;have HR:=hid hr;clear hr;by_cases h0:0≤r
 · have t0:decide (0≤r)=true:=rZ h0;have HN:=hid (HR.o.1 h0);go_wp2_with fail
   go_ret;exact⟨⟨true,rfl,fun _=>HN.o,fun _=>rfl⟩,hb⟩
 · have t0:decide (0≤r)=false:=rY h0;have HN:=hid (fun q=>h0 (HR.o.2 q));go_wp2_with fail
   go_ret;exact⟨⟨false,rfl,fun q=>(by cases q),fun q=>absurd q HN.o⟩,hb⟩
theorem aLk (A:Option Addr) (n c B:Nat) (xs:List (ExD)) (w:World) (h:aEg w A n c xs) (hn:n≤1000000) (hB:B≤w.heap.size) :
  Calls prog 262 #[.slice A n c] w fun e w'=>(∃v,e=.returned v∧ExO w' B v xs∧(v.ownBlock=none→n=0))∧nD w w':=by
 obtain⟨xi,xz,hxi,hxz,hx5,hx56,hxc⟩:=aKd;have HN:=hid hn;have hl:=h.len;have q:∀(w:World) (a:Option Addr) (n c n' c':Nat),(binOp .eql 297 (.slice a n c) (.slice none n' c')).run prog w=.ok (.bool a.isNone) w:=fun w a n c n' c'=>Lib.run_eql_slice_nil w _ _ a n c n' c' underlying297
 clear hn;rcases A with _|ad
 · have h0:xs=[]:=by
    rcases tP xs.length with g|g
    · exact List.eq_nil_of_length_eq_zero g
    · obtain⟨ad,e,_⟩:=h.rd (by rw[Vt aBb];omega);cases e
   subst h0;simp at hl
   subst hl;go_enter func262,ntmps262
   go_wp2_with fail
   go_ret;exact⟨⟨_,rfl,⟨rfl,.inl ⟨rfl,rfl⟩⟩,fun _=>by first|rfl|trivial⟩,nB⟩
 · have HR:=hid h.rd;clear h;go_enter func262,ntmps262
   go_wp2_with (at_builtin;go_must (refine aAa _ rfl _ _ 297 rfl B 46 xi xz 2 16 underlying297 hxi hxz hx5 hx56 hxc (by omega) _ 0 [] (by rfl) (by exact World.ownsRow_lit w #[] 0 hB (by decide) rfl) w.heap.size (some ad) n c (xs.flatMap exc) (by rfl) (by rw[Vt aBb,hl]) (by exact HR.o.alloc lR _) aUn (by have:=HN.o;omega) (by have:=HN.o;omega) (by simp;omega) ?_);intro v1 w1 hO1 hG1 hv1)
   have HB:nD w w1:=(nB.alloc lR _).grown hG1 (by simp) (fun g hg=>tO (rT (show some w.heap.size=some g from hg)))
   have HE:=hid (show ExO w1 B v1 xs∧(v1.ownBlock=none→n=0) from⟨by unfold ExO;rw[hl];simpa using hO1,fun e=>by
    rcases hv1 with r|r
    · rw[e] at r;cases r
    · rw[e] at r;cases r⟩)
   clear hO1 hG1 hv1;go_ret;exact⟨⟨v1,rfl,HE.o⟩,HB⟩
theorem aYu (n:Nat) (w:World) (hn:n≤1000000) :
  Calls prog 266 #[.slice none 0 0,.int .i64 (n:Int)] w fun e w'=>(∃v,e=.returned v∧w'.ownsRow w.heap.size 46 2 v 0 [])∧nD w w':=by
 obtain⟨xi,xz,hxi,hxz,hx5,hx56,hxc⟩:=aKd;have n0:¬((n:Int)<0):=by omega
 have w0:wrap64 (n:Int)=(n:Int):=by unfold wrap64;omega
 by_cases h0:n=0
 · subst h0;go_enter func266,ntmps266
   go_wp2_with fail
   go_ret;exact⟨⟨_,rfl,rfl,.inl ⟨rfl,rfl⟩⟩,nB⟩
 · have n1:(0:Int)<(n:Int):=by omega
   have HN:=nF hn h0;clear hn h0;go_enter func266,ntmps266
   go_wp2_with (at_builtin;go_must (refine aFk _ rfl _ _ 297 3 rfl w.heap.size 46 xi xz .i64 .i64 2 16 underlying297 underlying3 hxi hxz hx5 hx56 hxc (by omega) (by rfl) n (by first|rfl|exact congrArg (Value.int .i64) w0) (by have:=HN.o;omega) (by have:=HN.o;omega) (by have:=HN.o;omega) lR ?_);intro v1 w1 xs1 hO1 hB1;have HB:=hid hB1;obtain⟨vA,vc,rfl⟩:=Xs hO1;have HO:=hid (aSf hO1);clear hO1 hB1)
   go_ret;exact⟨⟨_,rfl,HO.o⟩,HB.o⟩
structure RX where
 A:Option Addr
 n:Nat
 c:Nat
 xs:List (ExD)
def RX.cell (x:RX):Value:=.slice x.A x.n x.c
theorem aTc {a c:Nat} (h:a+c≤2000):wrap64 ((a:Int)+(c:Int))=((a+c:Nat):Int):=by unfold wrap64;omega
theorem aRe (A:Option Addr) (n c:Nat) (rs:List RX) (w:World) (hl:rs.length=n) (h:Rd w w.heap.size A (rs.map RX.cell)) (hb:∀x∈rs,aEg w x.A x.n x.c x.xs) (hn:n≤2000) (ht:(rs.map (·.n)).sum≤2000) :
  Calls prog 210 #[.slice A n c] w fun e w'=>(∃v,e=.returned v∧ExO w' w.heap.size v (rs.flatMap (·.xs)))∧nD w w':=by
 obtain⟨xi,xz,hxi,hxz,hx5,hx56,hxc⟩:=aKd
 have tk:∀k,k≤n→((rs.take k).map (·.n)).sum≤(rs.map (·.n)).sum:=fun k _=>by
  conv=>rhs;rw[←List.take_append_drop k rs,rI,List.sum_append]
  omega
 have ts:∀k,(hk:k<rs.length)→((rs.take (k+1)).map (·.n)).sum=((rs.take k).map (·.n)).sum+rs[k].n:=fun k hk=>by rw[List.take_succ_eq_append_getElem hk,rI,List.sum_append];simp
 have tf:∀k,(hk:k<rs.length)→(rs.take (k+1)).flatMap (·.xs)=(rs.take k).flatMap (·.xs)++rs[k].xs:=fun k hk=>by rw[List.take_succ_eq_append_getElem hk,rX];simp
 have tn:∀k,k≤n→((rs.take k).flatMap (·.xs)).length=((rs.take k).map (·.n)).sum:=fun k=>by
  induction k with
  | zero=>intro _;simp
  | succ k ih=>intro hk;rw[tf k (by omega),ts k (by omega),rH,ih (by omega),(hb _ (rC _)).len]
 have HT:=nJ tk ts tf tn ht;have HB:=hid hb;clear tk ts tf tn ht hb;go_enter func210,ntmps210
 go_wp2_with fail
 go_loop [3,11] (fun s i=>∃(k t:Nat),k≤n∧i=.int .i64 (k:Int)∧s=.int .i64 (t:Int)∧Hid (t=((rs.take k).map (·.n)).sum)∧t≤2000) (fun _ i=>n - (intOf i).toNat)
 case atStart=>exact⟨0,0,zL,rfl,rfl,hid (by simp),by omega⟩
 case round =>
  obtain⟨k,t,hk,rfl,rfl,HS,ht⟩:=hrel;by_cases hlt:k<n
  · obtain⟨ad,rfl,_,e0⟩:=h.get (k:=k) (by rw[rU];omega);rw[rV] at e0;obtain⟨y,hy⟩:=nC (rs[k]'(by omega));rw[hy] at e0;unfold RX.cell at e0
    have n0:(k:Int)<(n:Int):=by omega
    have n1:(0:Int)≤(k:Int):=by omega
    have h1:=HT.o.2.1 k (by omega);rw[hy] at h1;have h2:=HT.o.1 (k+1) hlt;have h3:=HT.o.2.2.2.2;have h4:=HS.o;have ht2:t+y.n≤2000:=by omega
    have HS2:=hid (show t+y.n=((rs.take (k+1)).map (·.n)).sum by omega);have wk:=hid (aTc ht2);have wb:(t:Int)+(y.n:Int)≤2000:=by omega
    have m0:¬((t:Int)+(y.n:Int)<0):=by omega
    clear hy h1 h2 h3 h4;go_wp2_with fail
    go_round
    case rel=>exact⟨k+1,t+y.n,hlt,Va (by first|rfl|(unfold wrap64;omega)),congrArg (Value.int .i64) (by first|rfl|exact wk.out),HS2,ht2⟩
    case measure=>exact aGn hlt
  · obtain rfl:k=n:=by omega
    have n0:¬((k:Int)<(k:Int)):=by omega
    have hgr:=aYu t w (by omega);go_wp2_with fail
    refine hgr.mono ?_;rintro e w1 ⟨⟨v,rfl,hv⟩,hb1⟩;go_wp2_with fail
    go_loopw [6,27] (fun s i wr=>∃j:Nat,j≤k∧i=.int .i64 (j:Int)∧wr.ownsRow w.heap.size 46 2 s ((rs.take j).flatMap (·.xs)).length (((rs.take j).flatMap (·.xs)).flatMap exc)∧nD w wr) (fun _ i _=>k - (intOf i).toNat)
    case atStart=>exact⟨0,zL,rfl,by simpa using hv,hb1⟩
    case round =>
     clear hv hb1;obtain⟨j,hj,rfl,hO,hW⟩:=hrel;by_cases hlt:j<k
     · obtain⟨ad,rfl,_,e0⟩:=(h.next lR hW).get (k:=j) (by rw[rU];omega);rw[rV] at e0;obtain⟨y,hy⟩:=nC (rs[j]'(by omega));rw[hy] at e0;unfold RX.cell at e0
       have n1:(j:Int)<(k:Int):=by omega
       have n2:(0:Int)≤(j:Int):=by omega
       have h1:=HT.o.2.1 j (by omega);have h5:=HT.o.2.2.1 j (by omega);rw[hy] at h1 h5;have h2:=HT.o.1 (j+1) hlt;have h3:=HT.o.2.2.2.2;have h4:=HT.o.2.2.2.1 j (by omega);have m2:wrap64 ((j:Int)+1)=(j:Int)+1:=by unfold wrap64;omega
       have hyb:=HB.o y (by rw[←hy];exact rC _);have HY:=hid (show aEg wr y.A y.n y.c y.xs∧((rs.take j).flatMap (·.xs)).length+y.n≤2000 from⟨hyb.next hW,by omega⟩);have HW:=nF hO hW;have HF:=nF h5 hyb.len;clear hy h1 h2 h3 h4 h5 hyb hO hW;go_wp2_with (at_builtin;go_must (refine aAa _ rfl _ _ 297 rfl w.heap.size 46 xi xz 2 16 underlying297 hxi hxz hx5 hx56 hxc (by omega) _ _ _ (by rfl) (by exact HW.o.1) wr.heap.size y.A y.n y.c (y.xs.flatMap exc) (by rfl) (by rw[Vt aBb,HY.o.1.len]) (by exact HY.o.1.rd) aUn (by have:=HY.o.2;omega) (by have:=HY.o.2;omega) (by exact HW.o.2.size) ?_);intro v1 w1 hO1 hG1 hv1)
       go_roundw
       case rel=>exact⟨j+1,hlt,Va (by first|rfl|exact m2),by rw[HF.o.1,rH,rX,HF.o.2];exact hO1,HW.o.2.grown hG1 HW.o.2.size (fun g hg=>(Xv HW.o.1 hg))⟩
       case measure=>(first|exact aGn hlt|(rw[m2];exact aGn hlt))
     · obtain rfl:j=k:=by omega
       rw[rG (by omega)] at hO;have HW:=nF hO hW;clear hO hW;go_wp2_with fail
       go_ret;exact⟨⟨_,rfl,HW.o.1⟩,HW.o.2⟩
end
def Um:List Int→Int
 | []=>0
 | b::r=>b+256*Um r
theorem aIc:∀(l:List Int) (x:Int),Um (l++[x])=Um l+2 ^ (8*l.length)*x
 | [],x=>by simp[Um]
 | b::r,x=>by
   have h:=aIc r x;simp only[List.cons_append,Um,List.length_cons] at h ⊢;rw[h,show 8*(r.length+1)=8*r.length+8 by omega,Int.pow_add];have e:(2:Int) ^ 8=256:=by decide
   rw[e,Int.mul_add,←Int.mul_assoc,Int.mul_comm 256 (2 ^ (8*r.length)),Int.add_assoc]
theorem aKv:∀(l:List Int),(∀x∈l,0≤x∧x<256)→0≤Um l∧Um l<2 ^ (8*l.length)
 | [],_=>by simp[Um]
 | b::r,h=>by
   obtain⟨h1,h2⟩:=aKv r fun x hx=>h x (List.mem_cons_of_mem _ hx)
   obtain⟨h3,h4⟩:=h b (rQ ..);simp only[Um,List.length_cons];rw[show 8*(r.length+1)=8*r.length+8 by omega,Int.pow_add,show (2:Int) ^ 8=256 by decide];omega
theorem aUk (v a:Int) (ha:0<a):v % (a*256)=v % a+a*(v / a % 256):=by
 have h1:=Int.emod_add_mul_ediv v a;have h2:=Int.emod_add_mul_ediv (v / a) 256
 have h3:v=(v % a+a*(v / a % 256))+a*256*(v / a / 256):=by
  have e:a*(v / a)=a*(v / a % 256)+a*256*(v / a / 256):=by
   conv=>lhs;rw[←h2]
   rw[Int.mul_add,Int.mul_assoc]
  omega
 have b1:=Int.emod_nonneg v (Int.ne_of_gt ha);have b2:=Int.emod_lt_of_pos v ha;have b3:=Int.emod_nonneg (v / a) (by decide:(256:Int)≠0);have b4:=Int.emod_lt_of_pos (v / a) (by decide:(0:Int)<256);have b5:0≤a*(v / a % 256):=Int.mul_nonneg (Int.le_of_lt ha) b3;have b6:a*(v / a % 256)≤a*255:=Int.mul_le_mul_of_nonneg_left (by omega) (Int.le_of_lt ha);conv=>lhs;rw[h3]
 rw[Int.add_mul_emod_self_left,Int.emod_eq_of_lt (by omega) (by omega)]
theorem aNa:∀(n:Nat) (v:Int),0≤v→v<2 ^ (8*n)→Um (leB n v)=v:=by
 have key:∀(n:Nat) (v:Int),0≤v→Um (leB n v)=v % 2 ^ (8*n):=by
  intro n
  induction n with
  | zero=>intro v _;simp[leB,Um]
  | succ n ih =>
    intro v hv;rw[aLz,aIc,aAv,ih v hv,aFs,show 8*(n+1)=8*n+8 by omega,Int.pow_add,show (2:Int) ^ 8=256 by decide,aUk _ _ (Int.pow_pos (by decide))]
 intro n v h0 h1;rw[key n v h0,Int.emod_eq_of_lt h0 h1]
theorem aIg (n:Int) (h₀ :0≤n) (h₁ :n<2 ^ 64):IntKind.u64.wrap n=n:=by rw[IntKind.wrap_u64];omega
theorem aKl {a b:Nat} (h:a≤b):(2:Int) ^ a≤2 ^ b:=by
 have:=Nat.pow_le_pow_right (n:=2) (by decide) h;exact_mod_cast this
theorem aLf (v x:Int) (k:Nat) (hk:k<8) (v0:0≤v) (v1:v<2 ^ (8*k)) (x0:0≤x) (x1:x<256):bits .or .u64 v (IntKind.u64.wrap (x*2 ^ (8*k)))=v+2 ^ (8*k)*x:=by
 have hp:(0:Int)<2 ^ (8*k):=Int.pow_pos (by decide)
 have hb:x*2 ^ (8*k)<2 ^ 64:=by
  have h1:x*2 ^ (8*k)<256*2 ^ (8*k):=Int.mul_lt_mul_of_pos_right x1 hp;have h2:(256:Int)*2 ^ (8*k)=2 ^ (8*k+8):=by rw[Int.pow_add,show (2:Int) ^ 8=256 by decide,Int.mul_comm]
  have h3:(2:Int) ^ (8*k+8)≤2 ^ 64:=aKl (by omega);omega
 have hv:v<2 ^ 64:=Int.lt_of_lt_of_le v1 (aKl (by omega));have hx0:0≤x*2 ^ (8*k):=Int.mul_nonneg x0 (Int.le_of_lt hp);rw[aIg _ hx0 hb];obtain⟨a,ha⟩:=Int.eq_ofNat_of_zero_le v0;obtain⟨b,hb'⟩:=Int.eq_ofNat_of_zero_le x0;subst ha hb';have e:((b:Int)*2 ^ (8*k))=((b*2 ^ (8*k):Nat):Int):=by rw[Int.natCast_mul,Int.natCast_pow];rfl
 have ea:a<2 ^ (8*k):=by
  have:((2:Int) ^ (8*k))=((2 ^ (8*k):Nat):Int):=by rw[Int.natCast_pow];rfl
  rw[this] at v1;exact Int.ofNat_lt.1 v1
 have e2:(2:Int) ^ (8*k)*(b:Int)=((2 ^ (8*k)*b:Nat):Int):=by rw[Int.natCast_mul,Int.natCast_pow];rfl
 rw[e] at hb ⊢;rw[(bits_nat .u64 64 (by decide) aIg a (b*2 ^ (8*k)) (by exact_mod_cast hv) (by exact_mod_cast hb)).2,e2,Nat.or_comm,Nat.mul_comm b,←Nat.two_pow_add_eq_or_of_lt ea b,Nat.add_comm,Int.natCast_add]
theorem aUr (A:Option Addr) (m c:Nat) (bs:List Int) (n:Nat) (w:World) (h:IsB w A m c bs) (hn:n≤8) (hm:n≤m) (h1:1≤n) :
  Calls prog 199 #[.slice A m c,.int .i64 (n:Int)] w fun e w'=>e=.returned (.tuple #[.int .u64 (Um (bs.take n)),.bool true])∧w=w':=by
 obtain⟨ad,hA,_⟩:=h.rd (by rw[rU,h.len];omega);subst hA;have HB:=nH h hm h1;have n5:¬((m:Int)<(n:Int)):=by omega
 clear h h1;go_enter func199,ntmps199
 go_wp2_with fail
 go_loop [4,12] (fun s i=>∃k:Nat,k≤n∧i=.int .i64 (k:Int)∧∃v:Int,s=.int .u64 v∧Hid (v=Um (bs.take k))) (fun _ i=>n - (intOf i).toNat)
 case atStart=>exact⟨0,zL,rfl,0,rfl,hid (by simp[Um])⟩
 case round =>
  obtain⟨k,hk,rfl,v,rfl,HV⟩:=hrel;by_cases hlt:k<n
  · have hl:=HB.o.1.len;have hm:=HB.o.2.1;obtain⟨x,hx⟩:=nC (bs[k]'(by omega));obtain⟨ad',eA,_,c1⟩:=HB.o.1.rd.get (k:=k) (by rw[rU];omega);injection eA with eA;subst eA;rw[rV,hx] at c1;obtain⟨x0,x1⟩:=HB.o.1.wf x (by rw[←hx];exact rC _);have n0:(k:Int)<(n:Int):=by omega
    have n1:(0:Int)≤(k:Int):=by omega
    have wk:wrap64 (8*(k:Int))=8*(k:Int):=by unfold wrap64;omega
    have n3:¬(8*(k:Int)<0):=by omega
    have hvl:0≤v∧v<2 ^ (8*k):=by
     have:=aKv (bs.take k) fun x hx=>HB.o.1.wf x (rR hx)
     rw[←HV.o,List.length_take_of_le (by omega)] at this;exact this
    have HO:=hid (show bits .or .u64 v (IntKind.u64.wrap (x*2 ^ (8*k)))=Um (bs.take (k+1)) by
     rw[aLf v x k (by omega) hvl.1 hvl.2 x0 x1,List.take_succ_eq_append_getElem (by omega),aIc,hx,←HV.o,List.length_take_of_le (by omega)])
    clear hx hl hm hvl;go_wp2_with fail
    go_round
    case rel=>exact⟨k+1,by omega,by go_num,_,rfl,HO⟩
    case measure=>simp[intOf];omega
  · obtain rfl:k=n:=by omega
    have hV:=HV.o;subst hV;go_wp2_with fail
    go_ret2
    exact⟨rfl,rfl⟩
theorem aCe {bs:List Int} (h:∀x∈bs,0≤x∧x<256) (n:Nat):0≤Um (bs.take n)∧Um (bs.take n)<2 ^ (8*n):=by
 obtain⟨h1,h2⟩:=aKv (bs.take n) fun x hx=>h x (rR hx)
 exact⟨h1,Int.lt_of_lt_of_le h2 (aKl (by rw[rJ];omega))⟩
theorem aHm (A:Option Addr) (m c:Nat) (bs:List Int) (w:World) (h:IsB w A m c bs) (hm:8≤m) :
  Calls prog 139 #[.slice A m c] w fun e w'=>e=.returned (.tuple #[.int .u64 (Um (bs.take 8)),.bool true])∧w=w':=by
 have hp:=aUr A m c bs 8 w h lR hm (by decide);clear h;go_enter func139,ntmps139
 go_wp2_with fail
 refine hp.mono ?_;rintro e w' ⟨rfl,rfl⟩;clear hp;go_wp2_with fail
 go_ret2
 exact⟨rfl,rfl⟩
theorem aHl (A:Option Addr) (m c:Nat) (bs:List Int) (w:World) (h:IsB w A m c bs) (hm:4≤m) :
  Calls prog 140 #[.slice A m c] w fun e w'=>e=.returned (.tuple #[.int .u32 (Um (bs.take 4)),.bool true])∧w=w':=by
 have hp:=aUr A m c bs 4 w h (by decide) hm (by decide);obtain⟨h1,h2⟩:=aCe h.wf 4;obtain⟨v,hv⟩:=nC (Um (bs.take 4));rw[hv] at hp h1 h2 ⊢;have h3:v<4294967296:=h2;have wv:IntKind.u32.wrap v=v:=by rw[IntKind.wrap_u32];omega
 clear h h2 hv;go_enter func140,ntmps140
 go_wp2_with fail
 refine hp.mono ?_;rintro e w' ⟨rfl,rfl⟩;clear hp;go_wp2_with fail
 go_ret2
 exact⟨rfl,rfl⟩
structure FD where
 kind:Int
 ep:Int
 seq:Int
 lba:Int
 n:Nat
 body:List Int
def frD (bs:List Int):FD:=⟨bs.getD 0 0,Um ((bs.drop 2).take 4),Um ((bs.drop 6).take 8),Um ((bs.drop 14).take 4),(bs.getD 1 0).toNat,(bs.drop 18).take (bs.getD 1 0).toNat⟩
theorem aGx {a b c l:List Int} {i k:Nat} (e:l=a++(b++c)) (h:a.length=i) (hk:b.length=k):(l.drop i).take k=b:=by rw[e,List.drop_left' h,List.take_left' hk]
theorem bFq {v:Int} (h:0≤v∧v≤4294967295):Um (leB 4 v)=v:=aNa 4 v h.1 (by rw[show (2:Int) ^ (8*4)=4294967296 by decide];omega)
theorem bFr {v:Int} (h:0≤v∧v≤1099511627776):Um (leB 8 v)=v:=aNa 8 v h.1 (by rw[show (2:Int) ^ (8*8)=18446744073709551616 by decide];omega)
theorem aOa {bs:List Int} {kind ep seq lba:Int} {n:Nat} {body:List Int} (h:bs.take 60=frB kind ep seq lba n body) (hn:body.length=n) (he:0≤ep∧ep≤4294967295) (hs:0≤seq∧seq≤1099511627776) (hl:0≤lba∧lba≤1048576):frD bs=⟨kind,ep,seq,lba,n,body⟩:=by
 have hb:bs=frB kind ep seq lba n body++bs.drop 60:=by rw[←h,List.take_append_drop]
 obtain⟨D,hD⟩:=nC (bs.drop 60);rw[hD] at hb;have p4:=aGx (l:=bs) (a:=[kind,(n:Int)]) (b:=leB 4 ep) (c:=leB 8 seq++(leB 4 lba++(body++(List.replicate (42 - n) 0++D)))) (by rw[hb];simp[frB,frA]) rfl (aAv 4 ep);have p8:=aGx (l:=bs) (i:=6) (a:=[kind,(n:Int)]++leB 4 ep) (b:=leB 8 seq) (c:=leB 4 lba++(body++(List.replicate (42 - n) 0++D))) (by rw[hb];simp[frB,frA]) (by simp[aAv]) (aAv 8 seq);have p14:=aGx (l:=bs) (i:=14) (a:=[kind,(n:Int)]++leB 4 ep++leB 8 seq) (b:=leB 4 lba) (c:=body++(List.replicate (42 - n) 0++D)) (by rw[hb];simp[frB,frA]) (by simp[aAv]) (aAv 4 lba);have p18:=aGx (l:=bs) (i:=18) (a:=[kind,(n:Int)]++leB 4 ep++leB 8 seq++leB 4 lba) (b:=body) (c:=List.replicate (42 - n) 0++D) (by rw[hb];simp[frB,frA]) (by simp[aAv]) hn;have g0:bs.getD 0 0=kind:=by rw[hb];simp[frB,frA]
 have g1:bs.getD 1 0=(n:Int):=by rw[hb];simp[frB,frA]
 unfold frD
 rw[g0,g1,show ([kind,(n:Int)]:List Int).length=2 from rfl] at *;rw[Int.toNat_natCast,p4,p8,p14,p18,bFq he,bFr hs,bFq (by omega)]
def Uw (bs:List Int):Nat→Int
 | 0=>Um (bs.take 8)
 | n+1=>Uw bs n+Um ((bs.drop (9+2*n)).take 2)
theorem aIb {bs:List Int} (ys:List Int):∀n,9+2*n≤bs.length→Uw (bs++ys) n=Uw bs n
 | 0,h=>by unfold Uw;rw[List.take_append_of_le_length (by omega)]
 | n+1,h=>by
   have ih:=aIb (bs:=bs) ys n (by omega);unfold Uw
   rw[ih,List.drop_append_of_le_length (by omega),List.take_append_of_le_length (by rw[rN];omega)]
def aTg (b:List Int):Prop:=(frD b).kind=1∧(frD b).lba<258∧(frD b).body.length=40
def aDi (T:Nat) (b:List Int):Prop:=aTg b∨(frD b).kind=2∧∀n,(frD b).body.length=9+3*n→Uw (frD b).body n≤(T:Int)
theorem aZj {bs:List Int} {ep seq lba:Int} {body:List Int} (h:bs.take 60=frB 1 ep seq lba 40 body) (hn:body.length=40) (he:0≤ep∧ep≤4294967295) (hs:0≤seq∧seq≤1099511627776) (hl:0≤lba∧lba≤1048576) (h2:lba<258):aTg bs:=by
 have e:=aOa h hn he hs hl;exact⟨by rw[e],by rw[e];exact h2,by rw[e];exact hn⟩
theorem aMb {T:Nat} {bs:List Int} {ep seq lba:Int} {n m:Nat} {body:List Int} (h:bs.take 60=frB 2 ep seq lba n body) (hn:body.length=n) (he:0≤ep∧ep≤4294967295) (hs:0≤seq∧seq≤1099511627776) (hl:0≤lba∧lba≤1048576) (hm:body.length=9+3*m) (h2:Uw body m≤(T:Int)):aDi T bs:=by
 have e:=aOa h hn he hs hl
 exact .inr ⟨by rw[e],fun k hk=>by
  rw[e] at hk ⊢;have hk:body.length=9+3*k:=hk;obtain rfl:k=m:=by omega
  exact h2⟩
theorem aBt {w:World} {ad:Addr} {m c:Nat} {bs:List Int} (h:IsB w (some ad) m c bs) {k:Nat} (hk:k<m):∃x,bs[k]? =some x∧(0≤x∧x<256)∧∀w',nD w w'→w'.cell? (ad.add k)=some (.int .u8 x):=by
 have hl:k<bs.length:=by rw[h.len];exact hk
 refine⟨bs[k],tX hl,h.wf _ (rC _),fun w' hb=>?_⟩;obtain⟨ad',e,_,c1⟩:=(h.next hb).rd.get (k:=k) (by rw[rU];exact hl);injection e with e;subst e;rw[rV] at c1;exact c1
def aXl (e:Ending):Prop:=∃b,e=.returned (.bool b)
theorem aIz (A:Option Addr) (m c:Nat) (bs:List Int) (A':Option Addr) (m' c':Nat) (bs':List Int) (w:World) (h:IsB w A m c bs) (h':IsB w A' m' c' bs') (hm:m≤1000000) :
  Calls prog 198 #[.slice A m c,.slice A' m' c'] w fun e w'=>aXl e∧nD w w':=by
 by_cases hne:m=m'
 · subst hne;have H:=nH h h' hm;clear h h' hm;go_enter func198,ntmps198
   go_wp2_with fail
   go_loopw [13] (fun iv wr=>∃k:Nat,k≤m∧iv=.int .i64 (k:Int)∧Hid (nD w wr)) (fun iv _=>m - (intOf iv).toNat)
   case atStart=>exact⟨0,zL,rfl,hid nB⟩
   case round =>
    obtain⟨k,hk,rfl,HB⟩:=hrel;by_cases hlt:k<m
    · obtain⟨ad,eA,_⟩:=H.o.1.rd (by rw[rU,H.o.1.len];omega);obtain⟨ad',eA',_⟩:=H.o.2.1.rd (by rw[rU,H.o.2.1.len];omega);subst eA eA';obtain⟨x,_,hx,cx⟩:=aBt (H.o.1.next HB.o) hlt;obtain⟨y,_,hy,cy⟩:=aBt (H.o.2.1.next HB.o) hlt;have n0:(k:Int)<(m:Int):=by omega
      have n1:(0:Int)≤(k:Int):=by omega
      have m2:wrap64 ((k:Int)+1)=(k:Int)+1:=by unfold wrap64;have:=H.o.2.2;omega
      have KK:=hid (fun (w':World) (hS:nD wr w')=>nS (cx w' hS) (cy w' hS));have HL:=hid hlt;clear cx cy hx hy hlt;by_cases hxy:x=y
      · subst hxy;go_wp2_with fail
        have Kq:=KK;refine wp_region_held_drew (S:=fun w'=>nD wr w') (by kernel_rfl) (Xu nB) (fun nE=>?_);refine kF 0 ?_;refine kF 1 ?_;refine kF 2 ?_;refine kF 3 ?_;refine kF 4 ?_;refine kF 5 ?_;refine kF 6 ?_;refine kF 7 ?_;refine kF 8 ?_;refine wpAnyH_done (by kernel_rfl) ?_ _;clear Kq;have HE:=hid (HB.o.trans ((Xu (Below.refl wr.heap.size wr)).mono HB.o.size));go_wp2_with fail
        go_roundw
        case rel=>exact⟨k+1,HL.o,Va (by first|rfl|exact m2),HE⟩
        case measure=>(first|exact Xw (x:=(k:Int)+1) HL.o rfl|(rw[m2];exact Xw (x:=(k:Int)+1) HL.o rfl))
      · have bxy:(x !=y)=true:=bne_iff_ne.2 hxy;clear hxy;go_wp2_with fail
        have Kq:=KK;refine wp_region_held_drew (S:=fun w'=>nD wr w') (by kernel_rfl) (Xu nB) (fun nE=>?_);refine kF 0 ?_;refine kF 1 ?_;refine kF 2 ?_;refine kF 3 ?_;refine kF 4 ?_;refine kF 5 ?_;refine kF 6 ?_;refine kF 7 ?_;refine kF 8 ?_;refine wpAnyH_done (by kernel_rfl) ?_ _;clear Kq;have HE:=hid (HB.o.trans ((Xu (Below.refl wr.heap.size wr)).mono HB.o.size));go_wp2_with fail
        go_ret;exact⟨⟨_,rfl⟩,HE.o⟩
    · obtain rfl:k=m:=by omega
      have n0:¬((k:Int)<(k:Int)):=by omega
      go_wp2_with fail
      go_ret;exact⟨⟨_,rfl⟩,HB.o⟩
 · have n0:¬((m:Int)=(m':Int)):=by omega
   clear h h';go_enter func198,ntmps198
   go_wp2_with fail
   go_ret;exact⟨⟨_,rfl⟩,nB⟩
theorem aJr (n a z:Int) (w:World) (h:¬(a≤n∧n≤z)):Calls prog 219 #[.int .i64 n,.int .i64 a,.int .i64 z] w fun e w'=>e=.returned (.bool false)∧w=w' :=
 (aIf n a z w).mono fun e w' h2=>by
  have:(decide (a≤n)&&decide (n≤z))=false:=by rw[←Bool.decide_and];exact rY h
  rw[this] at h2;exact⟨h2.1,h2.2.symm⟩
theorem aRh (kind ep seq lba:Int) (A:Option Addr) (n c:Nat) (w:World) (h:¬(1≤kind∧kind≤4)∨¬(0≤lba∧lba≤1048576)) (he:0≤ep∧ep≤4294967295) (hs:0≤seq∧seq≤1099511627776) :
  Calls prog 164 #[.agg #[.int .i64 kind,.int .i64 ep,.int .i64 seq,.int .i64 lba,.slice A n c]] w fun e w'=>e=.returned (.tuple #[.slice none 0 0,.int .i64 1])∧nD w w':=by
 obtain⟨g1,w1,hzw1,hw1,Bw1,bw1⟩:=Xy w 258 [.int .i64 kind,.int .i64 ep,.int .i64 seq,.int .i64 lba,.slice A n c];obtain⟨c0,c1,c2,c3,c4⟩:=Bw1.c5;have HB:=nH bw1 he hs;clear Bw1 bw1 he hs;by_cases hk:1≤kind∧kind≤4
 · have hl:=h.resolve_left (fun q=>q hk);have HL:=nF hk hl;clear h hk hl;go_enter func164,ntmps164
   go_wp2_with fail
   refine(aBc _ _ _ _ HL.o.1.1 HL.o.1.2).mono ?_;rintro e w' ⟨rfl,rfl⟩;go_wp2_with fail
   refine(aBc _ _ _ _ HB.o.2.1.1 HB.o.2.1.2).mono ?_;rintro e w' ⟨rfl,rfl⟩;go_wp2_with fail
   refine(aBc _ _ _ _ HB.o.2.2.1 HB.o.2.2.2).mono ?_;rintro e w' ⟨rfl,rfl⟩;go_wp2_with fail
   refine(aJr _ _ _ _ HL.o.2).mono ?_;rintro e w' ⟨rfl,rfl⟩;go_wp2_with fail
   go_ret2
   exact⟨rfl,HB.o.1⟩
 · have HK:=hid hk;clear h hk;go_enter func164,ntmps164
   go_wp2_with fail
   refine(aJr _ _ _ _ HK.o).mono ?_;rintro e w' ⟨rfl,rfl⟩;go_wp2_with fail
   go_ret2
   exact⟨rfl,HB.o.1⟩
end Go.Proofs.YtdhlicgaalnmoaaGreatDoor.Tp
