/- Contracts of the program's functions, and laws on memory: a part of the proof of TopAlone. -/
import Derived.Test.YtdhlicgaalnmoaaGreatDoorZJ
set_option linter.unusedSimpArgs false
set_option linter.unusedVariables false
namespace Go.Proofs.YtdhlicgaalnmoaaGreatDoor.Tp
open Lib (hid)
open Tryz
open Go.RowKit Go.Maps
set_option maxHeartbeats 8000000
set_option maxRecDepth 100000
theorem Us.kf {w wr w9:World} {m:MS} {pv:Value} {ts:List TxD} {k:Nat} {G:Xt} (h:Us w wr m pv ts k) (kf:Kf G wr w9) (hG:∀b,G b→b<w.heap.size):Us w w9 m pv ts k:=by
 have ag:Ag (fun b=>w.heap.size≤b) wr w9:=kf.ag (fun b q r=>by have:=hG b r;omega);exact⟨Vj h.own ag (fun b q=>Xv h.own q),fun x hx=>⟨(h.y x hx).1,(h.y x hx).2.ag ag (fun b q=>Xv (h.y x hx).2.own q)⟩,h.at_,h.len⟩
theorem aPz {w:World} {B e s n q:Nat} {v:Value} {xs:List Value} (e':n=q) (h:w.ownsRow B e s v n xs):w.ownsRow B e s v q xs:=e'▸h
theorem aVn {x:TxD} {T:Nat} (e:x.time=(T:Int)) (h:OkT x):OkT ⟨(T:Int),x.A,x.n,x.c,x.ps⟩:=by rw[←e];exact h
theorem aHf {N n k:Nat} (h:N+16*n≤100000) (hk:k<n):N+16*(k+1)≤100000∧N+16*k+16≤100000:=by omega
def Uq (m:MS) (ok:Bool) (k:Nat):MS:={m.pops ok k with queue:=m.queue}
def aCm (m:MS) (ok:Bool) (n:Nat):MS:=if ok then {m.pops true n with num:=m.num+1} else m.pops false n
structure DoL (w5 wr:World) (F:Xt) (mb gm kb am:Nat) (qv:Value) (n:Nat) (m:MS) (es:List TE) (N R:Nat) (ok:Bool) (k:Nat):Prop where
 man:∃Fk Ftk,Vl wr Fk Ftk mb gm kb am qv n (Uq m ok k) es (N+16*k) R∧Sb w5 F Fk∧In wr Fk
 kf:Kf F w5 wr
section
variable {w5 wr w6 w7 w8:World} {F:Xt} {mb gm kb am:Nat} {qv:Value} {n:Nat} {m:MS} {es:List TE} {N R k i:Nat} {ok:Bool} {t:TX}
theorem aEo (g:Vq m) (hi:m.queue[k]? =some i) (h:m.txs[i]? =some t):(Uq m ok k).txs[i]? =some t∧t.st=2∧(Uq m ok k).last≤t.time∧Uq m ok (k+1)={(Uq m ok k).put i (t.done ok) with last:=if ok then t.time else (Uq m ok k).last}:=by
 obtain⟨t',h1,h2,h3,h4,h5⟩:=aSg g ok hi;rw[h] at h1;injection h1 with h1;subst h1;refine⟨h2,h3,h4,?_⟩;unfold Uq
 rw[h5];rfl
theorem Kf.then {F Fk:Xt} (h:Kf F w5 wr) (k:Kf Fk wr w6) (hs:Sb w5 F Fk):Kf F w5 w6:=h.trans k hs
theorem Sb.then {F Fk G:Xt} (hs:Sb w5 F Fk) (h:Sb wr Fk G) (hz:w5.heap.size≤wr.heap.size):Sb w5 F G:=fun b q=>(h b q).elim (hs b) (fun r=>.inr (tK hz r))
theorem DoL.no {Fk:Xt} {Ftk:Nat→Xt} (g:Vq m) (hi:m.queue[k]? =some i) (ht:m.txs[i]? =some t) (kf:Kf F w5 wr) (hs:Sb w5 F Fk) (h:Vl w6 Fk Ftk mb gm kb am qv n ((Uq m false k).put i {t with st:=4,time:=0}) es (N+16*k) R) (k6:Kf Fk wr w6) (hb:N+16*(k+1)≤100000) (hR:R≤100000):DoL w5 w6 F mb gm kb am qv n m es N R false (k+1):=by
 obtain⟨_,_,_,e⟩:=aEo (ok:=false) g hi ht;refine⟨⟨Fk,Ftk,?_,hs,h.fam.lt⟩,kf.then k6 hs⟩;rw[e];exact h.up (by omega) hb lR hR
theorem DoL.yes {Fk Fe:Xt} {Fte:Nat→Xt} (g:Vq m) (hi:m.queue[k]? =some i) (ht:m.txs[i]? =some t) (kf:Kf F w5 wr) (hs:Sb w5 F Fk) (kk:Kf Fk wr w7) (hsb:Sb wr Fk Fe) (h:Vl w8 Fe Fte mb gm kb am qv n ({Uq m true k with last:=t.time}.put i {t with st:=3,time:=t.time}) es (N+16*k+16) R) (k8:Kf Fe w7 w8):DoL w5 w8 F mb gm kb am qv n m es N R true (k+1):=by
 obtain⟨_,_,_,e⟩:=aEo (ok:=true) g hi ht;refine⟨⟨Fe,Fte,?_,hs.then hsb kf.size,h.fam.lt⟩,(kf.then kk hs).then k8 (hs.then hsb kf.size)⟩;rw[e];exact h
end
theorem aEy {w5 wr w9 w10:World} {F:Xt} {mb gm kb am:Nat} {qv v9:Value} {n q:Nat} {m m':MS} {es:List TE} {N R:Nat} {Fk:Xt} {Ftk:Nat→Xt} (h:Vl wr Fk Ftk mb gm kb am qv n m es N R) (hx:Kf F w5 wr∧Sb w5 F Fk∧m'={m with queue:=m.queue.drop n}∧m'.queue.length=q)
  (ho:w9.ownsRow wr.drew.heap.size 3 1 v9 q ((m.queue.drop n).map aCp)) (hb:Below wr.drew.heap.size wr.drew w9) (h9:Bk w9 mb 166 (Vp gm kb am qv n m)) (e:w9.setCell ⟨mb,3,none⟩ v9=w10) :
  (∀w11,w10.setCell ⟨mb,4,none⟩ (.int .i64 0)=w11→∃F' Ft' qv',Vl w11 F' Ft' mb gm kb am qv' 0 m' es N R∧Kf F w5 w11∧Sb w5 F F'∧In w11 F')∧Bk w10 mb 166 (Vp gm kb am v9 n m)∧True:=by
 obtain⟨hk,hs,rfl,hq⟩:=hx;have b10:Bk w10 mb 166 (Vp gm kb am v9 n m):=by rw[←e];exact h9.set 3 v9
 refine⟨fun w11 e11=>?_,b10,trivial⟩;have hb9:nD wr w9:=(Xu nB).trans hb;have h9':=h.next hb9;have b11:Bk w11 mb 166 (Vp gm kb am v9 0 {m with queue:=m.queue.drop n}):=by rw[←e11];exact b10.set 4 (.int .i64 0)
 have k9:Kf (fun b=>b=mb) w9 w11:=by rw[←e11,←e];exact((Kf.refl (fun b=>b=mb) w9).set h9 (by decide) (.inl rfl) 3 _).set (by rw[e];exact b10) (by decide) (.inl rfl) 4 _
 have kr:Kf (Ftk 0) wr w11:=(Kf.of_below (F:=Ftk 0) hb9).trans (G:=Ftk 0) (k9.mono (fun b q=>by have q:b=mb:=q;rw[q];exact h.f0)) (fun b q=>.inl q);have hz:wr.drew.heap.size=wr.heap.size:=rfl;have hlt:mb<wr.heap.size:=h.bx.lt;have hne:v9.ownBlock≠some mb:=fun r=>by have:=Xv ho r;omega
 have hG:Sb wr (Ftk 0) (orF (Ftk 0) (fun b=>v9.ownBlock=some b)):=Sb.or (fun b r=>.inr (Xv ho r))
 have hi:In w11 (orF (Ftk 0) (fun b=>v9.ownBlock=some b)):=fun b r=>by
  rcases r with r|r
  · exact tL (h.fam.inn 0 b r) kr.size
  · obtain⟨_,_,hh⟩:=Vx ho r;exact tL (Vz hh) k9.size
 have hall:IM w11 prog 3 am es.length (Km es):=h9'.all.ag (F:=fun b=>b=am) (k9.ag (fun b q s=>by have q:b=am:=q;have s:b=mb:=s;exact h.am_ne (s.symm.trans q))) rfl
 have ho':w11.ownsRow 0 3 1 v9 (m.queue.drop n).length ((m.queue.drop n).map aCp):=by
  have:=Vj (F:=fun b=>b≠mb) (ownsRow_base_a ho zL) (k9.ag (fun b q s=>q s)) (fun g q s=>hne (s▸q));rw[←hq] at this;exact this
 obtain⟨g1,g2,g3,g4⟩:=h.row kr hG hi (fun b q=>.inl q) hall {m with queue:=m.queue.drop n} 0 b11 ho' (fun b q=>.inr q) rfl lR;exact⟨_,_,v9,g1,hk.then g2 hs,hs.then g3 hk.size,g4⟩
theorem aCl (A:Option Addr) (n c:Nat) (xs:List Value) (w:World) (hl:xs.length=n*1) (h:Rd w w.heap.size A xs) (h1:∀u∈xs,u.oneCell'=true) (hn:n≤100000) :
  Calls prog 112 #[.slice A n c] w fun e w'=>(∃v,e=.returned v∧w'.ownsRow w.heap.size 3 1 v n xs)∧nD w w':=by
 obtain⟨xi,xz,hxi,hxz,hx5,hx56,hxc⟩:=bBr;have q:∀(w:World) (a:Option Addr) (n c n' c':Nat),(binOp .eql 23 (.slice a n c) (.slice none n' c')).run prog w=.ok (.bool a.isNone) w:=fun w a n c n' c'=>Lib.run_eql_slice_nil w _ _ a n c n' c' underlying23
 cases A with
 | none =>
   have hx:xs=[]:=by
    rcases tP xs.length with e|e
    · exact List.length_eq_zero_iff.1 e
    · obtain⟨_,e,_⟩:=h e;cases e
   subst hx;have hn0:n=0:=by simp at hl;omega
   subst hn0;clear h hn hl h1;go_enter func112,ntmps112
   go_wp2_with fail
   go_ret;exact⟨⟨_,rfl,rfl,.inl ⟨rfl,rfl⟩⟩,nB⟩
 | some ad =>
   have HR:=nF h h1;have HN:=hid hn;clear h hn h1;go_enter func112,ntmps112
   go_wp2_with (at_builtin;go_must (refine aAa _ rfl _ _ 23 rfl w.heap.size 3 xi xz 1 8 underlying23 hxi hxz hx5 hx56 hxc (by omega) _ 0 [] (by rfl) (by exact World.ownsRow_lit w #[] 0 lR (by decide) rfl) w.heap.size (some ad) n c xs (by rfl) (by exact hl) (by exact HR.o.1.alloc lR _) HR.o.2 (by have:=HN.o;omega) (by have:=HN.o;omega) (by simp) ?_);intro v1 w1 hO1 hG1 hv1)
   have HB:nD w w1:=(nB.alloc lR _).grown hG1 (by simp) (fun g hg=>tO (rT (show some w.heap.size=some g from hg)));have HE:=hid (show w1.ownsRow w.heap.size 3 1 v1 n xs from by simpa using hO1);clear hO1 hG1 hv1;go_ret;exact⟨⟨v1,rfl,HE.o⟩,HB⟩
theorem aTb {n:Nat} (h:n≤1000000):wrap64 ((n:Int)+1)=(n:Int)+1:=by unfold wrap64;omega
theorem aPb {n:Nat} (h:n≤1000000):IntKind.i64.wrap ((n:Int)+1)=(n:Int)+1:=IntWalk.i64_in _ (by omega)
theorem aJm {k n:Nat} (h:k<n) (hn:n≤100000):(k:Int)<(n:Int)∧(0:Int)≤(k:Int)∧wrap64 ((k:Int)+1)=(k:Int)+1:=⟨by omega,by omega,by unfold wrap64;omega⟩
theorem aHg {w w5 wr:World} {F:Xt} {Ft:Nat→Xt} {mb gm kb am n k hc:Nat} {qv:Value} {m:MS} {es:List TE} {N R:Nat} {ok:Bool} {hA:Option Addr} (hX:Vl w F Ft mb gm kb am qv n m es N R) (g:Vq m) (hl:es.length≤100000) (hn:n≤m.queue.length) (hlt:k<n)
  (hrow:w5.ownsRow w.heap.size 3 1 (.slice hA n hc) n ((m.queue.map aCp).take n)) (h:DoL w5 wr F mb gm kb am qv n m es N R ok k) :
  ∃i t Fk Ftk y adh,m.queue[k]? =some i∧m.txs[i]? =some t∧Vl wr Fk Ftk mb gm kb am qv n (Uq m ok k) es (N+16*k) R∧Sb w5 F Fk∧Kf F w5 wr∧(Uq m ok k).txs[i]? =some t∧(Uq m ok k).last≤t.time∧es[i]? =some y∧i≤1000000∧hA=some adh∧wr.cell? (adh.add k)=some (.int .i64 ((i:Int)+1)):=by
 obtain⟨i,hi⟩:∃i,m.queue[k]? =some i:=⟨_,tX (by omega)⟩
 obtain⟨t,ht,_⟩:=g.que i (tZ hi);obtain⟨⟨Fk,Ftk,hmk,hsb,hin⟩,hkf⟩:=h;obtain⟨e1,e2,e3,e4⟩:=aEo (ok:=ok) g hi ht;obtain⟨y,hy⟩:=aHh hmk e1;have hr:=Vj (F:=fun b=>w.heap.size≤b) hrow (hkf.ag (fun b q r=>by have:=hX.fam.lt b r;omega)) (fun g q=>Xv hrow q);obtain⟨adh,eH,hadh,ch⟩:=(Ve hr).get (k:=k) (by have:=hr.1;omega);refine⟨i,t,Fk,Ftk,y,adh,hi,ht,hmk,hsb,hkf,e1,e3,hy,by have:=Vi hy;omega,eH,?_⟩;rw[ch,List.getElem_take,rV];have:=(rB.1 hi).2;rw[this];rfl
theorem aYh {w w5 wr:World} {F Fk:Xt} {Ft Ftk:Nat→Xt} {mb gm kb am n k q tc i:Nat} {qv:Value} {m:MS} {es:List TE} {N N' R:Nat} {tA:Option Addr} {ts:List TxD} {t:TX} {m2:MS} (hX:Vl w F Ft mb gm kb am qv n m es N R) (g:Vq m) (hq:m.queue.length=q) (hn:n≤m.queue.length) (hlt:k<n)
  (h5:Us w w5 m (.slice tA q tc) ts q) (hkf:Kf F w5 wr) (hmk:Vl wr Fk Ftk mb gm kb am qv n m2 es N' R) (hsb:Sb w5 F Fk) (hi:m.queue[k]? =some i) (ht:m.txs[i]? =some t) :
  ∃(x:TxD) (adt:Addr),tA=some adt∧wr.cell? (adt.add (k*2))=some (.int .i64 (t.time:Int))∧wr.cell? ⟨(adt.add (k*2)).block,(adt.add (k*2)).off+1,none⟩=some (.slice x.A x.n x.c)∧adt.block<wr.heap.size∧Uh wr x.A x.n x.c x.ps∧OkT ⟨(t.time:Int),x.A,x.n,x.c,x.ps⟩∧(∀ad,x.A=some ad→¬Ftk 1 ad.block)∧
   ∀w0 w7,nD wr w0→Kf (Ftk 1) w0 w7→w7.cell? (adt.add (k*2))=some (.int .i64 (t.time:Int)):=by
 have hwl:=h5.kf hkf hX.fam.lt;have hkq:k<ts.length:=by rw[hwl.len];omega
 obtain⟨x,hx⟩:∃x,ts[k]? =some x:=⟨_,tX hkq⟩
 have hxm:=tZ hx;have hxt:=(hwl.at_ k i t x hi ht hx).1;have hx':ts[k]=x:=(rB.1 hx).2;obtain⟨adt,eT,hadt,e0,e1⟩:=Vk aAu hwl.is.rd (k:=k) hkq (u:=.int .i64 (t.time:Int)) (v:=.slice x.A x.n x.c) (by rw[hx',←hxt];rfl)
 have hnF:∀b,w.heap.size≤b→b<w5.heap.size→¬Ftk 1 b:=fun b q1 q2 r=>by
  rcases hsb b (hmk.fam.sub 1 b r) with s|s
  · have:=hX.fam.lt b s;omega
  · omega
 refine⟨x,adt,eT,e0,e1,hadt,hwl.ps x hxm,aVn hxt ((Us.wait (by rw[hq];exact hwl)).ok g x hxm),fun ad q=>?_,fun w0 w7 hb k7=>?_⟩
 · have h5:=(h5.y x hxm).2.own;obtain⟨_,_,hh⟩:=Vx (g:=ad.block) h5 (by rw[q];rfl);exact hnF _ (Xv (g:=ad.block) h5 (by rw[q];rfl)) (Vz hh)
 · have hw0:=hwl.next hb;have ho7:=Vj (F:=fun b=>w.heap.size≤b∧b<w5.heap.size) hw0.own (k7.ag (fun b q r=>hnF b q.1 q.2 r)) (fun g q=>⟨Xv hwl.own q,by obtain⟨_,_,hh⟩:=Vx h5.own q;exact Vz hh⟩);rw[eT] at ho7;obtain⟨ad',e',_,c',_⟩:=Vk aAu (Ve ho7) (k:=k) hkq (u:=.int .i64 (t.time:Int)) (v:=.slice x.A x.n x.c) (by rw[hx',←hxt];rfl);injection e' with e';subst e';exact c'
theorem aNx {wr w0 w7 w8:World} {Fk G:Xt} {Ftk:Nat→Xt} {mb gm kb am n k i:Nat} {qv:Value} {m:MS} {es:List TE} {N R:Nat} {el:Int} {t:TX} {y:TE} (hmk:Vl w0 Fk Ftk mb gm kb am qv n (Uq m true k) es (N+16*k) R) (hb:nD wr w0) (hG:Kn w7 G gm (N+16*k+16) el) (hk7:Kf (Ftk 1) w0 w7) (hsb:Sb w0 (Ftk 1) G) (hin:In w7 G) (hT:el≤(t.time:Int)) (e:w7.setCell ⟨mb,7,none⟩ (.int .i64 (t.time:Int))=w8) (e1:(Uq m true k).txs[i]? =some t) (hy:es[i]? =some y) (hi:i≤1000000) :
  Bk w7 mb 166 (Vp gm kb am qv n (Uq m true k))∧∃Fe Fte,Vl w8 Fe Fte mb gm kb am qv n {Uq m true k with last:=t.time} es (N+16*k+16) R∧Kf Fk wr w8∧Sb wr Fk Fe∧Calls prog 95 #[.pointer (some ⟨mb,0,none⟩),.int .i64 ((i:Int)+1),.int .i64 3,.int .i64 0] w8 fun e w'=>e=.returned (.tuple #[])∧Vl w' Fe Fte mb gm kb am qv n ({Uq m true k with last:=t.time}.put i {t with st:=3,time:=t.time}) es (N+16*k+16) R∧Kf Fe w8 w':=by
 obtain⟨Fe,Fte,h1,h2,h3,_⟩:=hmk.taken hk7 hsb hin hG hT e.symm;refine⟨Bk.ag hmk.bx (hmk.fam.ag hk7 (by decide:(0:Nat)≠1)) hmk.f0,Fe,Fte,h1,(Kf.of_below (F:=Fk) hb).trans h2 (fun b q=>.inl q),fun b q=>(h3 b q).imp id (tK hb.size),?_⟩;have he:=aDm Fe Fte mb gm kb am qv n {Uq m true k with last:=t.time} es (N+16*k+16) R i 3 3 0 t y w8 h1 e1 hy hi rfl (fun _=>rfl);rw[if_neg (by decide)] at he;exact he
theorem aLo {m:MS} (g:Vq m) {n:Nat} (hn:n≤m.queue.length):aCm m false n={Uq m false n with queue:=(Uq m false n).queue.drop n}:=by
 have:=aCx false n m g hn;show m.pops false n={m.pops false n with queue:=m.queue.drop n}
 rw[←this]
theorem aIx {m:MS} (g:Vq m) {n:Nat} (hn:n≤m.queue.length):aCm m true n={({Uq m true n with num:=m.num+1}:MS) with queue:=({Uq m true n with num:=m.num+1}:MS).queue.drop n}:=by
 have:=aCx true n m g hn;show {m.pops true n with num:=m.num+1}={({m.pops true n with num:=m.num+1}:MS) with queue:=m.queue.drop n}
 rw[←this]
theorem aIy {wr:World} {mb gm kb am n q qc:Nat} {qA:Option Addr} {m M:MS} {es:List TE} {N R:Nat} {Fk:Xt} {Ftk:Nat→Xt} (h:Vl wr Fk Ftk mb gm kb am (.slice qA q qc) n M es N R) (e:M.queue=m.queue) (hq:m.queue.length=q) (hn:n≤m.queue.length) (hql:m.queue.length≤100000) (hc:m.queue.length≤qc) :
  ((m.queue.drop n).map aCp).length=(q - n)*1∧Rd wr.drew wr.drew.heap.size (if qc=n then qA else qA.map (·.add n)) ((m.queue.drop n).map aCp)∧(∀u∈(m.queue.drop n).map aCp,u.oneCell'=true)∧q - n≤100000:=by
 have ho:=h.own;rw[e] at ho;refine⟨by rw[rU,rN];omega,?_,fun u hu=>by obtain⟨i,_,rfl⟩:=List.mem_map.1 hu;rfl,by omega⟩;rw[List.map_drop];have:=(Ve (aPz hq ho)).drop (k:=n) (c:=qc) (n:=q) (by rw[rU,hq]) (by omega) (by omega);exact this
def aLm (w w':World) (F:Xt) (mb gm kb am:Nat) (m':MS) (es:List TE) (N R:Nat):Prop:=∃F' Ft' qv',Vl w' F' Ft' mb gm kb am qv' 0 m' es N R∧Kf F w w'∧Sb w F F'∧In w' F'
theorem aEz {w w5 w11:World} {F:Xt} {mb gm kb am:Nat} {m':MS} {es:List TE} {N R:Nat} (hb:nD w w5) (h:∃F' Ft' qv',Vl w11 F' Ft' mb gm kb am qv' 0 m' es N R∧Kf F w5 w11∧Sb w5 F F'∧In w11 F'):aLm w w11 F mb gm kb am m' es N R:=by
 obtain⟨F',Ft',qv',g1,g2,g3,g4⟩:=h;exact⟨F',Ft',qv',g1,(Kf.of_below (F:=F) hb).trans g2 (fun b q=>.inl q),fun b q=>(g3 b q).imp id (tK hb.size),g4⟩
theorem aUg {wr w6:World} {mb gm kb am n:Nat} {qv:Value} {m:MS} {es:List TE} {N R:Nat} {Fk:Xt} {Ftk:Nat→Xt} (h:Vl wr Fk Ftk mb gm kb am qv n (Uq m true n) es N R) (e:wr.setCell ⟨mb,5,none⟩ (.int .i64 ((m.num:Int)+1))=w6):wr.cell? ⟨mb,5,none⟩=some (.int .i64 (m.num:Int))∧wr.frozen? ⟨mb,5,none⟩=false∧Vl w6 Fk Ftk mb gm kb am qv n {Uq m true n with num:=m.num+1} es N R∧Kf Fk wr w6:=by
 have hnum:(Uq m true n).num=m.num:=(aCo true n m).1;have c5:=(Xz h.bx).2.2.2.2.2.1;rw[hnum] at c5;have hb6:Bk w6 mb 166 (Vp gm kb am qv n {Uq m true n with num:=m.num+1}):=by rw[←e];exact h.bx.set 5 (.int .i64 ((m.num:Int)+1))
 have k6:Kf (fun b=>b=mb) wr w6:=by rw[←e];exact(Kf.refl (fun b=>b=mb) wr).set h.bx (by decide) (.inl rfl) 5 _
 obtain⟨g1,g2⟩:=h.cell k6 {Uq m true n with num:=m.num+1} n hb6 rfl rfl lR;exact⟨c5,h.bx.free 5,g1,g2⟩
structure DnH (w w5:World) (F:Xt) (Ft:Nat→Xt) (mb gm kb am n q qc hc tc:Nat) (qA hA tA:Option Addr) (m:MS) (es:List TE) (N R:Nat) (ts:List TxD):Prop where
 man:Vl w F Ft mb gm kb am (.slice qA q qc) n m es N R
 good:Vq m
 hl:es.length≤100000
 hql:m.queue.length≤100000
 hn:n≤m.queue.length
 hN:N+16*n≤100000
 hR:R≤100000
 hq:m.queue.length=q
 row:w5.ownsRow w.heap.size 3 1 (.slice hA n hc) n ((m.queue.map aCp).take n)
 wl:Us w w5 m (.slice tA q tc) ts q
def DNI (w5:World) (F:Xt) (mb gm kb am n q qc hc tc:Nat) (qA hA tA:Option Addr) (m:MS) (es:List TE) (N R:Nat) (code:Int) (ok:Bool) (c2 c3 c4 c8 c9 qB qM qX jC jK jL jM jN jO jP jQ jR jS jT jU jV jW jX jY jZ zB zC zD yO yP yQ yR yS yT yU yV yW yX yY yZ xB xC xD xE xF xG xH xI xJ xK xL xM xN:Value) (a:Act) (wr:World):Prop :=
 ∃u6 u7 pX pY pZ kB kC kG kH kI kJ kK kN kO kP kQ kT kU kV kW kX kZ hC hJ hU gA gB gC gD gE gF gG gH gI:Value,(∃k:Nat,k≤n∧pX=.int .i64 (k:Int)∧DoL w5 wr F mb gm kb am (.slice qA q qc) n m es N R ok k)∧a=⟨#[.pointer (some ⟨mb,0,none⟩),.int .i64 code,c2,c3,c4,.slice tA n tc,u6,u7,c8,c9,qB,qM,qX,jC,jK,jL,jM,jN,jO,jP,jQ,jR,jS,jT,jU,jV,jW,jX,jY,jZ,zB,zC,zD,.slice hA n hc,.int .i64 (n:Int),pX,pY,pZ,kB,kC,kG,kH,kI,kJ,kK,kN,kO,kP,kQ,kT,kU,kV,kW,kX,kZ,hC,hJ,hU,gA,gB,gC,gD,gE,gF,gG,gH,gI,yO,yP,yQ,yR,yS,yT,yU,yV,yW,yX,yY,yZ,xB,xC,xD,xE,xF,xG,xH,xI,xJ,xK,xL,xM,xN],[]⟩
theorem DNI.mk {w5 wr:World} {F:Xt} {mb gm kb am n q qc hc tc:Nat} {qA hA tA:Option Addr} {m:MS} {es:List TE} {N R:Nat} {code:Int} {ok:Bool} {c2 c3 c4 c8 c9 qB qM qX jC jK jL jM jN jO jP jQ jR jS jT jU jV jW jX jY jZ zB zC zD yO yP yQ yR yS yT yU yV yW yX yY yZ xB xC xD xE xF xG xH xI xJ xK xL xM xN:Value} {u6 u7 pX pY pZ kB kC kG kH kI kJ kK kN kO kP kQ kT kU kV kW kX kZ hC hJ hU gA gB gC gD gE gF gG gH gI:Value} (h:∃k:Nat,k≤n∧pX=.int .i64 (k:Int)∧DoL w5 wr F mb gm kb am (.slice qA q qc) n m es N R ok k):DNI w5 F mb gm kb am n q qc hc tc qA hA tA m es N R code ok c2 c3 c4 c8 c9 qB qM qX jC jK jL jM jN jO jP jQ jR jS jT jU jV jW jX jY jZ zB zC zD yO yP yQ yR yS yT yU yV yW yX yY yZ xB xC xD xE xF xG xH xI xJ xK xL xM xN ⟨#[.pointer (some ⟨mb,0,none⟩),.int .i64 code,c2,c3,c4,.slice tA n tc,u6,u7,c8,c9,qB,qM,qX,jC,jK,jL,jM,jN,jO,jP,jQ,jR,jS,jT,jU,jV,jW,jX,jY,jZ,zB,zC,zD,.slice hA n hc,.int .i64 (n:Int),pX,pY,pZ,kB,kC,kG,kH,kI,kJ,kK,kN,kO,kP,kQ,kT,kU,kV,kW,kX,kZ,hC,hJ,hU,gA,gB,gC,gD,gE,gF,gG,gH,gI,yO,yP,yQ,yR,yS,yT,yU,yV,yW,yX,yY,yZ,xB,xC,xD,xE,xF,xG,xH,xI,xJ,xK,xL,xM,xN],[]⟩ wr:=⟨u6,u7,pX,pY,pZ,kB,kC,kG,kH,kI,kJ,kK,kN,kO,kP,kQ,kT,kU,kV,kW,kX,kZ,hC,hJ,hU,gA,gB,gC,gD,gE,gF,gG,gH,gI,h,rfl⟩
def dmu (n:Nat) (a:Act) (_:World):Nat:=n - (intOf (a.tmps.getD 35 undef)).toNat
theorem aKa {n mb hc tc:Nat} {hA tA:Option Addr} {code:Int} {w:World} {x:Int} {c2 c3 c4 c8 c9 qB qM qX jC jK jL jM jN jO jP jQ jR jS jT jU jV jW jX jY jZ zB zC zD yO yP yQ yR yS yT yU yV yW yX yY yZ xB xC xD xE xF xG xH xI xJ xK xL xM xN u6 u7 pY pZ kB kC kG kH kI kJ kK kN kO kP kQ kT kU kV kW kX kZ hC hJ hU gA gB gC gD gE gF gG gH gI:Value}:dmu n ⟨#[.pointer (some ⟨mb,0,none⟩),.int .i64 code,c2,c3,c4,.slice tA n tc,u6,u7,c8,c9,qB,qM,qX,jC,jK,jL,jM,jN,jO,jP,jQ,jR,jS,jT,jU,jV,jW,jX,jY,jZ,zB,zC,zD,.slice hA n hc,.int .i64 (n:Int),.int .i64 x,pY,pZ,kB,kC,kG,kH,kI,kJ,kK,kN,kO,kP,kQ,kT,kU,kV,kW,kX,kZ,hC,hJ,hU,gA,gB,gC,gD,gE,gF,gG,gH,gI,yO,yP,yQ,yR,yS,yT,yU,yV,yW,yX,yY,yZ,xB,xC,xD,xE,xF,xG,xH,xI,xJ,xK,xL,xM,xN],[]⟩ w=n - x.toNat:=rfl
theorem bGj (w w5:World) (F:Xt) (Ft:Nat→Xt) (mb gm kb am n q qc hc tc:Nat) (qA hA tA:Option Addr) (m:MS) (es:List TE) (N R:Nat) (ts:List TxD) (code:Int) (wr:World) (k:Nat) (c2 c3 c4 c8 c9 qB qM qX jC jK jL jM jN jO jP jQ jR jS jT jU jV jW jX jY jZ zB zC zD yO yP yQ yR yS yT yU yV yW yX yY yZ xB xC xD xE xF xG xH xI xJ xK xL xM xN u6 u7 pY pZ kB kC kG kH kI kJ kK kN kO kP kQ kT kU kV kW kX kZ hC hJ hU gA gB gC gD gE gF gG gH gI:Value) (Q0:Exit→Act→World→Prop) (H:DnH w w5 F Ft mb gm kb am n q qc hc tc qA hA tA m es N R ts) (hcd:¬code=0) (hE:DoL w5 wr F mb gm kb am (.slice qA q qc) n m es N R false k) (hlt:k<n) :
  Code.wp prog (Ur Tryz.f52) (Exit.then (fun a' w''=>DNI w5 F mb gm kb am n q qc hc tc qA hA tA m es N R code false c2 c3 c4 c8 c9 qB qM qX jC jK jL jM jN jO jP jQ jR jS jT jU jV jW jX jY jZ zB zC zD yO yP yQ yR yS yT yU yV yW yX yY yZ xB xC xD xE xF xG xH xI xJ xK xL xM xN a' w''∧dmu n a' w'' <dmu n ⟨#[.pointer (some ⟨mb,0,none⟩),.int .i64 code,c2,c3,c4,.slice tA n tc,u6,u7,c8,c9,qB,qM,qX,jC,jK,jL,jM,jN,jO,jP,jQ,jR,jS,jT,jU,jV,jW,jX,jY,jZ,zB,zC,zD,.slice hA n hc,.int .i64 (n:Int),.int .i64 (k:Int),pY,pZ,kB,kC,kG,kH,kI,kJ,kK,kN,kO,kP,kQ,kT,kU,kV,kW,kX,kZ,hC,hJ,hU,gA,gB,gC,gD,gE,gF,gG,gH,gI,yO,yP,yQ,yR,yS,yT,yU,yV,yW,yX,yY,yZ,xB,xC,xD,xE,xF,xG,xH,xI,xJ,xK,xL,xM,xN],[]⟩ wr) Q0) ⟨#[.pointer (some ⟨mb,0,none⟩),.int .i64 code,c2,c3,c4,.slice tA n tc,u6,u7,c8,c9,qB,qM,qX,jC,jK,jL,jM,jN,jO,jP,jQ,jR,jS,jT,jU,jV,jW,jX,jY,jZ,zB,zC,zD,.slice hA n hc,.int .i64 (n:Int),.int .i64 (k:Int),pY,pZ,kB,kC,kG,kH,kI,kJ,kK,kN,kO,kP,kQ,kT,kU,kV,kW,kX,kZ,hC,hJ,hU,gA,gB,gC,gD,gE,gF,gG,gH,gI,yO,yP,yQ,yR,yS,yT,yU,yV,yW,yX,yY,yZ,xB,xC,xD,xE,xF,xG,xH,xI,xJ,xK,xL,xM,xN],[]⟩ wr:=by
 obtain⟨i,t,Fk,Ftk,y,adh,h1,h2,h3,h4,h5,h6,h7,h8,h9,rfl,ch2⟩:=aHg H.man H.good H.hl H.hn hlt H.row hE;obtain⟨n1,n2,m2⟩:=aJm hlt (tK H.hn H.hql);have he:=aDm Fk Ftk mb gm kb am (.slice qA q qc) n (Uq m false k) es (N+16*k) R i 4 4 code t y wr h3 h6 h8 h9 rfl (fun q=>by cases q);rw[if_pos rfl] at he;have H:=hid H;have HK:=nJ hlt h1 h2 h5 h4;have n3:(code==0)=false:=by simpa using hcd
 have n4:(code !=0)=true:=by simpa using hcd
 clear h1 h2 h3 h4 h5 h6 h7 h8 h9 hlt hcd hE;conv=>arg 2;whnf
 go_wp2_with fail
 refine he.mono ?_;rintro e w6 ⟨rfl,hm6,hk6⟩;have HE2:=hid (DoL.no H.o.good HK.o.2.1 HK.o.2.2.1 HK.o.2.2.2.1 HK.o.2.2.2.2 hm6 hk6 (aHf H.o.hN HK.o.1).1 H.o.hR);clear he hm6 hk6 n1 n2 ch2;go_wp2_with fail
 refine⟨?_,?_⟩
 · refine DNI.mk ?_;exact⟨k+1,HK.o.1,Va (by first|rfl|exact m2),HE2.o⟩
 · rw[aKa,aKa];exact Xw HK.o.1 (by first|rfl|exact m2)
theorem bDd (w w5:World) (F:Xt) (Ft:Nat→Xt) (mb gm kb am n q qc hc tc:Nat) (qA hA tA:Option Addr) (m:MS) (es:List TE) (N R:Nat) (ts:List TxD) (code:Int) (wr:World) (k:Nat) (c2 c3 c4 c8 c9 qB qM qX jC jK jL jM jN jO jP jQ jR jS jT jU jV jW jX jY jZ zB zC zD yO yP yQ yR yS yT yU yV yW yX yY yZ xB xC xD xE xF xG xH xI xJ xK xL xM xN u6 u7 pY pZ kB kC kG kH kI kJ kK kN kO kP kQ kT kU kV kW kX kZ hC hJ hU gA gB gC gD gE gF gG gH gI:Value) (Q0:Exit→Act→World→Prop) (hpan:∀c a d v w,Q0 (.panic c) (Act.put a d v) w→Q0 (.panic c) a w) (H:DnH w w5 F Ft mb gm kb am n q qc hc tc qA hA tA m es N R ts) (hcd:code=0) (hE:DoL w5 wr F mb gm kb am (.slice qA q qc) n m es N R true k) (hlt:k<n) :
  Code.wp prog (Ur Tryz.f52) (Exit.then (fun a' w''=>DNI w5 F mb gm kb am n q qc hc tc qA hA tA m es N R code true c2 c3 c4 c8 c9 qB qM qX jC jK jL jM jN jO jP jQ jR jS jT jU jV jW jX jY jZ zB zC zD yO yP yQ yR yS yT yU yV yW yX yY yZ xB xC xD xE xF xG xH xI xJ xK xL xM xN a' w''∧dmu n a' w'' <dmu n ⟨#[.pointer (some ⟨mb,0,none⟩),.int .i64 code,c2,c3,c4,.slice tA n tc,u6,u7,c8,c9,qB,qM,qX,jC,jK,jL,jM,jN,jO,jP,jQ,jR,jS,jT,jU,jV,jW,jX,jY,jZ,zB,zC,zD,.slice hA n hc,.int .i64 (n:Int),.int .i64 (k:Int),pY,pZ,kB,kC,kG,kH,kI,kJ,kK,kN,kO,kP,kQ,kT,kU,kV,kW,kX,kZ,hC,hJ,hU,gA,gB,gC,gD,gE,gF,gG,gH,gI,yO,yP,yQ,yR,yS,yT,yU,yV,yW,yX,yY,yZ,xB,xC,xD,xE,xF,xG,xH,xI,xJ,xK,xL,xM,xN],[]⟩ wr) Q0) ⟨#[.pointer (some ⟨mb,0,none⟩),.int .i64 code,c2,c3,c4,.slice tA n tc,u6,u7,c8,c9,qB,qM,qX,jC,jK,jL,jM,jN,jO,jP,jQ,jR,jS,jT,jU,jV,jW,jX,jY,jZ,zB,zC,zD,.slice hA n hc,.int .i64 (n:Int),.int .i64 (k:Int),pY,pZ,kB,kC,kG,kH,kI,kJ,kK,kN,kO,kP,kQ,kT,kU,kV,kW,kX,kZ,hC,hJ,hU,gA,gB,gC,gD,gE,gF,gG,gH,gI,yO,yP,yQ,yR,yS,yT,yU,yV,yW,yX,yY,yZ,xB,xC,xD,xE,xF,xG,xH,xI,xJ,xK,xL,xM,xN],[]⟩ wr:=by
 subst hcd;obtain⟨i,t,Fk,Ftk,y,adh,h1,h2,h3,h4,h5,h6,h7,h8,h9,rfl,ch2⟩:=aHg H.man H.good H.hl H.hn hlt H.row hE;obtain⟨n1,n2,m2⟩:=aJm hlt (tK H.hn H.hql);obtain⟨x,adt,rfl,e0,e1,hadt,x1,x2,x3,x4⟩:=aYh H.man H.good H.hq H.hn hlt H.wl h5 h3 h4 h1 h2;have H:=hid H;have HK:=nO hlt h1 h2 h3 h4 h5 h6 h7 h8 h9;have KD:=hid (fun (w':World) (hS:nD wr w')=>nT (Xz (h3.next hS).bx).1 ((hS.cell (p:=adt.add (k*2)) (by rw[aAk];exact hadt)).trans e0) ((hS.cell (p:=⟨(adt.add (k*2)).block,(adt.add (k*2)).off+1,none⟩) (by show (adt.add (k*2)).block<_;rw[aAk];exact hadt)).trans e1));have HM:=nI x1 x2 x3 x4;clear h1 h2 h3 h4 h5 h6 h7 h8 h9 hlt hE x1 x2 x3 x4 hadt;conv=>arg 2;whnf
 go_wp2_with fail
 have Kq:=KD;refine Vn (fun w'=>nD wr w') [8] (by kernel_rfl) (Xu nB) (fun nE=>?_);refine kR 0 ?_;refine kR 1 ?_;refine kR 2 ?_;refine kR 4 ?_;refine kR 5 ?_;refine kR 6 ?_;refine kM 3 ?_;refine kM 7 ?_;refine rM 8 (fun K hK=>?_);go_simp;have hmk2:=HK.o.2.2.2.1.next nE;obtain⟨el,hel,hele⟩:=hmk2.ext;refine(aIr (Ftk 1) gm (N+16*k) x.n x.c el (t.time:Int) x.A x.ps _ hel (hmk2.fam.inn 1) (tK (Nat.add_le_add_left HM.o.2.1.n.2 _) (aHf H.o.hN HK.o.1).2) (HM.o.1.next nE) HM.o.2.1.okL HM.o.2.2.1).mono ?_;rintro e w7 ⟨⟨r,rfl,_⟩,G,el2,hG0,hle2,hk7,hsb7,hin7⟩;have hG:=hG0.up (Nat.add_le_add_left HM.o.2.1.n.2 _) (aHf H.o.hN HK.o.1).2;have HEL:=hid (fun (q:(Uq m true k).last≤t.time)=>(hle2.elim (fun e=>e▸Int.le_trans hele (Int.ofNat_le.2 q)) (fun e=>Int.le_of_eq e):el2≤(t.time:Int)));have H7:=nK hmk2 hG hk7 hsb7 hin7 nE;clear hmk2 hel hele hle2 hG hG0 hk7 hsb7 hin7;go_simp;refine hK.out _ _ (fun h=>absurd (by decide) h) ?_;clear hK K;try simp only[Act.put,tC,tD,tE]
 refine Vs (by kernel_rfl) ?_ _;clear Kq;clear e0 e1;obtain⟨w8,hw8⟩:=nC (w7.setCell ⟨mb,7,none⟩ (.int .i64 (t.time:Int)));obtain⟨b7,Fe,Fte,t1,t2,t3,he⟩:=aNx H7.o.1 H7.o.2.2.2.2.2 H7.o.2.1 H7.o.2.2.1 H7.o.2.2.2.1 H7.o.2.2.2.2.1 (HEL.o HK.o.2.2.2.2.2.2.2.1) hw8 HK.o.2.2.2.2.2.2.1 HK.o.2.2.2.2.2.2.2.2.1 HK.o.2.2.2.2.2.2.2.2.2;have yR:=(Xz b7).2.2.2.2.2.2.2.1;have f70:=b7.free 7;have e7:=HM.o.2.2.2 _ w7 H7.o.2.2.2.2.2 H7.o.2.2.1;have HT:=nF t2 t3;clear b7 t1 t2 t3;go_wp2_with fail
 refine he.mono ?_;rintro e w9 ⟨rfl,hm9,hk9⟩;have HE2:=hid (DoL.yes H.o.good HK.o.2.1 HK.o.2.2.1 HK.o.2.2.2.2.2.1 HK.o.2.2.2.2.1 HT.o.1 HT.o.2 hm9 hk9);clear he hm9 hk9 n1 n2 ch2;go_wp2_with fail
 refine⟨?_,?_⟩
 · refine DNI.mk ?_;exact⟨k+1,HK.o.1,Va (by first|rfl|exact m2),HE2.o⟩
 · rw[aKa,aKa];exact Xw HK.o.1 (by first|rfl|exact m2)
theorem bDc (mb n k hc tc:Nat) (hA tA:Option Addr) (code:Int) (w'':World) (c2 c3 c4 c8 c9 qB qM qX jC jK jL jM jN jO jP jQ jR jS jT jU jV jW jX jY jZ zB zC zD yO yP yQ yR yS yT yU yV yW yX yY yZ xB xC xD xE xF xG xH xI xJ xK xL xM xN u6 u7 pY pZ kB kC kG kH kI kJ kK kN kO kP kQ kT kU kV kW kX kZ hC hJ hU gA gB gC gD gE gF gG gH gI:Value) (Q:Exit→Act→World→Prop) (hk:k=n) (h:∀u6 u7 pX pY pZ kB kC kG kH kI kJ kK kN kO kP kQ kT kU kV kW kX kZ hC hJ hU gA gB gC gD gE gF gG gH gI:Value,Q (.exit 0) ⟨#[.pointer (some ⟨mb,0,none⟩),.int .i64 code,c2,c3,c4,.slice tA n tc,u6,u7,c8,c9,qB,qM,qX,jC,jK,jL,jM,jN,jO,jP,jQ,jR,jS,jT,jU,jV,jW,jX,jY,jZ,zB,zC,zD,.slice hA n hc,.int .i64 (n:Int),pX,pY,pZ,kB,kC,kG,kH,kI,kJ,kK,kN,kO,kP,kQ,kT,kU,kV,kW,kX,kZ,hC,hJ,hU,gA,gB,gC,gD,gE,gF,gG,gH,gI,yO,yP,yQ,yR,yS,yT,yU,yV,yW,yX,yY,yZ,xB,xC,xD,xE,xF,xG,xH,xI,xJ,xK,xL,xM,xN],[]⟩ w'') :
  Code.wp prog (Ur Tryz.f52) Q ⟨#[.pointer (some ⟨mb,0,none⟩),.int .i64 code,c2,c3,c4,.slice tA n tc,u6,u7,c8,c9,qB,qM,qX,jC,jK,jL,jM,jN,jO,jP,jQ,jR,jS,jT,jU,jV,jW,jX,jY,jZ,zB,zC,zD,.slice hA n hc,.int .i64 (n:Int),.int .i64 (k:Int),pY,pZ,kB,kC,kG,kH,kI,kJ,kK,kN,kO,kP,kQ,kT,kU,kV,kW,kX,kZ,hC,hJ,hU,gA,gB,gC,gD,gE,gF,gG,gH,gI,yO,yP,yQ,yR,yS,yT,yU,yV,yW,yX,yY,yZ,xB,xC,xD,xE,xF,xG,xH,xI,xJ,xK,xL,xM,xN],[]⟩ w'':=by
 subst hk;have n0:¬(k:Int)<(k:Int):=Int.lt_irrefl _;conv=>arg 2;whnf
 go_wp2_with fail
 exact h _ _ _ _ _ _ _ _ _ _ _ _ _ _ _ _ _ _ _ _ _ _ _ _ _ _ _ _ _ _ _ _ _ _
theorem aYf (w w5:World) (F:Xt) (Ft:Nat→Xt) (mb gm kb am n q qc hc tc:Nat) (qA hA tA:Option Addr) (m:MS) (es:List TE) (N R:Nat) (ts:List TxD) (code:Int) (ok:Bool) (wr:World) (c2 c3 c4 c8 c9 qB qM qX jC jK jL jM jN jO jP jQ jR jS jT jU jV jW jX jY jZ zB zC zD yO yP yQ yR yS yT yU yV yW yX yY yZ xB xC xD xE xF xG xH xI xJ xK xL xM xN u6 u7 pX pY pZ kB kC kG kH kI kJ kK kN kO kP kQ kT kU kV kW kX kZ hC hJ hU gA gB gC gD gE gF gG gH gI:Value) (Q0:Exit→Act→World→Prop) (hpan:∀c a d v w,Q0 (.panic c) (Act.put a d v) w→Q0 (.panic c) a w)
  (H:DnH w w5 F Ft mb gm kb am n q qc hc tc qA hA tA m es N R ts) (hok:ok=decide (code=0)) (h0:∃k:Nat,k≤n∧pX=.int .i64 (k:Int)∧DoL w5 wr F mb gm kb am (.slice qA q qc) n m es N R ok k)
  (hexit:∀(u6 u7 pX pY pZ kB kC kG kH kI kJ kK kN kO kP kQ kT kU kV kW kX kZ hC hJ hU gA gB gC gD gE gF gG gH gI:Value) (w':World),DoL w5 w' F mb gm kb am (.slice qA q qc) n m es N R ok n→Q0 (.exit 0) ⟨#[.pointer (some ⟨mb,0,none⟩),.int .i64 code,c2,c3,c4,.slice tA n tc,u6,u7,c8,c9,qB,qM,qX,jC,jK,jL,jM,jN,jO,jP,jQ,jR,jS,jT,jU,jV,jW,jX,jY,jZ,zB,zC,zD,.slice hA n hc,.int .i64 (n:Int),pX,pY,pZ,kB,kC,kG,kH,kI,kJ,kK,kN,kO,kP,kQ,kT,kU,kV,kW,kX,kZ,hC,hJ,hU,gA,gB,gC,gD,gE,gF,gG,gH,gI,yO,yP,yQ,yR,yS,yT,yU,yV,yW,yX,yY,yZ,xB,xC,xD,xE,xF,xG,xH,xI,xJ,xK,xL,xM,xN],[]⟩ w') :
  Code.wp prog (Code.loop (Ur Tryz.f52)) Q0 ⟨#[.pointer (some ⟨mb,0,none⟩),.int .i64 code,c2,c3,c4,.slice tA n tc,u6,u7,c8,c9,qB,qM,qX,jC,jK,jL,jM,jN,jO,jP,jQ,jR,jS,jT,jU,jV,jW,jX,jY,jZ,zB,zC,zD,.slice hA n hc,.int .i64 (n:Int),pX,pY,pZ,kB,kC,kG,kH,kI,kJ,kK,kN,kO,kP,kQ,kT,kU,kV,kW,kX,kZ,hC,hJ,hU,gA,gB,gC,gD,gE,gF,gG,gH,gI,yO,yP,yQ,yR,yS,yT,yU,yV,yW,yX,yY,yZ,xB,xC,xD,xE,xF,xG,xH,xI,xJ,xK,xL,xM,xN],[]⟩ wr:=by
 refine wp_loop (DNI w5 F mb gm kb am n q qc hc tc qA hA tA m es N R code ok c2 c3 c4 c8 c9 qB qM qX jC jK jL jM jN jO jP jQ jR jS jT jU jV jW jX jY jZ zB zC zD yO yP yQ yR yS yT yU yV yW yX yY yZ xB xC xD xE xF xG xH xI xJ xK xL xM xN) (dmu n) (DNI.mk h0) (fun a w'' hI=>?_);unfold DNI at hI;obtain⟨v6,v7,v35,v36,v37,dH,v39,dI,v41,dJ,dK,v44,v45,v46,dL,dM,dN,v50,v51,dO,v53,dP,v55,dQ,v57,dR,dS,dT,dU,dV,v63,v64,dW,v66,hI⟩:=hI;obtain⟨⟨k,hk,e35,hW⟩,rfl⟩:=hI;subst e35;rcases tN k n with hlt|hge
 · cases ok with
   | false=>exact bGj w w5 F Ft mb gm kb am n q qc hc tc qA hA tA m es N R ts code w'' k _ _ _ _ _ _ _ _ _ _ _ _ _ _ _ _ _ _ _ _ _ _ _ _ _ _ _ _ _ _ _ _ _ _ _ _ _ _ _ _ _ _ _ _ _ _ _ _ _ _ _ _ _ _ _ _ _ _ _ _ _ _ _ _ _ _ _ _ _ _ _ _ _ _ _ _ _ _ _ _ _ _ _ _ _ _ Q0 H (fun e=>by subst e;exact absurd hok (by decide)) hW hlt
   | true=>exact bDd w w5 F Ft mb gm kb am n q qc hc tc qA hA tA m es N R ts code w'' k _ _ _ _ _ _ _ _ _ _ _ _ _ _ _ _ _ _ _ _ _ _ _ _ _ _ _ _ _ _ _ _ _ _ _ _ _ _ _ _ _ _ _ _ _ _ _ _ _ _ _ _ _ _ _ _ _ _ _ _ _ _ _ _ _ _ _ _ _ _ _ _ _ _ _ _ _ _ _ _ _ _ _ _ _ _ Q0 hpan H (of_decide_eq_true hok.symm) hW hlt
 · have e:k=n:=tQ hk hge;subst e;exact bDc mb k k hc tc hA tA code w'' _ _ _ _ _ _ _ _ _ _ _ _ _ _ _ _ _ _ _ _ _ _ _ _ _ _ _ _ _ _ _ _ _ _ _ _ _ _ _ _ _ _ _ _ _ _ _ _ _ _ _ _ _ _ _ _ _ _ _ _ _ _ _ _ _ _ _ _ _ _ _ _ _ _ _ _ _ _ _ _ _ _ _ _ _ _ _ rfl (fun u6 u7 pX pY pZ kB kC kG kH kI kJ kK kN kO kP kQ kT kU kV kW kX kZ hC hJ hU gA gB gC gD gE gF gG gH gI=>hexit u6 u7 pX pY pZ kB kC kG kH kI kJ kK kN kO kP kQ kT kU kV kW kX kZ hC hJ hU gA gB gC gD gE gF gG gH gI w'' hW)
theorem aRv (F:Xt) (Ft:Nat→Xt) (mb gm kb am:Nat) (qv:Value) (n:Nat) (m:MS) (es:List TE) (N R:Nat) (code:Int) (ok:Bool) (w:World) (h:Vl w F Ft mb gm kb am qv n m es N R) (good:Vq m) (hl:es.length≤100000) (hql:m.queue.length≤100000) (hn:0<n∧n≤m.queue.length) (hN:N+16*n≤100000) (hR:R≤100000) (hok:ok=decide (code=0)) :
  Calls prog 52 #[.pointer (some ⟨mb,0,none⟩),.int .i64 code] w fun e w'=>e=.returned (.int .i64 0)∧aLm w w' F mb gm kb am (aCm m ok n) es (N+16*n) R:=by
 have hg:=aAl mb gm kb am n qv m w h.bx;obtain⟨qA,qc,hqv⟩:=Xs h.own;subst hqv;obtain⟨q,hq⟩:=nC (m.queue.length)
 have n0:((n:Int)==0)=false:=by
  have:¬(n:Int)=0:=by omega
  simpa using this
 have hcap:=Vv h.own;have p1:(0:Int)≤(n:Int):=by omega
 have p4:(n:Int)≤(qc:Int):=by omega
 have p5:(n:Int)≤(q:Int):=by omega
 have KK:=hid (fun (w':World) (hS:Bk w' mb 166 (Vp gm kb am (.slice qA m.queue.length qc) n m))=>nS (Xz hS).2.2.2.1 (Xz hS).2.2.2.2.1);have HQ:=hid hq;rw[hq] at KK;have c4:=(KK.o _ (by rw[←hq];exact h.bx)).2;have HX:=hid h;have HG:=nM good (fun i (hi:i∈m.queue)=>show ∃t,m.txs[i]? =some t from by obtain⟨t,ht,_⟩:=good.que i hi;exact⟨t,ht⟩) hl hql hn hN hR hcap;rw[hq] at HX;clear h good hl hql hn hN hR hq hcap;go_enter func52,ntmps52
 go_wp2_with fail
 refine hg.mono ?_;rintro e w' ⟨rfl,rfl⟩;clear hg;go_wp2_with fail
 have Kq:=KK;refine wp_region_held_drew (S:=fun w'=>Bk w' mb 166 (Vp gm kb am (.slice qA q qc) n m)) (by kernel_rfl) (HX.o.bx.drew) (fun nE=>?_);refine kF 0 ?_;refine kF 2 ?_;refine kF 3 ?_;refine kF 4 ?_;refine kF 5 ?_;refine rF 1 (fun K hK=>?_);go_simp;refine(aDs F Ft mb gm kb am (.slice qA q qc) n m es N R _ (HX.o.next (Xu (Below.refl w.heap.size w))) HG.o.2.1 HG.o.2.2.1 HG.o.2.2.2.1).mono ?_;rintro e w1 ⟨⟨v1,ts,rfl,hwl⟩,hb1⟩;rw[HQ.o] at hwl;obtain⟨tA,tc,rfl⟩:=Xs hwl.own;have hB1:nD w w1:=(Xu nB).trans hb1;have hS1:=(HX.o.next hB1).bx;have p2:(n:Int)≤(tc:Int):=by have:=(Vv hwl.own).1;have:=HG.o.2.2.2.2.1;have:=HQ.o;omega
 have H1:=nF (show Us w w1 m (.slice tA q tc) ts q from⟨hwl.own,hwl.y,hwl.at_,hwl.len⟩) hB1;clear hwl hb1 hB1;go_simp;clear nE;refine hK.out _ _ hS1 (fun nE=>?_);clear hK K;try simp only[Act.put,tC,tD,tE]
 refine kF 6 ?_;refine kF 7 ?_;refine wpAnyH_done (by kernel_rfl) ?_ _;clear Kq;clear c4;go_wp2_with fail
 have Kq:=KK;refine wp_region_held_drew (S:=fun w'=>Bk w' mb 166 (Vp gm kb am (.slice qA q qc) n m)) (by kernel_rfl) (hS1.drew) (fun nE=>?_);refine kF 0 ?_;refine kF 1 ?_;refine kF 2 ?_;refine kF 3 ?_;refine kF 4 ?_;refine kF 5 ?_;refine kF 6 ?_;refine kF 7 ?_;refine kF 8 ?_;refine kF 11 ?_;refine rF 9 (fun K hK=>?_);go_simp;refine(aCl qA n qc ((m.queue.map aCp).take n) _ (by rw[rJ,rU,HQ.o,Nat.mul_one];have:=HG.o.2.2.2.2.1;have:=HQ.o;omega) ((Ve (aPz HQ.o (HX.o.next (H1.o.2.trans ((Xu nB).mono H1.o.2.size))).own)).take n) (by intro u hu;obtain⟨i,_,rfl⟩:=List.mem_map.1 (rR hu);rfl) (tK HG.o.2.2.2.2.1.2 HG.o.2.2.2.1)).mono ?_;rintro e w5 ⟨⟨v5,rfl,ho5⟩,hb5⟩;obtain⟨hA,hc,rfl⟩:=Xs ho5;have hB5:nD w w5:=H1.o.2.trans (((Xu nB).trans hb5).mono H1.o.2.size);have hS5:=(HX.o.next hB5).bx;have H5:=nF (nS (ownsRow_base_a ho5 H1.o.2.size) (H1.o.1.next ((Xu nB).trans hb5))) hB5;clear ho5 hb5 hB5;go_simp;clear nE;refine hK.out _ _ hS5 (fun nE=>?_);clear hK K;try simp only[Act.put,tC,tD,tE]
 refine kF 10 ?_;refine wpAnyH_done (by kernel_rfl) ?_ _;clear Kq;clear hS1 hS5;go_wp2_with fail
 have HD5:=hid (show DnH w w5 F Ft mb gm kb am n q qc hc tc qA hA tA m es N R ts from⟨HX.o,HG.o.1,HG.o.2.2.1,HG.o.2.2.2.1,HG.o.2.2.2.2.1.2,HG.o.2.2.2.2.2.1,HG.o.2.2.2.2.2.2.1,HQ.o,H5.o.1.1,H5.o.1.2⟩);have HHO:=hid hok;clear hok p1 p2 n0;refine aYf w w5 F Ft mb gm kb am n q qc hc tc qA hA tA m es N R ts code ok w5 _ _ _ _ _ _ _ _ _ _ _ _ _ _ _ _ _ _ _ _ _ _ _ _ _ _ _ _ _ _ _ _ _ _ _ _ _ _ _ _ _ _ _ _ _ _ _ _ _ _ _ _ _ _ _ _ _ _ _ _ _ _ _ _ _ _ _ _ _ _ _ _ _ _ _ _ _ _ _ _ _ _ _ _ _ _ _ _ (fun _ _ d _ _ h=>by cases d<;>exact h) HD5.o HHO.o ⟨0,zL,rfl,⟨F,Ft,HX.o.next H5.o.2,fun b q=>.inl q,(HX.o.next H5.o.2).fam.lt⟩,Kf.refl _ _⟩ ?_;intro u6 u7 pX pY pZ kB kC kG kH kI kJ kK kN kO kP kQ kT kU kV kW kX kZ hC hJ hU gA gB gC gD gE gF gG gH gI wr hE;have hok:=HHO.o;obtain⟨⟨Fk,Ftk,hmk,hsb,hin⟩,hkf⟩:=hE
 cases ok with
 | false =>
   have hcd:¬code=0:=fun e=>by subst e;exact absurd hok (by decide)
   have n3:(code==0)=false:=by simpa using hcd
   have HD:=nJ hmk hkf hsb (aLo HG.o.1 HG.o.2.2.2.2.1.2) (show (aCm m false n).queue.length=q - n by rw[aLo HG.o.1 HG.o.2.2.2.2.1.2];show (m.queue.drop n).length=_;rw[rN,HQ.o]);have HC:=hid (aIy (m:=m) hmk rfl HQ.o HG.o.2.2.2.2.1.2 HG.o.2.2.2.1 HG.o.2.2.2.2.2.2.2.1);have c3w:=(Xz hmk.bx).2.2.2.1;have c4w:=(Xz hmk.bx).2.2.2.2.1;clear hmk hsb hin hkf hcd hok;go_wp2_with fail
   refine wp_region_held_drew (S:=fun _=>True) (by kernel_rfl) trivial (fun nE=>?_);refine wpAnyH_take (i:=0) (v:=?vd1_0) (by simp only[tF,tG,tH];rfl) (by kernel_rfl) (by kernel_rfl) (by kernel_rfl) (by exact fun _ _ _ h=>h) (Or.inl ⟨by rfl,?hd1_0⟩) nE ?_
   case hd1_0=>(intro w' _;go_simp<;>with_reducible rfl)
   try simp only[Act.put,tC,tD,tE]
   refine wpAnyH_take (i:=1) (v:=?vd2_1) (by simp only[tF,tG,tH];rfl) (by kernel_rfl) (by kernel_rfl) (by kernel_rfl) (by exact fun _ _ _ h=>h) (Or.inl ⟨by rfl,?hd2_1⟩) nE ?_
   case hd2_1=>(intro w' _;go_simp<;>with_reducible rfl)
   try simp only[Act.put,tC,tD,tE]
   refine wpAnyH_take (i:=2) (v:=?vd3_2) (by simp only[tF,tG,tH];rfl) (by kernel_rfl) (by kernel_rfl) (by kernel_rfl) (by exact fun _ _ _ h=>h) (Or.inl ⟨by rfl,?hd3_2⟩) nE ?_
   case hd3_2=>(intro w' _;go_simp<;>with_reducible rfl)
   try simp only[Act.put,tC,tD,tE]
   refine wpAnyH_take (i:=3) (v:=?vd4_3) (by simp only[tF,tG,tH];rfl) (by kernel_rfl) (by kernel_rfl) (by kernel_rfl) (by exact fun _ _ _ h=>h) (Or.inl ⟨by rfl,?hd4_3⟩) nE ?_
   case hd4_3=>(intro w' _;go_simp<;>with_reducible rfl)
   try simp only[Act.put,tC,tD,tE]
   refine wpAnyH_take (i:=5) (v:=?vd5_5) (by simp only[tF,tG,tH];rfl) (by kernel_rfl) (by kernel_rfl) (by kernel_rfl) (by exact fun _ _ _ h=>h) (Or.inl ⟨by rfl,?hd5_5⟩) nE ?_
   case hd5_5=>(intro w' _;go_simp<;>with_reducible rfl)
   try simp only[Act.put,tC,tD,tE]
   refine wpAnyH_take (i:=6) (v:=?vd6_6) (by simp only[tF,tG,tH];rfl) (by kernel_rfl) (by kernel_rfl) (by kernel_rfl) (by exact fun _ _ _ h=>h) (Or.inl ⟨by rfl,?hd6_6⟩) nE ?_
   case hd6_6=>(intro w' _;go_simp<;>with_reducible rfl)
   try simp only[Act.put,tC,tD,tE]
   refine wpAnyH_take (i:=7) (v:=?vd7_7) (by simp only[tF,tG,tH];rfl) (by kernel_rfl) (by kernel_rfl) (by kernel_rfl) (by exact fun _ _ _ h=>h) (Or.inl ⟨by rfl,?hd7_7⟩) nE ?_
   case hd7_7=>(intro w' _;go_simp<;>with_reducible rfl)
   try simp only[Act.put,tC,tD,tE]
   refine wpAnyH_ready (rs:=[4,8]) (by kernel_rfl) (by simp) ?_;refine AllReadyH.cons (by simp only[tF,tG,tH];rfl) (fun K hK=>?_) (AllReadyH.cons (by simp only[tF,tG,tH];rfl) (fun K hK=>?_) AllReadyH.nil)
   · skip;go_simp;refine hK.out _ _ trivial (fun hHeld2=>?_);clear hK K nE;have nE:=hHeld2;clear hHeld2;try simp only[Act.put,tC,tD,tE]
     refine rF 8 (fun K hK=>?_);go_simp;refine hK.out _ _ trivial (fun hHeld2=>?_);clear hK K nE;have nE:=hHeld2;clear hHeld2;try simp only[Act.put,tC,tD,tE]
     refine wpAnyH_take (i:=9) (v:=?vd8_9) (by simp only[tF,tG,tH];rfl) (by kernel_rfl) (by kernel_rfl) (by kernel_rfl) (by exact fun _ _ _ h=>h) (Or.inl ⟨by rfl,?hd8_9⟩) nE ?_
     case hd8_9=>(intro w' _;go_simp<;>with_reducible rfl)
     try simp only[Act.put,tC,tD,tE]
     refine rF 10 (fun K hK=>?_);go_simp;refine(aCl _ _ _ _ _ HC.o.1 HC.o.2.1 HC.o.2.2.1 HC.o.2.2.2).mono ?_;rintro e w9 ⟨⟨v9,rfl,ho9⟩,hb9⟩;obtain⟨A9,c9,rfl⟩:=Xs ho9;have hB9:=(HD.o.1.bx.drew).next hb9 HD.o.1.bx.lt;have f93:=hB9.free 3;have z93:=(Xz hB9).2.2.2.1;obtain⟨w10,hw10⟩:=nC (w9.setCell ⟨mb,3,none⟩ (.slice A9 (q - n) c9));have HQ:=nI ho9 hb9 hB9 hw10;clear ho9 hb9 hB9;go_simp;refine hK.out _ _ trivial (fun hHeld2=>?_);clear hK K nE;have nE:=hHeld2;clear hHeld2;try simp only[Act.put,tC,tD,tE]
     refine wpAnyH_take (i:=11) (v:=?vd9_11) (by simp only[tF,tG,tH];rfl) (by kernel_rfl) (by kernel_rfl) (by kernel_rfl) (by exact fun _ _ _ h=>h) (Or.inl ⟨by rfl,?hd9_11⟩) nE ?_
     case hd9_11=>(intro w' _;go_simp<;>with_reducible rfl)
     try simp only[Act.put,tC,tD,tE]
     refine wpAnyH_take (i:=12) (v:=?vd10_12) (by simp only[tF,tG,tH];rfl) (by kernel_rfl) (by kernel_rfl) (by kernel_rfl) (by exact fun _ _ _ h=>h) (Or.inl ⟨by rfl,?hd10_12⟩) nE ?_
     case hd10_12=>(intro w' _;go_simp<;>with_reducible rfl)
     try simp only[Act.put,tC,tD,tE]
     refine rF 13 (fun K hK=>?_);go_simp;try rw[hw10]
     refine hK.out _ _ trivial (fun hHeld2=>?_);clear hK K nE;have nE:=hHeld2;clear hHeld2;try simp only[Act.put,tC,tD,tE]
     refine wpAnyH_done (by kernel_rfl) ?_ _;have HE:=hid (aEy HD.o.1 HD.o.2 HQ.o.1 HQ.o.2.1 HQ.o.2.2.1 HQ.o.2.2.2);have f4:=HE.o.2.1.free 4;have z4:=(Xz HE.o.2.1).2.2.2.2.1;clear f93 hw10;go_wp2_with fail
     all_goals (go_ret;exact⟨rfl,aEz H5.o.2 (HE.o.1 _ rfl)⟩)
   · skip;go_simp;refine hK.out _ _ trivial (fun hHeld2=>?_);clear hK K nE;have nE:=hHeld2;clear hHeld2;try simp only[Act.put,tC,tD,tE]
     refine rF 4 (fun K hK=>?_);go_simp;refine hK.out _ _ trivial (fun hHeld2=>?_);clear hK K nE;have nE:=hHeld2;clear hHeld2;try simp only[Act.put,tC,tD,tE]
     refine wpAnyH_take (i:=9) (v:=?vd11_9) (by simp only[tF,tG,tH];rfl) (by kernel_rfl) (by kernel_rfl) (by kernel_rfl) (by exact fun _ _ _ h=>h) (Or.inl ⟨by rfl,?hd11_9⟩) nE ?_
     case hd11_9=>(intro w' _;go_simp<;>with_reducible rfl)
     try simp only[Act.put,tC,tD,tE]
     refine rF 10 (fun K hK=>?_);go_simp;refine(aCl _ _ _ _ _ HC.o.1 HC.o.2.1 HC.o.2.2.1 HC.o.2.2.2).mono ?_;rintro e w9 ⟨⟨v9,rfl,ho9⟩,hb9⟩;obtain⟨A9,c9,rfl⟩:=Xs ho9;have hB9:=(HD.o.1.bx.drew).next hb9 HD.o.1.bx.lt;have f93:=hB9.free 3;have z93:=(Xz hB9).2.2.2.1;obtain⟨w10,hw10⟩:=nC (w9.setCell ⟨mb,3,none⟩ (.slice A9 (q - n) c9));have HQ:=nI ho9 hb9 hB9 hw10;clear ho9 hb9 hB9;go_simp;refine hK.out _ _ trivial (fun hHeld2=>?_);clear hK K nE;have nE:=hHeld2;clear hHeld2;try simp only[Act.put,tC,tD,tE]
     refine wpAnyH_take (i:=11) (v:=?vd12_11) (by simp only[tF,tG,tH];rfl) (by kernel_rfl) (by kernel_rfl) (by kernel_rfl) (by exact fun _ _ _ h=>h) (Or.inl ⟨by rfl,?hd12_11⟩) nE ?_
     case hd12_11=>(intro w' _;go_simp<;>with_reducible rfl)
     try simp only[Act.put,tC,tD,tE]
     refine wpAnyH_take (i:=12) (v:=?vd13_12) (by simp only[tF,tG,tH];rfl) (by kernel_rfl) (by kernel_rfl) (by kernel_rfl) (by exact fun _ _ _ h=>h) (Or.inl ⟨by rfl,?hd13_12⟩) nE ?_
     case hd13_12=>(intro w' _;go_simp<;>with_reducible rfl)
     try simp only[Act.put,tC,tD,tE]
     refine rF 13 (fun K hK=>?_);go_simp;try rw[hw10]
     refine hK.out _ _ trivial (fun hHeld2=>?_);clear hK K nE;have nE:=hHeld2;clear hHeld2;try simp only[Act.put,tC,tD,tE]
     refine wpAnyH_done (by kernel_rfl) ?_ _;have HE:=hid (aEy HD.o.1 HD.o.2 HQ.o.1 HQ.o.2.1 HQ.o.2.2.1 HQ.o.2.2.2);have f4:=HE.o.2.1.free 4;have z4:=(Xz HE.o.2.1).2.2.2.2.1;clear f93 hw10;go_wp2_with fail
     all_goals (go_ret;exact⟨rfl,aEz H5.o.2 (HE.o.1 _ rfl)⟩)
 | true =>
   have hcd:code=0:=of_decide_eq_true hok.symm;subst hcd;clear hok;obtain⟨w6,hw6⟩:=nC (wr.setCell ⟨mb,5,none⟩ (.int .i64 ((m.num:Int)+1)));obtain⟨c5,f5,g6,k6⟩:=aUg hmk hw6;have m5:wrap64 ((m.num:Int)+1)=(m.num:Int)+1:=aTb (tK HG.o.1.cap.2 (by decide));have m6:IntKind.i64.wrap ((m.num:Int)+1)=(m.num:Int)+1:=aPb (tK HG.o.1.cap.2 (by decide));have HD:=nJ g6 (hkf.trans k6 hsb) hsb (aIx HG.o.1 HG.o.2.2.2.2.1.2) (show (aCm m true n).queue.length=q - n by rw[aIx HG.o.1 HG.o.2.2.2.2.1.2];show (m.queue.drop n).length=_;rw[rN,HQ.o]);have HC:=hid (aIy (m:=m) g6 rfl HQ.o HG.o.2.2.2.2.1.2 HG.o.2.2.2.1 HG.o.2.2.2.2.2.2.2.1);have c3w:=(Xz g6.bx).2.2.2.1;have c4w:=(Xz g6.bx).2.2.2.2.1;clear hmk hsb hin hkf g6 k6;go_wp2_with fail
   refine wp_region_held_drew (S:=fun _=>True) (by kernel_rfl) trivial (fun nE=>?_);refine wpAnyH_take (i:=0) (v:=?vd1_0) (by simp only[tF,tG,tH];rfl) (by kernel_rfl) (by kernel_rfl) (by kernel_rfl) (by exact fun _ _ _ h=>h) (Or.inl ⟨by rfl,?hd1_0⟩) nE ?_
   case hd1_0=>(intro w' _;go_simp<;>with_reducible rfl)
   try simp only[Act.put,tC,tD,tE]
   refine wpAnyH_take (i:=1) (v:=?vd2_1) (by simp only[tF,tG,tH];rfl) (by kernel_rfl) (by kernel_rfl) (by kernel_rfl) (by exact fun _ _ _ h=>h) (Or.inl ⟨by rfl,?hd2_1⟩) nE ?_
   case hd2_1=>(intro w' _;go_simp<;>with_reducible rfl)
   try simp only[Act.put,tC,tD,tE]
   refine wpAnyH_take (i:=2) (v:=?vd3_2) (by simp only[tF,tG,tH];rfl) (by kernel_rfl) (by kernel_rfl) (by kernel_rfl) (by exact fun _ _ _ h=>h) (Or.inl ⟨by rfl,?hd3_2⟩) nE ?_
   case hd3_2=>(intro w' _;go_simp<;>with_reducible rfl)
   try simp only[Act.put,tC,tD,tE]
   refine wpAnyH_take (i:=3) (v:=?vd4_3) (by simp only[tF,tG,tH];rfl) (by kernel_rfl) (by kernel_rfl) (by kernel_rfl) (by exact fun _ _ _ h=>h) (Or.inl ⟨by rfl,?hd4_3⟩) nE ?_
   case hd4_3=>(intro w' _;go_simp<;>with_reducible rfl)
   try simp only[Act.put,tC,tD,tE]
   refine wpAnyH_take (i:=5) (v:=?vd5_5) (by simp only[tF,tG,tH];rfl) (by kernel_rfl) (by kernel_rfl) (by kernel_rfl) (by exact fun _ _ _ h=>h) (Or.inl ⟨by rfl,?hd5_5⟩) nE ?_
   case hd5_5=>(intro w' _;go_simp<;>with_reducible rfl)
   try simp only[Act.put,tC,tD,tE]
   refine wpAnyH_take (i:=6) (v:=?vd6_6) (by simp only[tF,tG,tH];rfl) (by kernel_rfl) (by kernel_rfl) (by kernel_rfl) (by exact fun _ _ _ h=>h) (Or.inl ⟨by rfl,?hd6_6⟩) nE ?_
   case hd6_6=>(intro w' _;go_simp<;>with_reducible rfl)
   try simp only[Act.put,tC,tD,tE]
   refine wpAnyH_take (i:=7) (v:=?vd7_7) (by simp only[tF,tG,tH];rfl) (by kernel_rfl) (by kernel_rfl) (by kernel_rfl) (by exact fun _ _ _ h=>h) (Or.inl ⟨by rfl,?hd7_7⟩) nE ?_
   case hd7_7=>(intro w' _;go_simp<;>with_reducible rfl)
   try simp only[Act.put,tC,tD,tE]
   refine wpAnyH_ready (rs:=[4,8]) (by kernel_rfl) (by simp) ?_;refine AllReadyH.cons (by simp only[tF,tG,tH];rfl) (fun K hK=>?_) (AllReadyH.cons (by simp only[tF,tG,tH];rfl) (fun K hK=>?_) AllReadyH.nil)
   · skip;go_simp;refine hK.out _ _ trivial (fun hHeld2=>?_);clear hK K nE;have nE:=hHeld2;clear hHeld2;try simp only[Act.put,tC,tD,tE]
     refine rF 8 (fun K hK=>?_);go_simp;refine hK.out _ _ trivial (fun hHeld2=>?_);clear hK K nE;have nE:=hHeld2;clear hHeld2;try simp only[Act.put,tC,tD,tE]
     refine wpAnyH_take (i:=9) (v:=?vd8_9) (by simp only[tF,tG,tH];rfl) (by kernel_rfl) (by kernel_rfl) (by kernel_rfl) (by exact fun _ _ _ h=>h) (Or.inl ⟨by rfl,?hd8_9⟩) nE ?_
     case hd8_9=>(intro w' _;go_simp<;>with_reducible rfl)
     try simp only[Act.put,tC,tD,tE]
     refine rF 10 (fun K hK=>?_);go_simp;refine(aCl _ _ _ _ _ HC.o.1 HC.o.2.1 HC.o.2.2.1 HC.o.2.2.2).mono ?_;rintro e w9 ⟨⟨v9,rfl,ho9⟩,hb9⟩;obtain⟨A9,c9,rfl⟩:=Xs ho9;have hB9:=(HD.o.1.bx.drew).next hb9 HD.o.1.bx.lt;have f93:=hB9.free 3;have z93:=(Xz hB9).2.2.2.1;obtain⟨w10,hw10⟩:=nC (w9.setCell ⟨mb,3,none⟩ (.slice A9 (q - n) c9));have HQ:=nI ho9 hb9 hB9 hw10;clear ho9 hb9 hB9;go_simp;refine hK.out _ _ trivial (fun hHeld2=>?_);clear hK K nE;have nE:=hHeld2;clear hHeld2;try simp only[Act.put,tC,tD,tE]
     refine wpAnyH_take (i:=11) (v:=?vd9_11) (by simp only[tF,tG,tH];rfl) (by kernel_rfl) (by kernel_rfl) (by kernel_rfl) (by exact fun _ _ _ h=>h) (Or.inl ⟨by rfl,?hd9_11⟩) nE ?_
     case hd9_11=>(intro w' _;go_simp<;>with_reducible rfl)
     try simp only[Act.put,tC,tD,tE]
     refine wpAnyH_take (i:=12) (v:=?vd10_12) (by simp only[tF,tG,tH];rfl) (by kernel_rfl) (by kernel_rfl) (by kernel_rfl) (by exact fun _ _ _ h=>h) (Or.inl ⟨by rfl,?hd10_12⟩) nE ?_
     case hd10_12=>(intro w' _;go_simp<;>with_reducible rfl)
     try simp only[Act.put,tC,tD,tE]
     refine rF 13 (fun K hK=>?_);go_simp;try rw[hw10]
     refine hK.out _ _ trivial (fun hHeld2=>?_);clear hK K nE;have nE:=hHeld2;clear hHeld2;try simp only[Act.put,tC,tD,tE]
     refine wpAnyH_done (by kernel_rfl) ?_ _;have HE:=hid (aEy HD.o.1 HD.o.2 HQ.o.1 HQ.o.2.1 HQ.o.2.2.1 HQ.o.2.2.2);have f4:=HE.o.2.1.free 4;have z4:=(Xz HE.o.2.1).2.2.2.2.1;clear f93 hw10;go_wp2_with fail
     all_goals (go_ret;exact⟨rfl,aEz H5.o.2 (HE.o.1 _ rfl)⟩)
   · skip;go_simp;refine hK.out _ _ trivial (fun hHeld2=>?_);clear hK K nE;have nE:=hHeld2;clear hHeld2;try simp only[Act.put,tC,tD,tE]
     refine rF 4 (fun K hK=>?_);go_simp;refine hK.out _ _ trivial (fun hHeld2=>?_);clear hK K nE;have nE:=hHeld2;clear hHeld2;try simp only[Act.put,tC,tD,tE]
     refine wpAnyH_take (i:=9) (v:=?vd11_9) (by simp only[tF,tG,tH];rfl) (by kernel_rfl) (by kernel_rfl) (by kernel_rfl) (by exact fun _ _ _ h=>h) (Or.inl ⟨by rfl,?hd11_9⟩) nE ?_
     case hd11_9=>(intro w' _;go_simp<;>with_reducible rfl)
     try simp only[Act.put,tC,tD,tE]
     refine rF 10 (fun K hK=>?_);go_simp;refine(aCl _ _ _ _ _ HC.o.1 HC.o.2.1 HC.o.2.2.1 HC.o.2.2.2).mono ?_;rintro e w9 ⟨⟨v9,rfl,ho9⟩,hb9⟩;obtain⟨A9,c9,rfl⟩:=Xs ho9;have hB9:=(HD.o.1.bx.drew).next hb9 HD.o.1.bx.lt;have f93:=hB9.free 3;have z93:=(Xz hB9).2.2.2.1;obtain⟨w10,hw10⟩:=nC (w9.setCell ⟨mb,3,none⟩ (.slice A9 (q - n) c9));have HQ:=nI ho9 hb9 hB9 hw10;clear ho9 hb9 hB9;go_simp;refine hK.out _ _ trivial (fun hHeld2=>?_);clear hK K nE;have nE:=hHeld2;clear hHeld2;try simp only[Act.put,tC,tD,tE]
     refine wpAnyH_take (i:=11) (v:=?vd12_11) (by simp only[tF,tG,tH];rfl) (by kernel_rfl) (by kernel_rfl) (by kernel_rfl) (by exact fun _ _ _ h=>h) (Or.inl ⟨by rfl,?hd12_11⟩) nE ?_
     case hd12_11=>(intro w' _;go_simp<;>with_reducible rfl)
     try simp only[Act.put,tC,tD,tE]
     refine wpAnyH_take (i:=12) (v:=?vd13_12) (by simp only[tF,tG,tH];rfl) (by kernel_rfl) (by kernel_rfl) (by kernel_rfl) (by exact fun _ _ _ h=>h) (Or.inl ⟨by rfl,?hd13_12⟩) nE ?_
     case hd13_12=>(intro w' _;go_simp<;>with_reducible rfl)
     try simp only[Act.put,tC,tD,tE]
     refine rF 13 (fun K hK=>?_);go_simp;try rw[hw10]
     refine hK.out _ _ trivial (fun hHeld2=>?_);clear hK K nE;have nE:=hHeld2;clear hHeld2;try simp only[Act.put,tC,tD,tE]
     refine wpAnyH_done (by kernel_rfl) ?_ _;have HE:=hid (aEy HD.o.1 HD.o.2 HQ.o.1 HQ.o.2.1 HQ.o.2.2.1 HQ.o.2.2.2);have f4:=HE.o.2.1.free 4;have z4:=(Xz HE.o.2.1).2.2.2.2.1;clear f93 hw10;go_wp2_with fail
     all_goals (go_ret;exact⟨rfl,aEz H5.o.2 (HE.o.1 _ rfl)⟩)
theorem aDv {w:World} {g t:Nat} {a b:Value} (h:Bk w g t [a,b]):w.cell? ⟨g,0,none⟩=some a∧w.cell? ⟨g,1,none⟩=some b:=⟨h.cell (i:=0) (by simp),h.cell (i:=1) (by simp)⟩
theorem aKb {num:Int} (h:1≤num∧num≤1000):0≤num∧num≤1099511627776:=by omega
theorem aUl {x:Int} (h1:0≤x) (h2:x<258):0≤x∧x≤1048576:=by omega
theorem bIa {a S j xn:Nat} (h:a=S+j) (hS:S≤32) (hlt:j<xn) (hx:xn≤16):a≤1000000:=by omega
def EII (w6:World) (g gx xn xc:Nat) (xA:Option Addr) (ep T:Int) (bs:List Int) (S:Nat) (c0 c3 c5 c6 c7 c8 c9 qM jL jM jN jO jP jQ jR jS jT jU jV jW jX jY jZ zB zC zD zE zF zG zH zI zJ zK Xr zM zN zO zP zQ zR zS zT zU zV zW zX zY yY yZ xB xC xD xE xF xG xH xI xJ xK xL xM xN xO xP xQ xR xS xT xU xV qC qD qE qF qG qH qI qJ qK qL qN qO qP qQ qR qS qT qU qV qW qY qZ:Value) (a:Act) (wr:World):Prop :=
 ∃u4 vU pE pF hJ hU gA gB gC gD gE gF gG gH gI gJ gK gL gM gN gO gP gQ gR gT:Value,(∃(j:Nat) (ys:List BR),j≤xn∧hJ=.int .i64 (j:Int)∧Bk wr gx 196 [.int .i64 T,.slice xA xn xc]∧EnX w6 wr u4 c7 ys bs∧ys.length=S+j)∧a=⟨#[c0,.int .i64 ep,.pointer (some ⟨g,0,none⟩),c3,u4,c5,c6,c7,c8,c9,.pointer (some ⟨gx,0,none⟩),qM,vU,pE,pF,jL,jM,jN,jO,jP,jQ,jR,jS,jT,jU,jV,jW,jX,jY,jZ,zB,zC,zD,zE,zF,zG,zH,zI,zJ,zK,Xr,zM,zN,zO,zP,zQ,zR,zS,zT,zU,zV,zW,zX,zY,.slice xA xn xc,.int .i64 (xn:Int),hJ,hU,gA,gB,gC,gD,gE,gF,gG,gH,gI,gJ,gK,gL,gM,gN,gO,gP,gQ,gR,gT,yY,yZ,xB,xC,xD,xE,xF,xG,xH,xI,xJ,xK,xL,xM,xN,xO,xP,xQ,xR,xS,xT,xU,xV,qC,qD,qE,qF,qG,qH,qI,qJ,qK,qL,qN,qO,qP,qQ,qR,qS,qT,qU,qV,qW,qY,qZ],[]⟩
theorem EII.mk {w6 wr:World} {g gx xn xc:Nat} {xA:Option Addr} {ep T:Int} {bs:List Int} {S:Nat} {c0 c3 c5 c6 c7 c8 c9 qM jL jM jN jO jP jQ jR jS jT jU jV jW jX jY jZ zB zC zD zE zF zG zH zI zJ zK Xr zM zN zO zP zQ zR zS zT zU zV zW zX zY yY yZ xB xC xD xE xF xG xH xI xJ xK xL xM xN xO xP xQ xR xS xT xU xV qC qD qE qF qG qH qI qJ qK qL qN qO qP qQ qR qS qT qU qV qW qY qZ:Value} {u4 vU pE pF hJ hU gA gB gC gD gE gF gG gH gI gJ gK gL gM gN gO gP gQ gR gT:Value} (h:∃(j:Nat) (ys:List BR),j≤xn∧hJ=.int .i64 (j:Int)∧Bk wr gx 196 [.int .i64 T,.slice xA xn xc]∧EnX w6 wr u4 c7 ys bs∧ys.length=S+j):EII w6 g gx xn xc xA ep T bs S c0 c3 c5 c6 c7 c8 c9 qM jL jM jN jO jP jQ jR jS jT jU jV jW jX jY jZ zB zC zD zE zF zG zH zI zJ zK Xr zM zN zO zP zQ zR zS zT zU zV zW zX zY yY yZ xB xC xD xE xF xG xH xI xJ xK xL xM xN xO xP xQ xR xS xT xU xV qC qD qE qF qG qH qI qJ qK qL qN qO qP qQ qR qS qT qU qV qW qY qZ ⟨#[c0,.int .i64 ep,.pointer (some ⟨g,0,none⟩),c3,u4,c5,c6,c7,c8,c9,.pointer (some ⟨gx,0,none⟩),qM,vU,pE,pF,jL,jM,jN,jO,jP,jQ,jR,jS,jT,jU,jV,jW,jX,jY,jZ,zB,zC,zD,zE,zF,zG,zH,zI,zJ,zK,Xr,zM,zN,zO,zP,zQ,zR,zS,zT,zU,zV,zW,zX,zY,.slice xA xn xc,.int .i64 (xn:Int),hJ,hU,gA,gB,gC,gD,gE,gF,gG,gH,gI,gJ,gK,gL,gM,gN,gO,gP,gQ,gR,gT,yY,yZ,xB,xC,xD,xE,xF,xG,xH,xI,xJ,xK,xL,xM,xN,xO,xP,xQ,xR,xS,xT,xU,xV,qC,qD,qE,qF,qG,qH,qI,qJ,qK,qL,qN,qO,qP,qQ,qR,qS,qT,qU,qV,qW,qY,qZ],[]⟩ wr:=⟨u4,vU,pE,pF,hJ,hU,gA,gB,gC,gD,gE,gF,gG,gH,gI,gJ,gK,gL,gM,gN,gO,gP,gQ,gR,gT,h,rfl⟩
def aYj (n:Nat) (a:Act) (_:World):Nat:=n - (intOf (a.tmps.getD 56 undef)).toNat
theorem aPm {xn g gx xc:Nat} {xA:Option Addr} {ep:Int} {w:World} {x:Int} {c0 c3 c5 c6 c7 c8 c9 qM jL jM jN jO jP jQ jR jS jT jU jV jW jX jY jZ zB zC zD zE zF zG zH zI zJ zK Xr zM zN zO zP zQ zR zS zT zU zV zW zX zY yY yZ xB xC xD xE xF xG xH xI xJ xK xL xM xN xO xP xQ xR xS xT xU xV qC qD qE qF qG qH qI qJ qK qL qN qO qP qQ qR qS qT qU qV qW qY qZ u4 vU pE pF hU gA gB gC gD gE gF gG gH gI gJ gK gL gM gN gO gP gQ gR gT:Value}:aYj xn ⟨#[c0,.int .i64 ep,.pointer (some ⟨g,0,none⟩),c3,u4,c5,c6,c7,c8,c9,.pointer (some ⟨gx,0,none⟩),qM,vU,pE,pF,jL,jM,jN,jO,jP,jQ,jR,jS,jT,jU,jV,jW,jX,jY,jZ,zB,zC,zD,zE,zF,zG,zH,zI,zJ,zK,Xr,zM,zN,zO,zP,zQ,zR,zS,zT,zU,zV,zW,zX,zY,.slice xA xn xc,.int .i64 (xn:Int),.int .i64 x,hU,gA,gB,gC,gD,gE,gF,gG,gH,gI,gJ,gK,gL,gM,gN,gO,gP,gQ,gR,gT,yY,yZ,xB,xC,xD,xE,xF,xG,xH,xI,xJ,xK,xL,xM,xN,xO,xP,xQ,xR,xS,xT,xU,xV,qC,qD,qE,qF,qG,qH,qI,qJ,qK,qL,qN,qO,qP,qQ,qR,qS,qT,qU,qV,qW,qY,qZ],[]⟩ w=xn - x.toNat:=rfl
theorem aUi (w6 wr:World) (g gx xn xc c:Nat) (A xA:Option Addr) (n:Nat) (ep num T:Int) (bs:List Int) (S j:Nat) (ps:List Vd) (ys:List BR) (c0 c3 c5 c6 c7 c8 c9 qM jL jM jN jO jP jQ jR jS jT jU jV jW jX jY jZ zB zC zD zE zF zG zH zI zJ zK Xr zM zN zO zP zQ zR zS zT zU zV zW zX zY yY yZ xB xC xD xE xF xG xH xI xJ xK xL xM xN xO xP xQ xR xS xT xU xV qC qD qE qF qG qH qI qJ qK qL qN qO qP qQ qR qS qT qU qV qW qY qZ u4 vU pE pF hU gA gB gC gD gE gF gG gH gI gJ gK gL gM gN gO gP gQ gR gT:Value) (Q0:Exit→Act→World→Prop)
  (hB:Bk w6 g 107 [.int .i64 num,.slice A n c]) (hps:Uh w6 xA xn xc ps) (hpo:∀p∈ps,0≤p.lba∧p.lba<258∧p.n=40) (hnum:1≤num∧num≤1000) (hep:0≤ep∧ep≤4294967295) (hx16:xn≤16) (hS:S≤32)
  (hT:Bk wr gx 196 [.int .i64 T,.slice xA xn xc]) (hE:EnX w6 wr u4 c7 ys bs) (hl:ys.length=S+j) (hlt:j<xn) :
  Code.wp prog (aBn f109 0 0) (Exit.then (fun a' w''=>EII w6 g gx xn xc xA ep T bs S c0 c3 c5 c6 c7 c8 c9 qM jL jM jN jO jP jQ jR jS jT jU jV jW jX jY jZ zB zC zD zE zF zG zH zI zJ zK Xr zM zN zO zP zQ zR zS zT zU zV zW zX zY yY yZ xB xC xD xE xF xG xH xI xJ xK xL xM xN xO xP xQ xR xS xT xU xV qC qD qE qF qG qH qI qJ qK qL qN qO qP qQ qR qS qT qU qV qW qY qZ a' w''∧aYj xn a' w'' <aYj xn ⟨#[c0,.int .i64 ep,.pointer (some ⟨g,0,none⟩),c3,u4,c5,c6,c7,c8,c9,.pointer (some ⟨gx,0,none⟩),qM,vU,pE,pF,jL,jM,jN,jO,jP,jQ,jR,jS,jT,jU,jV,jW,jX,jY,jZ,zB,zC,zD,zE,zF,zG,zH,zI,zJ,zK,Xr,zM,zN,zO,zP,zQ,zR,zS,zT,zU,zV,zW,zX,zY,.slice xA xn xc,.int .i64 (xn:Int),.int .i64 (j:Int),hU,gA,gB,gC,gD,gE,gF,gG,gH,gI,gJ,gK,gL,gM,gN,gO,gP,gQ,gR,gT,yY,yZ,xB,xC,xD,xE,xF,xG,xH,xI,xJ,xK,xL,xM,xN,xO,xP,xQ,xR,xS,xT,xU,xV,qC,qD,qE,qF,qG,qH,qI,qJ,qK,qL,qN,qO,qP,qQ,qR,qS,qT,qU,qV,qW,qY,qZ],[]⟩ wr) Q0) ⟨#[c0,.int .i64 ep,.pointer (some ⟨g,0,none⟩),c3,u4,c5,c6,c7,c8,c9,.pointer (some ⟨gx,0,none⟩),qM,vU,pE,pF,jL,jM,jN,jO,jP,jQ,jR,jS,jT,jU,jV,jW,jX,jY,jZ,zB,zC,zD,zE,zF,zG,zH,zI,zJ,zK,Xr,zM,zN,zO,zP,zQ,zR,zS,zT,zU,zV,zW,zX,zY,.slice xA xn xc,.int .i64 (xn:Int),.int .i64 (j:Int),hU,gA,gB,gC,gD,gE,gF,gG,gH,gI,gJ,gK,gL,gM,gN,gO,gP,gQ,gR,gT,yY,yZ,xB,xC,xD,xE,xF,xG,xH,xI,xJ,xK,xL,xM,xN,xO,xP,xQ,xR,xS,xT,xU,xV,qC,qD,qE,qF,qG,qH,qI,qJ,qK,qL,qN,qO,qP,qQ,qR,qS,qT,qU,qV,qW,qY,qZ],[]⟩ wr:=by
 obtain⟨xi,xz,hxi,hxz,hx5,hx56,hxc⟩:=aFw;have hpr:=hps.next hE.bel;obtain⟨x,hx⟩:=nC (ps[j]'(by have:=hps.len;omega));have hmx:x∈ps:=by rw[←hx];exact rC _
 obtain⟨h1,h2,h40⟩:=hpo x hmx;obtain⟨adx,eAx,hadx,e0,e1⟩:=Vk Vy hpr.rd (k:=j) (by have:=hps.len;omega) (u:=.int .i64 x.lba) (v:=.slice x.A x.n x.c) (by rw[hx];rfl);subst eAx;rw[h40] at e1;obtain⟨wB,hwB⟩:=nC (wr.alloc (.cells #[.int .i64 x.lba,.slice x.A 40 x.c] 50));have hBB:Bk wB wr.heap.size 50 [.int .i64 x.lba,.slice x.A 40 x.c]:=by rw[←hwB];exact Bk.new wr _ _
 have hbB:nD wr wB:=by rw[←hwB];exact nB.alloc lR _
 obtain⟨d0,d1⟩:=hBB.c2;obtain⟨q0,_⟩:=aDv (hB.next (hE.bel.trans (hbB.mono hE.bel.size)) hB.lt);have hxy:=(hpr.y x hmx).ag (F:=fun _=>True) (.of_below hbB);rw[h40] at hxy;have hen:=aDx 1 ep num x.lba x.A 40 x.c x.bs wB (by decide) hep (aKb hnum) (aUl h1 h2) hxy.b lR;obtain⟨n1,n2,m2⟩:=aFv hlt (by omega);obtain⟨vA,vc,rfl⟩:=Xs hE.row.own;have hy5:=bIa hl hS hlt hx16;have HE:=nJ hE hl hlt hbB hT;have HXY:=nJ hxy.b.len hep (aKb hnum) (aUl h1 h2) h2;clear hB hps hpo hnum hep hT hE hl hlt hpr hx hmx h1 h2 h40 hadx hBB hbB hxy hx16 hS;conv=>arg 2;whnf
 go_wp2_with fail
 refine hen.mono ?_;rintro e wC ⟨⟨v,b2,rfl,hby,hl64,e60⟩,hbC⟩;have HLG:=hid (aZj e60 HXY.o.1 HXY.o.2.1 HXY.o.2.2.1 HXY.o.2.2.2.1 HXY.o.2.2.2.2);clear e60;obtain⟨zA,zc,rfl⟩:=Xs (aBs hl64 hby.1);obtain⟨wD,hwD⟩:=nC (wC.alloc (.cells #[.slice zA 64 zc] 41));have hBD:Bk wD wC.heap.size 41 [.slice zA 64 zc]:=by rw[←hwD];exact Bk.new wC _ _
 have hbD:nD wC wD:=by rw[←hwD];exact nB.alloc lR _
 have hrD:nD wr wD:=(HE.o.2.2.2.1.trans (hbC.mono HE.o.2.2.2.1.size)).trans (hbD.mono (tK HE.o.2.2.2.1.size hbC.size));have HD:=nJ hBD hrD ((hby.next hbD).base HE.o.2.2.2.1.size) hl64 (HE.o.1.next hrD);clear hen hby hl64 hbC hBD hbD hrD;go_wp2_with (at_builtin;go_must (refine aAc _ rfl _ _ 133 rfl w6.heap.size 41 xi xz 1 24 underlying133 hxi hxz hx5 hx56 hxc (by decide) _ _ _ (by rfl) (by exact HD.o.2.2.2.2.row.own) _ [.slice zA 64 zc] (by rfl) (by exact HD.o.1) rfl (by intro u hu;simp at hu;rcases hu with rfl<;>rfl) (by exact hy5) (by decide) (by exact HD.o.2.2.2.2.bel.size) ?_);intro v9 w9 hO9 hG9 hv9;obtain⟨sA,sc,rfl⟩:=Xs hO9)
 have hG9':wD.grownBy w9 (Value.slice vA ys.length vc).ownBlock:=hG9;have hTD:=HE.o.2.2.2.2.next HD.o.2.1 HE.o.2.2.2.2.lt;have HZ:=nF (EnX.out HE.o.1 HD.o.2.1 HD.o.2.2.1 HD.o.2.2.2.1 rfl hO9 hG9' HLG.o) (aCt hTD hG9' (Vc HD.o.2.2.2.2.row.own hTD (by decide)));clear hO9 hG9 hG9' hv9 hTD e0 e1 d0 d1 q0;go_wp2_with fail
 refine⟨?_,?_⟩
 · refine EII.mk ?_;exact⟨j+1,_,HE.o.2.2.1,Va (by first|rfl|exact m2),HZ.o.2,HZ.o.1,by rw[rH,HE.o.2.1];rfl⟩
 · rw[aPm,aPm];exact Xw HE.o.2.2.1 (by first|rfl|exact m2)
theorem bDe (g gx xn xc j:Nat) (xA:Option Addr) (ep:Int) (w'':World) (c0 c3 c5 c6 c7 c8 c9 qM jL jM jN jO jP jQ jR jS jT jU jV jW jX jY jZ zB zC zD zE zF zG zH zI zJ zK Xr zM zN zO zP zQ zR zS zT zU zV zW zX zY yY yZ xB xC xD xE xF xG xH xI xJ xK xL xM xN xO xP xQ xR xS xT xU xV qC qD qE qF qG qH qI qJ qK qL qN qO qP qQ qR qS qT qU qV qW qY qZ u4 vU pE pF hU gA gB gC gD gE gF gG gH gI gJ gK gL gM gN gO gP gQ gR gT:Value) (Q:Exit→Act→World→Prop) (hk:j=xn) (h:∀hU:Value,Q (.exit 2) ⟨#[c0,.int .i64 ep,.pointer (some ⟨g,0,none⟩),c3,u4,c5,c6,c7,c8,c9,.pointer (some ⟨gx,0,none⟩),qM,vU,pE,pF,jL,jM,jN,jO,jP,jQ,jR,jS,jT,jU,jV,jW,jX,jY,jZ,zB,zC,zD,zE,zF,zG,zH,zI,zJ,zK,Xr,zM,zN,zO,zP,zQ,zR,zS,zT,zU,zV,zW,zX,zY,.slice xA xn xc,.int .i64 (xn:Int),.int .i64 (j:Int),hU,gA,gB,gC,gD,gE,gF,gG,gH,gI,gJ,gK,gL,gM,gN,gO,gP,gQ,gR,gT,yY,yZ,xB,xC,xD,xE,xF,xG,xH,xI,xJ,xK,xL,xM,xN,xO,xP,xQ,xR,xS,xT,xU,xV,qC,qD,qE,qF,qG,qH,qI,qJ,qK,qL,qN,qO,qP,qQ,qR,qS,qT,qU,qV,qW,qY,qZ],[]⟩ w'') :
  Code.wp prog (aBn f109 0 0) Q ⟨#[c0,.int .i64 ep,.pointer (some ⟨g,0,none⟩),c3,u4,c5,c6,c7,c8,c9,.pointer (some ⟨gx,0,none⟩),qM,vU,pE,pF,jL,jM,jN,jO,jP,jQ,jR,jS,jT,jU,jV,jW,jX,jY,jZ,zB,zC,zD,zE,zF,zG,zH,zI,zJ,zK,Xr,zM,zN,zO,zP,zQ,zR,zS,zT,zU,zV,zW,zX,zY,.slice xA xn xc,.int .i64 (xn:Int),.int .i64 (j:Int),hU,gA,gB,gC,gD,gE,gF,gG,gH,gI,gJ,gK,gL,gM,gN,gO,gP,gQ,gR,gT,yY,yZ,xB,xC,xD,xE,xF,xG,xH,xI,xJ,xK,xL,xM,xN,xO,xP,xQ,xR,xS,xT,xU,xV,qC,qD,qE,qF,qG,qH,qI,qJ,qK,qL,qN,qO,qP,qQ,qR,qS,qT,qU,qV,qW,qY,qZ],[]⟩ w'':=by
 subst hk;have n0:¬(j:Int)<(j:Int):=Int.lt_irrefl _;conv=>arg 2;whnf
 go_wp2_with fail
 exact h _
theorem aYi (w6 wr:World) (g gx xn xc c:Nat) (A xA:Option Addr) (n:Nat) (ep num T:Int) (bs:List Int) (S:Nat) (ps:List Vd) (c0 c3 c5 c6 c7 c8 c9 qM jL jM jN jO jP jQ jR jS jT jU jV jW jX jY jZ zB zC zD zE zF zG zH zI zJ zK Xr zM zN zO zP zQ zR zS zT zU zV zW zX zY yY yZ xB xC xD xE xF xG xH xI xJ xK xL xM xN xO xP xQ xR xS xT xU xV qC qD qE qF qG qH qI qJ qK qL qN qO qP qQ qR qS qT qU qV qW qY qZ u4 vU pE pF hJ hU gA gB gC gD gE gF gG gH gI gJ gK gL gM gN gO gP gQ gR gT:Value) (Q0:Exit→Act→World→Prop)
  (hB:Bk w6 g 107 [.int .i64 num,.slice A n c]) (hps:Uh w6 xA xn xc ps) (hpo:∀p∈ps,0≤p.lba∧p.lba<258∧p.n=40) (hnum:1≤num∧num≤1000) (hep:0≤ep∧ep≤4294967295) (hx16:xn≤16) (hS:S≤32)
  (h0:∃(j:Nat) (ys:List BR),j≤xn∧hJ=.int .i64 (j:Int)∧Bk wr gx 196 [.int .i64 T,.slice xA xn xc]∧EnX w6 wr u4 c7 ys bs∧ys.length=S+j)
  (hexit:∀(u4 vU pE pF hJ hU gA gB gC gD gE gF gG gH gI gJ gK gL gM gN gO gP gQ gR gT:Value) (w':World),(∃ys:List BR,Bk w' gx 196 [.int .i64 T,.slice xA xn xc]∧EnX w6 w' u4 c7 ys bs∧ys.length=S+xn)→Q0 (.exit 2) ⟨#[c0,.int .i64 ep,.pointer (some ⟨g,0,none⟩),c3,u4,c5,c6,c7,c8,c9,.pointer (some ⟨gx,0,none⟩),qM,vU,pE,pF,jL,jM,jN,jO,jP,jQ,jR,jS,jT,jU,jV,jW,jX,jY,jZ,zB,zC,zD,zE,zF,zG,zH,zI,zJ,zK,Xr,zM,zN,zO,zP,zQ,zR,zS,zT,zU,zV,zW,zX,zY,.slice xA xn xc,.int .i64 (xn:Int),hJ,hU,gA,gB,gC,gD,gE,gF,gG,gH,gI,gJ,gK,gL,gM,gN,gO,gP,gQ,gR,gT,yY,yZ,xB,xC,xD,xE,xF,xG,xH,xI,xJ,xK,xL,xM,xN,xO,xP,xQ,xR,xS,xT,xU,xV,qC,qD,qE,qF,qG,qH,qI,qJ,qK,qL,qN,qO,qP,qQ,qR,qS,qT,qU,qV,qW,qY,qZ],[]⟩ w') :
  Code.wp prog (Code.loop (aBn f109 0 0)) Q0 ⟨#[c0,.int .i64 ep,.pointer (some ⟨g,0,none⟩),c3,u4,c5,c6,c7,c8,c9,.pointer (some ⟨gx,0,none⟩),qM,vU,pE,pF,jL,jM,jN,jO,jP,jQ,jR,jS,jT,jU,jV,jW,jX,jY,jZ,zB,zC,zD,zE,zF,zG,zH,zI,zJ,zK,Xr,zM,zN,zO,zP,zQ,zR,zS,zT,zU,zV,zW,zX,zY,.slice xA xn xc,.int .i64 (xn:Int),hJ,hU,gA,gB,gC,gD,gE,gF,gG,gH,gI,gJ,gK,gL,gM,gN,gO,gP,gQ,gR,gT,yY,yZ,xB,xC,xD,xE,xF,xG,xH,xI,xJ,xK,xL,xM,xN,xO,xP,xQ,xR,xS,xT,xU,xV,qC,qD,qE,qF,qG,qH,qI,qJ,qK,qL,qN,qO,qP,qQ,qR,qS,qT,qU,qV,qW,qY,qZ],[]⟩ wr:=by
 refine wp_loop (EII w6 g gx xn xc xA ep T bs S c0 c3 c5 c6 c7 c8 c9 qM jL jM jN jO jP jQ jR jS jT jU jV jW jX jY jZ zB zC zD zE zF zG zH zI zJ zK Xr zM zN zO zP zQ zR zS zT zU zV zW zX zY yY yZ xB xC xD xE xF xG xH xI xJ xK xL xM xN xO xP xQ xR xS xT xU xV qC qD qE qF qG qH qI qJ qK qL qN qO qP qQ qR qS qT qU qV qW qY qZ) (aYj xn) (EII.mk h0) (fun a w'' hI=>?_);unfold EII at hI;obtain⟨v4,bQ,bY,bZ,dQ,v57,dR,dS,dT,dU,dV,v63,v64,dW,v66,dX,dY,dZ,v70,mA,v72,mB,mC,v75,v76,hI⟩:=hI;obtain⟨⟨j,ys,hj,e56,hT,hE,hl⟩,rfl⟩:=hI;subst e56;rcases tN j xn with hlt|hge
 · exact aUi w6 w'' g gx xn xc c A xA n ep num T bs S j ps ys _ _ _ _ _ _ _ _ _ _ _ _ _ _ _ _ _ _ _ _ _ _ _ _ _ _ _ _ _ _ _ _ _ _ _ _ _ _ _ _ _ _ _ _ _ _ _ _ _ _ _ _ _ _ _ _ _ _ _ _ _ _ _ _ _ _ _ _ _ _ _ _ _ _ _ _ _ _ _ _ _ _ _ _ _ _ _ _ _ _ _ _ _ _ _ _ _ _ _ _ _ _ _ _ _ _ _ _ _ _ _ _ _ _ _ _ Q0 hB hps hpo hnum hep hx16 hS hT hE hl hlt
 · have e:j=xn:=tQ hj hge;subst e;exact bDe g gx j xc j xA ep w'' _ _ _ _ _ _ _ _ _ _ _ _ _ _ _ _ _ _ _ _ _ _ _ _ _ _ _ _ _ _ _ _ _ _ _ _ _ _ _ _ _ _ _ _ _ _ _ _ _ _ _ _ _ _ _ _ _ _ _ _ _ _ _ _ _ _ _ _ _ _ _ _ _ _ _ _ _ _ _ _ _ _ _ _ _ _ _ _ _ _ _ _ _ _ _ _ _ _ _ _ _ _ _ _ _ _ _ _ _ _ _ _ _ _ _ _ _ rfl (fun _=>hexit _ _ _ _ _ _ _ _ _ _ _ _ _ _ _ _ _ _ _ _ _ _ _ _ _ w'' ⟨ys,hT,hE,hl⟩)
def EOI (w6:World) (g n c:Nat) (ad:Addr) (ep:Int) (ts:List TxD) (c0 c3 c5 c6 c9 qM jM jN jO jP jQ jR jS jT jU jV jW jX jY jZ zB zC zD zE zF zG zH zI zJ zK Xr zM zN zO zP zQ zR xO xP xQ xR xS xT xU xV qC qD qE qF qG qH qI qJ qK qL qN qO qP qQ qR qS qT qU qV qW qY qZ:Value) (a:Act) (wr:World):Prop :=
 ∃u4 u7 u8 xW vU pE pF pG kT kU kV kW kX kZ hC hJ hU gA gB gC gD gE gF gG gH gI gJ gK gL gM gN gO gP gQ gR gT gU gV gW gX gY gZ fA fC fD fE fF fG fH fI fJ:Value,(∃(k:Nat) (lt:Int) (xs:List BR) (bs:List Int),k≤n∧kT=.int .i64 (k:Int)∧u8=.int .i64 lt∧EnX w6 wr u4 u7 xs bs∧xs.length=((ts.take k).map (·.n)).sum∧LtT ts bs k lt)∧a=⟨#[c0,.int .i64 ep,.pointer (some ⟨g,0,none⟩),c3,u4,c5,c6,u7,u8,c9,xW,qM,vU,pE,pF,pG,jM,jN,jO,jP,jQ,jR,jS,jT,jU,jV,jW,jX,jY,jZ,zB,zC,zD,zE,zF,zG,zH,zI,zJ,zK,Xr,zM,zN,zO,zP,zQ,zR,.slice (some ad) n c,.int .i64 (n:Int),kT,kU,kV,kW,kX,kZ,hC,hJ,hU,gA,gB,gC,gD,gE,gF,gG,gH,gI,gJ,gK,gL,gM,gN,gO,gP,gQ,gR,gT,gU,gV,gW,gX,gY,gZ,fA,fC,fD,fE,fF,fG,fH,fI,fJ,xO,xP,xQ,xR,xS,xT,xU,xV,qC,qD,qE,qF,qG,qH,qI,qJ,qK,qL,qN,qO,qP,qQ,qR,qS,qT,qU,qV,qW,qY,qZ],[]⟩
theorem EOI.mk {w6 wr:World} {g n c:Nat} {ad:Addr} {ep:Int} {ts:List TxD} {c0 c3 c5 c6 c9 qM jM jN jO jP jQ jR jS jT jU jV jW jX jY jZ zB zC zD zE zF zG zH zI zJ zK Xr zM zN zO zP zQ zR xO xP xQ xR xS xT xU xV qC qD qE qF qG qH qI qJ qK qL qN qO qP qQ qR qS qT qU qV qW qY qZ:Value} {u4 u7 u8 xW vU pE pF pG kT kU kV kW kX kZ hC hJ hU gA gB gC gD gE gF gG gH gI gJ gK gL gM gN gO gP gQ gR gT gU gV gW gX gY gZ fA fC fD fE fF fG fH fI fJ:Value} (h:∃(k:Nat) (lt:Int) (xs:List BR) (bs:List Int),k≤n∧kT=.int .i64 (k:Int)∧u8=.int .i64 lt∧EnX w6 wr u4 u7 xs bs∧xs.length=((ts.take k).map (·.n)).sum∧LtT ts bs k lt):EOI w6 g n c ad ep ts c0 c3 c5 c6 c9 qM jM jN jO jP jQ jR jS jT jU jV jW jX jY jZ zB zC zD zE zF zG zH zI zJ zK Xr zM zN zO zP zQ zR xO xP xQ xR xS xT xU xV qC qD qE qF qG qH qI qJ qK qL qN qO qP qQ qR qS qT qU qV qW qY qZ ⟨#[c0,.int .i64 ep,.pointer (some ⟨g,0,none⟩),c3,u4,c5,c6,u7,u8,c9,xW,qM,vU,pE,pF,pG,jM,jN,jO,jP,jQ,jR,jS,jT,jU,jV,jW,jX,jY,jZ,zB,zC,zD,zE,zF,zG,zH,zI,zJ,zK,Xr,zM,zN,zO,zP,zQ,zR,.slice (some ad) n c,.int .i64 (n:Int),kT,kU,kV,kW,kX,kZ,hC,hJ,hU,gA,gB,gC,gD,gE,gF,gG,gH,gI,gJ,gK,gL,gM,gN,gO,gP,gQ,gR,gT,gU,gV,gW,gX,gY,gZ,fA,fC,fD,fE,fF,fG,fH,fI,fJ,xO,xP,xQ,xR,xS,xT,xU,xV,qC,qD,qE,qF,qG,qH,qI,qJ,qK,qL,qN,qO,qP,qQ,qR,qS,qT,qU,qV,qW,qY,qZ],[]⟩ wr:=⟨u4,u7,u8,xW,vU,pE,pF,pG,kT,kU,kV,kW,kX,kZ,hC,hJ,hU,gA,gB,gC,gD,gE,gF,gG,gH,gI,gJ,gK,gL,gM,gN,gO,gP,gQ,gR,gT,gU,gV,gW,gX,gY,gZ,fA,fC,fD,fE,fF,fG,fH,fI,fJ,h,rfl⟩
def aYp (n:Nat) (a:Act) (_:World):Nat:=n - (intOf (a.tmps.getD 49 undef)).toNat
theorem aPp {n g c:Nat} {ad:Addr} {ep:Int} {w:World} {x:Int} {c0 c3 c5 c6 c9 qM jM jN jO jP jQ jR jS jT jU jV jW jX jY jZ zB zC zD zE zF zG zH zI zJ zK Xr zM zN zO zP zQ zR xO xP xQ xR xS xT xU xV qC qD qE qF qG qH qI qJ qK qL qN qO qP qQ qR qS qT qU qV qW qY qZ u4 u7 u8 xW vU pE pF pG kU kV kW kX kZ hC hJ hU gA gB gC gD gE gF gG gH gI gJ gK gL gM gN gO gP gQ gR gT gU gV gW gX gY gZ fA fC fD fE fF fG fH fI fJ:Value}:aYp n ⟨#[c0,.int .i64 ep,.pointer (some ⟨g,0,none⟩),c3,u4,c5,c6,u7,u8,c9,xW,qM,vU,pE,pF,pG,jM,jN,jO,jP,jQ,jR,jS,jT,jU,jV,jW,jX,jY,jZ,zB,zC,zD,zE,zF,zG,zH,zI,zJ,zK,Xr,zM,zN,zO,zP,zQ,zR,.slice (some ad) n c,.int .i64 (n:Int),.int .i64 x,kU,kV,kW,kX,kZ,hC,hJ,hU,gA,gB,gC,gD,gE,gF,gG,gH,gI,gJ,gK,gL,gM,gN,gO,gP,gQ,gR,gT,gU,gV,gW,gX,gY,gZ,fA,fC,fD,fE,fF,fG,fH,fI,fJ,xO,xP,xQ,xR,xS,xT,xU,xV,qC,qD,qE,qF,qG,qH,qI,qJ,qK,qL,qN,qO,qP,qQ,qR,qS,qT,qU,qV,qW,qY,qZ],[]⟩ w=n - x.toNat:=rfl
theorem bBp {w6 wr:World} {ad:Addr} {n c k:Nat} {ts:List TxD} {num:Int} (hT:Ki w6 (some ad) n c ts) (hok:OkB num ts) (hb:nD w6 wr) (hlt:k<n):∃x:TxD,wr.cell? (ad.add (k*2))=some (.int .i64 x.time)∧wr.cell? ⟨(ad.add (k*2)).block,(ad.add (k*2)).off+1,none⟩=some (.slice x.A x.n x.c)∧Uh w6 x.A x.n x.c x.ps∧(∀p∈x.ps,0≤p.lba∧p.lba<258∧p.n=40)∧x.n≤16∧((ts.take (k+1)).map (·.n)).sum=((ts.take k).map (·.n)).sum+x.n∧((ts.take k).map (·.n)).sum≤32∧ts[k]? =some x:=by
 have hl:=hT.len;obtain⟨x,hx⟩:=nC (ts[k]'(by omega));have hm:x∈ts:=by rw[←hx];exact rC _
 obtain⟨ad',e,_,e0,e1⟩:=Vk aAu (hT.next hb).rd (k:=k) (by omega) (u:=.int .i64 x.time) (v:=.slice x.A x.n x.c) (by rw[hx];rfl);injection e with e;subst e;exact⟨x,e0,e1,hT.y x hm,(hok.tx x hm).ps,(hok.tx x hm).n.2,aSd (by omega) hx,tK (aPw ts k) hok.sum,by rw[tX (by omega),hx]⟩
theorem bGl {a k n:Nat} (e:a=9+2*k) (h:k<n) (hn:n≤8):a+2≤1000000000:=by omega
theorem bGm {a k n:Nat} (e:a=9+2*k) (h:k<n) (hn:n≤8):(a+2)*1≤1000000000000:=by omega
theorem bDj (d:Int):∀x∈[d % 256,d / 256 % 256],0≤x∧x<256:=by
 intro x hx;simp at hx
 rcases hx with rfl|rfl<;>constructor<;>omega
theorem aUm (w6 wr:World) (g n c k:Nat) (ad:Addr) (ep num lt:Int) (ts:List TxD) (xs:List BR) (bs:List Int) (c0 c3 c5 c6 c9 qM jM jN jO jP jQ jR jS jT jU jV jW jX jY jZ zB zC zD zE zF zG zH zI zJ zK Xr zM zN zO zP zQ zR xO xP xQ xR xS xT xU xV qC qD qE qF qG qH qI qJ qK qL qN qO qP qQ qR qS qT qU qV qW qY qZ u4 u7 xW vU pE pF pG kU kV kW kX kZ hC hJ hU gA gB gC gD gE gF gG gH gI gJ gK gL gM gN gO gP gQ gR gT gU gV gW gX gY gZ fA fC fD fE fF fG fH fI fJ:Value) (Q0:Exit→Act→World→Prop)
  (hB:Bk w6 g 107 [.int .i64 num,.slice (some ad) n c]) (hT:Ki w6 (some ad) n c ts) (hok:OkB num ts) (hep:0≤ep∧ep≤4294967295) (hn:n≤8)
  (hE:EnX w6 wr u4 u7 xs bs) (hl:xs.length=((ts.take k).map (·.n)).sum) (hbl:LtT ts bs k lt) (hlt:k<n) :
  Code.wp prog (aEq f109 0) (Exit.then (fun a' w''=>EOI w6 g n c ad ep ts c0 c3 c5 c6 c9 qM jM jN jO jP jQ jR jS jT jU jV jW jX jY jZ zB zC zD zE zF zG zH zI zJ zK Xr zM zN zO zP zQ zR xO xP xQ xR xS xT xU xV qC qD qE qF qG qH qI qJ qK qL qN qO qP qQ qR qS qT qU qV qW qY qZ a' w''∧aYp n a' w'' <aYp n ⟨#[c0,.int .i64 ep,.pointer (some ⟨g,0,none⟩),c3,u4,c5,c6,u7,.int .i64 lt,c9,xW,qM,vU,pE,pF,pG,jM,jN,jO,jP,jQ,jR,jS,jT,jU,jV,jW,jX,jY,jZ,zB,zC,zD,zE,zF,zG,zH,zI,zJ,zK,Xr,zM,zN,zO,zP,zQ,zR,.slice (some ad) n c,.int .i64 (n:Int),.int .i64 (k:Int),kU,kV,kW,kX,kZ,hC,hJ,hU,gA,gB,gC,gD,gE,gF,gG,gH,gI,gJ,gK,gL,gM,gN,gO,gP,gQ,gR,gT,gU,gV,gW,gX,gY,gZ,fA,fC,fD,fE,fF,fG,fH,fI,fJ,xO,xP,xQ,xR,xS,xT,xU,xV,qC,qD,qE,qF,qG,qH,qI,qJ,qK,qL,qN,qO,qP,qQ,qR,qS,qT,qU,qV,qW,qY,qZ],[]⟩ wr) Q0) ⟨#[c0,.int .i64 ep,.pointer (some ⟨g,0,none⟩),c3,u4,c5,c6,u7,.int .i64 lt,c9,xW,qM,vU,pE,pF,pG,jM,jN,jO,jP,jQ,jR,jS,jT,jU,jV,jW,jX,jY,jZ,zB,zC,zD,zE,zF,zG,zH,zI,zJ,zK,Xr,zM,zN,zO,zP,zQ,zR,.slice (some ad) n c,.int .i64 (n:Int),.int .i64 (k:Int),kU,kV,kW,kX,kZ,hC,hJ,hU,gA,gB,gC,gD,gE,gF,gG,gH,gI,gJ,gK,gL,gM,gN,gO,gP,gQ,gR,gT,gU,gV,gW,gX,gY,gZ,fA,fC,fD,fE,fF,fG,fH,fI,fJ,xO,xP,xQ,xR,xS,xT,xU,xV,qC,qD,qE,qF,qG,qH,qI,qJ,qK,qL,qN,qO,qP,qQ,qR,qS,qT,qU,qV,qW,qY,qZ],[]⟩ wr:=by
 obtain⟨i0,hi,hz0,hz1,hz2⟩:=info_parts aBq;obtain⟨x,e0,e1,hps,hpo,hx16,hsum,hS,hxk⟩:=bBp hT hok hE.bel hlt;obtain⟨n1,n2,m2⟩:=aFv hlt (by omega);obtain⟨wA,hwA⟩:=nC (wr.alloc (.cells #[.int .i64 x.time,.slice x.A x.n x.c] 196));have hBA:Bk wA wr.heap.size 196 [.int .i64 x.time,.slice x.A x.n x.c]:=by rw[←hwA];exact Bk.new wr _ _
 have hbA:nD wr wA:=by rw[←hwA];exact nB.alloc lR _
 obtain⟨d0,d1⟩:=hBA.c2;have H:=nQ hB hps hpo hok.num hep hx16 hS hsum hl hbl hlt (hE.next hbA) hBA;have HN:=hid hn;have HLT:=hid (fun (d:Int) (hd:wrap64 (x.time - lt)=d)=>hbl.step hok hxk hd);obtain⟨T,hT2⟩:=nC (x.time);obtain⟨xn,hxn⟩:=nC (x.n);rw[hT2] at e0 d0 HLT;rw[hxn] at e1 d1;rw[hT2,hxn] at H;rw[hT2,hxn] at hwA;clear hB hT hok hep hn hE hl hbl hlt hps hpo hx16 hsum hS hBA hbA hT2 hxn hxk;conv=>arg 2;whnf
 go_wp2_with fail
 refine aYi w6 wA g wr.heap.size xn x.c c (some ad) x.A n ep num T bs ((ts.take k).map (·.n)).sum x.ps _ _ _ _ _ _ _ _ _ _ _ _ _ _ _ _ _ _ _ _ _ _ _ _ _ _ _ _ _ _ _ _ _ _ _ _ _ _ _ _ _ _ _ _ _ _ _ _ _ _ _ _ _ _ _ _ _ _ _ _ _ _ _ _ _ _ _ _ _ _ _ _ _ _ _ _ _ _ _ _ _ _ _ _ _ _ _ _ _ _ _ _ _ _ _ _ _ _ _ _ _ _ _ _ _ _ _ _ _ _ _ _ _ _ _ _ _ _ H.o.1 H.o.2.1 H.o.2.2.1 H.o.2.2.2.1 H.o.2.2.2.2.1 H.o.2.2.2.2.2.1 H.o.2.2.2.2.2.2.1 ⟨0,xs,zL,rfl,H.o.2.2.2.2.2.2.2.2.2.2.2.2,H.o.2.2.2.2.2.2.2.2.2.2.2.1,H.o.2.2.2.2.2.2.2.2.1⟩ ?_;intro v4 bQ bY bZ dQ v57 dR dS dT dU dV v63 v64 dW v66 dX dY dZ v70 mA v72 mB mC v75 v76 wr2 hX;obtain⟨ys,hT2,hE2,hl2⟩:=hX;obtain⟨q0,_⟩:=aDv hT2;obtain⟨bA,bc,rfl⟩:=Xs hE2.body.1;obtain⟨oA,oc,rfl⟩:=Xs hE2.row.own;obtain⟨d,hd⟩:=nC (wrap64 (T - lt));obtain⟨wB,hwB⟩:=nC (wr2.alloc (.cells #[.int .u8 (d % 256),.int .u8 (d / 256 % 256)] 5));have hBB:Bk wB wr2.heap.size 5 [.int .u8 (d % 256),.int .u8 (d / 256 % 256)]:=by rw[←hwB];exact Bk.new wr2 _ _
 have hbB:nD wr2 wB:=by rw[←hwB];exact nB.alloc lR _
 have HZ:=nJ hE2 hl2 hBB hbB (hE2.next hbB);clear hT2 hE2 hl2 e0 e1 d0 d1 hBB hbB;go_wp2_with (at_builtin;go_must (refine aAa _ rfl _ _ 41 rfl w6.heap.size 5 i0 (.int .u8 0) 1 1 underlying41 hi hz0 hz1 hz2 rfl (by decide) _ _ _ (by rfl) (by exact HZ.o.2.2.2.2.body.1) _ _ 2 2 [.int .u8 (d % 256),.int .u8 (d / 256 % 256)] (by rfl) (by rfl) (by exact(HZ.o.2.2.1).rd) (by intro u hu;simp at hu;rcases hu with rfl|rfl<;>rfl) (by exact bGl H.o.2.2.2.2.2.2.2.2.2.1.len H.o.2.2.2.2.2.2.2.2.2.2.1 HN.o) (by exact bGm H.o.2.2.2.2.2.2.2.2.2.1.len H.o.2.2.2.2.2.2.2.2.2.2.1 HN.o) (by exact HZ.o.2.2.2.2.bel.size) ?_);intro v9 w9 hO9 hG9 hv9;obtain⟨sA,sc,rfl⟩:=Xs hO9)
 have HY:=hid (EnX.more HZ.o.1 HZ.o.2.2.2.1 (ys:=[d % 256,d / 256 % 256]) hO9 (bDj d) hG9 hv9);clear hO9 hG9 hv9;go_wp2_with fail
 refine⟨?_,?_⟩
 · refine EOI.mk ?_;exact⟨k+1,T,ys,_,H.o.2.2.2.2.2.2.2.2.2.2.1,Va (by first|rfl|exact m2),rfl,HY.o,by rw[HZ.o.2.1];exact H.o.2.2.2.2.2.2.2.1.symm,HLT.o d hd⟩
 · rw[aPp,aPp];exact Xw H.o.2.2.2.2.2.2.2.2.2.2.1 (by first|rfl|exact m2)
end Go.Proofs.YtdhlicgaalnmoaaGreatDoor.Tp
