/- Contracts of the program's functions, and laws on memory: a part of the proof of TopAlone. -/
import Derived.Test.YtdhlicgaalnmoaaGreatDoorZL
set_option linter.unusedSimpArgs false
set_option linter.unusedVariables false
namespace Go.Proofs.YtdhlicgaalnmoaaGreatDoor.Tp
open Lib (hid)
open Tryz
open Go.RowKit Go.Maps
set_option maxHeartbeats 8000000
set_option maxRecDepth 100000
theorem aLn {m:MS} (g:Vq m) (hn:m.num<1000) {n:Nat} (hle:n≤m.queue.length) (ok:Bool):Vq (aCm m ok n)∧(aCm m ok n).given=m.given∧(aCm m ok n).num≤m.num+1∧(aCm m ok n).txs.length=m.txs.length:=by
 cases ok with
 | false =>
   obtain⟨p1,p2,p3,_⟩:=aCo false n m;exact⟨(g.pops false n hle).1,p2,by show (m.pops false n).num≤_;rw[p1];exact tW _,p3⟩
 | true =>
   obtain⟨p1,p2,p3,_⟩:=aCo true n m;exact⟨((g.pops true n hle).1.num (k:=m.num+1) (by omega)).1,p2,lR,p3⟩
theorem bDm {w3 w4:World} {F1:Xt} {mb gm kb am g n:Nat} {m:MS} {es:List TE} {ok:Bool} (h:Vq m) (hg:g+1≤700) (hgv:m.given≤g) (hnum:m.num≤g) (htx:m.txs.length≤g) (hn:n≤m.queue.length) (h8:n≤8) (hd:aLm w3 w4 F1 mb gm kb am (aCm m ok n) es (128*g+16*n) (17*g)):∃F',Man w4 F' mb (aCm m ok n) (g+1)∧Kf F1 w3 w4∧Sb w3 F1 F'∧In w4 F':=by
 obtain⟨F',Ft',qv',h1,h2,h3,h4⟩:=hd;obtain⟨g1,g2,g3,g4⟩:=aLn h (by omega) hn ok;exact⟨F',⟨⟨Ft',gm,kb,am,qv',es,h1.up (by omega) (by omega) (by omega) (by omega)⟩,g1,by omega,by omega,by omega,hg⟩,h2,h3,h4⟩
theorem aSr {w w1 w2 w3 w4:World} {F F':Xt} {Ft:Nat→Xt} {sb gd mb gs pos num count g L:Nat} {ns:List Nat} {m m':MS} {r:Int} (h:Kh w F Ft sb gd mb gs pos num count ns m g) (hL1:1≤L) (hg:g+1≤700) (k1:Kf (Ft 1) w w1) (b2:nD w1 w2) (hw:aHz g w2 w3 (Ft 2) sb gd mb gs pos num L r) (hm:Man w4 F' mb m' (g+1)) (k4:Kf (Ft 1) w3 w4) (hs:Sb w3 (Ft 1) F') (hi:In w4 F') :
  (192<pos+L∧r=9∧Kc w w4 F sb (gp gd) pos m' (g+1))∨(pos+L≤192∧r=0∧Kc w w4 F sb (gp gd) (pos+L) m' (g+1)):=by
 have k12:Kf (Ft 1) w w2:=k1.next b2;rcases hw with ⟨h1,h2,h3⟩|⟨h1,h2,G,ns',w5,hd,z6,z7,k5,hG,hiG,k3,hb⟩
 · have k13:=k12.next h3;exact .inl ⟨h1,h2,h.mandR ⟨F',hm,k13.trans k4 (fun b q=>.inl q),fun b q=>(hs b q).imp id (tK k13.size),hi⟩⟩
 · have d:∀{i j:Nat},i≠j→Dis (Ft i) (Ft j):=fun hn=>h.fam.dis _ _ hn
   have hz3:w.heap.size≤w3.heap.size:=tK k12.size (tK k5.size k3.size);have hGw:Sb w (Ft 2) G:=fun b q=>(hG b q).imp id (tK k12.size)
   have f3:=h.fam.step (w':=w3) hz3 hGw (hiG.next k3.size);have p2:∀j,j≠2→Uu Ft 2 G j=Ft j:=fun j hn=>aAb Ft G hn
   have hs':Sb w3 (Uu Ft 2 G 1) F':=by rw[p2 1 (by decide)];exact hs
   have f4:=f3.step (w':=w4) k4.size hs' hi;have p1:∀j,j≠1→Uu (Uu Ft 2 G) 1 F' j=Uu Ft 2 G j:=fun j hn=>aAb _ F' hn
   have k4':Kf (Uu Ft 2 G 1) w3 w4:=by rw[p2 1 (by decide)];exact k4
   have nG:¬G sb:=fun q=>(hGw sb q).elim (fun r=>h.fam.dis 2 0 (by decide) sb r h.f0) (fun r=>by have:=h.fam.inn 0 sb h.f0;omega)
   have a24:Ag G w3 w4:=by have:=f3.ag (i:=2) k4' (by decide);rwa [Ua] at this
   obtain⟨inn,v,bs,hsl⟩:=h.slo;have s1:=hsl.ag (F:=Ft 3) (h.fam.ag k12 (by decide:(3:Nat)≠1)) h.f3;have s2:=s1.ag (F:=Ft 3) (k5.ag (h.fam.dis 3 2 (by decide))) h.f3;have s3:=s2.ag (F:=Ft 3) (k3.ag (fun b q r=>h.fam.dis 3 0 (by decide) b q (by have r:b=sb:=r;rw[r];exact h.f0))) h.f3;have s4:=s3.ag (F:=Ft 3) (k4.ag (h.fam.dis 3 1 (by decide))) h.f3;refine .inr ⟨h1,h2,orF (orF F G) F',⟨Uu (Uu Ft 2 G) 1 F',gd,mb,gs,num+1,count,ns',rfl,⟨f4,Bk.ag (F:=Ft 0) hb (k4.ag (h.fam.dis 0 1 (by decide))) h.f0,by rw[Ua];exact hm,?_,⟨inn,v,bs,s4⟩,by rw[p1 0 (by decide),p2 0 (by decide)];exact h.f0,by rw[p1 3 (by decide),p2 3 (by decide)];exact h.f3,z6,z7,h1,Nat.add_le_add h.num hL1,tM h.cnt⟩⟩,?_,?_,f4.lt⟩
   · rw[p1 2 (by decide),Ua];exact((hd.ag (k3.ag (fun b q r=>nG (by have r:b=sb:=r;exact r▸q)))).ag a24).up (tW g)
   · exact(((k12.mono (h.fam.sub 1)).trans (G:=F) (k5.mono (h.fam.sub 2)) (fun b q=>.inl q)).trans (G:=F) (k3.mono (fun b q=>by have q:b=sb:=q;rw[q];exact h.fam.sub 0 _ h.f0)) (fun b q=>.inl q)).trans (G:=F) (k4.mono (h.fam.sub 1)) (fun b q=>.inl q)
   · intro b q;rcases q with q|q
     · exact h.fam.sb hGw b q
     · exact(hs b q).imp (h.fam.sub 1 b) (tK hz3)
theorem bAy {w w2 w3:World} {F:Xt} {Ft:Nat→Xt} {sb gd mb gs pos num count g L:Nat} {ns:List Nat} {m:MS} {r:Int} (h:Kh w F Ft sb gd mb gs pos num count ns m g) (hb:Bk w2 sb 99 (Vh gd mb gs pos num)) (hw:aHz g w2 w3 (Ft 2) sb gd mb gs pos num L r) :
  (r=9∨r=0)∧w3.cell? ⟨sb,5,none⟩=some (.pointer (some ⟨mb,0,none⟩))∧Ag (Ft 1) w2 w3:=by
 rcases hw with ⟨_,h2,h3⟩|⟨_,h2,G,ns',w5,_,_,_,k5,_,_,k3,hb3⟩
 · exact⟨.inl h2,(Xx (hb.next h3 hb.lt)).2.2.2.1,.of_below h3⟩
 · exact⟨.inr h2,(Xx hb3).2.2.2.1,(k5.ag (h.fam.dis 1 2 (by decide))).trans (k3.ag (fun b q r=>h.fam.dis 1 0 (by decide) b q (by have r:b=sb:=r;rw[r];exact h.f0)))⟩
theorem aZr {a b:Int} {ts:List TxD} (h:OkB a ts) (hb:1≤b∧b≤1000):OkB b ts:=⟨hb,h.len,h.up,h.tx,h.sum⟩
theorem bDl {w w1 w2 w3 w4:World} {F:Xt} {Ft Fm:Nat→Xt} {sb gd mb gs gm kb am pos num count g n c:Nat} {qv:Value} {A:Option Addr} {ts:List TxD} {ns:List Nat} {m:MS} {es:List TE} {r:Int} {ok:Bool} (h:Kh w F Ft sb gd mb gs pos num count ns m g) (hg:g+1≤700) (hq:m.queue≠[]) (hB:BaX w w1 (Ft 1) Fm mb gm kb am qv m es (128*g) (17*g) n c A ts) (b2:nD w1 w2) (hw:aHz g w2 w3 (Ft 2) sb gd mb gs pos num (1+(ts.map (·.n)).sum) r) (hok:ok=decide (r=0)) (hd:aLm w3 w4 (Ft 1) mb gm kb am (aCm m ok n) es (128*g+16*n) (17*g)) :
  ∃pos' m',flR m pos r pos' m'∧Kc w w4 F sb (gp gd) pos' m' (g+1):=by
 have h8:n≤8:=by rw[←hB.is.len];exact hB.ok.len.2
 obtain⟨F',hm,k4,hs,hi⟩:=bDm h.man.good hg h.man.giv h.man.num h.man.txs hB.le h8 hd;have hsum:=hB.ok.sum;rcases aSr h (tR 1 _) hg hB.kf b2 hw hm k4 hs hi with ⟨h1,h2,h3⟩|⟨h1,h2,h3⟩
 · subst h2;obtain rfl:ok=false:=by rw[hok];rfl
   exact⟨pos,_,.inr ⟨hq,n,_,hB.pos,hB.le,by omega,.inr ⟨h1,rfl,rfl,rfl⟩⟩,h3⟩
 · subst h2;obtain rfl:ok=true:=by rw[hok];rfl
   exact⟨_,_,.inr ⟨hq,n,_,hB.pos,hB.le,by omega,.inl ⟨h1,rfl,rfl,rfl⟩⟩,h3⟩
theorem aWh {w:World} {F:Xt} {Ft:Nat→Xt} {sb gd mb gs pos num count g:Nat} {ns:List Nat} {m:MS} (h:Kh w F Ft sb gd mb gs pos num count ns m g) (hg:g+1≤700) :
  Calls prog 19 #[.pointer (some ⟨sb,0,none⟩)] w fun e w'=>∃r:Int,e=.returned (.int .i64 r)∧∃pos' m',flR m pos r pos' m'∧Kc w w' F sb (gp gd) pos' m' (g+1):=by
 have hdd:=aAq sb gd mb gs pos num w h.bx;obtain⟨_,_,_,c5,_⟩:=Xx h.bx;obtain⟨Fm,gm,kb,am,qv,es,hx⟩:=h.man.x;have hgood:=h.man.good;have hql:=hgood.qlen;have hba:=aOj (Ft 1) Fm mb gm kb am qv m es _ _ w hx hgood (by rw[hx.len];have:=h.man.txs;omega) (by omega) (by have:=h.man.num;omega);have H:=nI h hg hx hql;clear h hx hgood hql hg;go_enter func19,ntmps19
 go_wp2_with fail
 refine hdd.mono ?_;rintro e w' ⟨rfl,rfl⟩;clear hdd;go_wp2_with fail
 refine hba.mono ?_;rintro e w1 (⟨hq,rfl,hb1⟩|⟨hq,n,c,A,ts,rfl,hB⟩)
 · have HR:=nF hq (fun o=>Kd.same H.o.1 H.o.2.1 (show nD w (w1.alloc o) from hb1.alloc hb1.size _));clear hba hq hb1 c5;go_wp2_with fail
   go_ret;exact⟨14,rfl,pos,m,.inl ⟨HR.o.1,rfl,rfl,rfl⟩,HR.o.2 _⟩
 · clear hba c5;obtain⟨w2,hw2⟩:=nC (w1.alloc (.cells #[.int .i64 ((m.num:Int)+1),.slice A n c] 107));have hb2:nD w1 w2:=by rw[←hw2];exact nB.alloc lR _
   have hBb:Bk w2 w1.heap.size 107 [.int .i64 ((m.num:Int)+1),.slice A n c]:=by rw[←hw2];exact Bk.new w1 _ _
   obtain⟨z0,z1⟩:=aDv hBb;have k12:Kf (Ft 1) w w2:=hB.kf.next hb2;have hst:Bk w2 sb 99 (Vh gd mb gs pos num):=Bk.ag H.o.1.bx (H.o.1.fam.ag k12 (by decide:(0:Nat)≠1)) H.o.1.f0;obtain⟨inn,v,bs,hsl⟩:=H.o.1.slo;have hwr:=aOw (Ft 2) sb gd mb gs pos num count n c ns inn ((m.num:Int)+1) v bs A ts g w2 hst (H.o.1.dev.ag (H.o.1.fam.ag k12 (by decide:(2:Nat)≠1))) (fun b q=>tL (H.o.1.fam.inn 2 b q) k12.size) (fun q=>H.o.1.fam.dis 2 0 (by decide) sb q H.o.1.f0) (hsl.ag (F:=Ft 3) (H.o.1.fam.ag k12 (by decide:(3:Nat)≠1)) H.o.1.f3) H.o.1.z6 H.o.1.z7 H.o.1.pos (by have:=H.o.1.num;have:=H.o.1.pos;omega) (by have:=H.o.1.cnt;have:=H.o.2.1;omega) (hB.is.next hb2) (aZr hB.ok (by have:=H.o.1.num;have:=H.o.1.pos;omega)) (fun t ht=>Int.le_trans (hB.tm t ht) (Int.ofNat_le.2 H.o.1.man.giv));have HB:=nI hB hb2 hst hq;clear hB hb2 hBb k12 hst hsl hq;go_wp2_with fail
   refine hwr.mono ?_;rintro e w3 ⟨r,rfl,hsw⟩;obtain⟨hr,zY,hag⟩:=bAy H.o.1 HB.o.2.2.1 hsw;have hm3:=(HB.o.1.man.next HB.o.2.1).ag hag;have h8:n≤8:=by rw[←HB.o.1.is.len];exact HB.o.1.ok.len.2
   have hdn:=aRv (Ft 1) Fm mb gm kb am qv n m es (128*g) (17*g) r (decide (r=0)) w3 hm3 H.o.1.man.good (by rw[H.o.2.2.1.len];have:=H.o.1.man.txs;have:=H.o.2.1;omega) (by have:=H.o.2.2.2;omega) ⟨HB.o.1.pos,HB.o.1.le⟩ (by have:=H.o.2.1;omega) (by have:=H.o.2.1;omega) rfl;have HS:=hid hsw;clear hwr hsw hag hm3 h8 z0 z1;have HE:=hid (fun (w4:World) (hd:aLm w3 w4 (Ft 1) mb gm kb am (aCm m (decide (r=0)) n) es (128*g+16*n) (17*g))=>bDl H.o.1 H.o.2.1 HB.o.2.2.2 HB.o.1 HB.o.2.1 HS.o rfl hd);rcases hr with rfl|rfl
   · go_wp2_with fail
     refine hdn.mono ?_;rintro e w4 ⟨rfl,hd⟩;have HF:=hid (HE.o w4 hd);clear hdn hd;go_wp2_with fail
     go_ret;exact⟨_,rfl,HF.o⟩
   · go_wp2_with fail
     refine hdn.mono ?_;rintro e w4 ⟨rfl,hd⟩;have HF:=hid (HE.o w4 hd);clear hdn hd;go_wp2_with fail
     go_ret;exact⟨_,rfl,HF.o⟩
structure EmX (T:Nat) (w5 wr:World) (F2:Xt) (gd z:Nat):Prop where
 dev:∃Fi nsi a b,Ut T wr Fi gd nsi∧nsi[6]? =some a∧nsi[7]? =some b∧(7≤z→a=0)∧(8≤z→b=0)∧Sb w5 F2 Fi∧In wr Fi
 kf:Kf F2 w5 wr
structure CpH (w5:World) (F2:Xt) (sb gd mb gs pos num:Nat):Prop where
 bx:Bk w5 sb 99 (Vh gd mb gs pos num)
 f2:¬F2 sb
def CPI (T:Nat) (w5:World) (F2:Xt) (sb gd:Nat) (c1 c2 c7 c8 c9 qB qM qX jC jK jL jM jN jO jP jQ zW zX zY zZ yB yC yE yF yG yH yI:Value) (a:Act) (wr:World):Prop :=
 ∃u3 u4 u5 u6 pJ pK pL pM pN pO pP pQ pR pS pT pU pV pW pX pY pZ kB kC kG kH kI kJ kK kN kO kP kQ kT kU:Value,(∃z:Nat,6≤z∧z≤8∧u3=.int .i64 0∧u4=.int .i64 (z:Int)∧EmX T w5 wr F2 gd z)∧a=⟨#[.pointer (some ⟨sb,0,none⟩),c1,c2,u3,u4,u5,u6,c7,c8,c9,qB,qM,qX,jC,jK,jL,jM,jN,jO,jP,jQ,pJ,pK,pL,pM,pN,pO,pP,pQ,pR,pS,pT,pU,pV,pW,pX,pY,pZ,kB,kC,kG,kH,kI,kJ,kK,kN,kO,kP,kQ,kT,kU,zW,zX,zY,zZ,yB,yC,yE,yF,yG,yH,yI],[]⟩
theorem CPI.mk {T:Nat} {w5 wr:World} {F2:Xt} {sb gd:Nat} {c1 c2 c7 c8 c9 qB qM qX jC jK jL jM jN jO jP jQ zW zX zY zZ yB yC yE yF yG yH yI:Value} {u3 u4 u5 u6 pJ pK pL pM pN pO pP pQ pR pS pT pU pV pW pX pY pZ kB kC kG kH kI kJ kK kN kO kP kQ kT kU:Value} (h:∃z:Nat,6≤z∧z≤8∧u3=.int .i64 0∧u4=.int .i64 (z:Int)∧EmX T w5 wr F2 gd z):CPI T w5 F2 sb gd c1 c2 c7 c8 c9 qB qM qX jC jK jL jM jN jO jP jQ zW zX zY zZ yB yC yE yF yG yH yI ⟨#[.pointer (some ⟨sb,0,none⟩),c1,c2,u3,u4,u5,u6,c7,c8,c9,qB,qM,qX,jC,jK,jL,jM,jN,jO,jP,jQ,pJ,pK,pL,pM,pN,pO,pP,pQ,pR,pS,pT,pU,pV,pW,pX,pY,pZ,kB,kC,kG,kH,kI,kJ,kK,kN,kO,kP,kQ,kT,kU,zW,zX,zY,zZ,yB,yC,yE,yF,yG,yH,yI],[]⟩ wr:=⟨u3,u4,u5,u6,pJ,pK,pL,pM,pN,pO,pP,pQ,pR,pS,pT,pU,pV,pW,pX,pY,pZ,kB,kC,kG,kH,kI,kJ,kK,kN,kO,kP,kQ,kT,kU,h,rfl⟩
def aYc (n:Nat) (a:Act) (_:World):Nat:=n - (intOf (a.tmps.getD 4 undef)).toNat
theorem aGq {sb:Nat} {w:World} {x:Int} {c1 c2 c7 c8 c9 qB qM qX jC jK jL jM jN jO jP jQ zW zX zY zZ yB yC yE yF yG yH yI u5 u6 pJ pK pL pM pN pO pP pQ pR pS pT pU pV pW pX pY pZ kB kC kG kH kI kJ kK kN kO kP kQ kT kU:Value}:aYc 8 ⟨#[.pointer (some ⟨sb,0,none⟩),c1,c2,.int .i64 0,.int .i64 x,u5,u6,c7,c8,c9,qB,qM,qX,jC,jK,jL,jM,jN,jO,jP,jQ,pJ,pK,pL,pM,pN,pO,pP,pQ,pR,pS,pT,pU,pV,pW,pX,pY,pZ,kB,kC,kG,kH,kI,kJ,kK,kN,kO,kP,kQ,kT,kU,zW,zX,zY,zZ,yB,yC,yE,yF,yG,yH,yI],[]⟩ w=8 - x.toNat:=rfl
theorem aUc {z:Nat} (h:z<8):(z:Int)≤7∧wrap64 ((z:Int)+1)=(z:Int)+1:=⟨by omega,by unfold wrap64;omega⟩
theorem bCz {T:Nat} {w5 wr:World} {F2:Xt} {sb gd mb gs pos num z:Nat} (H:CpH w5 F2 sb gd mb gs pos num) (hx:EmX T w5 wr F2 gd z) (h6:6≤z) (h8:z<8):∃(Fi:Xt) (nsi:List Nat) (k:Nat),Ut T wr Fi gd nsi∧nsi[z]? =some k∧Sb w5 F2 Fi∧In wr Fi∧Bk wr sb 99 (Vh gd mb gs pos num)∧¬Fi sb∧
  (k=0→EmX T w5 wr F2 gd (z+1))∧∀w',Ut T w' Fi gd (nsi.set z 0)→Kf Fi wr w'→EmX T w5 w' F2 gd (z+1):=by
 obtain⟨⟨Fi,nsi,a,b,hd,ha,hb,h7,h8',hsb,hin⟩,hkf⟩:=hx;have hbx:Bk wr sb 99 (Vh gd mb gs pos num):=Bk.ag (F:=fun b=>b=sb) H.bx (hkf.ag (fun b q r=>H.f2 (by have q:b=sb:=q;exact q▸r))) rfl;have hnf:¬Fi sb:=fun q=>(hsb sb q).elim H.f2 (fun r=>by have:=H.bx.lt;omega)
 have l6:=Vi ha;have l7:=Vi hb;rcases(by omega:z=6∨z=7) with rfl|rfl
 · refine⟨Fi,nsi,a,hd,ha,hsb,hin,hbx,hnf,fun e=>⟨⟨Fi,nsi,a,b,hd,ha,hb,fun _=>e,fun q=>by omega,hsb,hin⟩,hkf⟩,fun w' hd' k'=>⟨⟨Fi,_,0,b,hd',by rw[rD,if_pos rfl,if_pos l6],by rw[rD,if_neg (by decide)];exact hb,fun _=>rfl,fun q=>by omega,hsb,fun b q=>tL (hin b q) k'.size⟩,hkf.trans k' hsb⟩⟩
 · refine⟨Fi,nsi,b,hd,hb,hsb,hin,hbx,hnf,fun e=>⟨⟨Fi,nsi,a,b,hd,ha,hb,fun _=>h7 lR,fun _=>e,hsb,hin⟩,hkf⟩,fun w' hd' k'=>⟨⟨Fi,_,a,0,hd',by rw[rD,if_neg (by decide)];exact ha,by rw[rD,if_pos rfl,if_pos l7],fun _=>h7 lR,fun _=>rfl,hsb,fun b q=>tL (hin b q) k'.size⟩,hkf.trans k' hsb⟩⟩
theorem aUd (T:Nat) (w5 wr:World) (F2:Xt) (sb gd mb gs pos num z:Nat) (c1 c2 c7 c8 c9 qB qM qX jC jK jL jM jN jO jP jQ zW zX zY zZ yB yC yE yF yG yH yI u5 u6 pJ pK pL pM pN pO pP pQ pR pS pT pU pV pW pX pY pZ kB kC kG kH kI kJ kK kN kO kP kQ kT kU:Value) (Q0:Exit→Act→World→Prop) (H:CpH w5 F2 sb gd mb gs pos num) (hx:EmX T w5 wr F2 gd z) (h6:6≤z) (h8:z<8) :
  Code.wp prog (Ur Tryz.f18) (Exit.then (fun a' w''=>CPI T w5 F2 sb gd c1 c2 c7 c8 c9 qB qM qX jC jK jL jM jN jO jP jQ zW zX zY zZ yB yC yE yF yG yH yI a' w''∧aYc 8 a' w'' <aYc 8 ⟨#[.pointer (some ⟨sb,0,none⟩),c1,c2,.int .i64 0,.int .i64 (z:Int),u5,u6,c7,c8,c9,qB,qM,qX,jC,jK,jL,jM,jN,jO,jP,jQ,pJ,pK,pL,pM,pN,pO,pP,pQ,pR,pS,pT,pU,pV,pW,pX,pY,pZ,kB,kC,kG,kH,kI,kJ,kK,kN,kO,kP,kQ,kT,kU,zW,zX,zY,zZ,yB,yC,yE,yF,yG,yH,yI],[]⟩ wr) Q0) ⟨#[.pointer (some ⟨sb,0,none⟩),c1,c2,.int .i64 0,.int .i64 (z:Int),u5,u6,c7,c8,c9,qB,qM,qX,jC,jK,jL,jM,jN,jO,jP,jQ,pJ,pK,pL,pM,pN,pO,pP,pQ,pR,pS,pT,pU,pV,pW,pX,pY,pZ,kB,kC,kG,kH,kI,kJ,kK,kN,kO,kP,kQ,kT,kU,zW,zX,zY,zZ,yB,yC,yE,yF,yG,yH,yI],[]⟩ wr:=by
 obtain⟨Fi,nsi,k,hd,hk,hsb,hin,hbx,hnf,he0,heK⟩:=bCz H hx h6 h8;obtain⟨n1,m2⟩:=aUc h8;obtain⟨c0,c3,c4,_⟩:=Xx hbx;have hpo:=aMk hd.dev hk;have hre:=bAf hd hk h6;have HK:=nI h6 h8 he0 heK;clear hx h6 h8 he0 heK hd hk hsb hin hbx hnf;rcases tP k with hk0|hk0
 · subst hk0;clear hre;conv=>arg 2;whnf
   go_wp2_with fail
   refine hpo.mono ?_;rintro e w' ⟨rfl,rfl⟩;clear hpo;go_wp2_with fail
   refine⟨?_,?_⟩
   · refine CPI.mk ?_;exact⟨z+1,tM HK.o.1,HK.o.2.1,rfl,Va (by first|rfl|exact m2),HK.o.2.2.1 (by trivial)⟩
   · rw[aGq,aGq];exact Xw HK.o.2.1 (by first|rfl|exact m2)
 · have n2:(0:Int)<(k:Int):=by omega
   have n3:0<k:=hk0;conv=>arg 2;whnf
   go_wp2_with fail
   refine hpo.mono ?_;rintro e w' ⟨rfl,rfl⟩;clear hpo;go_wp2_with fail
   refine hre.mono ?_;rintro e w7 ⟨rfl,hd7,hk7⟩;have HE:=hid (HK.o.2.2.2 w7 hd7 hk7);clear hre hd7 hk7;go_wp2_with fail
   refine⟨?_,?_⟩
   · refine CPI.mk ?_;exact⟨z+1,tM HK.o.1,HK.o.2.1,rfl,Va (by first|rfl|exact m2),HE.o⟩
   · rw[aGq,aGq];exact Xw HK.o.2.1 (by first|rfl|exact m2)
theorem bCx (w5:World) (F2:Xt) (sb gd mb gs pos num z:Nat) (w'':World) (c1 c2 c7 c8 c9 qB qM qX jC jK jL jM jN jO jP jQ zW zX zY zZ yB yC yE yF yG yH yI u5 u6 pJ pK pL pM pN pO pP pQ pR pS pT pU pV pW pX pY pZ kB kC kG kH kI kJ kK kN kO kP kQ kT kU:Value) (Q:Exit→Act→World→Prop) (hk:z=8) (hbx:Bk w'' sb 99 (Vh gd mb gs pos num)) (h:∀u5 u6 pJ pK pL pM pN pO pP pQ pR pS pT pU pV pW pX pY pZ kB kC kG kH kI kJ kK kN kO kP kQ kT kU:Value,Q (.exit 0) ⟨#[.pointer (some ⟨sb,0,none⟩),c1,c2,.int .i64 0,.int .i64 (z:Int),u5,u6,c7,c8,c9,qB,qM,qX,jC,jK,jL,jM,jN,jO,jP,jQ,pJ,pK,pL,pM,pN,pO,pP,pQ,pR,pS,pT,pU,pV,pW,pX,pY,pZ,kB,kC,kG,kH,kI,kJ,kK,kN,kO,kP,kQ,kT,kU,zW,zX,zY,zZ,yB,yC,yE,yF,yG,yH,yI],[]⟩ w'') :
  Code.wp prog (Ur Tryz.f18) Q ⟨#[.pointer (some ⟨sb,0,none⟩),c1,c2,.int .i64 0,.int .i64 (z:Int),u5,u6,c7,c8,c9,qB,qM,qX,jC,jK,jL,jM,jN,jO,jP,jQ,pJ,pK,pL,pM,pN,pO,pP,pQ,pR,pS,pT,pU,pV,pW,pX,pY,pZ,kB,kC,kG,kH,kI,kJ,kK,kN,kO,kP,kQ,kT,kU,zW,zX,zY,zZ,yB,yC,yE,yF,yG,yH,yI],[]⟩ w'':=by
 subst hk;obtain⟨c0,c3,c4,_⟩:=Xx hbx;clear hbx;conv=>arg 2;whnf
 go_wp2_with fail
 exact h _ _ _ _ _ _ _ _ _ _ _ _ _ _ _ _ _ _ _ _ _ _ _ _ _ _ _ _ _ _ _ _
theorem aYb (T:Nat) (w5 wr:World) (F2:Xt) (sb gd mb gs pos num:Nat) (c1 c2 c7 c8 c9 qB qM qX jC jK jL jM jN jO jP jQ zW zX zY zZ yB yC yE yF yG yH yI u3 u4 u5 u6 pJ pK pL pM pN pO pP pQ pR pS pT pU pV pW pX pY pZ kB kC kG kH kI kJ kK kN kO kP kQ kT kU:Value) (Q0:Exit→Act→World→Prop) (H:CpH w5 F2 sb gd mb gs pos num) (h0:∃z:Nat,6≤z∧z≤8∧u3=.int .i64 0∧u4=.int .i64 (z:Int)∧EmX T w5 wr F2 gd z)
  (hexit:∀(u5 u6 pJ pK pL pM pN pO pP pQ pR pS pT pU pV pW pX pY pZ kB kC kG kH kI kJ kK kN kO kP kQ kT kU:Value) (w':World),EmX T w5 w' F2 gd 8→Q0 (.exit 0) ⟨#[.pointer (some ⟨sb,0,none⟩),c1,c2,.int .i64 0,.int .i64 ((8:Nat):Int),u5,u6,c7,c8,c9,qB,qM,qX,jC,jK,jL,jM,jN,jO,jP,jQ,pJ,pK,pL,pM,pN,pO,pP,pQ,pR,pS,pT,pU,pV,pW,pX,pY,pZ,kB,kC,kG,kH,kI,kJ,kK,kN,kO,kP,kQ,kT,kU,zW,zX,zY,zZ,yB,yC,yE,yF,yG,yH,yI],[]⟩ w') :
  Code.wp prog (Code.loop (Ur Tryz.f18)) Q0 ⟨#[.pointer (some ⟨sb,0,none⟩),c1,c2,u3,u4,u5,u6,c7,c8,c9,qB,qM,qX,jC,jK,jL,jM,jN,jO,jP,jQ,pJ,pK,pL,pM,pN,pO,pP,pQ,pR,pS,pT,pU,pV,pW,pX,pY,pZ,kB,kC,kG,kH,kI,kJ,kK,kN,kO,kP,kQ,kT,kU,zW,zX,zY,zZ,yB,yC,yE,yF,yG,yH,yI],[]⟩ wr:=by
 refine wp_loop (CPI T w5 F2 sb gd c1 c2 c7 c8 c9 qB qM qX jC jK jL jM jN jO jP jQ zW zX zY zZ yB yC yE yF yG yH yI) (aYc 8) (CPI.mk h0) (fun a w'' hI=>?_);unfold CPI at hI;obtain⟨v3,v4,v5,v6,dD,v22,v23,v24,v25,v26,v27,v28,dE,dF,v31,v32,v33,dG,v35,v36,v37,dH,v39,dI,v41,dJ,dK,v44,v45,v46,dL,dM,dN,v50,hI⟩:=hI;obtain⟨⟨z,h6,h8,e3,e4,hx⟩,rfl⟩:=hI;subst e3 e4;rcases tN z 8 with hlt|hge
 · exact aUd T w5 w'' F2 sb gd mb gs pos num z _ _ _ _ _ _ _ _ _ _ _ _ _ _ _ _ _ _ _ _ _ _ _ _ _ _ _ _ _ _ _ _ _ _ _ _ _ _ _ _ _ _ _ _ _ _ _ _ _ _ _ _ _ _ _ _ _ _ _ Q0 H hx h6 hlt
 · have e:z=8:=tQ h8 hge;subst e;have hbx:Bk w'' sb 99 (Vh gd mb gs pos num):=Bk.ag (F:=fun b=>b=sb) H.bx (hx.kf.ag (fun b q r=>H.f2 (by have q:b=sb:=q;exact q▸r))) rfl;exact bCx w5 F2 sb gd mb gs pos num 8 w'' _ _ _ _ _ _ _ _ _ _ _ _ _ _ _ _ _ _ _ _ _ _ _ _ _ _ _ _ _ _ _ _ _ _ _ _ _ _ _ _ _ _ _ _ _ _ _ _ _ _ _ _ _ _ _ _ _ _ _ _ rfl hbx (fun _ _ _ _ _ _ _ _ _ _ _ _ _ _ _ _ _ _ _ _ _ _ _ _ _ _ _ _ _ _ _ _=>hexit _ _ _ _ _ _ _ _ _ _ _ _ _ _ _ _ _ _ _ _ _ _ _ _ _ _ _ _ _ _ _ _ w'' hx)
theorem bCw {count g:Nat} (h:count≤g) (hg:g≤700):count≤1000000:=by omega
theorem bDa {w:World} {F:Xt} {Ft:Nat→Xt} {sb gd mb gs lz pos num count g:Nat} {ns:List Nat} {m:MS} (h:Kd w F Ft sb gd mb gs lz pos num count ns m g):¬(Ft 2 sb∨sb=gs):=fun q=>q.elim (fun r=>h.fam.dis 2 0 (by decide) sb r h.f0) (fun r=>h.fam.dis 3 0 (by decide) sb (by rw[r];exact h.f3) h.f0)
theorem bCy {w w1 w2 w7 w9:World} {F G:Xt} {Ft:Nat→Xt} {sb gd mb gs lz pos num count g:Nat} {ns:List Nat} {m:MS} {inn2:Int} {v2:Value} {bs2:List Int} (h:Kd w F Ft sb gd mb gs lz pos num count ns m g) (hg:g+1≤700) (hb:nD w w1) (hs2:Uz w2 gd gs inn2 v2 bs2 (count+1)) (hk2:Kf (fun b=>Ft 2 b∨b=gs) w1 w2) (hsb2:Sb w1 (Ft 2) G) (hin2:In w2 G) (hx:EmX (g+1) w2 w7 G gd 8) (k9:Kf (fun b=>b=sb) w7 w9) (hb9:Bk w9 sb 99 (Vh gd mb gs 0 0)):Kc w w9 F sb (gp gd) 0 m (g+1):=by
 obtain⟨⟨Fi,nsi,a,b,hd,ha,hb',h7,h8,hsb,hin⟩,hkf⟩:=hx;obtain rfl:=h7 (by decide);obtain rfl:=h8 (by decide);have hz:w.heap.size≤w2.heap.size:=tK hb.size hk2.size;have hGw:Sb w (Ft 2) G:=fun b q=>(hsb2 b q).imp id (tK hb.size)
 have hFw:Sb w (Ft 2) Fi:=fun b q=>(hsb b q).elim (hGw b) (fun r=>.inr (tK hz r))
 have k27:Kf (fun b=>Ft 2 b∨b=gs) w w7:=((Kf.of_below (F:=fun b=>Ft 2 b∨b=gs) hb).trans (G:=fun b=>Ft 2 b∨b=gs) hk2 (fun b q=>.inl q)).trans (G:=G) hkf (fun b q=>(hGw b q).imp .inl id);have ngs:¬G gs:=fun q=>(hGw gs q).elim (fun r=>h.fam.dis 2 3 (by decide) gs r h.f3) (fun r=>by have:=h.fam.inn 3 gs h.f3;omega)
 have hs7:=hs2.ag (F:=fun b=>b=gs) (hkf.ag (fun b q r=>ngs (by have q:b=gs:=q;exact q▸r))) rfl;obtain⟨F',Ft',g1,g2⟩:=(h.up hg).devd (pos':=0) (num':=0) (count':=count+1) k27 hFw hin hd ⟨_,_,_,hs7⟩ k9 hb9 ha hb' zL zL (tS h.cnt);exact⟨F',⟨Ft',gd,mb,gs,0,count+1,nsi,rfl,g1⟩,g2⟩
theorem aDn {w:World} {F:Xt} {Ft:Nat→Xt} {sb gd mb gs lz pos num count g:Nat} {ns:List Nat} {m:MS} (h:Kd w F Ft sb gd mb gs lz pos num count ns m g) (hg:g+1≤700) :
  Calls prog 18 #[.pointer (some ⟨sb,0,none⟩)] w fun e w'=>e=.returned (.int .i64 0)∧Kc w w' F sb (gp gd) 0 m (g+1):=by
 have hdd:=aAq sb gd mb gs pos num w h.bx;have KK:=hid (fun (w':World) (hS:Bk w' sb 99 (Vh gd mb gs pos num))=>nS (Xx hS).2.2.2.2.1 (Xx hS).2.1);have H:=nF h hg;clear h hg;go_enter func18,ntmps18
 go_wp2_with fail
 refine hdd.mono ?_;rintro e w' ⟨rfl,rfl⟩;clear hdd;go_wp2_with fail
 have Kq:=KK;refine wp_region_held_drew (S:=fun w'=>Bk w' sb 99 (Vh gd mb gs pos num)) (by kernel_rfl) (H.o.1.bx.drew) (fun nE=>?_);refine kF 0 ?_;refine kF 1 ?_;refine kF 2 ?_;refine kF 3 ?_;refine kF 4 ?_;refine rF 5 (fun K hK=>?_);go_simp;refine(aWv F Ft sb gd mb gs lz pos num count g ns m _ (H.o.1.next (Xu (Below.refl w.heap.size w)))).mono ?_;rintro e w1 ⟨⟨v1,b1,rfl,hby,hbl,hok1⟩,hb1⟩;obtain⟨tA,tc,e1,hy⟩:=hby.isY;subst e1;have hb01:nD w w1:=(Xu nB).trans hb1;have HOK1:=hid hok1;clear hok1;have H1:=nH hb01 hy hbl;have hS1:=(H.o.1.next hb01).bx;clear hby hbl hb1 hb01 hy;go_simp;clear nE;refine hK.out _ _ hS1 (fun nE=>?_);clear hK K;try simp only[Act.put,tC,tD,tE]
 refine rF 6 (fun K hK=>?_);go_simp;have h1:=H.o.1.next H1.o.1;obtain⟨inn,v,bt,hsl⟩:=h1.slo;refine(bFb (h1.dev.up (tW g)) hsl (h1.fam.inn 2) (fun q=>h1.fam.dis 2 3 (by decide) gs q h1.f3) (bCw h1.cnt h1.man.big) H1.o.2.1 (tK H1.o.2.2 (by decide)) (HOK1.o.up (tW g)) (tS h1.cnt)).mono ?_;rintro e w2 ⟨rfl,G,ns2,inn2,v2,bs2,hd2,hs2,hj2,hk2,hsb2,hin2⟩;have H2:=nL h1 hd2 hs2 hj2 hk2 hsb2 hin2;have hS2:Bk w2 sb 99 (Vh gd mb gs pos num):=Bk.ag (F:=fun b=>b=sb) h1.bx (hk2.ag (fun b q r=>bDa h1 (by have q:b=sb:=q;exact q▸r))) rfl;clear h1 hsl hd2 hs2 hj2 hk2 hsb2 hin2;go_simp;clear nE;refine hK.out _ _ hS2 (fun nE=>?_);clear hK K;try simp only[Act.put,tC,tD,tE]
 refine kF 7 ?_;refine wpAnyH_done (by kernel_rfl) ?_ _;clear Kq;obtain⟨_,c3,_⟩:=Xx hS2;have HS2:=hid hS2;clear hS2;go_wp2_with fail
 have hnG:¬G sb:=fun q=>(H2.o.2.2.2.2.2.1 sb q).elim (fun r=>H.o.1.fam.dis 2 0 (by decide) sb r H.o.1.f0) (fun r=>by have h1:=H.o.1.fam.inn 0 sb H.o.1.f0;have h2:=H1.o.1.size;omega)
 refine aYb (g+1) w2 w2 G sb gd mb gs pos num _ _ _ _ _ _ _ _ _ _ _ _ _ _ _ _ _ _ _ _ _ _ _ _ _ _ _ _ _ _ _ _ _ _ _ _ _ _ _ _ _ _ _ _ _ _ _ _ _ _ _ _ _ _ _ _ _ _ _ _ _ _ ⟨HS2.o,hnG⟩ ⟨6,lR,by decide,rfl,rfl,⟨⟨G,ns2,zc lz 0,zc lz 1,H2.o.2.1,(H2.o.2.2.2.1 6 lR).trans H.o.1.z6,(H2.o.2.2.2.1 7 (by decide)).trans H.o.1.z7,fun q=>absurd q (by decide),fun q=>absurd q (by decide),fun b q=>.inl q,H2.o.2.2.2.2.2.2⟩,Kf.refl _ _⟩⟩ ?_;intro u5 u6 pJ pK pL pM pN pO pP pQ pR pS pT pU pV pW pX pY pZ kB kC kG kH kI kJ kK kN kO kP kQ kT kU w7 hx;have hb7:Bk w7 sb 99 (Vh gd mb gs pos num):=Bk.ag (F:=fun b=>b=sb) HS2.o (hx.kf.ag (fun b q r=>hnG (by have q:b=sb:=q;exact q▸r))) rfl;obtain⟨_,_,_,_,_,c7,_,_⟩:=Xx hb7;have f7:=hb7.free 7;obtain⟨w8,hw8⟩:=nC (w7.setCell ⟨sb,7,none⟩ (.int .i64 0));have hb8:Bk w8 sb 99 (Vh gd mb gs 0 num):=by rw[←hw8];exact hb7.set 7 (.int .i64 0)
 obtain⟨_,_,_,_,_,_,xK,_⟩:=Xx hb8;have f8:=hb8.free 8;obtain⟨w9,hw9⟩:=nC (w8.setCell ⟨sb,8,none⟩ (.int .i64 0));have hb9:Bk w9 sb 99 (Vh gd mb gs 0 0):=by rw[←hw9];exact hb8.set 8 (.int .i64 0)
 have k9:Kf (fun b=>b=sb) w7 w9:=by rw[←hw9,←hw8];exact((Kf.refl (fun b=>b=sb) w7).set hb7 (by decide) (.inl rfl) 7 _).set (by rw[hw8];exact hb8) (by decide) (.inl rfl) 8 _
 have HE:=hid (bCy H.o.1 H.o.2 H1.o.1 H2.o.2.2.1 H2.o.2.2.2.2.1 H2.o.2.2.2.2.2.1 H2.o.2.2.2.2.2.2 hx k9 hb9);clear hx hnG hb7 hb8 hb9 k9 c3;go_wp2_with fail
 go_ret;exact⟨rfl,HE.o⟩
theorem aNu (w:World):Calls prog 81 #[.agg #[.int .i64 8,.int .i64 96]] w fun e w'=>e=.returned (.int .i64 258)∧nD w w':=by
 have h:=Go.Proofs.YtdhlicgaalnmoaaGreatDoor.Sp.bHo 8 96 w (by decide);rw[show ((40*(3*8 / 8*96 - 2) - 64) / 44:Int)=258 by decide] at h;exact h
theorem bAn {w:World} {F:Xt} {Ft:Nat→Xt} {sb gd mb gs pos num count g:Nat} {ns:List Nat} {m:MS} (h:Kh w F Ft sb gd mb gs pos num count ns m g) :
  Calls prog 187 #[.pointer (some ⟨sb,0,none⟩)] w fun e w'=>e=.returned (.int .i64 258)∧nD w w':=by
 obtain⟨c0,_⟩:=Xx h.bx;have hgeo:=aOc h.dev.dev;clear h;go_enter func187,ntmps187
 go_wp2_with fail
 refine hgeo.mono ?_;rintro e w1 ⟨rfl,hb1⟩;have hc:=aNu w1;have H1:=hid hb1;clear hgeo hb1 c0;go_wp2_with fail
 refine hc.mono ?_;rintro e w2 ⟨rfl,hb2⟩;have H2:=hid (H1.o.trans (hb2.mono H1.o.size));clear hc hb2;go_wp2_with fail
 go_ret;exact⟨rfl,H2.o⟩
theorem aVp {w:World} {B e s n c g k:Nat} {xs:List Value} {u:Value} (h:w.ownsRow B e s (.slice (some ⟨g,0,none⟩) n c) n xs) :
  (w.setCell ⟨g,k,none⟩ u).ownsRow B e s (.slice (some ⟨g,0,none⟩) n c) n (xs.set k u):=by
 refine⟨by rw[rK];exact h.1,?_⟩;rcases h.2 with ⟨h0,_⟩|⟨g',cap,cur,hv,hB,hh,h1,h2,h3,h4⟩
 · cases h0
 · injection hv with hA _ hc;injection hA with hA;injection hA with hA;subst hA hc;refine .inr ⟨g,c,cur.setIfInBounds k u,rfl,hB,?_,h1,h2,by simp[h3],?_⟩
   · have hlt:=Vz hh;have hg:w.heap[g]=.cells cur e (0,0):=by rw[Array.getElem?_eq_getElem hlt] at hh;exact rT hh
     simp[World.setCell,hlt,Array.getElem_modify,hg]
   · rw[Array.toList_setIfInBounds,List.take_set,h4]
theorem aVo {w:World} {B e s n c g:Nat} {xs:List Value} (h:w.ownsRow B e s (.slice (some ⟨g,0,none⟩) n c) n xs):B≤g∧∃cs,Bk w g e cs:=by
 rcases h.2 with ⟨h0,_⟩|⟨g',cap,cur,hv,hB,hh,_⟩
 · cases h0
 · injection hv with hA _ hc;injection hA with hA;injection hA with hA;subst hA;exact⟨hB,cur.toList,by unfold Bk;rw[hh]⟩
section
variable {P:Program} {w:World}
theorem bBe {o:Oper} {a:Act} {K:Act→World→Prop} {Q:Exit→Act→World→Prop} (s x:Operand) (t:TypeId)
  (ho:o.op=.call {callee:=.builtin .append,args:=#[s,x],argTypes:=#[t,t]})
  (e:TypeId) (i:TypeInfo) (z:Value) (size bytes:Nat) (ht:P.underlying t=some (.slice e)) (hi:P.info? e=some i) (hz:i.zero=some z)
  (hsize:i.size=size) (hby:i.bytes=bytes) (hzs:z.cells.size=size) (hs0:0<size)
  (v:Value) (n:Nat) (xs:List Value) (hs:a.eval s=v) (hown:Kb w e size v n xs)
  (ad:Addr) (m c:Nat) (news:List Value) (hx:a.eval x=.slice (some ad) m c) (hl:news.length=m*size) (hnews:∀j u,news[j]? =some u→w.cell? (ad.add j)=some u) (h1:∀u∈news,u.oneCell'=true)
  (h63:n+m≤1000000) (hbytes:bytes≤1000)
  (h:∀v' w',Kb w' e size v' (n+m) (xs++news)→w.grownBy w' v.ownBlock→(v'.ownBlock=v.ownBlock∨∀g,v'.ownBlock=some g→w.heap.size≤g)→K (a.put o.dst v') w'):o.wp P a w K Q:=by
 obtain⟨v',w',hrun,h2,h3,h4⟩:=aWg (P:=P) (w:=w) t o.type e i z size bytes ht hi hz hsize hby hzs hs0 v n xs hown ad m c news hl hnews h1 h63 hbytes;unfold Oper.wp execOp
 simp only[ho,resolve,invoke,builtin,Sem.run_bind,Sem.run_pure,Result.andThen_ok,List.map_toArray,List.map_cons,List.map_nil,hs,hx,hrun];exact h v' w' h2 h3 h4
end
theorem aJa {α :Type} {f: α→List Value} (hs:∀x,(f x).length=5) {w:World} {B:Nat} {A:Option Addr} {l:List α} (h:Rd w B A (l.flatMap f)) {k:Nat} (hk:k<l.length) {u0 u1 u2 u3 u4:Value} (hf:f l[k]=[u0,u1,u2,u3,u4]) :
  ∃ad,A=some ad∧ad.block<B∧w.cell? (ad.add (k*5))=some u0∧w.cell? ⟨(ad.add (k*5)).block,(ad.add (k*5)).off+1,none⟩=some u1∧w.cell? ⟨(ad.add (k*5)).block,(ad.add (k*5)).off+2,none⟩=some u2∧w.cell? ⟨(ad.add (k*5)).block,(ad.add (k*5)).off+3,none⟩=some u3∧w.cell? ⟨(ad.add (k*5)).block,(ad.add (k*5)).off+4,none⟩=some u4:=by
 obtain⟨ad,e,hb,hc⟩:=h (by rw[Vt hs];omega);have hx:∀j u,j<5→(f l[k])[j]? =some u→w.cell? (ad.add (k*5+j))=some u:=fun j u hj hu=>hc (k*5+j) u (by rw[aAs hs hk hj];exact hu)
 have h0:=hx 0 u0 (by decide) (by rw[hf];rfl);have h1:=hx 1 u1 (by decide) (by rw[hf];rfl);have h2:=hx 2 u2 (by decide) (by rw[hf];rfl);have h3:=hx 3 u3 (by decide) (by rw[hf];rfl);have h4:=hx 4 u4 (by decide) (by rw[hf];rfl);rw[Nat.add_zero] at h0;rw[←aBi] at h1 h2 h3 h4;exact⟨ad,e,hb,h0,h1,h2,h3,h4⟩
structure SS where
 cls:List CLD
 es:List Nat
 bg:List BG
 m:MS
 ev:Nat
 pos:Nat
structure Ue (w:World) (F:Xt) (sb:Nat) (s:SS) (g:Nat):Prop where
 x:∃Ft st gd alv,Vo w F Ft sb st (Uj gd) alv s.cls s.es s.es s.bg s.m s.ev s.pos g
 b:aBe s.m s.bg s.ev
 ev:s.ev≤g
 num:∀c∈s.cls,c.na≤g∧c.bgs.length≤g
def Uc (w w':World) (F:Xt) (sb:Nat) (s:SS) (g:Nat):Prop:=∃F',Ue w' F' sb s g∧Kf F w w'∧Sb w F F'∧In w' F'
section
variable {w w':World} {F F':Xt} {Ft:Nat→Xt} {sb st g pos ev:Nat} {dp alv:Value} {cls:List CLD} {al es:List Nat} {bg:List BG} {m:MS} {s:SS}
theorem aCw {a b:Nat} (h:Uj a=gp b):a=b:=by
 injection h with h;injection h with h;injection h with h
theorem Sto.inn (h:Sto w F sb dp pos m g):In w F:=by
 obtain⟨Ft,gd,mb,gs,num,count,ns,_,h⟩:=h;exact h.fam.lt
theorem Sto.big (h:Sto w F sb dp pos m g):g≤700:=by
 obtain⟨Ft,gd,mb,gs,num,count,ns,_,h⟩:=h;exact h.man.big
theorem Sto.txs (h:Sto w F sb dp pos m g):m.txs.length≤g:=by
 obtain⟨Ft,gd,mb,gs,num,count,ns,_,h⟩:=h;exact h.man.txs
theorem Sto.giv (h:Sto w F sb dp pos m g):m.given≤g:=by
 obtain⟨Ft,gd,mb,gs,num,count,ns,_,h⟩:=h;exact h.man.giv
theorem Sto.num (h:Sto w F sb dp pos m g):m.num≤g:=by
 obtain⟨Ft,gd,mb,gs,num,count,ns,_,h⟩:=h;exact h.man.num
theorem Vo.up (h:Vo w F Ft sb st dp alv cls al es bg m ev pos g) (hg:g+1≤700):Vo w F Ft sb st dp alv cls al es bg m ev pos (g+1) :=
 ⟨h.fam,h.bx,h.sto.up hg,h.all,h.beg,h.nd,h.cl8,h.cl,h.len,h.f0,h.f1,h.f2⟩
theorem Ue.big (h:Ue w F sb s g):g≤700:=by
 obtain⟨Ft,st,gd,alv,hx⟩:=h.x;exact hx.sto.big
theorem Ue.inn (h:Ue w F sb s g):In w F:=by
 obtain⟨Ft,st,gd,alv,hx⟩:=h.x;exact hx.fam.lt
theorem Ue.inF (h:Ue w F sb s g):F sb:=by
 obtain⟨Ft,st,gd,alv,hx⟩:=h.x;exact hx.inF
theorem Ue.c8 (h:Ue w F sb s g):s.cls.length=8:=by
 obtain⟨Ft,st,gd,alv,hx⟩:=h.x;exact hx.cl8
theorem Ue.next (h:Ue w F sb s g) (k:nD w w'):Ue w' F sb s g:=by
 obtain⟨Ft,st,gd,alv,hx⟩:=h.x;exact⟨⟨Ft,st,gd,alv,hx.next k⟩,h.b,h.ev,h.num⟩
theorem Ue.up (h:Ue w F sb s g) (hg:g+1≤700):Ue w F sb s (g+1):=by
 obtain⟨Ft,st,gd,alv,hx⟩:=h.x;exact⟨⟨Ft,st,gd,alv,hx.up hg⟩,h.b,tM h.ev,fun c hc=>⟨tM (h.num c hc).1,tM (h.num c hc).2⟩⟩
theorem Uc.same (h:Ue w F sb s g) (hg:g+1≤700) (hb:nD w w'):Uc w w' F sb s (g+1) :=
 ⟨F,(h.up hg).next hb,.of_below hb,fun b q=>.inl q,h.inn.next hb.size⟩
theorem Uc.same0 (h:Ue w F sb s g) (hb:nD w w'):Uc w w' F sb s g :=
 ⟨F,h.next hb,.of_below hb,fun b q=>.inl q,h.inn.next hb.size⟩
theorem Uc.pre {w5:World} (hb:nD w w5) (h:Uc w5 w' F sb s g):Uc w w' F sb s g:=by
 obtain⟨F',h1,h2,h3,h4⟩:=h;exact⟨F',h1,(Kf.of_below (F:=F) hb).trans h2 (fun b q=>.inl q),fun b q=>(h3 b q).imp id (tK hb.size),h4⟩
theorem Uc.up (h:Uc w w' F sb s g) (hg:g+1≤700):Uc w w' F sb s (g+1):=by
 obtain⟨F',h1,h2⟩:=h;exact⟨F',h1.up hg,h2⟩
theorem Vo.at_st (h:Vo w F Ft sb st dp alv cls al es bg m ev pos g):w.cell? ⟨sb,1,none⟩=some (.pointer (some ⟨st,0,none⟩)):=Bk.at' h.bx (i:=1) rfl
theorem Vo.at_ev (h:Vo w F Ft sb st dp alv cls al es bg m ev pos g):w.cell? ⟨sb,35,none⟩=some (.int .i64 (ev:Int)):=Bk.at' h.bx (bHa h.cl8)
theorem Vo.at_all (h:Vo w F Ft sb st dp alv cls al es bg m ev pos g):w.cell? ⟨sb,34,none⟩=some alv:=Bk.at' h.bx (aWl h.cl8)
theorem Vo.at_cl (h:Vo w F Ft sb st dp alv cls al es bg m ev pos g) {j:Nat} {c:CLD} (hj:cls[j]? =some c) :
  w.cell? ⟨sb,2+(j*4+0),none⟩=some c.ov∧w.cell? ⟨sb,2+(j*4+1),none⟩=some c.bv∧w.cell? ⟨sb,2+(j*4+2),none⟩=some c.av∧w.cell? ⟨sb,2+(j*4+3),none⟩=some (.bool c.asked) :=
 ⟨Bk.at' h.bx (aCq h.cl8 hj (by decide) rfl),Bk.at' h.bx (aCq h.cl8 hj (by decide) rfl),Bk.at' h.bx (aCq h.cl8 hj (by decide) rfl),Bk.at' h.bx (aCq h.cl8 hj (by decide) rfl)⟩
theorem Vo.evd (h:Vo w F Ft sb st dp alv cls al es bg m ev pos g) (e:w'=w.setCell ⟨sb,35,none⟩ (.int .i64 ((ev+1:Nat):Int))):Vo w' F Ft sb st dp alv cls al es bg m (ev+1) pos g∧Kf F w w':=by
 have k:Kf (fun b=>b=sb) w w':=by rw[e];exact(Kf.refl (fun b=>b=sb) w).set h.bx (by decide) (.inl rfl) _ _
 have hb:=h.bx.set 35 (.int .i64 ((ev+1:Nat):Int));rw[aWm h.cl8] at hb;exact h.block k (by rw[e];exact hb) h.cl8 h.cl
theorem Vo.storeR (h:Vo w F Ft sb st dp alv cls al es bg m ev pos g) {pos':Nat} {m':MS} (hr:Kc w w' (Ft 1) st dp pos' m' (g+1)) (he:Ext m m') :
  ∃F' Ft',Vo w' F' Ft' sb st dp alv cls al es bg m' ev pos' (g+1)∧Kf F w w'∧Sb w F F'∧In w' F':=by
 obtain⟨F',Ft',h1,h2,h3,h4,_⟩:=h.stod hr he;exact⟨F',Ft',h1,h2,h3,h4⟩
end
theorem aHv {ev:Nat} (h:ev≤1000):wrap64 ((ev:Int)+1)=(ev:Int)+1:=by unfold wrap64;omega
section
variable {w w' w1:World} {F F':Xt} {Ft:Nat→Xt} {sb st g gd pos':Nat} {alv:Value} {s:SS} {m':MS}
theorem aKq (h:Ue w F sb s g) (hx:Vo w F Ft sb st (Uj gd) alv s.cls s.es s.es s.bg s.m s.ev s.pos g) (e:w1=w.setCell ⟨sb,35,none⟩ (.int .i64 ((s.ev:Int)+1))) (hr:Kc w1 w' (Ft 1) st (Uj gd) pos' m' (g+1)) (hm:Vq m') (he:Ext s.m m') (hl:m'.txs.length=s.m.txs.length):Uc w w' F sb {s with m:=m',pos:=pos',ev:=s.ev+1} (g+1):=by
 obtain⟨hx1,k1⟩:=hx.evd e;obtain⟨F',Ft',h1,h2,h3,h4⟩:=hx1.storeR hr he;exact⟨F',⟨⟨Ft',st,gd,alv,h1⟩,h.b.next.ext hm he hl,tS h.ev,fun c hc=>⟨tM (h.num c hc).1,tM (h.num c hc).2⟩⟩,k1.trans h2 (fun b q=>.inl q),fun b q=>(h3 b q).imp id (tK k1.size),h4⟩
theorem aWo (h:Ue w F sb s g) (hx:Vo w F Ft sb st (Uj gd) alv s.cls s.es s.es s.bg s.m s.ev s.pos g) (hr:Kc w w' (Ft 1) st (Uj gd) pos' m' (g+1)) (hm:Vq m') (he:Ext s.m m') (hl:m'.txs.length=s.m.txs.length):Uc w w' F sb {s with m:=m',pos:=pos'} (g+1):=by
 obtain⟨F',Ft',h1,h2,h3,h4⟩:=hx.storeR hr he;exact⟨F',⟨⟨Ft',st,gd,alv,h1⟩,h.b.ext hm he hl,tM h.ev,fun c hc=>⟨tM (h.num c hc).1,tM (h.num c hc).2⟩⟩,h2,h3,h4⟩
end
theorem aAt {w:World} {sb st:Nat} (c1:w.cell? ⟨sb,1,none⟩=some (.pointer (some ⟨st,0,none⟩))) :
  Calls prog 33 #[.pointer (some ⟨sb,0,none⟩)] w fun e w'=>e=.returned (.bool false)∧w=w':=by
 go_enter func33,ntmps33
 go_wp2_with fail
 go_ret;exact⟨rfl,rfl⟩
theorem aGg {w:World} {sb st j:Nat} (c1:w.cell? ⟨sb,1,none⟩=some (.pointer (some ⟨st,0,none⟩))) (hj:j<8) :
  Calls prog 54 #[.pointer (some ⟨sb,0,none⟩),.int .i64 ((j:Int)+1)] w fun e w'=>e=.returned (.pointer (some ⟨sb,2+j*4,none⟩))∧w=w':=by
 have hg:=aAt c1;have n1:¬((j:Int)+1<1):=by omega
 have n2:¬((8:Int)<(j:Int)+1):=by omega
 have n3:wrap64 ((j:Int)+1 - 1)=(j:Int):=by unfold wrap64;omega
 have n4:(0:Int)≤(j:Int):=by omega
 have n5:(j:Int)<8:=by omega
 go_enter func54,ntmps54
 go_wp2_with fail
 refine hg.mono ?_;rintro e w' ⟨rfl,rfl⟩;clear hg;go_wp2_with fail
 go_ret;exact⟨rfl,rfl⟩
theorem aHw {w:World} {sb st:Nat} {k:Int} (c1:w.cell? ⟨sb,1,none⟩=some (.pointer (some ⟨st,0,none⟩))) (hk:k<1∨8<k) :
  Calls prog 54 #[.pointer (some ⟨sb,0,none⟩),.int .i64 k] w fun e w'=>e=.returned (.pointer none)∧w=w':=by
 have hg:=aAt c1
 have h1:(decide (k<1))=true∨((decide (k<1))=false∧(decide (8<k))=true):=by
  rcases hk with h|h
  · exact .inl (rZ h)
  · exact .inr ⟨rY (by omega),rZ h⟩
 clear hk;rcases h1 with h1|⟨h1,h2⟩
 · skip;go_enter func54,ntmps54
   go_wp2_with fail
   refine hg.mono ?_;rintro e w' ⟨rfl,rfl⟩;clear hg;go_wp2_with fail
   go_ret;exact⟨rfl,rfl⟩
 · skip;go_enter func54,ntmps54
   go_wp2_with fail
   refine hg.mono ?_;rintro e w' ⟨rfl,rfl⟩;clear hg;go_wp2_with fail
   go_ret;exact⟨rfl,rfl⟩
theorem aQk {w:World} {F:Xt} {sb g:Nat} {s:SS} (h:Ue w F sb s g) (hg:g+1≤700) :
  Calls prog 25 #[.pointer (some ⟨sb,0,none⟩)] w fun e w'=>∃r:Int,e=.returned (.int .i64 r)∧∃pos' m',flR s.m s.pos r pos' m'∧Uc w w' F sb {s with m:=m',pos:=pos',ev:=s.ev+1} (g+1):=by
 obtain⟨Ft,st,gd,alv,hx⟩:=h.x;have c1:=hx.at_st;have hgo:=aAt c1;have zG:=hx.at_ev;have f35:=hx.bx.free 35;have m2:=aHv (ev:=s.ev) (by have:=h.ev;have:=h.big;omega);obtain⟨w1,hw1⟩:=nC (w.setCell ⟨sb,35,none⟩ (.int .i64 ((s.ev:Int)+1)));obtain⟨hx1,hk1⟩:=hx.evd (w':=w1) hw1.symm;have d1:=hx1.at_st;obtain⟨Fs,gx,mb,gs,num,count,ns,hgx,hs⟩:=hx1.sto;obtain rfl:=aCw hgx;have hc:=aWh hs hg;have H:=nH h hg hx;clear hs h hg hx hx1 hk1;go_enter func25,ntmps25
 go_wp2_with fail
 refine hgo.mono ?_;rintro e w' ⟨rfl,rfl⟩;clear hgo;go_wp2_with fail
 refine hc.mono ?_;rintro e w2 ⟨r,rfl,pos',m',hf,hr⟩;have HR:=hid (by obtain⟨g1,g2,g3,_⟩:=aYs H.o.1.b.gm (by have:=H.o.2.2.sto.num;have:=H.o.2.1;omega) hf;exact nS hf (aKq H.o.1 H.o.2.2 hw1.symm hr g1 g2 g3));clear hf hr;clear hc;go_wp2_with fail
 go_ret;exact⟨r,rfl,pos',m',HR.o⟩
theorem aQj {w:World} {F:Xt} {sb g:Nat} {s:SS} (h:Ue w F sb s g) (hg:g+1≤700) :
  Calls prog 31 #[.pointer (some ⟨sb,0,none⟩)] w fun e w'=>e=.returned (.int .i64 0)∧Uc w w' F sb {s with pos:=0,ev:=s.ev+1} (g+1):=by
 obtain⟨Ft,st,gd,alv,hx⟩:=h.x;have c1:=hx.at_st;have hgo:=aAt c1;have zG:=hx.at_ev;have f35:=hx.bx.free 35;have m2:=aHv (ev:=s.ev) (by have:=h.ev;have:=h.big;omega);obtain⟨w1,hw1⟩:=nC (w.setCell ⟨sb,35,none⟩ (.int .i64 ((s.ev:Int)+1)));obtain⟨hx1,hk1⟩:=hx.evd (w':=w1) hw1.symm;have d1:=hx1.at_st;obtain⟨Fs,gx,mb,gs,num,count,ns,hgx,hs⟩:=hx1.sto;obtain rfl:=aCw hgx;have hc:=aDn hs hg;have H:=nH h hg hx;clear hs h hg hx hx1 hk1;go_enter func31,ntmps31
 go_wp2_with fail
 refine hgo.mono ?_;rintro e w' ⟨rfl,rfl⟩;clear hgo;go_wp2_with fail
 refine hc.mono ?_;rintro e w2 ⟨rfl,hr⟩;have HR:=hid (aKq H.o.1 H.o.2.2 hw1.symm hr H.o.1.b.gm (Ext.refl _) rfl);clear hr;clear hc;go_wp2_with fail
 go_ret;exact⟨rfl,HR.o⟩
theorem bAq {w:World} {F:Xt} {sb g:Nat} {s:SS} (h:Ue w F sb s g) (hg:g+1≤700) :
  Calls prog 32 #[.pointer (some ⟨sb,0,none⟩)] w fun e w'=>(∃r:Int,e=.returned (.int .i64 r))∧Uc w w' F sb {s with ev:=s.ev+1} (g+1):=by
 obtain⟨Ft,st,gd,alv,hx⟩:=h.x;have c1:=hx.at_st;have hgo:=aAt c1;have zG:=hx.at_ev;have f35:=hx.bx.free 35;have m2:=aHv (ev:=s.ev) (by have:=h.ev;have:=h.big;omega);obtain⟨w1,hw1⟩:=nC (w.setCell ⟨sb,35,none⟩ (.int .i64 ((s.ev:Int)+1)));obtain⟨hx1,hk1⟩:=hx.evd (w':=w1) hw1.symm;have d1:=hx1.at_st;obtain⟨Fs,gx,mb,gs,num,count,ns,hgx,hs⟩:=hx1.sto;obtain rfl:=aCw hgx;have hc:=bEx hs hg;have H:=nH h hg hx;clear hs h hg hx hx1 hk1;go_enter func32,ntmps32
 go_wp2_with fail
 refine hgo.mono ?_;rintro e w' ⟨rfl,rfl⟩;clear hgo;go_wp2_with fail
 refine hc.mono ?_;rintro e w2 ⟨⟨r,rfl⟩,hr⟩;have HR:=hid (aKq H.o.1 H.o.2.2 hw1.symm hr H.o.1.b.gm (Ext.refl _) rfl);clear hr;clear hc;go_wp2_with fail
 go_ret;exact⟨⟨r,rfl⟩,HR.o⟩
theorem aOs {w:World} {F:Xt} {sb g:Nat} {s:SS} (h:Ue w F sb s g) (hg:g+1≤700) (yes:Bool) :
  Calls prog 9 #[.pointer (some ⟨sb,0,none⟩),.bool yes] w fun e w'=>e=.returned (.tuple #[])∧Uc w w' F sb {s with m:={s.m with read:=yes}} (g+1):=by
 obtain⟨Ft,st,gd,alv,hx⟩:=h.x;have c1:=hx.at_st;have hgo:=aAt c1;obtain⟨Fs,gx,mb,gs,num,count,ns,hgx,hs⟩:=hx.sto;obtain rfl:=aCw hgx;have hc:=aJn hs hg yes;have H:=nH h hg hx;clear hs h hg hx;go_enter func9,ntmps9
 go_wp2_with fail
 refine hgo.mono ?_;rintro e w' ⟨rfl,rfl⟩;clear hgo;go_wp2_with fail
 refine hc.mono ?_;rintro e w2 ⟨rfl,hr⟩;have HR:=hid (by obtain⟨g1,g2⟩:=H.o.1.b.gm.readonly yes;exact aWo H.o.1 H.o.2.2 hr g1 g2 rfl);clear hr;clear hc;go_wp2_with fail
 go_end0
 exact⟨rfl,HR.o⟩
theorem aLv:(prog.info? 63).map (·.size)=some 5:=by kernel_rfl
theorem aZb:(prog.info? 60).map (·.size)=some 5:=by kernel_rfl
theorem aKm {fn:Func} {p:Tmp} (h:fn.results=#[.cell p 63]) (tmps:Array Value) (w:World) (g:Nat) (cs:List Value) (hp:tmps.getD p undef=.pointer (some ⟨g,0,none⟩)) (hg:Bk w g 63 cs) (hl:cs.length=5:=by rfl) :
  (results fn tmps).run prog w=.ok (.agg cs.toArray) w :=
 results_cell_row h tmps w g _ _ _ _ hp hg underlying63 rfl (by rw[aLv];simp[hl])
theorem bEs {fn:Func} {p:Tmp} (h:fn.results=#[.cell p 60]) (tmps:Array Value) (w:World) (g:Nat) (cs:List Value) (hp:tmps.getD p undef=.pointer (some ⟨g,0,none⟩)) (hg:Bk w g 60 cs) (hl:cs.length=5:=by rfl) :
  (results fn tmps).run prog w=.ok (.agg cs.toArray) w :=
 results_cell_row h tmps w g _ _ _ _ hp hg underlying60 rfl (by rw[aZb];simp[hl])
theorem Vu {fn:Func} {p u:Tmp} (h:fn.results=#[.cell p 63,.tmp u]) (tmps:Array Value) (w:World) (g:Nat) (cs:List Value) (hp:tmps.getD p undef=.pointer (some ⟨g,0,none⟩)) (hg:Bk w g 63 cs) (hl:cs.length=5:=by rfl) :
  (results fn tmps).run prog w=.ok (.tuple #[.agg cs.toArray,tmps.getD u undef]) w:=by
 rw[results_cell_tmp h,hp];simp[asAddr,run_loadVar_row w g 63 63 cs.toArray (0,0) _ hg underlying63 rfl (by rw[aLv];simp[hl]),Result.andThen]
section
variable {w w9 a:World} {g g' t t':Nat} {a0 a1 a2 a3 a4 v0 v1 v2 v3 v4:Value} {cs:List Value} {B:Nat}
abbrev W5 (w:World) (g:Nat) (v0 v1 v2 v3 v4:Value):World:=((((w.setCell ⟨g,0,none⟩ v0).setCell ⟨g,1,none⟩ v1).setCell ⟨g,2,none⟩ v2).setCell ⟨g,3,none⟩ v3).setCell ⟨g,4,none⟩ v4
theorem Vb (h:Bk w g t [a0,a1,a2,a3,a4]) (e:W5 w g v0 v1 v2 v3 v4=w9):Bk w9 g t [v0,v1,v2,v3,v4]:=by
 rw[←e];exact((((h.set 0 v0).set 1 v1).set 2 v2).set 3 v3).set 4 v4
theorem aGo (h:Bk w g' t' cs) (hn:g'≠g) (e:W5 w g v0 v1 v2 v3 v4=w9):Bk w9 g' t' cs:=by
 rw[←e];exact((((h.far (p:=⟨g,0,none⟩) hn v0).far (p:=⟨g,1,none⟩) hn v1).far (p:=⟨g,2,none⟩) hn v2).far (p:=⟨g,3,none⟩) hn v3).far (p:=⟨g,4,none⟩) hn v4
theorem aAo (h:Below B a w) (hB:B≤g) (e:W5 w g v0 v1 v2 v3 v4=w9):Below B a w9:=by
 rw[←e];exact((((h.setCell (p:=⟨g,0,none⟩) hB v0).setCell (p:=⟨g,1,none⟩) hB v1).setCell (p:=⟨g,2,none⟩) hB v2).setCell (p:=⟨g,3,none⟩) hB v3).setCell (p:=⟨g,4,none⟩) hB v4
theorem aBk {i:Nat} (h:Below B a w) (hB:B≤g) (e:w.setCell ⟨g,i,none⟩ v0=w9):Below B a w9:=by
 rw[←e];exact h.setCell (p:=⟨g,i,none⟩) hB v0
end
theorem aLx (op code h time:Int) (A:Option Addr) (n c:Nat) (bs:List Int) (w:World) (hy:IsY w A n c bs) (hn:n≤1000000) :
  Calls prog 57 #[.agg #[.int .i64 op,.int .i64 code,.int .i64 h,.int .i64 time,.slice A n c]] w fun e w'=>(∃A' c',e=.returned (.agg #[.int .i64 op,.int .i64 code,.int .i64 h,.int .i64 time,.slice A' n c']))∧nD w w':=by
 obtain⟨g1,w1,hzw1,hw1,Bw1,bw1⟩:=Xy w 63 [.int .i64 op,.int .i64 code,.int .i64 h,.int .i64 time,.slice A n c];obtain⟨g2,w2,hzw2,hw2,Bw2,bw2⟩:=Xy w1 63 [.int .i64 0,.int .i64 0,.int .i64 0,.int .i64 0,.slice none 0 0];have B12:=Bw1.next bw2 Bw1.lt;obtain⟨c0,c1,c2,c3,c4⟩:=B12.c5;have b02:nD w w2:=bw1.trans (bw2.mono bw1.size);have hy2:=hy.ag (F:=fun _=>False) (.of_below b02);have hcl:=aAh A n c w2.heap.size (bs.map (Value.int .u8)) w2 (by rw[rU];exact hy2.b.len) hy2.b.rd Ui hn lR;have hlt:g1<g2:=by have:=Bw1.lt;omega
 have HB:=nJ b02 B12 Bw2 (tO hzw1) hlt;clear hy hy2 Bw1 bw1 Bw2 bw2 B12 b02 hlt;go_enter func57,ntmps57
 go_wp2_with fail
 refine hcl.mono ?_;rintro e w3 ⟨⟨v3,rfl,ho3⟩,hb3⟩;obtain⟨A3,k3,rfl⟩:=Xs ho3;clear hcl ho3 c0 c1 c2 c3 c4;have B13:=HB.o.2.1.next hb3 HB.o.2.1.lt;have B23:=HB.o.2.2.1.next hb3 HB.o.2.2.1.lt;have f4:=B13.free 4;have c4:=B13.cell (i:=4) (by simp);obtain⟨w4,hw4⟩:=nC (w3.setCell ⟨g1,4,none⟩ (.slice A3 n k3));have B14:Bk w4 g1 63 [.int .i64 op,.int .i64 code,.int .i64 h,.int .i64 time,.slice A3 n k3]:=by rw[←hw4];exact B13.set 4 _
 have B24:Bk w4 g2 63 [.int .i64 0,.int .i64 0,.int .i64 0,.int .i64 0,.slice none 0 0]:=by rw[←hw4];exact B23.far (by have:=HB.o.2.2.2.2;exact Nat.ne_of_gt this) _
 obtain⟨d0,d1,d2,d3,d4⟩:=B14.c5;obtain⟨r0,r1,r2,r3,r4⟩:=B24.c5;have q0:=B24.free 0;have q1:=B24.free 1;have q2:=B24.free 2;have q3:=B24.free 3;have q4:=B24.free 4;obtain⟨w5,hw5⟩:=nC (W5 w4 g2 (.int .i64 op) (.int .i64 code) (.int .i64 h) (.int .i64 time) (.slice A3 n k3));have HR:=nF (Vb B24 hw5) (aAo (aBk (HB.o.1.trans (hb3.mono HB.o.1.size)) HB.o.2.2.2.1 hw4) (tK HB.o.2.2.2.1 (tU HB.o.2.2.2.2)) hw5);unfold W5 at hw5;clear B13 B23 B14 B24 hb3;go_wp2_with fail
 refine bodyPost_ret (aKm rfl _ _ _ _ (by rfl) HR.o.1) rfl ?_;exact⟨⟨_,_,rfl⟩,HR.o.2⟩
theorem Vo.cl1 {w:World} {F:Xt} {Ft:Nat→Xt} {sb st:Nat} {dp alv:Value} {cls:List CLD} {al es:List Nat} {bg:List BG} {m:MS} {ev pos g:Nat} (h:Vo w F Ft sb st dp alv cls al es bg m ev pos g) {j:Nat} {c:CLD} (hj:cls[j]? =some c) :
  w.cell? ⟨sb,2+j*4,none⟩=some c.ov∧w.cell? ⟨sb,2+j*4+1,none⟩=some c.bv∧w.cell? ⟨sb,2+j*4+2,none⟩=some c.av∧w.cell? ⟨sb,2+j*4+3,none⟩=some (.bool c.asked):=h.at_cl hj
theorem Vo.beg1 {w:World} {F:Xt} {Ft:Nat→Xt} {sb st:Nat} {dp alv:Value} {cls:List CLD} {al es:List Nat} {bg:List BG} {m:MS} {ev pos g:Nat} (h:Vo w F Ft sb st dp alv cls al es bg m ev pos g) {j i k:Nat} {c:CLD} (hj:cls[j]? =some c) (hk:c.bgs[i]? =some k) :
  ∃gq cq e b,c.bv=.slice (some ⟨gq,0,none⟩) c.bgs.length cq∧es[k]? =some e∧bg[k]? =some b∧w.cell? ⟨gq,i,none⟩=some (Uj e)∧Bk w e 91 (Vr k b):=by
 have hc:=h.cl j c hj;have hi:=Vi hk;have hkl:=hc.bin k (tZ hk);obtain⟨gq,cq,hv⟩:=aBd hc.beg (by omega);have hb:=h.len;obtain⟨e,he⟩:∃e,es[k]? =some e:=⟨_,tX hkl⟩
 obtain⟨b,hbk⟩:∃b,bg[k]? =some b:=⟨_,tX (by omega)⟩
 refine⟨gq,cq,e,b,hv,he,hbk,?_,h.beg k e b he hbk⟩;have hcs:=hc.beg.cells (g:=gq) (by rw[hv];rfl) i (Uj e) (by rw[rW,hk];simp[List.getD_eq_getElem?_getD,he]);rw[Addr.add_lit,Nat.zero_add] at hcs;exact hcs
def atR (c:CLD) (es:List Nat) (h:Int) (e:Ending):Prop:=(∃i k x:Nat,h=(i:Int)∧c.bgs[i]? =some k∧es[k]? =some x∧e=.returned (Uj x))∨((∀i:Nat,h=(i:Int)→c.bgs[i]? =none)∧e=.returned (.pointer none))
theorem aXx {w:World} {F:Xt} {Ft:Nat→Xt} {sb st:Nat} {dp alv:Value} {cls:List CLD} {al es:List Nat} {bg:List BG} {m:MS} {ev pos g:Nat} (h:Vo w F Ft sb st dp alv cls al es bg m ev pos g) {j:Nat} {c:CLD} (hj:cls[j]? =some c) (hl:c.bgs.length≤1000) (x:Int) :
  Calls prog 116 #[.pointer (some ⟨sb,2+j*4,none⟩),.int .i64 x] w fun e w'=>atR c es x e∧w=w':=by
 obtain⟨c0,c1,c2,c3⟩:=h.cl1 hj;obtain⟨bA,bc,hbv⟩:=Xs (h.cl j c hj).beg;rw[hbv] at c1;by_cases h0:x<0
 · have n0:decide (x<0)=true:=rZ h0;have HN:=hid (show ∀i:Nat,x=(i:Int)→c.bgs[i]? =none from fun i e=>by omega);clear h0 h;go_enter func116,ntmps116
   go_wp2_with fail
   go_ret;exact⟨.inr ⟨HN.o,rfl⟩,rfl⟩
 · obtain⟨i,rfl⟩:∃i:Nat,x=(i:Int):=⟨x.toNat,by omega⟩
   clear h0;rcases tN i c.bgs.length with hlt|hge
   · obtain⟨k,hk⟩:∃k,c.bgs[i]? =some k:=⟨_,tX hlt⟩
     obtain⟨gq,cq,e,b,hv,he,hbk,ce,hB⟩:=h.beg1 hj hk;rw[hbv] at hv;injection hv with hv1 _ hv3;subst hv1 hv3;have z0:w.cell? ⟨e,0,none⟩=some (.int .i64 ((k:Int)+1)):=hB.cell (i:=0) (by simp[Vr]);have n1:¬((c.bgs.length:Int)≤(i:Int)):=by omega
     have n2:¬((i:Int)<0):=by omega
     have n3:(0:Int)≤(i:Int):=by omega
     have n4:(i:Int)<(c.bgs.length:Int):=by omega
     have n5:¬((k:Int)+1=0):=by omega
     have HN:=hid (show atR c es (i:Int) (.returned (Uj e)) from .inl ⟨i,k,e,rfl,hk,he,rfl⟩);unfold Uj at ce;clear hB hbk h he hk;go_enter func116,ntmps116
     go_wp2_with fail
     go_ret;exact⟨HN.o,rfl⟩
   · have n1:(c.bgs.length:Int)≤(i:Int):=by omega
     have n2:¬((i:Int)<0):=by omega
     have HN:=hid (show ∀i':Nat,(i:Int)=(i':Int)→c.bgs[i']? =none from fun i' e=>by rw[List.getElem?_eq_none];omega);clear h;go_enter func116,ntmps116
     go_wp2_with fail
     go_ret;exact⟨.inr ⟨HN.o,rfl⟩,rfl⟩
theorem aIu (A:Option Addr) (n c:Nat) (xs:List Value) (w:World) (hl:xs.length=n*2) (h:Rd w w.heap.size A xs) (h1:∀u∈xs,u.oneCell'=true) (hn:n≤100000) :
  Calls prog 114 #[.slice A n c] w fun e w'=>(∃v,e=.returned v∧w'.ownsRow w.heap.size 50 2 v n xs)∧nD w w':=by
 obtain⟨xi,xz,hxi,hxz,hx5,hx56,hxc⟩:=aKe;have q:∀(w:World) (a:Option Addr) (n c n' c':Nat),(binOp .eql 58 (.slice a n c) (.slice none n' c')).run prog w=.ok (.bool a.isNone) w:=fun w a n c n' c'=>Lib.run_eql_slice_nil w _ _ a n c n' c' underlying58
 cases A with
 | none =>
   have hx:xs=[]:=by
    rcases tP xs.length with e|e
    · exact List.length_eq_zero_iff.1 e
    · obtain⟨_,e,_⟩:=h e;cases e
   subst hx;have hn0:n=0:=by simp at hl;omega
   subst hn0;clear h hn hl h1;go_enter func114,ntmps114
   go_wp2_with fail
   go_ret;exact⟨⟨_,rfl,rfl,.inl ⟨rfl,rfl⟩⟩,nB⟩
 | some ad =>
   have HR:=nF h h1;have HN:=hid hn;clear h hn h1;go_enter func114,ntmps114
   go_wp2_with (at_builtin;go_must (refine aAa _ rfl _ _ 58 rfl w.heap.size 50 xi xz 2 32 underlying58 hxi hxz hx5 hx56 hxc (by omega) _ 0 [] (by rfl) (by exact World.ownsRow_lit w #[] 0 lR (by decide) rfl) w.heap.size (some ad) n c xs (by rfl) (by exact hl) (by exact HR.o.1.alloc lR _) HR.o.2 (by have:=HN.o;omega) (by have:=HN.o;omega) (by simp) ?_);intro v1 w1 hO1 hG1 hv1)
   have HB:nD w w1:=(nB.alloc lR _).grown hG1 (by simp) (fun g hg=>tO (rT (show some w.heap.size=some g from hg)));have HE:=hid (show w1.ownsRow w.heap.size 50 2 v1 n xs from by simpa using hO1);clear hO1 hG1 hv1;go_ret;exact⟨⟨v1,rfl,HE.o⟩,HB⟩
def aQi (ps ps':List Vd):Prop:=ps'.map (fun p=>(p.lba,p.n))=ps.map (fun p=>(p.lba,p.n))
structure aDe (w:World) (G:Xt) (A:Option Addr) (n c:Nat) (bs:List Int):Prop where
 b:IsB w A n c bs
 y:∀ad,A=some ad→0<n→∃ob,w.heap[ad.block]? =some ob∧(G ad.block∨Dat ob)
section
variable {w w':World} {G G':Xt} {A:Option Addr} {n c:Nat} {bs:List Int} {ps:List Vd}
theorem aDe.ag (h:aDe w G A n c bs) (k:Ag G w w'):aDe w' G A n c bs:=by
 refine⟨⟨h.b.len,fun hl=>?_,h.b.wf,h.b.cap,h.b.big⟩,fun ad e hn=>?_⟩
 · obtain⟨ad,e,hb,hc⟩:=h.b.rd hl;refine⟨ad,e,tL hb k.size,fun j u hu=>?_⟩;obtain⟨ob,ho,hd⟩:=h.y ad e (by have:=h.b.len;rw[rU] at hl;omega);have:=hc j u hu;rw[World.cell?_of_block (w:=w) (w':=w') (by rw[aAk,ho,k.keep _ _ ho hd])];exact this
 · obtain⟨ob,ho,hd⟩:=h.y ad e hn;exact⟨ob,k.keep _ _ ho hd,hd⟩
theorem aDe.mono (h:aDe w G A n c bs) (hs:∀b,G b→G' b):aDe w G' A n c bs:=⟨h.b,fun ad e hn=>by
 obtain⟨ob,ho,hd⟩:=h.y ad e hn;exact⟨ob,ho,hd.imp (hs _) id⟩⟩
theorem aDe.low (h:aDe w G A n c bs):aDe w (fun b=>b<w.heap.size) A n c bs:=⟨h.b,fun ad e hn=>by
 obtain⟨ob,ho,hd⟩:=h.y ad e hn;exact⟨ob,ho,.inl (Vz ho)⟩⟩
theorem aDe.isY (h:aDe w G A n c bs) (hn:∀b,¬G b):IsY w A n c bs:=⟨h.b,fun ad e q=>by
 obtain⟨ob,ho,hd⟩:=h.y ad e q;exact⟨ob,ho,hd.elim (fun r=>(hn _ r).elim) id⟩⟩
theorem IsY.a (h:IsY w A n c bs) (G:Xt):aDe w G A n c bs:=⟨h.b,fun ad e q=>by
 obtain⟨ob,ho,hd⟩:=h.y ad e q;exact⟨ob,ho,.inr hd⟩⟩
theorem bCs {w8:World} {yA:Option Addr} {yc:Nat} (h:aDe w G A n c bs) (ho:w8.ownsRow 0 5 1 (.slice yA n yc) n (bs.map (Value.int .u8))):IsY w8 yA n yc bs:=by
 have hl:=h.b.len;obtain⟨A',c',e,hy⟩:=Byt.isY (w:=w8) (B:=0) (v:=.slice yA n yc) (bs:=bs) ⟨by rw[hl];exact ho,h.b.wf⟩;rw[hl] at e hy;injection e with e1 _ e2;subst e1 e2;exact hy
structure aGk (w:World) (G:Xt) (A:Option Addr) (n c:Nat) (ps:List Vd):Prop where
 len:ps.length=n
 rd:Rd w w.heap.size A (ps.flatMap Vd.cells)
 y:∀p∈ps,aDe w G p.A p.n p.c p.bs
 cap:n≤c
 big:c≤maxLen
theorem aGk.agn (h:aGk w G A n c ps) (k:Ag G w w') (hG:∀ad,A=some ad→0<n→G ad.block):aGk w' G A n c ps :=
 ⟨h.len,Rd.agn h.rd k (fun ad e q=>hG ad e (by rw[Vt Vy,h.len] at q;omega)),fun p hp=>(h.y p hp).ag k,h.cap,h.big⟩
theorem aGk.next (h:aGk w G A n c ps) (hb:nD w w'):aGk w' G A n c ps :=
 ⟨h.len,Rd.ag h.rd (.of_below (F:=fun _=>True) hb) (fun _ _=>trivial),fun p hp=>(h.y p hp).ag (.of_below hb),h.cap,h.big⟩
theorem Uh.a (h:Uh w A n c ps) (G:Xt):aGk w G A n c ps:=⟨h.len,h.rd,fun p hp=>(h.y p hp).a G,h.cap,h.big⟩
end
structure OwX (w wr:World) (B g1:Nat) (kd h lba len:Int) (v:Value) (n i:Nat) (ps ps':List Vd):Prop where
 own:wr.ownsRow B 50 2 v n (ps'.flatMap Vd.cells)
 y:∀j p,ps'[j]? =some p→aDe wr (fun b=>i≤j∧b<w.heap.size) p.A p.n p.c p.bs
 same:aQi ps ps'
 bx:Bk wr g1 60 [.int .i64 kd,.int .i64 h,.int .i64 lba,.int .i64 len,v]
 bel:nD w wr
 ge:w.heap.size≤B
section
variable {w wr w9 w10:World} {B g1:Nat} {kd h lba len:Int} {v:Value} {n m:Nat} {ps ps':List Vd}
theorem OwX.next (x:OwX w wr B g1 kd h lba len v n m ps ps') (hb:nD wr w9):OwX w w9 B g1 kd h lba len v n m ps ps' :=
 ⟨Vg x.own hb,fun j p hp=>(x.y j p hp).ag (.of_below hb),x.same,x.bx.next hb x.bx.lt,x.bel.trans (hb.mono x.bel.size),x.ge⟩
theorem OwX.le (x:OwX w wr B g1 kd h lba len v n m ps ps'):ps'.length=n:=by
 have:=x.own.1;rw[Vt Vy] at this;omega
theorem OwX.at_ (x:OwX w wr B g1 kd h lba len v n m ps ps') {i:Nat} {p:Vd} (hp:ps'[i]? =some p):∃gq c,v=.slice (some ⟨gq,0,none⟩) n c∧wr.cell? ⟨gq,i*2+1,none⟩=some (.slice p.A p.n p.c):=by
 have hi:=Vi hp;have hl:=x.le;have hrd:=x.own;obtain⟨A,c,rfl⟩:=Xs hrd;obtain⟨gq,cap,hv,_,_⟩:=hrd.form (by omega);injection hv with hA _ hc;subst hA hc;refine⟨gq,c,rfl,?_⟩
 have h1:=hrd.cells (g:=gq) rfl (i*2+1) (.slice p.A p.n p.c) (by
  rw[aAs Vy hi (by decide)];rw[tX hi] at hp;rw[rT hp];rfl)
 rw[Addr.add_lit,Nat.zero_add] at h1;exact h1
theorem OwX.at2 {gq c:Nat} (x:OwX w wr B g1 kd h lba len (.slice (some ⟨gq,0,none⟩) n c) n m ps ps') {i:Nat} {p:Vd} (hp:ps'[i]? =some p):wr.cell? ⟨gq,i*2+1,none⟩=some (.slice p.A p.n p.c):=by
 obtain⟨gq',c',hv,h⟩:=x.at_ hp;injection hv with hA _ hc;injection hA with hA;injection hA with hA;subst hA;exact h
theorem OwX.step {i:Nat} (x:OwX w wr B g1 kd h lba len v n i ps ps') {gq c:Nat} {p:Vd} (hp:ps'[i]? =some p) (hv:v=.slice (some ⟨gq,0,none⟩) n c) (hb:nD wr w9) {A9:Option Addr} {c9:Nat} (hy:IsY w9 A9 p.n c9 p.bs) (e:w9.setCell ⟨gq,i*2+1,none⟩ (.slice A9 p.n c9)=w10) :
  OwX w w10 B g1 kd h lba len v n (i+1) ps (ps'.set i ⟨p.lba,A9,p.n,c9,p.bs⟩):=by
 have x9:=x.next hb;have hi:=Vi hp;have ho:=x9.own;rw[hv] at ho;obtain⟨hBg,cs,hbk⟩:=aVo ho;have e':=e;have k:Kf (fun b=>b=gq) w9 w10:=by rw[←e'];exact(Kf.refl (fun b=>b=gq) w9).set hbk (by decide) (.inl rfl) _ _
 have ag:Ag (fun _=>False) w9 w10:=k.ag (fun b q=>q.elim);have hne:g1≠gq:=aIs x9.bx hbk (by decide);refine⟨?_,fun j q hq=>?_,?_,Bk.ag (F:=fun b=>b=g1) x9.bx (k.ag (fun b q r=>hne (q.symm.trans r))) rfl,?_,x.ge⟩
 · rw[hv,←e',←aFt (f:=Vd.cells) (n:=2) (i:=1) Vy (by decide) ps' i hi (a':=⟨p.lba,A9,p.n,c9,p.bs⟩) (u:=.slice A9 p.n c9) (by rw[tX hi] at hp;rw[rT hp];rfl)];exact aVp ho
 · by_cases hji:i=j
   · subst hji;rw[List.getElem?_set_self hi] at hq;injection hq with hq;subst hq;exact(hy.ag ag).a _
   · rw[List.getElem?_set_ne hji] at hq;exact((x9.y j q hq).ag (k.ag (fun b q' r=>by have h1:=x.ge;have h2:b=gq:=r;have h3:=q'.2;omega))).mono (fun b q'=>⟨by have:=q'.1;omega,q'.2⟩)
 · unfold aQi
   rw[List.map_set];show (ps'.map _).set i (p.lba,p.n)=_
   rw[←x.same];apply List.ext_getElem?;intro j;rw[rD];split
   · rename_i ej;subst ej;split
     · rw[rW,hp];rfl
     · rename_i hn;rw[rU] at hn;omega
   · rfl
 · rw[←e'];exact x9.bel.setCell (p:=⟨gq,i*2+1,none⟩) (tK x.ge hBg) _
end
structure aQr (w w':World) (n:Nat) (ps:List Vd) (A':Option Addr) (c':Nat) (ps':List Vd):Prop where
 is:Uh w' A' n c' ps'
 same:aQi ps ps'
 new:∀ad,A'=some ad→w.heap.size≤ad.block∧∃cs fr,w'.heap[ad.block]? =some (.cells cs 50 fr)
theorem OwX.out {w wr:World} {B g1:Nat} {kd h lba len:Int} {A':Option Addr} {n c':Nat} {ps ps':List Vd} (x:OwX w wr B g1 kd h lba len (.slice A' n c') n n ps ps'):aQr w wr n ps A' c' ps' :=
 ⟨⟨x.le,Ve x.own,fun p hp=>by
   obtain⟨j,hj,e⟩:=List.getElem_of_mem hp
   exact(x.y j p (by rw[tX hj,e])).isY (fun b q=>by have:=x.le;omega),(Vv x.own).1,(Vv x.own).2⟩,x.same,fun ad e=>by
  subst e;have:=Xv (g:=ad.block) x.own rfl;exact⟨tK x.ge this,Vx x.own rfl⟩⟩
theorem Vf {w w9:World} {g2 t:Nat} {a0 a1 a2 a3 a4 v0 v1 v2 v3 v4:Value} (h:Bk w g2 t [a0,a1,a2,a3,a4]) (ht:t≠5) (e:W5 w g2 v0 v1 v2 v3 v4=w9):Kf (fun b=>b=g2) w w9:=by
 rw[←e];exact(((((Kf.refl (fun b=>b=g2) w).set h ht (.inl rfl) 0 v0).set (h.set 0 v0) ht (.inl rfl) 1 v1).set ((h.set 0 v0).set 1 v1) ht (.inl rfl) 2 v2).set (((h.set 0 v0).set 1 v1).set 2 v2) ht (.inl rfl) 3 v3).set ((((h.set 0 v0).set 1 v1).set 2 v2).set 3 v3) ht (.inl rfl) 4 v4
theorem aQr.ag {w w' w9:World} {n:Nat} {ps:List Vd} {A':Option Addr} {c':Nat} {ps':List Vd} {G:Xt} (h:aQr w w' n ps A' c' ps') (k:Kf G w' w9) (hG:∀ad,A'=some ad→¬G ad.block):aQr w w9 n ps A' c' ps' :=
 ⟨h.is.ag (G:=fun b=>¬G b) (k.ag (fun b q r=>q r)) hG,h.same,fun ad e=>by
  obtain⟨h1,cs,fr,h2⟩:=h.new ad e;exact⟨h1,cs,fr,k.keep _ _ h2 (.inl (hG ad e))⟩⟩
theorem aZv {w wr w9:World} {B g1 g2:Nat} {kd h lba len:Int} {A':Option Addr} {n c':Nat} {ps ps':List Vd} {a0 a1 a2 a3 a4 v0 v1 v2 v3 v4:Value} (x:OwX w wr B g1 kd h lba len (.slice A' n c') n n ps ps') (hb:Bk wr g2 60 [a0,a1,a2,a3,a4]) (hg:w.heap.size≤g2) (e:W5 wr g2 v0 v1 v2 v3 v4=w9):aQr w w9 n ps A' c' ps'∧nD w w9 :=
 ⟨x.out.ag (Vf hb (by decide) e) (fun ad q r=>Vc x.own hb (by decide) (by rw[q];exact congrArg some r)),aAo x.bel hg e⟩
theorem bAo {ps ps':List Vd} (h:aQi ps ps') {b:Nat} (hb:∀p∈ps,p.n≤b):∀p∈ps',p.n≤b:=fun p hp=>by
 have h1:(p.lba,p.n)∈ps'.map (fun p=>(p.lba,p.n)):=List.mem_map.2 ⟨p,hp,rfl⟩;rw[show ps'.map (fun p=>(p.lba,p.n))=ps.map (fun p=>(p.lba,p.n)) from h] at h1;obtain⟨q,hq,e⟩:=List.mem_map.1 h1;injection e with _ e;rw[←e];exact hb q hq
theorem aZu (kd h lba len:Int) (G:Xt) (A:Option Addr) (n c:Nat) (ps:List Vd) (w:World) (hp:aGk w G A n c ps) (hn:n≤20000) (hq:∀p∈ps,p.n≤20000) :
  Calls prog 55 #[.agg #[.int .i64 kd,.int .i64 h,.int .i64 lba,.int .i64 len,.slice A n c]] w fun e w'=>(∃A' c' ps',e=.returned (.agg #[.int .i64 kd,.int .i64 h,.int .i64 lba,.int .i64 len,.slice A' n c'])∧aQr w w' n ps A' c' ps')∧nD w w':=by
 obtain⟨g1,w1,hzw1,hw1,Bw1,bw1⟩:=Xy w 60 [.int .i64 kd,.int .i64 h,.int .i64 lba,.int .i64 len,.slice A n c];obtain⟨g2,w2,hzw2,hw2,Bw2,bw2⟩:=Xy w1 60 [.int .i64 0,.int .i64 0,.int .i64 0,.int .i64 0,.slice none 0 0];have B12:=Bw1.next bw2 Bw1.lt;obtain⟨c0,c1,c2,c3,c4⟩:=B12.c5;have b02:nD w w2:=bw1.trans (bw2.mono bw1.size);have hp2:=hp.next b02;have hcl:=aIu A n c (ps.flatMap Vd.cells) w2 (by rw[Vt Vy,hp.len]) hp2.rd (by intro u hu;obtain⟨p,_,hu⟩:=List.mem_flatMap.1 hu;simp[Vd.cells] at hu;rcases hu with rfl|rfl<;>rfl) (by omega);have hlt:g1<g2:=by have:=Bw1.lt;omega
 have HB:=nM b02 B12 Bw2 (tO hzw1) hlt (show ∀p∈ps,aDe w2 (fun b=>b<w.heap.size) p.A p.n p.c p.bs from fun p hm=>(hp.y p hm).low.ag (.of_below b02)) hn hq;clear hp hp2 Bw1 bw1 Bw2 bw2 B12 b02 hlt hn hq;go_enter func55,ntmps55
 go_wp2_with fail
 refine hcl.mono ?_;rintro e w3 ⟨⟨v3,rfl,ho3⟩,hb3⟩;obtain⟨A3,k3,rfl⟩:=Xs ho3;clear hcl c0 c1 c2 c3 c4;have B13:=HB.o.2.1.next hb3 HB.o.2.1.lt;have B23:=HB.o.2.2.1.next hb3 HB.o.2.2.1.lt;have f4:=B13.free 4;have c4:=B13.cell (i:=4) (by simp);obtain⟨w4,hw4⟩:=nC (w3.setCell ⟨g1,4,none⟩ (.slice A3 n k3));have B14:Bk w4 g1 60 [.int .i64 kd,.int .i64 h,.int .i64 lba,.int .i64 len,.slice A3 n k3]:=by rw[←hw4];exact B13.set 4 _
 have B24:Bk w4 g2 60 [.int .i64 0,.int .i64 0,.int .i64 0,.int .i64 0,.slice none 0 0]:=by rw[←hw4];exact B23.far (Nat.ne_of_gt HB.o.2.2.2.2.1) _
 have b14:nD w w4:=aBk (HB.o.1.trans (hb3.mono HB.o.1.size)) HB.o.2.2.2.1 hw4;have k34:Ag (fun b=>b≠g1) w3 w4:=by rw[←hw4];exact((Kf.refl (fun b=>b=g1) w3).set B13 (by decide) (.inl rfl) 4 _).ag (fun b q r=>q r)
 have HX4:=hid (show OwX w w4 w2.heap.size g1 kd h lba len (.slice A3 n k3) n 0 ps ps from
  ⟨Vj ho3 k34 (fun g q=>by have:=Xv ho3 q;have:=HB.o.2.1.lt;omega),fun j p hp=>(((HB.o.2.2.2.2.2.1 p (tZ hp)).ag (.of_below hb3)).ag (k34.mono (fun b q=>by have h1:=HB.o.2.2.2.1;have h2:b<w.heap.size:=q;show b≠g1;omega))).mono (fun b q=>⟨zL,q⟩),rfl,B14,b14,HB.o.1.size⟩)
 have HG:=hid (show Bk w4 g2 60 [.int .i64 0,.int .i64 0,.int .i64 0,.int .i64 0,.slice none 0 0] from B24);clear ho3 hb3 B13 B23 B24 b14 k34;obtain⟨d0,d1,d2,d3,d4⟩:=B14.c5;clear B14;go_wp2_with fail
 go_loopw [11] (fun iv wr=>∃i:Nat,i≤n∧iv=.int .i64 (i:Int)∧∃ps',Hid (OwX w wr w2.heap.size g1 kd h lba len (.slice A3 n k3) n i ps ps'∧Bk wr g2 60 [.int .i64 0,.int .i64 0,.int .i64 0,.int .i64 0,.slice none 0 0])) (fun iv _=>n - (intOf iv).toNat)
 case atStart=>exact⟨0,zL,rfl,ps,hid ⟨HX4.o,HG.o⟩⟩
 case round =>
  obtain⟨i,hi,rfl,ps',HY⟩:=hrel;have HX:=hid HY.o.1;clear d0 d1 d2 d3 d4;have HBX:=HX.o.bx;obtain⟨d0,d1,d2,d3,d4⟩:=HBX.c5;clear HBX;rcases tN i n with hlt|hge
  · obtain⟨p,hp⟩:∃p,ps'[i]? =some p:=⟨_,tX (by rw[HX.o.le];exact hlt)⟩
    obtain⟨gq,cq,hv,ce⟩:=HX.o.at_ hp;injection hv with hA _ hc;subst hA hc;have HY2:=nF (HX.o.y i p hp) (bAo HX.o.same HB.o.2.2.2.2.2.2.2 p (tZ hp));have n1:(i:Int)<(n:Int):=by omega
    have n2:(0:Int)≤(i:Int):=by omega
    have m2:wrap64 ((i:Int)+1)=(i:Int)+1:=by unfold wrap64;have:=HB.o.2.2.2.2.2.2.1;omega
    have HP:=nF hp hlt;have KK:=hid (fun (w':World) (hS:nD wr w')=>nS ((HX.o.bx.next hS HX.o.bx.lt).cell (i:=4) (by simp)) ((HX.o.next hS).at2 HP.o.1));clear hp hlt hi;go_wp2_with fail
    have Kq:=KK;refine Vn (fun w'=>nD wr w') [12] (by kernel_rfl) (Xu nB) (fun nE=>?_);refine kM 0 ?_;refine kM 1 ?_;refine kM 2 ?_;refine kM 3 ?_;refine kM 4 ?_;refine kM 5 ?_;refine kM 6 ?_;refine kM 7 ?_;refine kM 8 ?_;refine rM 9 (fun K hK=>?_);go_simp;refine(aAh p.A p.n p.c wr.heap.size (p.bs.map (Value.int .u8)) _ (by rw[rU];exact HY2.o.1.b.len) (HY2.o.1.ag (.of_below nE)).b.rd Ui (by have:=HY2.o.2;omega) nE.size).mono ?_;rintro e w8 ⟨⟨vc,rfl,hvc⟩,hb8⟩;have hS8:nD wr w8:=nE.trans (hb8.mono nE.size);obtain⟨yA,yc,rfl⟩:=Xs hvc;have HVC:=nF (bCs HY2.o.1 (ownsRow_base_a hvc zL)) hS8;clear hvc hb8;obtain⟨w10,hw10⟩:=nC (w8.setCell ⟨gq,i*2+1,none⟩ (.slice yA p.n yc));have x8:=(HX.o.next hS8).at2 HP.o.1;have fr8:w8.frozen? ⟨gq,i*2+1,none⟩=false:=by obtain⟨_,cs,hb⟩:=aVo (HX.o.next hS8).own;exact hb.free (i*2+1)
    have H10:=hid (HX.o.step HP.o.1 rfl HVC.o.2 HVC.o.1 hw10);go_simp;refine hK.out _ _ (fun _ _=>hS8) ?_;clear hK K nE;have nE:=hS8;try simp only[Act.put,tC,tD,tE]
    refine kR 10 ?_;refine kR 11 ?_;refine rM 12 (fun K hK=>?_);go_simp;try rw[hw10]
    refine hK.out _ _ (fun h=>absurd (by decide) h) ?_;clear hK K;try simp only[Act.put,tC,tD,tE]
    refine Vs (by kernel_rfl) ?_ _;clear Kq
    have hg2:Bk w10 g2 60 [.int .i64 0,.int .i64 0,.int .i64 0,.int .i64 0,.slice none 0 0]:=by
     rw[←hw10];exact(HY.o.2.next HVC.o.2 HY.o.2.lt).far (fun (q:g2=gq)=>by have h1:=Xv (g:=gq) HX.o.own rfl;have h2:=HB.o.2.2.1.lt;omega) _
    go_wp2_with fail
    go_roundw
    case rel=>exact⟨i+1,HP.o.2,Va (by first|rfl|exact m2),_,hid ⟨H10.o,hg2⟩⟩
    case measure=>(try rw[m2]);exact Xw (x:=(i:Int)+1) HP.o.2 rfl
  · obtain rfl:i=n:=tQ hi hge;have B24:=HY.o.2;obtain⟨r0,r1,r2,r3,r4⟩:=B24.c5;have q0:=B24.free 0;have q1:=B24.free 1;have q2:=B24.free 2;have q3:=B24.free 3;have q4:=B24.free 4;obtain⟨w9,hw9⟩:=nC (W5 wr g2 (.int .i64 kd) (.int .i64 h) (.int .i64 lba) (.int .i64 len) (.slice A3 i k3));have HR:=nF (Vb B24 hw9) (aZv HX.o B24 (tK HB.o.2.2.2.1 (tU HB.o.2.2.2.2.1)) hw9);unfold W5 at hw9;clear B24;go_wp2_with fail
    refine bodyPost_ret (bEs rfl _ _ _ _ (by rfl) HR.o.1) rfl ?_;exact⟨⟨A3,k3,ps',rfl,HR.o.2.1⟩,HR.o.2.2⟩
theorem aPs:(prog.info? 258).map (·.size)=some 5:=by kernel_rfl
theorem aFe {fn:Func} {p u:Tmp} (h:fn.results=#[.cell p 258,.tmp u]) (tmps:Array Value) (w:World) (g:Nat) (cs:List Value) (hp:tmps.getD p undef=.pointer (some ⟨g,0,none⟩)) (hg:Bk w g 258 cs) (hl:cs.length=5:=by rfl) :
  (results fn tmps).run prog w=.ok (.tuple #[.agg cs.toArray,tmps.getD u undef]) w:=by
 rw[results_cell_tmp h,hp];simp[asAddr,run_loadVar_row w g 258 258 cs.toArray (0,0) _ hg underlying258 rfl (by rw[aPs];simp[hl]),Result.andThen]
theorem aOy {v:Int} (h:v<2 ^ (8*4)):v≤4294967295:=by
 have e:(2:Int) ^ (8*4)=4294967296:=by decide
 omega
def deR (w w':World) (bs:List Int) (e:Ending):Prop :=
 (∃r:Int,r≠0∧e=.returned (.tuple #[.agg #[.int .i64 0,.int .i64 0,.int .i64 0,.int .i64 0,.slice none 0 0],.int .i64 r]))∨
 (∃A n c,e=.returned (.tuple #[.agg #[.int .i64 (frD bs).kind,.int .i64 (frD bs).ep,.int .i64 (frD bs).seq,.int .i64 (frD bs).lba,.slice A n c],.int .i64 0])∧IsY w' A n c (frD bs).body∧n=(frD bs).n∧n≤40∧(1≤(frD bs).kind∧(frD bs).kind≤4)∧(0≤(frD bs).lba∧(frD bs).lba≤1048576)∧(0≤(frD bs).seq∧(frD bs).seq≤1099511627776)∧(0≤(frD bs).ep∧(frD bs).ep≤4294967295))
theorem aHe (ad:Addr) (c:Nat) (bs:List Int) (w:World) (h:IsY w (some ad) 64 c bs) :
  Calls prog 197 #[.slice (some ad) 64 c] w fun e w'=>deR w w' bs e∧nD w w':=by
 obtain⟨g1,w1,hzw1,hw1,Bw1,bw1⟩:=Xy w 258 [.int .i64 0,.int .i64 0,.int .i64 0,.int .i64 0,.slice none 0 0];obtain⟨g2,w2,hzw2,hw2,Bw2,bw2⟩:=Xy w1 258 [.int .i64 0,.int .i64 0,.int .i64 0,.int .i64 0,.slice none 0 0];have h2:IsY w2 (some ad) 64 c bs:=(h.ag (F:=fun _=>False) (.of_below bw1)).ag (F:=fun _=>False) (.of_below bw2);have hcap:=h.b.cap;have hbig:=h.b.big;have hml:maxLen≤9223372036854775807:=by decide
 obtain⟨x1,e1,⟨x10,x11⟩,k1⟩:=aBt h2.b (k:=1) (by omega);obtain⟨n,rfl⟩:=Int.eq_ofNat_of_zero_le x10;obtain⟨x0,e0,⟨x00,x01⟩,k0⟩:=aBt h2.b (k:=0) (by omega);have c1:w2.cell? ⟨ad.block,ad.off+1,none⟩=some (.int .u8 (n:Int)):=k1 w2 nB;have H:=nL h2 (Bw1.next bw2 Bw1.lt) Bw2 (bw1.trans (bw2.mono bw1.size)) (nS e0 e1) (nS hcap hbig) hml;have K0:=hid (fun (w':World) (hS:nD w2 w')=>show w'.cell? ad=some (.int .u8 x0) from k0 w' hS);have HB0:=hid (show w.heap.size<w1.heap.size by have:=Bw1.lt;omega);clear h h2 Bw1 bw1 Bw2 bw2 k1 e1 k0 e0 hbig hml;go_enter func197,ntmps197
 go_wp2_with fail
 go_step3;go_wp2_with fail
 go_step3;go_wp2_with fail
 go_loopw [5] (fun v wr=>v=.bool false∧wr=w2) (fun _ _=>0)
 case atStart=>exact⟨rfl,rfl⟩
 case round =>
  obtain⟨rfl,rfl⟩:=hrel;have g64:=aHm (some ⟨ad.block,ad.off+6,none⟩) 58 (c - 6) ((bs.drop 6).take 58) wr (show IsY wr (some ⟨ad.block,ad.off+6,none⟩) 58 (c - 6) ((bs.drop 6).take 58) from H.o.1.sub (i:=6) (j:=64) (by decide) (by decide) (by omega)).b (by decide);have hv0:=aCe (bs:=(bs.drop 6).take 58) (fun x hx=>H.o.1.b.wf x (rS (rR hx))) 8;have hvs:((bs.drop 6).take 58).take 8=(bs.drop 6).take 8:=by rw[List.take_take];rfl
  rw[hvs] at g64 hv0;obtain⟨sv,hsv⟩:=nC (Um ((bs.drop 6).take 8));rw[hsv] at g64 hv0;have HS:=nF hsv hv0;have HG:=nH hzw1 hzw2 (show w.heap.size≤g2 by have:=(Below.size (w:=w) (w':=w1) (by rw[←hw1];exact nB.alloc lR _));omega);have sv0:=hv0.1;clear hsv hv0 hvs;go_wp2_with fail
  refine g64.mono ?_;rintro e w' ⟨rfl,rfl⟩;clear g64;by_cases h40:40<(n:Int)
  · have t0:decide (40<(n:Int))=true:=rZ h40;clear h40;have B9:=H.o.2.1;obtain⟨z0,z1,z2,z3,z4⟩:=B9.c5;obtain⟨q0,q1,q2,q3,q4⟩:=nV (B9.free 0) (B9.free 1) (B9.free 2) (B9.free 3) (B9.free 4);obtain⟨w9,hw9⟩:=nC (W5 wr g1 (.int .i64 0) (.int .i64 0) (.int .i64 0) (.int .i64 0) (.slice none 0 0));have HZ:=nF (Vb B9 hw9) (aAo H.o.2.2.2.1 (tO HG.o.1) hw9);unfold W5 at hw9;clear B9;go_wp2_with fail
    (try simp only[Exit.inBlock,Exit.then,Exit.noGoto_ret])
    refine bodyPost_ret (aFe rfl _ _ _ _ (by rfl) HZ.o.1) rfl ?_;exact⟨.inl ⟨13,by decide,rfl⟩,HZ.o.2⟩
  · by_cases hsm:1099511627776<sv
    · have t0:decide (40<(n:Int))=false:=rY h40;have t1:decide (1099511627776<sv)=true:=rZ hsm;clear h40 hsm;have B9:=H.o.2.1;obtain⟨z0,z1,z2,z3,z4⟩:=B9.c5;obtain⟨q0,q1,q2,q3,q4⟩:=nV (B9.free 0) (B9.free 1) (B9.free 2) (B9.free 3) (B9.free 4);obtain⟨w9,hw9⟩:=nC (W5 wr g1 (.int .i64 0) (.int .i64 0) (.int .i64 0) (.int .i64 0) (.slice none 0 0));have HZ:=nF (Vb B9 hw9) (aAo H.o.2.2.2.1 (tO HG.o.1) hw9);unfold W5 at hw9;clear B9;go_wp2_with fail
      (try simp only[Exit.inBlock,Exit.then,Exit.noGoto_ret])
      refine bodyPost_ret (aFe rfl _ _ _ _ (by rfl) HZ.o.1) rfl ?_;exact⟨.inl ⟨13,by decide,rfl⟩,HZ.o.2⟩
    · have t0:decide (40<(n:Int))=false:=rY h40;have t1:decide (1099511627776<sv)=false:=rY hsm;have g32a:=aHl (some ⟨ad.block,ad.off+2,none⟩) 62 (c - 2) ((bs.drop 2).take 62) wr (show IsY wr (some ⟨ad.block,ad.off+2,none⟩) 62 (c - 2) ((bs.drop 2).take 62) from H.o.1.sub (i:=2) (j:=64) (by decide) (by decide) (by omega)).b (by decide);have g32b:=aHl (some ⟨ad.block,ad.off+14,none⟩) 50 (c - 14) ((bs.drop 14).take 50) wr (show IsY wr (some ⟨ad.block,ad.off+14,none⟩) 50 (c - 14) ((bs.drop 14).take 50) from H.o.1.sub (i:=14) (j:=64) (by decide) (by decide) (by omega)).b (by decide);have b2:=aCe (bs:=(bs.drop 2).take 62) (fun x hx=>H.o.1.b.wf x (rS (rR hx))) 4;have b14:=aCe (bs:=(bs.drop 14).take 50) (fun x hx=>H.o.1.b.wf x (rS (rR hx))) 4;rw[show ((bs.drop 2).take 62).take 4=(bs.drop 2).take 4 by rw[List.take_take];rfl] at g32a b2;rw[show ((bs.drop 14).take 50).take 4=(bs.drop 14).take 4 by rw[List.take_take];rfl] at g32b b14;obtain⟨ev,hev⟩:=nC (Um ((bs.drop 2).take 4));obtain⟨lv,hlv⟩:=nC (Um ((bs.drop 14).take 4));rw[hev] at g32a b2;rw[hlv] at g32b b14;have n40:n≤40:=by omega
      have HY:=nF n40 (show IsY wr (some ⟨ad.block,ad.off+18,none⟩) n (c - 18) ((bs.drop 18).take n) by have h:=H.o.1.sub (i:=18) (j:=18+n) (by omega) (by omega) (by omega);rw[Nat.add_sub_cancel_left] at h;exact h);have HE:=nI hev hlv b2 b14;have sv1:sv≤1099511627776:=by omega
      obtain⟨ev0,ev1⟩:=b2;obtain⟨lv0,lv1⟩:=b14;clear hev hlv h40 hsm;have KK:=hid (fun (w':World) (hS:nD wr w')=>K0.o w' hS);have w18:IntKind.i64.wrap (18+(n:Int))=18+(n:Int):=by rw[IntKind.wrap_i64];omega
      have a18:(0:Int)≤18+(n:Int):=by omega
      have b18:18+(n:Int)≤(c:Int):=by omega
      have m18:(18:Int)≤max (18+(n:Int)) 0:=by omega
      have jO:¬c=18:=by omega
      have s18:(18+(n:Int)).toNat - 18=n:=by omega
      go_wp2_with fail
      refine g32a.mono ?_;rintro e w' ⟨rfl,rfl⟩;clear g32a;go_wp2_with fail
      refine g32b.mono ?_;rintro e w' ⟨rfl,rfl⟩;clear g32b;go_wp2_with fail
      have Kq:=KK;refine Vn (fun w'=>nD wr w') [16] (by kernel_rfl) (Xu nB) (fun nE=>?_);refine kR 0 ?_;refine kR 1 ?_;refine kM 2 ?_;refine kR 3 ?_;refine kR 4 ?_;refine kR 5 ?_;refine kR 6 ?_;refine kR 7 ?_;refine kR 8 ?_;refine kR 9 ?_;refine kR 10 ?_;refine kR 11 ?_;refine kR 12 ?_;refine kR 13 ?_;refine rM 14 (fun K hK=>?_);go_simp;refine(aAh (some ⟨ad.block,ad.off+18,none⟩) n (c - 18) wr.heap.size (((bs.drop 18).take n).map (Value.int .u8)) _ (by rw[rU];exact HY.o.2.b.len) (HY.o.2.ag (F:=fun _=>False) (.of_below nE)).b.rd Ui (by omega) (by first|exact nE.size|exact zL|exact lR)).mono ?_;rintro e w8 ⟨⟨vc,rfl,hvc⟩,hb8⟩;have hS4:nD wr w8:=nE.trans (hb8.mono nE.size);have HVC:=nF (aTu HY.o.2 hvc) HY.o.2.b.len;obtain⟨yA,yc,rfl⟩:=Xs hvc;clear hvc hb8;go_simp;obtain⟨w10,hw10⟩:=nC (W5 w8 g2 (.int .i64 x0) (.int .i64 ev) (.int .i64 sv) (.int .i64 lv) (.slice yA n yc));have B8:=H.o.2.2.1.next hS4 H.o.2.2.1.lt;obtain⟨z0,z1,z2,z3,z4⟩:=B8.c5;obtain⟨q0,q1,q2,q3,q4⟩:=nV (B8.free 0) (B8.free 1) (B8.free 2) (B8.free 3) (B8.free 4);have H10:=nI (Vb B8 hw10) (aAo (H.o.2.2.2.1.trans (hS4.mono H.o.2.2.2.1.size)) HG.o.2.2 hw10) (Vf B8 (by decide) hw10) hS4;unfold W5 at hw10;clear B8;refine hK.out _ _ (fun _ _=>hS4) ?_;clear hK K nE;have nE:=hS4;try simp only[Act.put,tC,tD,tE]
      refine kR 15 ?_;refine rM 16 (fun K hK=>?_);go_simp;try rw[hw10]
      refine hK.out _ _ (fun h=>absurd (by decide) h) ?_;clear hK K;try simp only[Act.put,tC,tD,tE]
      refine Vs (by kernel_rfl) ?_ _;clear Kq;obtain⟨A',c',e,hy⟩:=HVC.o.1.isY;rw[HVC.o.2] at e hy;injection e with e1 _ e3;subst e1 e3;have hy10:IsY w10 yA n yc ((bs.drop 18).take n):=hy.ag (H10.o.2.2.1.ag (F:=fun _=>False) (fun b q=>q.elim));have hp10:IsY w10 (some ad) 64 c bs:=(H.o.1.ag (F:=fun _=>False) (.of_below H10.o.2.2.2)).ag (H10.o.2.2.1.ag (F:=fun _=>False) (fun b q=>q.elim));have hg12:g1<g2:=by have:=H.o.2.1;have h:=HG.o;have h2:=HB0.o;omega
      have B1:Bk w10 g1 258 [.int .i64 0,.int .i64 0,.int .i64 0,.int .i64 0,.slice none 0 0]:=Bk.ag (F:=fun b=>b=g1) (H.o.2.1.next H10.o.2.2.2 H.o.2.1.lt) (H10.o.2.2.1.ag (fun b q r=>Nat.ne_of_lt hg12 (q.symm.trans r))) rfl;have HP10:=nH hp10 hy10 B1;obtain⟨d0,d1,d2,d3,d4⟩:=H10.o.1.c5;by_cases hK:(1≤x0∧x0≤4)∧(0≤lv∧lv≤1048576)
      · have henc:=aNy x0 ev sv lv yA n yc _ w10 hK.1 ⟨ev0,aOy ev1⟩ ⟨sv0,sv1⟩ hK.2 hy10.b n40;have HK:=hid hK;clear hy hy10 hp10 B1 hK;go_wp2_with fail
        refine henc.mono ?_;rintro e w11 ⟨⟨v,bs',rfl,hv,hl64⟩,hb11⟩;obtain⟨vA,vc,rfl,hi⟩:=hv.isB;have heq:=aIz (some ad) 64 c bs vA bs'.length vc bs' w11 (HP10.o.1.ag (F:=fun _=>False) (.of_below hb11)).b hi (by decide);have H11:=hid hb11;clear henc hv hl64 hb11 hi;go_wp2_with fail
        refine heq.mono ?_;rintro e w12 ⟨⟨b,rfl⟩,hb12⟩;have H12:=hid (H11.o.trans (hb12.mono H11.o.size));clear heq hb12;have HB12:=hid (H10.o.2.1.trans (H12.o.mono H10.o.2.1.size))
        cases b with
        | false =>
          have B9:=HP10.o.2.2.next H12.o HP10.o.2.2.lt;obtain⟨z0,z1,z2,z3,z4⟩:=B9.c5;obtain⟨q0,q1,q2,q3,q4⟩:=nV (B9.free 0) (B9.free 1) (B9.free 2) (B9.free 3) (B9.free 4);obtain⟨w9,hw9⟩:=nC (W5 w12 g1 (.int .i64 0) (.int .i64 0) (.int .i64 0) (.int .i64 0) (.slice none 0 0));have HZ:=nF (Vb B9 hw9) (aAo HB12.o (tO HG.o.1) hw9);unfold W5 at hw9;clear B9;go_wp2_with fail
          (try simp only[Exit.inBlock,Exit.then,Exit.noGoto_ret])
          refine bodyPost_ret (aFe rfl _ _ _ _ (by rfl) HZ.o.1) rfl ?_;exact⟨.inl ⟨13,by decide,rfl⟩,HZ.o.2⟩
        | true =>
          have B2:=H10.o.1.next H12.o H10.o.1.lt;obtain⟨y0,y1,y2,y3,y4⟩:=B2.c5;have B9:=HP10.o.2.2.next H12.o HP10.o.2.2.lt;obtain⟨z0,z1,z2,z3,z4⟩:=B9.c5;obtain⟨q0,q1,q2,q3,q4⟩:=nV (B9.free 0) (B9.free 1) (B9.free 2) (B9.free 3) (B9.free 4);obtain⟨w9,hw9⟩:=nC (W5 w12 g1 (.int .i64 x0) (.int .i64 ev) (.int .i64 sv) (.int .i64 lv) (.slice yA n yc));have HZ:=nH (Vb B9 hw9) (aAo HB12.o (tO HG.o.1) hw9) ((HP10.o.2.1.ag (F:=fun _=>False) (.of_below H12.o)).ag ((Vf B9 (by decide) hw9).ag (F:=fun _=>False) (fun b q=>q.elim)))
          have hfr:frD bs=⟨x0,ev,sv,lv,n,(bs.drop 18).take n⟩:=by
           have e0:=H.o.2.2.2.2.1.1;have e1:=H.o.2.2.2.2.1.2;unfold frD
           rw[show bs.getD 0 0=x0 by simp[List.getD,e0],show bs.getD 1 0=(n:Int) by simp[List.getD,e1],HE.o.1,HE.o.2.1,HS.o.1,Int.toNat_natCast]
          have HFR:=hid hfr;have HN:=nI n40 (nS sv0 sv1) ev0 (aOy ev1);unfold W5 at hw9;clear B9 B2 hfr;go_wp2_with fail
          (try simp only[Exit.inBlock,Exit.then,Exit.noGoto_ret])
          refine bodyPost_ret (aFe rfl _ _ _ _ (by rfl) HZ.o.1) rfl ?_;refine⟨.inr ⟨yA,n,yc,?_⟩,HZ.o.2.1⟩;rw[HFR.o];exact⟨rfl,HZ.o.2.2,rfl,HN.o.1,HK.o.1,HK.o.2,HN.o.2.1,HN.o.2.2⟩
      · have henc:=aRh x0 ev sv lv yA n yc w10 (Decidable.not_and_iff_not_or_not.1 hK) ⟨ev0,aOy ev1⟩ ⟨sv0,sv1⟩;clear hy hy10 hp10 B1 hK;go_wp2_with fail
        refine henc.mono ?_;rintro e w12 ⟨rfl,hb12⟩;have H12:=hid hb12;have HB12:=hid (H10.o.2.1.trans (hb12.mono H10.o.2.1.size));clear henc hb12;have B9:=HP10.o.2.2.next H12.o HP10.o.2.2.lt;obtain⟨z0,z1,z2,z3,z4⟩:=B9.c5;obtain⟨q0,q1,q2,q3,q4⟩:=nV (B9.free 0) (B9.free 1) (B9.free 2) (B9.free 3) (B9.free 4);obtain⟨w9,hw9⟩:=nC (W5 w12 g1 (.int .i64 0) (.int .i64 0) (.int .i64 0) (.int .i64 0) (.slice none 0 0));have HZ:=nF (Vb B9 hw9) (aAo HB12.o (tO HG.o.1) hw9);unfold W5 at hw9;clear B9;go_wp2_with fail
        (try simp only[Exit.inBlock,Exit.then,Exit.noGoto_ret])
        refine bodyPost_ret (aFe rfl _ _ _ _ (by rfl) HZ.o.1) rfl ?_;exact⟨.inl ⟨13,by decide,rfl⟩,HZ.o.2⟩
end Go.Proofs.YtdhlicgaalnmoaaGreatDoor.Tp
