/- Contracts of the program's functions, and laws on memory: a part of the proof of TopAlone. -/
import Derived.Test.YtdhlicgaalnmoaaGreatDoorZG
set_option linter.unusedSimpArgs false
set_option linter.unusedVariables false
namespace Go.Proofs.YtdhlicgaalnmoaaGreatDoor.Tp
open Lib (hid)
open Tryz
open Go.RowKit Go.Maps
set_option maxHeartbeats 8000000
set_option maxRecDepth 100000
theorem aHa:prog.underlying 164=some (.map 3 170):=underlying164
theorem aXd (w:World):(zeroValue 170).run prog w=.ok (.pointer none) w:=by kernel_rfl
theorem Xz {w:World} {mb gm kb am out:Nat} {qv:Value} {m:MS} (h:Bk w mb 166 (Vp gm kb am qv out m)) :
  w.cell? ⟨mb,0,none⟩=some (.pointer (some ⟨gm,0,none⟩))∧w.cell? ⟨mb,1,none⟩=some (.pointer (some ⟨kb,0,none⟩))∧w.cell? ⟨mb,2,none⟩=some (.map (some am))∧w.cell? ⟨mb,3,none⟩=some qv∧w.cell? ⟨mb,4,none⟩=some (.int .i64 (out:Int))∧
  w.cell? ⟨mb,5,none⟩=some (.int .i64 (m.num:Int))∧w.cell? ⟨mb,6,none⟩=some (.int .i64 (m.base:Int))∧w.cell? ⟨mb,7,none⟩=some (.int .i64 (m.last:Int))∧w.cell? ⟨mb,8,none⟩=some (.int .i64 (m.given:Int))∧w.cell? ⟨mb,9,none⟩=some (.bool m.read) :=
 ⟨h.cell (i:=0) (by simp[Vp]),h.cell (i:=1) (by simp[Vp]),h.cell (i:=2) (by simp[Vp]),h.cell (i:=3) (by simp[Vp]),h.cell (i:=4) (by simp[Vp]),h.cell (i:=5) (by simp[Vp]),h.cell (i:=6) (by simp[Vp]),h.cell (i:=7) (by simp[Vp]),h.cell (i:=8) (by simp[Vp]),h.cell (i:=9) (by simp[Vp])⟩
theorem aAg {w:World} {t:TX} {code:Int} {e:TE} (h:Bk w e.tb 174 (aAr t code e)) :
  w.cell? ⟨e.tb,0,none⟩=some (.int .i64 (t.st:Int))∧w.cell? ⟨e.tb,1,none⟩=some (.int .i64 (t.time:Int))∧w.cell? ⟨e.tb,2,none⟩=some (.int .i64 code)∧w.cell? ⟨e.tb,3,none⟩=some (.int .i64 (t.at':Int))∧w.cell? ⟨e.tb,4,none⟩=some (.pointer (some ⟨e.bb,0,none⟩))∧w.cell? ⟨e.tb,5,none⟩=some (.pointer (some ⟨e.vb,0,none⟩)) :=
 ⟨h.cell (i:=0) (by simp[aAr]),h.cell (i:=1) (by simp[aAr]),h.cell (i:=2) (by simp[aAr]),h.cell (i:=3) (by simp[aAr]),h.cell (i:=4) (by simp[aAr]),h.cell (i:=5) (by simp[aAr])⟩
theorem wfN {i:Nat} (h:i≤1000000):Un ((i:Int)+1):=aDt (by omega) (by omega)
theorem Vl.look_ok {w:World} {F:Xt} {Ft:Nat→Xt} {mb gm kb am:Nat} {qv:Value} {out:Nat} {m:MS} {es:List TE} {N R:Nat} (h:Vl w F Ft mb gm kb am qv out m es N R) {i:Nat} {e:TE} (he:es[i]? =some e) (hi:i≤1000000) :
  (Instr.lookup 164 (.map (some am)) (.int .i64 ((i:Int)+1)) true).run prog w=.ok (.tuple #[.pointer (some ⟨e.tb,0,none⟩),.bool true]) w∧(Instr.lookup 164 (.map (some am)) (.int .i64 ((i:Int)+1)) false).run prog w=.ok (.pointer (some ⟨e.tb,0,none⟩)) w:=by
 have h1:=h.all.look_ok Uy Ug aHa (aXd w) (wfN hi);have h2:=h.all.look Uy Ug aHa (aXd w) (wfN hi);rw[aPd he] at h1 h2;exact⟨h1,h2⟩
theorem aAl (mb gm kb am out:Nat) (qv:Value) (m:MS) (w:World) (h:Bk w mb 166 (Vp gm kb am qv out m)) :
  Calls prog 85 #[.pointer (some ⟨mb,0,none⟩)] w fun e w'=>e=.returned (.bool false)∧w=w':=by
 obtain⟨c0,_⟩:=Xz h;clear h;go_enter func85,ntmps85
 go_wp2_with fail
 go_ret;exact⟨rfl,rfl⟩
theorem aRz (mb gm kb am out:Nat) (qv:Value) (m:MS) (w:World) (h:Bk w mb 166 (Vp gm kb am qv out m)) :
  Calls prog 102 #[.pointer (some ⟨mb,0,none⟩)] w fun e w'=>e=.returned (.int .i64 (m.last:Int))∧w=w':=by
 have hg:=aAl mb gm kb am out qv m w h;obtain⟨_,_,_,_,_,_,_,c7,_⟩:=Xz h;clear h;go_enter func102,ntmps102
 go_wp2_with fail
 refine hg.mono ?_;rintro e w' ⟨rfl,rfl⟩;clear hg;go_wp2_with fail
 go_ret;exact⟨rfl,rfl⟩
theorem aOm (F:Xt) (Ft:Nat→Xt) (mb gm kb am:Nat) (qv:Value) (out:Nat) (m:MS) (es:List TE) (N R:Nat) (w:World) (h:Vl w F Ft mb gm kb am qv out m es N R) :
  Calls prog 243 #[.pointer (some ⟨mb,0,none⟩)] w fun e w'=>e=.returned (.int .i64 (m.queue.length:Int))∧w=w':=by
 have hg:=aAl mb gm kb am out qv m w h.bx;obtain⟨_,_,_,c3,_⟩:=Xz h.bx;obtain⟨qA,qc,hq⟩:=Xs h.own;rw[hq] at c3;clear h hq;go_enter func243,ntmps243
 go_wp2_with fail
 refine hg.mono ?_;rintro e w' ⟨rfl,rfl⟩;clear hg;go_wp2_with fail
 go_ret;exact⟨rfl,rfl⟩
theorem aPv (Fb:Xt) (mb gm kb am out last s tb:Nat) (qv:Value) (m:MS) (f:Int→Option Value) (w:World) (h:Bk w mb 166 (Vp gm kb am qv out m)) (hb:aBp w Fb kb last s tb f) :
  Calls prog 41 #[.pointer (some ⟨mb,0,none⟩)] w fun e w'=>e=.returned (.int .i64 (s:Int))∧nD w w':=by
 have hg:=aAl mb gm kb am out qv m w h;obtain⟨_,c1,_⟩:=Xz h;have hc:=aEl _ _ _ _ _ _ w hb;clear h hb;go_enter func41,ntmps41
 go_wp2_with fail
 refine hg.mono ?_;rintro e w' ⟨rfl,rfl⟩;clear hg;go_wp2_with fail
 refine hc.mono ?_;rintro e w1 ⟨rfl,hb1⟩;go_wp2_with fail
 go_ret;exact⟨rfl,hb1⟩
theorem aSa (F:Xt) (Ft:Nat→Xt) (mb gm kb am:Nat) (qv:Value) (out:Nat) (m:MS) (es:List TE) (N R:Nat) (w:World) (h:Vl w F Ft mb gm kb am qv out m es N R) :
  Calls prog 41 #[.pointer (some ⟨mb,0,none⟩)] w fun e w'=>(∃k:Nat,e=.returned (.int .i64 (k:Int))∧(m.txs=[]→k=0))∧nD w w':=by
 obtain⟨s,tb,f,hb⟩:=h.book;refine(aPv _ mb gm kb am out _ _ _ qv m _ w h.bx hb).mono ?_;rintro e w' ⟨rfl,hb'⟩;exact⟨⟨_,rfl,fun q=>by have h1:=hb.le;have h2:=h.len;rw[q,List.length_nil] at h2;omega⟩,hb'⟩
theorem aIk (F:Xt) (Ft:Nat→Xt) (mb gm kb am:Nat) (qv:Value) (out:Nat) (m:MS) (es:List TE) (N R:Nat) (yes:Bool) (w:World) (h:Vl w F Ft mb gm kb am qv out m es N R) :
  Calls prog 84 #[.pointer (some ⟨mb,0,none⟩),.bool yes] w fun e w'=>e=.returned (.tuple #[])∧Vl w' F Ft mb gm kb am qv out {m with read:=yes} es N R∧Kf F w w':=by
 have hg:=aAl mb gm kb am out qv m w h.bx;have f9:=h.bx.free 9;obtain⟨w2,hw2⟩:=nC (w.setCell ⟨mb,9,none⟩ (.bool yes))
 have HE:=hid (show Vl w2 F Ft mb gm kb am qv out {m with read:=yes} es N R∧Kf F w w2 from by
  rw[←hw2];exact h.cell ((Kf.refl (fun b=>b=mb) w).set h.bx (by decide) (.inl rfl) 9 _) {m with read:=yes} out (by have:=h.bx.set 9 (.bool yes);simpa [Vp] using this) rfl rfl lR)
 obtain⟨_,_,_,_,_,_,_,_,_,c9⟩:=Xz h.bx;clear h;go_enter func84,ntmps84
 go_wp2_with fail
 refine hg.mono ?_;rintro e w' ⟨rfl,rfl⟩;clear hg;go_wp2_with fail
 go_end0
 exact⟨rfl,HE.o⟩
theorem aEe (F:Xt) (Ft:Nat→Xt) (mb gm kb am:Nat) (qv:Value) (out:Nat) (m:MS) (es:List TE) (N R i:Nat) (t:TX) (x:TE) (w:World) (h:Vl w F Ft mb gm kb am qv out m es N R) (ht:m.txs[i]? =some t) (hx:es[i]? =some x) (hi:i≤1000000) :
  Calls prog 91 #[.pointer (some ⟨mb,0,none⟩),.int .i64 ((i:Int)+1)] w fun e w'=>e=.returned (.pointer (if t.st=1 then some ⟨x.tb,0,none⟩ else none))∧w=w':=by
 have hg:=aAl mb gm kb am out qv m w h.bx;obtain⟨_,_,c2,_⟩:=Xz h.bx;have hlk:=(h.look_ok hx hi).1;obtain⟨code,hb,-⟩:=(h.tx i t x ht hx).bx;obtain⟨d0,_⟩:=aAg hb;clear h hb;by_cases h1:t.st=1
 · rw[if_pos h1];rw[h1] at d0;go_enter func91,ntmps91
   go_wp2_with fail
   refine hg.mono ?_;rintro e w' ⟨rfl,rfl⟩;clear hg;go_wp2_with fail
   go_ret;exact⟨rfl,rfl⟩
 · rw[if_neg h1];have n1:¬((t.st:Int)=1):=by omega
   have n2:((t.st:Int)==1)=false:=by simpa using n1
   have n3:((t.st:Int) !=1)=true:=by simpa using n1
   go_enter func91,ntmps91
   go_wp2_with fail
   refine hg.mono ?_;rintro e w' ⟨rfl,rfl⟩;clear hg;go_wp2_with fail
   go_ret;exact⟨rfl,rfl⟩
theorem aMg (F:Xt) (Ft:Nat→Xt) (mb gm kb am:Nat) (qv:Value) (out:Nat) (m:MS) (es:List TE) (N R i:Nat) (t:TX) (x:TE) (w:World) (h:Vl w F Ft mb gm kb am qv out m es N R) (ht:m.txs[i]? =some t) (hx:es[i]? =some x) (hi:i≤1000000) :
  Calls prog 53 #[.pointer (some ⟨mb,0,none⟩),.int .i64 ((i:Int)+1)] w fun e w'=>(∃code:Int,e=.returned (.tuple #[.int .i64 (t.st:Int),.int .i64 (t.time:Int),.int .i64 code])∧(t.st=3→code=0))∧nD w w':=by
 have hg:=aAl mb gm kb am out qv m w h.bx;obtain⟨_,_,c2,_⟩:=Xz h.bx;have hlk:=(h.look_ok hx hi).1;obtain⟨code,hb,hz⟩:=(h.tx i t x ht hx).bx;have HZ:=hid hz;obtain⟨d0,d1,d2,_⟩:=aAg hb;clear h hb hz;go_enter func53,ntmps53
 go_wp2_with fail
 refine hg.mono ?_;rintro e w' ⟨rfl,rfl⟩;clear hg;go_wp2_with fail
 go_quiet (fail)
 go_wp2_with fail
 go_ret3
 exact⟨⟨_,rfl,HZ.o⟩,Vw nB _⟩
theorem aDm (F:Xt) (Ft:Nat→Xt) (mb gm kb am:Nat) (qv:Value) (out:Nat) (m:MS) (es:List TE) (N R i st:Nat) (sI code:Int) (t:TX) (x:TE) (w:World) (h:Vl w F Ft mb gm kb am qv out m es N R) (ht:m.txs[i]? =some t) (hx:es[i]? =some x) (hi:i≤1000000) (hs:sI=(st:Int)) (hz:st=3→code=0) :
  Calls prog 95 #[.pointer (some ⟨mb,0,none⟩),.int .i64 ((i:Int)+1),.int .i64 sI,.int .i64 code] w fun e w'=>e=.returned (.tuple #[])∧Vl w' F Ft mb gm kb am qv out (m.put i {t with st:=st,time:=if st=4 then 0 else t.time}) es N R∧Kf F w w':=by
 obtain⟨c0,c1,c2,_⟩:=Xz h.bx;have hlk:=(h.look_ok hx hi).2;obtain⟨code0,hb,-⟩:=(h.tx i t x ht hx).bx;have f0:=hb.free 0;have f2:=hb.free 2;obtain⟨w2,hw2⟩:=nC (w.setCell ⟨x.tb,0,none⟩ (.int .i64 sI));have hb2:Bk w2 x.tb 174 (aAr {t with st:=st} code0 x):=by rw[←hw2];have:=hb.set 0 (.int .i64 sI);simpa [aAr,hs] using this
 have k2:Kf (fun b=>b=x.tb) w w2:=by rw[←hw2];exact(Kf.refl (fun b=>b=x.tb) w).set hb (by decide) (.inl rfl) 0 _
 have f22:=hb2.free 2;obtain⟨w3,hw3⟩:=nC (w2.setCell ⟨x.tb,2,none⟩ (.int .i64 code));have hb3:Bk w3 x.tb 174 (aAr {t with st:=st} code x):=by rw[←hw3];have:=hb2.set 2 (.int .i64 code);simpa [aAr] using this
 have k3:Kf (fun b=>b=x.tb) w w3:=by rw[←hw3];exact k2.set hb2 (by decide) (.inl rfl) 2 _
 have f31:=hb3.free 1;obtain⟨w4,hw4⟩:=nC (w3.setCell ⟨x.tb,1,none⟩ (.int .i64 0));have hb4:Bk w4 x.tb 174 (aAr {t with st:=st,time:=0} code x):=by rw[←hw4];have:=hb3.set 1 (.int .i64 0);simpa [aAr] using this
 have k4:Kf (fun b=>b=x.tb) w w4:=by rw[←hw4];exact k3.set hb3 (by decide) (.inl rfl) 1 _
 have e3:=h.state (t':={t with st:=st}) ht hx k3 hb3 hz rfl rfl;have e4:=h.state (t':={t with st:=st,time:=0}) ht hx k4 hb4 hz rfl rfl;have hwf:=wfN hi
 have fin:∀(W:World) (M:MS),Vl W F Ft mb gm kb am qv out M es N R∧Kf F w W→Calls prog 159 #[.pointer (some ⟨kb,0,none⟩),.int .i64 ((i:Int)+1)] W fun e w'=>(∃r:Int,e=.returned (.int .i64 r))∧Vl w' F Ft mb gm kb am qv out M es N R∧Kf F w w':=fun W M hW=>by
  obtain⟨s,tb,f,hbk⟩:=hW.1.book;refine(aIi _ _ _ _ _ _ _ W hbk hwf).mono ?_;rintro e w' ⟨⟨r,rfl⟩,⟨s',_,hbk'⟩,hk⟩;obtain⟨g1,g2⟩:=hW.1.bookd hk hbk';exact⟨⟨r,rfl⟩,g1,hW.2.trans g2 (fun b q=>.inl q)⟩
 have zC:w3.cell? ⟨mb,1,none⟩=some (.pointer (some ⟨kb,0,none⟩)):=(Xz e3.1.bx).2.1;have zM:w4.cell? ⟨mb,1,none⟩=some (.pointer (some ⟨kb,0,none⟩)):=(Xz e4.1.bx).2.1;have fin3:=fin w3 _ e3;have fin4:=fin w4 _ e4;have d0:=(aAg hb).1;have d2:=(aAg hb2).2.2.1;have d1:=(aAg hb3).2.1;clear h hb hb2 hb3 hb4 e3 e4 fin k2 k3 k4 hwf hz;by_cases h4:sI=4
 · rw[if_pos (by omega)];clear hs;subst h4;clear fin3 zC;go_enter func95,ntmps95
   go_wp2_with fail
   refine fin4.mono ?_;rintro e w' ⟨⟨r,rfl⟩,g⟩;go_wp2_with fail
   go_end0
   exact⟨rfl,g⟩
 · rw[if_neg (by omega)];have n1:(sI==4)=false:=by simpa using h4
   clear hs;clear fin4 zM;go_enter func95,ntmps95
   go_wp2_with fail
   refine fin3.mono ?_;rintro e w' ⟨⟨r,rfl⟩,g⟩;go_wp2_with fail
   go_end0
   exact⟨rfl,g⟩
theorem aOg (F:Xt) (Ft:Nat→Xt) (mb gm kb am:Nat) (qv:Value) (out:Nat) (m:MS) (es:List TE) (N R i:Nat) (t:TX) (x:TE) (w:World) (h:Vl w F Ft mb gm kb am qv out m es N R) (ht:m.txs[i]? =some t) (hx:es[i]? =some x) (hi:i≤1000000) :
  Calls prog 225 #[.pointer (some ⟨mb,0,none⟩),.int .i64 ((i:Int)+1)] w fun e w'=>(t.st=1∧e=.returned (.int .i64 0)∧Vl w' F Ft mb gm kb am qv out (m.put i {t with st:=4,time:=0}) es N R∧Kf F w w')∨(t.st≠1∧e=.returned (.int .i64 5)∧w=w'):=by
 have ho:=aEe F Ft mb gm kb am qv out m es N R i t x w h ht hx hi;have he:=aDm F Ft mb gm kb am qv out m es N R i 4 4 0 t x w h ht hx hi rfl (fun q=>by cases q);rw[if_pos rfl] at he;clear h;by_cases h1:t.st=1
 · rw[if_pos h1] at ho;go_enter func225,ntmps225
   go_wp2_with fail
   refine ho.mono ?_;rintro e w' ⟨rfl,rfl⟩;clear ho;go_wp2_with fail
   refine he.mono ?_;rintro e w' ⟨rfl,g⟩;clear he;go_wp2_with fail
   go_ret;exact .inl ⟨h1,rfl,g⟩
 · rw[if_neg h1] at ho;go_enter func225,ntmps225
   go_wp2_with fail
   refine ho.mono ?_;rintro e w' ⟨rfl,rfl⟩;clear ho;go_wp2_with fail
   go_ret;exact .inr ⟨h1,rfl,rfl⟩
def bEi (w:World) (F:Xt) (Ft:Nat→Xt) (mb gm kb am:Nat) (qv:Value) (out:Nat) (m:MS) (es:List TE) (N R i:Nat) (t:TX) (n:Nat) (ps:List Vd) (e:Ending) (w':World):Prop :=
 ∃r:Int,e=.returned (.int .i64 r)∧((t.st≠1∧w=w')∨(t.st=1∧∃ks',Vl w' F Ft mb gm kb am qv out (m.put i {t with keys:=ks'}) es N R∧Kf F w w'∧aEm ks'∧(t.keys.length<16→n=1→(∀p∈ps,0≤p.lba∧p.lba<258∧p.n=40)→r=0∧ks'≠[]∧ks'.length≤t.keys.length+1)))
theorem aDh.ok {w:World} {F:Xt} {bb:Nat} {ks:List Int} (h:aDh w F bb ks):aEm ks:=by
 obtain⟨mb,s,f,h⟩:=h;exact⟨h.keys.up,by rw[h.keys.len];exact h.le,h.rng⟩
theorem aOo (F:Xt) (Ft:Nat→Xt) (mb gm kb am:Nat) (qv:Value) (out:Nat) (m:MS) (es:List TE) (N R i n c:Nat) (t:TX) (x:TE) (A:Option Addr) (ps:List Vd) (w:World) (h:Vl w F Ft mb gm kb am qv out m es N R) (ht:m.txs[i]? =some t) (hx:es[i]? =some x) (hi:i≤1000000) (hp:Uh w A n c ps) (hn:n≤20000) :
  Calls prog 43 #[.pointer (some ⟨mb,0,none⟩),.int .i64 ((i:Int)+1),.slice A n c] w fun e w'=>bEi w F Ft mb gm kb am qv out m es N R i t n ps e w':=by
 have ho:=aEe F Ft mb gm kb am qv out m es N R i t x w h ht hx hi;have htx:=h.tx i t x ht hx;obtain⟨code,hb,-⟩:=htx.bx;obtain⟨_,_,_,_,d4,_⟩:=aAg hb;obtain⟨wb,s,f,hbf⟩:=htx.buf;obtain rfl:t.keys.length=s:=hbf.keys.len;have hw:=aNr _ x.bb wb _ n c t.keys f A ps w hbf hp hn;have HX:=hid h;clear h hb htx hbf hp;by_cases h1:t.st=1
 · rw[if_pos h1] at ho;go_enter func43,ntmps43
   go_wp2_with fail
   refine ho.mono ?_;rintro e w' ⟨rfl,rfl⟩;clear ho;go_wp2_with fail
   refine hw.mono ?_;rintro e w1 ⟨r,rfl,⟨ks',hbp,hok⟩,hk⟩;have HE:=hid (HX.o.bufd ht hx hk hbp);have HO:=nF hbp.ok hok;clear hw hbp hok hk;go_wp2_with fail
   go_ret;exact⟨_,rfl,.inr ⟨h1,ks',HE.o.1,HE.o.2,HO.o.1,HO.o.2⟩⟩
 · rw[if_neg h1] at ho;go_enter func43,ntmps43
   go_wp2_with fail
   refine ho.mono ?_;rintro e w' ⟨rfl,rfl⟩;clear ho;go_wp2_with fail
   go_ret;exact⟨_,rfl,.inl ⟨h1,rfl⟩⟩
def aOn (w:World) (F:Xt) (mb gm kb am:Nat) (qv:Value) (out:Nat) (m:MS) (es:List TE) (N R:Nat) (t:TX) (f l:Int) (e:Ending) (w':World):Prop :=
 (∃v,∃r:Int,e=.returned (.tuple #[v,.int .i64 r])∧(t.st=1→aIh f l R→r=0)∧∃bs,Byt w' w.heap.size v bs∧bs.length≤640)∧∃k F' Ft',(k≤17∧(l=1→k≤2))∧Vl w' F' Ft' mb gm kb am qv out m es N (R+k)∧Kf F w w'∧Sb w F F'∧In w' F'
theorem bGt {w W w7:World} {F F':Xt} {Ft':Nat→Xt} {mb gm kb am:Nat} {qv:Value} {out:Nat} {m:MS} {es:List TE} {N R:Nat} {v:Value} {r f l:Int} {bs:List Int} {t:TX} {k:Nat} (hb:nD w W) (hk:k≤17∧(l=1→k≤2))
  (h:Vl w7 F' Ft' mb gm kb am qv out m es N (R+k)∧Kf F W w7∧Sb W F F'∧In w7 F') (hbs:Byt w7 w.heap.size v bs) (hbl:bs.length≤640) (hr:t.st=1→aIh f l R→r=0):aOn w F mb gm kb am qv out m es N R t f l (.returned (.tuple #[v,.int .i64 r])) w7 :=
 ⟨⟨v,r,rfl,hr,bs,hbs,hbl⟩,k,F',Ft',hk,h.1,(Kf.of_below hb).trans h.2.1 (fun b q=>.inl q),fun b q=>(h.2.2.1 b q).imp id (tK hb.size),h.2.2.2⟩
theorem aSb (F:Xt) (Ft:Nat→Xt) (mb gm kb am:Nat) (qv:Value) (out:Nat) (m:MS) (es:List TE) (N R i:Nat) (t:TX) (x:TE) (f l:Int) (w:World) (h:Vl w F Ft mb gm kb am qv out m es N R) (ht:m.txs[i]? =some t) (hx:es[i]? =some x) (hi:i≤1000000) (hR:R+17≤100000) :
  Calls prog 42 #[.pointer (some ⟨mb,0,none⟩),.int .i64 ((i:Int)+1),.agg #[.int .i64 f,.int .i64 l]] w fun e w'=>aOn w F mb gm kb am qv out m es N R t f l e w':=by
 obtain⟨w5,hw5⟩:=nC (w.alloc (.cells #[.int .i64 f,.int .i64 l] 46));have hB5:Bk w5 w.heap.size 46 [.int .i64 f,.int .i64 l]:=by rw[←hw5];exact Bk.new w _ _
 have hb5:nD w w5:=by rw[←hw5];exact nB.alloc lR _
 obtain⟨d0,d1⟩:=hB5.c2;have h5:=h.next hb5;have ho:=aEe F Ft mb gm kb am qv out m es N R i t x w5 h5 ht hx hi;obtain⟨code,hb,-⟩:=(h5.tx i t x ht hx).bx;have KK:=hid (fun (w':World) (hS:nD w5 w')=>nT ((aAg (hb.next hS hb.lt)).2.2.2.2.2) ((hB5.next hS hB5.lt).cell (i:=0) (by simp)) ((hB5.next hS hB5.lt).cell (i:=1) (by simp)));have HX:=hid h5;have HB5:=hid hb5;have HN:=hid (h.fam.lt);clear h h5 hB5 hb5 hb d0 d1;by_cases h1:t.st=1
 · rw[if_pos h1] at ho;have k5:=KK.o w5 nB;go_enter func42,ntmps42
   go_wp2_with fail
   refine ho.mono ?_;rintro e w' ⟨rfl,rfl⟩;clear ho;go_wp2_with fail
   have Kq:=KK;refine Vn (fun w'=>nD w5 w') [5] (by kernel_rfl) (Xu nB) (fun nE=>?_);refine kR 0 ?_;refine kR 1 ?_;refine kR 2 ?_;refine kM 3 ?_;refine kM 4 ?_;refine rM 5 (fun K hK=>?_);go_simp;have hW:=HX.o.next nE;have hbW:=HB5.o.trans (nE.mono HB5.o.size);obtain⟨el,hel,_⟩:=hW.ext;have htW:=hW.tx i t x ht hx;refine(aKw _ _ _ x.vb gm x.bb R N (t.at':Int) el f l t.keys _ htW.view hel htW.buf (hW.fam.inn _) (hW.fam.dis _ _ (by omega)) (hW.fam.dis _ _ (by omega)) hR).mono ?_;rintro e w7 ⟨⟨v,r,rfl,hrr,bs,hbs,hbl⟩,kk,G,hkk,hv,hk,hsb,hin⟩;have HE:=hid (bGt hbW hkk (hW.viewd ht hx hk hsb hin hv (tR _ _) (tK (Nat.add_le_add_left hkk.1 R) hR)) (hbs.base hbW.size) hbl (r:=r) (t:=t) (fun _=>hrr));clear hW hbW hel htW hv hk hsb hin hbs hbl hrr hkk;go_simp;refine hK.out _ _ (fun h=>absurd (by decide) h) ?_;clear hK K;try simp only[Act.put,tC,tD,tE]
   refine kR 6 ?_;refine kR 7 ?_;refine kR 8 ?_;refine kR 9 ?_;refine Vs (by kernel_rfl) ?_ _;clear Kq;go_wp2_with fail
   go_ret2
   exact HE.o
 · rw[if_neg h1] at ho
   have HE:=hid (show ∀v:Value,v=.slice none 0 0→aOn w F mb gm kb am qv out m es N R t f l (.returned (.tuple #[v,.int .i64 5])) w5 from fun v hv =>
    ⟨⟨v,_,rfl,fun q=>absurd q h1,[],⟨⟨rfl,.inl ⟨hv,rfl⟩⟩,by simp⟩,by simp⟩,0,F,Ft,⟨zL,fun _=>zL⟩,HX.o,.of_below HB5.o,.refl _ _,HX.o.fam.lt⟩)
   go_enter func42,ntmps42
   go_wp2_with fail
   refine ho.mono ?_;rintro e w' ⟨rfl,rfl⟩;clear ho;go_wp2_with fail
   go_ret2
   exact HE.o _ rfl
theorem aYm:∀args w,(callFunc 223 args).run prog w=.ok (.enter 223 args) w:=enters_of func223 (by kernel_rfl) rfl
theorem aHc {k n:Nat} (hlt:k<n) (hn:n≤8):(k:Int)<(n:Int)∧(0:Int)≤(k:Int)∧IntKind.i64.wrap (k:Int)=(k:Int)∧wrap64 ((k:Int)+1)=(k:Int)+1 :=
 ⟨by omega,by omega,IntWalk.i64_in _ (by omega),by unfold wrap64;omega⟩
theorem aPe {m:Nat} (h:m≤16):decide (16<(m:Int))=false∧¬16<(m:Int):=⟨rY (by omega),by omega⟩
theorem bBl {k:Nat} (h:k=0):decide ((0:Int)<(k:Int))=false∧decide (0<k)=false:=⟨rY (by omega),rY (by omega)⟩
theorem bBm {k n:Nat} (h:k≠0) (hlt:k<n) (hn:n≤8):∃k1:Nat,k1<n∧decide ((0:Int)<(k:Int))=true∧decide (0<k)=true∧wrap64 ((k:Int) - 1)=(k1:Int)∧IntKind.i64.wrap ((k:Int) - 1)=(k1:Int)∧(0:Int)≤(k1:Int)∧(k1:Int)<(n:Int) :=
 ⟨k - 1,by omega,rZ (by omega),rZ (by omega),by unfold wrap64;omega,(IntWalk.i64_in _ (by omega)).trans (by omega),by omega,by omega⟩
theorem bGc {a b:Int} (ha:1≤a∧a≤1000) (hb:1≤b∧b≤1000):decide (65535<wrap64 (a - b))=false∧decide (65535<IntKind.i64.wrap (a - b))=false :=
 ⟨rY (by unfold wrap64;omega),rY (by rw[IntWalk.i64_in _ (by omega)];omega)⟩
theorem aWw {ts:List TxD} {w:World} {B:Nat} {adx:Addr} (hr:Rd w B (some adx) (ts.flatMap TxD.cells)) {k1:Nat} (h:k1<ts.length):∃y∈ts,w.cell? (adx.add (k1*2))=some (.int .i64 y.time)∧adx.block<B:=by
 obtain⟨ad,e,hb,g0,_⟩:=Vk aAu hr h (u:=.int .i64 ts[k1].time) (v:=.slice ts[k1].A ts[k1].n ts[k1].c) rfl;injection e with e;subst e;exact⟨ts[k1],rC h,g0,hb⟩
def CWI (w7:World) (g n c:Nat) (num:Int) (adx:Addr) (c5 c6 c7 c8 c9 qB qM qX jC jK jL jM jN jO jP jQ jR jS jT jU jV jW jX jY jZ zB zC zD zE zF zG zH:Value) (a:Act) (wr:World):Prop :=
 ∃u2 u3 u4 kC kG kH kI kJ kK kN kO kP kQ kT kU kV kW kX kZ hC hJ hU gA gB gC gD gE gF gG gH gI gJ gK gL gM:Value,(∃k:Nat,k≤n∧kC=.int .i64 (k:Int)∧nD w7 wr)∧a=⟨#[.agg #[.int .i64 num,.slice (some adx) n c],.pointer (some ⟨g,0,none⟩),u2,u3,u4,c5,c6,c7,c8,c9,qB,qM,qX,jC,jK,jL,jM,jN,jO,jP,jQ,jR,jS,jT,jU,jV,jW,jX,jY,jZ,zB,zC,zD,zE,zF,zG,zH,.slice (some adx) n c,.int .i64 (n:Int),kC,kG,kH,kI,kJ,kK,kN,kO,kP,kQ,kT,kU,kV,kW,kX,kZ,hC,hJ,hU,gA,gB,gC,gD,gE,gF,gG,gH,gI,gJ,gK,gL,gM],[]⟩
theorem CWI.mk {w7 wr:World} {g n c:Nat} {num:Int} {adx:Addr} {c5 c6 c7 c8 c9 qB qM qX jC jK jL jM jN jO jP jQ jR jS jT jU jV jW jX jY jZ zB zC zD zE zF zG zH:Value} {u2 u3 u4 kC kG kH kI kJ kK kN kO kP kQ kT kU kV kW kX kZ hC hJ hU gA gB gC gD gE gF gG gH gI gJ gK gL gM:Value} (h:∃k:Nat,k≤n∧kC=.int .i64 (k:Int)∧nD w7 wr):CWI w7 g n c num adx c5 c6 c7 c8 c9 qB qM qX jC jK jL jM jN jO jP jQ jR jS jT jU jV jW jX jY jZ zB zC zD zE zF zG zH ⟨#[.agg #[.int .i64 num,.slice (some adx) n c],.pointer (some ⟨g,0,none⟩),u2,u3,u4,c5,c6,c7,c8,c9,qB,qM,qX,jC,jK,jL,jM,jN,jO,jP,jQ,jR,jS,jT,jU,jV,jW,jX,jY,jZ,zB,zC,zD,zE,zF,zG,zH,.slice (some adx) n c,.int .i64 (n:Int),kC,kG,kH,kI,kJ,kK,kN,kO,kP,kQ,kT,kU,kV,kW,kX,kZ,hC,hJ,hU,gA,gB,gC,gD,gE,gF,gG,gH,gI,gJ,gK,gL,gM],[]⟩ wr:=⟨u2,u3,u4,kC,kG,kH,kI,kJ,kK,kN,kO,kP,kQ,kT,kU,kV,kW,kX,kZ,hC,hJ,hU,gA,gB,gC,gD,gE,gF,gG,gH,gI,gJ,gK,gL,gM,h,rfl⟩
def cmu (n:Nat) (a:Act) (_:World):Nat:=n - (intOf (a.tmps.getD 39 undef)).toNat
theorem aJz {n:Nat} {num:Int} {g c:Nat} {adx:Addr} {w:World} {x:Int} {c5 c6 c7 c8 c9 qB qM qX jC jK jL jM jN jO jP jQ jR jS jT jU jV jW jX jY jZ zB zC zD zE zF zG zH u2 u3 u4 kG kH kI kJ kK kN kO kP kQ kT kU kV kW kX kZ hC hJ hU gA gB gC gD gE gF gG gH gI gJ gK gL gM:Value}:cmu n ⟨#[.agg #[.int .i64 num,.slice (some adx) n c],.pointer (some ⟨g,0,none⟩),u2,u3,u4,c5,c6,c7,c8,c9,qB,qM,qX,jC,jK,jL,jM,jN,jO,jP,jQ,jR,jS,jT,jU,jV,jW,jX,jY,jZ,zB,zC,zD,zE,zF,zG,zH,.slice (some adx) n c,.int .i64 (n:Int),.int .i64 x,kG,kH,kI,kJ,kK,kN,kO,kP,kQ,kT,kU,kV,kW,kX,kZ,hC,hJ,hU,gA,gB,gC,gD,gE,gF,gG,gH,gI,gJ,gK,gL,gM],[]⟩ w=n - x.toNat:=rfl
theorem bHu (w7 wr:World) (g n c k:Nat) (num:Int) (adx:Addr) (ts:List TxD) (c5 c6 c7 c8 c9 qB qM qX jC jK jL jM jN jO jP jQ jR jS jT jU jV jW jX jY jZ zB zC zD zE zF zG zH u2 u3 u4 kG kH kI kJ kK kN kO kP kQ kT kU kV kW kX kZ hC hJ hU gA gB gC gD gE gF gG gH gI gJ gK gL gM:Value) (Q0:Exit→Act→World→Prop) (hpan:∀c a d v w,Q0 (.panic c) (Act.put a d v) w→Q0 (.panic c) a w)
  (h7:Ki w7 (some adx) n c ts) (hok:OkB num ts) (hB7:Bk w7 g 107 [.int .i64 num,.slice (some adx) n c]) (hW:nD w7 wr) (hlt:k<n) (h0:k=0) :
  Code.wp prog (Ur f167) (Exit.then (fun a' w''=>CWI w7 g n c num adx c5 c6 c7 c8 c9 qB qM qX jC jK jL jM jN jO jP jQ jR jS jT jU jV jW jX jY jZ zB zC zD zE zF zG zH a' w''∧cmu n a' w'' <cmu n ⟨#[.agg #[.int .i64 num,.slice (some adx) n c],.pointer (some ⟨g,0,none⟩),u2,u3,u4,c5,c6,c7,c8,c9,qB,qM,qX,jC,jK,jL,jM,jN,jO,jP,jQ,jR,jS,jT,jU,jV,jW,jX,jY,jZ,zB,zC,zD,zE,zF,zG,zH,.slice (some adx) n c,.int .i64 (n:Int),.int .i64 (k:Int),kG,kH,kI,kJ,kK,kN,kO,kP,kQ,kT,kU,kV,kW,kX,kZ,hC,hJ,hU,gA,gB,gC,gD,gE,gF,gG,gH,gI,gJ,gK,gL,gM],[]⟩ wr) Q0) ⟨#[.agg #[.int .i64 num,.slice (some adx) n c],.pointer (some ⟨g,0,none⟩),u2,u3,u4,c5,c6,c7,c8,c9,qB,qM,qX,jC,jK,jL,jM,jN,jO,jP,jQ,jR,jS,jT,jU,jV,jW,jX,jY,jZ,zB,zC,zD,zE,zF,zG,zH,.slice (some adx) n c,.int .i64 (n:Int),.int .i64 (k:Int),kG,kH,kI,kJ,kK,kN,kO,kP,kQ,kT,kU,kV,kW,kX,kZ,hC,hJ,hU,gA,gB,gC,gD,gE,gF,gG,gH,gI,gJ,gK,gL,gM],[]⟩ wr:=by
 have HX:=nH h7 hok h7.len;have HN:=hid (show n≤8 by rw[←h7.len];exact hok.len.2);have HB7:=hid hB7;clear h7 hok hB7;conv=>arg 2;whnf
 have hl:=HX.o.2.2;have hr:=HX.o.1.rd.next lR hW;obtain⟨x,hpx⟩:=nC (ts[k]'(by omega));have hmx:x∈ts:=by rw[←hpx];exact rC _
 obtain⟨adx,eAx,hadx,e0,e1⟩:=Vk aAu (hr) (k:=k) (by omega) (u:=.int .i64 x.time) (v:=.slice x.A x.n x.c) (by rw[hpx];rfl);obtain⟨n1,n2,wk,m2⟩:=aHc hlt HN.o;have hxo:=HX.o.2.1.tx x hmx;have hps:=HX.o.1.y x hmx;obtain⟨w8,hw8⟩:=nC (wr.alloc (.cells #[.int .i64 x.time,.slice x.A x.n x.c] 196));have hB8:Bk w8 wr.heap.size 196 [.int .i64 x.time,.slice x.A x.n x.c]:=by rw[←hw8];exact Bk.new wr _ _
 have hb8:nD wr w8:=by rw[←hw8];exact nB.alloc lR _
 obtain⟨d0,d1⟩:=hB8.c2;have hb78:=hW.trans (hb8.mono hW.size);have HPS:=hid (hps.next hb78);have hB78:=HB7.o.next hb78 HB7.o.lt;have hxt:=hxo.time;have hxn:=hxo.n;have HXP:=hid hxo.ps;obtain⟨t0,t0'⟩:=aPe hxn.2;have HB8:=hid hb78;have KK:=hid (fun (w':World) (hS:nD w8 w')=>nU ((hB8.next hS hB8.lt).cell (i:=0) (by simp)) ((hB8.next hS hB8.lt).cell (i:=1) (by simp)) ((hB78.next hS hB78.lt).cell (i:=0) (by simp)) ((hB78.next hS hB78.lt).cell (i:=1) (by simp)));obtain⟨t1,t1n⟩:=bBl h0;have HK:=hid hlt;injection eAx with eAx;subst eAx;clear hpx hmx hr hps hxo hB8 hB78 hb8 hb78 hW hxt hxn h0 hlt;go_wp2_with fail
 have Kq:=KK;refine wp_region_held_drew (S:=fun w'=>nD w8 w') (by kernel_rfl) (Xu nB) (fun nE=>?_);refine kF 0 ?_;refine kF 1 ?_;refine kF 2 ?_;refine kS 3 ?_;refine kS 4 ?_;refine kS 5 ?_;refine kS 6 ?_;refine kS 7 ?_;refine kS 8 ?_;refine kS 9 ?_;refine kS 10 ?_;refine kS 11 ?_;refine kS 12 ?_;refine kS 13 ?_;refine kF 14 ?_;refine kF 15 ?_;refine kF 16 ?_;refine kF 17 ?_;refine kF 18 ?_;refine kF 19 ?_;refine kF 20 ?_;refine kF 21 ?_;refine kF 22 ?_;refine kF 23 ?_;refine rF 24 (fun K hK=>?_);go_simp;refine(aCd x.A x.n x.c x.ps 223 #[] (fun _=>false) _ (HPS.o.next nE) aYm (fun p hp w' _=>aEu p.lba p.A p.n p.c w' (HXP.o p hp))).mono ?_;rintro e w9 ⟨⟨rb,rfl,hrb⟩,hb9⟩
 obtain rfl:rb=false:=by
  cases rb with
  | false=>rfl
  | true=>obtain⟨_,_,q⟩:=hrb.1 rfl;cases q
 have hS9:nD w8 w9:=nE.trans (hb9.mono nE.size);have HS9:=hid (HB8.o.trans (hS9.mono HB8.o.size));clear hrb hb9;go_simp;clear nE;refine hK.out _ _ hS9 (fun nE=>?_);clear hK K;try simp only[Act.put,tC,tD,tE]
 refine kF 25 ?_;refine wpAnyH_done (by kernel_rfl) ?_ _;clear Kq;clear d0 d1 e0 e1 wk;go_wp2_with fail
 refine⟨?_,?_⟩
 · refine CWI.mk ?_;exact⟨k+1,HK.o,Va (by first|rfl|exact m2),HS9.o⟩
 · rw[aJz,aJz];exact Xw HK.o (by first|rfl|exact m2)
theorem bHv (w7 wr:World) (g n c k:Nat) (num:Int) (adx:Addr) (ts:List TxD) (c5 c6 c7 c8 c9 qB qM qX jC jK jL jM jN jO jP jQ jR jS jT jU jV jW jX jY jZ zB zC zD zE zF zG zH u2 u3 u4 kG kH kI kJ kK kN kO kP kQ kT kU kV kW kX kZ hC hJ hU gA gB gC gD gE gF gG gH gI gJ gK gL gM:Value) (Q0:Exit→Act→World→Prop) (hpan:∀c a d v w,Q0 (.panic c) (Act.put a d v) w→Q0 (.panic c) a w)
  (h7:Ki w7 (some adx) n c ts) (hok:OkB num ts) (hB7:Bk w7 g 107 [.int .i64 num,.slice (some adx) n c]) (hW:nD w7 wr) (hlt:k<n) (h0:k≠0) :
  Code.wp prog (Ur f167) (Exit.then (fun a' w''=>CWI w7 g n c num adx c5 c6 c7 c8 c9 qB qM qX jC jK jL jM jN jO jP jQ jR jS jT jU jV jW jX jY jZ zB zC zD zE zF zG zH a' w''∧cmu n a' w'' <cmu n ⟨#[.agg #[.int .i64 num,.slice (some adx) n c],.pointer (some ⟨g,0,none⟩),u2,u3,u4,c5,c6,c7,c8,c9,qB,qM,qX,jC,jK,jL,jM,jN,jO,jP,jQ,jR,jS,jT,jU,jV,jW,jX,jY,jZ,zB,zC,zD,zE,zF,zG,zH,.slice (some adx) n c,.int .i64 (n:Int),.int .i64 (k:Int),kG,kH,kI,kJ,kK,kN,kO,kP,kQ,kT,kU,kV,kW,kX,kZ,hC,hJ,hU,gA,gB,gC,gD,gE,gF,gG,gH,gI,gJ,gK,gL,gM],[]⟩ wr) Q0) ⟨#[.agg #[.int .i64 num,.slice (some adx) n c],.pointer (some ⟨g,0,none⟩),u2,u3,u4,c5,c6,c7,c8,c9,qB,qM,qX,jC,jK,jL,jM,jN,jO,jP,jQ,jR,jS,jT,jU,jV,jW,jX,jY,jZ,zB,zC,zD,zE,zF,zG,zH,.slice (some adx) n c,.int .i64 (n:Int),.int .i64 (k:Int),kG,kH,kI,kJ,kK,kN,kO,kP,kQ,kT,kU,kV,kW,kX,kZ,hC,hJ,hU,gA,gB,gC,gD,gE,gF,gG,gH,gI,gJ,gK,gL,gM],[]⟩ wr:=by
 have HX:=nH h7 hok h7.len;have HN:=hid (show n≤8 by rw[←h7.len];exact hok.len.2);have HB7:=hid hB7;clear h7 hok hB7;conv=>arg 2;whnf
 have hl:=HX.o.2.2;have hr:=HX.o.1.rd.next lR hW;obtain⟨x,hpx⟩:=nC (ts[k]'(by omega));have hmx:x∈ts:=by rw[←hpx];exact rC _
 obtain⟨adx,eAx,hadx,e0,e1⟩:=Vk aAu (hr) (k:=k) (by omega) (u:=.int .i64 x.time) (v:=.slice x.A x.n x.c) (by rw[hpx];rfl);obtain⟨n1,n2,wk,m2⟩:=aHc hlt HN.o;have hxo:=HX.o.2.1.tx x hmx;have hps:=HX.o.1.y x hmx;obtain⟨w8,hw8⟩:=nC (wr.alloc (.cells #[.int .i64 x.time,.slice x.A x.n x.c] 196));have hB8:Bk w8 wr.heap.size 196 [.int .i64 x.time,.slice x.A x.n x.c]:=by rw[←hw8];exact Bk.new wr _ _
 have hb8:nD wr w8:=by rw[←hw8];exact nB.alloc lR _
 obtain⟨d0,d1⟩:=hB8.c2;have hb78:=hW.trans (hb8.mono hW.size);have HPS:=hid (hps.next hb78);have hB78:=HB7.o.next hb78 HB7.o.lt;have hxt:=hxo.time;have hxn:=hxo.n;have HXP:=hid hxo.ps;obtain⟨t0,t0'⟩:=aPe hxn.2;have HB8:=hid hb78;have KK:=hid (fun (w':World) (hS:nD w8 w')=>nU ((hB8.next hS hB8.lt).cell (i:=0) (by simp)) ((hB8.next hS hB8.lt).cell (i:=1) (by simp)) ((hB78.next hS hB78.lt).cell (i:=0) (by simp)) ((hB78.next hS hB78.lt).cell (i:=1) (by simp)));obtain⟨k1,hk1,t1,t1n,m3,m3',m4,m5⟩:=bBm h0 hlt HN.o;have hr1:=HX.o.1.rd.next lR (hW.trans (hb8.mono hW.size));injection eAx with eAx;subst eAx;obtain⟨y,hym,hk1b,had1⟩:=aWw hr1 (k1:=k1) (by rw[HX.o.2.2];exact hk1);obtain⟨t2,t2'⟩:=bGc hxt (HX.o.2.1.tx y hym).time
 have KK2:=hid (fun (w':World) (hS:nD w8 w')=>(show w'.cell? (adx.add (k1*2))=some (.int .i64 y.time) from by
  rw[World.cell?_of_block (w:=w8) (w':=w') (by rw[aAk];exact hS.block _ (tL had1 HB8.o.size))];exact hk1b))
 have HK:=hid hlt;clear hpx hmx hr hps hxo hB8 hB78 hb8 hb78 hW hxt hxn h0 hlt hr1 hym had1 hk1 hk1b;go_wp2_with fail
 have Kq:=hid (fun (w':World) hS=>nS (KK.o w' hS) (KK2.o w' hS));refine wp_region_held_drew (S:=fun w'=>nD w8 w') (by kernel_rfl) (Xu nB) (fun nE=>?_);refine kF 0 ?_;refine kF 1 ?_;refine kF 2 ?_;refine kF 3 ?_;refine kF 4 ?_;refine kF 5 ?_;refine kF 6 ?_;refine kF 7 ?_;refine kF 8 ?_;refine kF 9 ?_;refine kF 10 ?_;refine kF 11 ?_;refine kF 12 ?_;refine kF 13 ?_;refine kF 14 ?_;refine kF 15 ?_;refine kF 16 ?_;refine kF 17 ?_;refine kF 18 ?_;refine kF 19 ?_;refine kF 20 ?_;refine kF 21 ?_;refine kF 22 ?_;refine kF 23 ?_;refine rF 24 (fun K hK=>?_);go_simp;refine(aCd x.A x.n x.c x.ps 223 #[] (fun _=>false) _ (HPS.o.next nE) aYm (fun p hp w' _=>aEu p.lba p.A p.n p.c w' (HXP.o p hp))).mono ?_;rintro e w9 ⟨⟨rb,rfl,hrb⟩,hb9⟩
 obtain rfl:rb=false:=by
  cases rb with
  | false=>rfl
  | true=>obtain⟨_,_,q⟩:=hrb.1 rfl;cases q
 have hS9:nD w8 w9:=nE.trans (hb9.mono nE.size);have HS9:=hid (HB8.o.trans (hS9.mono HB8.o.size));clear hrb hb9;go_simp;clear nE;refine hK.out _ _ hS9 (fun nE=>?_);clear hK K;try simp only[Act.put,tC,tD,tE]
 refine kF 25 ?_;refine wpAnyH_done (by kernel_rfl) ?_ _;clear Kq;clear d0 d1 e0 e1 wk;go_wp2_with fail
 refine⟨?_,?_⟩
 · refine CWI.mk ?_;exact⟨k+1,HK.o,Va (by first|rfl|exact m2),HS9.o⟩
 · rw[aJz,aJz];exact Xw HK.o (by first|rfl|exact m2)
theorem bCt (n k g c:Nat) (num:Int) (adx:Addr) (w'':World) (c5 c6 c7 c8 c9 qB qM qX jC jK jL jM jN jO jP jQ jR jS jT jU jV jW jX jY jZ zB zC zD zE zF zG zH u2 u3 u4 kG kH kI kJ kK kN kO kP kQ kT kU kV kW kX kZ hC hJ hU gA gB gC gD gE gF gG gH gI gJ gK gL gM:Value) (Q:Exit→Act→World→Prop) (hk:k=n) (h:∀u2 u3 u4 kC kG kH kI kJ kK kN kO kP kQ kT kU kV kW kX kZ hC hJ hU gA gB gC gD gE gF gG gH gI gJ gK gL gM:Value,Q (.exit 0) ⟨#[.agg #[.int .i64 num,.slice (some adx) n c],.pointer (some ⟨g,0,none⟩),u2,u3,u4,c5,c6,c7,c8,c9,qB,qM,qX,jC,jK,jL,jM,jN,jO,jP,jQ,jR,jS,jT,jU,jV,jW,jX,jY,jZ,zB,zC,zD,zE,zF,zG,zH,.slice (some adx) n c,.int .i64 (n:Int),kC,kG,kH,kI,kJ,kK,kN,kO,kP,kQ,kT,kU,kV,kW,kX,kZ,hC,hJ,hU,gA,gB,gC,gD,gE,gF,gG,gH,gI,gJ,gK,gL,gM],[]⟩ w'') :
  Code.wp prog (Ur f167) Q ⟨#[.agg #[.int .i64 num,.slice (some adx) n c],.pointer (some ⟨g,0,none⟩),u2,u3,u4,c5,c6,c7,c8,c9,qB,qM,qX,jC,jK,jL,jM,jN,jO,jP,jQ,jR,jS,jT,jU,jV,jW,jX,jY,jZ,zB,zC,zD,zE,zF,zG,zH,.slice (some adx) n c,.int .i64 (n:Int),.int .i64 (k:Int),kG,kH,kI,kJ,kK,kN,kO,kP,kQ,kT,kU,kV,kW,kX,kZ,hC,hJ,hU,gA,gB,gC,gD,gE,gF,gG,gH,gI,gJ,gK,gL,gM],[]⟩ w'':=by
 subst hk;have n0:¬(k:Int)<(k:Int):=by omega
 conv=>arg 2;whnf
 go_wp2_with fail
 exact h _ _ _ _ _ _ _ _ _ _ _ _ _ _ _ _ _ _ _ _ _ _ _ _ _ _ _ _ _ _ _ _ _ _ _
theorem aXz (w7 wr:World) (g n c:Nat) (num:Int) (adx:Addr) (ts:List TxD) (c5 c6 c7 c8 c9 qB qM qX jC jK jL jM jN jO jP jQ jR jS jT jU jV jW jX jY jZ zB zC zD zE zF zG zH u2 u3 u4 kC kG kH kI kJ kK kN kO kP kQ kT kU kV kW kX kZ hC hJ hU gA gB gC gD gE gF gG gH gI gJ gK gL gM:Value) (Q0:Exit→Act→World→Prop) (hpan:∀c a d v w,Q0 (.panic c) (Act.put a d v) w→Q0 (.panic c) a w)
  (h7:Ki w7 (some adx) n c ts) (hok:OkB num ts) (hB7:Bk w7 g 107 [.int .i64 num,.slice (some adx) n c]) (h0:∃k:Nat,k≤n∧kC=.int .i64 (k:Int)∧nD w7 wr)
  (hexit:∀(u2 u3 u4 kC kG kH kI kJ kK kN kO kP kQ kT kU kV kW kX kZ hC hJ hU gA gB gC gD gE gF gG gH gI gJ gK gL gM:Value) (w':World),nD w7 w'→Q0 (.exit 0) ⟨#[.agg #[.int .i64 num,.slice (some adx) n c],.pointer (some ⟨g,0,none⟩),u2,u3,u4,c5,c6,c7,c8,c9,qB,qM,qX,jC,jK,jL,jM,jN,jO,jP,jQ,jR,jS,jT,jU,jV,jW,jX,jY,jZ,zB,zC,zD,zE,zF,zG,zH,.slice (some adx) n c,.int .i64 (n:Int),kC,kG,kH,kI,kJ,kK,kN,kO,kP,kQ,kT,kU,kV,kW,kX,kZ,hC,hJ,hU,gA,gB,gC,gD,gE,gF,gG,gH,gI,gJ,gK,gL,gM],[]⟩ w') :
  Code.wp prog (Code.loop (Ur f167)) Q0 ⟨#[.agg #[.int .i64 num,.slice (some adx) n c],.pointer (some ⟨g,0,none⟩),u2,u3,u4,c5,c6,c7,c8,c9,qB,qM,qX,jC,jK,jL,jM,jN,jO,jP,jQ,jR,jS,jT,jU,jV,jW,jX,jY,jZ,zB,zC,zD,zE,zF,zG,zH,.slice (some adx) n c,.int .i64 (n:Int),kC,kG,kH,kI,kJ,kK,kN,kO,kP,kQ,kT,kU,kV,kW,kX,kZ,hC,hJ,hU,gA,gB,gC,gD,gE,gF,gG,gH,gI,gJ,gK,gL,gM],[]⟩ wr:=by
 refine wp_loop (CWI w7 g n c num adx c5 c6 c7 c8 c9 qB qM qX jC jK jL jM jN jO jP jQ jR jS jT jU jV jW jX jY jZ zB zC zD zE zF zG zH) (cmu n) (CWI.mk h0) (fun a w'' hI=>?_);unfold CWI at hI;obtain⟨v2,v3,v4,v39,dI,v41,dJ,dK,v44,v45,v46,dL,dM,dN,v50,v51,dO,v53,dP,v55,dQ,v57,dR,dS,dT,dU,dV,v63,v64,dW,v66,dX,dY,dZ,v70,hI⟩:=hI;obtain⟨⟨k,hk,e39,hW⟩,rfl⟩:=hI;subst e39;rcases tN k n with hlt|hge
 · by_cases h0:k=0
   · exact bHu w7 w'' g n c k num adx ts _ _ _ _ _ _ _ _ _ _ _ _ _ _ _ _ _ _ _ _ _ _ _ _ _ _ _ _ _ _ _ _ _ _ _ _ _ _ _ _ _ _ _ _ _ _ _ _ _ _ _ _ _ _ _ _ _ _ _ _ _ _ _ _ _ _ Q0 hpan h7 hok hB7 hW hlt h0
   · exact bHv w7 w'' g n c k num adx ts _ _ _ _ _ _ _ _ _ _ _ _ _ _ _ _ _ _ _ _ _ _ _ _ _ _ _ _ _ _ _ _ _ _ _ _ _ _ _ _ _ _ _ _ _ _ _ _ _ _ _ _ _ _ _ _ _ _ _ _ _ _ _ _ _ _ Q0 hpan h7 hok hB7 hW hlt h0
 · have e:k=n:=by omega
   exact bCt n k g c num adx w'' _ _ _ _ _ _ _ _ _ _ _ _ _ _ _ _ _ _ _ _ _ _ _ _ _ _ _ _ _ _ _ _ _ _ _ _ _ _ _ _ _ _ _ _ _ _ _ _ _ _ _ _ _ _ _ _ _ _ _ _ _ _ _ _ _ _ _ e (fun u2 u3 u4 kC kG kH kI kJ kK kN kO kP kQ kT kU kV kW kX kZ hC hJ hU gA gB gC gD gE gF gG gH gI gJ gK gL gM=>hexit u2 u3 u4 kC kG kH kI kJ kK kN kO kP kQ kT kU kV kW kX kZ hC hJ hU gA gB gC gD gE gF gG gH gI gJ gK gL gM w'' hW)
theorem aNm (num:Int) (A:Option Addr) (n c:Nat) (ts:List TxD) (w:World) (h:Ki w A n c ts) (hok:OkB num ts) :
  Calls prog 167 #[.agg #[.int .i64 num,.slice A n c]] w fun e w'=>e=.returned (.int .i64 0)∧nD w w':=by
 have hl:=h.len;have hn8:1≤n∧n≤8:=by rw[←hl];exact hok.len
 obtain⟨w5,hw5⟩:=nC (w.alloc (.cells #[.int .i64 num,.slice A n c] 107));have hB5:Bk w5 w.heap.size 107 [.int .i64 num,.slice A n c]:=by rw[←hw5];exact Bk.new w _ _
 have hb5:nD w w5:=by rw[←hw5];exact nB.alloc lR _
 obtain⟨d0,d1⟩:=hB5.c2;have h5:=h.next hb5;have ho:=aSe A n c ts w5 h5 hok.tx hok.up;obtain⟨S,hS⟩:=nC (1+(ts.map (·.n)).sum);have hS33:S≤33:=by have:=hok.sum;omega
 have hbl:=fun w' (hb:nD w5 w')=>aGd num A n c S ts w' (h5.next hb) (tK hok.sum (by decide)) hS
 have hnum:=hok.num;have t0:decide (num<1)=false:=rY (by omega);have t1:decide (1099511627776<num)=false:=rY (by omega);have t2:((n:Int)==0)=false:=by simp;omega
 have t3:decide (8<(n:Int))=false:=rY (by omega);have t4:decide (33<(S:Int))=false:=rY (by omega);have t2':decide ((n:Int)=0)=false:=rY (by omega);have hn0:¬n=0:=by omega
 have HX:=nH h5 hok hl;have HB5:=nF hB5 hb5;have HN:=hid hn8;clear h h5 hok hB5 hb5 hS hS33 hnum hn8 hl;go_enter func167,ntmps167
 go_wp2_with fail
 refine ho.mono ?_;rintro e w6 ⟨rfl,hb6⟩;have hB6:=HB5.o.1.next hb6 HB5.o.1.lt;have hbl6:=hbl w6 hb6;have HB6:=nF hb6 hB6;clear ho hbl hb6 d0 d1;obtain⟨d0,d1⟩:=hB6.c2;clear hB6;go_wp2_with fail
 refine hbl6.mono ?_;rintro e w7 ⟨rfl,hb7⟩;have HB7:=nF (HB6.o.1.trans (hb7.mono HB6.o.1.size)) (HB6.o.2.next hb7 HB6.o.2.lt);clear hbl6 hb7 d0 d1;have hB7:=HB7.o.2;obtain⟨d0,d1⟩:=hB7.c2;clear hB7;go_wp2_with fail
 have h7:=HX.o.1.next HB7.o.1;obtain⟨adx,hA,_⟩:=h7.rd (by rw[Vt aAu,HX.o.2.2];have:=HN.o;omega);subst hA;have HE7:=hid (HB5.o.2.trans (HB7.o.1.mono HB5.o.2.size));clear t0 t1 t2 t3 t4 t2' hn0 d0 d1;refine aXz w7 w7 w.heap.size n c num adx ts _ _ _ _ _ _ _ _ _ _ _ _ _ _ _ _ _ _ _ _ _ _ _ _ _ _ _ _ _ _ _ _ _ _ _ _ _ _ _ _ _ _ _ _ _ _ _ _ _ _ _ _ _ _ _ _ _ _ _ _ _ _ _ _ _ _ _ _ (fun _ _ d _ _ h=>by cases d<;>exact h) h7 HX.o.2.1 HB7.o.2 ⟨0,zL,rfl,nB⟩ ?_;intro u2 u3 u4 kC kG kH kI kJ kK kN kO kP kQ kT kU kV kW kX kZ hC hJ hU gA gB gC gD gE gF gG gH gI gJ gK gL gM wr hW;have HW:=hid (HE7.o.trans (hW.mono HE7.o.size));clear hW;go_wp2_with fail
 go_ret;exact⟨rfl,HW.o⟩
theorem Ud.ag {w w':World} {F:Xt} {B:Nat} {v:Value} {ks:List Int} {ps:List Vd} (h:Ud w B v ks ps) (k:Ag F w w') (hF:∀g,v.ownBlock=some g→F g):Ud w' B v ks ps :=
 ⟨Vj h.own k hF,h.lba,h.n40,fun p hp=>(h.y p hp).ag k,h.new⟩
structure Us (w wr:World) (m:MS) (pv:Value) (ts:List TxD) (k:Nat):Prop where
 own:wr.ownsRow w.heap.size 196 2 pv k (ts.flatMap TxD.cells)
 y:∀x∈ts,x.n=x.ps.length∧Ud wr w.heap.size (.slice x.A x.n x.c) (x.ps.map Vd.lba) x.ps
 at_:∀(j i:Nat) (t:TX) (x:TxD),m.queue[j]? =some i→m.txs[i]? =some t→ts[j]? =some x→x.time=(t.time:Int)∧x.ps.map Vd.lba=t.keys
 len:ts.length=k
theorem Us.next {w wr w9:World} {m:MS} {pv:Value} {ts:List TxD} {k:Nat} (h:Us w wr m pv ts k) (hb:nD wr w9):Us w w9 m pv ts k :=
 ⟨Vg h.own hb,fun x hx=>⟨(h.y x hx).1,(h.y x hx).2.next hb⟩,h.at_,h.len⟩
theorem Us.push {w wr w9 w10:World} {m:MS} {pv pv':Value} {ts:List TxD} {k i:Nat} {t:TX} (h:Us w wr m pv ts k) (hb:nD wr w9) (hw:w.heap.size≤wr.heap.size) (hq:m.queue[k]? =some i) (ht:m.txs[i]? =some t) {ps:List Vd} {A:Option Addr} {c:Nat} (hp:Ud w9 wr.heap.size (.slice A t.keys.length c) t.keys ps)
  (ho:w10.ownsRow w.heap.size 196 2 pv' (k+1) (ts.flatMap TxD.cells++[.int .i64 (t.time:Int),.slice A t.keys.length c])) (hg:w9.grownBy w10 pv.ownBlock):Us w w10 m pv' (ts++[⟨(t.time:Int),A,t.keys.length,c,ps⟩]) (k+1):=by
 have h9:=h.next hb;have ag:Ag (fun b=>pv.ownBlock≠some b) w9 w10:=Ag.grown h9.own (by decide) hg (fun g e q=>q e);have keep:∀{B:Nat} {v:Value} {ks:List Int} {qs:List Vd},Ud w9 B v ks qs→Ud w10 B v ks qs:=fun q=>q.ag ag (fun g e=>aBl q.own h9.own (by decide) e)
 refine⟨?_,fun x hx=>?_,fun j i' t' x hj ht' hx=>?_,by rw[rH,h.len];rfl⟩
 · rw[rX];simpa [TxD.cells] using ho
 · rcases rE.1 hx with s|s
   · exact⟨(h9.y x s).1,keep (h9.y x s).2⟩
   · obtain rfl:x=_:=by simpa using s
     refine⟨hp.len.symm,?_⟩;show Ud w10 w.heap.size (.slice A t.keys.length c) (ps.map Vd.lba) ps
     rw[hp.lba];exact keep (hp.base hw)
 · rcases Uk hx with s|⟨s,rfl⟩
   · exact h.at_ j i' t' x hj ht' s
   · rw[h.len] at s;subst s;rw[hq] at hj;injection hj with hj;subst hj;rw[ht] at ht';injection ht' with ht';subst ht';exact⟨rfl,hp.lba⟩
theorem Us.wait {w wr:World} {m:MS} {pv:Value} {ts:List TxD} (h:Us w wr m pv ts m.queue.length):aDj w.heap.size m ts :=
 ⟨h.len,fun j i t x hj ht hx=>by
  obtain⟨a,b⟩:=h.at_ j i t x hj ht hx;have hm:=tZ hx;have hy:=h.y x hm;exact⟨a,b,by rw[hy.1,←b,rU],hy.2.n40⟩,fun x hx ad q=>Xv (h.y x hx).2.own (by rw[q];rfl)⟩
theorem Us.ps {w wr:World} {m:MS} {pv:Value} {ts:List TxD} {k:Nat} (h:Us w wr m pv ts k):∀x∈ts,Uh wr x.A x.n x.c x.ps:=fun x hx=>by
 have hy:=h.y x hx;obtain⟨A,c,e,q⟩:=hy.2.is;injection e with e1 e2 e3;rw[e1,e2,e3];exact q
theorem aZf:(prog.info? 196).map (fun i=>(i.size,i.bytes,i.zero.map (·.cells.size)))=some (2,32,some 2):=by kernel_rfl
theorem aVb:∃i z,prog.info? 196=some i∧i.zero=some z∧i.size=2∧i.bytes=32∧z.cells.size=2:=by
 have h:=aZf
 cases hi:prog.info? 196 with
 | none=>rw[hi] at h;cases h
 | some i =>
   rw[hi] at h;simp at h
   obtain⟨h1,h2,z,hz,h3⟩:=h;exact⟨i,z,rfl,hz,h1,h2,h3⟩
theorem aDs (F:Xt) (Ft:Nat→Xt) (mb gm kb am:Nat) (qv:Value) (out:Nat) (m:MS) (es:List TE) (N R:Nat) (w:World) (h:Vl w F Ft mb gm kb am qv out m es N R) (hq:∀i∈m.queue,∃t,m.txs[i]? =some t) (hl:es.length≤100000) (hql:m.queue.length≤100000) :
  Calls prog 107 #[.pointer (some ⟨mb,0,none⟩)] w fun e w'=>(∃v ts,e=.returned v∧Us w w' m v ts m.queue.length)∧nD w w':=by
 obtain⟨xi,xz,hxi,hxz,hx5,hx56,hxc⟩:=aVb;obtain⟨_,_,c2,c3,_⟩:=Xz h.bx;obtain⟨qA,qc,hqv⟩:=Xs h.own;have hown:=h.own;rw[hqv] at c3 hown;have hrd:=Ve hown;obtain⟨n,hn⟩:=nC (m.queue.length);have HX:=hid h;have HQ:=nI hq hl hn hrd;rw[hn] at c3 hql ⊢;clear h hq hown hrd hqv hn hl;go_enter func107,ntmps107
 go_wp2_with fail
 go_loopw [2,11] (fun pv iv wr=>∃k ts,k≤n∧iv=.int .i64 (k:Int)∧nD w wr∧Hid (Us w wr m pv ts k)) (fun _ iv _=>n - (intOf iv).toNat)
 case atStart=>exact⟨0,[],zL,rfl,nB,⟨rfl,.inl ⟨rfl,rfl⟩⟩,by simp,(fun j i t x _ _ q=>by simp at q),rfl⟩
 case round =>
  obtain⟨k,ts,hk,rfl,hW,HWL⟩:=hrel;clear c2 c3;by_cases hlt:k<n
  · obtain⟨i,hi⟩:∃i,m.queue[k]? =some i:=⟨_,tX (by have:=HQ.o.2.2.1;omega)⟩
    obtain⟨t,ht⟩:=HQ.o.1 i (tZ hi);have hW0:=HX.o.next hW;obtain⟨x,hx⟩:∃x,es[i]? =some x:=⟨_,tX (by rw[HX.o.len];exact Vi ht)⟩
    have hil:i≤1000000:=by have:=Vi hx;have:=HQ.o.2.1;omega
    obtain⟨qad,rfl,hqb,hqc⟩:=HQ.o.2.2.2.next lR hW (by rw[rU];have:=HQ.o.2.2.1;omega);have e0:wr.cell? (qad.add k)=some (.int .i64 ((i:Int)+1)):=hqc k _ (by rw[rW,hi];rfl);obtain⟨_,_,c2,_⟩:=Xz hW0.bx;have hlk:=(hW0.look_ok hx hil).2;obtain⟨code,hb,-⟩:=(hW0.tx i t x ht hx).bx;have HI:=nH hi ht hx;have KK:=hid (fun (w':World) (hS:nD w w')=>nS (aAg ((HX.o.next hS).tx i t x ht hx).bx.choose_spec.1).2.1 (aAg ((HX.o.next hS).tx i t x ht hx).bx.choose_spec.1).2.2.2.2.1);have n1:(k:Int)<(n:Int):=by omega
    have n2:(0:Int)≤(k:Int):=by omega
    have HW:=hid hW;have HK:=nF hlt hql;clear hW0 hb hqc hqb hi ht hx hW;have m2:wrap64 ((k:Int)+1)=(k:Int)+1:=by have:=HK.o;unfold wrap64;omega
    obtain⟨pA,pc,rfl⟩:=Xs HWL.o.own;go_wp2_with fail
    have Kq:=KK;refine wp_region_held_drew (S:=fun w'=>nD w w') (by kernel_rfl) (Xu HW.o) (fun nE=>?_);refine kF 0 ?_;refine kF 1 ?_;refine kF 2 ?_;refine kF 3 ?_;refine kF 4 ?_;refine kF 5 ?_;refine kF 6 ?_;refine kF 7 ?_;refine kF 8 ?_;refine rF 9 (fun K hK=>?_);go_simp;have hWd:=HX.o.next (Xu HW.o);refine(aFc _ x.bb wr.heap.size t.keys _ (hWd.tx i t x HI.o.2.1 HI.o.2.2).buf lR).mono ?_;rintro e w8 ⟨⟨v8,rfl,ps,hps⟩,hb8⟩;obtain⟨yA,yc,rfl⟩:=Xs hps.own;have hb08:nD wr w8:=(Xu nB).trans hb8;have hS8:nD w w8:=HW.o.trans (hb08.mono HW.o.size);have HP8:=nH hps hb08 hS8;clear hWd hps hb8 hb08;go_simp;clear nE;refine hK.out _ _ hS8 (fun nE=>?_);clear hK K;try simp only[Act.put,tC,tD,tE]
    refine kF 10 ?_;refine rF 11 (fun K hK=>?_);go_simp;refine hK.out _ _ (HP8.o.2.2.alloc HP8.o.2.2.size (.cells #[.int .i64 (t.time:Int),.slice yA t.keys.length yc] 196)) (fun hHeld2=>?_);clear hK K nE;have nE:=hHeld2;clear hHeld2;try simp only[Act.put,tC,tD,tE]
    refine rF 12 (fun K hK=>?_);obtain⟨w9,hw9⟩:=nC (w8.alloc (.cells #[.int .i64 (t.time:Int),.slice yA t.keys.length yc] 196));have hk9:Bk w9 w8.heap.size 196 [.int .i64 (t.time:Int),.slice yA t.keys.length yc]:=by rw[←hw9];exact Bk.new w8 _ _
    have hb89:nD w8 w9:=by rw[←hw9];exact(Below.refl w8.heap.size w8).alloc lR _
    have hb9:=HP8.o.2.1.trans (hb89.mono HP8.o.2.1.size);have h9:=HWL.o.next hb9;try rw[hw9]
    refine aAf rfl (aAw w9 _ _ 105 rfl w.heap.size 196 xi xz 2 32 underlying105 hxi hxz hx5 hx56 hxc (by omega) (.slice pA k pc) k (ts.flatMap TxD.cells) (by rfl) h9.own w9.heap.size (some ⟨w8.heap.size,0,none⟩) 1 1 [.int .i64 (t.time:Int),.slice yA t.keys.length yc] (by rfl) rfl hk9.rd (by intro u hu;simp at hu;rcases hu with rfl|rfl<;>rfl) (by have:=HK.o;omega) (by have:=HK.o;omega) (HW.o.trans (hb9.mono HW.o.size)).size ?_);intro fS w10 hO10 hG10 hv10;have hS10:nD w w10:=(HW.o.trans (hb9.mono HW.o.size)).grown hG10 (HW.o.trans (hb9.mono HW.o.size)).size (fun g e=>Xv h9.own e);have HE:=nF (HWL.o.push hb9 HW.o.size HI.o.1 HI.o.2.1 (HP8.o.1.next hb89) hO10 hG10) hS10;clear hO10 hG10 hv10 h9 hb9 hb89 hk9;clear nE;refine hK.out _ _ hS10 (fun nE=>?_);clear hK K;try simp only[Act.put,tC,tD,tE]
    refine kF 13 ?_;refine wpAnyH_done (by kernel_rfl) ?_ _;clear Kq;clear e0 c2 hlk n1 n2 hS8 hS10;go_wp2_with fail
    go_roundw
    case rel=>exact⟨k+1,_,HK.o.1,Va (by first|rfl|exact m2),HE.o.2,HE.o.1⟩
    case measure=>exact Xw HK.o.1 (by first|rfl|exact m2)
  · obtain rfl:k=n:=by omega
    have n1:¬(k:Int)<(k:Int):=by omega
    obtain⟨oA,oc,rfl⟩:=Xs HWL.o.own;go_wp2_with fail
    go_ret;exact⟨⟨_,rfl,ts,HWL.o⟩,hW⟩
theorem bEe (F:Xt) (Ft:Nat→Xt) (mb gm kb am:Nat) (qv:Value) (out:Nat) (m:MS) (es:List TE) (N R i:Nat) (t:TX) (x:TE) (w:World) (h:Vl w F Ft mb gm kb am qv out m es N R) (ht:m.txs[i]? =some t) (hx:es[i]? =some x) (hq:∀i∈m.queue,∃t,m.txs[i]? =some t) (hl:es.length≤100000) (hql:m.queue.length≤100000) (hg:m.given≤1000) :
  Calls prog 96 #[.pointer (some ⟨mb,0,none⟩),.pointer (some ⟨x.tb,0,none⟩)] w fun e w'=>(∃r:Int,e=.returned (.int .i64 r)∧(m.read=false→m.queue=[]→m.last≤t.at'→r=0))∧nD w w':=by
 obtain⟨c0,_,_,_,_,_,_,_,c8,c9⟩:=Xz h.bx;obtain⟨code,hb,-⟩:=(h.tx i t x ht hx).bx;have HX:=hid h;have HI:=nK ht hx hq hl hql hg
 cases hr:m.read with
 | true =>
   rw[hr] at c9;go_enter func96,ntmps96
   go_wp2_with fail
   go_ret;exact⟨⟨_,rfl,fun q=>by cases q⟩,nB⟩
 | false =>
   rw[hr] at c9;go_enter func96,ntmps96
   have HK:=hid (show t.keys.length≤16 from(h.tx i t x ht hx).buf.ok.2.1);have KK:=hid (fun (w':World) (hS:nD w w')=>nU (Xz (HX.o.next hS).bx).1 (aAg ((HX.o.next hS).tx i t x ht hx).bx.choose_spec.1).2.2.2.1 (aAg ((HX.o.next hS).tx i t x ht hx).bx.choose_spec.1).2.2.2.2.1 (aAg ((HX.o.next hS).tx i t x ht hx).bx.choose_spec.1).2.2.2.2.2);clear h hb ht hx hq hl hql hg hr;go_wp2_with fail
   have Kq:=KK;refine wp_region_held_drew (S:=fun w'=>nD w w') (by kernel_rfl) (Xu nB) (fun nE=>?_);refine kF 0 ?_;refine kF 1 ?_;refine kF 2 ?_;refine kF 3 ?_;refine kF 4 ?_;refine kF 6 ?_;refine kF 7 ?_;refine kF 8 ?_;refine kF 9 ?_;refine kF 10 ?_;refine kF 11 ?_;refine kF 12 ?_;refine kF 13 ?_;refine kF 15 ?_;refine kF 16 ?_;refine kF 17 ?_;refine kF 18 ?_;refine rF 5 (fun K hK=>?_);go_simp;have hWd:=HX.o.next nE;refine(aDs F Ft mb gm kb am qv out m es N R _ hWd HI.o.2.2.1 HI.o.2.2.2.1 HI.o.2.2.2.2.1).mono ?_;rintro e w1 ⟨⟨v1,ts,rfl,hwl⟩,hb1⟩;obtain⟨qA,qc,rfl⟩:=Xs hwl.own;have hS1:nD w w1:=nE.trans (hb1.mono nE.size);have HT:=nF (show Ki w1 qA m.queue.length qc ts from⟨hwl.len,Ve hwl.own,hwl.ps,(Vv hwl.own).1,(Vv hwl.own).2⟩) hS1;clear hWd hwl hb1;go_simp;clear nE;refine hK.out _ _ hS1 (fun nE=>?_);clear hK K;try simp only[Act.put,tC,tD,tE]
   refine rF 14 (fun K hK=>?_);go_simp;refine(aNc _ x.vb gm x.bb R (t.at':Int) _ ((HX.o.next nE).tx i t x HI.o.1 HI.o.2.1).view).mono ?_;rintro e w2 ⟨⟨g1,rfl,F1,hs1,_⟩,hb2⟩;have hS2:nD w w2:=nE.trans (hb2.mono nE.size);have HV:=nH (HT.o.1.next hb2) hs1 hS2;clear hs1 hb2;go_simp;clear nE;refine hK.out _ _ hS2 (fun nE=>?_);clear hK K;try simp only[Act.put,tC,tD,tE]
   refine rF 19 (fun K hK=>?_);go_simp;refine(aNq _ x.bb t.keys _ ((HX.o.next nE).tx i t x HI.o.1 HI.o.2.1).buf).mono ?_;rintro e w3 ⟨⟨g2,rfl,F2,hs2,_⟩,hb3⟩;have hS3:nD w w3:=nE.trans (hb3.mono nE.size);have HB:=nI (HV.o.1.next hb3) (HV.o.2.1.ag (F:=F1) (.of_below hb3)) hs2 hS3;clear hs2 hb3;go_simp;clear nE;refine hK.out _ _ hS3 (fun nE=>?_);clear hK K;try simp only[Act.put,tC,tD,tE]
   refine rF 20 (fun K hK=>?_);go_simp;obtain⟨el,⟨bm,s,f,hext,hem⟩,hle⟩:=(HX.o.next nE).ext;refine(aOz _ F1 F2 gm bm s N m.queue.length qc g1 g2 64 t.keys.length el (t.at':Int) f qA ts _ hext HB.o.1 HB.o.2.1 HB.o.2.2.1 (by omega) (tK HK.o (by omega))).mono ?_;rintro e w4 ⟨⟨r,rfl,hr4⟩,hb4⟩;have hS4:nD w w4:=nE.trans (hb4.mono nE.size);have HC:=nF (fun (q1:m.queue=[]) (q2:m.last≤t.at')=>hr4 (by rw[q1];rfl) (Int.le_trans hle (Int.ofNat_le.2 q2))) hS4;clear hext hem hle hr4 hb4;go_simp;clear nE;refine hK.out _ _ hS4 (fun nE=>?_);clear hK K;try simp only[Act.put,tC,tD,tE]
   refine kF 21 ?_;refine wpAnyH_done (by kernel_rfl) ?_ _;clear Kq;have c8':=(Xz (HX.o.next HC.o.2).bx).2.2.2.2.2.2.2.2.1;clear c0 c8 c9;have hgv:¬(1099511627776:Int)≤(m.given:Int):=by have:=HI.o.2.2.2.2.2;omega
   have hgd:decide ((1099511627776:Int)≤(m.given:Int))=false:=rY hgv;by_cases h0:r=0
   · subst h0;go_wp2_with fail
     go_ret;exact⟨⟨_,rfl,fun _ _=>rfl⟩,HC.o.2⟩
   · have n1:(r==0)=false:=by simpa using h0
     have n2:(r !=0)=true:=by simpa using h0
     go_wp2_with fail
     go_ret;exact⟨⟨_,rfl,fun q1 q2=>HC.o.1 q1 q2⟩,HC.o.2⟩
theorem aCt {w w':World} {o:Option Nat} {g t:Nat} {cs:List Value} (h:Bk w g t cs) (hG:w.grownBy w' o) (ha:o≠some g):Bk w' g t cs:=(hG.block g h.lt (fun r=>ha r.symm)).trans h
theorem MS.put_put (m:MS) (i:Nat) (a b:TX):(m.put i a).put i b=m.put i b:=by unfold MS.put;simp
theorem MS.put_at {m:MS} {i:Nat} {t:TX} (h:m.txs[i]? =some t) (u:TX):(m.put i u).txs[i]? =some u:=by
 show (m.txs.set i u)[i]? =_
 rw[rD,if_pos rfl,if_pos (Vi h)]
section
variable {w w' w5 w6:World} {F:Xt} {Ft:Nat→Xt} {mb gm kb am:Nat} {qv qv':Value} {out:Nat} {m:MS} {es:List TE} {N R:Nat}
theorem Vl.qpush (h:Vl w F Ft mb gm kb am qv out m es N R) {i:Nat} (hb:nD w w5) (ho:w6.ownsRow 0 3 1 qv' (m.queue.length+1) (m.queue.map aCp++[aCp i])) (hg:w5.grownBy w6 qv.ownBlock) (hv:qv'.ownBlock=qv.ownBlock∨qv'.ownBlock=some w5.heap.size) (e:w'=w6.setCell ⟨mb,3,none⟩ qv') :
  ∃F' Ft',Vl w' F' Ft' mb gm kb am qv' out {m with queue:=m.queue++[i]} es N R∧Kf F w w'∧Sb w F F'∧In w' F':=by
 have h5:=h.next hb;have k56:Kf (fun b=>qv.ownBlock=some b) w5 w6:=(Kf.refl _ w5).grown h5.own hg (fun g q=>.inl ⟨q,by decide⟩);have b6:Bk w6 mb 166 (Vp gm kb am qv out m):=Bk.ag (F:=fun b=>b=mb) h5.bx (k56.ag (fun b q s=>by have q:b=mb:=q;subst q;exact h5.q_ne.1 s)) rfl;have k6:Kf (fun b=>b=mb) w6 w':=by rw[e];exact(Kf.refl (fun b=>b=mb) w6).set b6 (by decide) (.inl rfl) 3 qv'
 have b':Bk w' mb 166 (Vp gm kb am qv' out {m with queue:=m.queue++[i]}):=by rw[e];exact b6.set 3 qv'
 have k5:Kf (Ft 0) w5 w':=(k56.mono h5.f2).trans (G:=Ft 0) (k6.mono (fun b q=>by have q:b=mb:=q;rw[q];exact h5.f0)) (fun b q=>.inl q)
 have hnew:∀b,qv'.ownBlock=some b→Ft 0 b∨w5.heap.size≤b:=fun b q=>by
  rcases hv with s|s
  · exact .inl (h5.f2 b (s.symm.trans q))
  · rw[s] at q;injection q with q;exact .inr (by omega)
 have hin:In w' (orF (Ft 0) (fun b=>qv'.ownBlock=some b)):=fun b q=>by
  rcases q with q|q
  · exact tL (h5.fam.inn 0 b q) k5.size
  · obtain⟨_,_,hh⟩:=Vx ho q;exact tL (Vz hh) k6.size
 have hall:IM w' prog 3 am es.length (Km es):=(h5.all.ag (F:=fun b=>b=am) (k56.ag (fun b q s=>by have q:b=am:=q;subst q;exact h5.q_ne.2 s)) rfl).ag (F:=fun b=>b=am) (k6.ag (fun b q s=>by have q:b=am:=q;have s:b=mb:=s;exact h5.am_ne (s.symm.trans q))) rfl
 have ho':w'.ownsRow 0 3 1 qv' (m.queue++[i]).length ((m.queue++[i]).map aCp):=by
  have:=Vj (F:=fun b=>b≠mb) ho (k6.ag (fun b q s=>q s)) (fun g q s=>Vc ho b6 (by decide) (s▸q));rw[rH,rI];exact this
 obtain⟨g1,g2,g3,g4⟩:=h5.row k5 (Sb.or (fun b q=>hnew b q)) hin (fun b q=>.inl q) hall {m with queue:=m.queue++[i]} out b' ho' (fun b q=>.inr q) rfl lR;exact⟨_,_,g1,(Kf.of_below (F:=F) hb).trans (G:=F) g2 (fun b q=>.inl q),fun b q=>(g3 b q).imp id (fun r=>tK hb.size r),g4⟩
theorem Vl.taken (h:Vl w F Ft mb gm kb am qv out m es N R) {N':Nat} {el:Int} {G:Xt} (k:Kf (Ft 1) w w5) (hG:Sb w (Ft 1) G) (hi:In w5 G) (he:Kn w5 G gm N' el) {T:Nat} (hT:el≤(T:Int)) (e:w'=w5.setCell ⟨mb,7,none⟩ (.int .i64 (T:Int))) :
  ∃F' Ft',Vl w' F' Ft' mb gm kb am qv out {m with last:=T} es N' R∧Kf F w w'∧Sb w F F'∧In w' F':=by
 have b5:Bk w5 mb 166 (Vp gm kb am qv out m):=Bk.ag h.bx (h.fam.ag k (by decide:(0:Nat)≠1)) h.f0;have k6:Kf (fun b=>b=mb) w5 w':=by rw[e];exact(Kf.refl (fun b=>b=mb) w5).set b5 (by decide) (.inl rfl) 7 _
 have b':Bk w' mb 166 (Vp gm kb am qv out {m with last:=T}):=by rw[e];exact b5.set 7 (.int .i64 (T:Int))
 have hf5:=h.fam.step k.size hG hi;have pe:∀j,j≠1→Uu Ft 1 G j=Ft j:=fun j hn=>aAb Ft G hn
 have k6':Kf (Uu Ft 1 G 0) w5 w':=k6.mono (fun b q=>by have q:b=mb:=q;rw[q,pe 0 (by decide)];exact h.f0);have a:∀j,j≠1→Ag (Ft j) w w5:=fun j hn=>h.fam.ag k hn
 have a6:∀j,j≠0→Ag (Uu Ft 1 G j) w5 w':=fun j hn=>hf5.ag k6' hn
 have kk:Kf F w w':=(h.fam.kf k).trans (G:=F) (k6.mono (fun b q=>by have q:b=mb:=q;rw[q];exact h.inF)) (fun b q=>.inl q);have hf:=hf5.next k6.size;obtain⟨s,hs⟩:=h.book;refine⟨orF F G,Uu Ft 1 G,⟨hf,fun j hj b=>by rw[pe j (by omega)];exact h.rest j hj b,b',⟨el,by rw[Ua];have:=a6 1 (by decide);rw[Ua] at this;exact he.ag this,hT⟩,⟨s,by rw[pe 2 (by decide)];have:=a6 2 (by decide);rw[pe 2 (by decide)] at this;exact(hs.ag (a 2 (by decide))).ag this⟩,(h.all.ag (a 0 (by decide)) h.f1).ag (F:=fun b=>b=am) (k6.ag (fun b q s=>by have q:b=am:=q;have s:b=mb:=s;exact h.am_ne (s.symm.trans q))) rfl,Vj (F:=fun b=>b≠mb) (Vj h.own (a 0 (by decide)) h.f2) (k6.ag (fun b q s=>q s)) (fun g q s=>h.q_ne.1 (s▸q)),fun i t x q r=>?_,h.len,by rw[pe 0 (by decide)];exact h.f0,by rw[pe 0 (by decide)];exact h.f1,fun b q=>by rw[pe 0 (by decide)];exact h.f2 b q⟩,kk,h.fam.sb hG,hf.lt⟩;have hy:=(h.tx i t x q r).ag (w':=w5) (a _ (by omega)) (a _ (by omega)) (a _ (by omega));have hz:∀j,j≠0→j≠1→Ag (Ft j) w5 w':=fun j h0 h1=>by have:=a6 j h0;rw[pe j h1] at this;exact this
 have hy:=hy.ag (w':=w') (hz _ (by omega) (by omega)) (hz _ (by omega) (by omega)) (hz _ (by omega) (by omega));exact⟨hy.bx,by rw[pe _ (by omega)];exact hy.buf,by rw[pe _ (by omega)];exact hy.view,by rw[pe _ (by omega)];exact hy.f⟩
end
def cmR (m:MS) (i:Nat) (t:TX) (r:Int) (m':MS):Prop :=
 (t.st≠1∧r=5∧m'=m)∨(t.st=1∧((t.keys=[]∧r=0∧m'=m.put i {t with st:=3,time:=t.at'})∨(t.keys≠[]∧((r≠0∧¬(m.read=false∧m.queue=[]∧m.last≤t.at')∧m'=m.put i {t with st:=4,time:=0})∨(r=0∧m'=m.pend i t)))))
def bCu (w:World) (F:Xt) (mb gm kb am out:Nat) (m:MS) (es:List TE) (N R i:Nat) (t:TX) (e:Ending) (w':World):Prop :=
 ∃r:Int,e=.returned (.int .i64 r)∧∃F' Ft' qv' m',Vl w' F' Ft' mb gm kb am qv' out m' es N R∧Kf F w w'∧Sb w F F'∧In w' F'∧cmR m i t r m'
theorem aJl (ok:Bool):∀(n:Nat) (m:MS),m.pops ok (n+1)=(m.pops ok n).pop ok
 | 0,m=>rfl
 | n+1,m=>aJl ok n (m.pop ok)
structure BR where
 A:Option Addr
 c:Nat
 bs:List Int
def BR.cell (x:BR):Value:=.slice x.A 64 x.c
structure Ux (w:World) (B:Nat) (v:Value) (xs:List BR):Prop where
 own:w.ownsRow B 41 1 v xs.length (xs.map BR.cell)
 y:∀x∈xs,IsY w x.A 64 x.c x.bs
structure EnX (w wr:World) (ov bv:Value) (xs:List BR) (bs:List Int):Prop where
 bel:nD w wr
 row:Ux wr w.heap.size ov xs
 body:Byt wr w.heap.size bv bs
 away:∀x∈xs,∀ad,x.A=some ad→bv.ownBlock≠some ad.block
 log:∀x∈xs,aTg x.bs
section
variable {w wr w' w9:World} {ov bv v':Value} {xs:List BR} {bs:List Int}
theorem EnX.next (h:EnX w wr ov bv xs bs) (hb:nD wr w'):EnX w w' ov bv xs bs :=
 ⟨h.bel.trans (hb.mono h.bel.size),⟨Vg h.row.own hb,fun x hx=>(h.row.y x hx).ag (F:=fun _=>True) (.of_below hb)⟩,h.body.next hb,h.away,h.log⟩
theorem EnX.outR (h:EnX w wr ov bv xs bs) (hb:nD wr w9) {u:Value} {ys:List Int} (hu:Byt w9 wr.heap.size u ys) (hl:ys.length=64) {A:Option Addr} {c:Nat} (he:u=.slice A 64 c) (hO:w'.ownsRow w.heap.size 41 1 v' (xs.length+1) (xs.map BR.cell++[.slice A 64 c])) (hG:w9.grownBy w' ov.ownBlock) :
  nD w w'∧Ux w' w.heap.size v' (xs++[⟨A,c,ys⟩])∧Ag (fun _=>False) w9 w':=by
 have h9:=h.next hb;have ag:Ag (fun _=>False) w9 w':=Ag.grown h9.row.own (by decide) hG (fun _ _ q=>q);have hbel:nD w w':=h9.bel.grown hG h9.bel.size (fun g e=>Xv h9.row.own e);refine⟨hbel,⟨?_,fun x hx=>?_⟩,ag⟩
 · rw[rH,rI];exact hO
 · rcases rE.1 hx with s|s
   · exact(h9.row.y x s).ag ag
   · obtain rfl:x=_:=by simpa using s
     obtain⟨A',c',e,hy⟩:=hu.isY;rw[he,hl] at e;injection e with e1 e2 e3;subst e1 e3;rw[hl] at hy;exact hy.ag ag
theorem EnX.out (h:EnX w wr ov bv xs bs) (hb:nD wr w9) {u:Value} {ys:List Int} (hu:Byt w9 wr.heap.size u ys) (hl:ys.length=64) {A:Option Addr} {c:Nat} (he:u=.slice A 64 c) (hO:w'.ownsRow w.heap.size 41 1 v' (xs.length+1) (xs.map BR.cell++[.slice A 64 c])) (hG:w9.grownBy w' ov.ownBlock) (hlg:aTg ys) :
  EnX w w' v' bv (xs++[⟨A,c,ys⟩]) bs:=by
 obtain⟨h1,h2,ag⟩:=h.outR hb hu hl he hO hG;refine⟨h1,h2,(h.next hb).body.ag ag,fun x hx ad q=>?_,fun x hx=>?_⟩
 · rcases rE.1 hx with s|s
   · exact h.away x s ad q
   · obtain rfl:x=_:=by simpa using s
     intro e;have q:A=some ad:=q;have h1:=Xv (g:=ad.block) hu.1 (by rw[he,q];rfl);obtain⟨_,_,hh⟩:=Vx h.body.1 e;have:=Vz hh;omega
 · rcases rE.1 hx with s|s
   · exact h.log x s
   · obtain rfl:x=_:=by simpa using s
     exact hlg
theorem EnX.more (h:EnX w wr ov bv xs bs) (hb:nD wr w9) {ys:List Int} (hO:w'.ownsRow w.heap.size 5 1 v' (bs.length+ys.length) (bs.map (Value.int .u8)++ys.map (Value.int .u8))) (hw:∀x∈ys,0≤x∧x<256) (hG:w9.grownBy w' bv.ownBlock) (hv:v'.ownBlock=bv.ownBlock∨v'.ownBlock=some w9.heap.size) :
  EnX w w' ov v' xs (bs++ys):=by
 have h9:=h.next hb;have hbel:nD w w':=h9.bel.grown hG h9.bel.size (fun g e=>Xv h9.body.1 e);have hne:∀g,bv.ownBlock=some g→ov.ownBlock≠some g:=fun g e=>aBl h9.body.1 h9.row.own (by decide) e
 have ky:∀x∈xs,IsY w' x.A 64 x.c x.bs:=fun x hx=>by
  cases hg:bv.ownBlock with
  | none=>rw[hg] at hG;exact(h9.row.y x hx).ag (F:=fun _=>True) ⟨hG.size,fun b ob hb' _=>(hG.block b (Vz hb') (fun q=>by cases q)).trans hb'⟩
  | some g=>rw[hg] at hG;exact(h9.row.y x hx).but hG (fun ad q e=>h9.away x hx ad q (by rw[hg,e]))
 have ko:w'.ownsRow w.heap.size 41 1 ov xs.length (xs.map BR.cell):=by
  cases hg:bv.ownBlock with
  | none=>rw[hg] at hG;exact Vj (F:=fun _=>True) h9.row.own ⟨hG.size,fun b ob hb' _=>(hG.block b (Vz hb') (fun q=>by cases q)).trans hb'⟩ (fun _ _=>trivial)
  | some g=>rw[hg] at hG;exact aGv h9.row.own hG (fun g' e q=>hne g hg (q▸e))
 refine⟨hbel,⟨ko,ky⟩,⟨?_,fun x hx=>?_⟩,fun x hx ad q e=>?_,h.log⟩
 · rw[rH,rI];exact hO
 · rcases rE.1 hx with s|s
   · exact h.body.2 x s
   · exact hw x s
 · rcases hv with s|s
   · exact h.away x hx ad q (s.symm.trans e)
   · rw[s] at e;injection e with e;obtain⟨ob,ho,_⟩:=(h9.row.y x hx).y ad q (by decide);have:=Vz ho;omega
end
theorem aSd {ts:List TxD} {k:Nat} (hk:k<ts.length) {x:TxD} (hx:ts[k]=x):((ts.take (k+1)).map (·.n)).sum=((ts.take k).map (·.n)).sum+x.n:=by rw[aEa hk,hx]
theorem aPw (ts:List TxD) (k:Nat):((ts.take k).map (·.n)).sum≤(ts.map (·.n)).sum:=by
 induction ts generalizing k with
 | nil=>simp
 | cons x ts ih=>cases k with
   | zero=>simp
   | succ k=>simp only[List.take_succ_cons,List.map_cons,List.sum_cons];have:=ih k;omega
theorem aZd:(prog.info? 41).map (fun i=>(i.size,i.bytes,i.zero.map (·.cells.size)))=some (1,24,some 1):=by kernel_rfl
theorem aFw:∃i z,prog.info? 41=some i∧i.zero=some z∧i.size=1∧i.bytes=24∧z.cells.size=1:=by
 have h:=aZd
 cases hi:prog.info? 41 with
 | none=>rw[hi] at h;cases h
 | some i =>
   rw[hi] at h;simp at h
   obtain⟨h1,h2,z,hz,h3⟩:=h;exact⟨i,z,rfl,hz,h1,h2,h3⟩
theorem bFp (x:Int):∀z∈[IntKind.u8.wrap x],0≤z∧z<256:=by
 intro z hz;simp at hz
 subst hz;exact aBo _
theorem aLi {w w':World} {B C:Nat} {v v':Value} {bs:List Int} {x:Int} (h:Byt w C v bs) (_:C≤C) (hO:w'.ownsRow B 5 1 v' (bs.length+1) (bs.map (Value.int .u8)++[.int .u8 (IntKind.u8.wrap x)])):Byt w' B v' (bs++[IntKind.u8.wrap x])∧(bs++[IntKind.u8.wrap x]).length=bs.length+1 :=
 ⟨⟨by rw[rH,rI];exact hO,fun z hz=>(rE.1 hz).elim (h.2 z) (bFp x z)⟩,by simp⟩
theorem Ux.base {w:World} {B C:Nat} {v:Value} {xs:List BR} (h:Ux w C v xs) (hB:B≤C):Ux w B v xs:=⟨ownsRow_base_a h.own hB,h.y⟩
def aBx:Code→List Code
 | .loop c=>[c]
 | .seq a b=>aBx a++aBx b
 | .block _ c=>aBx c
 | .scope c=>aBx c
 | .cond _ a b=>aBx a++aBx b
 | _=>[]
noncomputable def aEq (f:Func) (i:Nat):Code:=((f.body.map aBx).getD []).getD i .skip
noncomputable def aBn (f:Func) (i j:Nat):Code:=(aBx (aEq f i)).getD j .skip
theorem aFv {k n:Nat} (h:k<n) (hn:n≤100):(k:Int)<(n:Int)∧(0:Int)≤(k:Int)∧wrap64 ((k:Int)+1)=(k:Int)+1:=⟨by omega,by omega,by unfold wrap64;omega⟩
theorem aBs {w:World} {B e s n q:Nat} {v:Value} {xs:List Value} (e':n=q) (h:w.ownsRow B e s v n xs):w.ownsRow B e s v q xs:=e'▸h
structure LtT (ts:List TxD) (bs:List Int) (k:Nat) (lt:Int):Prop where
 len:bs.length=9+2*k
 tim:Uw bs k=lt
 tx:∃x,ts[k - 1]? =some x∧x.time=lt
theorem LtT.step {ts:List TxD} {bs:List Int} {k:Nat} {lt num d:Int} {x:TxD} (h:LtT ts bs k lt) (hok:OkB num ts) (hx:ts[k]? =some x) (hd:wrap64 (x.time - lt)=d):LtT ts (bs++[d % 256,d / 256 % 256]) (k+1) x.time:=by
 obtain⟨y,hy,e⟩:=h.tx;have hl:=(rB.1 hx).1;have hx1:=(hok.tx x (tZ hx)).time;have hy1:=(hok.tx y (tZ hy)).time
 have hle:lt≤x.time:=by
  rcases tP k with rfl|q
  · have:y=x:=rT (hy.symm.trans hx);rw[←e,this];exact Int.le_refl _
  · have h2:=hok.up (k - 1) (by omega);rw[tX (by omega)] at hy;simp only[show k - 1+1=k by omega] at h2;rw[rT hy,(rB.1 hx).2,e] at h2;exact Int.le_of_lt h2
 have hd2:d=x.time - lt:=by rw[←hd];unfold wrap64;omega
 refine⟨by rw[rH,h.len];rfl,?_,⟨x,hx,rfl⟩⟩;unfold Uw
 rw[aIb _ k (by rw[h.len];exact lR),h.tim,List.drop_append_of_le_length (by rw[h.len];exact lR),List.drop_of_length_le (by rw[h.len];exact lR)];show lt+(d % 256+256*(d / 256 % 256+256*0))=x.time
 omega
structure LkT (ts:List TxD) (bs:List Int) (n k:Nat):Prop where
 len:bs.length=9+2*n+k
 tim:∃x,ts[n - 1]? =some x∧Uw bs n=x.time
theorem LtT.lk {ts:List TxD} {bs:List Int} {n:Nat} {lt:Int} (h:LtT ts bs n lt):LkT ts bs n 0:=by
 obtain⟨x,hx,e⟩:=h.tx;exact⟨h.len,x,hx,h.tim.trans e.symm⟩
theorem LkT.step {ts:List TxD} {bs:List Int} {n k:Nat} (h:LkT ts bs n k) (y:Int):LkT ts (bs++[y]) n (k+1):=by
 obtain⟨x,hx,e⟩:=h.tim;exact⟨by rw[rH,h.len];rfl,x,hx,by rw[aIb _ n (by rw[h.len];omega)];exact e⟩
end Go.Proofs.YtdhlicgaalnmoaaGreatDoor.Tp
