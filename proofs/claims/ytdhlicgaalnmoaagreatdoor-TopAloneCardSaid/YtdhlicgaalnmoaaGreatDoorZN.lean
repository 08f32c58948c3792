/- Contracts of the program's functions, and laws on memory: a part of the proof of TopAlone. -/
import Derived.Test.YtdhlicgaalnmoaaGreatDoorZM
set_option linter.unusedSimpArgs false
set_option linter.unusedVariables false
namespace Go.Proofs.YtdhlicgaalnmoaaGreatDoor.Tp
open Lib (hid)
open Tryz
open Go.RowKit Go.Maps
set_option maxHeartbeats 8000000
set_option maxRecDepth 100000
structure RdP (xs:List BR) (k:Nat) (s:Int) (bs:List Int):Prop where
 z:k=0→s=0∧bs=[]
 hd:0<k→∃x,xs[0]? =some x∧(frD x.bs).kind=3∧(frD x.bs).seq=s
 da:∀(i:Nat) (x:BR),1≤i→i<k→xs[i]? =some x→(frD x.bs).kind=1∧(frD x.bs).seq=s
 tx:bs=((xs.take k).drop 1).flatMap (fun x=>(frD x.bs).body)
 le:bs.length≤40*k
def srR (w w':World) (xs:List BR) (e:Ending):Prop :=
 e=.returned (.tuple #[.slice none 0 0,.int .i64 0])∨
 ∃u bs s k x,e=.returned (.tuple #[u,.int .i64 s])∧Byt w' w.heap.size u bs∧0<k∧RdP xs k s bs∧xs[k]? =some x∧(frD x.bs).kind=2∧(frD x.bs).lba=(k:Int) - 1
theorem RdP.one {xs:List BR} {s:Int} {bs:List Int} {x:BR} (h:RdP xs 0 s bs) (hx:xs[0]? =some x) (h3:(frD x.bs).kind=3):RdP xs 1 (frD x.bs).seq bs:=by
 obtain⟨rfl,rfl⟩:=h.z rfl;refine⟨fun q=>absurd q (by decide),fun _=>⟨x,hx,h3,rfl⟩,fun i y h1 h2=>absurd h2 (by omega),?_,zL⟩
 cases xs with
 | nil=>rfl
 | cons a r=>rfl
theorem RdP.more {xs:List BR} {k:Nat} {s:Int} {bs:List Int} {x:BR} (h:RdP xs k s bs) (h0:0<k) (hx:xs[k]? =some x) (h1:(frD x.bs).kind=1) (hs:(frD x.bs).seq=s) (h40:(frD x.bs).body.length≤40):RdP xs (k+1) s (bs++(frD x.bs).body):=by
 have hl:=(rB.1 hx).1;refine⟨fun q=>absurd q (by omega),fun _=>h.hd h0,fun i y i1 i2 hy=>?_,?_,?_⟩
 · rcases tN i k with q|q
   · exact h.da i y i1 q hy
   · obtain rfl:i=k:=by omega
     obtain rfl:x=y:=rT (hx.symm.trans hy);exact⟨h1,hs⟩
 · rw[List.take_add_one,hx,List.drop_append_of_le_length (by rw[rJ];omega),rX,←h.tx];simp
 · have:=h.le;rw[rH];omega
theorem aTt (w:World) (B:Nat):Byt w B (.slice none 0 0) []:=⟨World.ownsRow_nil w _ _ _,by simp⟩
theorem IsY.some_of {w:World} {A:Option Addr} {c:Nat} {bs:List Int} (h:IsY w A 64 c bs):∃ad,A=some ad:=by
 obtain⟨ad,e,_⟩:=h.b.rd.get (k:=0) (by rw[rU,h.b.len];decide);exact⟨ad,e⟩
theorem aSq {w:World} {B:Nat} {v:Value} {xs:List BR} (h:Ux w B v xs) (h9:xs.length≤300) :
  Calls prog 138 #[v] w fun e w'=>srR w w' xs e∧nD w w':=by
 obtain⟨i0,hi,hz0,hz1,hz2⟩:=info_parts aBq;obtain⟨A,c,rfl⟩:=Xs h.own;obtain⟨n,hn⟩:=nC (xs.length);have HR:=nI (Ve h.own) h.y h9 hn;rw[hn];clear h h9 hn;go_enter func138,ntmps138
 go_wp2_with fail
 go_step3;go_wp2_with fail
 go_step3;go_wp2_with fail
 go_loopw [2,3,10] (fun tv sv iv wr=>∃(k:Nat) (s:Int) (bs:List Int),k≤n∧iv=.int .i64 (k:Int)∧sv=.int .i64 s∧Hid (RdP xs k s bs∧Byt wr w.heap.size tv bs∧nD w wr)) (fun _ _ iv _=>n - (intOf iv).toNat)
 case atStart=>exact⟨0,0,[],zL,rfl,rfl,hid ⟨⟨fun _=>⟨rfl,rfl⟩,fun q=>absurd q (by decide),fun i x _ q=>absurd q (by omega),by simp,zL⟩,aTt _ _,nB⟩⟩
 case round =>
  obtain⟨k,s,bs,hk,rfl,rfl,HI⟩:=hrel;rcases tN k n with hlt|hge
  · have hkx:k<xs.length:=by rw[HR.o.2.2.2];exact hlt
    obtain⟨p,hp⟩:∃p,xs[k]? =some p:=⟨_,tX hkx⟩
    have hpm:=tZ hp;obtain⟨adx,eA,had,c1⟩:=(HR.o.1.next lR HI.o.2.2).get (k:=k) (by rw[rU];exact hkx);subst eA;rw[rV,(rB.1 hp).2] at c1;have hyp:=HR.o.2.1 p hpm;obtain⟨adp,eP⟩:=hyp.some_of;rw[eP] at hyp;obtain⟨pA,pc,pb⟩:=p;subst eP;have c0:_=some (Value.slice (some adp) 64 pc):=c1;have hde:=aHe adp pc pb _ (hyp.ag (F:=fun _=>False) (.of_below HI.o.2.2));obtain⟨n1,n2,m2⟩:(k:Int)<(n:Int)∧(0:Int)≤(k:Int)∧wrap64 ((k:Int)+1)=(k:Int)+1:=⟨by omega,by omega,by unfold wrap64;have:=HR.o.2.2.1;have:=HR.o.2.2.2;omega⟩;have HP:=nH hp hlt hyp;clear hk hlt hkx hp hpm had c1 hyp;go_wp2_with fail
    refine hde.mono ?_;rintro e w1 ⟨hd,hb1⟩;clear hde c0;rcases hd with ⟨r,hr,rfl⟩|⟨yA,yn,yc,rfl,hy,hyn,hy40,hkd,hlb,hsq,hep⟩
    · have HB:=hid (show nD w (w1.alloc (.cells #[.int .i64 0,.int .i64 0,.int .i64 0,.int .i64 0,.slice none 0 0] 258)) from(HI.o.2.2.trans (hb1.mono HI.o.2.2.size)).alloc (tK HI.o.2.2.size hb1.size) _);have hrb:(r==0)=false:=by simp[hr]
      clear hb1;go_wp2_with fail
      (try simp only[Exit.inBlock,Exit.then,Exit.noGoto_ret])
      go_ret2
      exact⟨.inl rfl,HB.o⟩
    · obtain⟨kd,ekd⟩:∃kd,(frD pb).kind=kd:=⟨_,rfl⟩
      obtain⟨sq,esq⟩:=nC ((frD pb).seq);obtain⟨lb,elb⟩:=nC ((frD pb).lba);obtain⟨ep,eep⟩:∃ep,(frD pb).ep=ep:=⟨_,rfl⟩
      obtain⟨bo,ebo⟩:=nC ((frD pb).body);rw[ekd,esq,elb,eep];rw[ebo] at hy;obtain⟨g2,w2,hzw2,hw2,Bw2,bw2⟩:=Xy w1 258 [.int .i64 kd,.int .i64 ep,.int .i64 sq,.int .i64 lb,.slice yA yn yc];obtain⟨d0,d1,d2,d3,d4⟩:=Bw2.c5;have HB:=hid ((HI.o.2.2.trans (hb1.mono HI.o.2.2.size)).trans (bw2.mono (tK HI.o.2.2.size hb1.size)));have hb12:=hb1.trans (bw2.mono hb1.size);have HD:=nJ (nU ekd esq elb ebo) (hy.ag (F:=fun _=>False) (.of_below bw2)) hy40 (HI.o.2.1.next (hb12.mono HI.o.2.2.size |> fun _=>hb12)) Bw2;clear hb1 bw2 ekd esq elb eep ebo hy hyn hkd hlb hsq hep hb12 Bw2;rcases tP k with rfl|hk0
      · by_cases h3:kd=3
        · subst h3;have HN:=nF (HI.o.1.one HP.o.1 HD.o.1.1) HP.o.2.1;have e3:=HD.o.1.2.1;go_wp2_with fail
          go_roundw
          case rel=>exact⟨1,_,bs,HN.o.2,rfl,by first|rfl|exact congrArg (Value.int .i64) e3.symm,hid ⟨HN.o.1,HD.o.2.2.2.1,HB.o⟩⟩
          case measure=>first|(rw[m2];exact Xw HN.o.2 rfl)|exact Xw HN.o.2 (by first|exact m2|rfl)
        · have t3:(kd==3)=false:=by simp[h3]
          have t3':decide (kd=3)=false:=rY h3;go_wp2_with fail
          (try simp only[Exit.inBlock,Exit.then,Exit.noGoto_ret])
          go_ret2
          exact⟨.inl rfl,HB.o⟩
      · have k0:¬(k:Int)=0:=by omega
        have k0b:((k:Int)==0)=false:=by simp;omega
        by_cases hs:sq=s
        · subst hs;obtain⟨tA,tc,rfl⟩:=Xs HD.o.2.2.2.1.1;by_cases h1:kd=1
          · subst h1;have l1:bs.length≤12000:=by have:=HI.o.1.le;have:=HR.o.2.2.1;have:=HR.o.2.2.2;have:=HP.o.2.1;omega
            have l2:yn≤40:=HD.o.2.2.1;go_wp2_with (at_builtin;go_must (refine aAa _ rfl _ _ 41 rfl w.heap.size 5 i0 (.int .u8 0) 1 1 underlying41 hi hz0 hz1 hz2 rfl (by omega) _ _ _ (by rfl) (by exact HD.o.2.2.2.1.1) w2.heap.size yA yn yc (bo.map (Value.int .u8)) (by rfl) (by rw[rU,Nat.mul_one];exact HD.o.2.1.b.len) (by exact HD.o.2.1.b.rd) Ui (by omega) (by omega) (by exact HB.o.size) ?_);intro v9 w9 hO9 hG9 hn9)
            have HZ:=hid (show RdP xs (k+1) sq (bs++bo)∧Byt w9 w.heap.size v9 (bs++bo) from⟨by have h:=HI.o.1.more hk0 HP.o.1 HD.o.1.1 HD.o.1.2.1 (by show (frD pb).body.length≤40;rw[HD.o.1.2.2.2,HD.o.2.1.b.len];exact l2);rw[show (frD pb).body=bo from HD.o.1.2.2.2] at h;exact h,by rw[rH,HD.o.2.1.b.len,rI];exact hO9,fun x hx=>(rE.1 hx).elim (HD.o.2.2.2.1.2 x) (HD.o.2.1.b.wf x)⟩);have hZ9:w2.grownBy w9 (Value.slice tA bs.length tc).ownBlock:=hG9;have HB9:=hid (HB.o.grown hZ9 HB.o.size (fun g e=>Xv HD.o.2.2.2.1.1 e));clear hO9 hG9 hn9 hZ9;refine⟨⟨k+1,sq,_,HP.o.2.1,Va (by first|exact m2|rfl),rfl,hid ⟨HZ.o.1,HZ.o.2,HB9.o⟩⟩,?_⟩;first|(rw[m2];exact Xw HP.o.2.1 rfl)|exact Xw HP.o.2.1 (by first|exact m2|rfl)
          · have t1:(kd==1)=false:=by simp[h1]
            have t1':decide (kd=1)=false:=rY h1;have HB2:=hid (show nD w2 w2.drew from Xu nB);by_cases h2:kd=2∧lb=(k:Int) - 1
            · obtain⟨rfl,rfl⟩:=h2;have q1:wrap64 ((k:Int) - 1)=(k:Int) - 1:=by unfold wrap64;have:=HR.o.2.2.1;have:=HR.o.2.2.2;have:=HP.o.2.1;omega
              have q2:IntKind.i64.wrap ((k:Int) - 1)=(k:Int) - 1:=IntWalk.i64_in _ (by have:=HR.o.2.2.1;have:=HR.o.2.2.2;have:=HP.o.2.1;omega);have KK:=hid (fun (w':World) (hS:nD w2 w')=>(HD.o.2.2.2.2.next hS HD.o.2.2.2.2.lt).c5);go_wp2_with fail
              obtain⟨tY,tcY,eY,hYt⟩:=HD.o.2.2.2.1.isY;injection eY with eA1 _ eA3;subst eA1 eA3;have HT:=nF hYt (show bs.length≤20000 by have:=HI.o.1.le;have:=HR.o.2.2.1;have:=HR.o.2.2.2;have:=HP.o.2.1;omega);clear hYt;have Kq:=KK;refine wp_region_held_drew (S:=fun w'=>nD w2 w') (by kernel_rfl) (Xu nB) (fun nE=>?_);refine kF 0 ?_;refine kF 1 ?_;refine kF 2 ?_;refine kF 3 ?_;refine kF 4 ?_;refine kF 5 ?_;refine kF 6 ?_;refine kF 7 ?_;refine kF 8 ?_;refine kF 9 ?_;refine kF 10 ?_;refine kF 11 ?_;refine kF 12 ?_;refine kF 13 ?_;refine rF 14 (fun K hK=>?_);go_simp;refine(aMz tA bs.length tc bs w2.drew (HT.o.1.ag (F:=fun _=>False) (.of_below (Xu nB))) HT.o.2).mono ?_;rintro e w7 ⟨⟨v8,b8,rfl,hb8,hl8⟩,hb7⟩;have hS7:nD w2 w7:=(Xu nB).trans hb7;have H7:=nH hb8 hl8 hS7;obtain⟨zA,zc,rfl⟩:=Xs (aBs hl8 hb8.1);clear hb8 hl8 hb7;go_simp;clear nE;refine hK.out _ _ hS7 (fun nE=>?_);clear hK K;try simp only[Act.put,tC,tD,tE]
              refine rF 15 (fun K hK=>?_);go_simp;obtain⟨zA2,zc2,eZ,hZ⟩:=H7.o.1.isB;rw[H7.o.2.1] at eZ hZ;injection eZ with eZ1 _ eZ3;subst eZ1 eZ3;refine(aIz yA yn yc bo zA 8 zc b8 w7 (HD.o.2.1.ag (F:=fun _=>False) (.of_below H7.o.2.2)).b hZ (tK HD.o.2.2.1 (by decide))).mono ?_;rintro e w9 ⟨⟨bb,rfl⟩,hb9⟩;have hS9:nD w2 w9:=H7.o.2.2.trans (hb9.mono H7.o.2.2.size);have H9:=hid hS9;clear hZ hb9;go_simp;clear nE;refine hK.out _ _ hS9 (fun nE=>?_);clear hK K;try simp only[Act.put,tC,tD,tE]
              refine kF 16 ?_;refine kF 17 ?_;refine wpAnyH_done (by kernel_rfl) ?_ _;clear Kq
              cases bb with
              | false =>
                go_wp2_with fail
                (try simp only[Exit.inBlock,Exit.then,Exit.noGoto_ret])
                go_ret2
                exact⟨.inl rfl,HB.o.trans (H9.o.mono HB.o.size)⟩
              | true =>
                go_wp2_with fail
                (try simp only[Exit.inBlock,Exit.then,Exit.noGoto_ret])
                go_ret2
                exact⟨.inr ⟨_,bs,sq,k,_,rfl,HD.o.2.2.2.1.next H9.o,hk0,HI.o.1,HP.o.1,HD.o.1.1,HD.o.1.2.2.1⟩,HB.o.trans (H9.o.mono HB.o.size)⟩
            · by_cases h4:kd=2
              · have hlb:¬lb=(k:Int) - 1:=fun q=>h2 ⟨h4,q⟩
                subst h4;have q1:wrap64 ((k:Int) - 1)=(k:Int) - 1:=by unfold wrap64;have:=HR.o.2.2.1;have:=HR.o.2.2.2;have:=HP.o.2.1;omega
                have q2:IntKind.i64.wrap ((k:Int) - 1)=(k:Int) - 1:=IntWalk.i64_in _ (by have:=HR.o.2.2.1;have:=HR.o.2.2.2;have:=HP.o.2.1;omega);have t5:(lb==(k:Int) - 1)=false:=by simp[hlb]
                have t5':decide (lb=(k:Int) - 1)=false:=rY hlb;go_wp2_with fail
                go_quiet (fail)
                go_wp2_with fail
                (try simp only[Exit.inBlock,Exit.then,Exit.noGoto_ret])
                go_ret2
                exact⟨.inl rfl,by first|exact Vw HB.o _|(rw[hw2];exact Vw HB.o _)|(have h:=hw2;simp only[hw2];exact Vw HB.o _)⟩
              · have t4:(kd==2)=false:=by simp[h4]
                have t4':decide (kd=2)=false:=rY h4;go_wp2_with fail
                go_quiet (fail)
                go_wp2_with fail
                (try simp only[Exit.inBlock,Exit.then,Exit.noGoto_ret])
                go_ret2
                exact⟨.inl rfl,by first|exact Vw HB.o _|(rw[hw2];exact Vw HB.o _)|(have h:=hw2;simp only[hw2];exact Vw HB.o _)⟩
        · have ts:(sq==s)=false:=by simp[hs]
          have ts':decide (sq=s)=false:=rY hs;go_wp2_with fail
          (try simp only[Exit.inBlock,Exit.then,Exit.noGoto_ret])
          go_ret2
          exact⟨.inl rfl,HB.o⟩
  · obtain rfl:k=n:=tQ hk hge;have n0:¬(k:Int)<(k:Int):=Int.lt_irrefl _;have HB:=hid HI.o.2.2;go_wp2_with fail
    go_ret2
    exact⟨.inl rfl,HB.o⟩
theorem bEr {xs:List BR} {bl:List (List Int)} {k:Nat} {s:Int} {bs:List Int} (h:RdP xs k s bs) (h0:0<k) (e:xs.map BR.bs=bl):RdL bl k bs∧∃b,bl[0]? =some b∧(frD b).seq=s:=by
 have at':∀(i:Nat) (b:List Int),bl[i]? =some b→∃x,xs[i]? =some x∧x.bs=b:=fun i b q=>by
  rw[←e,rW] at q
  cases hx:xs[i]? with
  | none=>rw[hx] at q;cases q
  | some x=>rw[hx] at q;exact⟨x,rfl,rT q⟩
 obtain⟨x,hx,h3,hs⟩:=h.hd h0;have hb:bl[0]? =some x.bs:=by rw[←e,rW,hx];rfl
 refine⟨⟨⟨x.bs,hb,h3⟩,fun i b h1 h2 q=>?_,?_⟩,x.bs,hb,hs⟩
 · obtain⟨y,hy,rfl⟩:=at' i b q;exact(h.da i y h1 h2 hy).1
 · rw[h.tx,←e,←List.map_take,←List.map_drop,List.flatMap_map]
theorem bAk (l:List (List (List Int))) (h:∀c∈l,c.length≤96):(Kk l).length≤96*l.length:=by
 induction l with
 | nil=>exact lR
 | cons c r ih =>
   have h1:=h c rQ;have h2:=ih fun x hx=>h x (List.mem_cons_of_mem _ hx)
   show (if c.length<96 then c else c++Kk r).length≤_
   rw[List.length_cons];split
   · omega
   · rw[rH];omega
theorem aWd {w:World} {F:Xt} {gd:Nat} {cs:List (List (List Int))} {gf:Bool} (h:Ul w F gd cs gf) (k:Nat):(Kk ((cs.drop (3*k)).take 3)).length≤288:=by
 have:=bAk ((cs.drop (3*k)).take 3) fun c hc=>by
  obtain⟨i,hi⟩:=List.getElem?_of_mem (rS (rR hc));exact h.mx hi
 have h3:((cs.drop (3*k)).take 3).length≤3:=by rw[rJ];omega
 omega
def SlP (T:Nat) (w:World) (gd gs:Nat):Prop:=∃inn v bs count,Uz w gd gs inn v bs count∧count≤T∧aBh T bs
theorem SlP.ag {T:Nat} {w w':World} {F:Xt} {gd gs:Nat} (h:SlP T w gd gs) (k:Ag F w w') (hF:F gs):SlP T w' gd gs:=by
 obtain⟨a,b,c,d,h,e⟩:=h;exact⟨a,b,c,d,h.ag k hF,e⟩
theorem Uz.newer {w w':World} {gd gs count i s:Nat} {inn:Int} {v u:Value} {bs ys:List Int} {B:Nat} (h:Uz w gd gs inn v bs count) (hi:i<2) (hu:Byt w B u ys) (hy:ys.length≤12000)
  (e:((w.setCell ⟨gs,5,none⟩ (.int .i64 (i:Int))).setCell ⟨gs,6,none⟩ u).setCell ⟨gs,7,none⟩ (.int .i64 (s:Int))=w'):Uz w' gd gs (i:Int) u ys s∧Kf (fun b=>b=gs) w w':=by
 have b5:=h.bx.set 5 (.int .i64 (i:Int));have b6:=b5.set 6 u;have b7:=b6.set 7 (.int .i64 (s:Int));have k:Kf (fun b=>b=gs) w w':=by rw[←e];exact(((Kf.refl (fun b=>b=gs) w).set h.bx (by decide) (.inl rfl) 5 _).set b5 (by decide) (.inl rfl) 6 _).set b6 (by decide) (.inl rfl) 7 _
 refine⟨⟨by rw[e] at b7;exact b7,?_,by omega,by omega⟩,k⟩;exact⟨aPy (ownsRow_base_a hu.1 zL) (k.ag (F:=fun _=>False) (fun _ q=>q.elim)),hu.2⟩
theorem bAv (T:Nat) (F:Xt) (gd:Nat) (ns:List Nat) (w:World) (h:Ut T w F gd ns) (hI:In w F) :
  Calls prog 73 #[.pointer (some ⟨gd,0,none⟩),.int .i64 0,.int .i64 3,.int .i64 6] w fun e w'=>∃gs,e=.returned (.tuple #[.pointer (some ⟨gs,0,none⟩),.int .i64 0])∧Ut T w' F gd ns∧SlP T w' gd gs∧w.heap.size≤gs∧gs<w'.heap.size∧Kf F w w':=by
 have hg:=aOc h.dev;go_enter func73,ntmps73
 go_wp2_with fail
 refine hg.mono ?_;rintro e w1 ⟨rfl,hb1⟩;obtain⟨g2,w2,hg2,hw2,hB2,hb2⟩:=Xy w1 75 [.int .i64 8,.int .i64 96];subst hg2;obtain⟨c0,c1⟩:=hB2.c2;obtain⟨gs,w3,hg3,hw3,hB3,hb3⟩:=Xy w2 182 [.pointer (some ⟨gd,0,none⟩),.int .i64 0,.int .i64 3,.int .i64 6,.int .i64 96,.int .i64 1,.slice none 0 0,.int .i64 0,.bool false];have hb13:=hb1.trans ((hb2.trans (hb3.mono hb2.size)).mono hb1.size);have hd3:Ut T w3 F gd ns:=h.ag (.of_below hb13);have hs3:Uz w3 gd gs 1 (.slice none 0 0) [] 0:=⟨hB3,⟨⟨rfl,.inl ⟨rfl,rfl⟩⟩,by simp⟩,.inr rfl,by simp⟩;have hgs:w.heap.size≤gs:=by have:=hb1.size;have:=hb2.size;omega
 have hne:¬F gs:=fun q=>by have:=hI gs q;omega
 have HS:=nH hgs hne hI;have H0:=hid (show Ut T w3 F gd ns∧SlP T w3 gd gs∧Kf F w w3∧gs<w3.heap.size from⟨hd3,⟨_,_,_,_,hs3,zL,.inl rfl⟩,.of_below hb13,hB3.lt⟩);clear hs3 hd3 hb13 hb1 hb2 hb3 hB2 hB3 hg h hgs hne hI;go_wp2_with fail
 clear c0 c1;go_loopw [51] (fun i wr=>∃k:Nat,k≤2∧i=.int .i64 (k:Int)∧Hid (Ut T wr F gd ns∧SlP T wr gd gs∧Kf F w wr∧gs<wr.heap.size)) (fun i _=>2 - (intOf i).toNat)
 case atStart=>exact⟨0,by omega,rfl,H0⟩
 case round =>
  obtain⟨k,hk,rfl,HW⟩:=hrel;rcases tN k 2 with hlt|hge
  · obtain⟨cs,hd,hns,hcon⟩:=HW.o.1;obtain⟨inn,v,bt,count,hsl,hcT,hok⟩:=HW.o.2.1;have hIr:=HS.o.2.2.next HW.o.2.2.1.size;have hbl:=aTo hsl hd hIr HS.o.2.1 hlt;have n1:(k:Int)<2:=by omega
    have m2:wrap64 ((k:Int)+1)=(k:Int)+1:=by unfold wrap64;omega
    have HC:=nK hns hcon hcT hok hlt hsl;clear hd hns hcon hcT hok hIr hlt hk;go_wp2_with fail
    refine hbl.mono ?_;rintro e w4 ⟨v4,xs,rfl,hrow,hxs,hd4,hk4⟩;obtain⟨A4,c4,rfl⟩:=Xs hrow.own
    have hl300:xs.length≤300:=by
     have:=congrArg List.length hxs;rw[rU] at this;have:=aWd hd4 k;omega
    have hkd:∀x∈xs,aJe x.bs:=fun x hx=>(HC.o.2.1.slot k HC.o.2.2.2.2.1).k _ (by rw[←hxs];exact List.mem_map_of_mem hx)
    have hhas:=aVl hrow (by omega) hkd;have hrd:=aSq hrow hl300;have hs4:=HC.o.2.2.2.2.2.ag (F:=fun b=>b=gs) (hk4.ag (fun b q r=>HS.o.2.1 (by have q:b=gs:=q;exact q▸r))) rfl;have H4:=nK hxs hd4 (HW.o.2.2.1.trans hk4 (fun b q=>.inl q)) hs4 hl300 hk4.size;clear hbl hrow hxs hd4 hk4 hs4 hl300 hkd hsl;go_wp2_with fail
    refine hhas.mono ?_;rintro e w' ⟨rfl,rfl⟩;clear hhas;go_wp2_with fail
    refine hrd.mono ?_;rintro e w5 ⟨hsr,hb5⟩;have hs5:=H4.o.2.2.2.1.ag (F:=fun b=>b=gs) (.of_below hb5) rfl;have hd5:=H4.o.2.1.ag (F:=F) (.of_below hb5);have hk5:=H4.o.2.2.1.next hb5;obtain⟨c0,c1,c2,c3,c4,c5,c6,c7,c8⟩:=hs5.bx.c9;rcases hsr with rfl|⟨u,ys,s,j,x,rfl,hby,hj,hrp,hx,hx2,_⟩
    · have HE:=hid (show Ut T w5 F gd ns∧SlP T w5 gd gs∧Kf F w w5∧gs<w5.heap.size from⟨⟨cs,hd5,HC.o.1,HC.o.2.1⟩,⟨_,_,_,_,hs5,HC.o.2.2.1,HC.o.2.2.2.1⟩,hk5,tL HW.o.2.2.2 (tK H4.o.2.2.2.2.2 hb5.size)⟩);have n2:¬((count:Int)<0):=by omega
      have n3:decide ((count:Int)<0)=false:=rY n2;clear hrd hb5 hs5 hd5 hk5;go_wp2_with fail
      go_roundw
      case rel=>exact⟨k+1,HC.o.2.2.2.2.1,Va (by first|rfl|exact m2),HE⟩
      case measure=>(first|exact Xw HC.o.2.2.2.2.1 rfl|(rw[m2];exact Xw HC.o.2.2.2.2.1 rfl))
    · obtain⟨hrl,b0,hb0,hsq⟩:=bEr hrp hj H4.o.1;have hslot:=HC.o.2.1.slot k HC.o.2.2.2.2.1;have hyok:aBh T ys:=hslot.t j ys x.bs hj hrl (by rw[←H4.o.1,rW,hx];rfl) hx2;have hsT:s≤(T:Int):=by rw[←hsq];exact hslot.s b0 hb0
      have hyl:ys.length≤12000:=by have:=hrp.le;have:=(rB.1 hx).1;have:=H4.o.2.2.2.2.1;omega
      by_cases hgt:(count:Int)<s
      · obtain⟨t,rfl⟩:∃t:Nat,s=(t:Int):=⟨s.toNat,by omega⟩
        obtain⟨w6,hw6⟩:=nC (((w5.setCell ⟨gs,5,none⟩ (.int .i64 (k:Int))).setCell ⟨gs,6,none⟩ u).setCell ⟨gs,7,none⟩ (.int .i64 (t:Int)));obtain⟨hs6,hk6⟩:=hs5.newer HC.o.2.2.2.2.1 hby hyl hw6;have f5:=hs5.bx.free 5;have f6:=(hs5.bx.set 5 (.int .i64 (k:Int))).free 6;have f7:=((hs5.bx.set 5 (.int .i64 (k:Int))).set 6 u).free 7;have g6:=(hs5.bx.set 5 (.int .i64 (k:Int))).cell (i:=6) (by simp);have g7:=((hs5.bx.set 5 (.int .i64 (k:Int))).set 6 u).cell (i:=7) (by simp);simp only[tD,tE,tI,tJ] at g6 g7;have HE:=hid (show Ut T w6 F gd ns∧SlP T w6 gd gs∧Kf F w w6∧gs<w6.heap.size from⟨⟨cs,hd5.ag (hk6.ag (fun b q r=>HS.o.2.1 (by have r:b=gs:=r;exact r▸q))),HC.o.1,HC.o.2.1⟩,⟨_,_,_,_,hs6,by omega,hyok⟩,hk5.trans hk6 (fun b q=>.inr (by have q:b=gs:=q;rw[q];exact HS.o.1)),hs6.bx.lt⟩);obtain⟨uA,uc,rfl⟩:=Xs hby.1;clear hrd hb5 hs5 hd5 hk5 hs6 hk6 hby hrp hx hx2 hrl hb0 hsq hyok hsT;go_wp2_with fail
        go_roundw
        case rel=>exact⟨k+1,HC.o.2.2.2.2.1,Va (by first|rfl|exact m2),HE⟩
        case measure=>(first|exact Xw HC.o.2.2.2.2.1 rfl|(rw[m2];exact Xw HC.o.2.2.2.2.1 rfl))
      · have n3:decide ((count:Int)<s)=false:=rY hgt;have HE:=hid (show Ut T w5 F gd ns∧SlP T w5 gd gs∧Kf F w w5∧gs<w5.heap.size from⟨⟨cs,hd5,HC.o.1,HC.o.2.1⟩,⟨_,_,_,_,hs5,HC.o.2.2.1,HC.o.2.2.2.1⟩,hk5,tL HW.o.2.2.2 (tK H4.o.2.2.2.2.2 hb5.size)⟩);obtain⟨uA,uc,rfl⟩:=Xs hby.1;clear hrd hb5 hs5 hd5 hk5 hby hrp hx hx2 hrl hb0 hsq hyok hsT;go_wp2_with fail
        go_roundw
        case rel=>exact⟨k+1,HC.o.2.2.2.2.1,Va (by first|rfl|exact m2),HE⟩
        case measure=>(first|exact Xw HC.o.2.2.2.2.1 rfl|(rw[m2];exact Xw HC.o.2.2.2.2.1 rfl))
  · obtain rfl:k=2:=by omega
    have n1:¬((2:Nat):Int)<2:=by omega
    have hfl:=aPq HW.o.1.l;go_wp2_with fail
    refine hfl.mono ?_;rintro e w4 ⟨rfl,hd4,hk4⟩;have HE:=nJ hd4 (HW.o.2.1.ag (F:=fun b=>b=gs) (hk4.ag (fun b q r=>HS.o.2.1 (by have q:b=gs:=q;exact q▸r))) rfl) HS.o.1 (tL HW.o.2.2.2 hk4.size) (HW.o.2.2.1.trans hk4 (fun b q=>.inl q));clear hd4 hk4 hfl;go_wp2_with fail
    go_ret2
    exact⟨gs,rfl,HE.o⟩
structure StZ (w:World) (B st mb s:Nat) (t z:Nat) (f:Int→Option Value):Prop where
 bx:Bk w st 159 [.int .i64 (t:Int),.map (some mb)]
 im:IM w prog 3 mb s f
 val:∀x v,f x=some v→∃A c bs,v=.slice A 40 c∧IsY w A 40 c bs
 rng:∀x,(f x).isSome=true→0≤x∧x<258
 g0:B≤st
 g1:B≤mb
 zero:z=0→∀x,f x=none
abbrev StX (w:World) (B st mb s:Nat) (t:Nat) (f:Int→Option Value):Prop:=StZ w B st mb s t t f
section
variable {w w' w9:World} {B st mb s t z:Nat} {f:Int→Option Value}
theorem StZ.ag (h:StZ w B st mb s t z f) (k:Ag (fun b=>b=st∨b=mb) w w'):StZ w' B st mb s t z f :=
 ⟨Bk.ag h.bx k (.inl rfl),h.im.ag k (.inr rfl),fun x v e=>by obtain⟨A,c,bs,e,hy⟩:=h.val x v e;exact⟨A,c,bs,e,hy.ag k⟩,h.rng,h.g0,h.g1,h.zero⟩
theorem StZ.next (h:StZ w B st mb s t z f) (k:nD w w'):StZ w' B st mb s t z f:=h.ag (.of_below k)
theorem StZ.kf (h:StZ w B st mb s t z f) {F:Xt} (k:Kf F w w') (hF:∀b,F b→b<B):StZ w' B st mb s t z f:=h.ag (k.ag fun b q r=>by have h1:=hF b r;have h2:=h.g0;have h3:=h.g1;rcases q with q|q<;>omega)
theorem StZ.size (h:StZ w B st mb s t z f):s≤258:=by
 obtain⟨ks,hk⟩:=aKf h.im Uy Ug;rw[←hk.len];exact aHx hk.up (fun x hx=>h.rng x ((hk.mem x (hk.wf x hx)).1 hx))
theorem StZ.put (h:StZ w B st mb s t z f) {x:Int} (hx:0≤x∧x<258) (ht:z≠0) (hb:nD w w') {A:Option Addr} {c:Nat} {bs:List Int} (hy:IsY w' A 40 c bs) (hi:IM w9 prog 3 mb (Uv s (f x)) (upd f x (some (.slice A 40 c)))) (hg:w'.grownBy w9 (some mb)) :
  StZ w9 B st mb (Uv s (f x)) t z (upd f x (some (.slice A 40 c)))∧Below B w' w9:=by
 have h':=h.next hb;have k:=aDa h'.im hg
 have hne:st≠mb:=fun e=>by
  obtain⟨es,cl,hm⟩:=h'.im.at_;have hb:=h'.bx;unfold Bk at hb;rw[e,hm] at hb;cases hb
 have y9:∀{C:Option Addr} {n d:Nat} {ys:List Int},IsY w' C n d ys→IsY w9 C n d ys:=fun q=>q.ag (F:=fun _=>False) (k.ag (fun _ q=>q.elim))
 refine⟨⟨Bk.ag (F:=fun b=>b=st) h'.bx (k.ag (fun b q r=>hne (by have q:b=st:=q;exact q.symm.trans r))) rfl,hi,fun y v e=>?_,fun y e=>?_,h.g0,h.g1,fun e=>absurd e ht⟩,k.below (fun b q=>by have q:b=mb:=q;rw[q];exact h.g1) (tK h.g0 (tU h'.bx.lt))⟩
 · by_cases q:y=x
   · subst q;rw[aAj] at e;exact⟨A,c,bs,(rT e).symm,y9 hy⟩
   · rw[aAd _ _ q] at e;obtain⟨C,d,ys,e,hz⟩:=h'.val y v e;exact⟨C,d,ys,e,y9 hz⟩
 · unfold upd at e;split at e
   · next q=>rw[q];exact hx
   · exact h.rng y e
theorem StZ.time (h:StZ w B st mb s t z f) {u:Nat} (e:w.setCell ⟨st,0,none⟩ (.int .i64 (u:Int))=w9):StZ w9 B st mb s u z f∧Kf (fun b=>b=st) w w9:=by
 have hb:=h.bx.set 0 (.int .i64 (u:Int));have k:Kf (fun b=>b=st) w w9:=by rw[←e];exact(Kf.refl (fun b=>b=st) w).set h.bx (by decide) (.inl rfl) 0 _
 have hne:mb≠st:=fun e=>by
  obtain⟨es,cl,hm⟩:=h.im.at_;have hb:=h.bx;unfold Bk at hb;rw[←e,hm] at hb;cases hb
 rw[e] at hb;exact⟨⟨hb,h.im.ag (F:=fun b=>b=mb) (k.ag (fun b q r=>hne (by have q:b=mb:=q;exact q.symm.trans r))) rfl,fun x v e=>by obtain⟨A,c,bs,e,hy⟩:=h.val x v e;exact⟨A,c,bs,e,hy.ag (F:=fun _=>False) (k.ag (fun _ q=>q.elim))⟩,h.rng,h.g0,h.g1,h.zero⟩,k⟩
theorem StZ.up (h:StZ w B st mb s t z f) {z':Nat} (hz:z'=0→z=0):StZ w B st mb s t z' f:=⟨h.bx,h.im,h.val,h.rng,h.g0,h.g1,fun q=>h.zero (hz q)⟩
end
theorem IsY.from_ {w:World} {ad:Addr} {n c:Nat} {bs:List Int} (h:IsY w (some ad) n c bs) {j:Nat} (hj:j≤n) {A':Option Addr} (hA:A'=if c=j then some ad else some (ad.add j)):IsY w A' (n - j) (c - j) (bs.drop j):=by
 subst hA;have hl:=h.b.len;have hcap:=h.b.cap;refine⟨⟨by rw[rN];omega,?_,fun x hx=>h.b.wf x (rS hx),by omega,by have:=h.b.big;omega⟩,fun ad' e hn=>?_⟩
 · have hd:=(h.b.rd).drop (k:=j) (c:=c) (n:=n) (by rw[rU];omega) hj hcap;rw[List.map_drop];exact hd
 · rw[if_neg (by omega)] at e;injection e with e;subst e;obtain⟨ob,ho,hd⟩:=h.y ad rfl (by omega);exact⟨ob,by rw[aAk];exact ho,hd⟩
def bHb:Value→Nat
 | .slice _ n _=>n
 | _=>0
theorem bEo {L N:Nat} (h:L=8+44*N) (hL:L≤20000):wrap64 (((L:Nat):Int).tmod 44)=8∧((L:Nat):Int).tmod 44=8∧IntKind.i64.wrap (((L:Nat):Int).tmod 44)=8:=by
 have e:((L:Nat):Int).tmod 44=8:=by
  rw[Int.tmod_eq_emod_of_nonneg (by omega)];omega
 rw[e];exact⟨by unfold wrap64;omega,rfl,IntWalk.i64_in _ (by omega)⟩
theorem aVe {x:Int} (h:0≤x∧x<258):Un x∧IntKind.i64.wrap x=x∧wrap64 x=x:=⟨aDt (by omega) (by omega),IntWalk.i64_in _ (by omega),by unfold wrap64;omega⟩
theorem aWu {bs:List Int} {k:Nat} (hw:∀x∈bs,0≤x∧x<256):0≤Um ((bs.drop k).take 4):=(aCe (bs:=bs.drop k) (fun x hx=>hw x (rS hx)) 4).1
theorem aZy (T:Nat) (A:Option Addr) (L cp:Nat) (bs:List Int) (w:World) (h:IsY w A L cp bs) (hok:aBh T bs) (hL:L≤20000) (hT:T≤100000) :
  Calls prog 75 #[.slice A L cp] w fun e w'=>(∃st mb s t f,e=.returned (.tuple #[.pointer (some ⟨st,0,none⟩),.bool true])∧StX w' w.heap.size st mb s t f∧t≤T)∧nD w w':=by
 have hmm:=@run_makeMap prog;obtain⟨w1,hw1⟩:=nC (w.alloc (.map #[] 0));obtain⟨w2,hw2⟩:=nC (w1.alloc (.cells #[.int .i64 0,.map (some w.heap.size)] 159));have hb1:nD w w1:=by rw[←hw1];exact nB.alloc lR _
 have hb2:nD w1 w2:=by rw[←hw2];exact nB.alloc lR _
 have hB2:Bk w2 w1.heap.size 159 [.int .i64 0,.map (some w.heap.size)]:=by rw[←hw2];exact Bk.new w1 _ _
 have hi1:IM w1 prog 3 w.heap.size 0 (fun _=>none):=by rw[←hw1];exact IM.made w _ _
 have hX:=hid (show StX w2 w.heap.size w1.heap.size w.heap.size 0 0 (fun _=>none) from⟨hB2,hi1.next hb2,(fun x v e=>by cases e),(fun x e=>by cases e),hb1.size,lR,fun _ _=>rfl⟩);have HB:=hid (hb1.trans (hb2.mono hb1.size));have HY:=nH h hT hL;have hlen:=h.b.len;rcases hok with hnil|⟨N,hg⟩
 · have h0:L=0:=by rw[←hlen,hnil];rfl
   subst h0;clear h hnil hlen hB2 hi1 hb1 hb2;go_enter func75,ntmps75
   go_wp2_with fail
   go_ret2
   exact⟨⟨_,_,_,_,_,rfl,hX.out,zL⟩,HB.o⟩
 · have hLN:L=8+44*N:=by rw[←hlen];exact hg.len
   obtain⟨ad,eA,-⟩:=h.b.rd.get (k:=0) (by rw[rU,hlen];omega);subst eA;have g64:=aHm (some ad) L cp bs w2 (h.ag (F:=fun _=>False) (.of_below HB.o)).b (by omega);have hv0:=(aCe (bs:=bs) h.b.wf 8).1;obtain⟨t,ht⟩:∃t:Nat,Um (bs.take 8)=(t:Int):=⟨(Um (bs.take 8)).toNat,by omega⟩
   have htT:t≤T:=by have:=hg.last;rw[ht] at this;exact Int.ofNat_le.1 this
   have hpos:0<N→t≠0:=fun q e=>by have:=hg.pos q;rw[ht,e] at this;exact absurd this (by decide)
   rw[ht] at g64;have n0:¬((L:Int)=0):=by omega
   have n1:((L:Int)==0)=false:=by simp;omega
   have n2:decide ((1099511627776:Int)<(t:Int))=false:=rY (by omega);obtain⟨m1,m2,m3⟩:=bEo hLN hL;obtain⟨w3,hw3⟩:=nC (w2.setCell ⟨w1.heap.size,0,none⟩ (.int .i64 (t:Int)));obtain⟨hX3',hk3⟩:=hX.out.time (u:=t) hw3;have hX3:=hX3'.up (z':=t) (fun _=>rfl);have H3:=hid (show StX w3 w.heap.size w1.heap.size w.heap.size 0 t (fun _=>none)∧nD w w3 from⟨hX3,HB.o.trans (hk3.below (fun b q=>by have q:b=w1.heap.size:=q;rw[q];exact hb1.size) HB.o.size)⟩);have HG:=nI hg hpos htT hLN;have f20:=hB2.free 0;have jQ:=hB2.cell (i:=0) (by simp);simp only[tI] at jQ;have n8:8≤L:=by omega
   have hcp:=h.b.cap;have hbig:=h.b.big;have hml:maxLen≤9223372036854775807:=by decide
   have p1:IntKind.i64.wrap (t:Int)=(t:Int):=IntWalk.i64_in _ (by omega);have p2:wrap64 (t:Int)=(t:Int):=by unfold wrap64;omega
   clear h hlen hB2 hi1 hb1 hb2 hg hv0 ht hX3 hX3' hk3 hLN hpos htT;go_enter func75,ntmps75
   have HL8:=hid (show L - 8=44*(N - 0) by have:=HG.o.2.2.2;omega);have HCP:=hid hcp;rcases(Nat.eq_or_lt_of_le (tK n8 hcp):8=cp∨8<cp) with rfl|hgt
   rotate_left;have hc8:¬cp=8:=Nat.ne_of_gt hgt;clear hgt
   all_goals
    go_wp2_with fail
    refine g64.mono ?_;rintro e w' ⟨rfl,rfl⟩;clear g64;go_wp2_with fail
    clear n0 n1 n2 m1 m2 m3 n8 hcp hbig hml p1 p2 f20 jQ;go_loopw [7] (fun lv wr=>∃(k s:Nat) (f:Int→Option Value) (A':Option Addr) (c':Nat),k≤N∧lv=.slice A' (44*(N - k)) c'∧Hid (IsY wr A' (44*(N - k)) c' (bs.drop (8+44*k))∧StX wr w.heap.size w1.heap.size w.heap.size s t f∧nD w wr)) (fun lv _=>bHb lv)
    case atStart =>
     refine⟨0,0,fun _=>none,_,_,zL,congrArg (fun n=>Value.slice _ n _) (by have h1:=HL8.o;have h2:=HCP.o;have h3:=HG.o.2.2.2;omega),hid ⟨?_,H3.o.1,H3.o.2⟩⟩;have hz:=(HY.o.1.ag (F:=fun _=>False) (.of_below H3.o.2)).from_ (j:=8) (by have:=HG.o.2.2.2;omega) rfl;rw[HL8.o] at hz;first|exact hz|(rw[if_neg hc8] at hz;exact hz)
    case round =>
     obtain⟨k,s,f,A',c',hk,rfl,HW⟩:=hrel;obtain⟨m,hm⟩:=nC (44*(N - k));rw[hm] at HW ⊢;rcases tN k N with hlt|hge
     · have hm44:44≤m:=by omega
       obtain⟨ad2,eA2,-⟩:=HW.o.1.b.rd.get (k:=0) (by rw[rU,HW.o.1.b.len];omega);subst eA2;have hcc:=HW.o.1.b.cap;have hcb:=HW.o.1.b.big;have hml:maxLen≤9223372036854775807:=by decide
       have g32:=aHl (some ad2) m c' (bs.drop (8+44*k)) wr HW.o.1.b (by omega);obtain⟨v,hv⟩:=nC (Um ((bs.drop (8+44*k)).take 4));have hv1:0≤v∧v<258:=⟨by rw[←hv];exact aWu HY.o.1.b.wf,by rw[←hv];exact HG.o.1.lba k hlt⟩;rw[hv] at g32;obtain⟨hvw,hv2,hv3⟩:=aVe hv1;have n4:¬c'=4:=by omega
       have n44:(44:Int)≤(c':Int):=by omega
       have n45:(44:Int)≤(m:Int):=by omega
       have n0:(0:Int)<(m:Int):=by omega
       have HK:=nJ hlt hm hv1 (HG.o.2.1 (by omega)) hm44;have hyS:=HW.o.1.sub (i:=4) (j:=44) (by decide) hm44 (by omega);have HS:=hid hyS;have KK:=hid (fun (w':World) (hS:nD wr w')=>(HW.o.2.1.next hS).bx.cell (i:=1) (by simp));simp only[tI,tJ] at KK;clear hv hv1 hyS hlt hm hk;go_wp2_with fail
       refine g32.mono ?_;rintro e w' ⟨rfl,rfl⟩;clear g32;go_wp2_with fail
       have Kq:=KK;refine aAn (fun w'=>nD wr w') 8 (by kernel_rfl) (Xu nB) (fun nE=>?_);refine kL 0 ?_;refine kL 1 ?_;refine kL 2 ?_;refine kL 3 ?_;refine kL 4 ?_;refine kL 5 ?_;refine kL 6 ?_;refine kL 7 ?_;refine rL 8 (fun K hK=>?_);refine aDc _ _ _ _ 157 rfl 3 41 Uy Ug aGz w.heap.size s f (by rfl) (by exact(HW.o.2.1.next nE).im) (by have:=HW.o.2.1.size;omega) v (.slice (some ⟨ad2.block,ad2.off+4,none⟩) 40 (c' - 4)) (by rfl) (by rfl) hvw ?_;intro w9 hI9 hG9;have HP:=hid (HW.o.2.1.put HK.o.2.2.1 HK.o.2.2.2.1 nE (HS.o.ag (F:=fun _=>False) (.of_below nE)) hI9 hG9);have HB9:=hid (HW.o.2.2.trans (nE.mono HW.o.2.2.size));have HAG:=hid ((Ag.of_below (F:=fun _=>False) nE).trans ((aDa (HW.o.2.1.next nE).im hG9).ag (F:=fun _=>False) (fun _ q=>q.elim)));clear hI9 hG9;try go_simp
       refine hK.out _ _ (fun h=>absurd rfl h) ?_;clear hK K;try simp only[Act.put,tC,tD,tE]
       refine aAz (by kernel_rfl) ?_ _;clear Kq;go_wp2_with fail
       refine⟨⟨k+1,_,_,_,_,HK.o.1,congrArg (fun n=>Value.slice _ n _) (show m - 44=44*(N - (k+1)) by have:=HK.o;omega),hid ⟨?_,HP.o.1,HB9.o.trans HP.o.2⟩⟩,?_⟩
       · have hz:=(HW.o.1.ag HAG.o).from_ (j:=44) HK.o.2.2.2.2 rfl;rw[List.drop_drop] at hz;rw[show 44*(N - (k+1))=m - 44 by have:=HK.o;omega,show 8+44*(k+1)=8+44*k+44 by omega];exact hz
       · show m - 44<m
         have:=HK.o.2.2.2.2;omega
     · obtain rfl:k=N:=tQ hk hge;have m0:m=0:=by omega
       subst m0;have HE:=nF HW.o.2.1 HW.o.2.2;go_wp2_with fail
       go_ret2
       exact⟨⟨_,_,_,_,_,rfl,HE.o.1,HG.o.2.2.1⟩,HE.o.2⟩
structure LgX (w wr:World) (F:Xt) (gd:Nat) (cs:List (List (List Int))) (gf:Bool) (ov:Value) (xs:List BR):Prop where
 dev:Ul wr F gd cs gf
 kf:Kf F w wr
 row:Ux wr w.heap.size ov xs
section
variable {w wr w9 w':World} {F:Xt} {gd:Nat} {cs:List (List (List Int))} {gf:Bool} {ov v':Value} {xs:List BR}
theorem LgX.kfs (h:LgX w wr F gd cs gf ov xs) (hI:In w F) (hd:Ul w9 F gd cs gf) (k:Kf F wr w9):LgX w w9 F gd cs gf ov xs :=
 ⟨hd,h.kf.trans k (fun b q=>.inl q),h.row.kf (w0:=w) k hI⟩
theorem LgX.push (h:LgX w w9 F gd cs gf ov xs) (hI:In w F) (hb:nD w9 wr) {A:Option Addr} {cp:Nat} {ys:List Int} (hy:IsY w9 A 64 cp ys) (hO:w'.ownsRow w.heap.size 41 1 v' (xs.length+1) (xs.map BR.cell++[.slice A 64 cp])) (hG:wr.grownBy w' ov.ownBlock):LgX w w' F gd cs gf v' (xs++[⟨A,cp,ys⟩]):=by
 have hrow:=Vg h.row.own hb;have ge:∀g,ov.ownBlock=some g→w.heap.size≤g:=fun g e=>Xv hrow e
 have agF:Ag F wr w':=Ag.grown hrow (by decide) hG (fun b e r=>by have:=ge b e;have:=hI b r;omega);have ag0:Ag (fun _=>False) wr w':=Ag.grown hrow (by decide) hG (fun _ _ q=>q);refine⟨(h.dev.ag (.of_below hb)).ag agF,(h.kf.next hb).grown hrow hG (fun g e=>.inr (ge g e)),⟨by rw[rH,rI];exact hO,fun x hx=>?_⟩⟩;rcases rE.1 hx with s|s
 · exact((h.row.y x s).ag (F:=fun _=>False) (.of_below hb)).ag ag0
 · obtain rfl:x=_:=by simpa using s
   exact(hy.ag (F:=fun _=>False) (.of_below hb)).ag ag0
end
def aEi (cs:List (List (List Int))) (z:Nat):List (List Int):=((cs.drop 6).take (z - 6)).flatten
theorem aDy {cs:List (List (List Int))} {z:Nat} {c:List (List Int)} (hz:6≤z) (hc:cs[z]? =some c):aEi cs (z+1)=aEi cs z++c:=by
 unfold aEi
 rw[show z+1 - 6=(z - 6)+1 by omega,List.take_add_one,List.getElem?_drop,show 6+(z - 6)=z by omega,hc,List.flatten_append];simp
theorem bDu {p n:Nat} (h:n=zc p 0) (hp:p≤192):(n<96→zc p 1=0):=by
 intro q;subst h;unfold zc at *;omega
theorem bFg (F:Xt) (sb gd p:Nat) (cs:List (List (List Int))) (gf:Bool) (w:World) (hd:Ul w F gd cs gf) (hI:In w F) (h6:(cs.map List.length)[6]? =some (zc p 0)) (h7:(cs.map List.length)[7]? =some (zc p 1)) (hp:p≤192)
  (hc:∀w',Kf F w w'→w'.cell? ⟨sb,0,none⟩=some (.pointer (some ⟨gd,0,none⟩))∧w'.cell? ⟨sb,3,none⟩=some (.int .i64 6)∧w'.cell? ⟨sb,4,none⟩=some (.int .i64 7)) :
  Calls prog 76 #[.pointer (some ⟨sb,0,none⟩)] w fun e w'=>∃v xs,e=.returned (.tuple #[v,.slice none 0 0])∧LgX w w' F gd cs gf v xs∧xs.map BR.bs=aEi cs 8:=by
 obtain⟨xi,xz,hxi,hxz,hx5,hx56,hxc⟩:=aFw;obtain⟨c0,c3,c4⟩:=hc w (Kf.refl _ _);have hgeo:=aOc hd.dev;have HC:=hid hc;obtain⟨q6,hq6,e6⟩:=aDz h6;obtain⟨q7,hq7,e7⟩:=aDz h7
 have HZ:=hid (fun (z:Nat) (h1:6≤z) (h2:z<8)=>(show ∃c,cs[z]? =some c∧(z=6→c.length=zc p 0)∧(z=7→c.length=zc p 1) from by
  rcases(by omega:z=6∨z=7) with rfl|rfl
  · exact⟨q6,hq6,fun _=>e6,fun q=>absurd q (by decide)⟩
  · exact⟨q7,hq7,fun q=>absurd q (by decide),fun _=>e7⟩))
 have HI:=nF hI hp
 have HZL:=hid (fun (z:Nat) (hz:z<8)=>(show (aEi cs z).length≤192 from by
  rcases(by omega:z≤6∨z=7) with h|rfl
  · unfold aEi
    rw[Nat.sub_eq_zero_of_le h];simp
  · rw[show (7:Nat)=6+1 from rfl,aDy (Nat.le_refl 6) hq6];have:=hd.mx hq6;rw[rH];have h0:aEi cs 6=[]:=by unfold aEi;simp
    rw[h0,List.length_nil];omega))
 have HD:=hid hd;clear hd h6 h7 hc hI hp hq6 e6 hq7 e7;go_enter func76,ntmps76
 go_wp2_with fail
 refine hgeo.mono ?_;rintro e w1 ⟨rfl,hb1⟩;have hgs:=aLs w1;have H1:=hid (show LgX w w1 F gd cs gf (.slice none 0 0) [] from⟨HD.o.ag (.of_below hb1),.of_below hb1,⟨World.ownsRow_nil _ _ _ _,by simp⟩⟩);clear hgeo c0 c3 c4;obtain⟨c0,c3,c4⟩:=HC.o w1 (.of_below hb1);clear hb1;go_wp2_with fail
 go_loopw [2,3,5,6] (fun ov bv gv zv wr=>bv=.slice none 0 0∧∃(z:Nat) (b:Bool) (xs:List BR),6≤z∧z≤8∧zv=.int .i64 (z:Int)∧gv=.bool b∧Hid (LgX w wr F gd cs gf ov xs∧xs.map BR.bs=aEi cs z∧(b=true→z=7→zc p 1=0)∧(z=6→b=false))) (fun _ _ _ zv _=>8 - (intOf zv).toNat)
 case atStart=>exact⟨rfl,6,false,[],lR,by decide,rfl,rfl,hid ⟨H1.o,rfl,(fun q=>by cases q),fun _=>rfl⟩⟩
 case round =>
  obtain⟨rfl,z,b,xs,hz6,hz8,rfl,rfl,HW⟩:=hrel;clear c0 c3 c4;obtain⟨c0,c3,c4⟩:=HC.o wr HW.o.1.kf;rcases tN z 8 with hlt|hge
  · obtain⟨n1,m2⟩:=aUc hlt;obtain⟨c,hcz,hz60,hz71⟩:=HZ.o z hz6 hlt;have hp:=aFy HW.o.1.dev hcz;have hmx:=HW.o.1.dev.mx hcz;have HK:=nK hz6 hlt hcz hz60 hz71 hmx;clear hz6 hz8 hlt hcz hz60 hz71 hmx;go_wp2_with fail
    go_step3;go_wp2_with fail
    refine hp.mono ?_;rintro e w' ⟨rfl,rfl⟩;clear hp;go_wp2_with fail
    go_step3;go_wp2_with fail
    go_loopw [2,3,42] (fun ov2 bv2 iv wr2=>bv2=.slice none 0 0∧∃(j:Nat) (ys:List BR),j≤c.length∧iv=.int .i64 (j:Int)∧Hid (LgX w wr2 F gd cs gf ov2 ys∧ys.map BR.bs=aEi cs z++c.take j)) (fun _ _ iv _=>c.length - (intOf iv).toNat)
    case atStart=>exact⟨rfl,0,xs,zL,rfl,hid ⟨HW.o.1,by rw[List.take_zero,List.append_nil];exact HW.o.2.1⟩⟩
    case round =>
     obtain⟨rfl,j,ys,hj,rfl,HV⟩:=hrel;clear c0 c3 c4;obtain⟨c0,c3,c4⟩:=HC.o wr HV.o.1.kf;rcases tN j c.length with hlt|hge
     · obtain rfl:b=false:=by
        cases b with
        | false=>rfl
        | true =>
          have h7:z=7:=by
           rcases(by have:=HK.o;omega:z=6∨z=7) with e|e
           · have:=HW.o.2.2.2 e;cases this
           · exact e
          have:=HK.o.2.2.2.2.1 h7;have:=HW.o.2.2.1 rfl h7;omega
       obtain⟨bk,hbk⟩:∃bk,c[j]? =some bk:=⟨_,tX hlt⟩
       have hdr:=aPk HV.o.1.dev HK.o.2.2.1 hbk;obtain⟨n2,n3,m3⟩:=aFv hlt (by have:=HK.o.2.2.2.2.2;omega);obtain⟨vA,vc,rfl⟩:=Xs HV.o.1.row.own
       have hy5:ys.length≤1000000:=by
        have h1:=congrArg List.length HV.o.2;rw[rU,rH,rJ] at h1;have h2:=HZL.o z HK.o.2.1;have:=HK.o.2.2.2.2.2;omega
       have HE:=nF hlt (show ys.map BR.bs++[bk]=aEi cs z++c.take (j+1) by rw[HV.o.2,List.append_assoc,List.take_add_one,hbk];rfl);clear hlt hbk hj;go_wp2_with fail
       refine hdr.mono ?_;rintro e w3 ⟨A,cp,rfl,hyA,hd3,hk3⟩;have hX3:=HV.o.1.kfs HI.o.1 hd3 hk3;obtain⟨wD,hwD⟩:=nC (w3.alloc (.cells #[.slice A 64 cp] 41));have hBD:Bk wD w3.heap.size 41 [.slice A 64 cp]:=by rw[←hwD];exact Bk.new w3 _ _
       have hbD:nD w3 wD:=by rw[←hwD];exact nB.alloc lR _
       have HD3:=nJ hBD hX3 hbD hyA (Vg hX3.row.own hbD);clear hdr hX3 hd3 hk3 hBD hbD hyA;go_wp2_with (at_builtin;go_must (refine aAc _ rfl _ _ 133 rfl w.heap.size 41 xi xz 1 24 underlying133 hxi hxz hx5 hx56 hxc (by decide) _ _ _ (by rfl) (by exact HD3.o.2.2.2.2) _ [.slice A 64 cp] (by rfl) (by exact HD3.o.1) rfl (by intro u hu;simp at hu;rcases hu with rfl<;>rfl) (by exact hy5) (by decide) (by exact tK HD3.o.2.1.kf.size HD3.o.2.2.1.size) ?_);intro v9 w9 hO9 hG9 hv9;obtain⟨sA,sc9,rfl⟩:=Xs hO9)
       have hG9':wD.grownBy w9 (Value.slice vA ys.length vc).ownBlock:=hG9;have HP:=hid (LgX.push HD3.o.2.1 HI.o.1 HD3.o.2.2.1 HD3.o.2.2.2.1 hO9 hG9');clear hO9 hG9 hG9' hv9;(try go_wp2_with fail)
       (try simp only[Exit.noGoto,Exit.inBlock,Exit.then])
       (try go_wp2_with fail)
       go_roundw
       case rel=>exact⟨by first|trivial|rfl,j+1,_,HE.o.1,Va (by first|rfl|exact m3),hid ⟨HP.o,by rw[rI];exact HE.o.2⟩⟩
       case measure=>(first|exact Xw HE.o.1 rfl|(rw[m3];exact Xw HE.o.1 rfl))
     · obtain rfl:j=c.length:=tQ hj hge;have n2:¬(c.length:Int)<(c.length:Int):=Int.lt_irrefl _;have HE:=hid (show ys.map BR.bs=aEi cs (z+1) by rw[aDy HK.o.1 HK.o.2.2.1];have h:=HV.o.2;rwa [List.take_length] at h);have HG:=hid (fun (q:c.length<96) (h7:z+1=7)=>bDu (HK.o.2.2.2.1 (by omega)) HI.o.2 q);by_cases h96:c.length<96
       · have n3:(c.length:Int)<96:=by omega
         have n4:decide ((c.length:Int)<96)=true:=rZ n3;have HF:=hid h96;clear h96 hge hj
         cases b with
         | true =>
           go_wp2_with fail
           (try simp only[Exit.noGoto,Exit.inBlock,Exit.then])
           (try go_wp2_with fail)
           go_roundw
           case rel=>exact⟨by first|trivial|rfl,z+1,true,ys,tM HK.o.1,HK.o.2.1,Va (by first|rfl|exact m2),rfl,hid ⟨HV.o.1,HE.o,fun _ h7=>HG.o HF.o h7,fun q=>absurd q (by have:=HK.o.1;omega)⟩⟩
           case measure=>exact Xw (x:=(z:Int)+1) HK.o.2.1 rfl
         | false =>
           go_wp2_with fail
           (try simp only[Exit.noGoto,Exit.inBlock,Exit.then])
           (try go_wp2_with fail)
           go_roundw
           case rel=>exact⟨by first|trivial|rfl,z+1,true,ys,tM HK.o.1,HK.o.2.1,Va (by first|rfl|exact m2),rfl,hid ⟨HV.o.1,HE.o,fun _ h7=>HG.o HF.o h7,fun q=>absurd q (by have:=HK.o.1;omega)⟩⟩
           case measure=>exact Xw (x:=(z:Int)+1) HK.o.2.1 rfl
       · have n3:¬(c.length:Int)<96:=by omega
         have n4:decide ((c.length:Int)<96)=false:=rY n3;clear h96 hge hj
         cases b with
         | true =>
           go_wp2_with fail
           (try simp only[Exit.noGoto,Exit.inBlock,Exit.then])
           (try go_wp2_with fail)
           go_roundw
           case rel=>exact⟨by first|trivial|rfl,z+1,true,ys,tM HK.o.1,HK.o.2.1,Va (by first|rfl|exact m2),rfl,hid ⟨HV.o.1,HE.o,(fun _ h7=>by have:=HW.o.2.2.2 (by omega);cases this),fun q=>absurd q (by have:=HK.o.1;omega)⟩⟩
           case measure=>exact Xw (x:=(z:Int)+1) HK.o.2.1 rfl
         | false =>
           go_wp2_with fail
           (try simp only[Exit.noGoto,Exit.inBlock,Exit.then])
           (try go_wp2_with fail)
           go_roundw
           case rel=>exact⟨by first|trivial|rfl,z+1,false,ys,tM HK.o.1,HK.o.2.1,Va (by first|rfl|exact m2),rfl,hid ⟨HV.o.1,HE.o,(fun q=>by cases q),fun _=>rfl⟩⟩
           case measure=>exact Xw (x:=(z:Int)+1) HK.o.2.1 rfl
  · obtain rfl:z=8:=tQ hz8 hge;have n1:¬((8:Nat):Int)≤7:=by decide
    obtain⟨oA,oc,rfl⟩:=Xs HW.o.1.row.own;go_wp2_with fail
    go_ret2
    exact⟨_,rfl,xs,HW.o.1,HW.o.2.1⟩
structure aCk (w:World) (A:Option Addr) (n c:Nat) (xs:List BR):Prop where
 rd:Rd w w.heap.size A (xs.map BR.cell)
 len:xs.length=n
 y:∀x∈xs,IsY w x.A 64 x.c x.bs
 cap:n≤c
 big:c≤maxLen
 sm:n≤1000
theorem aCk.next {w w':World} {A:Option Addr} {n c:Nat} {xs:List BR} (h:aCk w A n c xs) (k:nD w w'):aCk w' A n c xs :=
 ⟨(h.rd.next lR k).more k.size,h.len,fun x hx=>(h.y x hx).ag (F:=fun _=>False) (.of_below k),h.cap,h.big,h.sm⟩
theorem aSi {fn:Func} {p q u:Tmp} {ty:TypeId} (h:fn.results=#[.tmp q,.cell p ty,.tmp u]) (tmps:Array Value) (P:Program) (w:World) :
  (results fn tmps).run P w=((asAddr (tmps.getD p undef)).run P w).andThen fun a w₁ =>((loadVar ty a).run P w₁).andThen fun v w₂ =>.ok (.tuple #[tmps.getD q undef,v,tmps.getD u undef]) w₂ :=by
 simp only[results,h];simp[Sem.run_bind,Result.andThen]
theorem aCz {fn:Func} {p q u:Tmp} (h:fn.results=#[.tmp q,.cell p 258,.tmp u]) (tmps:Array Value) (w:World) (g:Nat) (cs:List Value) (hp:tmps.getD p undef=.pointer (some ⟨g,0,none⟩)) (hg:Bk w g 258 cs) (hl:cs.length=5:=by rfl) :
  (results fn tmps).run prog w=.ok (.tuple #[tmps.getD q undef,.agg cs.toArray,tmps.getD u undef]) w:=by
 rw[aSi h,hp];simp[asAddr,run_loadVar_row w g 258 258 cs.toArray (0,0) _ hg underlying258 rfl (by rw[aPs];simp[hl]),Result.andThen]
def aTf (T:Nat) (kd:Int) (bs:List Int):Prop:=kd=2→∀m,bs.length=9+3*m→Uw bs m≤(T:Int)
def PsG (w:World) (ps:List Vd):Prop:=∀p∈ps,IsY w p.A p.n p.c p.bs∧0≤p.lba∧p.lba<258∧p.n=40
theorem PsG.ag {w w':World} {F:Xt} {ps:List Vd} (h:PsG w ps) (k:Ag F w w'):PsG w' ps:=fun p hp=>⟨(h p hp).1.ag k,(h p hp).2⟩
structure RoX (w wr:World) (g3 g5 k:Nat) (pv:Value) (ps:List Vd):Prop where
 own:wr.ownsRow w.heap.size 50 2 pv ps.length (ps.flatMap Vd.cells)
 y:PsG wr ps
 len:ps.length=k
 bel:nD w wr
 b3:Bk wr g3 258 [.int .i64 0,.int .i64 0,.int .i64 0,.int .i64 0,.slice none 0 0]
 b5:∃(a b c d:Int) (v:Value),Bk wr g5 258 [.int .i64 a,.int .i64 b,.int .i64 c,.int .i64 d,v]
structure RoE (w wr:World) (g3:Nat) (pv:Value) (ps:List Vd) (v0 v1 v2 v3 v4:Value):Prop where
 own:wr.ownsRow w.heap.size 50 2 pv ps.length (ps.flatMap Vd.cells)
 y:PsG wr ps
 bel:nD w wr
 b3:Bk wr g3 258 [v0,v1,v2,v3,v4]
section
variable {w wr w9:World} {g3 g5 k:Nat} {pv v0 v1 v2 v3 v4 u0 u1 u2 u3 u4:Value} {ps:List Vd} {a b c d:Int}
theorem aFx {B e s n g:Nat} {v:Value} {xs:List Value} {cs:List Value} {t:Nat} (h:wr.ownsRow B e s v n xs) (hg:Bk wr g t cs) (ht:e≠t) (k:Kf (fun b=>b=g) wr w9):w9.ownsRow B e s v n xs :=
 Vj (F:=fun b=>b≠g) h (k.ag (fun b q r=>q r)) (fun b q r=>Vc h hg ht (by rw[q,r]))
theorem RoX.next (h:RoX w wr g3 g5 k pv ps) (hb:nD wr w9):RoX w w9 g3 g5 k pv ps:=by
 obtain⟨a,b,c,d,v,h5⟩:=h.b5;exact⟨Vg h.own hb,h.y.ag (F:=fun _=>False) (.of_below hb),h.len,h.bel.trans (hb.mono h.bel.size),h.b3.next hb h.b3.lt,a,b,c,d,v,h5.next hb h5.lt⟩
theorem RoX.first (h:RoX w wr g3 g5 k pv ps) {a' b' c' d':Int} {v':Value} (hb:Bk wr g5 258 [.int .i64 a',.int .i64 b',.int .i64 c',.int .i64 d',v']) (hg:w.heap.size≤g5) (hn:g3≠g5) (e:W5 wr g5 (.int .i64 a) (.int .i64 b) (.int .i64 c) (.int .i64 d) v4=w9):RoX w w9 g3 g5 k pv ps :=
 ⟨aFx h.own hb (by decide) (Vf hb (by decide) e),h.y.ag (F:=fun _=>False) ((Vf hb (by decide) e).ag (fun _ q=>q.elim)),h.len,aAo h.bel hg e,aGo h.b3 hn e,a,b,c,d,v4,Vb hb e⟩
theorem RoX.e (h:RoX w wr g3 g5 k pv ps):RoE w wr g3 pv ps (.int .i64 0) (.int .i64 0) (.int .i64 0) (.int .i64 0) (.slice none 0 0):=⟨h.own,h.y,h.bel,h.b3⟩
theorem RoE.store (h:RoE w wr g3 pv ps u0 u1 u2 u3 u4) (hg:w.heap.size≤g3) (e:W5 wr g3 v0 v1 v2 v3 v4=w9):RoE w w9 g3 pv ps v0 v1 v2 v3 v4 :=
 ⟨aFx h.own h.b3 (by decide) (Vf h.b3 (by decide) e),h.y.ag (F:=fun _=>False) ((Vf h.b3 (by decide) e).ag (fun _ q=>q.elim)),aAo h.bel hg e,Vb h.b3 e⟩
theorem RoE.drew (h:RoE w wr g3 pv ps v0 v1 v2 v3 v4):RoE w wr.drew g3 pv ps v0 v1 v2 v3 v4 :=
 ⟨Vg h.own (Xu nB),h.y.ag (F:=fun _=>False) (.of_below (Xu nB)),h.bel.trans ((Xu nB).mono h.bel.size),h.b3.drew⟩
theorem RoX.push (h:RoX w wr g3 g5 k pv ps) {wD w':World} {v':Value} (hb:nD wr wD) (hO:w'.ownsRow w.heap.size 50 2 v' (ps.length+1) (ps.flatMap Vd.cells++u0::u1::[])) (hG:wD.grownBy w' pv.ownBlock) {x:Vd} (hu:x.cells=[u0,u1]) (hx:IsY wr x.A x.n x.c x.bs∧0≤x.lba∧x.lba<258∧x.n=40):RoX w w' g3 g5 (k+1) v' (ps++[x]):=by
 have h9:=h.next hb
 have ag:∀{g:Nat},(∃cs,Bk wD g 258 cs)→Ag (fun b=>b=g) wD w':=fun hg=>Ag.grown h9.own (by decide) hG (fun b e r=>by
  obtain⟨cs,hg⟩:=hg;exact Vc h9.own hg (by decide) (by have r:b=_:=r;rw[←r];exact e))
 have ag0:Ag (fun _=>False) wD w':=Ag.grown h9.own (by decide) hG (fun _ _ q=>q);obtain⟨a,b,c,d,v,h5⟩:=h9.b5;refine⟨by rw[rH,rX];simpa [hu] using hO,fun p hp=>?_,by rw[rH,h.len];rfl,h9.bel.grown hG h9.bel.size (fun g e=>Xv h9.own e),Bk.ag (F:=fun b=>b=g3) h9.b3 (ag ⟨_,h9.b3⟩) rfl,a,b,c,d,v,Bk.ag (F:=fun b=>b=g5) h5 (ag ⟨_,h5⟩) rfl⟩;rcases rE.1 hp with q|q
 · exact⟨(h9.y p q).1.ag ag0,(h9.y p q).2⟩
 · obtain rfl:p=x:=by simpa using q
   exact⟨(hx.1.ag (F:=fun _=>False) (.of_below hb)).ag ag0,hx.2⟩
end
theorem aVz {k n:Nat} (h:k<n) (hn:n≤1000):(k:Int)<(n:Int)∧(0:Int)≤(k:Int)∧wrap64 ((k:Int)+1)=(k:Int)+1:=⟨by omega,by omega,by unfold wrap64;omega⟩
theorem bCa {k:Nat} (h:0<k):¬(k:Int)=0∧((k:Int)==0)=false:=⟨by omega,by simp;omega⟩
def roR (T n:Nat) (w w':World) (e:Ending):Prop :=
 ∃pv ps kd ep sq lb yA yn yc bs wh,e=.returned (.tuple #[pv,.agg #[.int .i64 kd,.int .i64 ep,.int .i64 sq,.int .i64 lb,.slice yA yn yc],.bool wh])∧w'.ownsRow w.heap.size 50 2 pv ps.length (ps.flatMap Vd.cells)∧PsG w' ps∧IsY w' yA yn yc bs∧aTf T kd bs∧(wh=true→ps.length+1≤n)∧yn≤40∧nD w w'
theorem aRn:(prog.info? 50).map (fun i=>(i.size,i.bytes,i.zero.map (·.cells.size)))=some (2,32,some 2):=by kernel_rfl
theorem aLw:∃i z,prog.info? 50=some i∧i.zero=some z∧i.size=2∧i.bytes=32∧z.cells.size=2:=by
 have h:=aRn
 cases hi:prog.info? 50 with
 | none=>rw[hi] at h;cases h
 | some i =>
   rw[hi] at h;simp at h
   obtain⟨h1,h2,z,hz,h3⟩:=h;exact⟨i,z,rfl,hz,h1,h2,h3⟩
theorem bGw (T:Nat) (A:Option Addr) (n c:Nat) (xs:List BR) (w:World) (h:aCk w A n c xs) (hlg:∀x∈xs,aDi T x.bs) :
  Calls prog 200 #[.slice A n c] w fun e w'=>roR T n w w' e:=by
 obtain⟨xi,xz,hxi,hxz,hx5,hx56,hxc⟩:=aLw;obtain⟨g3,w1,hzw1,hw1,Bw1,bw1⟩:=Xy w 258 [.int .i64 0,.int .i64 0,.int .i64 0,.int .i64 0,.slice none 0 0];obtain⟨g5,w2,hzw2,hw2,Bw2,bw2⟩:=Xy w1 258 [.int .i64 0,.int .i64 0,.int .i64 0,.int .i64 0,.slice none 0 0];obtain⟨iz0,iz1,iz2,iz3,iz4⟩:=Bw2.c5;obtain⟨iq0,iq1,iq2,iq3,iq4⟩:=nV (Bw2.free 0) (Bw2.free 1) (Bw2.free 2) (Bw2.free 3) (Bw2.free 4);obtain⟨wz,hwz⟩:=nC (W5 w2 g5 (.int .i64 0) (.int .i64 0) (.int .i64 0) (.int .i64 0) (.slice none 0 0));have Swz:=Vb Bw2 hwz;have hg35:g3<g5:=by have:=Bw1.lt;omega
 have H0:=hid (show RoX w wz g3 g5 0 (.slice none 0 0) [] from⟨World.ownsRow_nil _ _ _ _,(fun p hp=>by simp at hp),rfl,aAo (bw1.trans (bw2.mono bw1.size)) (by have:=bw1.size;omega) hwz,aGo (Bw1.next bw2 Bw1.lt) (Nat.ne_of_lt hg35) hwz,0,0,0,0,_,Swz⟩);have HG:=hid (show w.heap.size≤g3∧g3<g5∧w.heap.size≤g5 from⟨tO hzw1,by have:=Bw1.lt;omega,by have:=bw1.size;omega⟩);have HR:=nF h hlg;clear h hlg Bw1 Bw2 bw1 bw2 hg35 Swz;unfold W5 at hwz;go_enter func200,ntmps200
 go_wp2_with fail
 go_step3;go_wp2_with fail
 go_step3;go_wp2_with fail
 go_loopw [2,4,13] (fun pv hv iv wr=>hv=.bool false∧∃(k:Nat) (ps:List Vd),k≤n∧iv=.int .i64 (k:Int)∧Hid (RoX w wr g3 g5 k pv ps)) (fun _ _ iv _=>n - (intOf iv).toNat)
 case atStart=>exact⟨rfl,0,[],zL,rfl,H0⟩
 case round =>
  obtain⟨rfl,k,ps,hk,rfl,HW⟩:=hrel;obtain⟨pA,pc,rfl⟩:=Xs HW.o.own;rcases tN k n with hlt|hge
  · have hkx:k<xs.length:=by rw[HR.o.1.len];exact hlt
    obtain⟨p,hp⟩:∃p,xs[k]? =some p:=⟨_,tX hkx⟩
    have hpm:=tZ hp;obtain⟨adx,eA,had,c1⟩:=(HR.o.1.rd.next lR HW.o.bel).get (k:=k) (by rw[rU];exact hkx);subst eA;rw[rV,(rB.1 hp).2] at c1;have hyp:=(HR.o.1.y p hpm).ag (F:=fun _=>False) (.of_below HW.o.bel);have hlgp:=HR.o.2 p hpm;obtain⟨adp,eP⟩:=hyp.some_of;rw[eP] at hyp;obtain⟨qA,qc,qb⟩:=p;subst eP;have c0:_=some (Value.slice (some adp) 64 qc):=c1;have hde:=aHe adp qc qb _ hyp;obtain⟨n1,n2,m2⟩:=aVz hlt HR.o.1.sm;have HP:=nF hlt hlgp;clear hk hlt hkx hp hpm had c1 hyp hlgp;go_wp2_with fail
    refine hde.mono ?_;rintro e w3 ⟨hd,hb3⟩;clear hde c0;have hX3:=HW.o.next hb3;rcases hd with ⟨r,hr,rfl⟩|⟨yA,yn,yc,rfl,hy,hyn,hy40,hkd,hlb,hsq,hep⟩
    · have hX4:=hX3.next (show nD w3 (w3.alloc (.cells #[.int .i64 0,.int .i64 0,.int .i64 0,.int .i64 0,.slice none 0 0] 258)) from nB.alloc lR _);have hrb:(r==0)=false:=by simp[hr]
      have hrb2:(r !=0)=true:=by simp[hr]
      obtain⟨a5,b5,c5,d5,v5,B5⟩:=hX4.b5;rcases tP k with rfl|hk0
      · obtain⟨fz0,fz1,fz2,fz3,fz4⟩:=B5.c5;obtain⟨fq0,fq1,fq2,fq3,fq4⟩:=nV (B5.free 0) (B5.free 1) (B5.free 2) (B5.free 3) (B5.free 4);obtain⟨wB,hwB⟩:=nC (W5 (w3.alloc (.cells #[.int .i64 0,.int .i64 0,.int .i64 0,.int .i64 0,.slice none 0 0] 258)) g5 (.int .i64 0) (.int .i64 0) (.int .i64 0) (.int .i64 0) (.slice none 0 0));have SwB:=Vb B5 hwB;have hXB:=hX4.first B5 HG.o.2.2 (Nat.ne_of_lt HG.o.2.1) hwB;have hEB:=hXB.e;have B3:=hEB.b3;obtain⟨hz0,hz1,hz2,hz3,hz4⟩:=B3.c5;obtain⟨hq0,hq1,hq2,hq3,hq4⟩:=nV (B3.free 0) (B3.free 1) (B3.free 2) (B3.free 3) (B3.free 4);obtain⟨wC,hwC⟩:=nC (W5 wB g3 (.int .i64 0) (.int .i64 0) (.int .i64 0) (.int .i64 0) (.slice none 0 0));have SwC:=Vb B3 hwC;have HEC:=hid (hEB.store HG.o.1 hwC);have HLN:=hid (show ps.length+1≤n by rw[hXB.len];exact HP.o.1);have HAGC:=hid ((Vf B3 (by decide) hwC).ag (F:=fun _=>False) (fun _ q=>q.elim));unfold W5 at hwC hwB;clear hEB B3 SwC hXB hX3 hX4 B5 SwB;go_wp2_with fail
        (try simp only[Exit.inBlock,Exit.then,Exit.noGoto])
        (try go_wp2_with fail)
        have hE9:=HEC.o;have B9:=hE9.b3;obtain⟨ez0,ez1,ez2,ez3,ez4⟩:=B9.c5;obtain⟨eq0,eq1,eq2,eq3,eq4⟩:=nV (B9.free 0) (B9.free 1) (B9.free 2) (B9.free 3) (B9.free 4);obtain⟨w9,hw9⟩:=nC (W5 wC g3 (.int .i64 0) (.int .i64 0) (.int .i64 0) (.int .i64 0) (.slice none 0 0));have Sw9:=Vb B9 hw9;have HZ:=hid (hE9.store HG.o.1 hw9).drew;have HAG9:=hid (((Vf B9 (by decide) hw9).ag (F:=fun _=>False) (fun _ q=>q.elim)).trans (Ag.of_below (F:=fun _=>False) (Xu (Below.refl w9.heap.size w9))));unfold W5 at hw9;clear hE9 B9 Sw9;go_wp2_with fail
        go_region
        go_wp2_with fail
        (try simp only[Exit.inBlock,Exit.then,Exit.noGoto_ret])
        refine bodyPost_ret (aCz rfl _ _ _ _ (by rfl) HZ.o.b3) rfl ?_;exact⟨_,_,_,_,_,_,_,_,_,_,_,rfl,HZ.o.own,HZ.o.y,IsY.nil _ 0 zL,(fun q=>by cases q),(fun _=>HLN.o),zL,HZ.o.bel⟩
      · obtain⟨k0,k0b⟩:=bCa hk0;have hXB:=hX4;have hEB:=hXB.e;have B3:=hEB.b3;obtain⟨hz0,hz1,hz2,hz3,hz4⟩:=B3.c5;obtain⟨hq0,hq1,hq2,hq3,hq4⟩:=nV (B3.free 0) (B3.free 1) (B3.free 2) (B3.free 3) (B3.free 4);obtain⟨wC,hwC⟩:=nC (W5 (w3.alloc (.cells #[.int .i64 0,.int .i64 0,.int .i64 0,.int .i64 0,.slice none 0 0] 258)) g3 (.int .i64 0) (.int .i64 0) (.int .i64 0) (.int .i64 0) (.slice none 0 0));have SwC:=Vb B3 hwC;have HEC:=hid (hEB.store HG.o.1 hwC);have HLN:=hid (show ps.length+1≤n by rw[hXB.len];exact HP.o.1);have HAGC:=hid ((Vf B3 (by decide) hwC).ag (F:=fun _=>False) (fun _ q=>q.elim));unfold W5 at hwC;clear hEB B3 SwC hXB hX3 hX4 B5;go_wp2_with fail
        (try simp only[Exit.inBlock,Exit.then,Exit.noGoto])
        (try go_wp2_with fail)
        have hE9:=HEC.o;have B9:=hE9.b3;obtain⟨ez0,ez1,ez2,ez3,ez4⟩:=B9.c5;obtain⟨eq0,eq1,eq2,eq3,eq4⟩:=nV (B9.free 0) (B9.free 1) (B9.free 2) (B9.free 3) (B9.free 4);obtain⟨w9,hw9⟩:=nC (W5 wC g3 (.int .i64 0) (.int .i64 0) (.int .i64 0) (.int .i64 0) (.slice none 0 0));have Sw9:=Vb B9 hw9;have HZ:=hid (hE9.store HG.o.1 hw9).drew;have HAG9:=hid (((Vf B9 (by decide) hw9).ag (F:=fun _=>False) (fun _ q=>q.elim)).trans (Ag.of_below (F:=fun _=>False) (Xu (Below.refl w9.heap.size w9))));unfold W5 at hw9;clear hE9 B9 Sw9;go_wp2_with fail
        go_region
        go_wp2_with fail
        (try simp only[Exit.inBlock,Exit.then,Exit.noGoto_ret])
        refine bodyPost_ret (aCz rfl _ _ _ _ (by rfl) HZ.o.b3) rfl ?_;exact⟨_,_,_,_,_,_,_,_,_,_,_,rfl,HZ.o.own,HZ.o.y,IsY.nil _ 0 zL,(fun q=>by cases q),(fun _=>HLN.o),zL,HZ.o.bel⟩
    · obtain⟨kd,ekd⟩:∃kd,(frD qb).kind=kd:=⟨_,rfl⟩
      obtain⟨sq,esq⟩:=nC ((frD qb).seq);obtain⟨lb,elb⟩:=nC ((frD qb).lba);obtain⟨ep,eep⟩:∃ep,(frD qb).ep=ep:=⟨_,rfl⟩
      obtain⟨bo,ebo⟩:=nC ((frD qb).body);rw[ekd,esq,elb,eep];rw[ebo] at hy
      have HLK:=hid (show aTf T kd bo∧(kd=1→lb<258∧yn=40) from by
       have h1:=HP.o.2;unfold aDi aTg at h1
       simp only[ekd,elb,ebo] at h1;have h2:=hy.b.len;exact⟨fun q=>h1.elim (fun r=>absurd (r.1.symm.trans q) (by decide)) (fun r=>r.2),fun q=>h1.elim (fun r=>⟨r.2.1,by omega⟩) (fun r=>absurd (r.1.symm.trans q) (by decide))⟩)
      obtain⟨g8,w4,hzw4,hw4,Bw4,bw4⟩:=Xy w3 258 [.int .i64 kd,.int .i64 ep,.int .i64 sq,.int .i64 lb,.slice yA yn yc];obtain⟨d0,d1,d2,d3,d4⟩:=Bw4.c5;have hX4:=hX3.next bw4;have HY4:=nH (hy.ag (F:=fun _=>False) (.of_below bw4)) hy40 (show 0≤lb by rw[←elb];exact hlb.1)
      have hg8:g8≠g5:=by
       obtain⟨_,_,_,_,_,b5⟩:=hX3.b5;have:=b5.lt;omega
      clear hy hyn hy40 hkd hlb hsq hep ekd esq elb eep ebo;obtain⟨a5,b5,c5,d5,v5,B5⟩:=hX4.b5;rcases tP k with rfl|hk0
      · obtain⟨fz0,fz1,fz2,fz3,fz4⟩:=B5.c5;obtain⟨fq0,fq1,fq2,fq3,fq4⟩:=nV (B5.free 0) (B5.free 1) (B5.free 2) (B5.free 3) (B5.free 4);obtain⟨wB,hwB⟩:=nC (W5 w4 g5 (.int .i64 kd) (.int .i64 ep) (.int .i64 sq) (.int .i64 lb) (.slice yA yn yc));have SwB:=Vb B5 hwB;have hXB:=hX4.first B5 HG.o.2.2 (Nat.ne_of_lt HG.o.2.1) hwB;have HYB:=hid (HY4.o.1.ag ((Vf B5 (by decide) hwB).ag (F:=fun _=>False) (fun _ q=>q.elim)));obtain⟨p0,p1,p2,p3,p4⟩:=(aGo Bw4 hg8 hwB).c5;obtain⟨s0,s1,s2,s3,s4⟩:=SwB.c5;by_cases h1:kd=1
        · subst h1;obtain⟨wD,hwD⟩:=nC (wB.alloc (.cells #[.int .i64 lb,.slice yA yn yc] 50));have hBD:Bk wD wB.heap.size 50 [.int .i64 lb,.slice yA yn yc]:=by rw[←hwD];exact Bk.new wB _ _
          have hbD:nD wB wD:=by rw[←hwD];exact nB.alloc lR _
          have HXB:=hid hXB;have HD:=nI hBD hbD (Vg hXB.own hbD) (show ps.length≤1000000 by rw[hXB.len];have:=HP.o.1;have:=HR.o.1.sm;omega);unfold W5 at hwB;clear hBD hbD hXB hX3 hX4 B5 Bw4 bw4 SwB hg8;go_wp2_with (at_builtin;go_must (refine aAc _ rfl _ _ 58 rfl w.heap.size 50 xi xz 2 32 underlying58 hxi hxz hx5 hx56 hxc (by decide) _ _ _ (by rfl) (by exact HD.o.2.2.1) _ [.int .i64 lb,.slice yA yn yc] (by rfl) (by exact HD.o.1) rfl (by intro u hu;simp at hu;rcases hu with rfl|rfl<;>rfl) (by exact HD.o.2.2.2) (by decide) (by exact tK HXB.o.bel.size HD.o.2.1.size) ?_);intro v9 w9 hO9 hG9 hv9;obtain⟨sA,sc9,rfl⟩:=Xs hO9)
          have hG9':wD.grownBy w9 (Value.slice pA ps.length pc).ownBlock:=hG9;have HZ:=hid (HXB.o.push HD.o.2.1 hO9 hG9' (x:=⟨lb,yA,yn,yc,bo⟩) rfl ⟨HYB.o,HY4.o.2.2,(HLK.o.2 (by trivial)).1,(HLK.o.2 (by trivial)).2⟩);clear hO9 hG9 hG9' hv9;(try go_wp2_with fail)
          go_roundw
          case rel=>exact⟨by first|trivial|rfl,_,_,HP.o.1,Va (by first|rfl|exact m2),HZ⟩
          case measure=>(first|exact Xw HP.o.1 rfl|(rw[m2];exact Xw HP.o.1 rfl))
        · have t1:(kd==1)=false:=by simp[h1]
          have hEB:=hXB.e;have B3:=hEB.b3;obtain⟨hz0,hz1,hz2,hz3,hz4⟩:=B3.c5;obtain⟨hq0,hq1,hq2,hq3,hq4⟩:=nV (B3.free 0) (B3.free 1) (B3.free 2) (B3.free 3) (B3.free 4);obtain⟨wC,hwC⟩:=nC (W5 wB g3 (.int .i64 kd) (.int .i64 ep) (.int .i64 sq) (.int .i64 lb) (.slice yA yn yc));have SwC:=Vb B3 hwC;have HEC:=hid (hEB.store HG.o.1 hwC);have HLN:=hid (show ps.length+1≤n by rw[hXB.len];exact HP.o.1);have HAGC:=hid ((Vf B3 (by decide) hwC).ag (F:=fun _=>False) (fun _ q=>q.elim));unfold W5 at hwC hwB;clear hEB B3 SwC hXB hX3 hX4 B5 Bw4 bw4 SwB hg8;go_wp2_with fail
          (try simp only[Exit.inBlock,Exit.then,Exit.noGoto])
          (try go_wp2_with fail)
          have hE9:=HEC.o;have B9:=hE9.b3;obtain⟨ez0,ez1,ez2,ez3,ez4⟩:=B9.c5;obtain⟨eq0,eq1,eq2,eq3,eq4⟩:=nV (B9.free 0) (B9.free 1) (B9.free 2) (B9.free 3) (B9.free 4);obtain⟨w9,hw9⟩:=nC (W5 wC g3 (.int .i64 kd) (.int .i64 ep) (.int .i64 sq) (.int .i64 lb) (.slice yA yn yc));have Sw9:=Vb B9 hw9;have HZ:=hid (hE9.store HG.o.1 hw9).drew;have HAG9:=hid (((Vf B9 (by decide) hw9).ag (F:=fun _=>False) (fun _ q=>q.elim)).trans (Ag.of_below (F:=fun _=>False) (Xu (Below.refl w9.heap.size w9))));unfold W5 at hw9;clear hE9 B9 Sw9;go_wp2_with fail
          go_region
          go_wp2_with fail
          (try simp only[Exit.inBlock,Exit.then,Exit.noGoto_ret])
          refine bodyPost_ret (aCz rfl _ _ _ _ (by rfl) HZ.o.b3) rfl ?_;exact⟨_,_,_,_,_,_,_,_,_,_,_,rfl,HZ.o.own,HZ.o.y,(HYB.o.ag HAGC.o).ag HAG9.o,(HLK.o.1),(fun _=>HLN.o),HY4.o.2.1,HZ.o.bel⟩
      · obtain⟨k0,k0b⟩:=bCa hk0;obtain⟨s0,s1,s2,s3,s4⟩:=B5.c5;have HYB:=hid HY4.o.1;have hXB:=hX4;by_cases hep:ep=b5
        · subst hep;by_cases hsq:sq=c5
          · subst hsq;by_cases h1:kd=1
            · subst h1;obtain⟨wD,hwD⟩:=nC (w4.alloc (.cells #[.int .i64 lb,.slice yA yn yc] 50));have hBD:Bk wD w4.heap.size 50 [.int .i64 lb,.slice yA yn yc]:=by rw[←hwD];exact Bk.new w4 _ _
              have hbD:nD w4 wD:=by rw[←hwD];exact nB.alloc lR _
              have HXB:=hid hXB;have HD:=nI hBD hbD (Vg hXB.own hbD) (show ps.length≤1000000 by rw[hXB.len];have:=HP.o.1;have:=HR.o.1.sm;omega);skip;clear hBD hbD hXB hX3 hX4 B5 Bw4 bw4 hg8;go_wp2_with (at_builtin;go_must (refine aAc _ rfl _ _ 58 rfl w.heap.size 50 xi xz 2 32 underlying58 hxi hxz hx5 hx56 hxc (by decide) _ _ _ (by rfl) (by exact HD.o.2.2.1) _ [.int .i64 lb,.slice yA yn yc] (by rfl) (by exact HD.o.1) rfl (by intro u hu;simp at hu;rcases hu with rfl|rfl<;>rfl) (by exact HD.o.2.2.2) (by decide) (by exact tK HXB.o.bel.size HD.o.2.1.size) ?_);intro v9 w9 hO9 hG9 hv9;obtain⟨sA,sc9,rfl⟩:=Xs hO9)
              have hG9':wD.grownBy w9 (Value.slice pA ps.length pc).ownBlock:=hG9;have HZ:=hid (HXB.o.push HD.o.2.1 hO9 hG9' (x:=⟨lb,yA,yn,yc,bo⟩) rfl ⟨HYB.o,HY4.o.2.2,(HLK.o.2 (by trivial)).1,(HLK.o.2 (by trivial)).2⟩);clear hO9 hG9 hG9' hv9;(try go_wp2_with fail)
              go_roundw
              case rel=>exact⟨by first|trivial|rfl,_,_,HP.o.1,Va (by first|rfl|exact m2),HZ⟩
              case measure=>(first|exact Xw HP.o.1 rfl|(rw[m2];exact Xw HP.o.1 rfl))
            · have t1:(kd==1)=false:=by simp[h1]
              have hEB:=hXB.e;have B3:=hEB.b3;obtain⟨hz0,hz1,hz2,hz3,hz4⟩:=B3.c5;obtain⟨hq0,hq1,hq2,hq3,hq4⟩:=nV (B3.free 0) (B3.free 1) (B3.free 2) (B3.free 3) (B3.free 4);obtain⟨wC,hwC⟩:=nC (W5 w4 g3 (.int .i64 kd) (.int .i64 ep) (.int .i64 sq) (.int .i64 lb) (.slice yA yn yc));have SwC:=Vb B3 hwC;have HEC:=hid (hEB.store HG.o.1 hwC);have HLN:=hid (show ps.length+1≤n by rw[hXB.len];exact HP.o.1);have HAGC:=hid ((Vf B3 (by decide) hwC).ag (F:=fun _=>False) (fun _ q=>q.elim));unfold W5 at hwC;clear hEB B3 SwC hXB hX3 hX4 B5 Bw4 bw4 hg8;go_wp2_with fail
              (try simp only[Exit.inBlock,Exit.then,Exit.noGoto])
              (try go_wp2_with fail)
              have hE9:=HEC.o;have B9:=hE9.b3;obtain⟨ez0,ez1,ez2,ez3,ez4⟩:=B9.c5;obtain⟨eq0,eq1,eq2,eq3,eq4⟩:=nV (B9.free 0) (B9.free 1) (B9.free 2) (B9.free 3) (B9.free 4);obtain⟨w9,hw9⟩:=nC (W5 wC g3 (.int .i64 kd) (.int .i64 ep) (.int .i64 sq) (.int .i64 lb) (.slice yA yn yc));have Sw9:=Vb B9 hw9;have HZ:=hid (hE9.store HG.o.1 hw9).drew;have HAG9:=hid (((Vf B9 (by decide) hw9).ag (F:=fun _=>False) (fun _ q=>q.elim)).trans (Ag.of_below (F:=fun _=>False) (Xu (Below.refl w9.heap.size w9))));unfold W5 at hw9;clear hE9 B9 Sw9;go_wp2_with fail
              go_region
              go_wp2_with fail
              (try simp only[Exit.inBlock,Exit.then,Exit.noGoto_ret])
              refine bodyPost_ret (aCz rfl _ _ _ _ (by rfl) HZ.o.b3) rfl ?_;exact⟨_,_,_,_,_,_,_,_,_,_,_,rfl,HZ.o.own,HZ.o.y,(HYB.o.ag HAGC.o).ag HAG9.o,(HLK.o.1),(fun _=>HLN.o),HY4.o.2.1,HZ.o.bel⟩
          · have t1:(sq==c5)=false:=by simp[hsq]
            have hEB:=hXB.e;have B3:=hEB.b3;obtain⟨hz0,hz1,hz2,hz3,hz4⟩:=B3.c5;obtain⟨hq0,hq1,hq2,hq3,hq4⟩:=nV (B3.free 0) (B3.free 1) (B3.free 2) (B3.free 3) (B3.free 4);obtain⟨wC,hwC⟩:=nC (W5 w4 g3 (.int .i64 0) (.int .i64 0) (.int .i64 0) (.int .i64 0) (.slice none 0 0));have SwC:=Vb B3 hwC;have HEC:=hid (hEB.store HG.o.1 hwC);have HLN:=hid (show ps.length+1≤n by rw[hXB.len];exact HP.o.1);have HAGC:=hid ((Vf B3 (by decide) hwC).ag (F:=fun _=>False) (fun _ q=>q.elim));unfold W5 at hwC;clear hEB B3 SwC hXB hX3 hX4 B5 Bw4 bw4 hg8;go_wp2_with fail
            (try simp only[Exit.inBlock,Exit.then,Exit.noGoto])
            (try go_wp2_with fail)
            have hE9:=HEC.o;have B9:=hE9.b3;obtain⟨ez0,ez1,ez2,ez3,ez4⟩:=B9.c5;obtain⟨eq0,eq1,eq2,eq3,eq4⟩:=nV (B9.free 0) (B9.free 1) (B9.free 2) (B9.free 3) (B9.free 4);obtain⟨w9,hw9⟩:=nC (W5 wC g3 (.int .i64 0) (.int .i64 0) (.int .i64 0) (.int .i64 0) (.slice none 0 0));have Sw9:=Vb B9 hw9;have HZ:=hid (hE9.store HG.o.1 hw9).drew;have HAG9:=hid (((Vf B9 (by decide) hw9).ag (F:=fun _=>False) (fun _ q=>q.elim)).trans (Ag.of_below (F:=fun _=>False) (Xu (Below.refl w9.heap.size w9))));unfold W5 at hw9;clear hE9 B9 Sw9;go_wp2_with fail
            go_region
            go_wp2_with fail
            (try simp only[Exit.inBlock,Exit.then,Exit.noGoto_ret])
            refine bodyPost_ret (aCz rfl _ _ _ _ (by rfl) HZ.o.b3) rfl ?_;exact⟨_,_,_,_,_,_,_,_,_,_,_,rfl,HZ.o.own,HZ.o.y,IsY.nil _ 0 zL,(fun q=>by cases q),(fun _=>HLN.o),zL,HZ.o.bel⟩
        · have t1:(ep==b5)=false:=by simp[hep]
          have hEB:=hXB.e;have B3:=hEB.b3;obtain⟨hz0,hz1,hz2,hz3,hz4⟩:=B3.c5;obtain⟨hq0,hq1,hq2,hq3,hq4⟩:=nV (B3.free 0) (B3.free 1) (B3.free 2) (B3.free 3) (B3.free 4);obtain⟨wC,hwC⟩:=nC (W5 w4 g3 (.int .i64 0) (.int .i64 0) (.int .i64 0) (.int .i64 0) (.slice none 0 0));have SwC:=Vb B3 hwC;have HEC:=hid (hEB.store HG.o.1 hwC);have HLN:=hid (show ps.length+1≤n by rw[hXB.len];exact HP.o.1);have HAGC:=hid ((Vf B3 (by decide) hwC).ag (F:=fun _=>False) (fun _ q=>q.elim));unfold W5 at hwC;clear hEB B3 SwC hXB hX3 hX4 B5 Bw4 bw4 hg8;go_wp2_with fail
          (try simp only[Exit.inBlock,Exit.then,Exit.noGoto])
          (try go_wp2_with fail)
          have hE9:=HEC.o;have B9:=hE9.b3;obtain⟨ez0,ez1,ez2,ez3,ez4⟩:=B9.c5;obtain⟨eq0,eq1,eq2,eq3,eq4⟩:=nV (B9.free 0) (B9.free 1) (B9.free 2) (B9.free 3) (B9.free 4);obtain⟨w9,hw9⟩:=nC (W5 wC g3 (.int .i64 0) (.int .i64 0) (.int .i64 0) (.int .i64 0) (.slice none 0 0));have Sw9:=Vb B9 hw9;have HZ:=hid (hE9.store HG.o.1 hw9).drew;have HAG9:=hid (((Vf B9 (by decide) hw9).ag (F:=fun _=>False) (fun _ q=>q.elim)).trans (Ag.of_below (F:=fun _=>False) (Xu (Below.refl w9.heap.size w9))));unfold W5 at hw9;clear hE9 B9 Sw9;go_wp2_with fail
          go_region
          go_wp2_with fail
          (try simp only[Exit.inBlock,Exit.then,Exit.noGoto_ret])
          refine bodyPost_ret (aCz rfl _ _ _ _ (by rfl) HZ.o.b3) rfl ?_;exact⟨_,_,_,_,_,_,_,_,_,_,_,rfl,HZ.o.own,HZ.o.y,IsY.nil _ 0 zL,(fun q=>by cases q),(fun _=>HLN.o),zL,HZ.o.bel⟩
  · obtain rfl:k=n:=tQ hk hge;have n0:¬(k:Int)<(k:Int):=Int.lt_irrefl _;go_wp2_with fail
    have hE9:=HW.o.e;have B9:=hE9.b3;obtain⟨ez0,ez1,ez2,ez3,ez4⟩:=B9.c5;obtain⟨eq0,eq1,eq2,eq3,eq4⟩:=nV (B9.free 0) (B9.free 1) (B9.free 2) (B9.free 3) (B9.free 4);obtain⟨w9,hw9⟩:=nC (W5 wr g3 (.int .i64 0) (.int .i64 0) (.int .i64 0) (.int .i64 0) (.slice none 0 0));have Sw9:=Vb B9 hw9;have HZ:=hid (hE9.store HG.o.1 hw9).drew;have HAG9:=hid (((Vf B9 (by decide) hw9).ag (F:=fun _=>False) (fun _ q=>q.elim)).trans (Ag.of_below (F:=fun _=>False) (Xu (Below.refl w9.heap.size w9))));unfold W5 at hw9;clear hE9 B9 Sw9;go_wp2_with fail
    go_region
    go_wp2_with fail
    (try simp only[Exit.inBlock,Exit.then,Exit.noGoto_ret])
    refine bodyPost_ret (aCz rfl _ _ _ _ (by rfl) HZ.o.b3) rfl ?_;exact⟨_,_,_,_,_,_,_,_,_,_,_,rfl,HZ.o.own,HZ.o.y,IsY.nil _ 0 zL,(fun q=>by cases q),(fun q=>by cases q),zL,HZ.o.bel⟩
end Go.Proofs.YtdhlicgaalnmoaaGreatDoor.Tp
