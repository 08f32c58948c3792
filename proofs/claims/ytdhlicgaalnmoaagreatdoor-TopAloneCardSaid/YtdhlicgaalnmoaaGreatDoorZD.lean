/- Contracts of the program's functions, and laws on memory: a part of the proof of TopAlone. -/
import Derived.Test.YtdhlicgaalnmoaaGreatDoorZC
import Derived.Maps.OwnSet
import Derived.Maps.Views
import Derived.Maps.Range
import Derived.Maps.RangeWalk
import Derived.Lib.SlKeysI
import Derived.ArgAppend
import Derived.Deep.Upon
import Derived.Shelf.SlIterI.Nil
import Derived.Shelf.SortM.Plain
import Derived.Shelf.SortM.SortNone
import Derived.Ground.GgzProg
import Derived.Ground.SlgmProg
import Derived.Shelf.SlSortCmp.WholeK
import Derived.Ground.SlsfProg
import Derived.Sort.OwnSorted
set_option linter.unusedSimpArgs false
set_option linter.unusedVariables false
namespace Go.Proofs.YtdhlicgaalnmoaaGreatDoor.Tp
open Lib (hid)
open Tryz
open Go.RowKit Go.Maps
set_option maxHeartbeats 8000000
set_option maxRecDepth 100000
def aGl (v:Value):Option (DataW Value×List MemPlace):=some (.held v,[])
theorem aHb {v:Value} {y:DataW Value×List MemPlace} (h:aGl v=some y):y=(.held v,[]):=(rT h).symm
def Un (x:Int):Prop:=(Lit.int .i64 x).wf=true
theorem aDt {x:Int} (h1: -9223372036854775808≤x) (h2:x≤9223372036854775807):Un x:=by
 unfold Un;simp[Lit.wf,IntKind.min,IntKind.max,IntKind.bits,IntKind.signed];omega
theorem aLy {P:Program} {k:TypeId} (hk:P.underlying k=some (.int .i64)) {x:Int} (h:Un x):keyOf P k (.int .i64 x)=some (.int .i64 x):=keyOf_int_mk hk h
def upd (f:Int→Option Value) (x:Int) (v:Option Value):Int→Option Value:=fun j=>if j=x then v else f j
theorem aAj (f:Int→Option Value) (x:Int) (v:Option Value):upd f x v x=v:=by unfold upd;rw[if_pos rfl]
theorem aAd (f:Int→Option Value) {x j:Int} (v:Option Value) (h:j≠x):upd f x v j=f j:=by unfold upd;rw[if_neg h]
def Uv (s:Nat) (o:Option Value):Nat:=if o.isSome then s else s+1
def dat (o:Option Value) (z:DataW Value):DataW Value:=match o with|some v=>.held v|none=>z
def IMd (w:World) (P:Program) (k:TypeId) (b s:Nat) (D:DataW Value) (f:Int→Option Value):Prop :=
 w.ownsMap P k aGl b s D∧Maps.size D=s∧∀x,Un x→∀z,D.atKey (.int .i64 x) z=dat (f x) z
def IM (w:World) (P:Program) (k:TypeId) (b s:Nat) (f:Int→Option Value):Prop:=∃D,IMd w P k b s D f
section
variable {w w':World} {P:Program} {k t e:TypeId} {b s:Nat} {D:DataW Value} {f:Int→Option Value}
theorem IM.made (w:World) (P:Program) (k:TypeId):IM (w.alloc (.map #[] 0)) P k w.heap.size 0 (fun _=>none):=⟨.map [],World.ownsMap_made w P k aGl,rfl,fun x _ z=>rfl⟩
theorem IMd.ag {F:Xt} (h:IMd w P k b s D f) (a:Ag F w w') (hF:F b):IMd w' P k b s D f:=⟨bEd h.1 a hF,h.2⟩
theorem IM.ag {F:Xt} (h:IM w P k b s f) (a:Ag F w w') (hF:F b):IM w' P k b s f:=by obtain⟨D,h⟩:=h;exact⟨D,h.ag a hF⟩
theorem IM.next (h:IM w P k b s f) (hb:nD w w'):IM w' P k b s f:=h.ag (F:=fun c=>c=b) (.of_below hb) rfl
theorem IM.lt (h:IM w P k b s f):b<w.heap.size:=by obtain⟨D,h,_⟩:=h;exact h.lt
theorem IM.at_ (h:IM w P k b s f):∃es cl,w.heap[b]? =some (.map es cl):=by obtain⟨D,⟨es,cl,hb,_⟩,_⟩:=h;exact⟨es,cl,hb⟩
theorem IMd.has (h:IMd w P k b s D f) {x:Int} (hx:Un x):Maps.has D (.int .i64 x)=(f x).isSome:=by
 have ha:=h.2.2 x hx
 cases hf:f x with
 | none=>rw[hf] at ha;exact Maps.has_false_of_atKey ha
 | some v=>rw[hf] at ha;exact Maps.has_true_of_atKey ha
theorem IM.look (h:IM w P k b s f) (K:Keyed P k) (hk:P.underlying k=some (.int .i64)) (ht:P.underlying t=some (.map k e)) {z:Value} (hz:(zeroValue e).run P w=.ok z w) {x:Int} (hx:Un x) :
  (Instr.lookup t (.map (some b)) (.int .i64 x) false).run P w=.ok ((f x).getD z) w:=by
 obtain⟨D,h,_,ha⟩:=h;obtain⟨v,ps,hr,hv⟩:=h.lookup K ht hz (zd:=.held z) (zp:=[]) rfl (aLy hk hx);rw[ha x hx] at hv;have hv:=aHb hv;rw[hr]
 cases hf:f x with
 | none=>rw[hf] at hv;injection hv with hv;injection hv with hv;rw[←hv];rfl
 | some u=>rw[hf] at hv;injection hv with hv;injection hv with hv;rw[←hv];rfl
theorem IM.look_ok (h:IM w P k b s f) (K:Keyed P k) (hk:P.underlying k=some (.int .i64)) (ht:P.underlying t=some (.map k e)) {z:Value} (hz:(zeroValue e).run P w=.ok z w) {x:Int} (hx:Un x) :
  (Instr.lookup t (.map (some b)) (.int .i64 x) true).run P w=.ok (.tuple #[(f x).getD z,.bool (f x).isSome]) w:=by
 obtain⟨D,h⟩:=h;obtain⟨v,ps,hr,hv⟩:=h.1.look_ok K ht hz (zd:=.held z) (zp:=[]) rfl (aLy hk hx);rw[h.2.2 x hx] at hv;have hv:=aHb hv;rw[hr,h.has hx]
 cases hf:f x with
 | none=>rw[hf] at hv;injection hv with hv;injection hv with hv;rw[←hv];rfl
 | some u=>rw[hf] at hv;injection hv with hv;injection hv with hv;rw[←hv];rfl
theorem IM.len (h:IM w P k b s f) (ht:P.underlying t=some (.map k e)) (ty:TypeId):(Builtin.len_ #[t] ty #[.map (some b)]).run P w=.ok (.int .i64 (s:Int)) w:=by
 obtain⟨D,h,hs,_⟩:=h;rw[h.len ht ty,hs]
theorem aJj {H:Type} {R:Value→Option (DataW H×List MemPlace)} {n:Nat} {D:DataW H} (h:w.ownsMap P k R b n D):w.ownsMap P k R b (Maps.size D) D:=by
 obtain⟨es,cl,hb,F,_,rfl⟩:=h;exact⟨es,cl,hb,F,by simp[Maps.size,length_sorted],rfl⟩
theorem IMd.put (h:IMd w P k b s D f) (K:Keyed P k) (hk:P.underlying k=some (.int .i64)) {x:Int} (hx:Un x) (v:Value) {w':World} {n:Nat} (ho:w'.ownsMap P k aGl b n (D.put (.int .i64 x) (.held v))) :
  IM w' P k b (Uv s (f x)) (upd f x (some v)):=by
 have hkl:WideAt.IsKeyLit (.int .i64 x):=by simp[WideAt.IsKeyLit]
 have hsz:Maps.size (D.put (.int .i64 x) (.held v))=Uv s (f x):=by
  rw[Maps.size_put (h.1.tidy K) (.held v),h.has hx,h.2.1];unfold Uv;cases f x<;>rfl
 refine⟨_,⟨hsz▸aJj ho,hsz,fun y hy z=>?_⟩⟩;by_cases e1:y=x
 · subst e1;rw[aAj,atKey_put_same h.1.isMap hkl];rfl
 · rw[aAd _ _ e1,atKey_put_other (fun e2=>by injection e2 with _ e2;exact e1 e2)];exact h.2.2 y hy z
theorem IM.update (h:IM w P k b s f) (K:Keyed P k) (hk:P.underlying k=some (.int .i64)) (ht:P.underlying t=some (.map k e)) (hs:s≤1000000) {x:Int} (hx:Un x) (v:Value) :
  ∃w',(Instr.mapUpdate t (.map (some b)) (.int .i64 x) v).run P w=.ok () w'∧IM w' P k b (Uv s (f x)) (upd f x (some v))∧w.grownBy w' (some b):=by
 obtain⟨D,h⟩:=h;obtain⟨w',hr,ho,hg⟩:=h.1.update K ht (by simp only[maxLen];omega) (aLy hk hx) (val:=v) (d:=.held v) (ps:=[]) rfl;exact⟨w',hr,h.put K hk hx v ho,hg⟩
theorem IM.strike (h:IM w P k b s f) (K:Keyed P k) (hk:P.underlying k=some (.int .i64)) (ht:P.underlying t=some (.map k e)) {x:Int} (hx:Un x) (ty:TypeId) :
  ∃w',(Builtin.delete_ #[t,k] ty #[.map (some b),.int .i64 x]).run P w=.ok (.tuple #[]) w'∧IM w' P k b (if (f x).isSome then s - 1 else s) (upd f x none)∧w.grownBy w' (some b):=by
 obtain⟨D,h⟩:=h;obtain⟨w',hr,ho,ht'⟩:=h.1.drop K ht (aLy hk hx) ty;have hsz:=Maps.size_del (k:=.int .i64 x) (h.1.tidy K);rw[h.has hx,h.2.1] at hsz
 have hs2:Maps.size (D.del (.int .i64 x))=if (f x).isSome then s - 1 else s:=by
  cases hf:f x with
  | none=>rw[hf] at hsz;simp at hsz ⊢;omega
  | some u=>rw[hf] at hsz;simp at hsz ⊢;omega
 refine⟨w',hr,⟨_,hs2▸aJj ho,hs2,fun y hy z=>?_⟩,ht'.grown⟩;by_cases e1:y=x
 · subst e1;rw[aAj,atKey_del_same];rfl
 · rw[aAd _ _ e1,atKey_del_other (fun e2=>by injection e2 with _ e2;exact e1 e2)];exact h.2.2 y hy z
structure aEk (s:Nat) (f:Int→Option Value) (ks:List Int):Prop where
 up:ks.Pairwise (· < ·)
 len:ks.length=s
 wf:∀x∈ks,Un x
 mem:∀x,Un x→(x∈ks↔(f x).isSome=true)
theorem IMd.keys (h:IMd w P k b s D f) (K:Keyed P k) (hk:P.underlying k=some (.int .i64)):(intKeys D).Nodup∧(intKeys D).length=s∧(∀x∈intKeys D,Un x)∧∀x,Un x→(x∈intKeys D↔(f x).isSome=true):=by
 have hw:=hid (intKeys_wf h.1 hk);obtain⟨es,hD,hpw,hkl⟩:=h.1.entries K;obtain⟨es',hD',hko⟩:=h.1.keysOf;obtain rfl:es=es':=by rw[hD] at hD';simpa using hD'
 have hK:∀p∈es,∃x,p.1=.int .i64 x:=fun p hp=>by obtain⟨v,hv⟩:=hko p hp;obtain⟨x,_,hx,_⟩:=Maps.keyOf_i64 hk hv;exact⟨x,hx⟩
 have hm:∀x,x∈intKeys D↔Maps.has D (.int .i64 x)=true:=fun x=>by
  subst hD;rw[Maps.has_eq,List.any_eq_true];show x∈es.map (fun p=>Go.intOf p.1)↔_
  rw[List.mem_map];constructor
  · rintro ⟨p,hp,rfl⟩;obtain⟨a,ha⟩:=hK p hp;exact⟨p,hp,by rw[ha];simp[Lit.sameKey,Go.intOf]⟩
  · rintro ⟨p,hp,hs⟩;obtain⟨a,ha⟩:=hK p hp;rw[ha] at hs;exact⟨p,hp,by rw[ha];simpa [Lit.sameKey,Go.intOf] using hs⟩
 refine⟨?_,?_,hw.out,fun x hx=>by rw[hm x,h.has hx]⟩
 · subst hD;show (es.map fun p=>Go.intOf p.1).Nodup
   refine List.pairwise_map.2 (hpw.imp_of_mem fun {p q} hp hq hne e=>hne ?_);obtain⟨a,ha⟩:=hK p hp;obtain⟨b,hb⟩:=hK q hq;rw[ha,hb] at e ⊢;exact congrArg _ e
 · rw[←h.2.1];subst hD;show (es.map fun p=>Go.intOf p.1).length=es.length
   rw[rU]
theorem IMd.sorted (h:IMd w P k b s D f) (K:Keyed P k) (hk:P.underlying k=some (.int .i64)) {ss:List Int} (hp:ss.Perm (intKeys D)):aEk s f (ss.mergeSort (fun x y=>decide (x≤y))):=by
 obtain⟨hn,hl,hw,hm⟩:=h.keys K hk;have hp2:(ss.mergeSort (fun x y=>decide (x≤y))).Perm (intKeys D):=(List.mergeSort_perm _ _).trans hp;have tr:∀a b c:Int,decide (a≤b)=true→decide (b≤c)=true→decide (a≤c)=true:=fun a b c h1 h2=>by simp only[decide_eq_true_eq] at *;omega
 have tot:∀a b:Int,(decide (a≤b) || decide (b≤a))=true:=fun a b=>by simp only[Bool.or_eq_true,decide_eq_true_eq];omega
 refine⟨?_,hp2.length_eq.trans hl,fun x hx=>hw x (hp2.mem_iff.1 hx),fun x hx=>by rw[hp2.mem_iff];exact hm x hx⟩;have h1:=List.pairwise_mergeSort tr tot ss;have h2:(ss.mergeSort (fun x y=>decide (x≤y))).Nodup:=hp2.nodup_iff.2 hn;refine(h1.and h2).imp fun {a b} q=>?_
 have q1:=q.1;simp only[decide_eq_true_eq] at q1;have q2:a≠b:=q.2;omega
theorem aHx {l:List Int} (h:l.Pairwise (· < ·)) {n:Nat} (hb:∀x∈l,0≤x∧x<(n:Int)):l.length≤n:=by
 have key:∀(m:Nat) (l:List Int),l.Pairwise (· < ·)→(∀x∈l,(m:Int)≤x∧x<(n:Int))→m≤n→l.length≤n - m:=by
  intro m l
  induction l generalizing m with
  | nil=>intros;simp
  | cons a l ih =>
    intro hp hb hm;rw[List.pairwise_cons] at hp;have ha:=hb a rQ
    have h2:=ih (a.toNat+1) hp.2 (fun x hx=>by
     have:=hp.1 x hx;have:=(hb x (List.mem_cons_of_mem _ hx)).2;omega) (by omega)
    simp only[List.length_cons];omega
 simpa using key 0 l h (fun x hx=>by have:=hb x hx;exact⟨by simpa using this.1,this.2⟩) zL
def IR (w:World) (P:Program) (k:TypeId) (b r s:Nat) (f:Int→Option Value) (left:Lit→Bool) (cnt:Nat):Prop :=
 ∃D,w.ranges P k aGl b r s D left cnt∧Maps.size D=s∧∀x,Un x→∀z,D.atKey (.int .i64 x) z=dat (f x) z
theorem IR.im {r cnt:Nat} {left:Lit→Bool} (h:IR w P k b r s f left cnt):IM w P k b s f:=by obtain⟨D,h,r⟩:=h;exact⟨D,h.owns,r⟩
theorem IR.left_eq {r cnt:Nat} {left:Lit→Bool} (h:IR w P k b r s f left cnt):w.rangeLeft b r=cnt:=by obtain⟨D,h,_⟩:=h;exact h.left_eq
theorem IR.lt {r cnt:Nat} {left:Lit→Bool} (h:IR w P k b r s f left cnt):r<w.heap.size:=by obtain⟨D,h,_⟩:=h;exact h.lt
theorem IR.ag {F:Xt} {r cnt:Nat} {left:Lit→Bool} (h:IR w P k b r s f left cnt) (a:Ag F w w') (hb:F b) (hr:F r):IR w' P k b r s f left cnt:=by
 obtain⟨D,⟨es,cl,si,se,c0,h1,h2,h3,h4,h5,h6⟩,q⟩:=h;exact⟨D,⟨es,cl,si,se,c0,a.keep _ _ h1 (.inl hb),h2,h3,h4,a.keep _ _ h5 (.inl hr),h6⟩,q⟩
theorem IR.below {r cnt:Nat} {left:Lit→Bool} (h:IR w P k b r s f left cnt) (hb:nD w w'):IR w' P k b r s f left cnt:=h.ag (F:=fun _=>True) (.of_below hb) trivial trivial
end
section
variable {P:Program} (w:World) {ops:Array Oper} {rest:List Oper} {o:Oper} {a:Act} {Q:Exit→Act→World→Prop}
theorem aCj (hg:o.guard=none) (m:Operand) (t:TypeId) (hop:o.op=Op.range t m) (k e:TypeId) (K:Keyed P k) (ht:P.underlying t=some (.map k e)) (b s:Nat) (f:Int→Option Value)
  (hm:a.eval m=.map (some b)) (h:IM w P k b s f)
  (hK:∀w' left,IR w' P k b w.heap.size s f left s→w.grownBy w' none→w'.heap.size=w.heap.size+1→wpList P ops Q rest (a.put o.dst (.pointer (some ⟨w.heap.size,0,none⟩))) w') :
  wpList P ops Q (o::rest) a w:=by
 obtain⟨D,h⟩:=h;refine wpList_range_own w hg m t hop k e K ht aGl b s D hm h.1 (fun w' h1 h2 h3=>hK w' (Maps.has D) ⟨D,?_,h.2⟩ h2 h3);rw[h.2.1] at h1;exact h1
theorem aDb (hg:o.guard=none) (it:Operand) (hop:o.op=Op.next it false) (k:TypeId) (K:Keyed P k) (hk:P.underlying k=some (.int .i64)) (b r s:Nat) (f:Int→Option Value) (left:Lit→Bool) (cnt:Nat)
  (hit:a.eval it=.pointer (some ⟨r,0,none⟩)) (h:IR w P k b r s f left cnt)
  (hDone:wpList P ops Q rest (a.put o.dst (.tuple #[.bool false])) w)
  (hMore:∀(x:Int) (c:Value) (w':World) (left':Lit→Bool) (cnt':Nat),Un x→f x=some c→IR w' P k b r s f left' cnt'→cnt' <cnt→w.grownBy w' (some r)→w'.heap.size=w.heap.size→
   (Instr.entry (.pointer (some ⟨r,0,none⟩))).run P w'=.ok (.tuple #[.int .i64 x,c]) w'→wpList P ops Q rest (a.put o.dst (.tuple #[.bool true,.int .i64 x,c])) w') :
  wpList P ops Q (o::rest) a w:=by
 obtain⟨D,h,hq⟩:=h;refine wpList_next_ranges w hg it hop k K aGl (Value.int .i64) id (fun key kl hkey=>by obtain⟨x,hx,_⟩:=Maps.keyOf_i64 hk hkey;exact⟨x,hx⟩) (fun v y _=>⟨v,rfl⟩) b r s D left cnt hit h (fun _ _=>hDone) (fun x c kl y w' cnt' hkey hlk hv hat hrg hlt hgr hsz hen=>?_);obtain⟨x',ex,rfl,hwx⟩:=Maps.keyOf_i64 hk hkey;obtain rfl:x=x':=encZ_inj ex;have hy:=aHb hv
 have hf:f x=some c:=by
  have h1:=hat (.held undef);have h2:=hq.2 x hwx (.held undef);rw[h2,hy] at h1
  cases hf:f x with
  | none =>
    exfalso
    have h3:=hat (.map []);rw[hq.2 x hwx,hf,hy] at h3;cases h3
  | some v=>rw[hf] at h1;injection h1 with h1;rw[h1];rfl
 exact hMore x c w' _ cnt' hwx hf ⟨D,hrg,hq⟩ hlt hgr hsz hen
end
section
variable {P:Program} (w:World) {ops:Array Oper} {rest:List Oper} {o:Oper} {a:Act} {Q:Exit→Act→World→Prop}
theorem aDc {K:Act→World→Prop} (m x v:Operand) (t:TypeId) (hop:o.op=Op.mapUpdate t m x v) (k e:TypeId) (KK:Keyed P k) (hk:P.underlying k=some (.int .i64)) (ht:P.underlying t=some (.map k e)) (b s:Nat) (f:Int→Option Value)
  (hm:a.eval m=.map (some b)) (h:IM w P k b s f) (hs:s≤1000000) (key:Int) (val:Value) (hx:a.eval x=.int .i64 key) (hv:a.eval v=val) (hw:Un key)
  (hK:∀w',IM w' P k b (Uv s (f key)) (upd f key (some val))→w.grownBy w' (some b)→K (a.put o.dst undef) w'):o.wp P a w K Q:=by
 obtain⟨w',hrun,h1,h2⟩:=h.update KK hk ht hs hw val;unfold Oper.wp
 simp[execOp,hop,hm,hx,hv,hrun,Result.andThen]
 exact hK w' h1 h2
theorem aGj (hg:o.guard=none) (m x v:Operand) (t:TypeId) (hop:o.op=Op.mapUpdate t m x v) (k e:TypeId) (KK:Keyed P k) (hk:P.underlying k=some (.int .i64)) (ht:P.underlying t=some (.map k e)) (b s:Nat) (f:Int→Option Value)
  (hm:a.eval m=.map (some b)) (h:IM w P k b s f) (hs:s≤1000000) (key:Int) (val:Value) (hx:a.eval x=.int .i64 key) (hv:a.eval v=val) (hw:Un key)
  (hK:∀w',IM w' P k b (Uv s (f key)) (upd f key (some val))→w.grownBy w' (some b)→wpList P ops Q rest (a.put o.dst undef) w'):wpList P ops Q (o::rest) a w :=
 wpList_plain hg fun _ hK'=>aDc w m x v t hop k e KK hk ht b s f hm h hs key val hx hv hw fun w' h1 h2=>hK' _ _ (hK w' h1 h2)
theorem aNd (hg:o.guard=none) (m x:Operand) (t k:TypeId) (hop:o.op=Op.call {callee:=Callee.builtin Builtin.delete,args:=#[m,x],argTypes:=#[t,k]}) (e:TypeId) (KK:Keyed P k) (hk:P.underlying k=some (.int .i64)) (ht:P.underlying t=some (.map k e)) (b s:Nat) (f:Int→Option Value)
  (hm:a.eval m=.map (some b)) (h:IM w P k b s f) (key:Int) (hx:a.eval x=.int .i64 key) (hw:Un key)
  (hK:∀w',IM w' P k b (if (f key).isSome then s - 1 else s) (upd f key none)→w.grownBy w' (some b)→wpList P ops Q rest (a.put o.dst (.tuple #[])) w'):wpList P ops Q (o::rest) a w:=by
 refine wpList_plain hg fun K' hK'=>?_
 obtain⟨w',hrun,r1,r2⟩:=h.strike KK hk ht hw o.type;unfold Oper.wp
 simp[execOp,hop,resolve,invoke,builtin,hm,hx,hrun,Result.andThen]
 exact hK' _ _ (hK w' r1 r2)
end
structure Fam (w:World) (F:Xt) (Ft:Nat→Xt):Prop where
 lt:In w F
 sub:∀i b,Ft i b→F b
 dis:∀i j,i≠j→Dis (Ft i) (Ft j)
def Uu (Ft:Nat→Xt) (j:Nat) (G:Xt):Nat→Xt:=fun i=>if i=j then G else Ft i
def orF (F G:Xt):Xt:=fun b=>F b∨G b
theorem Ua (Ft:Nat→Xt) (j:Nat) (G:Xt):Uu Ft j G j=G:=by unfold Uu;rw[if_pos rfl]
theorem aAb (Ft:Nat→Xt) {i j:Nat} (G:Xt) (h:i≠j):Uu Ft j G i=Ft i:=by unfold Uu;rw[if_neg h]
section
variable {w w':World} {F:Xt} {Ft:Nat→Xt}
theorem Fam.inn (h:Fam w F Ft) (i:Nat):In w (Ft i):=fun b q=>h.lt b (h.sub i b q)
theorem Fam.ag (h:Fam w F Ft) {i j:Nat} (k:Kf (Ft j) w w') (hn:i≠j):Ag (Ft i) w w':=k.ag (h.dis i j hn)
theorem Fam.kf (h:Fam w F Ft) {j:Nat} (k:Kf (Ft j) w w'):Kf F w w':=k.mono (h.sub j)
theorem Fam.sb (h:Fam w F Ft) {j:Nat} {G:Xt} (hs:Sb w (Ft j) G):Sb w F (orF F G):=fun b q=>q.elim .inl (fun g=>(hs b g).imp (h.sub j b) id)
theorem Fam.next (h:Fam w F Ft) (hs:w.heap.size≤w'.heap.size):Fam w' F Ft:=⟨h.lt.next hs,h.sub,h.dis⟩
theorem Fam.step (h:Fam w F Ft) {j:Nat} {G:Xt} (hz:w.heap.size≤w'.heap.size) (hs:Sb w (Ft j) G) (hi:In w' G):Fam w' (orF F G) (Uu Ft j G):=by
 refine⟨fun b q=>q.elim (fun e=>tL (h.lt b e) hz) (hi b),fun i b q=>?_,fun a c hn b q r=>?_⟩
 · by_cases e:i=j
   · subst e;rw[Ua] at q;exact .inr q
   · rw[aAb _ _ e] at q;exact .inl (h.sub i b q)
 · by_cases e1:a=j<;>by_cases e2:c=j
   · exact hn (e1.trans e2.symm)
   · subst e1;rw[Ua] at q;rw[aAb _ _ e2] at r;rcases hs b q with g|g
     · exact h.dis a c hn b g r
     · have:=h.inn c b r;omega
   · subst e2;rw[Ua] at r;rw[aAb _ _ e1] at q;rcases hs b r with g|g
     · exact h.dis a c hn b q g
     · have:=h.inn a b q;omega
   · rw[aAb _ _ e1] at q;rw[aAb _ _ e2] at r;exact h.dis a c hn b q r
theorem Sb.or {F G:Xt} (h:Sb w F G):Sb w F (orF F G):=fun b q=>q.elim .inl (h b)
end
structure Kb (w:World) (e size:Nat) (v:Value) (n:Nat) (xs:List Value):Prop where
 len:xs.length=n*size
 one:(v=.slice none 0 0∧n=0)∨∃g off cap cur,v=.slice (some ⟨g,off,none⟩) n cap∧w.heap[g]? =some (.cells cur e (0,0))∧n≤cap∧cap≤maxLen∧off+cap*size≤cur.size∧∀j u,xs[j]? =some u→w.cell? ⟨g,off+j,none⟩=some u
section
variable {w w':World} {e size n:Nat} {v:Value} {xs:List Value}
theorem Kb.of {B:Nat} (h:w.ownsRow B e size v n xs):Kb w e size v n xs:=by
 refine⟨h.1,?_⟩;rcases h.2 with h0|⟨g,cap,cur,hv,_,hh,hc,hm,hs,ht⟩
 · exact .inl h0
 · refine .inr ⟨g,0,cap,cur,hv,hh,hc,hm,by omega,fun j u hj=>?_⟩;have:=h.cells (g:=g) (by rw[hv];rfl) j u hj;rw[Addr.add_lit] at this;exact this
theorem Kb.nil (w:World) (e size:Nat):Kb w e size (.slice none 0 0) 0 []:=⟨by simp,.inl ⟨rfl,rfl⟩⟩
theorem Kb.ag {F:Xt} (h:Kb w e size v n xs) (k:Ag F w w') (hF:∀g,v.ownBlock=some g→F g):Kb w' e size v n xs:=by
 refine⟨h.len,?_⟩;rcases h.one with h0|⟨g,off,cap,cur,hv,hh,hc,hm,hs,hx⟩
 · exact .inl h0
 · have h2:=k.keep _ _ hh (.inl (hF g (by rw[hv];rfl)));refine .inr ⟨g,off,cap,cur,hv,h2,hc,hm,hs,fun j u hj=>?_⟩;rw[World.cell?_of_block (w:=w) (w':=w') (by rw[h2,hh])];exact hx j u hj
theorem Kb.shape (h:Kb w e size v n xs):∃A c,v=.slice A n c∧n≤c∧c≤maxLen:=by
 rcases h.one with ⟨hv,h0⟩|⟨g,off,cap,cur,hv,hh,hc,hm,_⟩
 · exact⟨none,0,by rw[h0];exact hv,by omega,by simp[maxLen]⟩
 · exact⟨_,cap,hv,hc,hm⟩
theorem Kb.at_ (h:Kb w e size v n xs) {g:Nat} (hg:v.ownBlock=some g):∃c fr,w.heap[g]? =some (.cells c e fr):=by
 rcases h.one with ⟨hv,h0⟩|⟨g',off,cap,cur,hv,hh,hc,hm,hs,hx⟩
 · rw[hv] at hg;cases hg
 · rw[hv] at hg;have hg:g'=g:=rT hg;subst hg;exact⟨_,_,hh⟩
theorem Kb.tail {g off cap:Nat} (h:Kb w e size (.slice (some ⟨g,off,none⟩) (n+1) cap) (n+1) xs):Kb w e size (.slice (some ⟨g,off+size,none⟩) n (cap - 1)) n (xs.drop size):=by
 refine⟨by rw[rN,h.len,Nat.add_mul];omega,?_⟩;rcases h.one with ⟨hv,h0⟩|⟨g',off',cap',cur,hv,hh,hc,hm,hs,hx⟩
 · cases hv
 · injection hv with hA _ e3;injection hA with hA;injection hA with e1 e2;subst e1 e2 e3;refine .inr ⟨g,off+size,cap - 1,cur,rfl,hh,by omega,by omega,?_,fun j u hj=>?_⟩
   · obtain⟨d,rfl⟩:∃d,cap=d+1:=⟨cap - 1,by omega⟩
     rw[Nat.add_sub_cancel];rw[Nat.add_mul] at hs;omega
   · rw[List.getElem?_drop] at hj;have:=hx _ u hj;rw[show off+size+j=off+(size+j) by omega];exact this
theorem Kb.empty {A:Option Addr} {c:Nat} {ys:List Value} (g off cap:Nat) {m:Nat} (h:Kb w e size (.slice (some ⟨g,off,none⟩) m cap) m ys):Kb w e size (.slice (some ⟨g,off,none⟩) 0 0) 0 []:=by
 refine⟨by simp,?_⟩;rcases h.one with ⟨hv,h0⟩|⟨g',off',cap',cur,hv,hh,hc,hm,hs,hx⟩
 · cases hv
 · injection hv with hA _ e3;injection hA with hA;injection hA with e1 e2;subst e1 e2;exact .inr ⟨g,off,0,cur,rfl,hh,lR,zL,by omega,fun j u hj=>by simp at hj⟩
end
theorem aDp (g:Nat) {e:TypeId} {fz:Nat×Nat}:∀(vs:List Value) (o:Nat) (w:World) (cur:Array Value),w.heap[g]? =some (.cells cur e fz)→∃cur',(w.setCells g o vs).heap[g]? =some (.cells cur' e fz)∧cur'.size=cur.size
 | [],o,w,cur,h=>⟨cur,h,rfl⟩
 | v::r,o,w,cur,h=>by
   have h1:∃c1,(w.setCell ⟨g,o,none⟩ v).heap[g]? =some (.cells c1 e fz)∧c1.size=cur.size:=by
    have hlt:=Vz h;have hg:w.heap[g]=.cells cur e fz:=by rw[Array.getElem?_eq_getElem hlt] at h;exact rT h
    exact⟨cur.setIfInBounds o v,by simp[World.setCell,hlt,Array.getElem_modify,hg],by simp⟩
   obtain⟨c1,h1,hs1⟩:=h1;obtain⟨c2,h2,hs2⟩:=aDp g r (o+1) _ c1 h1;exact⟨c2,h2,hs2.trans hs1⟩
theorem aDq (b:Nat):∀(vs:List Value) (o:Nat) (w:World),(w.setCells b o vs).heap.size=w.heap.size
 | [],_,_=>rfl
 | v::r,o,w=>by rw[World.setCells,aDq b r,World.size_setCell]
theorem aDr (b:Nat):∀(vs:List Value) (o:Nat) (w:World),(w.setCells b o vs).tape=w.tape
 | [],_,_=>rfl
 | v::r,o,w=>by
   rw[World.setCells,aDr b r];unfold World.setCell
   split<;>rfl
theorem aNv {w:World} {g:Nat} {cur:Array Value} {e:TypeId} {fz:Nat×Nat} (h:w.heap[g]? =some (.cells cur e fz)) (i:Nat):w.cell? ⟨g,i,none⟩=cur[i]?:=by
 simp[World.cell?,h]
theorem aFa {w:World} {g:Nat} {cur:Array Value} {e:TypeId} (h:w.heap[g]? =some (.cells cur e (0,0))) (i:Nat):w.frozen? ⟨g,i,none⟩=false:=by
 simp[World.frozen?,h]
section
variable {P:Program} {w:World}
theorem aWg (t ty e:TypeId) (i:TypeInfo) (z:Value) (size bytes:Nat) (ht:P.underlying t=some (.slice e)) (hi:P.info? e=some i) (hz:i.zero=some z)
  (hsize:i.size=size) (hby:i.bytes=bytes) (hzs:z.cells.size=size) (hs0:0<size)
  (v:Value) (n:Nat) (xs:List Value) (hown:Kb w e size v n xs)
  (a:Addr) (m c:Nat) (news:List Value) (hl:news.length=m*size) (hnews:∀j u,news[j]? =some u→w.cell? (a.add j)=some u) (h1:∀u∈news,u.oneCell'=true)
  (h63:n+m≤1000000) (hbytes:bytes≤1000) :
  ∃v' w',(Builtin.append_ #[t,t] ty #[v,.slice (some a) m c]).run P w=.ok v' w'∧Kb w' e size v' (n+m) (xs++news)∧w.grownBy w' v.ownBlock∧(v'.ownBlock=v.ownBlock∨∀g,v'.ownBlock=some g→w.heap.size≤g):=by
 have hmul:(n+m)*bytes≤140737488355328:=tK (Nat.mul_le_mul h63 hbytes) (by decide);rcases hown.one with ⟨rfl,rfl⟩|⟨g,off,cap,cur,rfl,hh,hc,hm,hs,hx⟩
 · obtain rfl:xs=[]:=List.eq_nil_of_length_eq_zero (by simpa using hown.len);obtain⟨v',w',hr,h2,h3,_,h5⟩:=run_append_own_at (P:=P) w w.heap.size t ty e i z size bytes ht hi hz hsize hby hzs hs0 (.slice none 0 0) 0 [] (World.ownsRow_nil w _ e size) a m c news hl hnews h1 (by simp only[maxLen];omega) hmul lR;refine⟨v',w',hr,Kb.of h2,h3,?_⟩;rcases h5 with h5|h5
   · exact .inl h5
   · exact .inr (fun g hg=>by rw[h5] at hg;injection hg with hg;omega)
 · by_cases hroom:n+m≤cap
   · subst hsize
     have hfit:off+n*i.size+news.length≤cur.size:=by
      rw[hl,Nat.add_assoc,←Nat.add_mul];exact tK (Nat.add_le_add_left (Nat.mul_le_mul_right _ hroom) _) hs
     have hth:∀j,j<news.length→(w.cell? ⟨g,off+n*i.size+j,none⟩).isSome=true:=fun j hj=>by
      rw[aNv hh,Array.getElem?_eq_getElem (by omega)];rfl
     have hr:=run_append_room_cells (P:=P) w t ty e i ht hi g off n cap a m c news hl hnews h1 hroom hth (fun j hj=>aFa hh _);obtain⟨cur',h2,hs2⟩:=aDp g news (off+n*i.size) w cur hh;refine⟨_,_,hr,⟨by rw[rH,hown.len,hl,Nat.add_mul],.inr ⟨g,off,cap,cur',rfl,h2,hroom,hm,by rw[hs2];exact hs,fun j u hj=>?_⟩⟩,⟨World.os_setCells _ _ _ _,?_,World.output_setCells _ _ _ _,tO (aDq _ _ _ _).symm,fun k hk hne=>World.heap_setCells_other w g _ news hk (fun e=>hne (by rw[e];rfl))⟩,.inl rfl⟩
     · rcases tN j xs.length with hj2|hj2
       · rw[rO hj2] at hj;rw[World.cell?_setCells_out g news _ w _ (fun _ _=>.inl (by show off+j<_;have:=hown.len;omega))];exact hx j u hj
       · rw[rP hj2] at hj;have hl2:=hown.len;have hjn:j - xs.length<news.length:=(rB.1 hj).1;have:=World.cell?_setCells_in g news (off+n*i.size) w hth (j - xs.length) hjn;rw[show off+n*i.size+(j - xs.length)=off+j by omega] at this;rw[this];rw[tX hjn] at hj;exact hj
     · exact aDr _ _ _ _
   · obtain⟨v',w',hr,r1,r2⟩:=run_append_arg_grows (P:=P) w t ty e i z size bytes ht hi hz hsize hby hzs hs0 ⟨g,off,none⟩ n cap xs hown.len (fun j u hj=>by rw[Addr.add_lit];exact hx j u hj) a m c news hl hnews (by omega) (by simp only[maxLen];omega) hmul;refine⟨v',w',hr,Kb.of r1,⟨r2.os,r2.tape,r2.output,r2.size,fun k hk _=>r2.block k hk (by simp)⟩,?_⟩;exact .inr (fun g hg=>Xv r1 hg)
end
end Go.Proofs.YtdhlicgaalnmoaaGreatDoor.Tp
namespace Go.Proofs
open Lib (hid)
open Tryz
open Go.RowKit Go.Maps
set_option maxHeartbeats 8000000
set_option maxRecDepth 100000
section
open Go.Shelf
def Tryz.sortE_ren:Go.Shelf.Ren:=⟨fun|6=>263|15=>257|14=>312|28=>309|29=>310|20=>350|21=>351|22=>352|23=>353|24=>354|25=>355|26=>356|27=>357|46=>382|47=>346|48=>347|49=>383|50=>384|57=>397|n=>n,fun|22=>297|24=>46|25=>340|3=>3|39=>262|0=>0|53=>186|55=>184|4=>4|46=>377|45=>376|50=>136|5=>5|9=>9|66=>415|70=>419|76=>452|77=>453|n=>n,fun|n=>n⟩
theorem Tryz.sortE:Go.Proofs.SlLaysF0.n6 prog Tryz.sortE_ren:={
 mixed:=by kernel_rfl
 f6:=⟨f263.name,by decide,func263.trans (congrArg some (by kernel_rfl))⟩
 f14:=⟨f312.name,by decide,func312.trans (congrArg some (by kernel_rfl))⟩
 f15:=func257.trans (congrArg some (by kernel_rfl))
 f20:=⟨f350.name,by decide,func350.trans (congrArg some (by kernel_rfl))⟩
 f21:=⟨f351.name,by decide,func351.trans (congrArg some (by kernel_rfl))⟩
 f22:=⟨f352.name,by decide,func352.trans (congrArg some (by kernel_rfl))⟩
 f23:=⟨f353.name,by decide,func353.trans (congrArg some (by kernel_rfl))⟩
 f24:=⟨f354.name,by decide,func354.trans (congrArg some (by kernel_rfl))⟩
 f25:=⟨f355.name,by decide,func355.trans (congrArg some (by kernel_rfl))⟩
 f26:=⟨f356.name,by decide,func356.trans (congrArg some (by kernel_rfl))⟩
 f27:=⟨f357.name,by decide,func357.trans (congrArg some (by kernel_rfl))⟩
 f28:=func309.trans (congrArg some (by kernel_rfl))
 f29:=func310.trans (congrArg some (by kernel_rfl))
 f46:=⟨f382.name,by decide,func382.trans (congrArg some (by kernel_rfl))⟩
 f47:=func346.trans (congrArg some (by kernel_rfl))
 f48:=func347.trans (congrArg some (by kernel_rfl))
 f49:=⟨f383.name,by decide,func383.trans (congrArg some (by kernel_rfl))⟩
 f50:=⟨f384.name,by decide,func384.trans (congrArg some (by kernel_rfl))⟩
 f57:=⟨f397.name,by decide,func397.trans (congrArg some (by kernel_rfl))⟩
 t0:=underlying0
 a0:=Tryz.isAgg0
 z0:=Tryz.sizeOf0
 v0:=Tryz.zeroValue0
 t3:=underlying3
 a3:=Tryz.isAgg3
 z3:=Tryz.sizeOf3
 v3:=Tryz.zeroValue3
 t4:=underlying4
 a4:=Tryz.isAgg4
 z4:=Tryz.sizeOf4
 v4:=Tryz.zeroValue4
 t5:=underlying5
 a5:=Tryz.isAgg5
 z5:=Tryz.sizeOf5
 v5:=Tryz.zeroValue5
 t9:=underlying9
 a9:=Tryz.isAgg9
 z9:=Tryz.sizeOf9
 v9:=Tryz.zeroValue9
 t22:=underlying297
 a22:=Tryz.isAgg297
 z22:=Tryz.sizeOf297
 v22:=Tryz.zeroValue297
 t25:=underlying340
 a25:=Tryz.isAgg340
 z25:=Tryz.sizeOf340
 v25:=Tryz.zeroValue340
 t39:=underlying262
 a39:=Tryz.isAgg262
 z39:=Tryz.sizeOf262
 v39:=Tryz.zeroValue262
 t45:=underlying376
 a45:=Tryz.isAgg376
 z45:=Tryz.sizeOf376
 v45:=Tryz.zeroValue376
 t46:=underlying377
 a46:=Tryz.isAgg377
 z46:=Tryz.sizeOf377
 v46:=Tryz.zeroValue377
 t50:=underlying136
 a50:=Tryz.isAgg136
 z50:=Tryz.sizeOf136
 v50:=Tryz.zeroValue136
 t53:=underlying186
 a53:=Tryz.isAgg186
 z53:=Tryz.sizeOf186
 v53:=Tryz.zeroValue186
 t55:=underlying184
 a55:=Tryz.isAgg184
 z55:=Tryz.sizeOf184
 v55:=Tryz.zeroValue184
 t66:=underlying415
 a66:=Tryz.isAgg415
 z66:=Tryz.sizeOf415
 v66:=Tryz.zeroValue415
 t70:=underlying419
 a70:=Tryz.isAgg419
 z70:=Tryz.sizeOf419
 v70:=Tryz.zeroValue419
 t76:=underlying452
 a76:=Tryz.isAgg452
 z76:=Tryz.sizeOf452
 v76:=Tryz.zeroValue452
 t77:=underlying453
 a77:=Tryz.isAgg453
 z77:=Tryz.sizeOf453
 v77:=Tryz.zeroValue453}
def Tryz.sortI_ren:Go.Shelf.Ren:=⟨fun|5=>203|8=>257|7=>256|19=>309|20=>310|10=>300|11=>301|12=>302|13=>303|14=>304|15=>305|16=>306|17=>307|18=>308|30=>345|31=>346|32=>347|33=>348|34=>349|35=>313|40=>381|n=>n,fun|23=>23|25=>3|3=>3|32=>262|22=>23|0=>0|44=>186|46=>184|4=>4|36=>377|35=>376|41=>136|5=>5|9=>9|53=>415|57=>419|63=>452|64=>453|n=>n,fun|n=>n⟩
theorem Tryz.sortI:Go.Proofs.SlLaysM.n5 prog Tryz.sortI_ren:={
 mixed:=by kernel_rfl
 f5:=⟨f203.name,by decide,func203.trans (congrArg some (by kernel_rfl))⟩
 f7:=⟨f256.name,by decide,func256.trans (congrArg some (by kernel_rfl))⟩
 f8:=func257.trans (congrArg some (by kernel_rfl))
 f10:=⟨f300.name,by decide,func300.trans (congrArg some (by kernel_rfl))⟩
 f11:=⟨f301.name,by decide,func301.trans (congrArg some (by kernel_rfl))⟩
 f12:=⟨f302.name,by decide,func302.trans (congrArg some (by kernel_rfl))⟩
 f13:=⟨f303.name,by decide,func303.trans (congrArg some (by kernel_rfl))⟩
 f14:=⟨f304.name,by decide,func304.trans (congrArg some (by kernel_rfl))⟩
 f15:=⟨f305.name,by decide,func305.trans (congrArg some (by kernel_rfl))⟩
 f16:=⟨f306.name,by decide,func306.trans (congrArg some (by kernel_rfl))⟩
 f17:=⟨f307.name,by decide,func307.trans (congrArg some (by kernel_rfl))⟩
 f18:=⟨f308.name,by decide,func308.trans (congrArg some (by kernel_rfl))⟩
 f19:=func309.trans (congrArg some (by kernel_rfl))
 f20:=func310.trans (congrArg some (by kernel_rfl))
 f30:=⟨f345.name,by decide,func345.trans (congrArg some (by kernel_rfl))⟩
 f31:=func346.trans (congrArg some (by kernel_rfl))
 f32:=func347.trans (congrArg some (by kernel_rfl))
 f33:=⟨f348.name,by decide,func348.trans (congrArg some (by kernel_rfl))⟩
 f34:=⟨f349.name,by decide,func349.trans (congrArg some (by kernel_rfl))⟩
 f35:=⟨f313.name,by decide,func313.trans (congrArg some (by kernel_rfl))⟩
 f40:=⟨f381.name,by decide,func381.trans (congrArg some (by kernel_rfl))⟩
 t0:=underlying0
 a0:=Tryz.isAgg0
 z0:=Tryz.sizeOf0
 v0:=Tryz.zeroValue0
 t3:=underlying3
 a3:=Tryz.isAgg3
 z3:=Tryz.sizeOf3
 v3:=Tryz.zeroValue3
 t4:=underlying4
 a4:=Tryz.isAgg4
 z4:=Tryz.sizeOf4
 v4:=Tryz.zeroValue4
 t5:=underlying5
 a5:=Tryz.isAgg5
 z5:=Tryz.sizeOf5
 v5:=Tryz.zeroValue5
 t9:=underlying9
 a9:=Tryz.isAgg9
 z9:=Tryz.sizeOf9
 v9:=Tryz.zeroValue9
 t22:=underlying23
 a22:=Tryz.isAgg23
 z22:=Tryz.sizeOf23
 v22:=Tryz.zeroValue23
 t23:=underlying23
 a23:=Tryz.isAgg23
 z23:=Tryz.sizeOf23
 v23:=Tryz.zeroValue23
 t25:=underlying3
 a25:=Tryz.isAgg3
 z25:=Tryz.sizeOf3
 v25:=Tryz.zeroValue3
 t32:=underlying262
 a32:=Tryz.isAgg262
 z32:=Tryz.sizeOf262
 v32:=Tryz.zeroValue262
 t35:=underlying376
 a35:=Tryz.isAgg376
 z35:=Tryz.sizeOf376
 v35:=Tryz.zeroValue376
 t36:=underlying377
 a36:=Tryz.isAgg377
 z36:=Tryz.sizeOf377
 v36:=Tryz.zeroValue377
 t41:=underlying136
 a41:=Tryz.isAgg136
 z41:=Tryz.sizeOf136
 v41:=Tryz.zeroValue136
 t44:=underlying186
 a44:=Tryz.isAgg186
 z44:=Tryz.sizeOf186
 v44:=Tryz.zeroValue186
 t46:=underlying184
 a46:=Tryz.isAgg184
 z46:=Tryz.sizeOf184
 v46:=Tryz.zeroValue184
 t53:=underlying415
 a53:=Tryz.isAgg415
 z53:=Tryz.sizeOf415
 v53:=Tryz.zeroValue415
 t57:=underlying419
 a57:=Tryz.isAgg419
 z57:=Tryz.sizeOf419
 v57:=Tryz.zeroValue419
 t63:=underlying452
 a63:=Tryz.isAgg452
 z63:=Tryz.sizeOf452
 v63:=Tryz.zeroValue452
 t64:=underlying453
 a64:=Tryz.isAgg453
 z64:=Tryz.sizeOf453
 v64:=Tryz.zeroValue453}
def Tryz.sortedI_ren:Go.Shelf.Ren:=⟨fun|6=>146|8=>202|9=>203|11=>255|13=>257|12=>256|23=>309|24=>310|14=>300|15=>301|16=>302|17=>303|18=>304|19=>305|20=>306|21=>307|22=>308|25=>345|26=>346|27=>347|28=>348|29=>349|30=>313|31=>381|n=>n,fun|26=>3|28=>233|24=>23|0=>0|3=>3|37=>262|48=>186|50=>184|4=>4|40=>377|39=>376|45=>136|5=>5|9=>9|51=>415|55=>419|57=>452|58=>453|33=>263|n=>n,fun|n=>n⟩
theorem Tryz.sortedI:Go.Proofs.SlLaysZI.n6 prog Tryz.sortedI_ren:={
 mixed:=by kernel_rfl
 f6:=⟨f146.name,by decide,func146.trans (congrArg some (by kernel_rfl))⟩
 f8:=⟨f202.name,by decide,func202.trans (congrArg some (by kernel_rfl))⟩
 f11:=⟨f255.name,by decide,func255.trans (congrArg some (by kernel_rfl))⟩
 t0:=underlying0
 a0:=Tryz.isAgg0
 z0:=Tryz.sizeOf0
 v0:=Tryz.zeroValue0
 t24:=underlying23
 a24:=Tryz.isAgg23
 z24:=Tryz.sizeOf23
 v24:=Tryz.zeroValue23
 t26:=underlying3
 a26:=Tryz.isAgg3
 z26:=Tryz.sizeOf3
 v26:=Tryz.zeroValue3
 t28:=underlying233
 a28:=Tryz.isAgg233
 z28:=Tryz.sizeOf233
 v28:=Tryz.zeroValue233
 i26:=by kernel_rfl}
def Tryz.keysbyte_ren:Go.Shelf.Ren:=⟨fun|7=>147|10=>204|n=>n,fun|23=>157|26=>3|3=>41|28=>233|0=>0|27=>232|33=>263|4=>4|n=>n,fun|n=>n⟩
theorem Tryz.keysbyte:Go.Proofs.SlLaysZI.n7 prog Tryz.keysbyte_ren:={
 mixed:=by kernel_rfl
 f7:=⟨f147.name,by decide,func147.trans (congrArg some (by kernel_rfl))⟩
 f10:=⟨f204.name,by decide,func204.trans (congrArg some (by kernel_rfl))⟩
 t0:=underlying0
 a0:=Tryz.isAgg0
 z0:=Tryz.sizeOf0
 v0:=Tryz.zeroValue0
 t4:=underlying4
 a4:=Tryz.isAgg4
 z4:=Tryz.sizeOf4
 v4:=Tryz.zeroValue4
 t23:=underlying157
 a23:=Tryz.isAgg157
 z23:=Tryz.sizeOf157
 v23:=Tryz.zeroValue157
 t26:=underlying3
 a26:=Tryz.isAgg3
 z26:=Tryz.sizeOf3
 v26:=Tryz.zeroValue3
 t27:=underlying232
 a27:=Tryz.isAgg232
 z27:=Tryz.sizeOf232
 v27:=Tryz.zeroValue232
 t28:=underlying233
 a28:=Tryz.isAgg233
 z28:=Tryz.sizeOf233
 v28:=Tryz.zeroValue233
 t33:=underlying263
 a33:=Tryz.isAgg263
 z33:=Tryz.sizeOf263
 v33:=Tryz.zeroValue263}
def Tryz.keysint_ren:Go.Shelf.Ren:=⟨fun|7=>205|10=>258|n=>n,fun|23=>235|26=>3|3=>3|28=>233|0=>0|27=>232|33=>263|4=>4|n=>n,fun|n=>n⟩
theorem Tryz.keysint:Go.Proofs.SlLaysZI.n7 prog Tryz.keysint_ren:={
 mixed:=by kernel_rfl
 f7:=⟨f205.name,by decide,func205.trans (congrArg some (by kernel_rfl))⟩
 f10:=⟨f258.name,by decide,func258.trans (congrArg some (by kernel_rfl))⟩
 t0:=underlying0
 a0:=Tryz.isAgg0
 z0:=Tryz.sizeOf0
 v0:=Tryz.zeroValue0
 t4:=underlying4
 a4:=Tryz.isAgg4
 z4:=Tryz.sizeOf4
 v4:=Tryz.zeroValue4
 t23:=underlying235
 a23:=Tryz.isAgg235
 z23:=Tryz.sizeOf235
 v23:=Tryz.zeroValue235
 t26:=underlying3
 a26:=Tryz.isAgg3
 z26:=Tryz.sizeOf3
 v26:=Tryz.zeroValue3
 t27:=underlying232
 a27:=Tryz.isAgg232
 z27:=Tryz.sizeOf232
 v27:=Tryz.zeroValue232
 t28:=underlying233
 a28:=Tryz.isAgg233
 z28:=Tryz.sizeOf233
 v28:=Tryz.zeroValue233
 t33:=underlying263
 a33:=Tryz.isAgg263
 z33:=Tryz.sizeOf263
 v33:=Tryz.zeroValue263}
def Tryz.keysscarpextmapversion_ren:Go.Shelf.Ren:=⟨fun|7=>220|10=>273|n=>n,fun|23=>240|26=>3|3=>264|28=>233|0=>0|27=>232|33=>263|4=>4|n=>n,fun|n=>n⟩
theorem Tryz.keysscarpextmapversion:Go.Proofs.SlLaysZI.n7 prog Tryz.keysscarpextmapversion_ren:={
 mixed:=by kernel_rfl
 f7:=⟨f220.name,by decide,func220.trans (congrArg some (by kernel_rfl))⟩
 f10:=⟨f273.name,by decide,func273.trans (congrArg some (by kernel_rfl))⟩
 t0:=underlying0
 a0:=Tryz.isAgg0
 z0:=Tryz.sizeOf0
 v0:=Tryz.zeroValue0
 t4:=underlying4
 a4:=Tryz.isAgg4
 z4:=Tryz.sizeOf4
 v4:=Tryz.zeroValue4
 t23:=underlying240
 a23:=Tryz.isAgg240
 z23:=Tryz.sizeOf240
 v23:=Tryz.zeroValue240
 t26:=underlying3
 a26:=Tryz.isAgg3
 z26:=Tryz.sizeOf3
 v26:=Tryz.zeroValue3
 t27:=underlying232
 a27:=Tryz.isAgg232
 z27:=Tryz.sizeOf232
 v27:=Tryz.zeroValue232
 t28:=underlying233
 a28:=Tryz.isAgg233
 z28:=Tryz.sizeOf233
 v28:=Tryz.zeroValue233
 t33:=underlying263
 a33:=Tryz.isAgg263
 z33:=Tryz.sizeOf263
 v33:=Tryz.zeroValue263}
end
end Go.Proofs
namespace Go.Proofs.YtdhlicgaalnmoaaGreatDoor.Tp
open Lib (hid)
open Tryz
open Go.RowKit Go.Maps
set_option maxHeartbeats 8000000
set_option maxRecDepth 100000
section
open Go.Sort Go.Shelf
theorem Uy:Keyed prog 3:=int_keyed underlying3
theorem Ug:prog.underlying 3=some (.int .i64):=underlying3
theorem aOv (m:Nat):AnyZI.SortsIn prog Tryz.sortedI_ren Fence.wide m :=
 ⟨fun blk off cap ss W hH hblk hsz=>callsIn_wide.2 (AnyM.slices_Sort_int Tryz.sortI blk off cap ss W hH hblk hsz),
  fun p cap W=>callsIn_wide.2 (AnyM.slices_Sort_int_none Tryz.sortI p cap W)⟩
theorem aJd (b:Nat) (w:World):Calls prog 147 #[.map (some b)] w fun e w'=>e=.returned (.func (.func 204) #[] #[.pointer (some ⟨w.heap.size,0,none⟩)])∧w'=(w.alloc (.cells #[.map (some b)] 157)) :=
 (callsIn_wide (n:=5)).1 (AnyZI.keys_in Tryz.keysbyte Fence.wide 5 trivial rfl (some b) w)
theorem aGh (b s:Nat) (f:Int→Option Value) (w:World) (h:IM w prog 3 b s f) (hs:s≤1000000) :
  Calls prog 146 #[.func (.func 204) #[] #[.pointer (some ⟨w.heap.size,0,none⟩)]] (w.alloc (.cells #[.map (some b)] 157)) fun e w'=>(∃v ks,e=.returned v∧aEk s f ks∧w'.ownsRow 0 3 1 v s (ks.map (Value.int .i64)))∧nD w w':=by
 obtain⟨D,h⟩:=h;have hown:=h.1;have hbl:=hown.lt
 have hseq:SeqGives Fence.wide 2 prog 204 #[.pointer (some ⟨w.heap.size,0,none⟩)] encZ (fun ss=>ss.Perm (intKeys D)) (Maps.size D) (w.alloc (.cells #[.map (some b)] 157)) :=
  AnyZI.keys_gives (ρ :=Tryz.keysbyte_ren) {Tryz.keysbyte with} Fence.wide _ trivial rfl (by omega) w.heap.size b s D _ (by simp) (by simp) (by
   obtain⟨es,clock,hb,Ft,hs,hD⟩:=hown;exact⟨es,clock,(Below.heap_alloc _ _ b hbl).trans hb,Ft,hs,hD⟩)
 have cS:=AnyZI.sorted_in Tryz.sortedI Fence.wide 5 trivial trivial trivial trivial rfl (by omega) (aOv _) (enters_of func203 (by kernel_rfl) rfl) 204 #[.pointer (some ⟨w.heap.size,0,none⟩)] trivial (enters_of func204 (by kernel_rfl) rfl) _ _ (by rw[h.2.1];simp only[maxLen];omega) (by rw[h.2.1];omega) _ hseq;change CallsIn _ _ prog 146 _ _ _ at cS;refine((callsIn_wide (n:=5)).1 cS).mono ?_;rintro e w' ⟨v,ss,rfl,hS,hrow,_,hb⟩;have hk:=h.sorted Uy Ug hS;refine⟨⟨v,_,rfl,hk,?_⟩,((Below.refl _ w).alloc lR _).trans (hb.mono (by simp))⟩;have hl:ss.length=s:=by rw[←hk.len,List.length_mergeSort]
 rw[←hl];exact ownsRow_base_a hrow zL
theorem aRp (b:Nat) (w:World):Calls prog 220 #[.map (some b)] w fun e w'=>e=.returned (.func (.func 273) #[] #[.pointer (some ⟨w.heap.size,0,none⟩)])∧w'=(w.alloc (.cells #[.map (some b)] 240)) :=
 (callsIn_wide (n:=5)).1 (AnyZI.keys_in Tryz.keysscarpextmapversion Fence.wide 5 trivial rfl (some b) w)
theorem aMw (b s:Nat) (f:Int→Option Value) (w:World) (h:IM w prog 3 b s f) (hs:s≤1000000) :
  Calls prog 146 #[.func (.func 273) #[] #[.pointer (some ⟨w.heap.size,0,none⟩)]] (w.alloc (.cells #[.map (some b)] 240)) fun e w'=>(∃v ks,e=.returned v∧aEk s f ks∧w'.ownsRow 0 3 1 v s (ks.map (Value.int .i64)))∧nD w w':=by
 obtain⟨D,h⟩:=h;have hown:=h.1;have hbl:=hown.lt
 have hseq:SeqGives Fence.wide 2 prog 273 #[.pointer (some ⟨w.heap.size,0,none⟩)] encZ (fun ss=>ss.Perm (intKeys D)) (Maps.size D) (w.alloc (.cells #[.map (some b)] 240)) :=
  AnyZI.keys_gives (ρ :=Tryz.keysscarpextmapversion_ren) {Tryz.keysscarpextmapversion with} Fence.wide _ trivial rfl (by omega) w.heap.size b s D _ (by simp) (by simp) (by
   obtain⟨es,clock,hb,Ft,hs,hD⟩:=hown;exact⟨es,clock,(Below.heap_alloc _ _ b hbl).trans hb,Ft,hs,hD⟩)
 have cS:=AnyZI.sorted_in Tryz.sortedI Fence.wide 5 trivial trivial trivial trivial rfl (by omega) (aOv _) (enters_of func203 (by kernel_rfl) rfl) 273 #[.pointer (some ⟨w.heap.size,0,none⟩)] trivial (enters_of func273 (by kernel_rfl) rfl) _ _ (by rw[h.2.1];simp only[maxLen];omega) (by rw[h.2.1];omega) _ hseq;change CallsIn _ _ prog 146 _ _ _ at cS;refine((callsIn_wide (n:=5)).1 cS).mono ?_;rintro e w' ⟨v,ss,rfl,hS,hrow,_,hb⟩;have hk:=h.sorted Uy Ug hS;refine⟨⟨v,_,rfl,hk,?_⟩,((Below.refl _ w).alloc lR _).trans (hb.mono (by simp))⟩;have hl:ss.length=s:=by rw[←hk.len,List.length_mergeSort]
 rw[←hl];exact ownsRow_base_a hrow zL
theorem aRo (b:Nat) (w:World):Calls prog 205 #[.map (some b)] w fun e w'=>e=.returned (.func (.func 258) #[] #[.pointer (some ⟨w.heap.size,0,none⟩)])∧w'=(w.alloc (.cells #[.map (some b)] 235)) :=
 (callsIn_wide (n:=5)).1 (AnyZI.keys_in Tryz.keysint Fence.wide 5 trivial rfl (some b) w)
theorem aMv (b s:Nat) (f:Int→Option Value) (w:World) (h:IM w prog 3 b s f) (hs:s≤1000000) :
  Calls prog 146 #[.func (.func 258) #[] #[.pointer (some ⟨w.heap.size,0,none⟩)]] (w.alloc (.cells #[.map (some b)] 235)) fun e w'=>(∃v ks,e=.returned v∧aEk s f ks∧w'.ownsRow 0 3 1 v s (ks.map (Value.int .i64)))∧nD w w':=by
 obtain⟨D,h⟩:=h;have hown:=h.1;have hbl:=hown.lt
 have hseq:SeqGives Fence.wide 2 prog 258 #[.pointer (some ⟨w.heap.size,0,none⟩)] encZ (fun ss=>ss.Perm (intKeys D)) (Maps.size D) (w.alloc (.cells #[.map (some b)] 235)) :=
  AnyZI.keys_gives (ρ :=Tryz.keysint_ren) {Tryz.keysint with} Fence.wide _ trivial rfl (by omega) w.heap.size b s D _ (by simp) (by simp) (by
   obtain⟨es,clock,hb,Ft,hs,hD⟩:=hown;exact⟨es,clock,(Below.heap_alloc _ _ b hbl).trans hb,Ft,hs,hD⟩)
 have cS:=AnyZI.sorted_in Tryz.sortedI Fence.wide 5 trivial trivial trivial trivial rfl (by omega) (aOv _) (enters_of func203 (by kernel_rfl) rfl) 258 #[.pointer (some ⟨w.heap.size,0,none⟩)] trivial (enters_of func258 (by kernel_rfl) rfl) _ _ (by rw[h.2.1];simp only[maxLen];omega) (by rw[h.2.1];omega) _ hseq;change CallsIn _ _ prog 146 _ _ _ at cS;refine((callsIn_wide (n:=5)).1 cS).mono ?_;rintro e w' ⟨v,ss,rfl,hS,hrow,_,hb⟩;have hk:=h.sorted Uy Ug hS;refine⟨⟨v,_,rfl,hk,?_⟩,((Below.refl _ w).alloc lR _).trans (hb.mono (by simp))⟩;have hl:ss.length=s:=by rw[←hk.len,List.length_mergeSort]
 rw[←hl];exact ownsRow_base_a hrow zL
end
theorem Uf {a b:Bool} (h:a=b):Ending.returned (.bool a)=.returned (.bool b):=by rw[h]
def Kg (x:ExD):Bool:=decide (0≤x.f)&&decide (x.f≤1048576)&&decide (1≤x.l)&&decide (x.l≤1048576)&&decide (x.f+x.l≤1048577)
def aDl (x e:ExD):Bool:=decide (x.f<wrap64 (e.f+e.l))&&decide (e.f<wrap64 (x.f+x.l))
theorem aGs (x:ExD) (w:World) :
  Calls prog 261 #[.agg #[.int .i64 x.f,.int .i64 x.l]] w fun e w'=>e=.returned (.bool (Kg x))∧nD w w':=by
 obtain⟨w5,hw5⟩:=nC (w.alloc (.cells #[.int .i64 x.f,.int .i64 x.l] 46));have hB5:Bk w5 w.heap.size 46 [.int .i64 x.f,.int .i64 x.l]:=by rw[←hw5];exact Bk.new w _ _
 have hb5:nD w w5:=by rw[←hw5];exact nB.alloc lR _
 obtain⟨d0,d1⟩:=hB5.c2;by_cases g0:0≤x.f;rotate_left
 · have t0:decide (0≤x.f)=false:=rY g0;have HR:=hid (show Kg x=false by simp only[Kg,t0,Bool.false_and,Bool.and_false,Bool.true_and]);clear g0;go_enter func261,ntmps261
   go_wp2_with fail
   go_ret;exact⟨Uf HR.o.symm,hb5⟩
 have t0:decide (0≤x.f)=true:=rZ g0;by_cases g1:x.f≤1048576;rotate_left
 · have t1:decide (x.f≤1048576)=false:=rY g1;have HR:=hid (show Kg x=false by simp only[Kg,t0,t1,Bool.false_and,Bool.and_false,Bool.true_and]);clear g1;go_enter func261,ntmps261
   go_wp2_with fail
   go_ret;exact⟨Uf HR.o.symm,hb5⟩
 have t1:decide (x.f≤1048576)=true:=rZ g1;by_cases g2:1≤x.l;rotate_left
 · have t2:decide (1≤x.l)=false:=rY g2;have HR:=hid (show Kg x=false by simp only[Kg,t0,t1,t2,Bool.false_and,Bool.and_false,Bool.true_and]);clear g2;go_enter func261,ntmps261
   go_wp2_with fail
   go_ret;exact⟨Uf HR.o.symm,hb5⟩
 have t2:decide (1≤x.l)=true:=rZ g2;by_cases g3:x.l≤1048576;rotate_left
 · have t3:decide (x.l≤1048576)=false:=rY g3;have HR:=hid (show Kg x=false by simp only[Kg,t0,t1,t2,t3,Bool.false_and,Bool.and_false,Bool.true_and]);clear g3;go_enter func261,ntmps261
   go_wp2_with fail
   go_ret;exact⟨Uf HR.o.symm,hb5⟩
 have t3:decide (x.l≤1048576)=true:=rZ g3;by_cases g4:x.f+x.l≤1048577;rotate_left
 · have t4:decide (x.f+x.l≤1048577)=false:=rY g4;have HR:=hid (show Kg x=false by simp only[Kg,t0,t1,t2,t3,t4,Bool.false_and,Bool.and_false,Bool.true_and]);clear g4;go_enter func261,ntmps261
   go_wp2_with fail
   go_ret;exact⟨Uf HR.o.symm,hb5⟩
 have t4:decide (x.f+x.l≤1048577)=true:=rZ g4;have HR:=hid (show Kg x=true by simp only[Kg,t0,t1,t2,t3,t4,Bool.and_true]);go_enter func261,ntmps261
 go_wp2_with fail
 go_ret;exact⟨Uf HR.o.symm,hb5⟩
theorem aVg (x y:ExD) (w:World) :
  Calls prog 359 #[.agg #[.int .i64 x.f,.int .i64 x.l],.agg #[.int .i64 y.f,.int .i64 y.l]] w fun e w'=>e=.returned (.bool (aDl x y))∧nD w w':=by
 obtain⟨w5,hw5⟩:=nC (w.alloc (.cells #[.int .i64 x.f,.int .i64 x.l] 46));have hB5:Bk w5 w.heap.size 46 [.int .i64 x.f,.int .i64 x.l]:=by rw[←hw5];exact Bk.new w _ _
 have hb5:nD w w5:=by rw[←hw5];exact nB.alloc lR _
 obtain⟨d0,d1⟩:=hB5.c2;obtain⟨w6,hw6⟩:=nC (w5.alloc (.cells #[.int .i64 y.f,.int .i64 y.l] 46));have hB6:Bk w6 w5.heap.size 46 [.int .i64 y.f,.int .i64 y.l]:=by rw[←hw6];exact Bk.new w5 _ _
 have hb6:nD w5 w6:=by rw[←hw6];exact nB.alloc lR _
 obtain⟨e0,e1⟩:=hB6.c2;have HB:=hid (hb5.trans (hb6.mono hb5.size));have d0':=(hB5.next hb6 hB5.lt).cell (i:=0) (by simp);have d1':=(hB5.next hb6 hB5.lt).cell (i:=1) (by simp);simp only[tI,tJ] at d0' d1';clear d0 d1 hB5 hB6;by_cases g0:x.f<wrap64 (y.f+y.l);rotate_left
 · have t0:decide (x.f<wrap64 (y.f+y.l))=false:=rY g0;have HR:=hid (show aDl x y=false by simp only[aDl,t0,Bool.false_and,Bool.and_false,Bool.true_and]);clear g0;go_enter func359,ntmps359
   go_wp2_with fail
   go_ret;exact⟨Uf HR.o.symm,HB.o⟩
 have t0:decide (x.f<wrap64 (y.f+y.l))=true:=rZ g0;by_cases g1:y.f<wrap64 (x.f+x.l);rotate_left
 · have t1:decide (y.f<wrap64 (x.f+x.l))=false:=rY g1;have HR:=hid (show aDl x y=false by simp only[aDl,t0,t1,Bool.false_and,Bool.and_false,Bool.true_and]);clear g1;go_enter func359,ntmps359
   go_wp2_with fail
   go_ret;exact⟨Uf HR.o.symm,HB.o⟩
 have t1:decide (y.f<wrap64 (x.f+x.l))=true:=rZ g1;have HR:=hid (show aDl x y=true by simp only[aDl,t0,t1,Bool.and_true]);go_enter func359,ntmps359
 go_wp2_with fail
 go_ret;exact⟨Uf HR.o.symm,HB.o⟩
def aFo (w:World) (F:Xt) (gs most:Nat) (v:Value) (xs:List ExD):Prop:=Bk w gs 299 [.int .i64 most,v]∧ExO w 0 v xs∧xs.length≤most∧F gs∧(∀g,v.ownBlock=some g→F g)
def aFn (w:World) (F:Xt) (gs most:Nat):Prop:=∃v xs,aFo w F gs most v xs
def aDf (w:World) (F:Xt) (gs most k:Nat):Prop:=∃v xs,aFo w F gs most v xs∧xs.length≤k
theorem aDf.p {w:World} {F:Xt} {gs most k:Nat} (h:aDf w F gs most k):aFn w F gs most:=by
 obtain⟨v,xs,h,_⟩:=h;exact⟨v,xs,h⟩
theorem aFo.ag {w w':World} {F:Xt} {gs most:Nat} {v:Value} {xs:List ExD} (h:aFo w F gs most v xs) (k:Ag F w w'):aFo w' F gs most v xs:=⟨Bk.ag h.1 k h.2.2.2.1,Vj h.2.1 k h.2.2.2.2,h.2.2⟩
theorem aFn.ag {w w':World} {F:Xt} {gs most:Nat} (h:aFn w F gs most) (k:Ag F w w'):aFn w' F gs most:=by
 obtain⟨v,xs,h⟩:=h;exact⟨v,xs,h.ag k⟩
theorem aDf.ag {w w':World} {F:Xt} {gs most n:Nat} (h:aDf w F gs most n) (k:Ag F w w'):aDf w' F gs most n:=by
 obtain⟨v,xs,h,hn⟩:=h;exact⟨v,xs,h.ag k,hn⟩
theorem aHn (most:Nat) (w:World) :
  Calls prog 149 #[.int .i64 (most:Int)] w fun e w'=>(∃gs,e=.returned (.pointer (some ⟨gs,0,none⟩))∧aDf w' (fun b=>b=gs) gs most 0∧w.heap.size≤gs∧gs<w'.heap.size)∧nD w w':=by
 go_enter func149,ntmps149
 go_wp2_with fail
 go_ret;refine⟨⟨_,rfl,⟨.slice none 0 0,[],⟨?_,⟨rfl,.inl ⟨rfl,rfl⟩⟩,zL,rfl,fun g hg=>by cases hg⟩,lR⟩,lR,by simp⟩,nB.alloc lR _⟩;exact Bk.new w _ _
theorem aRj (x:ExD) (w:World) :
  Calls prog 260 #[.agg #[.int .i64 x.f,.int .i64 x.l]] w fun e w'=>e=.returned (.bool (!Kg x))∧nD w w':=by
 have hp:=fun w'=>aGs x w'
 obtain⟨w5,hw5⟩:=nC (w.alloc (.cells #[.int .i64 x.f,.int .i64 x.l] 46));have hB5:Bk w5 w.heap.size 46 [.int .i64 x.f,.int .i64 x.l]:=by rw[←hw5];exact Bk.new w _ _
 have hb5:nD w w5:=by rw[←hw5];exact nB.alloc lR _
 obtain⟨d0,d1⟩:=hB5.c2;go_enter func260,ntmps260
 go_wp2_with fail
 refine(hp _).mono ?_;rintro e w' ⟨rfl,hb⟩;have hb6:=hb5.trans (hb.mono hb5.size);clear hp hb;go_wp2_with fail
 go_ret;exact⟨rfl,hb6⟩
theorem aUu (A:Option Addr) (n c:Nat) (xs:List ExD) (w:World) (h:aEg w A n c xs) :
  Calls prog 208 #[.slice A n c] w fun e w'=>(∃r,e=.returned (.bool r)∧((∀x∈xs,Kg x=true)→r=true))∧nD w w':=by
 have hc:=aUt A n c xs 260 #[] (fun x=>!Kg x) w h (enters_of func260 (by kernel_rfl) rfl) (fun p _ w' _=>aRj p w');go_enter func208,ntmps208
 go_wp2_with fail
 refine hc.mono ?_;rintro e w' ⟨⟨r,rfl,hr⟩,hb⟩
 have HR:=hid (show (∀x∈xs,Kg x=true)→(!r)=true from fun h=>by
  cases r with
  | false=>rfl
  | true =>
    obtain⟨x,hx,q⟩:=hr.1 rfl;simp[h x hx] at q)
 clear hr;go_wp2_with fail
 go_ret;exact⟨⟨_,rfl,HR.o⟩,hb⟩
theorem aDk (F:Xt) (gs most B:Nat) (v:Value) (xs:List ExD) (w:World) (h:aFo w F gs most v xs) (hm:most≤1000) (hB:B≤w.heap.size) :
  Calls prog 214 #[.pointer (some ⟨gs,0,none⟩)] w fun e w'=>(∃u,e=.returned u∧ExO w' B u xs)∧nD w w':=by
 obtain⟨h1,h2,h3,_⟩:=h;obtain⟨A,c,rfl,hx⟩:=ExO.is h2;obtain⟨c0,c1⟩:=h1.c2;have hc:=aLk A xs.length c B xs w hx (by omega) hB;clear h1 h2 h3 hx hm;go_enter func214,ntmps214
 go_wp2_with fail
 refine hc.mono ?_;rintro e w' ⟨⟨u,rfl,hu,_⟩,hb⟩;go_wp2_with fail
 go_ret;exact⟨⟨_,rfl,hu⟩,hb⟩
theorem aAc {P:Program} (w:World) {ops:Array Oper} {rest:List Oper} {o:Oper} {a:Act} {Q:Exit→Act→World→Prop} (hgd:o.guard=none) (s x:Operand) (t:TypeId)
  (ho:o.op=.call {callee:=.builtin .append,args:=#[s,x],argTypes:=#[t,t]})
  (base:Nat) (e:TypeId) (i:TypeInfo) (z:Value) (size bytes:Nat) (ht:P.underlying t=some (.slice e)) (hi:P.info? e=some i) (hz:i.zero=some z)
  (hsize:i.size=size) (hby:i.bytes=bytes) (hzs:z.cells.size=size) (hs0:0<size)
  (v:Value) (n:Nat) (xs:List Value) (hs:a.eval s=v) (hown:w.ownsRow base e size v n xs)
  (g:Nat) (cs:List Value) (hx:a.eval x=.slice (some ⟨g,0,none⟩) 1 1) (hb:Bk w g e cs) (hl:cs.length=size) (h1:∀u∈cs,u.oneCell'=true) (hn:n≤1000000) (hbb:bytes≤1000) (hbase:base≤w.heap.size)
  (h:∀v' w',w'.ownsRow base e size v' (n+1) (xs++cs)→w.grownBy w' v.ownBlock→(v'.ownBlock=v.ownBlock∨v'.ownBlock=some w.heap.size)→wpList P ops Q rest (a.put o.dst v') w'):wpList P ops Q (o::rest) a w :=
 aAa w hgd s x t ho base e i z size bytes ht hi hz hsize hby hzs hs0 v n xs hs hown w.heap.size (some ⟨g,0,none⟩) 1 1 cs hx (by omega) hb.rd h1 (by omega)
  (tK (Nat.mul_le_mul (show n+1≤1000001 by omega) hbb) (by decide)) hbase h
theorem aVa:(prog.info? 50).map (fun i=>(i.size,i.bytes,i.zero.map (·.cells.size)))=some (2,32,some 2):=by kernel_rfl
theorem aKe:∃i z,prog.info? 50=some i∧i.zero=some z∧i.size=2∧i.bytes=32∧z.cells.size=2:=by
 have h:=aVa
 cases hi:prog.info? 50 with
 | none=>rw[hi] at h;cases h
 | some i =>
   rw[hi] at h;simp at h
   obtain⟨h1,h2,z,hz,h3⟩:=h;exact⟨i,z,rfl,hz,h1,h2,h3⟩
structure aDd (w:World) (F:Xt) (bb mb s:Nat) (ks:List Int) (f:Int→Option Value):Prop where
 bx:Bk w bb 239 [.int .i64 258,.int .i64 16,.map (some mb)]
 im:IM w prog 3 mb s f
 keys:aEk s f ks
 rng:∀x∈ks,0≤x∧x<258
 le:s≤16
 val:∀x v,Un x→f x=some v→∃A c bs,v=.slice A 40 c∧IsY w A 40 c bs
 f0:F bb
 f1:F mb
def aDh (w:World) (F:Xt) (bb:Nat) (ks:List Int):Prop:=∃mb s f,aDd w F bb mb s ks f
theorem aDd.ag {w w':World} {F:Xt} {bb mb s:Nat} {ks:List Int} {f:Int→Option Value} (h:aDd w F bb mb s ks f) (k:Ag F w w'):aDd w' F bb mb s ks f :=
 ⟨Bk.ag h.bx k h.f0,h.im.ag k h.f1,h.keys,h.rng,h.le,fun x v hx hv=>by obtain⟨A,c,bs,e,hy⟩:=h.val x v hx hv;exact⟨A,c,bs,e,hy.ag k⟩,h.f0,h.f1⟩
theorem aDh.ag {w w':World} {F:Xt} {bb:Nat} {ks:List Int} (h:aDh w F bb ks) (k:Ag F w w'):aDh w' F bb ks:=by
 obtain⟨mb,s,f,h⟩:=h;exact⟨mb,s,f,h.ag k⟩
theorem aXe (w:World):(zeroValue 41).run prog w=.ok (.slice none 0 0) w:=by kernel_rfl
theorem aDd.look {w:World} {F:Xt} {bb mb s:Nat} {ks:List Int} {f:Int→Option Value} (h:aDd w F bb mb s ks f) {x:Int} (hx:Un x):(Instr.lookup 157 (.map (some mb)) (.int .i64 x) false).run prog w=.ok ((f x).getD (.slice none 0 0)) w:=h.im.look Uy Ug underlying157 (aXe w) hx
theorem aDd.look_ok {w:World} {F:Xt} {bb mb s:Nat} {ks:List Int} {f:Int→Option Value} (h:aDd w F bb mb s ks f) {x:Int} (hx:Un x):(Instr.lookup 157 (.map (some mb)) (.int .i64 x) true).run prog w=.ok (.tuple #[(f x).getD (.slice none 0 0),.bool (f x).isSome]) w:=h.im.look_ok Uy Ug underlying157 (aXe w) hx
theorem aDd.got {w:World} {F:Xt} {bb mb s:Nat} {ks:List Int} {f:Int→Option Value} (h:aDd w F bb mb s ks f) {x:Int} (hx:Un x):∃A n c bs,(f x).getD (.slice none 0 0)=.slice A n c∧IsY w A n c bs∧((f x).isSome=true→n=40)∧n≤40:=by
 cases hf:f x with
 | none=>exact⟨none,0,0,[],rfl,IsY.nil w 0 (by simp[maxLen]),(fun e=>by cases e),by omega⟩
 | some v =>
   obtain⟨A,c,bs,e,hy⟩:=h.val x v hx hf;exact⟨A,40,c,bs,e,hy,fun _=>rfl,by omega⟩
theorem aNp  (w:World) :
  Calls prog 87 #[.int .i64 258,.int .i64 16] w fun e w'=>(∃bb,e=.returned (.tuple #[.pointer (some ⟨bb,0,none⟩),.int .i64 0])∧aDh w' (fun b=>w.heap.size≤b∧b<w'.heap.size) bb []∧w.heap.size≤bb∧bb<w'.heap.size)∧nD w w':=by
 have hmm:=@run_makeMap prog;go_enter func87,ntmps87
 go_wp2_with fail
 go_ret2
 refine⟨⟨w.heap.size+1,rfl,⟨w.heap.size,0,fun _=>none,?_,(IM.made w _ _).next (nB.alloc lR _),⟨List.Pairwise.nil,rfl,by simp,by simp⟩,by simp,by omega,(fun x v _ hv=>by cases hv),?_,?_⟩,by omega,?_⟩,(nB.alloc lR _).alloc (by simp) _⟩
 · have:=Bk.new (w.alloc (.map #[] 0)) 239 [.int .i64 258,.int .i64 16,.map (some w.heap.size)];simpa using this
 · simp
 · simp;omega
 · simp
theorem aHd (F:Xt) (bb mb s:Nat) (ks:List Int) (f:Int→Option Value) (x:Int) (w:World) (h:aDd w F bb mb s ks f) (hx:Un x) :
  Calls prog 153 #[.pointer (some ⟨bb,0,none⟩),.int .i64 x] w fun e w'=>(∃v n bs,e=.returned (.tuple #[v,.bool (f x).isSome])∧Byt w' w.heap.size v bs∧bs.length=n∧((f x).isSome=true→n=40))∧nD w w':=by
 obtain⟨c0,c1,c2⟩:=h.bx.c3;have hlk:=h.look_ok hx;obtain⟨A,n,c,bs,hv,hy,h40,hn⟩:=h.got hx;rw[hv] at hlk;have hc:=aAh A n c w.heap.size (bs.map (Value.int .u8)) w (by rw[rU];exact hy.b.len) hy.b.rd Ui (by omega) lR;have HH:=nH h40 hy.b.len hy.b.wf;obtain⟨ok,hok⟩:=nC ((f x).isSome);rw[hok] at hlk ⊢;rw[hok] at HH;clear h hy h40 hv hok hn;go_enter func153,ntmps153
 go_wp2_with fail
 refine hc.mono ?_;rintro e w' ⟨⟨v,rfl,ho⟩,hb⟩;have HO:=hid ho;clear ho hc;go_wp2_with fail
 go_ret2
 refine⟨⟨_,n,bs,rfl,⟨?_,HH.o.2.2⟩,HH.o.2.1,HH.o.1⟩,hb⟩;rw[HH.o.2.1];exact HO.o
structure Ud (w:World) (B:Nat) (v:Value) (ks:List Int) (ps:List Vd):Prop where
 own:w.ownsRow B 50 2 v ks.length (ps.flatMap Vd.cells)
 lba:ps.map Vd.lba=ks
 n40:∀p∈ps,p.n=40
 y:∀p∈ps,IsY w p.A p.n p.c p.bs
 new:∀p∈ps,∀ad,p.A=some ad→B≤ad.block
theorem Ud.len {w:World} {B:Nat} {v:Value} {ks:List Int} {ps:List Vd} (h:Ud w B v ks ps):ps.length=ks.length:=by rw[←h.lba,rU]
theorem Ud.is {w:World} {B:Nat} {v:Value} {ks:List Int} {ps:List Vd} (h:Ud w B v ks ps):∃A c,v=.slice A ks.length c∧Uh w A ks.length c ps:=by
 have ho:=h.own;obtain⟨A,c,rfl⟩:=Xs ho;exact⟨A,c,rfl,h.len,Ve ho,h.y,(Vv ho).1,(Vv ho).2⟩
theorem Ud.next {w w':World} {B:Nat} {v:Value} {ks:List Int} {ps:List Vd} (h:Ud w B v ks ps) (hb:nD w w'):Ud w' B v ks ps :=
 ⟨Vg h.own hb,h.lba,h.n40,fun p hp=>(h.y p hp).ag (F:=fun _=>True) (.of_below hb),h.new⟩
theorem Ud.base {w:World} {B C:Nat} {v:Value} {ks:List Int} {ps:List Vd} (h:Ud w C v ks ps) (hB:B≤C):Ud w B v ks ps:=⟨ownsRow_base_a h.own hB,h.lba,h.n40,h.y,fun p hp ad q=>tK hB (h.new p hp ad q)⟩
theorem Ud.push {w w':World} {C:Nat} {v v':Value} {ks:List Int} {ps:List Vd} {x:Int} {A:Option Addr} {c:Nat} {bs:List Int} (h:Ud w C v ks ps) (hO:w'.ownsRow C 50 2 v' (ks.length+1) (ps.flatMap Vd.cells++[.int .i64 x,.slice A 40 c])) (hg:w.grownBy w' v.ownBlock) (hc:IsY w A 40 c bs) (hA:∀ad,A=some ad→C≤ad.block) :
  Ud w' C v' (ks++[x]) (ps++[⟨x,A,40,c,bs⟩]):=by
 have k:=Ag.grown (F:=fun _=>False) h.own (by decide) hg (fun _ _ q=>q);refine⟨?_,by rw[rI,h.lba];rfl,fun p hp=>?_,fun p hp=>?_,fun p hp=>?_⟩
 · rw[rH,rX];exact hO
 · rcases rE.1 hp with q|q
   · exact h.n40 p q
   · obtain rfl:p=_:=by simpa using q
     rfl
 · rcases rE.1 hp with q|q
   · exact(h.y p q).ag k
   · obtain rfl:p=_:=by simpa using q
     exact hc.ag k
 · rcases rE.1 hp with q|q
   · exact h.new p q
   · obtain rfl:p=_:=by simpa using q
     exact hA
theorem aRq {s:Nat} {f:Int→Option Value} {a b:List Int} (h:aEk s f a) (k:aEk s f b):a=b:=by
 have na:a.Nodup:=h.up.imp (fun h=>Int.ne_of_lt h);have nb:b.Nodup:=k.up.imp (fun h=>Int.ne_of_lt h);have hp:a.Perm b:=(List.perm_ext_iff_of_nodup na nb).2 fun x=>⟨fun hx=>(k.mem x (h.wf x hx)).2 ((h.mem x (h.wf x hx)).1 hx),fun hx=>(h.mem x (k.wf x hx)).2 ((k.mem x (k.wf x hx)).1 hx)⟩
 exact List.Perm.eq_of_pairwise (le:=(· < ·)) (fun x y _ _ h1 h2=>absurd h1 (by omega)) h.up k.up hp
theorem aFc (F:Xt) (bb B:Nat) (ks:List Int) (w:World) (h:aDh w F bb ks) (hB:B≤w.heap.size) :
  Calls prog 158 #[.pointer (some ⟨bb,0,none⟩)] w fun e w'=>(∃v,e=.returned v∧∃ps,Ud w' B v ks ps)∧nD w w':=by
 obtain⟨mb,s,f,h⟩:=h;obtain⟨xi,xz,hxi,hxz,hx5,hx56,hxc⟩:=aKe;obtain⟨c0,c1,c2⟩:=h.bx.c3;have hk:=aJd mb w;have hso:=aGh mb s f w h.im (tK h.le (by omega));have HX:=hid h;have HB:=hid hB;clear h hB;go_enter func158,ntmps158
 go_wp2_with fail
 refine hk.mono ?_;rintro e w1 ⟨rfl,rfl⟩;go_wp2_with fail
 refine hso.mono ?_;rintro e w2 ⟨⟨v,ks',rfl,hK,ho⟩,hb2⟩
 obtain rfl:ks'=ks:=by
  have h1:=hK;have h2:=HX.o.keys;exact aRq h1 h2
 have hl:=hK.len;have ho2:=ho;obtain⟨kA,kc,rfl⟩:=Xs ho;have hR:=Ve ho;have HL:=hid (show s≤16 from HX.o.le);have hb2s:=hid hb2.size;clear ho2 hk hso;go_wp2_with fail
 go_loopw [2,14] (fun pv iv wr=>∃k:Nat,k≤s∧iv=.int .i64 (k:Int)∧nD w wr∧nD w2 wr∧∃ps,Hid (Ud wr w2.heap.size pv (ks'.take k) ps)) (fun _ iv _=>s - (intOf iv).toNat)
 case atStart=>exact⟨0,zL,rfl,hb2,nB,[],⟨⟨rfl,.inl ⟨rfl,rfl⟩⟩,rfl,by simp,by simp,by simp⟩⟩
 case round =>
  obtain⟨k,hk,rfl,hW,hW2,ps,HP⟩:=hrel;clear c0 c1 c2;by_cases hlt:k<s
  · obtain⟨ad,eA,had,ck⟩:=(hR.next lR hW2).get (k:=k) (by rw[rU];omega);subst eA;rw[rV] at ck;obtain⟨x,hx⟩:=nC (ks'[k]'(by omega));rw[hx] at ck;have hxm:x∈ks':=by rw[←hx];exact rC _
    have hxw:=HX.o.keys.wf x hxm;have hX:=HX.o.ag (.of_below hW);obtain⟨u,hu⟩:=Option.isSome_iff_exists.1 ((HX.o.keys.mem x hxw).1 hxm);obtain⟨uA,uc,ub,rfl,huy⟩:=hX.val x u hxw hu;have hlk:=hX.look hxw;rw[hu] at hlk;simp only[Option.getD_some] at hlk;obtain⟨c0,c1,c2⟩:=hX.bx.c3;have hc:=aAh uA 40 uc wr.heap.size (ub.map (Value.int .u8)) wr (by rw[rU];exact huy.b.len) huy.b.rd Ui (by omega) lR;have HY:=nF huy.b.len huy.b.wf;have HT:=hid (show ks'.take (k+1)=ks'.take k++[x] by rw[List.take_succ_eq_append_getElem (by omega),hx]);have htl:(ks'.take k).length=k:=by rw[rJ];omega
    have n0:(k:Int)<(s:Int):=by omega
    have n1:(0:Int)≤(k:Int):=by omega
    have hk16:k≤16:=by have:=HL.o;omega
    clear hX hx huy hu hxm;go_wp2_with fail
    refine hc.mono ?_;rintro e w3 ⟨⟨v3,rfl,ho3⟩,hb3⟩;obtain⟨yA,yc,rfl⟩:=Xs ho3;have HC:=hid (show Byt w3 wr.heap.size (.slice yA 40 yc) ub from⟨by rw[HY.o.1];exact ho3,HY.o.2⟩);have HP3:=hid (HP.o.next hb3);have hs3:=hb3.size;have HS:=nH (hW.trans (hb3.mono hW.size)) (hW2.trans (hb3.mono hW2.size)) (tK hW2.size hb3.size);clear hc ho3 hb3 c0 c1 c2 HP;obtain⟨w4,hw4⟩:=nC (w3.alloc (.cells #[.int .i64 x,.slice yA 40 yc] 50));have hB4:Bk w4 w3.heap.size 50 [.int .i64 x,.slice yA 40 yc]:=by rw[←hw4];exact Bk.new _ _ _
    have hb4:nD w3 w4:=by rw[←hw4];exact nB.alloc lR _
    have HQ4:=hid (HP3.o.next hb4);have HB4:=nF hB4 hb4;have hnk:(ks'.take k).length≤1000000:=by omega
    clear hB4 hb4;go_wp2_with (at_builtin;go_must (refine aAc _ rfl _ _ 58 rfl w2.heap.size 50 xi xz 2 32 underlying58 hxi hxz hx5 hx56 hxc (by decide) _ _ _ (by rfl) (by exact HQ4.o.own) _ [.int .i64 x,.slice yA 40 yc] (by rfl) (by exact HB4.o.1) rfl (by intro u hu;simp at hu;rcases hu with rfl|rfl<;>rfl) (by exact hnk) (by decide) (by exact tK HS.o.2.2 HB4.o.2.size) ?_);intro v9 w9 hO9 hG9 hn9)
    have HE:=hid (show Ud w9 w2.heap.size v9 (ks'.take (k+1)) (ps++[⟨x,yA,40,yc,ub⟩])∧nD w w9∧nD w2 w9 from by
     have hyc:IsY w3 yA 40 yc ub:=by
      obtain⟨A',c',e,hy⟩:=HC.o.isY;rw[HY.o.1] at e hy;injection e with e1 _ e2;subst e1 e2;exact hy
     refine⟨by rw[HT.o];exact HQ4.o.push (by rw[htl] at hO9 ⊢;exact hO9) hG9 (hyc.ag (F:=fun _=>False) (.of_below HB4.o.2)) (fun ad q=>tK hW2.size (Xv (g:=ad.block) HC.o.1 (by rw[q];rfl))),?_,?_⟩
     · exact(HS.o.1.trans (HB4.o.2.mono HS.o.1.size)).grown hG9 (tK HS.o.1.size HB4.o.2.size) (fun g hg=>tK hb2s.out (Xv HQ4.o.own hg))
     · exact(HS.o.2.1.trans (HB4.o.2.mono HS.o.2.1.size)).grown hG9 (tK HS.o.2.1.size HB4.o.2.size) (fun g hg=>Xv HQ4.o.own hg))
    go_roundw
    case rel=>exact⟨k+1,by omega,by go_num,HE.o.2.1,HE.o.2.2,_,HE.o.1⟩
    case measure=>simp[intOf];omega
  · obtain rfl:k=s:=by omega
    have n0:¬(k:Int)<(k:Int):=by omega
    have HP2:=hid (show Ud wr w2.heap.size u2 ks' ps from by have:=HP.o;rwa [rG (by omega)] at this);go_wp2_with fail
    go_ret;exact⟨⟨_,rfl,ps,HP2.o.base (tK HB.o hb2s.out)⟩,hW⟩
theorem aNo (F:Xt) (bb:Nat) (ks:List Int) (w:World) (h:aDh w F bb ks) :
  Calls prog 94 #[.pointer (some ⟨bb,0,none⟩)] w fun e w'=>e=.returned (.int .i64 (ks.length:Int))∧nD w w':=by
 have hc:=aFc F bb 0 ks w h zL;clear h;go_enter func94,ntmps94
 go_wp2_with fail
 refine hc.mono ?_;rintro e w' ⟨⟨v,rfl,ps,hp⟩,hb⟩;obtain⟨A,c,rfl,_⟩:=hp.is;clear hp hc;go_wp2_with fail
 go_ret;exact⟨rfl,hb⟩
section
open Go.Sort Go.Shelf
instance:Inhabited ExD:=⟨⟨0,0⟩⟩
def aJy (a b:Int):Int:=if a<b then -1 else if b<a then 1 else 0
theorem aEd {a b:Int} (h:a=b):Ending.returned (.int .i64 a)=.returned (.int .i64 b):=by rw[h]
theorem aUa (a b:Int) (w:World) :
  Calls prog 265 #[.int .i64 a,.int .i64 b] w fun e w'=>e=.returned (.int .i64 (aJy a b))∧w=w':=by
 rcases Int.lt_trichotomy a b with h|h|h
 · have t1:decide (a<b)=true:=rZ h;have HR:=hid (show aJy a b= -1 by unfold aJy;rw[if_pos h]);clear h;go_enter func265,ntmps265
   go_wp2
   go_ret;exact⟨aEd (by rw[HR.o]),rfl⟩
 · subst h;have t1:decide (a<a)=false:=rY (by omega);have HR:=hid (show aJy a a=0 by unfold aJy;rw[if_neg (by omega),if_neg (by omega)]);go_enter func265,ntmps265
   go_wp2
   go_ret;exact⟨aEd (by rw[HR.o]),rfl⟩
 · have t1:decide (a<b)=false:=rY (by omega);have t2:decide (b<a)=true:=rZ h;have HR:=hid (show aJy a b=1 by unfold aJy;rw[if_neg (by omega),if_pos h]);clear h;go_enter func265,ntmps265
   go_wp2
   go_ret;exact⟨aEd (by rw[HR.o]),rfl⟩
def cfE (x y:ExD):Int:=aJy x.f y.f
theorem ltE (x y:ExD):ltOf cfE x y=decide (x.f<y.f):=by
 unfold ltOf cfE aJy
 by_cases h:x.f<y.f
 · simp[h]
 · by_cases h2:y.f<x.f<;>simp[h,h2]
theorem bIe:SWO (ltOf cfE) where
 irrefl x:=by rw[ltE];simp
 trans x y z h1 h2:=by rw[ltE] at *;simp at *;omega
 ntrans x y z h1 h2:=by rw[ltE] at *;simp at *;omega
theorem aTy (x y:ExD) (w:World) :
  Calls prog 264 #[.agg #[.int .i64 x.f,.int .i64 x.l],.agg #[.int .i64 y.f,.int .i64 y.l]] w fun e w'=>e=.returned (.int .i64 (cfE x y))∧w'=(w.alloc (.cells #[.int .i64 x.f,.int .i64 x.l] 46)).alloc (.cells #[.int .i64 y.f,.int .i64 y.l] 46):=by
 have hc:=fun w'=>aUa x.f y.f w'
 go_enter func264,ntmps264
 go_wp2_with fail
 refine(hc _).mono ?_;rintro e w' ⟨rfl,rfl⟩;go_wp2_with fail
 go_ret;exact⟨rfl,rfl⟩
theorem aUp (xs:List ExD):(flatK exc 2 xs.toArray).toList=xs.flatMap exc:=by
 apply List.ext_getElem?;intro j;by_cases hj:j<xs.length*2
 · have h1:(flatK exc 2 xs.toArray).size=xs.length*2:=by simp
   rw[Array.getElem?_toList,Array.getElem?_eq_getElem (by omega)];have h2:=get_flatK exc 2 xs.toArray j (by simpa using hj);rw[getElem!_pos _ _ (by omega)] at h2;rw[h2];have h3:=aAs aBb (l:=xs) (k:=j / 2) (j:=j % 2) (by omega) (by omega);rw[show j / 2*2+j % 2=j by omega] at h3;rw[h3];have h4:(xs.toArray)[j / 2]! =xs[j / 2]'(by omega):=by rw[getElem!_pos _ _ (by simp;omega)];simp
   rw[h4,getElem!_pos _ _ (by rw[aBb];omega),tX (by rw[aBb];omega)]
 · rw[List.getElem?_eq_none (by simp;omega),List.getElem?_eq_none (by rw[Vt aBb];omega)]
theorem aSt (cur:Array Value) (F:List Value) (h:F.length≤cur.size):(putCells id 0 F.toArray cur).toList.take F.length=F:=by
 apply List.ext_getElem?;intro j;by_cases hj:j<F.length
 · rw[List.getElem?_take_of_lt hj,Array.getElem?_toList];simp[putCells,hj,show j<cur.size by omega]
 · rw[List.getElem?_take_eq_none (by omega),List.getElem?_eq_none (by omega)]
theorem aMi {w:World} {base g cap n m:Nat} {e:TypeId} {os:Array Obj} {cur:Array Value} {F:List Value} (hl:F.length=m*2) (hbase:base≤g) (hb:w.heap[g]? =some (.cells cur e (0,0)))
  (h1:m≤cap) (h2:cap≤maxLen) (h3:cur.size=cap*2) :
  (sortWorld id w g 0 n F.toArray os).ownsRow base e 2 (.slice (some ⟨g,0,none⟩) m cap) m F:=by
 unfold sortWorld
 have hg:g<w.heap.size:=Vz hb
 have hh:(grow (putRow id (Sort.ahead w n) g 0 F.toArray) os).heap[g]? =some (.cells (putCells id 0 F.toArray cur) e (0,0)):=by
  rw[heap_grow_old _ _ (by simpa using hg)];simp[putRow,mapBlock,Sort.ahead,Array.getElem?_modify,hb,onCells]
 exact⟨hl,.inr ⟨g,cap,_,rfl,hbase,hh,h1,h2,by simp[putCells,h3],by rw[←hl];exact aSt cur F (by omega)⟩⟩
theorem aIj {w:World} {g n:Nat} {os:Array Obj} (d:Array Value):w.grownBy (sortWorld id w g 0 n d os) (some g):=by
 unfold sortWorld
 refine⟨rfl,rfl,rfl,by simp,fun k hk hne=>?_⟩;rw[heap_grow_old _ _ (by simpa using hk)];have:g≠k:=fun e=>hne (by rw[e])
 simp[putRow,mapBlock,Sort.ahead,Array.getElem?_modify,this]
theorem aRi {α :Type} [Inhabited α] {enc: α→Value} {w:World} {g:Nat} {cur:Array Value} {e:TypeId} {ss:List α} (hb:w.heap[g]? =some (.cells cur e (0,0))) (ht:cur.toList.take ss.length=ss.map enc):Holds enc w g 0 ss.toArray:=by
 intro j hj;have hj':j<ss.length:=by simpa using hj
 refine⟨?_,by simp[World.frozen?,hb]⟩;have h1:(cur.toList.take ss.length)[j]? =(ss.map enc)[j]?:=by rw[ht]
 rw[List.getElem?_take_of_lt hj'] at h1;simp only[World.cell?,hb,Nat.zero_add];simp only[Option.isSome_none,Bool.false_eq_true,if_false];rw[←Array.getElem?_toList,h1];simp[hj']
theorem bAw {w:World} {base:Nat} {v:Value} {xs:List ExD} (hn:xs.length≤1000000) (h:ExO w base v xs) (h0:0<xs.length) (hb:base≤w.heap.size) :
  Calls prog 263 #[v,.func (.func 264) #[] #[]] w fun e w'=>e=.returned (.tuple #[])∧(∃ys,ys.length=xs.length∧ExO w' base v ys)∧Below base w w':=by
 rcases h.2 with ⟨_,h1⟩|⟨g,cap,cur,rfl,hbg,hcur,hnc,hcm,hcs,htk⟩
 · omega
 · have hg:g<w.heap.size:=Vz hcur;have hsz:xs.toArray.size=xs.length:=by simp
   have hH:HoldsK exc 2 w g 0 xs.toArray:=by
    unfold HoldsK
    have h9:flatK exc 2 xs.toArray=(xs.flatMap exc).toArray:=by rw[←aUp xs]
    rw[h9];exact aRi hcur (by rw[Vt aBb,htk,List.map_id])
   have hc:=AnyQ.slices_SortFunc Tryz.sortE 2 (fun w=>by kernel_rfl) (fun w=>by kernel_rfl) exc aBb (fun x v hv=>by simp[exc] at hv;rcases hv with rfl|rfl<;>rfl) cfE bIe 264 #[] g 0 cap xs.toArray w (enters_of func264 (by kernel_rfl) rfl)
    (fun q os dk _ x y=>(aTy x y _).mono fun e w' ⟨he,hw⟩=>⟨he,0,#[.cells #[.int .i64 x.f,.int .i64 x.l] 46,.cells #[.int .i64 y.f,.int .i64 y.l] 46],hw.trans (by rw[alloc_eq_grow,alloc_eq_grow,grow_grow];rfl)⟩) hH hg (by rw[hsz];omega)
   rw[hsz] at hc;refine hc.mono fun e w' ⟨he,d',q,os,hp,_,hw'⟩=>?_
   have hd:d'.size=xs.length:=by have:=hp.1;rw[hsz] at this;exact this
   have hw2:w'=sortWorld id w g 0 q (d'.toList.flatMap exc).toArray os:=by
    have h9:flatK exc 2 d'=(d'.toList.flatMap exc).toArray:=by rw[←aUp d'.toList]
    rw[hw'];unfold sortWorldK putRowK
    rw[h9];rfl
   have hld:d'.toList.length=xs.length:=by simpa using hd
   refine⟨he,⟨d'.toList,hld,?_⟩,?_⟩
   · rw[hw2];unfold ExO
     rw[hld];exact aMi (by rw[Vt aBb,hld]) hbg hcur hnc hcm hcs
   · rw[hw2];exact nB.grown (aIj _) hb (fun k hk=>by injection hk with hk;omega)
theorem aZx {w:World} {B e s n g cap:Nat} {xs:List Value} (h:w.ownsRow B e s (.slice (some ⟨g,0,none⟩) n cap) n xs) {i:Nat} (hi:i<n*s) (u:Value):(w.setCell ⟨g,i,none⟩ u).ownsRow B e s (.slice (some ⟨g,0,none⟩) n cap) n (xs.set i u):=by
 rcases h.2 with ⟨h0,_⟩|⟨g',cap',cur,hv,hb,hh,hc,hm,hs,ht⟩
 · cases h0
 · injection hv with h1 _ h3;injection h1 with h1;injection h1 with h1 _;subst h1 h3;refine⟨by rw[rK];exact h.1,.inr ⟨g,cap,cur.setIfInBounds i u,rfl,hb,?_,hc,hm,by simpa using hs,?_⟩⟩
   · have hlt:=Vz hh;have hg:w.heap[g]=.cells cur e (0,0):=by rw[Array.getElem?_eq_getElem hlt] at hh;exact rT hh
     simp[World.setCell,hlt,Array.getElem_modify,hg]
   · rw[←ht,Array.toList_setIfInBounds,List.take_set]
theorem aLr:∀(ys:List ExD) (p:Nat) (hp:p<ys.length) (L:Int),(ys.flatMap exc).set (p*2+1) (.int .i64 L)=(ys.set p ⟨ys[p].f,L⟩).flatMap exc
 | [],p,hp,_=>by simp at hp
 | y::ys,0,_,L=>by simp[exc]
 | y::ys,p+1,hp,L=>by
   have ih:=aLr ys p (by simpa using hp) L;have e:(p+1)*2+1=(p*2+1)+1+1:=by omega
   rw[List.flatMap_cons,e,tE,List.flatMap_cons];show ([Value.int .i64 y.f,.int .i64 y.l]++ys.flatMap exc).set _ _=_
   simp only[List.cons_append,List.nil_append,tE,ih];rfl
end
theorem aOb {w:World} {B e s n g cap:Nat} {xs:List Value} (h:w.ownsRow B e s (.slice (some ⟨g,0,none⟩) n cap) n xs) (i:Nat):w.frozen? ⟨g,i,none⟩=false:=by
 rcases h.2 with ⟨h0,_⟩|⟨g',cap',cur,hv,hb,hh,_⟩
 · cases h0
 · injection hv with h1 _ h3;injection h1 with h1;injection h1 with h1 _;subst h1;exact aFa hh i
theorem aGe {w w2 w6 W w9:World} {v v9:Value} {m:Nat} {ys:List ExD} {x:ExD} {o:Obj} (hw:nD w w6∧nD w2 w6) (hO:w6.ownsRow w2.heap.size 46 2 v m (ys.flatMap exc)∧ys.length=m) (hW:nD w6 W) (hle:w.heap.size≤w2.heap.size)
  (h9:w9.ownsRow w2.heap.size 46 2 v9 (m+1) (ys.flatMap exc++[.int .i64 x.f,.int .i64 x.l])) (hG:(W.alloc o).grownBy w9 v.ownBlock) :
  nD w w9∧nD w2 w9∧w9.ownsRow w2.heap.size 46 2 v9 (m+1) ((ys++[x]).flatMap exc)∧(ys++[x]).length=m+1:=by
 have hWa:nD w6 (W.alloc o):=hW.alloc hW.size _;refine⟨(hw.1.trans (hWa.mono hw.1.size)).grown hG (tK hw.1.size hWa.size) (fun g hg=>tK hle (Xv hO.1 hg)),(hw.2.trans (hWa.mono hw.2.size)).grown hG (tK hw.2.size hWa.size) (fun g hg=>Xv hO.1 hg),?_,by rw[rH,hO.2];rfl⟩;rw[rX];simpa [exc] using h9
theorem aOf {w w2 w6:World} {g cap p:Nat} {ys:List ExD} {y:ExD} (hw:nD w w6∧nD w2 w6) (hO:w6.ownsRow w2.heap.size 46 2 (.slice (some ⟨g,0,none⟩) (p+1) cap) (p+1) (ys.flatMap exc)∧ys.length=p+1) (hy:ys[p]'(by omega)=y) (hle:w.heap.size≤w2.heap.size) (q:Nat) (L:Int) :
  nD w ((w6.drewN q).setCell ⟨g,p*2+1,none⟩ (.int .i64 L))∧nD w2 ((w6.drewN q).setCell ⟨g,p*2+1,none⟩ (.int .i64 L))∧
   ((w6.drewN q).setCell ⟨g,p*2+1,none⟩ (.int .i64 L)).ownsRow w2.heap.size 46 2 (.slice (some ⟨g,0,none⟩) (p+1) cap) (p+1) ((ys.set p ⟨y.f,L⟩).flatMap exc)∧(ys.set p ⟨y.f,L⟩).length=p+1:=by
 have hg:=Xv hO.1 (g:=g) rfl;have b1:=hw.1.trans ((Vw (Below.refl w6.heap.size w6) q).mono hw.1.size);have b2:=hw.2.trans ((Vw (Below.refl w6.heap.size w6) q).mono hw.2.size);refine⟨b1.setCell (p:=⟨g,p*2+1,none⟩) (tK hle hg) _,b2.setCell (p:=⟨g,p*2+1,none⟩) hg _,?_,by rw[rK];exact hO.2⟩;have h1:=aZx (Vg hO.1 (Vw (Below.refl w6.heap.size w6) q)) (i:=p*2+1) (by omega) (.int .i64 L);rw[aLr ys p (by omega) L,hy] at h1;exact h1
theorem aOe (A:Option Addr) (n c:Nat) (xs:List ExD) (w:World) (h:aEg w A n c xs) (h1:1≤n) (hn:n≤2000) :
  Calls prog 209 #[.slice A n c] w fun e w'=>(∃v,e=.returned v∧∃ys,ys.length≤n∧ExO w' w.heap.size v ys)∧nD w w':=by
 obtain⟨xi,xz,hxi,hxz,hx5,hx56,hxc⟩:=aKd;have hl:=h.len;have hc:=aLk A n c w.heap.size xs w h (by omega) lR;clear h;go_enter func209,ntmps209
 go_wp2_with fail
 go_step3;go_wp2_with fail
 refine hc.mono ?_;rintro e w1 ⟨⟨v1,rfl,ho1,_⟩,hb1⟩;have hs:=bAw (by omega) ho1 (by omega) hb1.size;clear hc;go_wp2_with fail
 refine hs.mono ?_;rintro e w2 ⟨rfl,⟨zs,hzl,ho2⟩,hb2⟩;obtain⟨zA,zc,rfl,hz⟩:=ExO.is ho2;have hb:=hb1.trans hb2;have hbs:=hid hb.size;have hzn:zs.length=n:=by omega
 rw[hzn] at hz ⊢;clear hs ho1 ho2 hb1 hb2 hzl;go_wp2_with fail
 go_step3;go_wp2_with fail
 go_loopw [2,12] (fun pv iv wr=>∃k m:Nat,k≤n∧m≤k∧iv=.int .i64 (k:Int)∧nD w wr∧nD w2 wr∧∃ys:List ExD,Hid (wr.ownsRow w2.heap.size 46 2 pv m (ys.flatMap exc)∧ys.length=m)) (fun _ iv _=>n - (intOf iv).toNat)
 case atStart=>exact⟨0,0,zL,lR,rfl,hb,nB,[],⟨rfl,.inl ⟨rfl,rfl⟩⟩,rfl⟩
 case round =>
  obtain⟨k,m,hk,hmk,rfl,hW,hW2,ys,HO⟩:=hrel;by_cases hlt:k<n
  · obtain⟨x,hpx⟩:∃p,zs[k]'(by omega)=p:=⟨_,rfl⟩
    have hmx:x∈zs:=by rw[←hpx];exact rC _
    obtain⟨adx,eAx,hadx,c0,c1⟩:=Vk aBb (hz.rd.next lR hW2) (k:=k) (by omega) (u:=.int .i64 x.f) (v:=.int .i64 x.l) (by rw[hpx];rfl);subst eAx;have n0:(k:Int)<(n:Int):=by omega
    have n1:(0:Int)≤(k:Int):=by omega
    clear hpx hmx;obtain⟨w6,hw6⟩:=nC (wr.alloc (.cells #[.int .i64 x.f,.int .i64 x.l] 46));have hB6:Bk w6 wr.heap.size 46 [.int .i64 x.f,.int .i64 x.l]:=by rw[←hw6];exact Bk.new wr _ _
    have hb6:nD wr w6:=by rw[←hw6];exact nB.alloc lR _
    obtain⟨d0,d1⟩:=hB6.c2;have HW6:=hid (show nD w w6∧nD w2 w6 from⟨hW.trans (hb6.mono hW.size),hW2.trans (hb6.mono hW2.size)⟩);have HO6:=hid (show w6.ownsRow w2.heap.size 46 2 u2 m (ys.flatMap exc)∧ys.length=m from⟨Vg HO.o.1 hb6,HO.o.2⟩);obtain⟨pA,pc,rfl⟩:=Xs HO6.o.1;have hmn:m≤2000:=by omega
    rcases tP m with hm|hm
    · subst hm;clear hW hW2 HO hB6 hmk;go_wp2_with fail
      go_quiet (fail)
      go_wp2_with (at_builtin;go_must (refine aAc _ rfl _ _ 297 rfl w2.heap.size 46 xi xz 2 16 underlying297 hxi hxz hx5 hx56 hxc (by decide) _ _ _ (by rfl) (by exact Vg HO6.o.1 ((Vw nB _).alloc lR _)) _ [.int .i64 x.f,.int .i64 x.l] (by rfl) (by exact Bk.new _ _ _) rfl (by intro u hu;simp at hu;rcases hu with rfl|rfl<;>rfl) (by omega) (by decide) (by exact tK HW6.o.2.size (by simp)) ?_);intro v9 w9 hO9 hG9 hn9)
      have HE:=hid (aGe HW6.o HO6.o (Vw nB _) hbs.out hO9 hG9);clear hO9 hG9 hn9;go_roundw
      case rel=>exact⟨k+1,1,by omega,by omega,by go_num,HE.o.1,HE.o.2.1,_,HE.o.2.2⟩
      case measure=>simp[intOf];omega
    · obtain⟨p,rfl⟩:∃p,m=p+1:=⟨m - 1,by omega⟩
      obtain⟨g,hg⟩:∃g,pA=some ⟨g,0,none⟩:=by
       rcases HO6.o.1.2 with ⟨_,h0⟩|⟨g,cap,cur,hv,_⟩
       · omega
       · injection hv with hv _ _;exact⟨g,hv⟩
      subst hg;obtain⟨y,hy⟩:=nC (ys[p]'(by have:=HO6.o.2;omega));obtain⟨_,eg,_,e0,e1⟩:=Vk aBb (Ve HO6.o.1) (k:=p) (by have:=HO6.o.2;omega) (u:=.int .i64 y.f) (v:=.int .i64 y.l) (by rw[hy];rfl);injection eg with eg;subst eg;rw[Addr.add_lit] at e0 e1;simp only[Nat.zero_add] at e0 e1;have HY:=hid hy;have w1:wrap64 ((p:Int)+1 - 1)=(p:Int):=by unfold wrap64;omega
      have w2':IntKind.i64.wrap (p:Int)=(p:Int):=IntWalk.i64_in _ (by omega);have t0:decide ((0:Int)≤(p:Int))=true:=rZ (by omega);have n2:(0:Int)≤(p:Int):=by omega
      have n3:(p:Int)<(p:Int)+1:=by omega
      have hfz:=aOb HO6.o.1 (p*2+1);have HM:=hid hmk;clear hW hW2 HO hB6 hmk hy hm;by_cases hle:x.f≤wrap64 (y.f+y.l)
      · have t1:decide (x.f≤wrap64 (y.f+y.l))=true:=rZ hle;clear hle;go_wp2_with fail
        go_quiet (fail)
        go_wp2_with fail
        refine aAn (Ke w6) 21 (by kernel_rfl) (by first|exact Ke.of _ _|exact Ke.one _|exact⟨1,rfl⟩) (fun nE=>?_);refine kE 0 ?_;refine kE 1 ?_;refine kE 2 ?_;refine kE 3 ?_;refine kE 4 ?_;refine kE 5 ?_;refine kE 6 ?_;refine kE 7 ?_;refine kE 8 ?_;refine kE 9 ?_;refine kE 10 ?_;refine kE 11 ?_;refine kE 12 ?_;refine kE 13 ?_;refine kE 14 ?_;refine kE 15 ?_;refine kE 16 ?_;refine kE 17 ?_;refine kE 18 ?_;refine rL 19 (fun K hK=>?_);go_simp;refine hK.out _ _ (fun _=>Ke.of w6 nq) ?_;clear hK K nE;have nE:=Ke.of w6 nq;try simp only[Act.put,tC,tD,tE]
        refine rL 20 (fun K hK=>?_);go_simp;refine hK.out _ _ (fun _=>Ke.of w6 nq) ?_;clear hK K nE;have nE:=Ke.of w6 nq;try simp only[Act.put,tC,tD,tE]
        refine rL 21 (fun K hK=>?_);go_simp;refine hK.out _ _ (fun h=>absurd rfl h) ?_;clear hK K;try simp only[Act.put,tC,tD,tE]
        refine aAz (by kernel_rfl) ?_ _;go_wp2_with fail
        have HE:=hid (fun q L=>aOf (q:=q) (L:=L) HW6.o HO6.o HY.o hbs.out);go_roundw
        case rel=>exact⟨k+1,p+1,by omega,by have:=HM.o;omega,by go_num,(HE.o _ _).1,(HE.o _ _).2.1,_,(HE.o _ _).2.2⟩
        case measure=>simp[intOf];omega
      · have t1:decide (x.f≤wrap64 (y.f+y.l))=false:=rY hle;clear hle;go_wp2_with fail
        go_quiet (fail)
        go_wp2_with (at_builtin;go_must (refine aAc _ rfl _ _ 297 rfl w2.heap.size 46 xi xz 2 16 underlying297 hxi hxz hx5 hx56 hxc (by decide) _ _ _ (by rfl) (by exact Vg HO6.o.1 ((Vw nB _).alloc lR _)) _ [.int .i64 x.f,.int .i64 x.l] (by rfl) (by exact Bk.new _ _ _) rfl (by intro u hu;simp at hu;rcases hu with rfl|rfl<;>rfl) (by omega) (by decide) (by exact tK HW6.o.2.size (by simp)) ?_);intro v9 w9 hO9 hG9 hn9)
        have HE:=hid (aGe HW6.o HO6.o (Vw nB _) hbs.out hO9 hG9);clear hO9 hG9 hn9;go_roundw
        case rel=>exact⟨k+1,p+1+1,by omega,by have:=HM.o;omega,by go_num,HE.o.1,HE.o.2.1,_,HE.o.2.2⟩
        case measure=>simp[intOf];omega
  · obtain rfl:k=n:=by omega
    have n0:¬(k:Int)<(k:Int):=by omega
    go_wp2_with fail
    (try simp only[Exit.inBlock,Exit.then,Exit.noGoto_ret])
    go_ret;exact⟨⟨_,rfl,ys,by rw[HO.o.2];exact hmk,by unfold ExO;rw[HO.o.2];exact ownsRow_base_a HO.o.1 hbs.out⟩,hW⟩
end Go.Proofs.YtdhlicgaalnmoaaGreatDoor.Tp
