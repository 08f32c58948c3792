/- Contracts of the program's functions, and laws on memory: a part of the proof of TopRoom. -/
import Derived.Test.YthhndleddlmgiaaGreatDoorZD
import Derived.Maps.Own
import Derived.Maps.OwnOps
import Derived.Maps.OwnSet
import Derived.Maps.Views
import Derived.Maps.Range
import Derived.Maps.RangeWalk
import Derived.Lib.SlKeysI
import Derived.ArgAppend
import Derived.Deep.Upon
import Derived.Shelf.SlIterI.Nil
import Derived.Shelf.SortM.Plain
import Derived.Shelf.SortM.SortNone
import Derived.Ground.GgzProg
import Derived.Ground.SlgmProg
import Derived.Shelf.SlSortCmp.WholeK
import Derived.Ground.SlsfProg
import Derived.Test.YthhndleddlmgiaaGreatDoorProg
import Derived.LoopTactic
import Derived.LoopN
import Derived.Lib.Hide
import Derived.Deep.DeepMust
import Derived.Laws.MakeOwn
import Derived.Laws.Entries
import Derived.WalkSpells
import Derived.WalkMore
import Derived.IntWalk
import Derived.Deep.QuietTactic
import Derived.BigQuiet
import Derived.Shelf.Abstract
import Derived.Sort.OwnSorted
namespace Go.Proofs.YthhndleddlmgiaaGreatDoor.Tp
set_option maxHeartbeats 8000000
set_option maxRecDepth 100000
set_option linter.unusedSimpArgs false
set_option linter.unusedVariables false
section
open Go.RowKit Go.Maps
def RVal (v : Value) : Option (DataW Value × List MemPlace) := some (.held v, [])
theorem RVal_inv {v : Value} {y : DataW Value × List MemPlace} (h : RVal v = some y) : y = (.held v, []) := (Option.some.inj h).symm
def wf64 (x : Int) : Prop := (Lit.int .i64 x).wf = true
theorem wf_of {x : Int} (h1 : -9223372036854775808 ≤ x) (h2 : x ≤ 9223372036854775807) : wf64 x := by
 unfold wf64; simp [Lit.wf, IntKind.min, IntKind.max, IntKind.bits, IntKind.signed]; omega
theorem key64 {P : Program} {k : TypeId} (hk : P.underlying k = some (.int .i64)) {x : Int} (h : wf64 x) : keyOf P k (.int .i64 x) = some (.int .i64 x) := keyOf_int_mk hk h
def upd (f : Int → Option Value) (x : Int) (v : Option Value) : Int → Option Value := fun j => if j = x then v else f j
theorem upd_same (f : Int → Option Value) (x : Int) (v : Option Value) : upd f x v x = v := by unfold upd; rw [if_pos rfl]
theorem upd_other (f : Int → Option Value) {x j : Int} (v : Option Value) (h : j ≠ x) : upd f x v j = f j := by unfold upd; rw [if_neg h]
def sized (s : Nat) (o : Option Value) : Nat := if o.isSome then s else s + 1
def dat (o : Option Value) (z : DataW Value) : DataW Value := match o with | some v => .held v | none => z
def IMd (w : World) (P : Program) (k : TypeId) (b s : Nat) (D : DataW Value) (f : Int → Option Value) : Prop :=
 w.ownsMap P k RVal b s D ∧ Maps.size D = s ∧ ∀ x, wf64 x → ∀ z, D.atKey (.int .i64 x) z = dat (f x) z
def IM (w : World) (P : Program) (k : TypeId) (b s : Nat) (f : Int → Option Value) : Prop := ∃ D, IMd w P k b s D f
section
variable {w w' : World} {P : Program} {k t e : TypeId} {b s : Nat} {D : DataW Value} {f : Int → Option Value}
theorem IM.made (w : World) (P : Program) (k : TypeId) : IM (w.alloc (.map #[] 0)) P k w.heap.size 0 (fun _ => none) := ⟨.map [], World.ownsMap_made w P k RVal, rfl, fun x _ z => rfl⟩
theorem IMd.ag {F : Foot} (h : IMd w P k b s D f) (a : Ag F w w') (hF : F b) : IMd w' P k b s D f := ⟨map_ag h.1 a hF, h.2⟩
theorem IM.ag {F : Foot} (h : IM w P k b s f) (a : Ag F w w') (hF : F b) : IM w' P k b s f := by obtain ⟨D, h⟩ := h; exact ⟨D, h.ag a hF⟩
theorem IM.next (h : IM w P k b s f) (hb : Below w.heap.size w w') : IM w' P k b s f := h.ag (F := fun c => c = b) (.of_below hb) rfl
theorem IM.lt (h : IM w P k b s f) : b < w.heap.size := by obtain ⟨D, h, _⟩ := h; exact h.lt
theorem IM.at_ (h : IM w P k b s f) : ∃ es cl, w.heap[b]? = some (.map es cl) := by obtain ⟨D, ⟨es, cl, hb, _⟩, _⟩ := h; exact ⟨es, cl, hb⟩
theorem IMd.has (h : IMd w P k b s D f) {x : Int} (hx : wf64 x) : Maps.has D (.int .i64 x) = (f x).isSome := by
 have ha := h.2.2 x hx
 cases hf : f x with
 | none => rw [hf] at ha; exact Maps.has_false_of_atKey ha
 | some v => rw [hf] at ha; exact Maps.has_true_of_atKey ha
theorem IM.look (h : IM w P k b s f) (K : Keyed P k) (hk : P.underlying k = some (.int .i64)) (ht : P.underlying t = some (.map k e)) {z : Value} (hz : (zeroValue e).run P w = .ok z w) {x : Int} (hx : wf64 x) :
  (Instr.lookup t (.map (some b)) (.int .i64 x) false).run P w = .ok ((f x).getD z) w := by
 obtain ⟨D, h, _, ha⟩ := h
 obtain ⟨v, ps, hr, hv⟩ := h.lookup K ht hz (zd := .held z) (zp := []) rfl (key64 hk hx)
 rw [ha x hx] at hv
 have hv := RVal_inv hv
 rw [hr]
 cases hf : f x with
 | none => rw [hf] at hv; injection hv with hv; injection hv with hv; rw [← hv]; rfl
 | some u => rw [hf] at hv; injection hv with hv; injection hv with hv; rw [← hv]; rfl
theorem IM.look_ok (h : IM w P k b s f) (K : Keyed P k) (hk : P.underlying k = some (.int .i64)) (ht : P.underlying t = some (.map k e)) {z : Value} (hz : (zeroValue e).run P w = .ok z w) {x : Int} (hx : wf64 x) :
  (Instr.lookup t (.map (some b)) (.int .i64 x) true).run P w = .ok (.tuple #[(f x).getD z, .bool (f x).isSome]) w := by
 obtain ⟨D, h⟩ := h
 obtain ⟨v, ps, hr, hv⟩ := h.1.look_ok K ht hz (zd := .held z) (zp := []) rfl (key64 hk hx)
 rw [h.2.2 x hx] at hv
 have hv := RVal_inv hv
 rw [hr, h.has hx]
 cases hf : f x with
 | none => rw [hf] at hv; injection hv with hv; injection hv with hv; rw [← hv]; rfl
 | some u => rw [hf] at hv; injection hv with hv; injection hv with hv; rw [← hv]; rfl
theorem IM.len (h : IM w P k b s f) (ht : P.underlying t = some (.map k e)) (ty : TypeId) : (Builtin.len_ #[t] ty #[.map (some b)]).run P w = .ok (.int .i64 (s : Int)) w := by
 obtain ⟨D, h, hs, _⟩ := h
 rw [h.len ht ty, hs]
theorem own_tight {H : Type} {R : Value → Option (DataW H × List MemPlace)} {n : Nat} {D : DataW H} (h : w.ownsMap P k R b n D) : w.ownsMap P k R b (Maps.size D) D := by
 obtain ⟨es, cl, hb, F, _, rfl⟩ := h
 exact ⟨es, cl, hb, F, by simp [Maps.size, length_sorted], rfl⟩
theorem IMd.put (h : IMd w P k b s D f) (K : Keyed P k) (hk : P.underlying k = some (.int .i64)) {x : Int} (hx : wf64 x) (v : Value) {w' : World} {n : Nat} (ho : w'.ownsMap P k RVal b n (D.put (.int .i64 x) (.held v))) :
  IM w' P k b (sized s (f x)) (upd f x (some v)) := by
 have hkl : WideAt.IsKeyLit (.int .i64 x) := by simp [WideAt.IsKeyLit]
 have hsz : Maps.size (D.put (.int .i64 x) (.held v)) = sized s (f x) := by
  rw [Maps.size_put (h.1.tidy K) (.held v), h.has hx, h.2.1]
  unfold sized; cases f x <;> rfl
 refine ⟨_, ⟨hsz ▸ own_tight ho, hsz, fun y hy z => ?_⟩⟩
 by_cases e1 : y = x
 · subst e1; rw [upd_same, atKey_put_same h.1.isMap hkl]; rfl
 · rw [upd_other _ _ e1, atKey_put_other (fun e2 => by injection e2 with _ e2; exact e1 e2)]; exact h.2.2 y hy z
theorem IM.update (h : IM w P k b s f) (K : Keyed P k) (hk : P.underlying k = some (.int .i64)) (ht : P.underlying t = some (.map k e)) (hs : s ≤ 1000000) {x : Int} (hx : wf64 x) (v : Value) :
  ∃ w', (Instr.mapUpdate t (.map (some b)) (.int .i64 x) v).run P w = .ok () w' ∧ IM w' P k b (sized s (f x)) (upd f x (some v)) ∧ w.grownBy w' (some b) := by
 obtain ⟨D, h⟩ := h
 obtain ⟨w', hr, ho, hg⟩ := h.1.update K ht (by simp only [maxLen]; omega) (key64 hk hx) (val := v) (d := .held v) (ps := []) rfl
 exact ⟨w', hr, h.put K hk hx v ho, hg⟩
theorem IM.strike (h : IM w P k b s f) (K : Keyed P k) (hk : P.underlying k = some (.int .i64)) (ht : P.underlying t = some (.map k e)) {x : Int} (hx : wf64 x) (ty : TypeId) :
  ∃ w', (Builtin.delete_ #[t, k] ty #[.map (some b), .int .i64 x]).run P w = .ok (.tuple #[]) w' ∧ IM w' P k b (if (f x).isSome then s - 1 else s) (upd f x none) ∧ w.grownBy w' (some b) := by
 obtain ⟨D, h⟩ := h
 obtain ⟨w', hr, ho, ht'⟩ := h.1.drop K ht (key64 hk hx) ty
 have hsz := Maps.size_del (k := .int .i64 x) (h.1.tidy K)
 rw [h.has hx, h.2.1] at hsz
 have hs2 : Maps.size (D.del (.int .i64 x)) = if (f x).isSome then s - 1 else s := by
  cases hf : f x with
  | none => rw [hf] at hsz; simp at hsz ⊢; omega
  | some u => rw [hf] at hsz; simp at hsz ⊢; omega
 refine ⟨w', hr, ⟨_, hs2 ▸ own_tight ho, hs2, fun y hy z => ?_⟩, ht'.grown⟩
 by_cases e1 : y = x
 · subst e1; rw [upd_same, atKey_del_same]; rfl
 · rw [upd_other _ _ e1, atKey_del_other (fun e2 => by injection e2 with _ e2; exact e1 e2)]; exact h.2.2 y hy z
structure KeysI (s : Nat) (f : Int → Option Value) (ks : List Int) : Prop where
 up : ks.Pairwise (· < ·)
 len : ks.length = s
 wf : ∀ x ∈ ks, wf64 x
 mem : ∀ x, wf64 x → (x ∈ ks ↔ (f x).isSome = true)
theorem IMd.keys (h : IMd w P k b s D f) (K : Keyed P k) (hk : P.underlying k = some (.int .i64)) : (intKeys D).Nodup ∧ (intKeys D).length = s ∧ (∀ x ∈ intKeys D, wf64 x) ∧ ∀ x, wf64 x → (x ∈ intKeys D ↔ (f x).isSome = true) := by
 have hw := Lib.hid (intKeys_wf h.1 hk)
 obtain ⟨es, hD, hpw, hkl⟩ := h.1.entries K
 obtain ⟨es', hD', hko⟩ := h.1.keysOf
 obtain rfl : es = es' := by rw [hD] at hD'; simpa using hD'
 have hK : ∀ p ∈ es, ∃ x, p.1 = .int .i64 x := fun p hp => by obtain ⟨v, hv⟩ := hko p hp; obtain ⟨x, _, hx, _⟩ := Maps.keyOf_i64 hk hv; exact ⟨x, hx⟩
 have hm : ∀ x, x ∈ intKeys D ↔ Maps.has D (.int .i64 x) = true := fun x => by
  subst hD
  rw [Maps.has_eq, List.any_eq_true]
  show x ∈ es.map (fun p => Go.intOf p.1) ↔ _
  rw [List.mem_map]
  constructor
  · rintro ⟨p, hp, rfl⟩
    obtain ⟨a, ha⟩ := hK p hp
    exact ⟨p, hp, by rw [ha]; simp [Lit.sameKey, Go.intOf]⟩
  · rintro ⟨p, hp, hs⟩
    obtain ⟨a, ha⟩ := hK p hp
    rw [ha] at hs
    exact ⟨p, hp, by rw [ha]; simpa [Lit.sameKey, Go.intOf] using hs⟩
 refine ⟨?_, ?_, hw.out, fun x hx => by rw [hm x, h.has hx]⟩
 · subst hD
   show (es.map fun p => Go.intOf p.1).Nodup
   refine List.pairwise_map.2 (hpw.imp_of_mem fun {p q} hp hq hne e => hne ?_)
   obtain ⟨a, ha⟩ := hK p hp
   obtain ⟨b, hb⟩ := hK q hq
   rw [ha, hb] at e ⊢
   exact congrArg _ e
 · rw [← h.2.1]; subst hD
   show (es.map fun p => Go.intOf p.1).length = es.length
   rw [List.length_map]
theorem IMd.sorted (h : IMd w P k b s D f) (K : Keyed P k) (hk : P.underlying k = some (.int .i64)) {ss : List Int} (hp : ss.Perm (intKeys D)) : KeysI s f (ss.mergeSort (fun x y => decide (x ≤ y))) := by
 obtain ⟨hn, hl, hw, hm⟩ := h.keys K hk
 have hp2 : (ss.mergeSort (fun x y => decide (x ≤ y))).Perm (intKeys D) := (List.mergeSort_perm _ _).trans hp
 have tr : ∀ a b c : Int, decide (a ≤ b) = true → decide (b ≤ c) = true → decide (a ≤ c) = true := fun a b c h1 h2 => by simp only [decide_eq_true_eq] at *; omega
 have tot : ∀ a b : Int, (decide (a ≤ b) || decide (b ≤ a)) = true := fun a b => by simp only [Bool.or_eq_true, decide_eq_true_eq]; omega
 refine ⟨?_, hp2.length_eq.trans hl, fun x hx => hw x (hp2.mem_iff.1 hx), fun x hx => by rw [hp2.mem_iff]; exact hm x hx⟩
 have h1 := List.pairwise_mergeSort tr tot ss
 have h2 : (ss.mergeSort (fun x y => decide (x ≤ y))).Nodup := hp2.nodup_iff.2 hn
 refine (h1.and h2).imp fun {a b} q => ?_
 have q1 := q.1
 simp only [decide_eq_true_eq] at q1
 have q2 : a ≠ b := q.2
 omega
theorem sorted_len {l : List Int} (h : l.Pairwise (· < ·)) {n : Nat} (hb : ∀ x ∈ l, 0 ≤ x ∧ x < (n : Int)) : l.length ≤ n := by
 have key : ∀ (m : Nat) (l : List Int), l.Pairwise (· < ·) → (∀ x ∈ l, (m : Int) ≤ x ∧ x < (n : Int)) → m ≤ n → l.length ≤ n - m := by
  intro m l
  induction l generalizing m with
  | nil => intros; simp
  | cons a l ih =>
    intro hp hb hm
    rw [List.pairwise_cons] at hp
    have ha := hb a List.mem_cons_self
    have h2 := ih (a.toNat + 1) hp.2 (fun x hx => by
     have := hp.1 x hx
     have := (hb x (List.mem_cons_of_mem _ hx)).2
     omega) (by omega)
    simp only [List.length_cons]
    omega
 simpa using key 0 l h (fun x hx => by have := hb x hx; exact ⟨by simpa using this.1, this.2⟩) (Nat.zero_le _)
def IR (w : World) (P : Program) (k : TypeId) (b r s : Nat) (f : Int → Option Value) (left : Lit → Bool) (cnt : Nat) : Prop :=
 ∃ D, w.ranges P k RVal b r s D left cnt ∧ Maps.size D = s ∧ ∀ x, wf64 x → ∀ z, D.atKey (.int .i64 x) z = dat (f x) z
theorem IR.im {r cnt : Nat} {left : Lit → Bool} (h : IR w P k b r s f left cnt) : IM w P k b s f := by obtain ⟨D, h, r⟩ := h; exact ⟨D, h.owns, r⟩
theorem IR.left_eq {r cnt : Nat} {left : Lit → Bool} (h : IR w P k b r s f left cnt) : w.rangeLeft b r = cnt := by obtain ⟨D, h, _⟩ := h; exact h.left_eq
theorem IR.lt {r cnt : Nat} {left : Lit → Bool} (h : IR w P k b r s f left cnt) : r < w.heap.size := by obtain ⟨D, h, _⟩ := h; exact h.lt
theorem IR.ag {F : Foot} {r cnt : Nat} {left : Lit → Bool} (h : IR w P k b r s f left cnt) (a : Ag F w w') (hb : F b) (hr : F r) : IR w' P k b r s f left cnt := by
 obtain ⟨D, ⟨es, cl, si, se, c0, h1, h2, h3, h4, h5, h6⟩, q⟩ := h
 exact ⟨D, ⟨es, cl, si, se, c0, a.keep _ _ h1 (.inl hb), h2, h3, h4, a.keep _ _ h5 (.inl hr), h6⟩, q⟩
theorem IR.below {r cnt : Nat} {left : Lit → Bool} (h : IR w P k b r s f left cnt) (hb : Below w.heap.size w w') : IR w' P k b r s f left cnt := h.ag (F := fun _ => True) (.of_below hb) trivial trivial
end
section
variable {P : Program} (w : World) {ops : Array Oper} {rest : List Oper} {o : Oper} {a : Act} {Q : Exit → Act → World → Prop}
theorem wpList_irange (hg : o.guard = none) (m : Operand) (t : TypeId) (hop : o.op = Op.range t m) (k e : TypeId) (K : Keyed P k) (ht : P.underlying t = some (.map k e)) (b s : Nat) (f : Int → Option Value)
  (hm : a.eval m = .map (some b)) (h : IM w P k b s f)
  (hK : ∀ w' left, IR w' P k b w.heap.size s f left s → w.grownBy w' none → w'.heap.size = w.heap.size + 1 → wpList P ops Q rest (a.put o.dst (.pointer (some ⟨w.heap.size, 0, none⟩))) w') :
  wpList P ops Q (o :: rest) a w := by
 obtain ⟨D, h⟩ := h
 refine wpList_range_own w hg m t hop k e K ht RVal b s D hm h.1 (fun w' h1 h2 h3 => hK w' (Maps.has D) ⟨D, ?_, h.2⟩ h2 h3)
 rw [h.2.1] at h1; exact h1
theorem wpList_inext (hg : o.guard = none) (it : Operand) (hop : o.op = Op.next it false) (k : TypeId) (K : Keyed P k) (hk : P.underlying k = some (.int .i64)) (b r s : Nat) (f : Int → Option Value) (left : Lit → Bool) (cnt : Nat)
  (hit : a.eval it = .pointer (some ⟨r, 0, none⟩)) (h : IR w P k b r s f left cnt)
  (hDone : wpList P ops Q rest (a.put o.dst (.tuple #[.bool false])) w)
  (hMore : ∀ (x : Int) (c : Value) (w' : World) (left' : Lit → Bool) (cnt' : Nat), wf64 x → f x = some c → IR w' P k b r s f left' cnt' → cnt' < cnt → w.grownBy w' (some r) → w'.heap.size = w.heap.size →
   (Instr.entry (.pointer (some ⟨r, 0, none⟩))).run P w' = .ok (.tuple #[.int .i64 x, c]) w' → wpList P ops Q rest (a.put o.dst (.tuple #[.bool true, .int .i64 x, c])) w') :
  wpList P ops Q (o :: rest) a w := by
 obtain ⟨D, h, hq⟩ := h
 refine wpList_next_ranges w hg it hop k K RVal (Value.int .i64) id (fun key kl hkey => by obtain ⟨x, hx, _⟩ := Maps.keyOf_i64 hk hkey; exact ⟨x, hx⟩) (fun v y _ => ⟨v, rfl⟩) b r s D left cnt hit h (fun _ _ => hDone) (fun x c kl y w' cnt' hkey hlk hv hat hrg hlt hgr hsz hen => ?_)
 obtain ⟨x', ex, rfl, hwx⟩ := Maps.keyOf_i64 hk hkey
 obtain rfl : x = x' := encZ_inj ex
 have hy := RVal_inv hv
 have hf : f x = some c := by
  have h1 := hat (.held undef)
  have h2 := hq.2 x hwx (.held undef)
  rw [h2, hy] at h1
  cases hf : f x with
  | none =>
    exfalso
    have h3 := hat (.map [])
    rw [hq.2 x hwx, hf, hy] at h3
    cases h3
  | some v => rw [hf] at h1; injection h1 with h1; rw [h1]; rfl
 exact hMore x c w' _ cnt' hwx hf ⟨D, hrg, hq⟩ hlt hgr hsz hen
end
section
variable {P : Program} (w : World) {ops : Array Oper} {rest : List Oper} {o : Oper} {a : Act} {Q : Exit → Act → World → Prop}
theorem wp_iupd {K : Act → World → Prop} (m x v : Operand) (t : TypeId) (hop : o.op = Op.mapUpdate t m x v) (k e : TypeId) (KK : Keyed P k) (hk : P.underlying k = some (.int .i64)) (ht : P.underlying t = some (.map k e)) (b s : Nat) (f : Int → Option Value)
  (hm : a.eval m = .map (some b)) (h : IM w P k b s f) (hs : s ≤ 1000000) (key : Int) (val : Value) (hx : a.eval x = .int .i64 key) (hv : a.eval v = val) (hw : wf64 key)
  (hK : ∀ w', IM w' P k b (sized s (f key)) (upd f key (some val)) → w.grownBy w' (some b) → K (a.put o.dst undef) w') : o.wp P a w K Q := by
 obtain ⟨w', hrun, h1, h2⟩ := h.update KK hk ht hs hw val
 unfold Oper.wp
 simp [execOp, hop, hm, hx, hv, hrun, Result.andThen]
 exact hK w' h1 h2
theorem wpList_iupd (hg : o.guard = none) (m x v : Operand) (t : TypeId) (hop : o.op = Op.mapUpdate t m x v) (k e : TypeId) (KK : Keyed P k) (hk : P.underlying k = some (.int .i64)) (ht : P.underlying t = some (.map k e)) (b s : Nat) (f : Int → Option Value)
  (hm : a.eval m = .map (some b)) (h : IM w P k b s f) (hs : s ≤ 1000000) (key : Int) (val : Value) (hx : a.eval x = .int .i64 key) (hv : a.eval v = val) (hw : wf64 key)
  (hK : ∀ w', IM w' P k b (sized s (f key)) (upd f key (some val)) → w.grownBy w' (some b) → wpList P ops Q rest (a.put o.dst undef) w') : wpList P ops Q (o :: rest) a w :=
 wpList_plain hg fun _ hK' => wp_iupd w m x v t hop k e KK hk ht b s f hm h hs key val hx hv hw fun w' h1 h2 => hK' _ _ (hK w' h1 h2)
theorem wpList_idel (hg : o.guard = none) (m x : Operand) (t k : TypeId) (hop : o.op = Op.call { callee := Callee.builtin Builtin.delete, args := #[m, x], argTypes := #[t, k] }) (e : TypeId) (KK : Keyed P k) (hk : P.underlying k = some (.int .i64)) (ht : P.underlying t = some (.map k e)) (b s : Nat) (f : Int → Option Value)
  (hm : a.eval m = .map (some b)) (h : IM w P k b s f) (key : Int) (hx : a.eval x = .int .i64 key) (hw : wf64 key)
  (hK : ∀ w', IM w' P k b (if (f key).isSome then s - 1 else s) (upd f key none) → w.grownBy w' (some b) → wpList P ops Q rest (a.put o.dst (.tuple #[])) w') : wpList P ops Q (o :: rest) a w := by
 refine wpList_plain hg fun K' hK' => ?_
 obtain ⟨w', hrun, r1, r2⟩ := h.strike KK hk ht hw o.type
 unfold Oper.wp
 simp [execOp, hop, resolve, invoke, builtin, hm, hx, hrun, Result.andThen]
 exact hK' _ _ (hK w' r1 r2)
end
end
section
open Go.RowKit Go.Maps
structure Fam (w : World) (F : Foot) (Ft : Nat → Foot) : Prop where
 lt : In w F
 sub : ∀ i b, Ft i b → F b
 dis : ∀ i j, i ≠ j → Dis (Ft i) (Ft j)
def putF (Ft : Nat → Foot) (j : Nat) (G : Foot) : Nat → Foot := fun i => if i = j then G else Ft i
def orF (F G : Foot) : Foot := fun b => F b ∨ G b
theorem putF_same (Ft : Nat → Foot) (j : Nat) (G : Foot) : putF Ft j G j = G := by unfold putF; rw [if_pos rfl]
theorem putF_other (Ft : Nat → Foot) {i j : Nat} (G : Foot) (h : i ≠ j) : putF Ft j G i = Ft i := by unfold putF; rw [if_neg h]
section
variable {w w' : World} {F : Foot} {Ft : Nat → Foot}
theorem Fam.inn (h : Fam w F Ft) (i : Nat) : In w (Ft i) := fun b q => h.lt b (h.sub i b q)
theorem Fam.ag (h : Fam w F Ft) {i j : Nat} (k : Kf (Ft j) w w') (hn : i ≠ j) : Ag (Ft i) w w' := k.ag (h.dis i j hn)
theorem Fam.kf (h : Fam w F Ft) {j : Nat} (k : Kf (Ft j) w w') : Kf F w w' := k.mono (h.sub j)
theorem Fam.sb (h : Fam w F Ft) {j : Nat} {G : Foot} (hs : Sb w (Ft j) G) : Sb w F (orF F G) := fun b q => q.elim .inl (fun g => (hs b g).imp (h.sub j b) id)
theorem Fam.next (h : Fam w F Ft) (hs : w.heap.size ≤ w'.heap.size) : Fam w' F Ft := ⟨h.lt.next hs, h.sub, h.dis⟩
theorem Fam.step (h : Fam w F Ft) {j : Nat} {G : Foot} (hz : w.heap.size ≤ w'.heap.size) (hs : Sb w (Ft j) G) (hi : In w' G) : Fam w' (orF F G) (putF Ft j G) := by
 refine ⟨fun b q => q.elim (fun e => Nat.lt_of_lt_of_le (h.lt b e) hz) (hi b), fun i b q => ?_, fun a c hn b q r => ?_⟩
 · by_cases e : i = j
   · subst e; rw [putF_same] at q; exact .inr q
   · rw [putF_other _ _ e] at q; exact .inl (h.sub i b q)
 · by_cases e1 : a = j <;> by_cases e2 : c = j
   · exact hn (e1.trans e2.symm)
   · subst e1
     rw [putF_same] at q; rw [putF_other _ _ e2] at r
     rcases hs b q with g | g
     · exact h.dis a c hn b g r
     · have := h.inn c b r; omega
   · subst e2
     rw [putF_same] at r; rw [putF_other _ _ e1] at q
     rcases hs b r with g | g
     · exact h.dis a c hn b q g
     · have := h.inn a b q; omega
   · rw [putF_other _ _ e1] at q; rw [putF_other _ _ e2] at r; exact h.dis a c hn b q r
theorem Sb.or {F G : Foot} (h : Sb w F G) : Sb w F (orF F G) := fun b q => q.elim .inl (h b)
theorem Fam.start (w : World) : Fam w (fun _ => False) (fun _ _ => False) := ⟨fun _ q => q.elim, fun _ _ q => q, fun _ _ _ _ q => q.elim⟩
end
end
section
open Go.RowKit Go.Maps
structure OwnO (w : World) (e size : Nat) (v : Value) (n : Nat) (xs : List Value) : Prop where
 len : xs.length = n * size
 one : (v = .slice none 0 0 ∧ n = 0) ∨ ∃ g off cap cur, v = .slice (some ⟨g, off, none⟩) n cap ∧ w.heap[g]? = some (.cells cur e (0, 0)) ∧ n ≤ cap ∧ cap ≤ maxLen ∧ off + cap * size ≤ cur.size ∧ ∀ j u, xs[j]? = some u → w.cell? ⟨g, off + j, none⟩ = some u
section
variable {w w' : World} {e size n : Nat} {v : Value} {xs : List Value}
theorem OwnO.of {B : Nat} (h : w.ownsRow B e size v n xs) : OwnO w e size v n xs := by
 refine ⟨h.1, ?_⟩
 rcases h.2 with h0 | ⟨g, cap, cur, hv, _, hh, hc, hm, hs, ht⟩
 · exact .inl h0
 · refine .inr ⟨g, 0, cap, cur, hv, hh, hc, hm, by omega, fun j u hj => ?_⟩
   have := h.cells (g := g) (by rw [hv]; rfl) j u hj
   rw [Addr.add_lit] at this; exact this
theorem OwnO.nil (w : World) (e size : Nat) : OwnO w e size (.slice none 0 0) 0 [] := ⟨by simp, .inl ⟨rfl, rfl⟩⟩
theorem OwnO.ag {F : Foot} (h : OwnO w e size v n xs) (k : Ag F w w') (hF : ∀ g, v.ownBlock = some g → F g) : OwnO w' e size v n xs := by
 refine ⟨h.len, ?_⟩
 rcases h.one with h0 | ⟨g, off, cap, cur, hv, hh, hc, hm, hs, hx⟩
 · exact .inl h0
 · have h2 := k.keep _ _ hh (.inl (hF g (by rw [hv]; rfl)))
   refine .inr ⟨g, off, cap, cur, hv, h2, hc, hm, hs, fun j u hj => ?_⟩
   rw [World.cell?_of_block (w := w) (w' := w') (by rw [h2, hh])]
   exact hx j u hj
theorem OwnO.shape (h : OwnO w e size v n xs) : ∃ A c, v = .slice A n c ∧ n ≤ c ∧ c ≤ maxLen := by
 rcases h.one with ⟨hv, h0⟩ | ⟨g, off, cap, cur, hv, hh, hc, hm, _⟩
 · exact ⟨none, 0, by rw [h0]; exact hv, by omega, by simp [maxLen]⟩
 · exact ⟨_, cap, hv, hc, hm⟩
theorem OwnO.rd {A : Option Addr} {c : Nat} (h : OwnO w e size (.slice A n c) n xs) : Rd w w.heap.size A xs := fun hn => by
 have hl := h.len
 rcases h.one with ⟨hv, h0⟩ | ⟨g, off, cap, cur, hv, hh, hc, hm, hs, hx⟩
 · rw [h0, Nat.zero_mul] at hl; omega
 · injection hv with hA _ _
   refine ⟨_, hA, lt_of hh, fun j u hu => ?_⟩
   rw [Addr.add_lit]; exact hx j u hu
theorem OwnO.at_ (h : OwnO w e size v n xs) {g : Nat} (hg : v.ownBlock = some g) : ∃ c fr, w.heap[g]? = some (.cells c e fr) := by
 rcases h.one with ⟨hv, h0⟩ | ⟨g', off, cap, cur, hv, hh, hc, hm, hs, hx⟩
 · rw [hv] at hg; cases hg
 · rw [hv] at hg
   have hg : g' = g := Option.some.inj hg
   subst hg
   exact ⟨_, _, hh⟩
theorem OwnO.tail {g off cap : Nat} (h : OwnO w e size (.slice (some ⟨g, off, none⟩) (n + 1) cap) (n + 1) xs) : OwnO w e size (.slice (some ⟨g, off + size, none⟩) n (cap - 1)) n (xs.drop size) := by
 refine ⟨by rw [List.length_drop, h.len, Nat.add_mul]; omega, ?_⟩
 rcases h.one with ⟨hv, h0⟩ | ⟨g', off', cap', cur, hv, hh, hc, hm, hs, hx⟩
 · cases hv
 · injection hv with hA _ e3
   injection hA with hA
   injection hA with e1 e2
   subst e1 e2 e3
   refine .inr ⟨g, off + size, cap - 1, cur, rfl, hh, by omega, by omega, ?_, fun j u hj => ?_⟩
   · obtain ⟨d, rfl⟩ : ∃ d, cap = d + 1 := ⟨cap - 1, by omega⟩
     rw [Nat.add_sub_cancel]; rw [Nat.add_mul] at hs; omega
   · rw [List.getElem?_drop] at hj
     have := hx _ u hj
     rw [show off + size + j = off + (size + j) by omega]; exact this
theorem OwnO.empty {A : Option Addr} {c : Nat} {ys : List Value} (g off cap : Nat) {m : Nat} (h : OwnO w e size (.slice (some ⟨g, off, none⟩) m cap) m ys) : OwnO w e size (.slice (some ⟨g, off, none⟩) 0 0) 0 [] := by
 refine ⟨by simp, ?_⟩
 rcases h.one with ⟨hv, h0⟩ | ⟨g', off', cap', cur, hv, hh, hc, hm, hs, hx⟩
 · cases hv
 · injection hv with hA _ e3
   injection hA with hA
   injection hA with e1 e2
   subst e1 e2
   exact .inr ⟨g, off, 0, cur, rfl, hh, Nat.le_refl _, Nat.zero_le _, by omega, fun j u hj => by simp at hj⟩
end
theorem setCells_block (g : Nat) {e : TypeId} {fz : Nat × Nat} : ∀ (vs : List Value) (o : Nat) (w : World) (cur : Array Value), w.heap[g]? = some (.cells cur e fz) → ∃ cur', (w.setCells g o vs).heap[g]? = some (.cells cur' e fz) ∧ cur'.size = cur.size
 | [], o, w, cur, h => ⟨cur, h, rfl⟩
 | v :: r, o, w, cur, h => by
   have h1 : ∃ c1, (w.setCell ⟨g, o, none⟩ v).heap[g]? = some (.cells c1 e fz) ∧ c1.size = cur.size := by
    have hlt := lt_of h
    have hg : w.heap[g] = .cells cur e fz := by rw [Array.getElem?_eq_getElem hlt] at h; exact Option.some.inj h
    exact ⟨cur.setIfInBounds o v, by simp [World.setCell, hlt, Array.getElem_modify, hg], by simp⟩
   obtain ⟨c1, h1, hs1⟩ := h1
   obtain ⟨c2, h2, hs2⟩ := setCells_block g r (o + 1) _ c1 h1
   exact ⟨c2, h2, hs2.trans hs1⟩
theorem size_setCellsO (b : Nat) : ∀ (vs : List Value) (o : Nat) (w : World), (w.setCells b o vs).heap.size = w.heap.size
 | [], _, _ => rfl
 | v :: r, o, w => by rw [World.setCells, size_setCellsO b r, World.size_setCell]
theorem tape_setCellsO (b : Nat) : ∀ (vs : List Value) (o : Nat) (w : World), (w.setCells b o vs).tape = w.tape
 | [], _, _ => rfl
 | v :: r, o, w => by
   rw [World.setCells, tape_setCellsO b r]
   unfold World.setCell
   split <;> rfl
theorem cell_block {w : World} {g : Nat} {cur : Array Value} {e : TypeId} {fz : Nat × Nat} (h : w.heap[g]? = some (.cells cur e fz)) (i : Nat) : w.cell? ⟨g, i, none⟩ = cur[i]? := by
 simp [World.cell?, h]
theorem frozen_block {w : World} {g : Nat} {cur : Array Value} {e : TypeId} (h : w.heap[g]? = some (.cells cur e (0, 0))) (i : Nat) : w.frozen? ⟨g, i, none⟩ = false := by
 simp [World.frozen?, h]
section
variable {P : Program} {w : World}
theorem run_appO (t ty e : TypeId) (i : TypeInfo) (z : Value) (size bytes : Nat) (ht : P.underlying t = some (.slice e)) (hi : P.info? e = some i) (hz : i.zero = some z)
  (hsize : i.size = size) (hby : i.bytes = bytes) (hzs : z.cells.size = size) (hs0 : 0 < size)
  (v : Value) (n : Nat) (xs : List Value) (hown : OwnO w e size v n xs)
  (a : Addr) (m c : Nat) (news : List Value) (hl : news.length = m * size) (hnews : ∀ j u, news[j]? = some u → w.cell? (a.add j) = some u) (h1 : ∀ u ∈ news, u.oneCell' = true)
  (h63 : n + m ≤ 1000000) (hbytes : bytes ≤ 1000) :
  ∃ v' w', (Builtin.append_ #[t, t] ty #[v, .slice (some a) m c]).run P w = .ok v' w' ∧ OwnO w' e size v' (n + m) (xs ++ news) ∧ w.grownBy w' v.ownBlock ∧ (v'.ownBlock = v.ownBlock ∨ ∀ g, v'.ownBlock = some g → w.heap.size ≤ g) := by
 have hmul : (n + m) * bytes ≤ 140737488355328 := Nat.le_trans (Nat.mul_le_mul h63 hbytes) (by decide)
 rcases hown.one with ⟨rfl, rfl⟩ | ⟨g, off, cap, cur, rfl, hh, hc, hm, hs, hx⟩
 · obtain rfl : xs = [] := List.eq_nil_of_length_eq_zero (by simpa using hown.len)
   obtain ⟨v', w', hr, h2, h3, _, h5⟩ := run_append_own_at (P := P) w w.heap.size t ty e i z size bytes ht hi hz hsize hby hzs hs0 (.slice none 0 0) 0 [] (World.ownsRow_nil w _ e size) a m c news hl hnews h1 (by simp only [maxLen]; omega) hmul (Nat.le_refl _)
   refine ⟨v', w', hr, OwnO.of h2, h3, ?_⟩
   rcases h5 with h5 | h5
   · exact .inl h5
   · exact .inr (fun g hg => by rw [h5] at hg; injection hg with hg; omega)
 · by_cases hroom : n + m ≤ cap
   · subst hsize
     have hfit : off + n * i.size + news.length ≤ cur.size := by
      rw [hl, Nat.add_assoc, ← Nat.add_mul]
      exact Nat.le_trans (Nat.add_le_add_left (Nat.mul_le_mul_right _ hroom) _) hs
     have hth : ∀ j, j < news.length → (w.cell? ⟨g, off + n * i.size + j, none⟩).isSome = true := fun j hj => by
      rw [cell_block hh, Array.getElem?_eq_getElem (by omega)]; rfl
     have hr := run_append_room_cells (P := P) w t ty e i ht hi g off n cap a m c news hl hnews h1 hroom hth (fun j hj => frozen_block hh _)
     obtain ⟨cur', h2, hs2⟩ := setCells_block g news (off + n * i.size) w cur hh
     refine ⟨_, _, hr, ⟨by rw [List.length_append, hown.len, hl, Nat.add_mul], .inr ⟨g, off, cap, cur', rfl, h2, hroom, hm, by rw [hs2]; exact hs, fun j u hj => ?_⟩⟩, ⟨World.os_setCells _ _ _ _, ?_, World.output_setCells _ _ _ _, Nat.le_of_eq (size_setCellsO _ _ _ _).symm, fun k hk hne => World.heap_setCells_other w g _ news hk (fun e => hne (by rw [e]; rfl))⟩, .inl rfl⟩
     · rcases Nat.lt_or_ge j xs.length with hj2 | hj2
       · rw [List.getElem?_append_left hj2] at hj
         rw [World.cell?_setCells_out g news _ w _ (fun _ _ => .inl (by show off + j < _; have := hown.len; omega))]
         exact hx j u hj
       · rw [List.getElem?_append_right hj2] at hj
         have hl2 := hown.len
         have hjn : j - xs.length < news.length := (List.getElem?_eq_some_iff.1 hj).1
         have := World.cell?_setCells_in g news (off + n * i.size) w hth (j - xs.length) hjn
         rw [show off + n * i.size + (j - xs.length) = off + j by omega] at this
         rw [this]
         rw [List.getElem?_eq_getElem hjn] at hj
         exact hj
     · exact tape_setCellsO _ _ _ _
   · obtain ⟨v', w', hr, r1, r2⟩ := run_append_arg_grows (P := P) w t ty e i z size bytes ht hi hz hsize hby hzs hs0 ⟨g, off, none⟩ n cap xs hown.len (fun j u hj => by rw [Addr.add_lit]; exact hx j u hj) a m c news hl hnews (by omega) (by simp only [maxLen]; omega) hmul
     refine ⟨v', w', hr, OwnO.of r1, ⟨r2.os, r2.tape, r2.output, r2.size, fun k hk _ => r2.block k hk (by simp)⟩, ?_⟩
     exact .inr (fun g hg => own_at_ge r1 hg)
end
end
end Go.Proofs.YthhndleddlmgiaaGreatDoor.Tp
namespace Go.Proofs
set_option maxHeartbeats 8000000
set_option maxRecDepth 100000
set_option linter.unusedSimpArgs false
set_option linter.unusedVariables false
section
open Go.Shelf
def Tryz.sortE_ren : Go.Shelf.Ren := ⟨fun | 6 => 360 | 15 => 261 | 14 => 382 | 28 => 318 | 29 => 319 | 20 => 390 | 21 => 391 | 22 => 392 | 23 => 393 | 24 => 394 | 25 => 395 | 26 => 396 | 27 => 397 | 46 => 404 | 47 => 352 | 48 => 353 | 49 => 405 | 50 => 406 | 57 => 411 | n => n, fun | 22 => 393 | 24 => 197 | 25 => 437 | 3 => 3 | 39 => 249 | 0 => 0 | 53 => 190 | 55 => 188 | 4 => 4 | 46 => 385 | 45 => 384 | 50 => 280 | 5 => 5 | 9 => 9 | 66 => 429 | 70 => 433 | 76 => 453 | 77 => 454 | n => n, fun | n => n⟩
theorem Tryz.sortE : Go.Proofs.SlLaysF0.n6 Tryz.prog Tryz.sortE_ren := {
 mixed := by kernel_rfl
 f6 := ⟨Tryz.f360.name, by decide, Tryz.func360.trans (congrArg some (by kernel_rfl))⟩
 f14 := ⟨Tryz.f382.name, by decide, Tryz.func382.trans (congrArg some (by kernel_rfl))⟩
 f15 := Tryz.func261.trans (congrArg some (by kernel_rfl))
 f20 := ⟨Tryz.f390.name, by decide, Tryz.func390.trans (congrArg some (by kernel_rfl))⟩
 f21 := ⟨Tryz.f391.name, by decide, Tryz.func391.trans (congrArg some (by kernel_rfl))⟩
 f22 := ⟨Tryz.f392.name, by decide, Tryz.func392.trans (congrArg some (by kernel_rfl))⟩
 f23 := ⟨Tryz.f393.name, by decide, Tryz.func393.trans (congrArg some (by kernel_rfl))⟩
 f24 := ⟨Tryz.f394.name, by decide, Tryz.func394.trans (congrArg some (by kernel_rfl))⟩
 f25 := ⟨Tryz.f395.name, by decide, Tryz.func395.trans (congrArg some (by kernel_rfl))⟩
 f26 := ⟨Tryz.f396.name, by decide, Tryz.func396.trans (congrArg some (by kernel_rfl))⟩
 f27 := ⟨Tryz.f397.name, by decide, Tryz.func397.trans (congrArg some (by kernel_rfl))⟩
 f28 := Tryz.func318.trans (congrArg some (by kernel_rfl))
 f29 := Tryz.func319.trans (congrArg some (by kernel_rfl))
 f46 := ⟨Tryz.f404.name, by decide, Tryz.func404.trans (congrArg some (by kernel_rfl))⟩
 f47 := Tryz.func352.trans (congrArg some (by kernel_rfl))
 f48 := Tryz.func353.trans (congrArg some (by kernel_rfl))
 f49 := ⟨Tryz.f405.name, by decide, Tryz.func405.trans (congrArg some (by kernel_rfl))⟩
 f50 := ⟨Tryz.f406.name, by decide, Tryz.func406.trans (congrArg some (by kernel_rfl))⟩
 f57 := ⟨Tryz.f411.name, by decide, Tryz.func411.trans (congrArg some (by kernel_rfl))⟩
 t0 := Tryz.underlying0
 a0 := Tryz.isAgg0
 z0 := Tryz.sizeOf0
 v0 := Tryz.zeroValue0
 t3 := Tryz.underlying3
 a3 := Tryz.isAgg3
 z3 := Tryz.sizeOf3
 v3 := Tryz.zeroValue3
 t4 := Tryz.underlying4
 a4 := Tryz.isAgg4
 z4 := Tryz.sizeOf4
 v4 := Tryz.zeroValue4
 t5 := Tryz.underlying5
 a5 := Tryz.isAgg5
 z5 := Tryz.sizeOf5
 v5 := Tryz.zeroValue5
 t9 := Tryz.underlying9
 a9 := Tryz.isAgg9
 z9 := Tryz.sizeOf9
 v9 := Tryz.zeroValue9
 t22 := Tryz.underlying393
 a22 := Tryz.isAgg393
 z22 := Tryz.sizeOf393
 v22 := Tryz.zeroValue393
 t25 := Tryz.underlying437
 a25 := Tryz.isAgg437
 z25 := Tryz.sizeOf437
 v25 := Tryz.zeroValue437
 t39 := Tryz.underlying249
 a39 := Tryz.isAgg249
 z39 := Tryz.sizeOf249
 v39 := Tryz.zeroValue249
 t45 := Tryz.underlying384
 a45 := Tryz.isAgg384
 z45 := Tryz.sizeOf384
 v45 := Tryz.zeroValue384
 t46 := Tryz.underlying385
 a46 := Tryz.isAgg385
 z46 := Tryz.sizeOf385
 v46 := Tryz.zeroValue385
 t50 := Tryz.underlying280
 a50 := Tryz.isAgg280
 z50 := Tryz.sizeOf280
 v50 := Tryz.zeroValue280
 t53 := Tryz.underlying190
 a53 := Tryz.isAgg190
 z53 := Tryz.sizeOf190
 v53 := Tryz.zeroValue190
 t55 := Tryz.underlying188
 a55 := Tryz.isAgg188
 z55 := Tryz.sizeOf188
 v55 := Tryz.zeroValue188
 t66 := Tryz.underlying429
 a66 := Tryz.isAgg429
 z66 := Tryz.sizeOf429
 v66 := Tryz.zeroValue429
 t70 := Tryz.underlying433
 a70 := Tryz.isAgg433
 z70 := Tryz.sizeOf433
 v70 := Tryz.zeroValue433
 t76 := Tryz.underlying453
 a76 := Tryz.isAgg453
 z76 := Tryz.sizeOf453
 v76 := Tryz.zeroValue453
 t77 := Tryz.underlying454
 a77 := Tryz.isAgg454
 z77 := Tryz.sizeOf454
 v77 := Tryz.zeroValue454 }
def Tryz.sortI_ren : Go.Shelf.Ren := ⟨fun | 5 => 211 | 8 => 261 | 7 => 260 | 19 => 318 | 20 => 319 | 10 => 309 | 11 => 310 | 12 => 311 | 13 => 312 | 14 => 313 | 15 => 314 | 16 => 315 | 17 => 316 | 18 => 317 | 30 => 351 | 31 => 352 | 32 => 353 | 33 => 354 | 34 => 355 | 35 => 335 | 40 => 380 | n => n, fun | 23 => 29 | 25 => 3 | 3 => 3 | 32 => 249 | 22 => 29 | 0 => 0 | 44 => 190 | 46 => 188 | 4 => 4 | 36 => 385 | 35 => 384 | 41 => 280 | 5 => 5 | 9 => 9 | 53 => 429 | 57 => 433 | 63 => 453 | 64 => 454 | n => n, fun | n => n⟩
theorem Tryz.sortI : Go.Proofs.SlLaysM.n5 Tryz.prog Tryz.sortI_ren := {
 mixed := by kernel_rfl
 f5 := ⟨Tryz.f211.name, by decide, Tryz.func211.trans (congrArg some (by kernel_rfl))⟩
 f7 := ⟨Tryz.f260.name, by decide, Tryz.func260.trans (congrArg some (by kernel_rfl))⟩
 f8 := Tryz.func261.trans (congrArg some (by kernel_rfl))
 f10 := ⟨Tryz.f309.name, by decide, Tryz.func309.trans (congrArg some (by kernel_rfl))⟩
 f11 := ⟨Tryz.f310.name, by decide, Tryz.func310.trans (congrArg some (by kernel_rfl))⟩
 f12 := ⟨Tryz.f311.name, by decide, Tryz.func311.trans (congrArg some (by kernel_rfl))⟩
 f13 := ⟨Tryz.f312.name, by decide, Tryz.func312.trans (congrArg some (by kernel_rfl))⟩
 f14 := ⟨Tryz.f313.name, by decide, Tryz.func313.trans (congrArg some (by kernel_rfl))⟩
 f15 := ⟨Tryz.f314.name, by decide, Tryz.func314.trans (congrArg some (by kernel_rfl))⟩
 f16 := ⟨Tryz.f315.name, by decide, Tryz.func315.trans (congrArg some (by kernel_rfl))⟩
 f17 := ⟨Tryz.f316.name, by decide, Tryz.func316.trans (congrArg some (by kernel_rfl))⟩
 f18 := ⟨Tryz.f317.name, by decide, Tryz.func317.trans (congrArg some (by kernel_rfl))⟩
 f19 := Tryz.func318.trans (congrArg some (by kernel_rfl))
 f20 := Tryz.func319.trans (congrArg some (by kernel_rfl))
 f30 := ⟨Tryz.f351.name, by decide, Tryz.func351.trans (congrArg some (by kernel_rfl))⟩
 f31 := Tryz.func352.trans (congrArg some (by kernel_rfl))
 f32 := Tryz.func353.trans (congrArg some (by kernel_rfl))
 f33 := ⟨Tryz.f354.name, by decide, Tryz.func354.trans (congrArg some (by kernel_rfl))⟩
 f34 := ⟨Tryz.f355.name, by decide, Tryz.func355.trans (congrArg some (by kernel_rfl))⟩
 f35 := ⟨Tryz.f335.name, by decide, Tryz.func335.trans (congrArg some (by kernel_rfl))⟩
 f40 := ⟨Tryz.f380.name, by decide, Tryz.func380.trans (congrArg some (by kernel_rfl))⟩
 t0 := Tryz.underlying0
 a0 := Tryz.isAgg0
 z0 := Tryz.sizeOf0
 v0 := Tryz.zeroValue0
 t3 := Tryz.underlying3
 a3 := Tryz.isAgg3
 z3 := Tryz.sizeOf3
 v3 := Tryz.zeroValue3
 t4 := Tryz.underlying4
 a4 := Tryz.isAgg4
 z4 := Tryz.sizeOf4
 v4 := Tryz.zeroValue4
 t5 := Tryz.underlying5
 a5 := Tryz.isAgg5
 z5 := Tryz.sizeOf5
 v5 := Tryz.zeroValue5
 t9 := Tryz.underlying9
 a9 := Tryz.isAgg9
 z9 := Tryz.sizeOf9
 v9 := Tryz.zeroValue9
 t22 := Tryz.underlying29
 a22 := Tryz.isAgg29
 z22 := Tryz.sizeOf29
 v22 := Tryz.zeroValue29
 t23 := Tryz.underlying29
 a23 := Tryz.isAgg29
 z23 := Tryz.sizeOf29
 v23 := Tryz.zeroValue29
 t25 := Tryz.underlying3
 a25 := Tryz.isAgg3
 z25 := Tryz.sizeOf3
 v25 := Tryz.zeroValue3
 t32 := Tryz.underlying249
 a32 := Tryz.isAgg249
 z32 := Tryz.sizeOf249
 v32 := Tryz.zeroValue249
 t35 := Tryz.underlying384
 a35 := Tryz.isAgg384
 z35 := Tryz.sizeOf384
 v35 := Tryz.zeroValue384
 t36 := Tryz.underlying385
 a36 := Tryz.isAgg385
 z36 := Tryz.sizeOf385
 v36 := Tryz.zeroValue385
 t41 := Tryz.underlying280
 a41 := Tryz.isAgg280
 z41 := Tryz.sizeOf280
 v41 := Tryz.zeroValue280
 t44 := Tryz.underlying190
 a44 := Tryz.isAgg190
 z44 := Tryz.sizeOf190
 v44 := Tryz.zeroValue190
 t46 := Tryz.underlying188
 a46 := Tryz.isAgg188
 z46 := Tryz.sizeOf188
 v46 := Tryz.zeroValue188
 t53 := Tryz.underlying429
 a53 := Tryz.isAgg429
 z53 := Tryz.sizeOf429
 v53 := Tryz.zeroValue429
 t57 := Tryz.underlying433
 a57 := Tryz.isAgg433
 z57 := Tryz.sizeOf433
 v57 := Tryz.zeroValue433
 t63 := Tryz.underlying453
 a63 := Tryz.isAgg453
 z63 := Tryz.sizeOf453
 v63 := Tryz.zeroValue453
 t64 := Tryz.underlying454
 a64 := Tryz.isAgg454
 z64 := Tryz.sizeOf454
 v64 := Tryz.zeroValue454 }
def Tryz.sortedI_ren : Go.Shelf.Ren := ⟨fun | 6 => 152 | 8 => 210 | 9 => 211 | 11 => 259 | 13 => 261 | 12 => 260 | 23 => 318 | 24 => 319 | 14 => 309 | 15 => 310 | 16 => 311 | 17 => 312 | 18 => 313 | 19 => 314 | 20 => 315 | 21 => 316 | 22 => 317 | 25 => 351 | 26 => 352 | 27 => 353 | 28 => 354 | 29 => 355 | 30 => 335 | 31 => 380 | n => n, fun | 26 => 3 | 28 => 244 | 24 => 29 | 0 => 0 | 3 => 3 | 37 => 249 | 48 => 190 | 50 => 188 | 4 => 4 | 40 => 385 | 39 => 384 | 45 => 280 | 5 => 5 | 9 => 9 | 51 => 429 | 55 => 433 | 57 => 453 | 58 => 454 | 33 => 207 | n => n, fun | n => n⟩
theorem Tryz.sortedI : Go.Proofs.SlLaysZI.n6 Tryz.prog Tryz.sortedI_ren := {
 mixed := by kernel_rfl
 f6 := ⟨Tryz.f152.name, by decide, Tryz.func152.trans (congrArg some (by kernel_rfl))⟩
 f8 := ⟨Tryz.f210.name, by decide, Tryz.func210.trans (congrArg some (by kernel_rfl))⟩
 f11 := ⟨Tryz.f259.name, by decide, Tryz.func259.trans (congrArg some (by kernel_rfl))⟩
 t0 := Tryz.underlying0
 a0 := Tryz.isAgg0
 z0 := Tryz.sizeOf0
 v0 := Tryz.zeroValue0
 t24 := Tryz.underlying29
 a24 := Tryz.isAgg29
 z24 := Tryz.sizeOf29
 v24 := Tryz.zeroValue29
 t26 := Tryz.underlying3
 a26 := Tryz.isAgg3
 z26 := Tryz.sizeOf3
 v26 := Tryz.zeroValue3
 t28 := Tryz.underlying244
 a28 := Tryz.isAgg244
 z28 := Tryz.sizeOf244
 v28 := Tryz.zeroValue244
 i26 := by kernel_rfl }
def Tryz.keysbyte_ren : Go.Shelf.Ren := ⟨fun | 7 => 153 | 10 => 212 | n => n, fun | 23 => 163 | 26 => 3 | 3 => 47 | 28 => 244 | 0 => 0 | 27 => 243 | 33 => 207 | 4 => 4 | n => n, fun | n => n⟩
theorem Tryz.keysbyte : Go.Proofs.SlLaysZI.n7 Tryz.prog Tryz.keysbyte_ren := {
 mixed := by kernel_rfl
 f7 := ⟨Tryz.f153.name, by decide, Tryz.func153.trans (congrArg some (by kernel_rfl))⟩
 f10 := ⟨Tryz.f212.name, by decide, Tryz.func212.trans (congrArg some (by kernel_rfl))⟩
 t0 := Tryz.underlying0
 a0 := Tryz.isAgg0
 z0 := Tryz.sizeOf0
 v0 := Tryz.zeroValue0
 t4 := Tryz.underlying4
 a4 := Tryz.isAgg4
 z4 := Tryz.sizeOf4
 v4 := Tryz.zeroValue4
 t23 := Tryz.underlying163
 a23 := Tryz.isAgg163
 z23 := Tryz.sizeOf163
 v23 := Tryz.zeroValue163
 t26 := Tryz.underlying3
 a26 := Tryz.isAgg3
 z26 := Tryz.sizeOf3
 v26 := Tryz.zeroValue3
 t27 := Tryz.underlying243
 a27 := Tryz.isAgg243
 z27 := Tryz.sizeOf243
 v27 := Tryz.zeroValue243
 t28 := Tryz.underlying244
 a28 := Tryz.isAgg244
 z28 := Tryz.sizeOf244
 v28 := Tryz.zeroValue244
 t33 := Tryz.underlying207
 a33 := Tryz.isAgg207
 z33 := Tryz.sizeOf207
 v33 := Tryz.zeroValue207 }
def Tryz.keysscarpextmapversion_ren : Go.Shelf.Ren := ⟨fun | 7 => 223 | 10 => 266 | n => n, fun | 23 => 250 | 26 => 3 | 3 => 256 | 28 => 244 | 0 => 0 | 27 => 243 | 33 => 207 | 4 => 4 | n => n, fun | n => n⟩
theorem Tryz.keysscarpextmapversion : Go.Proofs.SlLaysZI.n7 Tryz.prog Tryz.keysscarpextmapversion_ren := {
 mixed := by kernel_rfl
 f7 := ⟨Tryz.f223.name, by decide, Tryz.func223.trans (congrArg some (by kernel_rfl))⟩
 f10 := ⟨Tryz.f266.name, by decide, Tryz.func266.trans (congrArg some (by kernel_rfl))⟩
 t0 := Tryz.underlying0
 a0 := Tryz.isAgg0
 z0 := Tryz.sizeOf0
 v0 := Tryz.zeroValue0
 t4 := Tryz.underlying4
 a4 := Tryz.isAgg4
 z4 := Tryz.sizeOf4
 v4 := Tryz.zeroValue4
 t23 := Tryz.underlying250
 a23 := Tryz.isAgg250
 z23 := Tryz.sizeOf250
 v23 := Tryz.zeroValue250
 t26 := Tryz.underlying3
 a26 := Tryz.isAgg3
 z26 := Tryz.sizeOf3
 v26 := Tryz.zeroValue3
 t27 := Tryz.underlying243
 a27 := Tryz.isAgg243
 z27 := Tryz.sizeOf243
 v27 := Tryz.zeroValue243
 t28 := Tryz.underlying244
 a28 := Tryz.isAgg244
 z28 := Tryz.sizeOf244
 v28 := Tryz.zeroValue244
 t33 := Tryz.underlying207
 a33 := Tryz.isAgg207
 z33 := Tryz.sizeOf207
 v33 := Tryz.zeroValue207 }
def Tryz.keysint_ren : Go.Shelf.Ren := ⟨fun | 7 => 343 | 10 => 377 | n => n, fun | 23 => 262 | 26 => 3 | 3 => 3 | 28 => 244 | 0 => 0 | 27 => 243 | 33 => 207 | 4 => 4 | n => n, fun | n => n⟩
theorem Tryz.keysint : Go.Proofs.SlLaysZI.n7 Tryz.prog Tryz.keysint_ren := {
 mixed := by kernel_rfl
 f7 := ⟨Tryz.f343.name, by decide, Tryz.func343.trans (congrArg some (by kernel_rfl))⟩
 f10 := ⟨Tryz.f377.name, by decide, Tryz.func377.trans (congrArg some (by kernel_rfl))⟩
 t0 := Tryz.underlying0
 a0 := Tryz.isAgg0
 z0 := Tryz.sizeOf0
 v0 := Tryz.zeroValue0
 t4 := Tryz.underlying4
 a4 := Tryz.isAgg4
 z4 := Tryz.sizeOf4
 v4 := Tryz.zeroValue4
 t23 := Tryz.underlying262
 a23 := Tryz.isAgg262
 z23 := Tryz.sizeOf262
 v23 := Tryz.zeroValue262
 t26 := Tryz.underlying3
 a26 := Tryz.isAgg3
 z26 := Tryz.sizeOf3
 v26 := Tryz.zeroValue3
 t27 := Tryz.underlying243
 a27 := Tryz.isAgg243
 z27 := Tryz.sizeOf243
 v27 := Tryz.zeroValue243
 t28 := Tryz.underlying244
 a28 := Tryz.isAgg244
 z28 := Tryz.sizeOf244
 v28 := Tryz.zeroValue244
 t33 := Tryz.underlying207
 a33 := Tryz.isAgg207
 z33 := Tryz.sizeOf207
 v33 := Tryz.zeroValue207 }
end
end Go.Proofs
namespace Go.Proofs.YthhndleddlmgiaaGreatDoor.Tp
set_option maxHeartbeats 8000000
set_option maxRecDepth 100000
set_option linter.unusedSimpArgs false
set_option linter.unusedVariables false
section
open Go.RowKit Go.Maps
open Go.Sort Go.Shelf
theorem lawI : Keyed Tryz.prog 3 := int_keyed Tryz.underlying3
theorem underI : Tryz.prog.underlying 3 = some (.int .i64) := Tryz.underlying3
theorem sortsI (m : Nat) : AnyZI.SortsIn Tryz.prog Tryz.sortedI_ren Fence.wide m :=
 ⟨fun blk off cap ss W hH hblk hsz => callsIn_wide.2 (AnyM.slices_Sort_int Tryz.sortI blk off cap ss W hH hblk hsz),
  fun p cap W => callsIn_wide.2 (AnyM.slices_Sort_int_none Tryz.sortI p cap W)⟩
theorem keysB_any (b : Nat) (w : World) : Calls Tryz.prog 153 #[.map (some b)] w fun e w' => e = .returned (.func (.func 212) #[] #[.pointer (some ⟨w.heap.size, 0, none⟩)]) ∧ w' = (w.alloc (.cells #[.map (some b)] 163)) :=
 (callsIn_wide (n := 5)).1 (AnyZI.keys_in Tryz.keysbyte Fence.wide 5 trivial rfl (some b) w)
theorem sortedB_any (b s : Nat) (f : Int → Option Value) (w : World) (h : IM w Tryz.prog 3 b s f) (hs : s ≤ 1000000) :
  Calls Tryz.prog 152 #[.func (.func 212) #[] #[.pointer (some ⟨w.heap.size, 0, none⟩)]] (w.alloc (.cells #[.map (some b)] 163)) fun e w' => (∃ v ks, e = .returned v ∧ KeysI s f ks ∧ w'.ownsRow 0 3 1 v s (ks.map (Value.int .i64))) ∧ Below w.heap.size w w' := by
 obtain ⟨D, h⟩ := h
 have hown := h.1
 have hbl := hown.lt
 have hseq : SeqGives Fence.wide 2 Tryz.prog 212 #[.pointer (some ⟨w.heap.size, 0, none⟩)] encZ (fun ss => ss.Perm (intKeys D)) (Maps.size D) (w.alloc (.cells #[.map (some b)] 163)) :=
  AnyZI.keys_gives (ρ := Tryz.keysbyte_ren) { Tryz.keysbyte with } Fence.wide _ trivial rfl (by omega) w.heap.size b s D _ (by simp) (by simp) (by
   obtain ⟨es, clock, hb, Ft, hs, hD⟩ := hown
   exact ⟨es, clock, (Below.heap_alloc _ _ b hbl).trans hb, Ft, hs, hD⟩)
 have cS := AnyZI.sorted_in Tryz.sortedI Fence.wide 5 trivial trivial trivial trivial rfl (by omega) (sortsI _) (enters_of Tryz.func211 (by kernel_rfl) rfl) 212 #[.pointer (some ⟨w.heap.size, 0, none⟩)] trivial (enters_of Tryz.func212 (by kernel_rfl) rfl) _ _ (by rw [h.2.1]; simp only [maxLen]; omega) (by rw [h.2.1]; omega) _ hseq
 change CallsIn _ _ Tryz.prog 152 _ _ _ at cS
 refine ((callsIn_wide (n := 5)).1 cS).mono ?_
 rintro e w' ⟨v, ss, rfl, hS, hrow, _, hb⟩
 have hk := h.sorted lawI underI hS
 refine ⟨⟨v, _, rfl, hk, ?_⟩, ((Below.refl _ w).alloc (Nat.le_refl _) _).trans (hb.mono (by simp))⟩
 have hl : ss.length = s := by rw [← hk.len, List.length_mergeSort]
 rw [← hl]
 exact ownsRow_base_a hrow (Nat.zero_le _)
theorem keysV_any (b : Nat) (w : World) : Calls Tryz.prog 223 #[.map (some b)] w fun e w' => e = .returned (.func (.func 266) #[] #[.pointer (some ⟨w.heap.size, 0, none⟩)]) ∧ w' = (w.alloc (.cells #[.map (some b)] 250)) :=
 (callsIn_wide (n := 5)).1 (AnyZI.keys_in Tryz.keysscarpextmapversion Fence.wide 5 trivial rfl (some b) w)
theorem sortedV_any (b s : Nat) (f : Int → Option Value) (w : World) (h : IM w Tryz.prog 3 b s f) (hs : s ≤ 1000000) :
  Calls Tryz.prog 152 #[.func (.func 266) #[] #[.pointer (some ⟨w.heap.size, 0, none⟩)]] (w.alloc (.cells #[.map (some b)] 250)) fun e w' => (∃ v ks, e = .returned v ∧ KeysI s f ks ∧ w'.ownsRow 0 3 1 v s (ks.map (Value.int .i64))) ∧ Below w.heap.size w w' := by
 obtain ⟨D, h⟩ := h
 have hown := h.1
 have hbl := hown.lt
 have hseq : SeqGives Fence.wide 2 Tryz.prog 266 #[.pointer (some ⟨w.heap.size, 0, none⟩)] encZ (fun ss => ss.Perm (intKeys D)) (Maps.size D) (w.alloc (.cells #[.map (some b)] 250)) :=
  AnyZI.keys_gives (ρ := Tryz.keysscarpextmapversion_ren) { Tryz.keysscarpextmapversion with } Fence.wide _ trivial rfl (by omega) w.heap.size b s D _ (by simp) (by simp) (by
   obtain ⟨es, clock, hb, Ft, hs, hD⟩ := hown
   exact ⟨es, clock, (Below.heap_alloc _ _ b hbl).trans hb, Ft, hs, hD⟩)
 have cS := AnyZI.sorted_in Tryz.sortedI Fence.wide 5 trivial trivial trivial trivial rfl (by omega) (sortsI _) (enters_of Tryz.func211 (by kernel_rfl) rfl) 266 #[.pointer (some ⟨w.heap.size, 0, none⟩)] trivial (enters_of Tryz.func266 (by kernel_rfl) rfl) _ _ (by rw [h.2.1]; simp only [maxLen]; omega) (by rw [h.2.1]; omega) _ hseq
 change CallsIn _ _ Tryz.prog 152 _ _ _ at cS
 refine ((callsIn_wide (n := 5)).1 cS).mono ?_
 rintro e w' ⟨v, ss, rfl, hS, hrow, _, hb⟩
 have hk := h.sorted lawI underI hS
 refine ⟨⟨v, _, rfl, hk, ?_⟩, ((Below.refl _ w).alloc (Nat.le_refl _) _).trans (hb.mono (by simp))⟩
 have hl : ss.length = s := by rw [← hk.len, List.length_mergeSort]
 rw [← hl]
 exact ownsRow_base_a hrow (Nat.zero_le _)
theorem keysI_any (b : Nat) (w : World) : Calls Tryz.prog 343 #[.map (some b)] w fun e w' => e = .returned (.func (.func 377) #[] #[.pointer (some ⟨w.heap.size, 0, none⟩)]) ∧ w' = (w.alloc (.cells #[.map (some b)] 262)) :=
 (callsIn_wide (n := 5)).1 (AnyZI.keys_in Tryz.keysint Fence.wide 5 trivial rfl (some b) w)
theorem sortedI_any (b s : Nat) (f : Int → Option Value) (w : World) (h : IM w Tryz.prog 3 b s f) (hs : s ≤ 1000000) :
  Calls Tryz.prog 152 #[.func (.func 377) #[] #[.pointer (some ⟨w.heap.size, 0, none⟩)]] (w.alloc (.cells #[.map (some b)] 262)) fun e w' => (∃ v ks, e = .returned v ∧ KeysI s f ks ∧ w'.ownsRow 0 3 1 v s (ks.map (Value.int .i64))) ∧ Below w.heap.size w w' := by
 obtain ⟨D, h⟩ := h
 have hown := h.1
 have hbl := hown.lt
 have hseq : SeqGives Fence.wide 2 Tryz.prog 377 #[.pointer (some ⟨w.heap.size, 0, none⟩)] encZ (fun ss => ss.Perm (intKeys D)) (Maps.size D) (w.alloc (.cells #[.map (some b)] 262)) :=
  AnyZI.keys_gives (ρ := Tryz.keysint_ren) { Tryz.keysint with } Fence.wide _ trivial rfl (by omega) w.heap.size b s D _ (by simp) (by simp) (by
   obtain ⟨es, clock, hb, Ft, hs, hD⟩ := hown
   exact ⟨es, clock, (Below.heap_alloc _ _ b hbl).trans hb, Ft, hs, hD⟩)
 have cS := AnyZI.sorted_in Tryz.sortedI Fence.wide 5 trivial trivial trivial trivial rfl (by omega) (sortsI _) (enters_of Tryz.func211 (by kernel_rfl) rfl) 377 #[.pointer (some ⟨w.heap.size, 0, none⟩)] trivial (enters_of Tryz.func377 (by kernel_rfl) rfl) _ _ (by rw [h.2.1]; simp only [maxLen]; omega) (by rw [h.2.1]; omega) _ hseq
 change CallsIn _ _ Tryz.prog 152 _ _ _ at cS
 refine ((callsIn_wide (n := 5)).1 cS).mono ?_
 rintro e w' ⟨v, ss, rfl, hS, hrow, _, hb⟩
 have hk := h.sorted lawI underI hS
 refine ⟨⟨v, _, rfl, hk, ?_⟩, ((Below.refl _ w).alloc (Nat.le_refl _) _).trans (hb.mono (by simp))⟩
 have hl : ss.length = s := by rw [← hk.len, List.length_mergeSort]
 rw [← hl]
 exact ownsRow_base_a hrow (Nat.zero_le _)
end
section
open Go.RowKit Go.Maps
theorem ret_bool {a b : Bool} (h : a = b) : Ending.returned (.bool a) = .returned (.bool b) := by rw [h]
def mayB (x : ExD) : Bool := decide (0 ≤ x.f) && decide (x.f ≤ 1048576) && decide (1 ≤ x.l) && decide (x.l ≤ 1048576) && decide (x.f + x.l ≤ 1048577)
def meetB (x e : ExD) : Bool := decide (x.f < wrap64 (e.f + e.l)) && decide (e.f < wrap64 (x.f + x.l))
theorem may_any (x : ExD) (w : World) :
  Calls Tryz.prog 358 #[.agg #[.int .i64 x.f, .int .i64 x.l]] w fun e w' => e = .returned (.bool (mayB x)) ∧ Below w.heap.size w w' := by
 obtain ⟨w5, hw5⟩ : ∃ w5, w.alloc (.cells #[.int .i64 x.f, .int .i64 x.l] 197) = w5 := ⟨_, rfl⟩
 have hB5 : Bk w5 w.heap.size 197 [.int .i64 x.f, .int .i64 x.l] := by rw [← hw5]; exact Bk.new w _ _
 have hb5 : Below w.heap.size w w5 := by rw [← hw5]; exact (Below.refl _ _).alloc (Nat.le_refl _) _
 obtain ⟨d0, d1⟩ := hB5.c2
 by_cases g0 : 0 ≤ x.f
 rotate_left
 · have t0 : decide (0 ≤ x.f) = false := decide_eq_false g0
   have HR := Lib.hid (show mayB x = false by simp only [mayB, t0, Bool.false_and, Bool.and_false, Bool.true_and])
   clear g0
   go_enter Tryz.func358, Tryz.ntmps358
   go_wp2_with fail
   go_ret
   exact ⟨ret_bool HR.out.symm, hb5⟩
 have t0 : decide (0 ≤ x.f) = true := decide_eq_true g0
 by_cases g1 : x.f ≤ 1048576
 rotate_left
 · have t1 : decide (x.f ≤ 1048576) = false := decide_eq_false g1
   have HR := Lib.hid (show mayB x = false by simp only [mayB, t0, t1, Bool.false_and, Bool.and_false, Bool.true_and])
   clear g1
   go_enter Tryz.func358, Tryz.ntmps358
   go_wp2_with fail
   go_ret
   exact ⟨ret_bool HR.out.symm, hb5⟩
 have t1 : decide (x.f ≤ 1048576) = true := decide_eq_true g1
 by_cases g2 : 1 ≤ x.l
 rotate_left
 · have t2 : decide (1 ≤ x.l) = false := decide_eq_false g2
   have HR := Lib.hid (show mayB x = false by simp only [mayB, t0, t1, t2, Bool.false_and, Bool.and_false, Bool.true_and])
   clear g2
   go_enter Tryz.func358, Tryz.ntmps358
   go_wp2_with fail
   go_ret
   exact ⟨ret_bool HR.out.symm, hb5⟩
 have t2 : decide (1 ≤ x.l) = true := decide_eq_true g2
 by_cases g3 : x.l ≤ 1048576
 rotate_left
 · have t3 : decide (x.l ≤ 1048576) = false := decide_eq_false g3
   have HR := Lib.hid (show mayB x = false by simp only [mayB, t0, t1, t2, t3, Bool.false_and, Bool.and_false, Bool.true_and])
   clear g3
   go_enter Tryz.func358, Tryz.ntmps358
   go_wp2_with fail
   go_ret
   exact ⟨ret_bool HR.out.symm, hb5⟩
 have t3 : decide (x.l ≤ 1048576) = true := decide_eq_true g3
 by_cases g4 : x.f + x.l ≤ 1048577
 rotate_left
 · have t4 : decide (x.f + x.l ≤ 1048577) = false := decide_eq_false g4
   have HR := Lib.hid (show mayB x = false by simp only [mayB, t0, t1, t2, t3, t4, Bool.false_and, Bool.and_false, Bool.true_and])
   clear g4
   go_enter Tryz.func358, Tryz.ntmps358
   go_wp2_with fail
   go_ret
   exact ⟨ret_bool HR.out.symm, hb5⟩
 have t4 : decide (x.f + x.l ≤ 1048577) = true := decide_eq_true g4
 have HR := Lib.hid (show mayB x = true by simp only [mayB, t0, t1, t2, t3, t4, Bool.and_true])
 go_enter Tryz.func358, Tryz.ntmps358
 go_wp2_with fail
 go_ret
 exact ⟨ret_bool HR.out.symm, hb5⟩
theorem meet_any (x y : ExD) (w : World) :
  Calls Tryz.prog 408 #[.agg #[.int .i64 x.f, .int .i64 x.l], .agg #[.int .i64 y.f, .int .i64 y.l]] w fun e w' => e = .returned (.bool (meetB x y)) ∧ Below w.heap.size w w' := by
 obtain ⟨w5, hw5⟩ : ∃ w5, w.alloc (.cells #[.int .i64 x.f, .int .i64 x.l] 197) = w5 := ⟨_, rfl⟩
 have hB5 : Bk w5 w.heap.size 197 [.int .i64 x.f, .int .i64 x.l] := by rw [← hw5]; exact Bk.new w _ _
 have hb5 : Below w.heap.size w w5 := by rw [← hw5]; exact (Below.refl _ _).alloc (Nat.le_refl _) _
 obtain ⟨d0, d1⟩ := hB5.c2
 obtain ⟨w6, hw6⟩ : ∃ w6, w5.alloc (.cells #[.int .i64 y.f, .int .i64 y.l] 197) = w6 := ⟨_, rfl⟩
 have hB6 : Bk w6 w5.heap.size 197 [.int .i64 y.f, .int .i64 y.l] := by rw [← hw6]; exact Bk.new w5 _ _
 have hb6 : Below w5.heap.size w5 w6 := by rw [← hw6]; exact (Below.refl _ _).alloc (Nat.le_refl _) _
 obtain ⟨e0, e1⟩ := hB6.c2
 have HB := Lib.hid (hb5.trans (hb6.mono hb5.size))
 have d0' := (hB5.next hb6 hB5.lt).cell (i := 0) (by simp)
 have d1' := (hB5.next hb6 hB5.lt).cell (i := 1) (by simp)
 simp only [List.getElem_cons_zero, List.getElem_cons_succ] at d0' d1'
 clear d0 d1 hB5 hB6
 by_cases g0 : x.f < wrap64 (y.f + y.l)
 rotate_left
 · have t0 : decide (x.f < wrap64 (y.f + y.l)) = false := decide_eq_false g0
   have HR := Lib.hid (show meetB x y = false by simp only [meetB, t0, Bool.false_and, Bool.and_false, Bool.true_and])
   clear g0
   go_enter Tryz.func408, Tryz.ntmps408
   go_wp2_with fail
   go_ret
   exact ⟨ret_bool HR.out.symm, HB.out⟩
 have t0 : decide (x.f < wrap64 (y.f + y.l)) = true := decide_eq_true g0
 by_cases g1 : y.f < wrap64 (x.f + x.l)
 rotate_left
 · have t1 : decide (y.f < wrap64 (x.f + x.l)) = false := decide_eq_false g1
   have HR := Lib.hid (show meetB x y = false by simp only [meetB, t0, t1, Bool.false_and, Bool.and_false, Bool.true_and])
   clear g1
   go_enter Tryz.func408, Tryz.ntmps408
   go_wp2_with fail
   go_ret
   exact ⟨ret_bool HR.out.symm, HB.out⟩
 have t1 : decide (y.f < wrap64 (x.f + x.l)) = true := decide_eq_true g1
 have HR := Lib.hid (show meetB x y = true by simp only [meetB, t0, t1, Bool.and_true])
 go_enter Tryz.func408, Tryz.ntmps408
 go_wp2_with fail
 go_ret
 exact ⟨ret_bool HR.out.symm, HB.out⟩
def SetX (w : World) (F : Foot) (gs most : Nat) (v : Value) (xs : List ExD) : Prop := Bk w gs 395 [.int .i64 most, v] ∧ ExO w 0 v xs ∧ xs.length ≤ most ∧ F gs ∧ (∀ g, v.ownBlock = some g → F g)
def SetP (w : World) (F : Foot) (gs most : Nat) : Prop := ∃ v xs, SetX w F gs most v xs
theorem SetX.ag {w w' : World} {F : Foot} {gs most : Nat} {v : Value} {xs : List ExD} (h : SetX w F gs most v xs) (k : Ag F w w') : SetX w' F gs most v xs := ⟨Bk.ag h.1 k h.2.2.2.1, own_ag h.2.1 k h.2.2.2.2, h.2.2⟩
theorem SetP.ag {w w' : World} {F : Foot} {gs most : Nat} (h : SetP w F gs most) (k : Ag F w w') : SetP w' F gs most := by
 obtain ⟨v, xs, h⟩ := h; exact ⟨v, xs, h.ag k⟩
theorem inew_any (most : Nat) (w : World) :
  Calls Tryz.prog 268 #[.int .i64 (most : Int)] w fun e w' => (∃ gs, e = .returned (.pointer (some ⟨gs, 0, none⟩)) ∧ SetP w' (fun b => b = gs) gs most ∧ w.heap.size ≤ gs ∧ gs < w'.heap.size) ∧ Below w.heap.size w w' := by
 go_enter Tryz.func268, Tryz.ntmps268
 go_wp2_with fail
 go_ret
 refine ⟨⟨_, rfl, ⟨.slice none 0 0, [], ?_, ⟨rfl, .inl ⟨rfl, rfl⟩⟩, Nat.zero_le _, rfl, fun g hg => by cases hg⟩, Nat.le_refl _, by simp⟩, (Below.refl _ _).alloc (Nat.le_refl _) _⟩
 exact Bk.new w _ _
theorem iallc_any (x : ExD) (w : World) :
  Calls Tryz.prog 357 #[.agg #[.int .i64 x.f, .int .i64 x.l]] w fun e w' => e = .returned (.bool (!mayB x)) ∧ Below w.heap.size w w' := by
 have hp := fun w' => may_any x w'
 obtain ⟨w5, hw5⟩ : ∃ w5, w.alloc (.cells #[.int .i64 x.f, .int .i64 x.l] 197) = w5 := ⟨_, rfl⟩
 have hB5 : Bk w5 w.heap.size 197 [.int .i64 x.f, .int .i64 x.l] := by rw [← hw5]; exact Bk.new w _ _
 have hb5 : Below w.heap.size w w5 := by rw [← hw5]; exact (Below.refl _ _).alloc (Nat.le_refl _) _
 obtain ⟨d0, d1⟩ := hB5.c2
 go_enter Tryz.func357, Tryz.ntmps357
 go_wp2_with fail
 refine (hp _).mono ?_
 rintro e w' ⟨rfl, hb⟩
 have hb6 := hb5.trans (hb.mono hb5.size)
 clear hp hb
 go_wp2_with fail
 go_ret
 exact ⟨rfl, hb6⟩
theorem iall_any (A : Option Addr) (n c : Nat) (xs : List ExD) (w : World) (h : IsEx w A n c xs) :
  Calls Tryz.prog 322 #[.slice A n c] w fun e w' => (∃ r, e = .returned (.bool r)) ∧ Below w.heap.size w w' := by
 have hc := has_ex A n c xs 357 #[] (fun x => !mayB x) w h (enters_of Tryz.func357 (by kernel_rfl) rfl) (fun p _ w' _ => iallc_any p w')
 go_enter Tryz.func322, Tryz.ntmps322
 go_wp2_with fail
 refine hc.mono ?_
 rintro e w' ⟨⟨r, rfl, _⟩, hb⟩
 go_wp2_with fail
 go_ret
 exact ⟨⟨_, rfl⟩, hb⟩
theorem extents_any (F : Foot) (gs most B : Nat) (v : Value) (xs : List ExD) (w : World) (h : SetX w F gs most v xs) (hm : most ≤ 1000) (hB : B ≤ w.heap.size) :
  Calls Tryz.prog 364 #[.pointer (some ⟨gs, 0, none⟩)] w fun e w' => (∃ u, e = .returned u ∧ ExO w' B u xs) ∧ Below w.heap.size w w' := by
 obtain ⟨h1, h2, h3, _⟩ := h
 obtain ⟨A, c, rfl, hx⟩ := ExO.is h2
 obtain ⟨c0, c1⟩ := h1.c2
 have hc := clone_ex A xs.length c B xs w hx (by omega) hB
 clear h1 h2 h3 hx hm
 go_enter Tryz.func364, Tryz.ntmps364
 go_wp2_with fail
 refine hc.mono ?_
 rintro e w' ⟨⟨u, rfl, hu, _⟩, hb⟩
 go_wp2_with fail
 go_ret
 exact ⟨⟨_, rfl, hu⟩, hb⟩
end
section
open Go.RowKit Go.Maps
theorem wpList_appS {P : Program} (w : World) {ops : Array Oper} {rest : List Oper} {o : Oper} {a : Act} {Q : Exit → Act → World → Prop} (hgd : o.guard = none) (s x : Operand) (t : TypeId)
  (ho : o.op = .call { callee := .builtin .append, args := #[s, x], argTypes := #[t, t] })
  (base : Nat) (e : TypeId) (i : TypeInfo) (z : Value) (size bytes : Nat) (ht : P.underlying t = some (.slice e)) (hi : P.info? e = some i) (hz : i.zero = some z)
  (hsize : i.size = size) (hby : i.bytes = bytes) (hzs : z.cells.size = size) (hs0 : 0 < size)
  (v : Value) (n : Nat) (xs : List Value) (hs : a.eval s = v) (hown : w.ownsRow base e size v n xs)
  (g : Nat) (cs : List Value) (hx : a.eval x = .slice (some ⟨g, 0, none⟩) 1 1) (hb : Bk w g e cs) (hl : cs.length = size) (h1 : ∀ u ∈ cs, u.oneCell' = true) (hn : n ≤ 1000000) (hbb : bytes ≤ 1000) (hbase : base ≤ w.heap.size)
  (h : ∀ v' w', w'.ownsRow base e size v' (n + 1) (xs ++ cs) → w.grownBy w' v.ownBlock → (v'.ownBlock = v.ownBlock ∨ v'.ownBlock = some w.heap.size) → wpList P ops Q rest (a.put o.dst v') w') : wpList P ops Q (o :: rest) a w :=
 wpList_appM w hgd s x t ho base e i z size bytes ht hi hz hsize hby hzs hs0 v n xs hs hown w.heap.size (some ⟨g, 0, none⟩) 1 1 cs hx (by omega) hb.rd h1 (by omega)
  (Nat.le_trans (Nat.mul_le_mul (show n + 1 ≤ 1000001 by omega) hbb) (by decide)) hbase h
theorem infoPut0 : (Tryz.prog.info? 50).map (fun i => (i.size, i.bytes, i.zero.map (·.cells.size))) = some (2, 32, some 2) := by kernel_rfl
theorem infoPut : ∃ i z, Tryz.prog.info? 50 = some i ∧ i.zero = some z ∧ i.size = 2 ∧ i.bytes = 32 ∧ z.cells.size = 2 := by
 have h := infoPut0
 cases hi : Tryz.prog.info? 50 with
 | none => rw [hi] at h; cases h
 | some i =>
   rw [hi] at h
   simp at h
   obtain ⟨h1, h2, z, hz, h3⟩ := h
   exact ⟨i, z, rfl, hz, h1, h2, h3⟩
structure BufX (w : World) (F : Foot) (bb mb s : Nat) (ks : List Int) (f : Int → Option Value) : Prop where
 bx : Bk w bb 271 [.int .i64 258, .int .i64 16, .map (some mb)]
 im : IM w Tryz.prog 3 mb s f
 keys : KeysI s f ks
 rng : ∀ x ∈ ks, 0 ≤ x ∧ x < 258
 le : s ≤ 16
 val : ∀ x v, wf64 x → f x = some v → ∃ A c bs, v = .slice A 40 c ∧ IsY w A 40 c bs
 f0 : F bb
 f1 : F mb
def BufP (w : World) (F : Foot) (bb : Nat) (ks : List Int) : Prop := ∃ mb s f, BufX w F bb mb s ks f
theorem BufX.ag {w w' : World} {F : Foot} {bb mb s : Nat} {ks : List Int} {f : Int → Option Value} (h : BufX w F bb mb s ks f) (k : Ag F w w') : BufX w' F bb mb s ks f :=
 ⟨Bk.ag h.bx k h.f0, h.im.ag k h.f1, h.keys, h.rng, h.le, fun x v hx hv => by obtain ⟨A, c, bs, e, hy⟩ := h.val x v hx hv; exact ⟨A, c, bs, e, hy.ag k⟩, h.f0, h.f1⟩
theorem BufP.ag {w w' : World} {F : Foot} {bb : Nat} {ks : List Int} (h : BufP w F bb ks) (k : Ag F w w') : BufP w' F bb ks := by
 obtain ⟨mb, s, f, h⟩ := h; exact ⟨mb, s, f, h.ag k⟩
theorem zeroY (w : World) : (zeroValue 47).run Tryz.prog w = .ok (.slice none 0 0) w := by kernel_rfl
theorem BufX.look {w : World} {F : Foot} {bb mb s : Nat} {ks : List Int} {f : Int → Option Value} (h : BufX w F bb mb s ks f) {x : Int} (hx : wf64 x) : (Instr.lookup 163 (.map (some mb)) (.int .i64 x) false).run Tryz.prog w = .ok ((f x).getD (.slice none 0 0)) w := h.im.look lawI underI Tryz.underlying163 (zeroY w) hx
theorem BufX.look_ok {w : World} {F : Foot} {bb mb s : Nat} {ks : List Int} {f : Int → Option Value} (h : BufX w F bb mb s ks f) {x : Int} (hx : wf64 x) : (Instr.lookup 163 (.map (some mb)) (.int .i64 x) true).run Tryz.prog w = .ok (.tuple #[(f x).getD (.slice none 0 0), .bool (f x).isSome]) w := h.im.look_ok lawI underI Tryz.underlying163 (zeroY w) hx
theorem BufX.got {w : World} {F : Foot} {bb mb s : Nat} {ks : List Int} {f : Int → Option Value} (h : BufX w F bb mb s ks f) {x : Int} (hx : wf64 x) : ∃ A n c bs, (f x).getD (.slice none 0 0) = .slice A n c ∧ IsY w A n c bs ∧ ((f x).isSome = true → n = 40) ∧ n ≤ 40 := by
 cases hf : f x with
 | none => exact ⟨none, 0, 0, [], rfl, IsY.nil w 0 (by simp [maxLen]), (fun e => by cases e), by omega⟩
 | some v =>
   obtain ⟨A, c, bs, e, hy⟩ := h.val x v hx hf
   exact ⟨A, 40, c, bs, e, hy, fun _ => rfl, by omega⟩
theorem bufnew_any  (w : World) :
  Calls Tryz.prog 225 #[.int .i64 258, .int .i64 16] w fun e w' => (∃ bb, e = .returned (.tuple #[.pointer (some ⟨bb, 0, none⟩), .int .i64 0]) ∧ BufP w' (fun b => w.heap.size ≤ b ∧ b < w'.heap.size) bb [] ∧ w.heap.size ≤ bb ∧ bb < w'.heap.size) ∧ Below w.heap.size w w' := by
 have hmm := @run_makeMap Tryz.prog
 go_enter Tryz.func225, Tryz.ntmps225
 go_wp2_with fail
 go_ret2
 refine ⟨⟨w.heap.size + 1, rfl, ⟨w.heap.size, 0, fun _ => none, ?_, (IM.made w _ _).next ((Below.refl _ _).alloc (Nat.le_refl _) _), ⟨List.Pairwise.nil, rfl, by simp, by simp⟩, by simp, by omega, (fun x v _ hv => by cases hv), ?_, ?_⟩, by omega, ?_⟩, ((Below.refl _ _).alloc (Nat.le_refl _) _).alloc (by simp) _⟩
 · have := Bk.new (w.alloc (.map #[] 0)) 271 [.int .i64 258, .int .i64 16, .map (some w.heap.size)]
   simpa using this
 · simp
 · simp; omega
 · simp
theorem bufget_any (F : Foot) (bb mb s : Nat) (ks : List Int) (f : Int → Option Value) (x : Int) (w : World) (h : BufX w F bb mb s ks f) (hx : wf64 x) :
  Calls Tryz.prog 271 #[.pointer (some ⟨bb, 0, none⟩), .int .i64 x] w fun e w' => (∃ v n bs, e = .returned (.tuple #[v, .bool (f x).isSome]) ∧ Byt w' w.heap.size v bs ∧ bs.length = n ∧ ((f x).isSome = true → n = 40)) ∧ Below w.heap.size w w' := by
 obtain ⟨c0, c1, c2⟩ := h.bx.c3
 have hlk := h.look_ok hx
 obtain ⟨A, n, c, bs, hv, hy, h40, hn⟩ := h.got hx
 rw [hv] at hlk
 have hc := clone_any A n c w.heap.size (bs.map (Value.int .u8)) w (by rw [List.length_map]; exact hy.b.len) hy.b.rd one_int (by omega) (Nat.le_refl _)
 have HH := Lib.hid (And.intro h40 (And.intro hy.b.len hy.b.wf))
 obtain ⟨ok, hok⟩ : ∃ b, (f x).isSome = b := ⟨_, rfl⟩
 rw [hok] at hlk ⊢
 rw [hok] at HH
 clear h hy h40 hv hok hn
 go_enter Tryz.func271, Tryz.ntmps271
 go_wp2_with fail
 refine hc.mono ?_
 rintro e w' ⟨⟨v, rfl, ho⟩, hb⟩
 have HO := Lib.hid ho
 clear ho hc
 go_wp2_with fail
 go_ret2
 refine ⟨⟨_, n, bs, rfl, ⟨?_, HH.out.2.2⟩, HH.out.2.1, HH.out.1⟩, hb⟩
 rw [HH.out.2.1]; exact HO.out
structure PutsOf (w : World) (B : Nat) (v : Value) (ks : List Int) (ps : List PutD) : Prop where
 own : w.ownsRow B 50 2 v ks.length (ps.flatMap PutD.cells)
 lba : ps.map PutD.lba = ks
 n40 : ∀ p ∈ ps, p.n = 40
 y : ∀ p ∈ ps, IsY w p.A p.n p.c p.bs
 new : ∀ p ∈ ps, ∀ ad, p.A = some ad → B ≤ ad.block
theorem PutsOf.len {w : World} {B : Nat} {v : Value} {ks : List Int} {ps : List PutD} (h : PutsOf w B v ks ps) : ps.length = ks.length := by rw [← h.lba, List.length_map]
theorem PutsOf.is {w : World} {B : Nat} {v : Value} {ks : List Int} {ps : List PutD} (h : PutsOf w B v ks ps) : ∃ A c, v = .slice A ks.length c ∧ IsPs w A ks.length c ps := by
 have ho := h.own
 obtain ⟨A, c, rfl⟩ := own_shape ho
 exact ⟨A, c, rfl, h.len, rd_of_own ho, h.y, (own_caps ho).1, (own_caps ho).2⟩
theorem PutsOf.next {w w' : World} {B : Nat} {v : Value} {ks : List Int} {ps : List PutD} (h : PutsOf w B v ks ps) (hb : Below w.heap.size w w') : PutsOf w' B v ks ps :=
 ⟨own_bel' h.own hb, h.lba, h.n40, fun p hp => (h.y p hp).ag (F := fun _ => True) (.of_below hb), h.new⟩
theorem PutsOf.base {w : World} {B C : Nat} {v : Value} {ks : List Int} {ps : List PutD} (h : PutsOf w C v ks ps) (hB : B ≤ C) : PutsOf w B v ks ps := ⟨ownsRow_base_a h.own hB, h.lba, h.n40, h.y, fun p hp ad q => Nat.le_trans hB (h.new p hp ad q)⟩
theorem PutsOf.push {w w' : World} {C : Nat} {v v' : Value} {ks : List Int} {ps : List PutD} {x : Int} {A : Option Addr} {c : Nat} {bs : List Int} (h : PutsOf w C v ks ps) (hO : w'.ownsRow C 50 2 v' (ks.length + 1) (ps.flatMap PutD.cells ++ [.int .i64 x, .slice A 40 c])) (hg : w.grownBy w' v.ownBlock) (hc : IsY w A 40 c bs) (hA : ∀ ad, A = some ad → C ≤ ad.block) :
  PutsOf w' C v' (ks ++ [x]) (ps ++ [⟨x, A, 40, c, bs⟩]) := by
 have k := Ag.grown (F := fun _ => False) h.own (by decide) hg (fun _ _ q => q)
 refine ⟨?_, by rw [List.map_append, h.lba]; rfl, fun p hp => ?_, fun p hp => ?_, fun p hp => ?_⟩
 · rw [List.length_append, List.flatMap_append]; exact hO
 · rcases List.mem_append.1 hp with q | q
   · exact h.n40 p q
   · obtain rfl : p = _ := by simpa using q
     rfl
 · rcases List.mem_append.1 hp with q | q
   · exact (h.y p q).ag k
   · obtain rfl : p = _ := by simpa using q
     exact hc.ag k
 · rcases List.mem_append.1 hp with q | q
   · exact h.new p q
   · obtain rfl : p = _ := by simpa using q
     exact hA
theorem keys_same {s : Nat} {f : Int → Option Value} {a b : List Int} (h : KeysI s f a) (k : KeysI s f b) : a = b := by
 have na : a.Nodup := h.up.imp (fun h => Int.ne_of_lt h)
 have nb : b.Nodup := k.up.imp (fun h => Int.ne_of_lt h)
 have hp : a.Perm b := (List.perm_ext_iff_of_nodup na nb).2 fun x => ⟨fun hx => (k.mem x (h.wf x hx)).2 ((h.mem x (h.wf x hx)).1 hx), fun hx => (h.mem x (k.wf x hx)).2 ((k.mem x (k.wf x hx)).1 hx)⟩
 exact List.Perm.eq_of_pairwise (le := (· < ·)) (fun x y _ _ h1 h2 => absurd h1 (by omega)) h.up k.up hp
theorem puts_any (F : Foot) (bb B : Nat) (ks : List Int) (w : World) (h : BufP w F bb ks) (hB : B ≤ w.heap.size) :
  Calls Tryz.prog 116 #[.pointer (some ⟨bb, 0, none⟩)] w fun e w' => (∃ v, e = .returned v ∧ ∃ ps, PutsOf w' B v ks ps) ∧ Below w.heap.size w w' := by
 obtain ⟨mb, s, f, h⟩ := h
 obtain ⟨xi, xz, hxi, hxz, hx5, hx56, hxc⟩ := infoPut
 obtain ⟨c0, c1, c2⟩ := h.bx.c3
 have hk := keysB_any mb w
 have hso := sortedB_any mb s f w h.im (Nat.le_trans h.le (by omega))
 have HX := Lib.hid h
 have HB := Lib.hid hB
 clear h hB
 go_enter Tryz.func116, Tryz.ntmps116
 go_wp2_with fail
 refine hk.mono ?_
 rintro e w1 ⟨rfl, rfl⟩
 go_wp2_with fail
 refine hso.mono ?_
 rintro e w2 ⟨⟨v, ks', rfl, hK, ho⟩, hb2⟩
 obtain rfl : ks' = ks := by
  have h1 := hK; have h2 := HX.out.keys
  exact keys_same h1 h2
 have hl := hK.len
 have ho2 := ho
 obtain ⟨kA, kc, rfl⟩ := own_shape ho
 have hR := rd_of_own ho
 have HL := Lib.hid (show s ≤ 16 from HX.out.le)
 have hb2s := Lib.hid hb2.size
 clear ho2 hk hso
 go_wp2_with fail
 go_loopw [2, 14] (fun pv iv wr => ∃ k : Nat, k ≤ s ∧ iv = .int .i64 (k : Int) ∧ Below w.heap.size w wr ∧ Below w2.heap.size w2 wr ∧ ∃ ps, Hid (PutsOf wr w2.heap.size pv (ks'.take k) ps)) (fun _ iv _ => s - (intOf iv).toNat)
 case atStart => exact ⟨0, Nat.zero_le _, rfl, hb2, Below.refl _ _, [], ⟨⟨rfl, .inl ⟨rfl, rfl⟩⟩, rfl, by simp, by simp, by simp⟩⟩
 case round =>
  obtain ⟨k, hk, rfl, hW, hW2, ps, HP⟩ := hrel
  clear c0 c1 c2
  by_cases hlt : k < s
  · obtain ⟨ad, eA, had, ck⟩ := (hR.next (Nat.le_refl _) hW2).get (k := k) (by rw [List.length_map]; omega)
    subst eA
    rw [List.getElem_map] at ck
    obtain ⟨x, hx⟩ : ∃ x, ks'[k]'(by omega) = x := ⟨_, rfl⟩
    rw [hx] at ck
    have hxm : x ∈ ks' := by rw [← hx]; exact List.getElem_mem _
    have hxw := HX.out.keys.wf x hxm
    have hX := HX.out.ag (.of_below hW)
    obtain ⟨u, hu⟩ := Option.isSome_iff_exists.1 ((HX.out.keys.mem x hxw).1 hxm)
    obtain ⟨uA, uc, ub, rfl, huy⟩ := hX.val x u hxw hu
    have hlk := hX.look hxw
    rw [hu] at hlk
    simp only [Option.getD_some] at hlk
    obtain ⟨c0, c1, c2⟩ := hX.bx.c3
    have hc := clone_any uA 40 uc wr.heap.size (ub.map (Value.int .u8)) wr (by rw [List.length_map]; exact huy.b.len) huy.b.rd one_int (by omega) (Nat.le_refl _)
    have HY := Lib.hid (And.intro huy.b.len huy.b.wf)
    have HT := Lib.hid (show ks'.take (k + 1) = ks'.take k ++ [x] by rw [List.take_succ_eq_append_getElem (by omega), hx])
    have htl : (ks'.take k).length = k := by rw [List.length_take]; omega
    have n0 : (k : Int) < (s : Int) := by omega
    have n1 : (0 : Int) ≤ (k : Int) := by omega
    have hk16 : k ≤ 16 := by have := HL.out; omega
    clear hX hx huy hu hxm
    go_wp2_with fail
    refine hc.mono ?_
    rintro e w3 ⟨⟨v3, rfl, ho3⟩, hb3⟩
    obtain ⟨yA, yc, rfl⟩ := own_shape ho3
    have HC := Lib.hid (show Byt w3 wr.heap.size (.slice yA 40 yc) ub from ⟨by rw [HY.out.1]; exact ho3, HY.out.2⟩)
    have HP3 := Lib.hid (HP.out.next hb3)
    have hs3 := hb3.size
    have HS := Lib.hid (And.intro (hW.trans (hb3.mono hW.size)) (And.intro (hW2.trans (hb3.mono hW2.size)) (Nat.le_trans hW2.size hb3.size)))
    clear hc ho3 hb3 c0 c1 c2 HP
    obtain ⟨w4, hw4⟩ : ∃ w4, w3.alloc (.cells #[.int .i64 x, .slice yA 40 yc] 50) = w4 := ⟨_, rfl⟩
    have hB4 : Bk w4 w3.heap.size 50 [.int .i64 x, .slice yA 40 yc] := by rw [← hw4]; exact Bk.new _ _ _
    have hb4 : Below w3.heap.size w3 w4 := by rw [← hw4]; exact (Below.refl _ _).alloc (Nat.le_refl _) _
    have HQ4 := Lib.hid (HP3.out.next hb4)
    have HB4 := Lib.hid (And.intro hB4 hb4)
    have hnk : (ks'.take k).length ≤ 1000000 := by omega
    clear hB4 hb4
    go_wp2_with (at_builtin; go_must (refine wpList_appS _ rfl _ _ 43 rfl w2.heap.size 50 xi xz 2 32 Tryz.underlying43 hxi hxz hx5 hx56 hxc (by decide) _ _ _ (by rfl) (by exact HQ4.out.own) _ [.int .i64 x, .slice yA 40 yc] (by rfl) (by exact HB4.out.1) rfl (by intro u hu; simp at hu; rcases hu with rfl | rfl <;> rfl) (by exact hnk) (by decide) (by exact Nat.le_trans HS.out.2.2 HB4.out.2.size) ?_); intro v9 w9 hO9 hG9 hn9)
    have HE := Lib.hid (show PutsOf w9 w2.heap.size v9 (ks'.take (k + 1)) (ps ++ [⟨x, yA, 40, yc, ub⟩]) ∧ Below w.heap.size w w9 ∧ Below w2.heap.size w2 w9 from by
     have hyc : IsY w3 yA 40 yc ub := by
      obtain ⟨A', c', e, hy⟩ := HC.out.isY
      rw [HY.out.1] at e hy
      injection e with e1 _ e2
      subst e1 e2
      exact hy
     refine ⟨by rw [HT.out]; exact HQ4.out.push (by rw [htl] at hO9 ⊢; exact hO9) hG9 (hyc.ag (F := fun _ => False) (.of_below HB4.out.2)) (fun ad q => Nat.le_trans hW2.size (own_at_ge (g := ad.block) HC.out.1 (by rw [q]; rfl))), ?_, ?_⟩
     · exact (HS.out.1.trans (HB4.out.2.mono HS.out.1.size)).grown hG9 (Nat.le_trans HS.out.1.size HB4.out.2.size) (fun g hg => Nat.le_trans hb2s.out (own_at_ge HQ4.out.own hg))
     · exact (HS.out.2.1.trans (HB4.out.2.mono HS.out.2.1.size)).grown hG9 (Nat.le_trans HS.out.2.1.size HB4.out.2.size) (fun g hg => own_at_ge HQ4.out.own hg))
    go_roundw
    case rel => exact ⟨k + 1, by omega, by go_num, HE.out.2.1, HE.out.2.2, _, HE.out.1⟩
    case measure => simp [intOf]; omega
  · obtain rfl : k = s := by omega
    have n0 : ¬ (k : Int) < (k : Int) := by omega
    have HP2 := Lib.hid (show PutsOf wr w2.heap.size u2 ks' ps from by have := HP.out; rwa [List.take_of_length_le (by omega)] at this)
    go_wp2_with fail
    go_ret
    exact ⟨⟨_, rfl, ps, HP2.out.base (Nat.le_trans HB.out hb2s.out)⟩, hW⟩
theorem buflen_any (F : Foot) (bb : Nat) (ks : List Int) (w : World) (h : BufP w F bb ks) :
  Calls Tryz.prog 275 #[.pointer (some ⟨bb, 0, none⟩)] w fun e w' => e = .returned (.int .i64 (ks.length : Int)) ∧ Below w.heap.size w w' := by
 have hc := puts_any F bb 0 ks w h (Nat.zero_le _)
 clear h
 go_enter Tryz.func275, Tryz.ntmps275
 go_wp2_with fail
 refine hc.mono ?_
 rintro e w' ⟨⟨v, rfl, ps, hp⟩, hb⟩
 obtain ⟨A, c, rfl, _⟩ := hp.is
 clear hp hc
 go_wp2_with fail
 go_ret
 exact ⟨rfl, hb⟩
end
section
open Go.RowKit Go.Maps
open Go.Sort Go.Shelf
instance : Inhabited ExD := ⟨⟨0, 0⟩⟩
def cmpI (a b : Int) : Int := if a < b then -1 else if b < a then 1 else 0
theorem ret_int {a b : Int} (h : a = b) : Ending.returned (.int .i64 a) = .returned (.int .i64 b) := by rw [h]
theorem cmpI_any (a b : Int) (w : World) :
  Calls Tryz.prog 290 #[.int .i64 a, .int .i64 b] w fun e w' => e = .returned (.int .i64 (cmpI a b)) ∧ w = w' := by
 rcases Int.lt_trichotomy a b with h | h | h
 · have t1 : decide (a < b) = true := decide_eq_true h
   have HR := Lib.hid (show cmpI a b = -1 by unfold cmpI; rw [if_pos h])
   clear h
   go_enter Tryz.func290, Tryz.ntmps290
   go_wp2
   go_ret
   exact ⟨ret_int (by rw [HR.out]), rfl⟩
 · subst h
   have t1 : decide (a < a) = false := decide_eq_false (by omega)
   have HR := Lib.hid (show cmpI a a = 0 by unfold cmpI; rw [if_neg (by omega), if_neg (by omega)])
   go_enter Tryz.func290, Tryz.ntmps290
   go_wp2
   go_ret
   exact ⟨ret_int (by rw [HR.out]), rfl⟩
 · have t1 : decide (a < b) = false := decide_eq_false (by omega)
   have t2 : decide (b < a) = true := decide_eq_true h
   have HR := Lib.hid (show cmpI a b = 1 by unfold cmpI; rw [if_neg (by omega), if_pos h])
   clear h
   go_enter Tryz.func290, Tryz.ntmps290
   go_wp2
   go_ret
   exact ⟨ret_int (by rw [HR.out]), rfl⟩
def cfE (x y : ExD) : Int := cmpI x.f y.f
theorem ltE (x y : ExD) : ltOf cfE x y = decide (x.f < y.f) := by
 unfold ltOf cfE cmpI
 by_cases h : x.f < y.f
 · simp [h]
 · by_cases h2 : y.f < x.f <;> simp [h, h2]
theorem swoE : SWO (ltOf cfE) where
 irrefl x := by rw [ltE]; simp
 trans x y z h1 h2 := by rw [ltE] at *; simp at *; omega
 ntrans x y z h1 h2 := by rw [ltE] at *; simp at *; omega
theorem cloE_any (x y : ExD) (w : World) :
  Calls Tryz.prog 361 #[.agg #[.int .i64 x.f, .int .i64 x.l], .agg #[.int .i64 y.f, .int .i64 y.l]] w fun e w' => e = .returned (.int .i64 (cfE x y)) ∧ w' = (w.alloc (.cells #[.int .i64 x.f, .int .i64 x.l] 197)).alloc (.cells #[.int .i64 y.f, .int .i64 y.l] 197) := by
 have hc := fun w' => cmpI_any x.f y.f w'
 go_enter Tryz.func361, Tryz.ntmps361
 go_wp2_with fail
 refine (hc _).mono ?_
 rintro e w' ⟨rfl, rfl⟩
 go_wp2_with fail
 go_ret
 exact ⟨rfl, rfl⟩
theorem flat_K (xs : List ExD) : (flatK exc 2 xs.toArray).toList = xs.flatMap exc := by
 apply List.ext_getElem?
 intro j
 by_cases hj : j < xs.length * 2
 · have h1 : (flatK exc 2 xs.toArray).size = xs.length * 2 := by simp
   rw [Array.getElem?_toList, Array.getElem?_eq_getElem (by omega)]
   have h2 := get_flatK exc 2 xs.toArray j (by simpa using hj)
   rw [getElem!_pos _ _ (by omega)] at h2
   rw [h2]
   have h3 := flat_get ex_two (l := xs) (k := j / 2) (j := j % 2) (by omega) (by omega)
   rw [show j / 2 * 2 + j % 2 = j by omega] at h3
   rw [h3]
   have h4 : (xs.toArray)[j / 2]! = xs[j / 2]'(by omega) := by rw [getElem!_pos _ _ (by simp; omega)]; simp
   rw [h4, getElem!_pos _ _ (by rw [ex_two]; omega), List.getElem?_eq_getElem (by rw [ex_two]; omega)]
 · rw [List.getElem?_eq_none (by simp; omega), List.getElem?_eq_none (by rw [flat_len ex_two]; omega)]
theorem take_putE (cur : Array Value) (F : List Value) (h : F.length ≤ cur.size) : (putCells id 0 F.toArray cur).toList.take F.length = F := by
 apply List.ext_getElem?
 intro j
 by_cases hj : j < F.length
 · rw [List.getElem?_take_of_lt hj, Array.getElem?_toList]
   simp [putCells, hj, show j < cur.size by omega]
 · rw [List.getElem?_take_eq_none (by omega), List.getElem?_eq_none (by omega)]
theorem own_sortedE {w : World} {base g cap n m : Nat} {e : TypeId} {os : Array Obj} {cur : Array Value} {F : List Value} (hl : F.length = m * 2) (hbase : base ≤ g) (hb : w.heap[g]? = some (.cells cur e (0, 0)))
  (h1 : m ≤ cap) (h2 : cap ≤ maxLen) (h3 : cur.size = cap * 2) :
  (sortWorld id w g 0 n F.toArray os).ownsRow base e 2 (.slice (some ⟨g, 0, none⟩) m cap) m F := by
 unfold sortWorld
 have hg : g < w.heap.size := lt_of hb
 have hh : (grow (putRow id (Sort.ahead w n) g 0 F.toArray) os).heap[g]? = some (.cells (putCells id 0 F.toArray cur) e (0, 0)) := by
  rw [heap_grow_old _ _ (by simpa using hg)]
  simp [putRow, mapBlock, Sort.ahead, Array.getElem?_modify, hb, onCells]
 exact ⟨hl, .inr ⟨g, cap, _, rfl, hbase, hh, h1, h2, by simp [putCells, h3], by rw [← hl]; exact take_putE cur F (by omega)⟩⟩
theorem grown_sortedE {w : World} {g n : Nat} {os : Array Obj} (d : Array Value) : w.grownBy (sortWorld id w g 0 n d os) (some g) := by
 unfold sortWorld
 refine ⟨rfl, rfl, rfl, by simp, fun k hk hne => ?_⟩
 rw [heap_grow_old _ _ (by simpa using hk)]
 have : g ≠ k := fun e => hne (by rw [e])
 simp [putRow, mapBlock, Sort.ahead, Array.getElem?_modify, this]
theorem holds_own {α : Type} [Inhabited α] {enc : α → Value} {w : World} {g : Nat} {cur : Array Value} {e : TypeId} {ss : List α} (hb : w.heap[g]? = some (.cells cur e (0, 0))) (ht : cur.toList.take ss.length = ss.map enc) : Holds enc w g 0 ss.toArray := by
 intro j hj
 have hj' : j < ss.length := by simpa using hj
 refine ⟨?_, by simp [World.frozen?, hb]⟩
 have h1 : (cur.toList.take ss.length)[j]? = (ss.map enc)[j]? := by rw [ht]
 rw [List.getElem?_take_of_lt hj'] at h1
 simp only [World.cell?, hb, Nat.zero_add]
 simp only [Option.isSome_none, Bool.false_eq_true, if_false]
 rw [← Array.getElem?_toList, h1]
 simp [hj']
theorem sort_ex {w : World} {base : Nat} {v : Value} {xs : List ExD} (hn : xs.length ≤ 1000000) (h : ExO w base v xs) (h0 : 0 < xs.length) (hb : base ≤ w.heap.size) :
  Calls Tryz.prog 360 #[v, .func (.func 361) #[] #[]] w fun e w' => e = .returned (.tuple #[]) ∧ (∃ ys, ys.length = xs.length ∧ ExO w' base v ys) ∧ Below base w w' := by
 rcases h.2 with ⟨_, h1⟩ | ⟨g, cap, cur, rfl, hbg, hcur, hnc, hcm, hcs, htk⟩
 · omega
 · have hg : g < w.heap.size := lt_of hcur
   have hsz : xs.toArray.size = xs.length := by simp
   have hH : HoldsK exc 2 w g 0 xs.toArray := by
    unfold HoldsK
    have h9 : flatK exc 2 xs.toArray = (xs.flatMap exc).toArray := by rw [← flat_K xs]
    rw [h9]
    exact holds_own hcur (by rw [flat_len ex_two, htk, List.map_id])
   have hc := AnyQ.slices_SortFunc Tryz.sortE 2 (fun w => by kernel_rfl) (fun w => by kernel_rfl) exc ex_two (fun x v hv => by simp [exc] at hv; rcases hv with rfl | rfl <;> rfl) cfE swoE 361 #[] g 0 cap xs.toArray w (enters_of Tryz.func361 (by kernel_rfl) rfl)
    (fun q os dk _ x y => (cloE_any x y _).mono fun e w' ⟨he, hw⟩ => ⟨he, 0, #[.cells #[.int .i64 x.f, .int .i64 x.l] 197, .cells #[.int .i64 y.f, .int .i64 y.l] 197], hw.trans (by rw [alloc_eq_grow, alloc_eq_grow, grow_grow]; rfl)⟩) hH hg (by rw [hsz]; omega)
   rw [hsz] at hc
   refine hc.mono fun e w' ⟨he, d', q, os, hp, _, hw'⟩ => ?_
   have hd : d'.size = xs.length := by have := hp.1; rw [hsz] at this; exact this
   have hw2 : w' = sortWorld id w g 0 q (d'.toList.flatMap exc).toArray os := by
    have h9 : flatK exc 2 d' = (d'.toList.flatMap exc).toArray := by rw [← flat_K d'.toList]
    rw [hw']
    unfold sortWorldK putRowK
    rw [h9]; rfl
   have hld : d'.toList.length = xs.length := by simpa using hd
   refine ⟨he, ⟨d'.toList, hld, ?_⟩, ?_⟩
   · rw [hw2]
     unfold ExO
     rw [hld]
     exact own_sortedE (by rw [flat_len ex_two, hld]) hbg hcur hnc hcm hcs
   · rw [hw2]
     exact (Below.refl _ _).grown (grown_sortedE _) hb (fun k hk => by injection hk with hk; omega)
theorem own_put {w : World} {B e s n g cap : Nat} {xs : List Value} (h : w.ownsRow B e s (.slice (some ⟨g, 0, none⟩) n cap) n xs) {i : Nat} (hi : i < n * s) (u : Value) : (w.setCell ⟨g, i, none⟩ u).ownsRow B e s (.slice (some ⟨g, 0, none⟩) n cap) n (xs.set i u) := by
 rcases h.2 with ⟨h0, _⟩ | ⟨g', cap', cur, hv, hb, hh, hc, hm, hs, ht⟩
 · cases h0
 · injection hv with h1 _ h3
   injection h1 with h1
   injection h1 with h1 _
   subst h1 h3
   refine ⟨by rw [List.length_set]; exact h.1, .inr ⟨g, cap, cur.setIfInBounds i u, rfl, hb, ?_, hc, hm, by simpa using hs, ?_⟩⟩
   · have hlt := lt_of hh
     have hg : w.heap[g] = .cells cur e (0, 0) := by rw [Array.getElem?_eq_getElem hlt] at hh; exact Option.some.inj hh
     simp [World.setCell, hlt, Array.getElem_modify, hg]
   · rw [← ht, Array.toList_setIfInBounds, List.take_set]
theorem flat_set : ∀ (ys : List ExD) (p : Nat) (hp : p < ys.length) (L : Int), (ys.flatMap exc).set (p * 2 + 1) (.int .i64 L) = (ys.set p ⟨ys[p].f, L⟩).flatMap exc
 | [], p, hp, _ => by simp at hp
 | y :: ys, 0, _, L => by simp [exc]
 | y :: ys, p + 1, hp, L => by
   have ih := flat_set ys p (by simpa using hp) L
   have e : (p + 1) * 2 + 1 = (p * 2 + 1) + 1 + 1 := by omega
   rw [List.flatMap_cons, e, List.set_cons_succ, List.flatMap_cons]
   show ([Value.int .i64 y.f, .int .i64 y.l] ++ ys.flatMap exc).set _ _ = _
   simp only [List.cons_append, List.nil_append, List.set_cons_succ, ih]
   rfl
end
section
open Go.RowKit Go.Maps
theorem frozen_row {w : World} {B e s n g cap : Nat} {xs : List Value} (h : w.ownsRow B e s (.slice (some ⟨g, 0, none⟩) n cap) n xs) (i : Nat) : w.frozen? ⟨g, i, none⟩ = false := by
 rcases h.2 with ⟨h0, _⟩ | ⟨g', cap', cur, hv, hb, hh, _⟩
 · cases h0
 · injection hv with h1 _ h3
   injection h1 with h1
   injection h1 with h1 _
   subst h1
   exact frozen_block hh i
theorem joined_push {w w2 w6 W w9 : World} {v v9 : Value} {m : Nat} {ys : List ExD} {x : ExD} {o : Obj} (hw : Below w.heap.size w w6 ∧ Below w2.heap.size w2 w6 ) (hO : w6.ownsRow w2.heap.size 197 2 v m (ys.flatMap exc) ∧ ys.length = m) (hW : Below w6.heap.size w6 W) (hle : w.heap.size ≤ w2.heap.size)
  (h9 : w9.ownsRow w2.heap.size 197 2 v9 (m + 1) (ys.flatMap exc ++ [.int .i64 x.f, .int .i64 x.l])) (hG : (W.alloc o).grownBy w9 v.ownBlock) :
  Below w.heap.size w w9 ∧ Below w2.heap.size w2 w9 ∧ w9.ownsRow w2.heap.size 197 2 v9 (m + 1) ((ys ++ [x]).flatMap exc) ∧ (ys ++ [x]).length = m + 1 := by
 have hWa : Below w6.heap.size w6 (W.alloc o) := hW.alloc hW.size _
 refine ⟨(hw.1.trans (hWa.mono hw.1.size)).grown hG (Nat.le_trans hw.1.size hWa.size) (fun g hg => Nat.le_trans hle (own_at_ge hO.1 hg)), (hw.2.trans (hWa.mono hw.2.size)).grown hG (Nat.le_trans hw.2.size hWa.size) (fun g hg => own_at_ge hO.1 hg), ?_, by rw [List.length_append, hO.2]; rfl⟩
 rw [List.flatMap_append]
 simpa [exc] using h9
theorem joined_set {w w2 w6 : World} {g cap p : Nat} {ys : List ExD} {y : ExD} (hw : Below w.heap.size w w6 ∧ Below w2.heap.size w2 w6) (hO : w6.ownsRow w2.heap.size 197 2 (.slice (some ⟨g, 0, none⟩) (p + 1) cap) (p + 1) (ys.flatMap exc) ∧ ys.length = p + 1) (hy : ys[p]'(by omega) = y) (hle : w.heap.size ≤ w2.heap.size) (q : Nat) (L : Int) :
  Below w.heap.size w ((w6.drewN q).setCell ⟨g, p * 2 + 1, none⟩ (.int .i64 L)) ∧ Below w2.heap.size w2 ((w6.drewN q).setCell ⟨g, p * 2 + 1, none⟩ (.int .i64 L)) ∧
   ((w6.drewN q).setCell ⟨g, p * 2 + 1, none⟩ (.int .i64 L)).ownsRow w2.heap.size 197 2 (.slice (some ⟨g, 0, none⟩) (p + 1) cap) (p + 1) ((ys.set p ⟨y.f, L⟩).flatMap exc) ∧ (ys.set p ⟨y.f, L⟩).length = p + 1 := by
 have hg := own_at_ge hO.1 (g := g) rfl
 have b1 := hw.1.trans ((bdrewN (Below.refl w6.heap.size w6) q).mono hw.1.size)
 have b2 := hw.2.trans ((bdrewN (Below.refl w6.heap.size w6) q).mono hw.2.size)
 refine ⟨b1.setCell (p := ⟨g, p * 2 + 1, none⟩) (Nat.le_trans hle hg) _, b2.setCell (p := ⟨g, p * 2 + 1, none⟩) hg _, ?_, by rw [List.length_set]; exact hO.2⟩
 have h1 := own_put (own_bel' hO.1 (bdrewN (Below.refl w6.heap.size w6) q)) (i := p * 2 + 1) (by omega) (.int .i64 L)
 rw [flat_set ys p (by omega) L, hy] at h1
 exact h1
theorem joined_any (A : Option Addr) (n c : Nat) (xs : List ExD) (w : World) (h : IsEx w A n c xs) (h1 : 1 ≤ n) (hn : n ≤ 2000) :
  Calls Tryz.prog 323 #[.slice A n c] w fun e w' => (∃ v, e = .returned v ∧ ∃ ys, ys.length ≤ n ∧ ExO w' w.heap.size v ys) ∧ Below w.heap.size w w' := by
 obtain ⟨xi, xz, hxi, hxz, hx5, hx56, hxc⟩ := infoEs
 have hl := h.len
 have hc := clone_ex A n c w.heap.size xs w h (by omega) (Nat.le_refl _)
 clear h
 go_enter Tryz.func323, Tryz.ntmps323
 go_wp2_with fail
 go_step3
 go_wp2_with fail
 refine hc.mono ?_
 rintro e w1 ⟨⟨v1, rfl, ho1, _⟩, hb1⟩
 have hs := sort_ex (by omega) ho1 (by omega) hb1.size
 clear hc
 go_wp2_with fail
 refine hs.mono ?_
 rintro e w2 ⟨rfl, ⟨zs, hzl, ho2⟩, hb2⟩
 obtain ⟨zA, zc, rfl, hz⟩ := ExO.is ho2
 have hb := hb1.trans hb2
 have hbs := Lib.hid hb.size
 have hzn : zs.length = n := by omega
 rw [hzn] at hz ⊢
 clear hs ho1 ho2 hb1 hb2 hzl
 go_wp2_with fail
 go_step3
 go_wp2_with fail
 go_loopw [2, 12] (fun pv iv wr => ∃ k m : Nat, k ≤ n ∧ m ≤ k ∧ iv = .int .i64 (k : Int) ∧ Below w.heap.size w wr ∧ Below w2.heap.size w2 wr ∧ ∃ ys : List ExD, Hid (wr.ownsRow w2.heap.size 197 2 pv m (ys.flatMap exc) ∧ ys.length = m)) (fun _ iv _ => n - (intOf iv).toNat)
 case atStart => exact ⟨0, 0, Nat.zero_le _, Nat.le_refl _, rfl, hb, Below.refl _ _, [], ⟨rfl, .inl ⟨rfl, rfl⟩⟩, rfl⟩
 case round =>
  obtain ⟨k, m, hk, hmk, rfl, hW, hW2, ys, HO⟩ := hrel
  by_cases hlt : k < n
  · obtain ⟨x, hpx⟩ : ∃ p, zs[k]'(by omega) = p := ⟨_, rfl⟩
    have hmx : x ∈ zs := by rw [← hpx]; exact List.getElem_mem _
    obtain ⟨adx, eAx, hadx, c0, c1⟩ := two_get ex_two (hz.rd.next (Nat.le_refl _) hW2) (k := k) (by omega) (u := .int .i64 x.f) (v := .int .i64 x.l) (by rw [hpx]; rfl)
    subst eAx
    have n0 : (k : Int) < (n : Int) := by omega
    have n1 : (0 : Int) ≤ (k : Int) := by omega
    clear hpx hmx
    obtain ⟨w6, hw6⟩ : ∃ w6, wr.alloc (.cells #[.int .i64 x.f, .int .i64 x.l] 197) = w6 := ⟨_, rfl⟩
    have hB6 : Bk w6 wr.heap.size 197 [.int .i64 x.f, .int .i64 x.l] := by rw [← hw6]; exact Bk.new wr _ _
    have hb6 : Below wr.heap.size wr w6 := by rw [← hw6]; exact (Below.refl _ _).alloc (Nat.le_refl _) _
    obtain ⟨d0, d1⟩ := hB6.c2
    have HW6 := Lib.hid (show Below w.heap.size w w6 ∧ Below w2.heap.size w2 w6 from ⟨hW.trans (hb6.mono hW.size), hW2.trans (hb6.mono hW2.size)⟩)
    have HO6 := Lib.hid (show w6.ownsRow w2.heap.size 197 2 u2 m (ys.flatMap exc) ∧ ys.length = m from ⟨own_bel' HO.out.1 hb6, HO.out.2⟩)
    obtain ⟨pA, pc, rfl⟩ := own_shape HO6.out.1
    have hmn : m ≤ 2000 := by omega
    rcases Nat.eq_zero_or_pos m with hm | hm
    · subst hm
      clear hW hW2 HO hB6 hmk
      go_wp2_with fail
      go_quiet (fail)
      go_wp2_with (at_builtin; go_must (refine wpList_appS _ rfl _ _ 393 rfl w2.heap.size 197 xi xz 2 16 Tryz.underlying393 hxi hxz hx5 hx56 hxc (by decide) _ _ _ (by rfl) (by exact own_bel' HO6.out.1 ((bdrewN (Below.refl _ _) _).alloc (Nat.le_refl _) _)) _ [.int .i64 x.f, .int .i64 x.l] (by rfl) (by exact Bk.new _ _ _) rfl (by intro u hu; simp at hu; rcases hu with rfl | rfl <;> rfl) (by omega) (by decide) (by exact Nat.le_trans HW6.out.2.size (by simp)) ?_); intro v9 w9 hO9 hG9 hn9)
      have HE := Lib.hid (joined_push HW6.out HO6.out (bdrewN (Below.refl _ _) _) hbs.out hO9 hG9)
      clear hO9 hG9 hn9
      go_roundw
      case rel => exact ⟨k + 1, 1, by omega, by omega, by go_num, HE.out.1, HE.out.2.1, _, HE.out.2.2⟩
      case measure => simp [intOf]; omega
    · obtain ⟨p, rfl⟩ : ∃ p, m = p + 1 := ⟨m - 1, by omega⟩
      obtain ⟨g, hg⟩ : ∃ g, pA = some ⟨g, 0, none⟩ := by
       rcases HO6.out.1.2 with ⟨_, h0⟩ | ⟨g, cap, cur, hv, _⟩
       · omega
       · injection hv with hv _ _; exact ⟨g, hv⟩
      subst hg
      obtain ⟨y, hy⟩ : ∃ y, ys[p]'(by have := HO6.out.2; omega) = y := ⟨_, rfl⟩
      obtain ⟨_, eg, _, e0, e1⟩ := two_get ex_two (rd_of_own HO6.out.1) (k := p) (by have := HO6.out.2; omega) (u := .int .i64 y.f) (v := .int .i64 y.l) (by rw [hy]; rfl)
      injection eg with eg
      subst eg
      rw [Addr.add_lit] at e0 e1
      simp only [Nat.zero_add] at e0 e1
      have HY := Lib.hid hy
      have w1 : wrap64 ((p : Int) + 1 - 1) = (p : Int) := by unfold wrap64; omega
      have w2' : IntKind.i64.wrap (p : Int) = (p : Int) := IntWalk.i64_in _ (by omega)
      have t0 : decide ((0 : Int) ≤ (p : Int)) = true := decide_eq_true (by omega)
      have n2 : (0 : Int) ≤ (p : Int) := by omega
      have n3 : (p : Int) < (p : Int) + 1 := by omega
      have hfz := frozen_row HO6.out.1 (p * 2 + 1)
      have HM := Lib.hid hmk
      clear hW hW2 HO hB6 hmk hy hm
      by_cases hle : x.f ≤ wrap64 (y.f + y.l)
      · have t1 : decide (x.f ≤ wrap64 (y.f + y.l)) = true := decide_eq_true hle
        clear hle
        go_wp2_with fail
        go_quiet (fail)
        go_wp2_with fail
        refine anyL_start (Drawn w6) 21 (by kernel_rfl) (by first | exact Drawn.of _ _ | exact Drawn.one _ | exact ⟨1, rfl⟩) (fun hHeld => ?_)
        refine kE 0 ?_; refine kE 1 ?_; refine kE 2 ?_; refine kE 3 ?_; refine kE 4 ?_; refine kE 5 ?_; refine kE 6 ?_; refine kE 7 ?_; refine kE 8 ?_; refine kE 9 ?_; refine kE 10 ?_; refine kE 11 ?_
        refine kE 12 ?_; refine kE 13 ?_; refine kE 14 ?_; refine kE 15 ?_; refine kE 16 ?_; refine kE 17 ?_; refine kE 18 ?_
        refine rL 19 (fun K hK => ?_)
        go_simp
        refine hK.out _ _ (fun _ => Drawn.of w6 nq) ?_
        clear hK K hHeld
        have hHeld := Drawn.of w6 nq
        try simp only [Act.put, List.setIfInBounds_toArray, List.set_cons_zero, List.set_cons_succ]
        refine rL 20 (fun K hK => ?_)
        go_simp
        refine hK.out _ _ (fun _ => Drawn.of w6 nq) ?_
        clear hK K hHeld
        have hHeld := Drawn.of w6 nq
        try simp only [Act.put, List.setIfInBounds_toArray, List.set_cons_zero, List.set_cons_succ]
        refine rL 21 (fun K hK => ?_)
        go_simp
        refine hK.out _ _ (fun h => absurd rfl h) ?_
        clear hK K
        try simp only [Act.put, List.setIfInBounds_toArray, List.set_cons_zero, List.set_cons_succ]
        refine anyL_done (by kernel_rfl) ?_ _
        go_wp2_with fail
        have HE := Lib.hid (fun q L => joined_set (q := q) (L := L) HW6.out HO6.out HY.out hbs.out)
        go_roundw
        case rel => exact ⟨k + 1, p + 1, by omega, by have := HM.out; omega, by go_num, (HE.out _ _).1, (HE.out _ _).2.1, _, (HE.out _ _).2.2⟩
        case measure => simp [intOf]; omega
      · have t1 : decide (x.f ≤ wrap64 (y.f + y.l)) = false := decide_eq_false hle
        clear hle
        go_wp2_with fail
        go_quiet (fail)
        go_wp2_with (at_builtin; go_must (refine wpList_appS _ rfl _ _ 393 rfl w2.heap.size 197 xi xz 2 16 Tryz.underlying393 hxi hxz hx5 hx56 hxc (by decide) _ _ _ (by rfl) (by exact own_bel' HO6.out.1 ((bdrewN (Below.refl _ _) _).alloc (Nat.le_refl _) _)) _ [.int .i64 x.f, .int .i64 x.l] (by rfl) (by exact Bk.new _ _ _) rfl (by intro u hu; simp at hu; rcases hu with rfl | rfl <;> rfl) (by omega) (by decide) (by exact Nat.le_trans HW6.out.2.size (by simp)) ?_); intro v9 w9 hO9 hG9 hn9)
        have HE := Lib.hid (joined_push HW6.out HO6.out (bdrewN (Below.refl _ _) _) hbs.out hO9 hG9)
        clear hO9 hG9 hn9
        go_roundw
        case rel => exact ⟨k + 1, p + 1 + 1, by omega, by have := HM.out; omega, by go_num, HE.out.1, HE.out.2.1, _, HE.out.2.2⟩
        case measure => simp [intOf]; omega
  · obtain rfl : k = n := by omega
    have n0 : ¬ (k : Int) < (k : Int) := by omega
    go_wp2_with fail
    (try simp only [Exit.inBlock, Exit.then, Exit.noGoto_ret])
    go_ret
    exact ⟨⟨_, rfl, ys, by rw [HO.out.2]; exact hmk, by unfold ExO; rw [HO.out.2]; exact ownsRow_base_a HO.out.1 hbs.out⟩, hW⟩
end
end Go.Proofs.YthhndleddlmgiaaGreatDoor.Tp
