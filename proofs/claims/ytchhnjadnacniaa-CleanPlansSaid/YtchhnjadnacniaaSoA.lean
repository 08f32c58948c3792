/- Numbers in order, no program in sight: the order of keys, lists sorted by it, and a row of the call's own that the library has sorted. -/
import Derived.Test.YtchhnjadnacniaaFlG
import Derived.Test.YtchhnjadnacniaaRd
import Derived.Shelf.SlSortCmp.Insertion
import Derived.Sort.OwnSorted
namespace Go.Proofs.Ytchhnjadnacniaa.So
open Go.RowKit Go.Sort Go.Lib Fl
set_option linter.unusedSimpArgs false

/-- words of which every NaN is the one. -/
def Wd : Type := { x : Nat // x < 18446744073709551616 ∧ cn x = x }
instance : Inhabited Wd := ⟨⟨0, by decide, by decide⟩⟩
def encW (x : Wd) : Value := .float .f64 x.1
def mkW (x : Nat) (h : x < 18446744073709551616) : Wd := ⟨cn x, cn_lt h, cn_cn x⟩
/-- -1, 0, 1. -/
def cmpN (a b : Nat) : Int := if a < b then -1 else if b < a then 1 else 0
def cfW (x y : Wd) : Int := cmpN (keyW x.1) (keyW y.1)
theorem cmpN_neg (a b : Nat) : (cmpN a b < 0) ↔ a < b := by unfold cmpN; split <;> (try split) <;> omega
theorem ltW (x y : Wd) : ltOf cfW x y = decide (keyW x.1 < keyW y.1) := by
  unfold ltOf cfW
  exact decide_eq_decide.2 (cmpN_neg _ _)
theorem swoW : SWO (ltOf cfW) where
  irrefl x := by rw [ltW]; simp
  trans x y z h1 h2 := by rw [ltW] at *; simp at *; omega
  ntrans x y z h1 h2 := by rw [ltW] at *; simp at *; omega
theorem totW (x y : Wd) (h1 : ltOf cfW x y = false) (h2 : ltOf cfW y x = false) : x = y := by
  rw [ltW] at *
  simp at h1 h2
  exact Subtype.ext ((key_inj x.2.1 y.2.1).1 (by omega))
def leK (x y : Nat) : Bool := decide (keyV x ≤ keyV y)
theorem geW : (fun x y : Wd => !ltOf cfW y x) = fun x y => leK x.1 y.1 := by
  funext x y
  rw [ltW]
  unfold leK keyV
  rw [x.2.2, y.2.2]
  by_cases h : keyW x.1 ≤ keyW y.1
  · simp [h]
  · simp [h]; omega
theorem leK_trans (a b c : Nat) (h1 : leK a b = true) (h2 : leK b c = true) : leK a c = true := by
  unfold leK at *; simp at *; omega
theorem leK_total (a b : Nat) : (leK a b || leK b a) = true := by unfold leK; simp; omega
/-- numbers in their order, every NaN the one. -/
def sortV (l : List Nat) : List Nat := (l.map cn).mergeSort leK
theorem sortV_len (l : List Nat) : (sortV l).length = l.length := by unfold sortV; rw [List.length_mergeSort, List.length_map]
theorem sortV_perm (l : List Nat) : (sortV l).Perm (l.map cn) := List.mergeSort_perm _ _
theorem sortV_sorted (l : List Nat) : (sortV l).Pairwise fun a b => leK a b = true := List.pairwise_mergeSort leK_trans leK_total _
theorem sortV_canon (l : List Nat) : ∀ x ∈ sortV l, cn x = x := by
  intro x hx
  have := (sortV_perm l).mem_iff.1 hx
  obtain ⟨y, _, rfl⟩ := List.mem_map.1 this
  exact cn_cn y
theorem sortV_lt {l : List Nat} (h : ∀ x ∈ l, x < 18446744073709551616) : ∀ x ∈ sortV l, x < 18446744073709551616 := by
  intro x hx
  have := (sortV_perm l).mem_iff.1 hx
  obtain ⟨y, hy, rfl⟩ := List.mem_map.1 this
  exact cn_lt (h y hy)
theorem leK_anti {a b : Nat} (ha : a < 18446744073709551616) (hb : b < 18446744073709551616) (ca : cn a = a) (cb : cn b = b) (h1 : leK a b = true) (h2 : leK b a = true) : a = b := by
  unfold leK keyV at *
  rw [ca, cb] at *
  simp at h1 h2
  exact (key_inj ha hb).1 (by omega)
/-- what is sorted, and has the same numbers, is the one list. -/
theorem sorted_one : ∀ {l m : List Nat}, (∀ x ∈ l, x < 18446744073709551616 ∧ cn x = x) → l.Perm m → l.Pairwise (fun a b => leK a b = true) → m.Pairwise (fun a b => leK a b = true) → l = m := by
  intro l m hw hp hl hm
  exact hp.eq_of_pairwise (le := fun a b => leK a b = true) (fun a b ha hb h1 h2 => leK_anti (hw a ha).1 (hw b (hp.mem_iff.2 hb)).1 (hw a ha).2 (hw b (hp.mem_iff.2 hb)).2 h1 h2) hl hm
theorem sortV_one {l m : List Nat} (hw : ∀ x ∈ l, x < 18446744073709551616) (hp : m.Perm (l.map cn)) (hs : m.Pairwise fun a b => leK a b = true) : m = sortV l := by
  refine sorted_one (fun x hx => ?_) (hp.trans (sortV_perm l).symm) hs (sortV_sorted l)
  obtain ⟨y, hy, rfl⟩ := List.mem_map.1 (hp.mem_iff.1 hx)
  exact ⟨cn_lt (hw y hy), cn_cn y⟩
theorem sortV_of_cn {l m : List Nat} (h : l.map cn = m.map cn) : sortV l = sortV m := by unfold sortV; rw [h]
theorem sortV_cn (l : List Nat) : sortV (l.map cn) = sortV l := by
  refine sortV_of_cn ?_
  rw [List.map_map]; congr 1; funext x; exact cn_cn x
theorem sortV_perm_eq {l m : List Nat} (hw : ∀ x ∈ l, x < 18446744073709551616) (h : l.Perm m) : sortV l = sortV m :=
  (sortV_one (l := m) (fun x hx => hw x (h.mem_iff.2 hx)) ((sortV_perm l).trans (h.map cn)) (sortV_sorted l))
/-- the sort of the library, of words. -/
theorem sort_vals (l : List Wd) : ((l.mergeSort fun x y => !ltOf cfW y x).map fun x => x.1) = sortV (l.map fun x => x.1) := by
  rw [geW]
  unfold sortV
  have e : (l.map fun x => x.1).map cn = l.map fun x => x.1 := by
    rw [List.map_map]
    refine List.map_congr_left fun x _ => ?_
    exact x.2.2
  rw [e, List.map_mergeSort (s := leK) (fun a _ b _ => rfl)]
def toW : (l : List Nat) → (∀ x ∈ l, x < 18446744073709551616 ∧ cn x = x) → List Wd
  | [], _ => []
  | x :: l, h => ⟨x, h x (List.mem_cons_self ..)⟩ :: toW l fun y hy => h y (List.mem_cons_of_mem _ hy)
theorem toW_vals : ∀ (l : List Nat) (h : ∀ x ∈ l, x < 18446744073709551616 ∧ cn x = x), (toW l h).map (fun x => x.1) = l
  | [], _ => rfl
  | x :: l, h => congrArg (x :: ·) (toW_vals l fun y hy => h y (List.mem_cons_of_mem _ hy))
theorem enc_vals (l : List Wd) : l.map encW = (l.map fun x => x.1).map (Value.float .f64) := by
  rw [List.map_map]; rfl
/-- a row that is sorted in its place. -/
theorem holds_own {α : Type} [Inhabited α] {enc : α → Value} {w : World} {g : Nat} {cur : Array Value} {e : TypeId} {ss : List α} (hb : w.heap[g]? = some (.cells cur e (0, 0))) (ht : cur.toList.take ss.length = ss.map enc) : Holds enc w g 0 ss.toArray := by
  intro j hj
  have hj' : j < ss.length := by simpa using hj
  refine ⟨?_, by simp [World.frozen?, hb]⟩
  have h1 : (cur.toList.take ss.length)[j]? = (ss.map enc)[j]? := by rw [ht]
  rw [List.getElem?_take_of_lt hj'] at h1
  simp only [World.cell?, hb, Nat.zero_add]
  simp only [Option.isSome_none, Bool.false_eq_true, if_false]
  rw [← Array.getElem?_toList, h1]
  simp [hj']
theorem grown_sorted {α : Type} [Inhabited α] {enc : α → Value} {w : World} {g n : Nat} {os : Array Obj} (d : Array α) : w.grownBy (sortWorld enc w g 0 n d os) (some g) := by
  unfold sortWorld
  refine ⟨rfl, rfl, rfl, by simp, fun k hk hne => ?_⟩
  rw [heap_grow_old _ _ (by simpa using hk)]
  have : g ≠ k := fun e => hne (by rw [e])
  simp [putRow, mapBlock, Sort.ahead, Array.getElem?_modify, this]
theorem take_put {α : Type} [Inhabited α] {enc : α → Value} (cur : Array Value) (ts : List α) (h : ts.length ≤ cur.size) : (putCells enc 0 ts.toArray cur).toList.take ts.length = ts.map enc := by
  apply List.ext_getElem?
  intro j
  by_cases hj : j < ts.length
  · rw [List.getElem?_take_of_lt hj, Array.getElem?_toList]
    simp [putCells, hj, show j < cur.size by omega]
  · rw [List.getElem?_take_eq_none (by omega), List.getElem?_eq_none (by simp; omega)]
theorem own_sorted {α : Type} [Inhabited α] {enc : α → Value} {w : World} {base g cap n : Nat} {e : TypeId} {os : Array Obj} {cur : Array Value} {ss ts : List α} (hl : ts.length = ss.length) (hbase : base ≤ g) (hb : w.heap[g]? = some (.cells cur e (0, 0)))
    (h1 : ss.length ≤ cap) (h2 : cap ≤ maxLen) (h3 : cur.size = cap * 1) :
    (sortWorld enc w g 0 n ts.toArray os).ownsRow base e 1 (.slice (some ⟨g, 0, none⟩) ss.length cap) ss.length (ts.map enc) := by
  unfold sortWorld
  have hg : g < w.heap.size := (Array.getElem?_eq_some_iff.1 hb).1
  have hh : (grow (putRow enc (Sort.ahead w n) g 0 ts.toArray) os).heap[g]? = some (.cells (putCells enc 0 ts.toArray cur) e (0, 0)) := by
    rw [heap_grow_old _ _ (by simpa using hg)]
    simp [putRow, mapBlock, Sort.ahead, Array.getElem?_modify, hb, onCells]
  exact ⟨by simp [hl], .inr ⟨g, cap, _, rfl, hbase, hh, h1, h2, by simp [putCells, h3], by rw [Nat.mul_one, ← hl]; exact take_put cur ts (by omega)⟩⟩
end Go.Proofs.Ytchhnjadnacniaa.So
