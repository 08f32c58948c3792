/- Insertion, no program in sight: what a list that is being sorted by exchanges of neighbours keeps. -/
import Derived.Test.YthiiicgibcgipaaSoA
namespace Go.Proofs.Ythiiicgibcgipaa.So
open Fl
set_option linter.unusedSimpArgs false

def ky (ys : List Nat) (i : Nat) : Nat := keyV (ys.getD i 0)
/-- the first i stand in order. -/
def Srt (i : Nat) (ys : List Nat) : Prop := ∀ a b, a < b → b < i → ky ys a ≤ ky ys b
/-- the first i + 1 stand in order, but for the one at k, which may have to go down. -/
def Ins (k i : Nat) (ys : List Nat) : Prop := ∀ a b, a < b → b ≤ i → b ≠ k → ky ys a ≤ ky ys b
def swp (ys : List Nat) (k : Nat) : List Nat := (ys.set k (ys.getD (k - 1) 0)).set (k - 1) (ys.getD k 0)
theorem swp_len (ys : List Nat) (k : Nat) : (swp ys k).length = ys.length := by unfold swp; simp
theorem swp_get {ys : List Nat} {k : Nat} (h0 : 0 < k) (hk : k < ys.length) (i : Nat) : (swp ys k).getD i 0 = if i = k then ys.getD (k - 1) 0 else if i = k - 1 then ys.getD k 0 else ys.getD i 0 := by
  unfold swp
  simp only [List.getD_eq_getElem?_getD, List.getElem?_set, List.length_set]
  by_cases h1 : i = k
  · subst h1
    rw [if_neg (by omega), if_pos rfl, if_pos (by omega), if_pos rfl]
    rfl
  · by_cases h2 : i = k - 1
    · subst h2
      rw [if_pos rfl, if_pos (by omega), if_neg (by omega), if_pos rfl]
      rfl
    · rw [if_neg (by omega), if_neg (by omega), if_neg h1, if_neg h2]
theorem swp_perm {ys : List Nat} {k : Nat} (hk : k < ys.length) : (swp ys k).Perm ys := by
  unfold swp
  have e1 : ys.getD (k - 1) 0 = ys[k - 1] := by rw [List.getD_eq_getElem?_getD, List.getElem?_eq_getElem (by omega)]; rfl
  have e2 : ys.getD k 0 = ys[k] := by rw [List.getD_eq_getElem?_getD, List.getElem?_eq_getElem hk]; rfl
  rw [e1, e2]
  exact List.set_set_perm hk (by omega)
theorem Srt.start (ys : List Nat) : Srt 1 ys := fun a b h1 h2 => by omega
theorem Srt.ins {i : Nat} {ys : List Nat} (h : Srt i ys) : Ins i i ys := fun a b h1 h2 h3 => h a b h1 (by omega)
theorem Ins.stop0 {i : Nat} {ys : List Nat} (h : Ins 0 i ys) : Srt (i + 1) ys := fun a b h1 h2 => h a b h1 (by omega) (by omega)
theorem Ins.stop {k i : Nat} {ys : List Nat} (h : Ins k i ys) (hk : k ≤ i) (h0 : 0 < k) (hle : ky ys (k - 1) ≤ ky ys k) : Srt (i + 1) ys := by
  intro a b h1 h2
  by_cases hb : b = k
  · subst hb
    by_cases ha : a = b - 1
    · subst ha; exact hle
    · exact Nat.le_trans (h a (b - 1) (by omega) (by omega) (by omega)) hle
  · exact h a b h1 (by omega) hb
theorem Ins.down {k i : Nat} {ys : List Nat} (h : Ins k i ys) (hk : k ≤ i) (hi : i < ys.length) (h0 : 0 < k) (hlt : ky ys k < ky ys (k - 1)) : Ins (k - 1) i (swp ys k) := by
  intro a b h1 h2 h3
  unfold ky at *
  rw [swp_get h0 (by omega), swp_get h0 (by omega)]
  by_cases hb : b = k
  · subst hb
    rw [if_pos rfl (c := b = b)]
    by_cases ha : a = b - 1
    · rw [if_neg (by omega), if_pos ha]; omega
    · rw [if_neg (by omega), if_neg ha]
      exact h a (b - 1) (by omega) (by omega) (by omega)
  · rw [if_neg hb, if_neg h3]
    by_cases ha : a = k
    · subst ha
      rw [if_pos rfl]
      exact h (a - 1) b (by omega) h2 hb
    · by_cases ha2 : a = k - 1
      · rw [if_neg ha, if_pos ha2]
        exact h k b (by omega) h2 hb
      · rw [if_neg ha, if_neg ha2]
        exact h a b h1 h2 hb
/-- when all stand in order: the list, every NaN the one, is the sorted one. -/
theorem Srt.all {l ys : List Nat} {n : Nat} (h : Srt n ys) (hn : n = ys.length) (hp : ys.Perm l) (hw : ∀ x ∈ l, x < 18446744073709551616) : ys.map cn = sortV l := by
  refine sortV_one hw (hp.map cn) ?_
  rw [List.pairwise_map, List.pairwise_iff_getElem]
  intro i j hi hj hij
  have := h i j hij (by omega)
  unfold ky at this
  rw [List.getD_eq_getElem?_getD, List.getD_eq_getElem?_getD, List.getElem?_eq_getElem hi, List.getElem?_eq_getElem hj] at this
  unfold leK
  have e : ∀ x, keyV (cn x) = keyV x := fun x => by unfold keyV; rw [cn_cn]
  rw [e, e]
  simpa using this
end Go.Proofs.Ythiiicgibcgipaa.So
