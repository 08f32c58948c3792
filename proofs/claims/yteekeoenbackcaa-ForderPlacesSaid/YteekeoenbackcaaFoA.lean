/- Numbers in order, no program in sight: the least and the greatest, what is kept between two, where a number stands. -/
import Derived.Test.YteekeoenbackcaaSoC
namespace Go.Proofs.Yteekeoenbackcaa.So
open Fl
set_option linter.unusedSimpArgs false

theorem cmp_lt0 (a b : Nat) : decide (cmpN a b < 0) = decide (a < b) := decide_eq_decide.2 (cmpN_neg a b)
theorem cmpN_pos (a b : Nat) : (0 < cmpN a b) ↔ b < a := by unfold cmpN; split <;> (try split) <;> omega
theorem cmp_gt0 (a b : Nat) : decide (0 < cmpN a b) = decide (b < a) := decide_eq_decide.2 (cmpN_pos a b)
theorem cmpN_zero (a b : Nat) : cmpN a b = 0 ↔ a = b := by unfold cmpN; split <;> (try split) <;> omega
theorem cmp_eq0 (a b : Nat) : (cmpN a b == 0) = decide (a = b) := by rw [Bool.eq_iff_iff]; simp [cmpN_zero]
theorem cmp_ne0 (a b : Nat) : (cmpN a b != 0) = !decide (a = b) := by rw [bne, cmp_eq0]
theorem cmpN_cases (a b : Nat) : cmpN a b = -1 ∨ cmpN a b = 0 ∨ cmpN a b = 1 := by unfold cmpN; split <;> (try split) <;> simp
theorem cmpN_neg' (a b : Nat) : cmpN b a = - cmpN a b := by unfold cmpN; split <;> split <;> (try split) <;> omega
theorem key_same {x y : Nat} (hx : lt64 x) (hy : lt64 y) : keyV x = keyV y ↔ cn x = cn y := key_inj (lt64_cn hx) (lt64_cn hy)
theorem same_key {x y : Nat} (hx : lt64 x) (hy : lt64 y) : sameB x y = decide (keyV x = keyV y) := by
  rw [Bool.eq_iff_iff, sameB_iff, decide_eq_true_iff, key_same hx hy]

/-- what is kept between two. -/
def clampV (x lo hi : Nat) : Nat :=
  if 9218868437227405312 < rg x ∨ 9218868437227405312 < rg lo ∨ 9218868437227405312 < rg hi ∨ keyV hi < keyV lo then 9221120237041090560
  else if keyV x < keyV lo then lo else if keyV hi < keyV x then hi else x
theorem clamp_nx {x lo hi : Nat} (h : 9218868437227405312 < rg x) : clampV x lo hi = 9221120237041090560 := if_pos (.inl h)
theorem clamp_nl {x lo hi : Nat} (h : 9218868437227405312 < rg lo) : clampV x lo hi = 9221120237041090560 := if_pos (.inr (.inl h))
theorem clamp_nh {x lo hi : Nat} (h : 9218868437227405312 < rg hi) : clampV x lo hi = 9221120237041090560 := if_pos (.inr (.inr (.inl h)))
theorem clamp_no {x lo hi : Nat} (h : keyV hi < keyV lo) : clampV x lo hi = 9221120237041090560 := if_pos (.inr (.inr (.inr h)))
theorem clamp_lo {x lo hi : Nat} (h1 : rg x ≤ 9218868437227405312) (h2 : rg lo ≤ 9218868437227405312) (h3 : rg hi ≤ 9218868437227405312) (h4 : keyV lo ≤ keyV hi) (h5 : keyV x < keyV lo) : clampV x lo hi = lo := by
  unfold clampV; rw [if_neg (by omega), if_pos h5]
theorem clamp_hi {x lo hi : Nat} (h1 : rg x ≤ 9218868437227405312) (h2 : rg lo ≤ 9218868437227405312) (h3 : rg hi ≤ 9218868437227405312) (h4 : keyV lo ≤ keyV hi) (h5 : keyV lo ≤ keyV x) (h6 : keyV hi < keyV x) : clampV x lo hi = hi := by
  unfold clampV; rw [if_neg (by omega), if_neg (by omega), if_pos h6]
theorem clamp_in {x lo hi : Nat} (h1 : rg x ≤ 9218868437227405312) (h2 : rg lo ≤ 9218868437227405312) (h3 : rg hi ≤ 9218868437227405312) (h4 : keyV lo ≤ keyV hi) (h5 : keyV lo ≤ keyV x) (h6 : keyV x ≤ keyV hi) : clampV x lo hi = x := by
  unfold clampV; rw [if_neg (by omega), if_neg (by omega), if_neg (by omega)]

/-- the number that comes last in a direction. -/
def pickV (way : Int) (o x : Nat) : Nat := if 0 < way * cmpN (keyV x) (keyV o) then x else o
def nanB' (x : Nat) : Bool := decide (9218868437227405312 < rg x)
def mostV (way : Int) (l : List Nat) : Nat := if l.any nanB' then 9221120237041090560 else l.foldl (pickV way) (l.getD 0 0)
def mostP (way : Int) (l : List Nat) (k : Nat) : Nat := (l.take k).foldl (pickV way) (l.getD 0 0)
theorem mostP_succ {way : Int} {l : List Nat} {k : Nat} (h : k < l.length) : mostP way l (k + 1) = pickV way (mostP way l k) l[k] := by
  unfold mostP
  rw [List.take_succ_eq_append_getElem h, List.foldl_append]; rfl
theorem most_nan {way : Int} {l : List Nat} {k : Nat} (h : k < l.length) (hn : 9218868437227405312 < rg l[k]) : mostV way l = 9221120237041090560 := by
  unfold mostV
  rw [if_pos]
  rw [List.any_eq_true]
  exact ⟨l[k], List.getElem_mem _, by unfold nanB'; simpa using hn⟩
theorem most_all {way : Int} {l : List Nat} (h : ∀ j, (hj : j < l.length) → rg l[j] ≤ 9218868437227405312) : mostV way l = mostP way l l.length := by
  unfold mostV
  rw [if_neg]
  · unfold mostP; rw [List.take_of_length_le (Nat.le_refl _)]
  · rw [Bool.not_eq_true, List.any_eq_false]
    intro x hx
    obtain ⟨i, hi, rfl⟩ := List.getElem_of_mem hx
    have := h i hi
    unfold nanB'; simpa using this
theorem pick_lt {way : Int} {o x : Nat} (h : decide (0 < way * cmpN (keyV x) (keyV o)) = true) : pickV way o x = x := if_pos (of_decide_eq_true h)
theorem pick_ge {way : Int} {o x : Nat} (h : decide (0 < way * cmpN (keyV x) (keyV o)) = false) : pickV way o x = o := if_neg (of_decide_eq_false h)
theorem mostP_lt {way : Int} {l : List Nat} (h : ∀ x ∈ l, x < 18446744073709551616) (k : Nat) : mostP way l k < 18446744073709551616 := by
  unfold mostP
  have h0 : l.getD 0 0 < 18446744073709551616 := by
    rw [List.getD_eq_getElem?_getD]
    cases hj : l[0]? with
    | none => show (0 : Nat) < _; omega
    | some x => exact h x (List.mem_of_getElem? hj)
  have : ∀ (m : List Nat) (o : Nat), (∀ x ∈ m, x < 18446744073709551616) → o < 18446744073709551616 → m.foldl (pickV way) o < 18446744073709551616 := by
    intro m
    induction m with
    | nil => intro o _ ho; exact ho
    | cons x m ih =>
      intro o hm ho
      refine ih _ (fun y hy => hm y (List.mem_cons_of_mem _ hy)) ?_
      unfold pickV
      split
      · exact hm x (List.mem_cons_self ..)
      · exact ho
  exact this _ _ (fun x hx => h x (List.mem_of_mem_take hx)) h0
theorem mostV_lt {way : Int} {l : List Nat} (h : ∀ x ∈ l, x < 18446744073709551616) : mostV way l < 18446744073709551616 := by
  unfold mostV
  split
  · omega
  · have := mostP_lt (way := way) h l.length
    unfold mostP at this
    rwa [List.take_of_length_le (Nat.le_refl _)] at this

/-- do keys rise? -/
def risB (l : List Nat) : Bool := (List.range (l.length - 1)).all fun i => decide (ky l i ≤ ky l (i + 1))
theorem ris_true {l : List Nat} (h : ∀ i, i + 1 < l.length → ky l i ≤ ky l (i + 1)) : risB l = true := by
  unfold risB
  rw [List.all_eq_true]
  intro i hi
  rw [List.mem_range] at hi
  exact decide_eq_true (h i (by omega))
theorem ris_false {l : List Nat} {i : Nat} (hi : i + 1 < l.length) (h : ky l (i + 1) < ky l i) : risB l = false := by
  unfold risB
  rw [List.all_eq_false]
  exact ⟨i, List.mem_range.2 (by omega), by simp; omega⟩
theorem ris_get {l : List Nat} (h : risB l = true) : ∀ d a, a + d < l.length → ky l a ≤ ky l (a + d) := by
  unfold risB at h
  rw [List.all_eq_true] at h
  intro d
  induction d with
  | zero => intro a _; exact Nat.le_refl _
  | succ d ih =>
    intro a ha
    have h1 := ih a (by omega)
    have h2 := h (a + d) (List.mem_range.2 (by omega))
    have h3 := of_decide_eq_true h2
    rw [← Nat.add_assoc]
    omega
/-- the first place whose number is not ahead of x. -/
def lowB (l : List Nat) (x : Nat) : Nat := l.findIdx fun y => decide (keyV x ≤ keyV y)
theorem low_one {l : List Nat} {x k : Nat} (hk : k ≤ l.length) (h1 : ∀ j, j < k → ky l j < keyV x) (h2 : k < l.length → keyV x ≤ ky l k) : lowB l x = k := by
  unfold lowB
  rcases Nat.lt_or_ge k l.length with h | h
  · rw [List.findIdx_eq h]
    have := h2 h
    unfold ky at this h1
    rw [List.getD_eq_getElem?_getD, List.getElem?_eq_getElem h] at this
    refine ⟨by simpa using this, fun j hj => ?_⟩
    have := h1 j hj
    rw [List.getD_eq_getElem?_getD, List.getElem?_eq_getElem (by omega)] at this
    simpa using this
  · obtain rfl : k = l.length := by omega
    rw [List.findIdx_eq_length]
    intro y hy
    obtain ⟨j, hj, rfl⟩ := List.getElem_of_mem hy
    have := h1 j hj
    unfold ky at this
    rw [List.getD_eq_getElem?_getD, List.getElem?_eq_getElem hj] at this
    simpa using this
/-- what is told of where x stands. -/
def metB (l : List Nat) (x : Nat) : Bool := decide (lowB l x < l.length) && decide (ky l (lowB l x) = keyV x)
end Go.Proofs.Yteekeoenbackcaa.So
