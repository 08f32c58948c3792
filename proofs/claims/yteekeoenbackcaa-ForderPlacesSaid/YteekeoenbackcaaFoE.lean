/- Numbers in order, no program in sight: the least and the greatest are the ends of what is sorted; those of two lists together; how often a number is there. -/
import Derived.Test.YteekeoenbackcaaFoA
namespace Go.Proofs.Yteekeoenbackcaa.So
open Fl
set_option linter.unusedSimpArgs false

theorem pick_min (o x : Nat) : pickV (-1) o x = if keyV x < keyV o then x else o := by
  unfold pickV
  have := cmpN_neg (keyV x) (keyV o)
  by_cases h : keyV x < keyV o
  · rw [if_pos h, if_pos (by omega)]
  · rw [if_neg h, if_neg (by omega)]
theorem pick_max (o x : Nat) : pickV 1 o x = if keyV o < keyV x then x else o := by
  unfold pickV
  have := cmpN_pos (keyV x) (keyV o)
  by_cases h : keyV o < keyV x
  · rw [if_pos h, if_pos (by omega)]
  · rw [if_neg h, if_neg (by omega)]
theorem most_mem {way : Int} {l : List Nat} (h0 : 0 < l.length) : ∀ k, k ≤ l.length → mostP way l k ∈ l := by
  intro k
  induction k with
  | zero =>
    intro _
    show l.getD 0 0 ∈ l
    rw [List.getD_eq_getElem?_getD, List.getElem?_eq_getElem h0]
    exact List.getElem_mem _
  | succ k ih =>
    intro hk
    rw [mostP_succ (by omega)]
    unfold pickV
    split
    · exact List.getElem_mem _
    · exact ih (by omega)
theorem min_le {l : List Nat} : ∀ k, k ≤ l.length → ∀ j, (hj : j < l.length) → j < k → keyV (mostP (-1) l k) ≤ keyV l[j] := by
  intro k
  induction k with
  | zero => intro _ j _ hj; omega
  | succ k ih =>
    intro hk j hj hjk
    rw [mostP_succ (by omega), pick_min]
    by_cases e : j = k
    · subst e; split <;> omega
    · have := ih (by omega) j hj (by omega)
      split <;> omega
theorem max_ge {l : List Nat} : ∀ k, k ≤ l.length → ∀ j, (hj : j < l.length) → j < k → keyV l[j] ≤ keyV (mostP 1 l k) := by
  intro k
  induction k with
  | zero => intro _ j _ hj; omega
  | succ k ih =>
    intro hk j hj hjk
    rw [mostP_succ (by omega), pick_max]
    by_cases e : j = k
    · subst e; split <;> omega
    · have := ih (by omega) j hj (by omega)
      split <;> omega
theorem key_cn (x : Nat) : keyV (cn x) = keyV x := by unfold keyV; rw [cn_cn]
/-- a NaN's key is the greatest. -/
theorem key_nan {x : Nat} (h : 9218868437227405312 < rg x) : keyV x = 18444492273895866368 := by
  unfold keyV; rw [cn_nan h]; decide +kernel
theorem key_num {x : Nat} (hx : lt64 x) (h : rg x ≤ 9218868437227405312) : keyV x < 18444492273895866368 := by
  unfold keyV
  rw [cn_num h, keyW_val hx]
  split <;> omega
theorem key_isnan {x : Nat} (hx : lt64 x) : 9218868437227405312 < rg x ↔ keyV x = 18444492273895866368 := by
  constructor
  · exact key_nan
  · intro h
    rcases Nat.lt_or_ge 9218868437227405312 (rg x) with g | g
    · exact g
    · have := key_num hx g; omega
theorem most_nans {way : Int} {l : List Nat} (h : l.any nanB' = true) : mostV way l = 9221120237041090560 := if_pos h
theorem most_nums {way : Int} {l : List Nat} (h : l.any nanB' = false) : mostV way l = mostP way l l.length := by
  unfold mostV mostP
  rw [h, if_neg (by decide), List.take_of_length_le (Nat.le_refl _)]
theorem any_nan {l : List Nat} : l.any nanB' = true ↔ ∃ x ∈ l, 9218868437227405312 < rg x := by
  rw [List.any_eq_true]
  unfold nanB'
  simp
theorem no_nan {l : List Nat} (h : l.any nanB' = false) : ∀ x ∈ l, rg x ≤ 9218868437227405312 := by
  intro x hx
  rw [List.any_eq_false] at h
  have := h x hx
  unfold nanB' at this
  simpa using this
/-- whose key is least among those of a list, and stands in it, has the least key. -/
theorem key_least {l m : List Nat} {a b : Nat} (ha : ∃ x ∈ l, keyV x = keyV a) (hb : ∃ x ∈ m, keyV x = keyV b) (h1 : ∀ x ∈ m, keyV a ≤ keyV x) (h2 : ∀ x ∈ l, keyV b ≤ keyV x) : keyV a = keyV b := by
  obtain ⟨x, hx, ex⟩ := ha
  obtain ⟨y, hy, ey⟩ := hb
  have := h1 y hy
  have := h2 x hx
  omega
theorem sortV_get {l : List Nat} {i : Nat} (hi : i < (sortV l).length) : ∃ x ∈ l, cn x = (sortV l)[i] := by
  have := (sortV_perm l).mem_iff.1 (List.getElem_mem hi)
  obtain ⟨y, hy, e⟩ := List.mem_map.1 this
  exact ⟨y, hy, e⟩
theorem sortV_rise {l : List Nat} {i j : Nat} (hj : j < (sortV l).length) (hij : i ≤ j) : keyV ((sortV l)[i]'(by omega)) ≤ keyV (sortV l)[j] := by
  rcases Nat.lt_or_ge i j with h | h
  · have := List.pairwise_iff_getElem.1 (sortV_sorted l) i j (by omega) hj h
    unfold leK at this
    simpa using this
  · have : i = j := by omega
    subst this
    exact Nat.le_refl _
theorem sortV_has {l : List Nat} {x : Nat} (hx : x ∈ l) : ∃ i, ∃ hi : i < (sortV l).length, (sortV l)[i] = cn x := by
  have := (sortV_perm l).mem_iff.2 (List.mem_map.2 ⟨x, hx, rfl⟩)
  obtain ⟨i, hi, e⟩ := List.getElem_of_mem this
  exact ⟨i, hi, e⟩
/-- the ends of what is sorted. -/
theorem ends_last {l : List Nat} (hw : ∀ x ∈ l, lt64 x) (h0 : 0 < l.length) : (9218868437227405312 < rg ((sortV l).getD (l.length - 1) 0)) ↔ l.any nanB' = true := by
  have hl := sortV_len l
  have hg : (sortV l).getD (l.length - 1) 0 = (sortV l)[l.length - 1]'(by omega) := by rw [List.getD_eq_getElem?_getD, List.getElem?_eq_getElem (by omega)]; rfl
  rw [hg, any_nan]
  constructor
  · intro h
    obtain ⟨x, hx, e⟩ := sortV_get (l := l) (i := l.length - 1) (by omega)
    exact ⟨x, hx, by rw [← e] at h; rwa [cn_isnan] at h⟩
  · rintro ⟨x, hx, hn⟩
    obtain ⟨i, hi, e⟩ := sortV_has hx
    have hr := sortV_rise (l := l) (i := i) (j := l.length - 1) (by omega) (by omega)
    rw [e, key_cn, key_nan hn] at hr
    have hlt : lt64 ((sortV l)[l.length - 1]'(by omega)) := sortV_lt hw _ (List.getElem_mem _)
    rcases Nat.lt_or_ge 9218868437227405312 (rg ((sortV l)[l.length - 1]'(by omega))) with g | g
    · exact g
    · have := key_num hlt g; omega
theorem ends_min {l : List Nat} (hw : ∀ x ∈ l, lt64 x) (h0 : 0 < l.length) (hn : l.any nanB' = false) : sameB (mostV (-1) l) ((sortV l).getD 0 0) = true := by
  have hl := sortV_len l
  have hg : (sortV l).getD 0 0 = (sortV l)[0]'(by omega) := by rw [List.getD_eq_getElem?_getD, List.getElem?_eq_getElem (by omega)]; rfl
  have hm := most_mem (way := -1) h0 l.length (Nat.le_refl _)
  rw [hg, most_nums hn, same_key (hw _ hm) (sortV_lt hw _ (List.getElem_mem _))]
  refine decide_eq_true (key_least (l := l) (m := sortV l) ⟨_, hm, rfl⟩ ⟨_, List.getElem_mem _, rfl⟩ (fun x hx => ?_) (fun x hx => ?_))
  · obtain ⟨y, hy, rfl⟩ := List.mem_map.1 ((sortV_perm l).mem_iff.1 hx)
    obtain ⟨j, hj, rfl⟩ := List.getElem_of_mem hy
    rw [key_cn]
    exact min_le l.length (Nat.le_refl _) j hj hj
  · obtain ⟨i, hi, e⟩ := sortV_has hx
    have := sortV_rise (l := l) (i := 0) hi (by omega)
    rw [e, key_cn] at this
    exact this
theorem ends_max {l : List Nat} (hw : ∀ x ∈ l, lt64 x) (h0 : 0 < l.length) (hn : l.any nanB' = false) : sameB (mostV 1 l) ((sortV l).getD (l.length - 1) 0) = true := by
  have hl := sortV_len l
  have hg : (sortV l).getD (l.length - 1) 0 = (sortV l)[l.length - 1]'(by omega) := by rw [List.getD_eq_getElem?_getD, List.getElem?_eq_getElem (by omega)]; rfl
  have hm := most_mem (way := 1) h0 l.length (Nat.le_refl _)
  rw [hg, most_nums hn, same_key (hw _ hm) (sortV_lt hw _ (List.getElem_mem _))]
  refine decide_eq_true (Nat.le_antisymm ?_ ?_)
  · obtain ⟨i, hi, e⟩ := sortV_has hm
    have := sortV_rise (l := l) (i := i) (j := l.length - 1) (by omega) (by omega)
    rw [e, key_cn] at this
    exact this
  · obtain ⟨x, hx, e⟩ := sortV_get (l := l) (i := l.length - 1) (by omega)
    obtain ⟨j, hj, rfl⟩ := List.getElem_of_mem hx
    rw [← e, key_cn]
    exact max_ge l.length (Nat.le_refl _) j hj hj
/-- the least of two lists together. -/
theorem most_lt64 {way : Int} {l : List Nat} (hw : ∀ x ∈ l, lt64 x) : lt64 (mostV way l) := mostV_lt hw
theorem join_any (a b : List Nat) (way : Int) (ha : 0 < a.length) (hb : 0 < b.length) (hwa : ∀ x ∈ a, lt64 x) (hwb : ∀ x ∈ b, lt64 x) : ([mostV way a, mostV way b]).any nanB' = (a ++ b).any nanB' := by
  have key : ∀ l : List Nat, 0 < l.length → (∀ x ∈ l, lt64 x) → nanB' (mostV way l) = l.any nanB' := by
    intro l h0 hw
    cases hn : l.any nanB'
    · rw [most_nums hn]
      have := no_nan hn _ (most_mem (way := way) h0 l.length (Nat.le_refl _))
      unfold nanB'
      exact decide_eq_false (by omega)
    · rw [most_nans hn]; decide
  rw [List.any_append, ← key a ha hwa, ← key b hb hwb]
  simp
theorem join_same (a b : List Nat) (way : Int) (hway : way = 1 ∨ way = -1) (ha : 0 < a.length) (hb : 0 < b.length) (hwa : ∀ x ∈ a, lt64 x) (hwb : ∀ x ∈ b, lt64 x) : sameB (mostV way (a ++ b)) (mostV way [mostV way a, mostV way b]) = true := by
  have hwab : ∀ x ∈ a ++ b, lt64 x := fun x hx => by
    rcases List.mem_append.1 hx with g | g
    · exact hwa x g
    · exact hwb x g
  have hw2 : ∀ x ∈ [mostV way a, mostV way b], lt64 x := fun x hx => by
    simp at hx
    rcases hx with rfl | rfl
    · exact most_lt64 hwa
    · exact most_lt64 hwb
  have hj := join_any a b way ha hb hwa hwb
  cases hn : (a ++ b).any nanB'
  · rw [hn] at hj
    rw [most_nums hn, most_nums hj]
    have hna : a.any nanB' = false := by rw [List.any_append, Bool.or_eq_false_iff] at hn; exact hn.1
    have hnb : b.any nanB' = false := by rw [List.any_append, Bool.or_eq_false_iff] at hn; exact hn.2
    rw [most_nums hna, most_nums hnb] at *
    have hab0 : 0 < (a ++ b).length := by rw [List.length_append]; omega
    have m1 := most_mem (way := way) hab0 _ (Nat.le_refl _)
    have m2 := most_mem (way := way) (l := [mostP way a a.length, mostP way b b.length]) (by simp) _ (Nat.le_refl _)
    have ma := most_mem (way := way) ha _ (Nat.le_refl _)
    have mb := most_mem (way := way) hb _ (Nat.le_refl _)
    rw [same_key (hwab _ m1) (hw2 _ m2)]
    have m2' : mostP way [mostP way a a.length, mostP way b b.length] [mostP way a a.length, mostP way b b.length].length ∈ a ++ b := by
      rw [List.mem_append]
      simp only [List.mem_cons, List.not_mem_nil, or_false] at m2
      rcases m2 with e | e
      · left; rw [e]; exact ma
      · right; rw [e]; exact mb
    refine decide_eq_true ?_
    generalize hM : mostP way [mostP way a a.length, mostP way b b.length] [mostP way a a.length, mostP way b b.length].length = M at *
    obtain ⟨i, hi, ei⟩ := List.getElem_of_mem m2'
    rcases hway with rfl | rfl
    · have h1 := max_ge (l := a ++ b) _ (Nat.le_refl _) i hi hi
      rw [ei] at h1
      have ga := max_ge (l := [mostP 1 a a.length, mostP 1 b b.length]) _ (Nat.le_refl _) 0 (by simp) (by simp)
      have gb := max_ge (l := [mostP 1 a a.length, mostP 1 b b.length]) _ (Nat.le_refl _) 1 (by simp) (by simp)
      rw [hM] at ga gb
      simp only [List.getElem_cons_zero, List.getElem_cons_succ] at ga gb
      rcases List.mem_append.1 m1 with g | g
      · obtain ⟨j, hj1, ej⟩ := List.getElem_of_mem g
        have := max_ge (l := a) _ (Nat.le_refl _) j hj1 hj1
        rw [ej] at this
        omega
      · obtain ⟨j, hj1, ej⟩ := List.getElem_of_mem g
        have := max_ge (l := b) _ (Nat.le_refl _) j hj1 hj1
        rw [ej] at this
        omega
    · have h1 := min_le (l := a ++ b) _ (Nat.le_refl _) i hi hi
      rw [ei] at h1
      have ga := min_le (l := [mostP (-1) a a.length, mostP (-1) b b.length]) _ (Nat.le_refl _) 0 (by simp) (by simp)
      have gb := min_le (l := [mostP (-1) a a.length, mostP (-1) b b.length]) _ (Nat.le_refl _) 1 (by simp) (by simp)
      rw [hM] at ga gb
      simp only [List.getElem_cons_zero, List.getElem_cons_succ] at ga gb
      rcases List.mem_append.1 m1 with g | g
      · obtain ⟨j, hj1, ej⟩ := List.getElem_of_mem g
        have := min_le (l := a) _ (Nat.le_refl _) j hj1 hj1
        rw [ej] at this
        omega
      · obtain ⟨j, hj1, ej⟩ := List.getElem_of_mem g
        have := min_le (l := b) _ (Nat.le_refl _) j hj1 hj1
        rw [ej] at this
        omega
  · rw [hn] at hj
    rw [most_nans hn, most_nans hj]; decide
end Go.Proofs.Yteekeoenbackcaa.So
