/- Numbers in order, no program in sight: where a number stands in what is sorted, and how often it is there. -/
import Derived.Test.YteekeoenbackcaaFoE
namespace Go.Proofs.Yteekeoenbackcaa.So
open Fl
set_option linter.unusedSimpArgs false

theorem ky_get {l : List Nat} {i : Nat} (hi : i < l.length) : ky l i = keyV l[i] := by
  unfold ky
  rw [List.getD_eq_getElem?_getD, List.getElem?_eq_getElem hi]; rfl
theorem ky_map {l m : List Nat} (h : l.map cn = m) {i : Nat} (hi : i < l.length) : ky l i = ky m i := by
  subst h
  rw [ky_get hi, ky_get (by rw [List.length_map]; exact hi), List.getElem_map, key_cn]
theorem ris_sorted {rs l : List Nat} (h : rs.map cn = sortV l) : risB rs = true := by
  refine ris_true fun i hi => ?_
  have hl : rs.length = (sortV l).length := by rw [← h, List.length_map]
  rw [ky_map h (by omega), ky_map h hi, ky_get (by omega), ky_get (by omega)]
  exact sortV_rise (by omega) (by omega)
theorem low_le (l : List Nat) (x : Nat) : lowB l x ≤ l.length := List.findIdx_le_length
theorem low_spec {l : List Nat} {x : Nat} (h : risB l = true) {i : Nat} (hi : i < l.length) : i < lowB l x ↔ ky l i < keyV x := by
  constructor
  · intro hlt
    have := List.not_of_lt_findIdx (p := fun y => decide (keyV x ≤ keyV y)) (xs := l) (i := i) hlt
    rw [ky_get hi]
    simpa using this
  · intro hlt
    rcases Nat.lt_or_ge i (lowB l x) with g | g
    · exact g
    · exfalso
      have hf : lowB l x < l.length := by omega
      have h1 := List.findIdx_getElem (p := fun y => decide (keyV x ≤ keyV y)) (xs := l) (w := hf)
      have h2 := ris_get h (i - lowB l x) (lowB l x) (by omega)
      rw [show lowB l x + (i - lowB l x) = i by omega, ky_get hf] at h2
      have h3 : keyV x ≤ keyV (l[lowB l x]'hf) := of_decide_eq_true h1
      omega
theorem met_spec {rs l : List Nat} {x : Nat} (hw : ∀ y ∈ l, lt64 y) (hx : lt64 x) (hr : risB rs = true) (hp : rs.Perm l) : metB rs x = l.any fun y => sameB y x := by
  rw [Bool.eq_iff_iff, List.any_eq_true]
  unfold metB
  rw [Bool.and_eq_true, decide_eq_true_iff, decide_eq_true_iff]
  constructor
  · rintro ⟨h1, h2⟩
    rw [ky_get h1] at h2
    have hm := hp.mem_iff.1 (List.getElem_mem h1)
    exact ⟨_, hm, by rw [same_key (hw _ hm) hx]; exact decide_eq_true h2⟩
  · rintro ⟨y, hy, hs⟩
    rw [same_key (hw _ hy) hx, decide_eq_true_iff] at hs
    obtain ⟨i, hi, e⟩ := List.getElem_of_mem (hp.mem_iff.2 hy)
    have hky : ky rs i = keyV x := by rw [ky_get hi, e, hs]
    have hle : lowB rs x ≤ i := by
      have := low_spec (x := x) hr hi
      rcases Nat.lt_or_ge i (lowB rs x) with g | g
      · have := this.1 g; omega
      · exact g
    have hlt : lowB rs x < rs.length := by omega
    refine ⟨hlt, ?_⟩
    have h1 := ris_get hr (i - lowB rs x) (lowB rs x) (by omega)
    rw [show lowB rs x + (i - lowB rs x) = i by omega] at h1
    have h2 := low_spec (x := x) hr hlt
    have h3 : ¬ ky rs (lowB rs x) < keyV x := fun hh => by have := h2.2 hh; omega
    omega
/-- how often a number is there. -/
def cntV (l : List Nat) (v k : Nat) : Nat := (l.take k).countP fun y => sameB y v
theorem cnt_succ {l : List Nat} {v k : Nat} (h : k < l.length) : cntV l v (k + 1) = cntV l v k + if sameB (l.getD k 0) v then 1 else 0 := by
  unfold cntV
  rw [List.take_succ_eq_append_getElem h, List.countP_append, List.getD_eq_getElem?_getD, List.getElem?_eq_getElem h]
  simp [List.countP_cons]
theorem cnt_le (l : List Nat) (v k : Nat) : cntV l v k ≤ k := by
  unfold cntV
  exact Nat.le_trans List.countP_le_length (by rw [List.length_take]; omega)
theorem same_cn_l (y v : Nat) : sameB (cn y) v = sameB y v := by unfold sameB; rw [cn_cn]
theorem cnt_sort (l : List Nat) (v : Nat) : cntV (sortV l) v l.length = cntV l v l.length := by
  unfold cntV
  rw [List.take_of_length_le (Nat.le_refl _), List.take_of_length_le (by rw [sortV_len]; exact Nat.le_refl _), (sortV_perm l).countP_eq, List.countP_map]
  congr 1
  funext y
  exact same_cn_l y v
theorem sort_turn {l : List Nat} (hw : ∀ x ∈ l, lt64 x) (k : Nat) : sortV (l.drop k ++ l.take k) = sortV l := by
  have hp : (l.drop k ++ l.take k).Perm l := by
    have := (List.perm_append_comm (l₁ := l.drop k) (l₂ := l.take k))
    rwa [List.take_append_drop] at this
  exact (sortV_perm_eq (l := l) hw hp.symm).symm
theorem sortV_asc {l : List Nat} {j : Nat} (hj : j + 1 < l.length) : ky (sortV l) j ≤ ky (sortV l) (j + 1) := by
  have hl := sortV_len l
  rw [ky_get (by omega), ky_get (by omega)]
  exact sortV_rise (by omega) (by omega)
end Go.Proofs.Yteekeoenbackcaa.So
