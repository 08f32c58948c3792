/- The reference's choice among all zones is the program's among the full ones. -/
import Derived.Test.YtchhnjadnacniaaCmV
import Derived.Test.YtchhnjadnacniaaCmS
namespace Go.Proofs.Ytchhnjadnacniaa.Cm
set_option linter.unusedSimpArgs false
set_option linter.unusedVariables false
open Go.RowKit Rk
def rankA (g : Int → List Int) (hz size now : Int) (zs : List RoD) : List Nat := rankV ((zs.map (zoneV g hz size)).map (wV now))
theorem idxF_lt (zs : List RoD) (size : Int) (k : Nat) : (idxF zs size k).Pairwise (· < ·) := List.pairwise_lt_range.filter _
theorem idxF_le {zs : List RoD} {size : Int} {k p q : Nat} (hp : p < (idxF zs size k).length) (hq : q < (idxF zs size k).length) (h : p ≤ q) : (idxF zs size k)[p] ≤ (idxF zs size k)[q] := by
  rcases Nat.lt_or_ge p q with h1 | h1
  · exact Nat.le_of_lt (List.pairwise_iff_getElem.1 (idxF_lt zs size k) p q hp hq h1)
  · obtain rfl : p = q := by omega
    exact Nat.le_refl _
theorem rn_le {zs : List RoD} {size : Int} (h : ¬ nextB zs size) {i : Nat} (hi : i < zs.length) : (rn zs i : Int) ≤ size := by
  rw [rn_at hi rfl]
  rcases Int.lt_or_le size (zs[i].n : Int) with h1 | h1
  · exact absurd (.inr ⟨zs[i], List.getElem_mem _, h1⟩) h
  · exact h1
theorem gt0_idx {g : Int → List Int} {hz size now : Int} {zs : List RoD} {p : Nat} (hp : p < (idxF zs size zs.length).length) : gt0 ((fullZ g hz size zs zs.length).map (wV now)) p = gt0 ((zs.map (zoneV g hz size)).map (wV now)) (idxF zs size zs.length)[p] := by
  have hi : (idxF zs size zs.length)[p] < zs.length := (mem_idxF.1 (List.getElem_mem hp)).1
  unfold gt0
  rw [List.getD_eq_getElem?_getD, List.getD_eq_getElem?_getD, List.getElem?_eq_getElem (by unfold fullZ; rw [List.length_map, List.length_map]; exact hp), List.getElem?_eq_getElem (by rw [List.length_map, List.length_map]; exact hi)]
  simp only [Option.getD_some]
  unfold fullZ
  rw [List.getElem_map, List.getElem_map, List.getElem_map, zn_at hi]
theorem full_len {g : Int → List Int} {hz size now : Int} {zs : List RoD} : ((fullZ g hz size zs zs.length).map (wV now)).length = (idxF zs size zs.length).length := by unfold fullZ; rw [List.length_map, List.length_map]
theorem mem_idx_get {zs : List RoD} {size : Int} {i : Nat} (h1 : i < zs.length) (h2 : size ≤ (rn zs i : Int)) : ∃ p, ∃ hp : p < (idxF zs size zs.length).length, (idxF zs size zs.length)[p] = i := by
  obtain ⟨p, hp, e⟩ := List.getElem_of_mem (mem_idxF.2 ⟨h1, h2⟩)
  exact ⟨p, hp, e⟩
theorem rankA_lt {g : Int → List Int} {hz size now : Int} {zs : List RoD} {i : Nat} (h : i ∈ rankA g hz size now zs) : i < zs.length := by
  have := (mem_rankV.1 h).1
  rwa [List.length_map, List.length_map] at this
theorem rfind_none {g : Int → List Int} {hz size now : Int} {zs : List RoD} (hno : ∀ i ∈ rankA g hz size now zs, (rn zs i : Int) ≠ size) (hnb : ¬ nextB zs size) : rankF g hz size now zs = [] := by
  rw [List.eq_nil_iff_forall_not_mem]
  intro q hq
  obtain ⟨hq1, hq2⟩ := mem_rankV.1 hq
  rw [full_len] at hq1
  rw [gt0_idx hq1] at hq2
  have hm := mem_idxF.1 (List.getElem_mem hq1)
  refine hno _ (mem_rankV.2 ⟨by rw [List.length_map, List.length_map]; exact hm.1, hq2⟩) ?_
  have := rn_le hnb hm.1
  omega
theorem rfind_some {g : Int → List Int} {hz size now : Int} {zs : List RoD} {k : Nat} (hk : k < (rankA g hz size now zs).length) (hP : (rn zs (rankA g hz size now zs)[k] : Int) = size)
    (hno : ∀ j, (hj : j < (rankA g hz size now zs).length) → j < k → (rn zs (rankA g hz size now zs)[j] : Int) ≠ size) (hnb : ¬ nextB zs size) : ∃ q rs, rankF g hz size now zs = q :: rs ∧ (idxF zs size zs.length)[q]? = some (rankA g hz size now zs)[k] := by
  obtain ⟨i, hi⟩ : ∃ i, (rankA g hz size now zs)[k] = i := ⟨_, rfl⟩
  rw [hi] at hP ⊢
  have him : i ∈ rankA g hz size now zs := by rw [← hi]; exact List.getElem_mem _
  obtain ⟨_, hi0⟩ := mem_rankV.1 him
  have hin := rankA_lt him
  obtain ⟨p, hp, hpi⟩ := mem_idx_get hin (Int.le_of_eq hP.symm)
  have hpm : p ∈ rankF g hz size now zs := mem_rankV.2 ⟨by rw [full_len]; exact hp, by rw [gt0_idx hp, hpi]; exact hi0⟩
  have hso := rankV_sorted ((fullZ g hz size zs zs.length).map (wV now))
  cases hr : rankF g hz size now zs with
  | nil => rw [hr] at hpm; simp at hpm
  | cons q rs =>
    refine ⟨q, rs, rfl, ?_⟩
    have hqm : q ∈ rankF g hz size now zs := by rw [hr]; simp
    obtain ⟨hq1, hq2⟩ := mem_rankV.1 hqm
    rw [full_len] at hq1
    rw [List.getElem?_eq_getElem hq1]
    rw [gt0_idx hq1] at hq2
    obtain ⟨j, hj⟩ : ∃ j, (idxF zs size zs.length)[q] = j := ⟨_, rfl⟩
    have hjm := mem_idxF.1 (List.getElem_mem hq1)
    rw [hj] at hjm hq2 ⊢
    have hle : leR ((fullZ g hz size zs zs.length).map (wV now)) q p = true := by
      unfold rankF at hr hpm
      rw [hr] at hso hpm
      rcases List.mem_cons.1 hpm with rfl | h
      · unfold leR; simp
      · exact (List.pairwise_cons.1 hso).1 p h
    have hjR : j ∈ rankA g hz size now zs := mem_rankV.2 ⟨by rw [List.length_map, List.length_map]; exact hjm.1, hq2⟩
    obtain ⟨m, hm, hmj⟩ := List.getElem_of_mem hjR
    have hmk : k ≤ m := by
      rcases Nat.lt_or_ge m k with h | h
      · exfalso
        refine hno m hm h ?_
        rw [hmj]
        have := rn_le hnb hjm.1
        omega
      · exact h
    rcases Nat.lt_or_ge k m with h | h
    · have hle2 : leR ((zs.map (zoneV g hz size)).map (wV now)) i j = true := by
        have hs := rankV_sorted ((zs.map (zoneV g hz size)).map (wV now))
        have := List.pairwise_iff_getElem.1 hs k m hk hm h
        rw [← hi, ← hmj]; exact this
      unfold leR at hle hle2
      rw [gt0_idx hq1, gt0_idx hp, hj, hpi] at hle
      have a := of_decide_eq_true hle
      have c := of_decide_eq_true hle2
      have mono : q ≤ p → j ≤ i := fun h => by rw [← hj, ← hpi]; exact idxF_le hq1 hp h
      congr 1
      rcases a with a | ⟨a, a2⟩
      · rcases c with c | ⟨c, c2⟩ <;> omega
      · have := mono a2
        rcases c with c | ⟨c, c2⟩ <;> omega
    · obtain rfl : k = m := by omega
      rw [← hmj, ← hi]
end Go.Proofs.Ytchhnjadnacniaa.Cm
