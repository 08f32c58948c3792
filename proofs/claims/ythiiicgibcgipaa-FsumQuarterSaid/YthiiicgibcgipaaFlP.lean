/- Plain facts: whole numbers sorted as words are the words of the sorted whole numbers. -/
import Derived.Test.YthiiicgibcgipaaFlR
import Derived.Test.YthiiicgibcgipaaSoA
namespace Go.Proofs.Ythiiicgibcgipaa.Fl
set_option linter.unusedSimpArgs false

theorem rg_F {x y : Int} (hx : x.natAbs ≤ 1000000) (hy : y.natAbs ≤ 1000000) (h : x.natAbs ≤ y.natAbs) : rg (F x) ≤ rg (F y) := by
  rcases Nat.lt_or_ge (rg (F y)) (rg (F x)) with g | g
  · have := un_lt g
    rw [F_un (n := x) (by omega), F_un (n := y) (by omega)] at this
    exact absurd (Nat.mul_le_mul_right U1 h) (by omega)
  · exact g
theorem key_F {x y : Int} (hx : x.natAbs ≤ 1000000) (hy : y.natAbs ≤ 1000000) (h : x ≤ y) : keyV (F x) ≤ keyV (F y) := by
  have fx := F_fin (n := x) (by omega)
  have fy := F_fin (n := y) (by omega)
  have lx : lt64 (F x) := F_lt x
  have ly : lt64 (F y) := F_lt y
  unfold keyV
  rw [cn_num (by omega), cn_num (by omega), keyW_val lx, keyW_val ly, F_ng (n := x) (by omega), F_ng (n := y) (by omega)]
  by_cases a : x < 0
  · by_cases b : y < 0
    · have := rg_F hy hx (by omega)
      simp [a, b]; omega
    · simp [a, b]; omega
  · have := rg_F hx hy (by omega)
    have b : ¬ y < 0 := by omega
    simp [a, b]; omega

open Go.Proofs.Ythiiicgibcgipaa.So in
/-- the sorted words of whole numbers. -/
theorem sort_F {l : List Int} (hb : ∀ x ∈ l, x.natAbs ≤ 1000000) : ∃ L : List Int, sortV (l.map F) = L.map F ∧ L.Perm l ∧ ∀ i j, i ≤ j → j < l.length → L.getD i 0 ≤ L.getD j 0 := by
  have hp : (l.mergeSort fun a b => decide (a ≤ b)).Perm l := List.mergeSort_perm _ _
  have hs : (l.mergeSort fun a b => decide (a ≤ b)).Pairwise fun a b => decide (a ≤ b) = true := List.pairwise_mergeSort (by intro a b c; simp; omega) (by intro a b; simp; omega) l
  generalize (l.mergeSort fun a b => decide (a ≤ b)) = L at *
  have hb' : ∀ x ∈ L, x.natAbs ≤ 1000000 := fun x hx => hb x (hp.mem_iff.1 hx)
  refine ⟨L, ?_, hp, ?_⟩
  · symm
    refine sortV_one ?_ ?_ ?_
    · intro x hx
      obtain ⟨v, _, rfl⟩ := List.mem_map.1 hx
      exact F_lt v
    · have : (l.map F).map cn = l.map F := by
        rw [List.map_map]
        exact List.map_congr_left fun x hx => cn_num (by have := F_fin (n := x) (by have := hb x hx; omega); omega)
      rw [this]
      exact hp.map F
    · rw [List.pairwise_map]
      refine hs.imp_of_mem ?_
      intro a b ha hb2 hab
      unfold leK
      exact decide_eq_true (key_F (hb' a ha) (hb' b hb2) (by simpa using hab))
  · intro i j hij hj
    have hlen := hp.length_eq
    rcases Nat.eq_or_lt_of_le hij with e | e
    · rw [e]; exact Int.le_refl _
    · have := List.pairwise_iff_getElem.1 hs i j (by omega) (by omega) e
      rw [List.getD_eq_getElem?_getD, List.getD_eq_getElem?_getD, List.getElem?_eq_getElem (by omega), List.getElem?_eq_getElem (by omega)]
      simpa using this

end Go.Proofs.Ythiiicgibcgipaa.Fl
