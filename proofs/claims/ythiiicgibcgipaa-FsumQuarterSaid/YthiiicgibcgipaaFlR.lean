/- Plain facts: the quantile of whole numbers lies between its neighbours and grows with its part (draft of the last steps for FsumQuarter). -/
import Derived.Test.YthiiicgibcgipaaFlQ
import Derived.Test.YthiiicgibcgipaaFq
namespace Go.Proofs.Ythiiicgibcgipaa.Fl
set_option linter.unusedSimpArgs false

theorem getD_F (L : List Int) (j : Nat) : (L.map F).getD j 0 = F (L.getD j 0) := by
  rw [List.getD_eq_getElem?_getD, List.getD_eq_getElem?_getD, List.getElem?_map]
  cases L[j]? with
  | none => exact F_zero.symm
  | some v => rfl
/-- the value at the place k between x and y. -/
def valK (k : Nat) (x y : Int) : Nat := if sameB (F x) (F y) || (FloatKind.f64.format.order (F (wholeV k : Nat)) k == some .eq) then F x else valX (fop .sub k (F (wholeV k : Nat))) x y
theorem valK_in {k : Nat} {x y : Int} (hk : rg k < 9218868437227405312) (h0 : ng k = false ∨ rg k = 0) (hj : wholeV k ≤ 300) (hx : x.natAbs ≤ 1000000) (hy : y.natAbs ≤ 1000000) (h : x ≤ y) :
    rg (valK k x y) ≤ 9218868437227405312 ∧ x * (U1 : Int) ≤ su (valK k x y) ∧ su (valK k x y) ≤ y * (U1 : Int) := by
  have hU := U1_pos
  have hxy : x * (U1 : Int) ≤ y * (U1 : Int) := Int.mul_le_mul_of_nonneg_right h (by omega)
  unfold valK
  split
  · have fx := F_fin (n := x) (by omega)
    rw [F_su (n := x) (by omega)]
    exact ⟨by omega, Int.le_refl _, hxy⟩
  · obtain ⟨a, b, c, _⟩ := val_in (part_pos hk h0 hj) hx hy h
    exact ⟨a, b, c⟩
theorem valK_mono {k k' : Nat} {x y : Int} (hk : rg k < 9218868437227405312) (h0 : ng k = false ∨ rg k = 0) (hk' : rg k' < 9218868437227405312) (h0' : ng k' = false ∨ rg k' = 0) (hj : wholeV k ≤ 300) (he : wholeV k' = wholeV k) (hu : un (rg k) ≤ un (rg k'))
    (hx : x.natAbs ≤ 1000000) (hy : y.natAbs ≤ 1000000) (h : x ≤ y) : su (valK k x y) ≤ su (valK k' x y) := by
  have hin := (valK_in hk' h0' (by omega) hx hy h).2.1
  have hf := F_fin (n := (wholeV k : Nat)) (by omega)
  have s1 := place_su h0
  have s2 := place_su h0'
  by_cases hc : (sameB (F x) (F y) || (FloatKind.f64.format.order (F (wholeV k : Nat)) k == some .eq)) = true
  · rw [show valK k x y = F x by unfold valK; rw [if_pos hc], F_su (n := x) (by omega)]
    exact hin
  · have hv : valK k x y = valX (fop .sub k (F (wholeV k : Nat))) x y := by unfold valK; rw [if_neg hc]
    by_cases hc' : (sameB (F x) (F y) || (FloatKind.f64.format.order (F (wholeV k' : Nat)) k' == some .eq)) = true
    · exfalso
      apply hc
      rw [Bool.or_eq_true] at hc' ⊢
      rcases hc' with g | g
      · exact Or.inl g
      · right
        rw [he, eq_su hf hk', decide_eq_true_eq] at g
        rw [eq_su hf hk, decide_eq_true_eq]
        have hF := F_su (n := (wholeV k : Nat)) (by omega)
        have h1 : ((wholeV k : Nat) : Int) * (U1 : Int) ≤ (un (rg k) : Int) := by exact_mod_cast (whole_in (k := k)).1
        omega
    · have hv' : valK k' x y = valX (fop .sub k' (F (wholeV k : Nat))) x y := by unfold valK; rw [if_neg hc', he]
      rw [hv, hv']
      have p1 := part_pos hk h0 hj
      have p2 := part_pos hk' h0' (by omega)
      rw [he] at p2
      refine (val_in p1 hx hy h).2.2.2 _ p2 ?_
      have hfl : rg (flipV (F (wholeV k : Nat))) < 9218868437227405312 := by rw [flip_rg]; exact hf
      rw [fsub_add, fsub_add]
      exact add_mono hk hfl hk' hfl (by omega)

/-- the quantile of whole numbers. -/
theorem quantX_F {L : List Int} {m q : Nat} (hb : ∀ x ∈ L, x.natAbs ≤ 1000000) (hq : okQ q) (hm : m ≤ 300) (hs : ∀ i j, i ≤ j → j ≤ m → L.getD i 0 ≤ L.getD j 0) :
    Fq.quantX (L.map F) m q = valK (placeV q m) (L.getD (wholeV (placeV q m)) 0) (L.getD (min (wholeV (placeV q m) + 1) m) 0) := by
  have hd : ∀ j, (L.getD j 0).natAbs ≤ 1000000 := fun j => by
    rw [List.getD_eq_getElem?_getD]
    cases h : L[j]? with
    | none => decide
    | some v => exact hb v (List.mem_of_getElem? h)
  obtain ⟨h1, h2, h3⟩ := place_spec hq hm
  have hw := place_whole hq hm
  have hv := (valK_in h1 h2 (by omega) (hd (wholeV (placeV q m))) (hd (min (wholeV (placeV q m) + 1) m)) (hs _ _ (by omega) (by omega))).1
  have fm := F_fin (n := L.getD m 0) (by have := hd m; omega)
  have fj := F_fin (n := L.getD (wholeV (placeV q m)) 0) (by have := hd (wholeV (placeV q m)); omega)
  unfold Fq.quantX
  simp only [getD_F]
  rw [if_neg (by omega)]
  unfold valK valX at *
  split at hv <;> rename_i c
  · rw [if_pos c, if_pos c, cn_num (by omega)]
  · rw [if_neg c, if_neg c, if_neg (by omega)]

theorem getD_bd {L : List Int} (hb : ∀ x ∈ L, x.natAbs ≤ 1000000) (j : Nat) : (L.getD j 0).natAbs ≤ 1000000 := by
  rw [List.getD_eq_getElem?_getD]
  cases h : L[j]? with
  | none => decide
  | some v => exact hb v (List.mem_of_getElem? h)
/-- it grows with its part; it is a number between the least and the greatest. -/
theorem quantX_mono {L : List Int} {m q q' : Nat} (hb : ∀ x ∈ L, x.natAbs ≤ 1000000) (hq : okQ q) (hq' : okQ q') (hqq : rg q ≤ rg q') (hm : m ≤ 300) (hs : ∀ i j, i ≤ j → j ≤ m → L.getD i 0 ≤ L.getD j 0) :
    su (Fq.quantX (L.map F) m q) ≤ su (Fq.quantX (L.map F) m q') := by
  rw [quantX_F hb hq hm hs, quantX_F hb hq' hm hs]
  obtain ⟨h1, h2, h3⟩ := place_spec hq hm
  obtain ⟨g1, g2, g3⟩ := place_spec hq' hm
  have hw := place_whole hq hm
  have gw := place_whole hq' hm
  have hk := place_mono hq hq' hqq hm
  have hj : wholeV (placeV q m) ≤ wholeV (placeV q' m) := Nat.div_le_div_right hk
  have hd := getD_bd hb
  rcases Nat.eq_or_lt_of_le hj with e | e
  · rw [← e]
    exact valK_mono h1 h2 g1 g2 (by omega) e.symm hk (hd _) (hd _) (hs _ _ (by omega) (by omega))
  · have a := (valK_in h1 h2 (by omega) (hd (wholeV (placeV q m))) (hd (min (wholeV (placeV q m) + 1) m)) (hs _ _ (by omega) (by omega))).2.2
    have b := (valK_in g1 g2 (by omega) (hd (wholeV (placeV q' m))) (hd (min (wholeV (placeV q' m) + 1) m)) (hs _ _ (by omega) (by omega))).2.1
    have c := hs (min (wholeV (placeV q m) + 1) m) (wholeV (placeV q' m)) (by omega) gw
    have hU := U1_pos
    have := Int.mul_le_mul_of_nonneg_right c (show (0 : Int) ≤ (U1 : Int) by omega)
    omega
theorem quantX_num {L : List Int} {m q : Nat} (hb : ∀ x ∈ L, x.natAbs ≤ 1000000) (hq : okQ q) (hm : m ≤ 300) (hs : ∀ i j, i ≤ j → j ≤ m → L.getD i 0 ≤ L.getD j 0) :
    rg (Fq.quantX (L.map F) m q) ≤ 9218868437227405312 := by
  rw [quantX_F hb hq hm hs]
  obtain ⟨h1, h2, h3⟩ := place_spec hq hm
  have hw := place_whole hq hm
  exact (valK_in h1 h2 (by omega) (getD_bd hb _) (getD_bd hb _) (hs _ _ (by omega) (by omega))).1

theorem place_zero {m : Nat} (hm : m ≤ 300) : rg (placeV 0 m) = 0 := by
  have hW := isW_of m (by omega)
  have hF : floatOfInt .f64 (m : Int) = F (m : Nat) := rfl
  rw [hF] at hW
  obtain ⟨r, hr, hR⟩ := mul_fin 0 (F (m : Nat)) (by decide) hW.fin
  have hp : placeV 0 m = mk (ng 0 ^^ ng (F (m : Nat))) r := by unfold placeV; rw [fop_mul]; unfold fmul; rw [show Ieee.double.mul 0 (F (m : Nat)) = _ from hr]; rfl
  rw [show rg 0 = 0 from rfl, un_zero, Nat.zero_mul] at hR
  rw [hp, rg_mk _ _ (by have := hR.1; omega)]
  exact isR_at U1_pos (by omega) (by rw [un_zero, Nat.zero_mul]) hR
theorem quantX_zero {L : List Int} {m : Nat} (hb : ∀ x ∈ L, x.natAbs ≤ 1000000) (hm : m ≤ 300) (hs : ∀ i j, i ≤ j → j ≤ m → L.getD i 0 ≤ L.getD j 0) :
    Fq.quantX (L.map F) m 0 = F (L.getD 0 0) := by
  have hq : okQ 0 := ⟨by decide, Or.inl rfl⟩
  rw [quantX_F hb hq hm hs]
  have h0 := place_zero hm
  have hw : wholeV (placeV 0 m) = 0 := by unfold wholeV; rw [h0, un_zero, Nat.zero_div]
  rw [hw]
  unfold valK
  rw [hw, if_pos]
  rw [Bool.or_eq_true]
  right
  rw [eq_su (F_fin (by decide)) (by omega), decide_eq_true_eq, F_su (by decide), place_su (Or.inr h0), h0, un_zero]
  simp

theorem place_one {m : Nat} (hm : m ≤ 300) : placeV 4607182418800017408 m = F (m : Nat) := by
  have hW := isW_of m (by omega)
  have hF : floatOfInt .f64 (m : Int) = F (m : Nat) := rfl
  rw [hF] at hW
  have h := mul_W isW_one hW (by omega)
  unfold placeV
  rw [Nat.one_mul] at h
  exact h.inj hW
theorem quantX_one {L : List Int} {m : Nat} (hb : ∀ x ∈ L, x.natAbs ≤ 1000000) (hm : m ≤ 300) (hs : ∀ i j, i ≤ j → j ≤ m → L.getD i 0 ≤ L.getD j 0) :
    Fq.quantX (L.map F) m 4607182418800017408 = F (L.getD m 0) := by
  have hq : okQ 4607182418800017408 := ⟨by decide, Or.inl (by decide)⟩
  rw [quantX_F hb hq hm hs, place_one hm]
  have hw : wholeV (F (m : Nat)) = m := by
    unfold wholeV
    rw [F_un (n := (m : Nat)) (by omega), Int.natAbs_natCast]
    exact Nat.mul_div_cancel _ U1_pos
  rw [hw, show min (m + 1) m = m by omega]
  unfold valK
  rw [if_pos]
  rw [sameB_yes rfl, Bool.true_or]

end Go.Proofs.Ythiiicgibcgipaa.Fl
