/- Plain facts on binary64 words, no program in sight: where a quantile lies among the sorted numbers. -/
import Derived.Test.YthiiicgibcgipaaFlY
namespace Go.Proofs.Ythiiicgibcgipaa.Fl
set_option linter.unusedSimpArgs false

/-- a part between nought and one. -/
def okQ (q : Nat) : Prop := rg q ≤ 4607182418800017408 ∧ (ng q = false ∨ rg q = 0)
/-- the place of the quantile q among the numbers 0 .. m. -/
@[irreducible] def placeV (q m : Nat) : Nat := fop .mul q (F (m : Nat))
theorem place_spec {q m : Nat} (hq : okQ q) (hm : m ≤ 300) :
    rg (placeV q m) < 9218868437227405312 ∧ (ng (placeV q m) = false ∨ rg (placeV q m) = 0) ∧ un (rg (placeV q m)) ≤ m * U1 := by
  have hW := isW_of m (by omega)
  have hF : floatOfInt .f64 (m : Int) = F (m : Nat) := rfl
  rw [hF] at hW
  obtain ⟨r, hr, hR⟩ := mul_fin q (F (m : Nat)) (by have := hq.1; omega) hW.fin
  have hp : placeV q m = mk (ng q ^^ ng (F (m : Nat))) r := by unfold placeV; rw [fop_mul]; unfold fmul; rw [show Ieee.double.mul q (F (m : Nat)) = _ from hr]; rfl
  rw [hW.ng, Bool.xor_false] at hp
  rw [hW.rg] at hR
  have h1 : un (rg q) ≤ 1 * U1 := by rw [← isW_one.1]; exact un_le hq.1
  have hle : r ≤ F (m : Nat) := isR_le U1_pos (by have := hW.2; omega) (by rw [Nat.mul_comm]; exact Nat.mul_le_mul_left _ (by omega)) hR
  have hrl : r < 9218868437227405312 := Nat.lt_of_le_of_lt hle hW.2
  rw [hp, rg_mk _ _ (by omega), ng_mk _ _ (by omega)]
  refine ⟨hrl, ?_, ?_⟩
  · rcases hq.2 with h | h
    · exact Or.inl h
    · right
      rw [h, un_zero, Nat.zero_mul] at hR
      exact isR_at U1_pos (by omega) (by rw [un_zero, Nat.zero_mul]) hR
  · rw [← hW.1]; exact un_le hle
theorem place_lt (q m : Nat) : lt64 (placeV q m) := by unfold placeV; exact fop_lt _ _ _
theorem place_num {q m : Nat} (hq : okQ q) (hm : m ≤ 300) : numB (placeV q m) = true := by
  unfold numB
  have := (place_spec hq hm).1
  exact decide_eq_true (by omega)
theorem place_whole {q m : Nat} (hq : okQ q) (hm : m ≤ 300) : wholeV (placeV q m) ≤ m := by
  have h := (place_spec hq hm).2.2
  have : un (rg (placeV q m)) < (m + 1) * U1 := by rw [Nat.add_mul, Nat.one_mul]; have := U1_pos; omega
  have := whole_lt this
  omega
theorem place_int {q m : Nat} (hq : okQ q) (hm : m ≤ 300) : okI (floV (placeV q m)) = true ∧ cvI (floV (placeV q m)) = (wholeV (placeV q m) : Int) := by
  have h := place_spec hq hm
  refine floV_int (place_lt q m) h.2.1 ?_
  have h2 : m * U1 ≤ 300 * U1 := Nat.mul_le_mul_right _ hm
  have := U1_pos
  omega
/-- two numbers differ by nought exactly where they are equal. -/
theorem sub_nought {x y : Nat} (hx : rg x < 9218868437227405312) (hy : rg y < 9218868437227405312) : rg (fop .sub x y) = 0 ↔ su x = su y := by
  have hf : rg (flipV y) < 9218868437227405312 := by unfold flipV; rw [neg_rg]; exact hy
  obtain ⟨r, h1, h2⟩ := fadd_fin hx hf
  rw [fsub_add, h1, rg_mk _ _ (by have := h2.1; omega)]
  rw [su_flip] at h2
  constructor
  · intro h0
    subst h0
    have h3 := h2.2 0 (by omega)
    have h4 : H 0 = 1 := by decide
    rw [h4] at h3
    omega
  · intro h0
    have : (su x + -su y).natAbs = 0 := by omega
    rw [this] at h2
    exact isR_at (by omega) (by omega) (by rw [un_zero, Nat.zero_mul]) h2
theorem eq_su {x y : Nat} (hx : rg x < 9218868437227405312) (hy : rg y < 9218868437227405312) : (FloatKind.f64.format.order x y == some .eq) = decide (su x = su y) := by
  rw [fmt64, o_eq, decide_eq_true (show rg x ≤ 9218868437227405312 by omega), decide_eq_true (show rg y ≤ 9218868437227405312 by omega), Bool.true_and, Bool.true_and]
  have h := su_sk x y
  rw [decide_eq_decide]
  constructor
  · intro g; rw [g, cmp_eq] at h
    rcases Int.lt_trichotomy (su x) (su y) with k | k | k
    · rw [cmp_lt k] at h; cases h
    · exact k
    · rw [cmp_gt k] at h; cases h
  · intro g; rw [g, cmp_eq] at h
    rcases Int.lt_trichotomy (sk x) (sk y) with k | k | k
    · rw [cmp_lt k] at h; cases h
    · exact k
    · rw [cmp_gt k] at h; cases h
theorem su_nought (x : Nat) : su x = su 0 ↔ rg x = 0 := by
  have h0 : su 0 = 0 := by decide
  rw [h0]
  unfold su
  constructor
  · intro h
    rcases Nat.eq_zero_or_pos (rg x) with g | g
    · exact g
    · have := un_pos g
      split at h <;> omega
  · intro h; rw [h, un_zero]; simp
/-- the program's question and the reference's are one. -/
theorem part_same {x y : Nat} (hx : rg x < 9218868437227405312) (hy : rg y < 9218868437227405312) : (FloatKind.f64.format.order (fop .sub x y) 0 == some .eq) = (FloatKind.f64.format.order y x == some .eq) := by
  obtain ⟨r, h1, h2⟩ := fadd_fin hx (show rg (flipV y) < 9218868437227405312 by unfold flipV; rw [neg_rg]; exact hy)
  rw [eq_su hy hx, fmt64, o_eq]
  have h3 := sub_nought hx hy
  have hle : rg (fop .sub x y) ≤ 9218868437227405312 := by rw [fsub_add, h1, rg_mk _ _ (by have := h2.1; omega)]; exact h2.1
  rw [decide_eq_true hle, show decide (rg 0 ≤ 9218868437227405312) = true by decide, Bool.true_and, Bool.true_and, decide_eq_decide]
  have hsk : sk (fop .sub x y) = sk 0 ↔ rg (fop .sub x y) = 0 := by
    have s0 : sk 0 = 0 := by decide
    rw [s0]; unfold sk; split <;> omega
  rw [hsk, h3]
  exact eq_comm

theorem sub_num {x y : Nat} (hx : rg x < 9218868437227405312) (hy : rg y < 9218868437227405312) : rg (fop .sub x y) ≤ 9218868437227405312 := by
  obtain ⟨r, h1, h2⟩ := fadd_fin hx (show rg (flipV y) < 9218868437227405312 by unfold flipV; rw [neg_rg]; exact hy)
  rw [fsub_add, h1, rg_mk _ _ (by have := h2.1; omega)]
  exact h2.1

end Go.Proofs.Ythiiicgibcgipaa.Fl
