/- Plain facts on binary64 words, no program in sight: operations on numbers that are not below 0, and a zone's use and score. -/
import Derived.Test.YtchhnjadnacniaaFlE
namespace Go.Proofs.Ytchhnjadnacniaa.Fl
set_option linter.unusedSimpArgs false

theorem rg_small {x : Nat} (h : x ≤ 9218868437227405312) : rg x = x := Nat.mod_eq_of_lt (by omega)
theorem ng_small {x : Nat} (h : x ≤ 9218868437227405312) : ng x = false := by unfold ng; rw [Nat.div_eq_of_lt (by omega)]; rfl
theorem sk_small {x : Nat} (h : x ≤ 9218868437227405312) : sk x = (x : Int) := by unfold sk; rw [ng_small h, rg_small h]; rfl
theorem su_small {x : Nat} (h : x ≤ 9218868437227405312) : su x = (un x : Int) := by unfold su; rw [ng_small h, rg_small h]; rfl
/-- numbers that are not below 0, as words. -/
theorem mul_P {x y : Nat} (hx : x < 9218868437227405312) (hy : y < 9218868437227405312) : isR (un x * un y) U1 (fop .mul x y) := by
  obtain ⟨r, hr, hR⟩ := mul_fin x y (by rw [rg_small (by omega)]; exact hx) (by rw [rg_small (by omega)]; exact hy)
  have e : fop .mul x y = r := by
    show (Ieee.double.mul x y).getD _ = r
    rw [hr, ng_small (by omega), ng_small (by omega)]; rfl
  rw [e]
  rwa [rg_small (by omega), rg_small (by omega)] at hR
theorem div_P {x y : Nat} (hx : x < 9218868437227405312) (hy : y < 9218868437227405312) (h0 : 0 < y) : isR (un x * U1) (un y) (fop .quo x y) := by
  obtain ⟨r, hr, hR⟩ := div_fin x y (by rw [rg_small (by omega)]; exact hx) (by rw [rg_small (by omega)]; exact hy) (by rw [rg_small (by omega)]; exact h0)
  have e : fop .quo x y = r := by
    show (Ieee.double.div x y).getD _ = r
    rw [hr, ng_small (by omega), ng_small (by omega)]; rfl
  rw [e]
  rwa [rg_small (by omega), rg_small (by omega)] at hR
theorem add_P {x y : Nat} (hx : x < 9218868437227405312) (hy : y < 9218868437227405312) : isR (un x + un y) 1 (fop .add x y) := by
  obtain ⟨r, hr, hR⟩ := add_fin x y (by rw [rg_small (by omega)]; exact hx) (by rw [rg_small (by omega)]; exact hy)
  rw [su_small (by omega), su_small (by omega)] at hr hR
  have e : fop .add x y = r := by
    show (Ieee.double.add x y).getD _ = r
    rw [hr, ng_small (by omega), ng_small (by omega)]
    have : (if (un x : Int) + un y = 0 then false && false else decide ((un x : Int) + un y < 0)) = false := by
      split
      · rfl
      · exact decide_eq_false (by omega)
    rw [this]; rfl
  rw [e]
  have h2 : ((un x : Int) + un y).natAbs = un x + un y := by omega
  rwa [h2] at hR
theorem sub_P {x y : Nat} (hx : x < 9218868437227405312) (hy : y ≤ x) : isR (un x - un y) 1 (fop .sub x y) := by
  have hle := un_le hy
  have e0 : fop .sub x y = (Ieee.double.add x (y ^^^ 9223372036854775808)).getD 9221120237041090560 := by
    show (Ieee.double.sub x y).getD _ = _
    rw [sub_add]
  obtain ⟨r, hr, hR⟩ := add_fin x (y ^^^ 9223372036854775808) (by rw [rg_small (by omega)]; exact hx) (by rw [neg_rg, rg_small (by omega)]; omega)
  rw [neg_su, su_small (by omega), su_small (by omega)] at hr hR
  have e : fop .sub x y = r := by
    rw [e0, hr, neg_ng, ng_small (by omega), ng_small (by omega)]
    have : (if (un x : Int) + -(un y : Int) = 0 then false && !false else decide ((un x : Int) + -(un y : Int) < 0)) = false := by
      split
      · rfl
      · exact decide_eq_false (by omega)
    rw [this]; rfl
  rw [e]
  have h2 : ((un x : Int) + -(un y : Int)).natAbs = un x - un y := by omega
  rwa [h2] at hR
theorem un_one : un 4607182418800017408 = U1 := by have := isW_one.1; rwa [Nat.one_mul] at this

/-- the six comparisons of words that are not below 0. -/
theorem p_lt {x y : Nat} (hx : x ≤ 9218868437227405312) (hy : y ≤ 9218868437227405312) : (FloatKind.f64.format.order x y == some .lt) = decide (x < y) := by
  rw [fmt64, o_lt, rg_small hx, rg_small hy, sk_small hx, sk_small hy]; simp [hx, hy]
theorem p_gt {x y : Nat} (hx : x ≤ 9218868437227405312) (hy : y ≤ 9218868437227405312) : (FloatKind.f64.format.order x y == some .gt) = decide (y < x) := by
  rw [fmt64, o_gt, rg_small hx, rg_small hy, sk_small hx, sk_small hy]; simp [hx, hy]
theorem p_eq {x y : Nat} (hx : x ≤ 9218868437227405312) (hy : y ≤ 9218868437227405312) : (FloatKind.f64.format.order x y == some .eq) = decide (x = y) := by
  rw [fmt64, o_eq, rg_small hx, rg_small hy, sk_small hx, sk_small hy, Bool.eq_iff_iff]; simp [hx, hy]; omega
theorem p_le {x y : Nat} (hx : x ≤ 9218868437227405312) (hy : y ≤ 9218868437227405312) : (FloatKind.f64.format.order x y == some .lt || FloatKind.f64.format.order x y == some .eq) = decide (x ≤ y) := by
  rw [p_lt hx hy, p_eq hx hy, Bool.eq_iff_iff]; simp; omega
theorem p_ge {x y : Nat} (hx : x ≤ 9218868437227405312) (hy : y ≤ 9218868437227405312) : (FloatKind.f64.format.order x y == some .gt || FloatKind.f64.format.order x y == some .eq) = decide (y ≤ x) := by
  rw [p_gt hx hy, p_eq hx hy, Bool.eq_iff_iff]; simp; omega

/-- a zone's use. -/
@[irreducible] def useV (l s : Int) : Nat := fop .quo (floatOfInt .f64 l) (floatOfInt .f64 s)
theorem useV_of (l s : Int) (w : World) : cn (fR .quo (floatOfInt .f64 l) (floatOfInt .f64 s) w) = useV l s := by unfold useV; rw [cn_fR]
theorem useV_cn (l s : Int) : cn (useV l s) = useV l s := by unfold useV; exact cn_fop _ _ _
theorem useV_R (l s : Nat) (hl : l ≤ 9007199254740991) (hs : s ≤ 9007199254740991) (h0 : 0 < s) : isR (l * U1) s (useV (l : Int) (s : Int)) := by
  unfold useV
  obtain ⟨r, hr, hR⟩ := div_R (isW_of l hl) (isW_of s hs) h0
  rwa [hr]
theorem U1_big : 1152921504606846976 ≤ U1 := by decide +kernel
theorem useV_pos {l s : Nat} (hl : 0 < l) (h : l ≤ 1073741824) (hs : s ≤ 1073741824) (h0 : 0 < s) : 0 < useV (l : Int) (s : Int) := by
  have hR := useV_R l s (by omega) (by omega) h0
  refine isR_ge (q := 1) h0 (by omega) ?_ hR
  have h1 : un 1 = 1 := by decide
  rw [h1, Nat.one_mul]
  have := Nat.mul_le_mul hl U1_big
  omega
theorem useV_zero {s : Nat} (hs : s ≤ 9007199254740991) (h0 : 0 < s) : useV 0 (s : Int) = 0 := by
  have hR := useV_R 0 s (by omega) hs h0
  exact isR_at h0 (by omega) (by rw [un_zero]; omega) hR
theorem useV_le_one {l s : Nat} (h : l ≤ s) (hs : s ≤ 9007199254740991) (h0 : 0 < s) : useV (l : Int) (s : Int) ≤ 4607182418800017408 := by
  have hR := useV_R l s (by omega) hs h0
  refine isR_le h0 (by omega) ?_ hR
  rw [un_one, Nat.mul_comm U1]
  exact Nat.mul_le_mul_right _ h
theorem useV_mono {l k s : Nat} (h : l ≤ k) (hk : k ≤ 9007199254740991) (hs : s ≤ 9007199254740991) (h0 : 0 < s) : useV (l : Int) (s : Int) ≤ useV (k : Int) (s : Int) :=
  isR_mono h0 h0 (Nat.mul_le_mul_right _ (Nat.mul_le_mul_right _ h)) (useV_R l s (by omega) hs h0) (useV_R k s hk hs h0)
theorem useV_one {s : Nat} (hs : s ≤ 9007199254740991) (h0 : 0 < s) : useV (s : Int) (s : Int) = 4607182418800017408 :=
  isR_at h0 (by omega) (by rw [un_one, Nat.mul_comm]) (useV_R s s hs hs h0)
theorem useV_lt_one {l s : Nat} (h : l < s) (hs : s ≤ 1073741824) : useV (l : Int) (s : Int) < 4607182418800017408 := by
  have hR := useV_R l s (by omega) (by omega) (by omega)
  have : useV (l : Int) (s : Int) ≤ 4607182418800017407 := by
    refine isR_le (by omega) (by omega) ?_ hR
    have k : un 4607182418800017407 * 9007199254740992 = U1 * 9007199254740991 := by decide +kernel
    have e1 : l * U1 * 9007199254740992 ≤ un 4607182418800017407 * s * 9007199254740992 := by
      rw [Nat.mul_right_comm (un _), k, Nat.mul_assoc U1, Nat.mul_comm l U1, Nat.mul_assoc U1]
      exact Nat.mul_le_mul_left _ (by omega)
    exact Nat.le_of_mul_le_mul_right e1 (by omega)
  omega
theorem useV_nan : useV 0 0 = 9221120237041090560 := by unfold useV; decide +kernel

/-- how much cleaning a zone is worth, where it has live blocks, or no size. -/
@[irreducible] def scoreV (u : Nat) (a : Int) : Nat := fop .quo (fop .mul (fop .sub 4607182418800017408 u) (floatOfInt .f64 a)) (fop .add 4607182418800017408 u)
theorem scoreV_of (u : Nat) (a : Int) (w1 w2 w3 w4 : World) : cn (fR .quo (fR .mul (fR .sub 4607182418800017408 u w1) (floatOfInt .f64 a) w2) (fR .add 4607182418800017408 u w3) w4) = scoreV u a := by
  unfold scoreV
  rw [cn_fR, ← fop_cn, cn_fR, cn_fR, ← fop_cn_l .mul, cn_fR]
theorem scoreV_cn (u : Nat) (a : Int) : cn (scoreV u a) = scoreV u a := by unfold scoreV; exact cn_fop _ _ _
theorem scoreV_lt (u : Nat) (a : Int) : scoreV u a < 18446744073709551616 := by unfold scoreV; exact fop_lt _ _ _
theorem scoreV_nan (a : Int) : scoreV 9221120237041090560 a = 9221120237041090560 := by
  unfold scoreV
  have h1 : fop .sub 4607182418800017408 9221120237041090560 = 9221120237041090560 := by decide +kernel
  have h2 : fop .add 4607182418800017408 9221120237041090560 = 9221120237041090560 := by decide +kernel
  rw [h1, h2, fop_nan (.inr (by rw [rg_C0]; omega))]

/-- what stands in a score: nothing is infinite, nothing below 0. -/
theorem score_parts (u a : Nat) (hu : u ≤ 4607182418800017408) (ha : a ≤ 1099511627776) : ∃ p m d : Nat, scoreV u (a : Int) = fop .quo m d ∧ isR (U1 - un u) 1 p ∧ isR (un p * (a * U1)) U1 m ∧ isR (U1 + un u) 1 d ∧
    p ≤ 4607182418800017408 ∧ m < 9218868437227405312 ∧ 4607182418800017408 ≤ d ∧ d < 9218868437227405312 ∧ isR (un m * U1) (un d) (scoreV u (a : Int)) := by
  have hW := isW_of a (by omega)
  have hp := sub_P (x := 4607182418800017408) (y := u) (by omega) hu
  have hd := add_P (x := 4607182418800017408) (y := u) (by omega) (by omega)
  rw [un_one] at hp hd
  have hp1 : fop .sub 4607182418800017408 u ≤ 4607182418800017408 := isR_le (by omega) (by omega) (by rw [un_one]; omega) hp
  have hd1 : 4607182418800017408 ≤ fop .add 4607182418800017408 u := isR_ge (by omega) (by omega) (by rw [un_one]; omega) hd
  have hu1 := un_le hu
  rw [un_one] at hu1
  have hd2 : fop .add 4607182418800017408 u ≤ 4611686018427387904 := isR_le (by omega) (by omega) (by rw [isW_two.1]; omega) hd
  have hm := mul_P (x := fop .sub 4607182418800017408 u) (y := floatOfInt .f64 (a : Int)) (by omega) hW.2
  rw [hW.1] at hm
  have hm1 : fop .mul (fop .sub 4607182418800017408 u) (floatOfInt .f64 (a : Int)) ≤ floatOfInt .f64 (a : Int) := by
    refine isR_le U1_pos (Nat.le_of_lt hW.2) ?_ hm
    rw [hW.1]
    have := un_le hp1
    rw [un_one] at this
    rw [Nat.mul_comm (a * U1)]
    exact Nat.mul_le_mul_right _ this
  have hq := div_P (x := fop .mul (fop .sub 4607182418800017408 u) (floatOfInt .f64 (a : Int))) (y := fop .add 4607182418800017408 u) (by have := hW.2; omega) (by omega) (by omega)
  refine ⟨_, _, _, by unfold scoreV; rfl, hp, hm, hd, hp1, by have := hW.2; omega, hd1, by omega, by unfold scoreV; exact hq⟩
theorem score_small (u a : Nat) (hu : u ≤ 4607182418800017408) (ha : a ≤ 1099511627776) : scoreV u (a : Int) ≤ 9218868437227405312 := by
  obtain ⟨_, _, _, _, _, _, _, _, _, _, _, h⟩ := score_parts u a hu ha
  exact h.1
theorem score_mono {u v a b : Nat} (huv : u ≤ v) (hv : v ≤ 4607182418800017408) (hab : a ≤ b) (hb : b ≤ 1099511627776) : scoreV v (a : Int) ≤ scoreV u (b : Int) := by
  obtain ⟨p, m, d, _, hp, hm, hd, hp1, hm1, hd1, hd2, h⟩ := score_parts u b (by omega) hb
  obtain ⟨p', m', d', _, hp', hm', hd', hp1', hm1', hd1', hd2', h'⟩ := score_parts v a hv (by omega)
  have hU := un_le huv
  have c1 : p' ≤ p := isR_mono (by omega) (by omega) (by omega) hp' hp
  have c2 : m' ≤ m := isR_mono U1_pos U1_pos (Nat.mul_le_mul_right _ (Nat.mul_le_mul (un_le c1) (Nat.mul_le_mul_right _ hab))) hm' hm
  have c3 : d ≤ d' := isR_mono (by omega) (by omega) (by omega) hd hd'
  have hdp : 0 < un d := un_pos (by omega)
  have hdp' : 0 < un d' := un_pos (by omega)
  exact isR_mono hdp' hdp (Nat.mul_le_mul (Nat.mul_le_mul_right _ (un_le c2)) (un_le c3)) h' h
end Go.Proofs.Ytchhnjadnacniaa.Fl
