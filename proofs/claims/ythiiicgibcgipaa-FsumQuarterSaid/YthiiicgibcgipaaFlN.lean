/- Plain facts for FbitsNear: where a number and its neighbours stand, and what stands half way. -/
import Derived.Test.YthiiicgibcgipaaFlG
namespace Go.Proofs.Ythiiicgibcgipaa.Fl
set_option linter.unusedSimpArgs false
set_option linter.unusedVariables false

/-- a finite number that is not 0: the word of its neighbours, and that they are its neighbours' neighbours. -/
theorem sk_next {x : Nat} (hx : lt64 x) (h : rg x < 9218868437227405312) (h0 : 0 < rg x) : sk (nextV x) = sk x + 1 ∧ rg (nextV x) ≤ 9218868437227405312 := by
  cases hs : ng x
  · have hw := mk_rg_lt hx hs
    rw [next_up hx hs h]
    unfold sk
    rw [ng_low (show x + 1 < 9223372036854775808 by omega), rg_low (show x + 1 < 9223372036854775808 by omega), hs]
    simp only [if_true, if_false, Bool.false_eq_true]
    omega
  · have hw := mk_rg_ge hx hs
    rw [next_down hs h0 (by omega)]
    have e : x - 1 = 9223372036854775808 + (rg x - 1) := by omega
    unfold sk
    rw [e, ng_high (by omega), rg_high (by omega), hs]
    simp only [if_true, if_false, Bool.false_eq_true]
    omega
theorem sk_prev {x : Nat} (hx : lt64 x) (h : rg x < 9218868437227405312) (h0 : 0 < rg x) : sk (prevV x) = sk x - 1 ∧ rg (prevV x) ≤ 9218868437227405312 := by
  have k := sk_next (flip_lt hx) (by rw [flip_rg]; exact h) (by rw [flip_rg]; exact h0)
  rw [prev_num (by omega), flip_sk, flip_rg]
  rw [flip_sk] at k
  omega
theorem sk_inj {x y : Nat} (hx : lt64 x) (hy : lt64 y) (h : sk x = sk y) (h0 : 0 < rg x) : x = y := by
  have a := word_eq hx
  have b := word_eq hy
  unfold sk at h
  cases hs : ng x <;> cases ht : ng y <;> rw [hs, ht] at h <;> rw [hs] at a <;> rw [ht] at b <;> simp only [if_true, if_false, Bool.false_eq_true] at h a b <;> omega
theorem prev_next {x : Nat} (hx : lt64 x) (h : rg x < 9218868437227405312) (h0 : 0 < rg x) (h1 : 0 < rg (nextV x)) : prevV (nextV x) = x := by
  cases hs : ng x
  · have hw := mk_rg_lt hx hs
    have hn := next_up hx hs h
    rw [hn]
    rw [prev_up (by show x + 1 < 18446744073709551616; omega) (ng_low (by omega)) (by rw [rg_low (by omega)]; omega) (by rw [rg_low (by omega)]; omega)]
    omega
  · have hw := mk_rg_ge hx hs
    have hn := next_down hs h0 (by omega)
    have e : x - 1 = 9223372036854775808 + (rg x - 1) := by omega
    rw [hn, e]
    rw [prev_down (by show _ < 18446744073709551616; omega) (ng_high (by omega)) (by rw [rg_high (by omega)]; omega)]
    omega
theorem next_prev {x : Nat} (hx : lt64 x) (h : rg x < 9218868437227405312) (h0 : 0 < rg x) (h1 : 0 < rg (prevV x)) : nextV (prevV x) = x := by
  cases hs : ng x
  · have hw := mk_rg_lt hx hs
    have hn := prev_up hx hs h0 (by omega)
    rw [hn] at h1 ⊢
    rw [rg_low (by omega)] at h1
    rw [next_up (by show x - 1 < 18446744073709551616; omega) (ng_low (by omega)) (by rw [rg_low (by omega)]; omega)]
    omega
  · have hw := mk_rg_ge hx hs
    have hn := prev_down hx hs h
    have e : x + 1 = 9223372036854775808 + (rg x + 1) := by omega
    rw [hn, e]
    rw [next_down (ng_high (by omega)) (by rw [rg_high (by omega)]; omega) (by rw [rg_high (by omega)]; omega)]
    omega
/-- what a sum of finite numbers gives, between two words. -/
theorem add_between {x d lo hi : Nat} (hx : rg x < 9218868437227405312) (hd : rg d < 9218868437227405312) (hlo : rg lo ≤ 9218868437227405312) (hhi : rg hi ≤ 9218868437227405312)
    (h1 : su lo ≤ su x + su d) (h2 : su x + su d ≤ su hi) : rg (fop .add x d) ≤ 9218868437227405312 ∧ sk lo ≤ sk (fop .add x d) ∧ sk (fop .add x d) ≤ sk hi := by
  obtain ⟨r, hr, hR⟩ := add_fin x d hx hd
  have e : fop .add x d = mk (if su x + su d = 0 then ng x && ng d else decide (su x + su d < 0)) r := by
    show (Ieee.double.add x d).getD _ = _
    rw [hr]; rfl
  have hrI := hR.1
  rw [e]
  generalize hT : su x + su d = T at *
  have hsk : sk (mk (if T = 0 then ng x && ng d else decide (T < 0)) r) = if T < 0 then -(r : Int) else (r : Int) := by
    unfold sk
    rw [ng_mk _ _ (by omega), rg_mk _ _ (by omega)]
    by_cases h0 : T = 0
    · have : r = 0 := isR_at (by omega) (by omega) (by rw [un_zero, h0]; rfl) hR
      subst this
      rw [if_pos h0, if_neg (show ¬ T < 0 by omega)]
      cases (ng x && ng d) <;> simp
    · rw [if_neg h0]
      by_cases h3 : T < 0
      · rw [decide_eq_true h3, if_pos rfl, if_pos h3]
      · rw [decide_eq_false h3, if_neg (by decide), if_neg h3]
  refine ⟨by rw [rg_mk _ _ (by omega)]; exact hrI, ?_, ?_⟩
  · rw [hsk]
    unfold sk
    unfold su at h1
    cases hl : ng lo <;> rw [hl] at h1 <;> simp only [if_true, if_false, Bool.false_eq_true] at h1 ⊢
    · have : rg lo ≤ r := isR_ge (by omega) hlo (by omega) hR
      rw [if_neg (by omega)]; omega
    · by_cases h3 : T < 0
      · have : r ≤ rg lo := isR_le (by omega) hlo (by omega) hR
        rw [if_pos h3]; omega
      · rw [if_neg h3]; omega
  · rw [hsk]
    unfold sk
    unfold su at h2
    cases hl : ng hi <;> rw [hl] at h2 <;> simp only [if_true, if_false, Bool.false_eq_true] at h2 ⊢
    · by_cases h3 : T < 0
      · rw [if_pos h3]; omega
      · have : r ≤ rg hi := isR_le (by omega) hhi (by omega) hR
        rw [if_neg h3]; omega
    · by_cases h3 : T < 0
      · have : rg hi ≤ r := isR_ge (by omega) hhi (by omega) hR
        rw [if_pos h3]; omega
      · have h4 : rg hi = 0 := by
          rcases Nat.eq_zero_or_pos (rg hi) with g | g
          · exact g
          · have := un_pos g; omega
        have h5 : T = 0 := by omega
        have : r = 0 := isR_at (by omega) (by omega) (by rw [un_zero, h5]; rfl) hR
        rw [if_neg h3]; omega
/-- the step between two neighbours is a power of two. -/
theorem un_step (r : Nat) : un (r + 1) = un r + 2 ^ pl r := by
  obtain ⟨h1, h2, h3⟩ := mgpl r
  have a0 := un_at (pl r) (mg r) h2 h3
  have a1 := un_at1 (pl r) (mg r) h2 h3
  rw [← h1] at a0 a1
  rw [a0, a1, Nat.add_mul, Nat.one_mul]
theorem pow_word (e : Nat) (he : e ≤ 2045) : ∃ q, un q = 2 ^ e ∧ q < 9218868437227405312 := by
  obtain ⟨q, hq⟩ := rep 1 e (by omega)
  refine ⟨q, by rw [hq, Nat.one_mul], un_lt_I ?_⟩
  rw [un_I, hq, Nat.one_mul]
  have h1 : (2 : Nat) ^ e < 2 ^ (e + 1) := Nat.pow_lt_pow_right (by omega) (by omega)
  have h2 : (2 : Nat) ^ (e + 1) ≤ 2 ^ e2046 := Nat.pow_le_pow_right (by omega) (by rw [e2046_eq]; omega)
  have h3 : (2 : Nat) ^ e2046 ≤ 4503599627370496 * 2 ^ e2046 := Nat.le_mul_of_pos_left _ (by omega)
  omega
theorem pl_bd {r : Nat} (h : r < 9218868437227405312) : pl r ≤ 2045 := by unfold pl; omega
/-- the half of the way to the neighbour above, behind both roundings: not below 0, and no more than the way. -/
theorem half_way {x n : Nat} (hx : rg x < 9218868437227405312) (hn : rg n < 9218868437227405312) (e : Nat) (he : e ≤ 2045) (h : su n - su x = ((2 ^ e : Nat) : Int)) :
    ∃ d, fop .quo (fop .sub n x) 4611686018427387904 = d ∧ d < 9218868437227405312 ∧ 0 ≤ su d ∧ su d ≤ su n - su x := by
  obtain ⟨q, hq, hqI⟩ := pow_word e he
  have h1 : fop .sub n x = q := by
    show (Ieee.double.sub n x).getD _ = q
    rw [sub_add]
    obtain ⟨r, hr, hR⟩ := add_fin n (x ^^^ 9223372036854775808) hn (by rw [neg_rg]; exact hx)
    rw [neg_su, show su n + -su x = ((2 ^ e : Nat) : Int) by omega] at hr hR
    have hp := two_pos e
    have : r = q := isR_at (by omega) (by omega) (by rw [hq]; omega) hR
    rw [hr, this, if_neg (by omega), decide_eq_false (by omega)]
    rfl
  have hq2 := div_P (x := q) (y := 4611686018427387904) hqI (by omega) (by omega)
  have hle : fop .quo q 4611686018427387904 ≤ q := by
    refine isR_le (by have := un_pos (show 0 < 4611686018427387904 by omega); exact this) (by omega) ?_ hq2
    rw [isW_two.1, ← Nat.mul_assoc, Nat.mul_comm _ U1, Nat.mul_comm _ U1]
    exact Nat.mul_le_mul_left _ (by omega)
  refine ⟨_, by rw [h1], by omega, ?_, ?_⟩
  · rw [su_small (by omega)]; omega
  · rw [h, su_small (by omega), ← hq]
    have := un_le hle
    omega
/-- the point half way between a finite number and its neighbour above, as the law reckons it, is one of the two. -/
theorem mid_way {x : Nat} (hx : lt64 x) (h : rg x < 9218868437227405312) (h0 : 0 < rg x) (hn : rg (nextV x) < 9218868437227405312) :
    rg (fop .quo (fop .sub (nextV x) x) 4611686018427387904) ≤ 9218868437227405312 ∧ rg (fop .add x (fop .quo (fop .sub (nextV x) x) 4611686018427387904)) ≤ 9218868437227405312 ∧ rg (fop .sub (nextV x) x) ≤ 9218868437227405312 ∧
    (sk (fop .add x (fop .quo (fop .sub (nextV x) x) 4611686018427387904)) = sk x ∨ sk (fop .add x (fop .quo (fop .sub (nextV x) x) 4611686018427387904)) = sk (nextV x)) := by
  have hstep : ∃ e, e ≤ 2045 ∧ su (nextV x) - su x = ((2 ^ e : Nat) : Int) := by
    cases hs : ng x
    · have hw := mk_rg_lt hx hs
      refine ⟨pl (rg x), pl_bd h, ?_⟩
      rw [next_up hx hs h]
      unfold su
      rw [ng_low (show x + 1 < 9223372036854775808 by omega), rg_low (show x + 1 < 9223372036854775808 by omega), hs, show x + 1 = rg x + 1 by omega, un_step]
      simp only [if_false, Bool.false_eq_true]
      omega
    · have hw := mk_rg_ge hx hs
      refine ⟨pl (rg x - 1), pl_bd (by omega), ?_⟩
      rw [next_down hs h0 (by omega), show x - 1 = 9223372036854775808 + (rg x - 1) by omega]
      unfold su
      rw [ng_high (show rg x - 1 < 9223372036854775808 by omega), rg_high (show rg x - 1 < 9223372036854775808 by omega), hs]
      have := un_step (rg x - 1)
      rw [Nat.sub_add_cancel h0] at this
      simp only [if_true]
      omega
  obtain ⟨e, he, hse⟩ := hstep
  obtain ⟨d, hd, hdI, hd0, hd1⟩ := half_way h hn e he hse
  have hk := sk_next hx h h0
  have hb := add_between (x := x) (d := d) (lo := x) (hi := nextV x) h (by rw [rg_small (by omega)]; exact hdI) (by omega) (by omega) (by omega) (by omega)
  have hsub : rg (fop .sub (nextV x) x) ≤ 9218868437227405312 := by
    rcases Nat.lt_or_ge 9218868437227405312 (rg (fop .sub (nextV x) x)) with g | g
    · have := fop_nan (op := .quo) (x := fop .sub (nextV x) x) (y := 4611686018427387904) (.inl g)
      rw [hd] at this
      omega
    · exact g
  rw [hd]
  refine ⟨by rw [rg_small (by omega)]; omega, hb.1, hsub, ?_⟩
  have := hb.2
  omega
end Go.Proofs.Ythiiicgibcgipaa.Fl
