/- Plain facts on binary64 words, no program in sight: classes, keys, neighbours. -/
import Derived.Test.YtchhnjadnacniaaFlF
namespace Go.Proofs.Ytchhnjadnacniaa.Fl
set_option linter.unusedSimpArgs false

/-- a word of 64 bits (behind a name: the great numeral stays out of a walk). -/
def lt64 (x : Nat) : Prop := x < 18446744073709551616
theorem lt64.h {x : Nat} (h : lt64 x) : x < 18446744073709551616 := h
theorem lt64_cn {x : Nat} (h : lt64 x) : lt64 (cn x) := cn_lt h
theorem lt64_of {x : Nat} (h : (Lit.float .f64 x).wf = true) : lt64 x := by show x < 18446744073709551616; simpa [Lit.wf] using h

/-- what the sign's bit adds; the rest; all bits turned; the sign's bit turned. -/
@[irreducible] def sgnV (x : Nat) : Int := if ng x then 9223372036854775808 else 0
@[irreducible] def notV (x : Nat) : Nat := 18446744073709551615 - x
@[irreducible] def flipV (x : Nat) : Nat := x ^^^ 9223372036854775808
theorem and_sgn {x : Nat} (h : lt64 x) : bits .and .u64 (x : Int) 9223372036854775808 = sgnV x := by unfold sgnV; exact and_sign x h
theorem andNot_sgn {x : Nat} (h : lt64 x) : bits .andNot .u64 (x : Int) 9223372036854775808 = ((rg x : Nat) : Int) := andNot_sign x h
theorem xor_sgn {x : Nat} (h : lt64 x) : bits .xor .u64 (x : Int) 9223372036854775808 = ((flipV x : Nat) : Int) := by unfold flipV; exact xor_sign x h
theorem xor_all {x : Nat} (h : lt64 x) : bits .xor .u64 IntKind.u64.max (x : Int) = ((notV x : Nat) : Int) := by
  unfold notV
  rw [show IntKind.u64.max = 18446744073709551615 by decide]
  have := u64_xor_nat 18446744073709551615 x (by omega) h
  rw [show (18446744073709551615 : Int) = ((18446744073709551615 : Nat) : Int) by rfl, this]
  congr 1
  have e : (18446744073709551615 : Nat) = 2 ^ 64 - 1 := by decide
  have e2 : 18446744073709551615 - x = 2 ^ 64 - (x + 1) := by rw [show (2 : Nat) ^ 64 = 18446744073709551616 by decide]; omega
  have hx : x < 2 ^ 64 := h
  rw [e2, e]
  apply Nat.eq_of_testBit_eq
  intro i
  rw [Nat.testBit_xor, Nat.testBit_two_pow_sub_one, Nat.testBit_two_pow_sub_succ hx]
  by_cases hi : i < 64
  · simp [hi]
  · have : x.testBit i = false := Nat.testBit_lt_two_pow (Nat.lt_of_lt_of_le hx (Nat.pow_le_pow_right (by omega) (by omega)))
    simp [hi, this]
theorem sgn_yes {x : Nat} (h : ng x = true) : (sgnV x != 0) = true ∧ (sgnV x == 0) = false := by unfold sgnV; rw [h]; decide
theorem sgn_no {x : Nat} (h : ng x = false) : (sgnV x != 0) = false ∧ (sgnV x == 0) = true := by unfold sgnV; rw [h]; decide
theorem neg_float (x : Nat) : Op.negFloat .f64 x = flipV x := by
  unfold Op.negFloat flipV
  rw [show FloatKind.f64.format.exponentBits + FloatKind.f64.format.fractionBits = 63 by rfl]
theorem run_neg_float (P : Program) (w : World) (x : Nat) : (Op.unary .neg (.float .f64 x)).run P w = .ok (.float .f64 (flipV x)) w := by
  rw [← neg_float]; rfl
theorem u64_unsigned : IntKind.u64.signed = false := rfl
theorem flip_rg (x : Nat) : rg (flipV x) = rg x := by unfold flipV; exact neg_rg x
theorem flip_ng (x : Nat) : ng (flipV x) = !ng x := by unfold flipV; exact neg_ng x
theorem flip_lt {x : Nat} (h : lt64 x) : lt64 (flipV x) := by unfold flipV; exact neg_lt x h
theorem flip_mk {x : Nat} (h : lt64 x) : flipV x = mk (!ng x) (rg x) := by unfold flipV; exact neg_mk x h
theorem flip_sk (x : Nat) : sk (flipV x) = - sk x := by unfold flipV; exact neg_sk x
theorem word_eq {x : Nat} (h : lt64 x) : x = if ng x then 9223372036854775808 + rg x else rg x := (mk_eq x h).symm
theorem word_inj {x y : Nat} (hx : lt64 x) (hy : lt64 y) (h1 : ng x = ng y) (h2 : rg x = rg y) : x = y := by rw [word_eq hx, word_eq hy, h1, h2]

def classV (x : Nat) : Int :=
  if 9218868437227405312 < rg x then 1
  else if rg x = 0 then (if ng x then 5 else 6)
  else if rg x < 4503599627370496 then (if ng x then 4 else 7)
  else if rg x = 9218868437227405312 then (if ng x then 2 else 9)
  else if ng x then 3 else 8
def infB (x : Nat) : Bool := decide (rg x = 9218868437227405312)
theorem rg_rg (x : Nat) : rg (rg x) = rg x := Nat.mod_eq_of_lt (rg_lt x)
theorem ng_rg (x : Nat) : ng (rg x) = false := by unfold ng; rw [Nat.div_eq_of_lt (rg_lt x)]; rfl
theorem sk_rg (x : Nat) : sk (rg x) = (rg x : Int) := by unfold sk; rw [ng_rg, rg_rg]; rfl
theorem inf_test (x : Nat) : (FloatKind.f64.format.order (rg x) 9218868437227405311 == some .gt) = infB x := by
  rw [fmt64, o_gt, rg_rg, sk_rg, show sk 9218868437227405311 = 9218868437227405311 by decide, show rg 9218868437227405311 = 9218868437227405311 by decide]
  unfold infB
  rw [Bool.eq_iff_iff]
  simp
  omega

/-- the key, of a word whose NaN is the one. -/
def keyW (b : Nat) : Nat := if ng b then notV b else flipV b
def keyV (x : Nat) : Nat := keyW (cn x)
theorem keyW_val {b : Nat} (h : lt64 b) : keyW b = if ng b then 9223372036854775807 - rg b else 9223372036854775808 + rg b := by
  unfold keyW
  have h1 := word_eq h
  have h2 := rg_lt b
  cases hn : ng b
  · rw [hn] at h1
    simp only [Bool.false_eq_true, if_false] at h1 ⊢
    rw [flip_mk h, hn]
    rfl
  · rw [hn] at h1
    simp only [if_true] at h1 ⊢
    unfold notV
    omega
theorem keyW_lt {b : Nat} (h : lt64 b) : keyW b < 18446744073709551616 := by
  rw [keyW_val h]
  have := rg_lt b
  split <;> omega
theorem key_inj {x y : Nat} (hx : lt64 x) (hy : lt64 y) : keyW x = keyW y ↔ x = y := by
  constructor
  · intro h
    rw [keyW_val hx, keyW_val hy] at h
    have a := rg_lt x
    have b := rg_lt y
    refine word_inj hx hy ?_ ?_
    · cases h1 : ng x <;> cases h2 : ng y <;> rw [h1, h2] at h <;> simp at h ⊢ <;> omega
    · cases h1 : ng x <;> cases h2 : ng y <;> rw [h1, h2] at h <;> simp at h <;> omega
  · intro h; rw [h]
/-- the number whose key it is. -/
def unkeyW (k : Nat) : Nat := if ng k then flipV k else notV k
theorem unkey_key {b : Nat} (h : lt64 b) : unkeyW (keyW b) = b := by
  have hv := keyW_val h
  have hl := keyW_lt h
  have hr := rg_lt b
  have hw := word_eq h
  unfold unkeyW
  cases hn : ng b
  · rw [hn] at hv hw
    simp only [Bool.false_eq_true, if_false] at hv hw
    have hng : ng (keyW b) = true := by
      unfold ng; rw [hv, show (9223372036854775808 + rg b) / 9223372036854775808 = 1 by omega]; rfl
    rw [if_pos hng, flip_mk hl, hng]
    have : rg (keyW b) = rg b := by
      show keyW b % 9223372036854775808 = rg b
      omega
    rw [this]
    simp [mk]
    exact hw.symm
  · rw [hn] at hv hw
    simp only [if_true] at hv hw
    have hng : ng (keyW b) = false := by
      unfold ng; rw [hv, Nat.div_eq_of_lt (by omega)]; rfl
    rw [hng]
    simp only [Bool.false_eq_true, if_false]
    unfold notV
    omega

/-- the neighbour above. -/
def nextV (x : Nat) : Nat :=
  if 9218868437227405312 < rg x then 9221120237041090560
  else if rg x = 0 then 1
  else if ng x then x - 1
  else if rg x = 9218868437227405312 then x
  else x + 1
def prevV (x : Nat) : Nat := if 9218868437227405312 < rg x then 9221120237041090560 else flipV (nextV (flipV x))
theorem next_lt {x : Nat} (h : lt64 x) : lt64 (nextV x) := by
  have hw := word_eq h
  unfold lt64 at *
  unfold nextV
  have := rg_lt x
  split
  · omega
  · split
    · omega
    · cases hn : ng x <;> rw [hn] at hw <;> simp at hw ⊢
      · split <;> omega
      · omega
theorem mk_rg_lt {x : Nat} (h : lt64 x) (hs : ng x = false) : x = rg x := by have := word_eq h; rw [hs] at this; simpa using this
theorem mk_rg_ge {x : Nat} (h : lt64 x) (hs : ng x = true) : x = 9223372036854775808 + rg x := by have := word_eq h; rw [hs] at this; simpa using this
theorem rg_low {x : Nat} (h : x < 9223372036854775808) : rg x = x := Nat.mod_eq_of_lt h
theorem ng_low {x : Nat} (h : x < 9223372036854775808) : ng x = false := by unfold ng; rw [Nat.div_eq_of_lt h]; rfl
theorem rg_high {r : Nat} (h : r < 9223372036854775808) : rg (9223372036854775808 + r) = r := by unfold rg; omega
theorem ng_high {r : Nat} (h : r < 9223372036854775808) : ng (9223372036854775808 + r) = true := by unfold ng; rw [show (9223372036854775808 + r) / 9223372036854775808 = 1 by omega]; rfl
theorem flip_low {x : Nat} (h : x < 9223372036854775808) : flipV x = 9223372036854775808 + x := by
  rw [flip_mk (show lt64 x from Nat.lt_trans h (by omega)), ng_low h, rg_low h]; rfl
theorem flip_high {r : Nat} (h : r < 9223372036854775808) : flipV (9223372036854775808 + r) = r := by
  rw [flip_mk (show lt64 _ from (by show _ < 18446744073709551616; omega)), ng_high h, rg_high h]; rfl
theorem flip_flip {x : Nat} (h : lt64 x) : flipV (flipV x) = x := by
  cases hs : ng x
  · have hw := mk_rg_lt h hs
    have := rg_lt x
    rw [hw, flip_low this, flip_high this]
  · have hw := mk_rg_ge h hs
    have := rg_lt x
    rw [hw, flip_high this, flip_low this]
theorem pred_cn {x : Nat} (hx : lt64 x) (hs : ng x = true) (h : 0 < rg x) (hn : rg x ≤ 9218868437227405312) : cn (IntKind.u64.wrap ((x : Int) - 1)).toNat = x - 1 := by
  have hw := mk_rg_ge hx hs
  have e : (IntKind.u64.wrap ((x : Int) - 1)).toNat = x - 1 := by
    rw [IntKind.wrap_u64]
    have : x < 18446744073709551616 := hx
    omega
  rw [e]
  apply cn_num
  rw [hw, Nat.add_sub_assoc h, rg_high (by omega)]
  omega
theorem succ_cn {x : Nat} (hx : lt64 x) (hs : ng x = false) (h : rg x < 9218868437227405312) : cn (IntKind.u64.wrap ((x : Int) + 1)).toNat = x + 1 := by
  have hw := mk_rg_lt hx hs
  have e : (IntKind.u64.wrap ((x : Int) + 1)).toNat = x + 1 := by
    rw [IntKind.wrap_u64]
    omega
  rw [e]
  apply cn_num
  rw [rg_low (by omega)]
  omega
theorem next_up {x : Nat} (hx : lt64 x) (hs : ng x = false) (h : rg x < 9218868437227405312) : nextV x = x + 1 := by
  have hw := mk_rg_lt hx hs
  unfold nextV
  rw [if_neg (by omega), hs]
  by_cases h0 : rg x = 0
  · rw [if_pos h0]; omega
  · rw [if_neg h0, if_neg (by decide), if_neg (by omega)]
theorem next_inf {x : Nat} (hs : ng x = false) (h : rg x = 9218868437227405312) : nextV x = x := by
  unfold nextV
  rw [if_neg (by omega), if_neg (by omega), hs, if_neg (by decide), if_pos h]
theorem next_down {x : Nat} (hs : ng x = true) (h0 : 0 < rg x) (h : rg x ≤ 9218868437227405312) : nextV x = x - 1 := by
  unfold nextV
  rw [if_neg (by omega), if_neg (by omega), hs, if_pos rfl]
theorem next_zero {x : Nat} (h : rg x = 0) : nextV x = 1 := by
  unfold nextV
  rw [if_neg (by omega), if_pos h]
theorem next_nan {x : Nat} (h : 9218868437227405312 < rg x) : nextV x = 9221120237041090560 := if_pos h
theorem prev_nan {x : Nat} (h : 9218868437227405312 < rg x) : prevV x = 9221120237041090560 := if_pos h
theorem prev_num {x : Nat} (h : rg x ≤ 9218868437227405312) : prevV x = flipV (nextV (flipV x)) := if_neg (by omega)
theorem prev_zero {x : Nat} (h : rg x = 0) : prevV x = 9223372036854775809 := by
  rw [prev_num (by omega), next_zero (by rw [flip_rg]; exact h), flip_low (by omega)]
theorem prev_up {x : Nat} (hx : lt64 x) (hs : ng x = false) (h0 : 0 < rg x) (h : rg x ≤ 9218868437227405312) : prevV x = x - 1 := by
  have hw := mk_rg_lt hx hs
  have hr := rg_lt x
  rw [prev_num h, next_down (by rw [flip_ng, hs]; rfl) (by rw [flip_rg]; exact h0) (by rw [flip_rg]; exact h)]
  have e : flipV x = 9223372036854775808 + rg x := by rw [flip_mk hx, hs]; rfl
  rw [e, Nat.add_sub_assoc h0, flip_high (by omega)]
  omega
theorem prev_inf {x : Nat} (hx : lt64 x) (hs : ng x = true) (h : rg x = 9218868437227405312) : prevV x = x := by
  rw [prev_num (by omega), next_inf (by rw [flip_ng, hs]; rfl) (by rw [flip_rg]; exact h), flip_flip hx]
theorem prev_down {x : Nat} (hx : lt64 x) (hs : ng x = true) (h : rg x < 9218868437227405312) : prevV x = x + 1 := by
  have hw := mk_rg_ge hx hs
  have hr := rg_lt x
  have e : flipV x = rg x := by rw [flip_mk hx, hs]; rfl
  rw [prev_num (by omega), next_up (flip_lt hx) (by rw [flip_ng, hs]; rfl) (by rw [flip_rg]; exact h), e, flip_low (by omega)]
  omega
theorem key_low {x : Nat} (hx : lt64 x) (hs : ng x = false) : keyW x = 9223372036854775808 + rg x := by rw [keyW_val hx, hs]; rfl
theorem key_high {x : Nat} (hx : lt64 x) (hs : ng x = true) : keyW x = 9223372036854775807 - rg x := by rw [keyW_val hx, hs]; rfl
theorem unkey_high {r : Nat} (h : r < 9223372036854775808) : unkeyW (9223372036854775808 + r) = r := by
  unfold unkeyW; rw [ng_high h, if_pos rfl, flip_high h]
theorem unkey_low {k : Nat} (h : k < 9223372036854775808) : unkeyW k = 18446744073709551615 - k := by
  unfold unkeyW; rw [ng_low h, if_neg (by decide)]; unfold notV; rfl
theorem unkey_succ_up {x : Nat} (hx : lt64 x) (hs : ng x = false) (h : rg x < 9218868437227405312) : unkeyW (keyW x + 1) = nextV x := by
  have hw := mk_rg_lt hx hs
  rw [key_low hx hs, Nat.add_assoc, unkey_high (by omega), next_up hx hs h]
  omega
theorem unkey_succ_down {x : Nat} (hx : lt64 x) (hs : ng x = true) (h0 : 0 < rg x) (h : rg x ≤ 9218868437227405312) : unkeyW (keyW x + 1) = nextV x := by
  have hw := mk_rg_ge hx hs
  rw [key_high hx hs, unkey_low (by omega), next_down hs h0 h]
  omega
theorem unkey_pred_up {x : Nat} (hx : lt64 x) (hs : ng x = false) (h0 : 0 < rg x) (h : rg x ≤ 9218868437227405312) : unkeyW (keyW x - 1) = prevV x := by
  have hw := mk_rg_lt hx hs
  rw [key_low hx hs, Nat.add_sub_assoc h0, unkey_high (by omega), prev_up hx hs h0 h]
  omega
theorem unkey_pred_down {x : Nat} (hx : lt64 x) (hs : ng x = true) (h : rg x < 9218868437227405312) : unkeyW (keyW x - 1) = prevV x := by
  have hw := mk_rg_ge hx hs
  rw [key_high hx hs, unkey_low (by omega), prev_down hx hs h]
  omega
theorem next_cn {x : Nat} (hx : lt64 x) : cn (nextV x) = nextV x := by
  rcases Nat.lt_or_ge 9218868437227405312 (rg x) with h | h
  · rw [next_nan h]; exact cn_C0
  · by_cases h0 : rg x = 0
    · rw [next_zero h0]; decide
    · cases hs : ng x
      · by_cases h1 : rg x = 9218868437227405312
        · rw [next_inf hs h1]; exact cn_num h
        · have hw := mk_rg_lt hx hs
          rw [next_up hx hs (by omega)]
          exact cn_num (by rw [rg_low (by omega)]; omega)
      · have hw := mk_rg_ge hx hs
        have hr := rg_lt x
        rw [next_down hs (by omega) h]
        exact cn_num (by rw [hw, Nat.add_sub_assoc (by omega), rg_high (by omega)]; omega)
theorem prev_cn {x : Nat} (hx : lt64 x) : cn (prevV x) = prevV x := by
  rcases Nat.lt_or_ge 9218868437227405312 (rg x) with h | h
  · rw [prev_nan h]; exact cn_C0
  · rw [prev_num h]
    apply cn_num
    rw [flip_rg]
    have hf := next_cn (flip_lt hx)
    rcases Nat.lt_or_ge 9218868437227405312 (rg (nextV (flipV x))) with g | g
    · exfalso
      rw [cn_nan g] at hf
      have hlt : rg (flipV x) ≤ 9218868437227405312 := by rw [flip_rg]; exact h
      generalize flipV x = y at *
      have hy : nextV y = 9221120237041090560 := hf.symm
      unfold nextV at hy
      rw [if_neg (by omega)] at hy
      have hr : rg y = y % 9223372036854775808 := rfl
      have hn : ng y = (y / 9223372036854775808 % 2 == 1) := rfl
      by_cases h0 : rg y = 0
      · rw [if_pos h0] at hy; omega
      · rw [if_neg h0] at hy
        cases hs : ng y <;> rw [hs] at hy hn
        · rw [if_neg (by decide)] at hy
          split at hy <;> omega
        · rw [if_pos rfl] at hy
          have : y / 9223372036854775808 % 2 = 1 := by simpa using hn.symm
          omega
    · exact g
end Go.Proofs.Ytchhnjadnacniaa.Fl
