/- Plain facts on binary64 words, no program in sight: what a word stands for in units of the least subnormal number, the order of words, and rounding as a count of midpoints. -/
import Derived.Laws.FloatArith
namespace Go.Proofs.Ytchhnjadnacniaa.Fl

/-- the rung of infinity (2047 * 2^52), and the weight of the sign bit. -/
abbrev I : Nat := 9218868437227405312
abbrev S : Nat := 9223372036854775808
abbrev B : Nat := 4503599627370496

def rg (x : Nat) : Nat := x % 9223372036854775808
def ng (x : Nat) : Bool := x / 9223372036854775808 % 2 == 1
def mg (r : Nat) : Nat := if r < 4503599627370496 then r else 4503599627370496 + r % 4503599627370496
def pl (r : Nat) : Nat := r / 4503599627370496 - 1
/-- the magnitude of a rung, in units of 2^-1074. -/
def un (r : Nat) : Nat := mg r * 2 ^ pl r
/-- a finite word's number, in units of 2^-1074. -/
def su (x : Nat) : Int := if ng x then -(un (rg x) : Int) else (un (rg x) : Int)
/-- a word's place in the order of numbers (the two zeros stand at one place). -/
def sk (x : Nat) : Int := if ng x then -(rg x : Int) else (rg x : Int)
def mk (neg : Bool) (r : Nat) : Nat := if neg then 9223372036854775808 + r else r
def nanB (x : Nat) : Bool := decide (9218868437227405312 < rg x)

theorem two_pos (n : Nat) : 0 < 2 ^ n := Nat.two_pow_pos n

theorem un_succ (r : Nat) : un r < un (r + 1) := by
  unfold un mg pl
  by_cases h1 : r + 1 < 4503599627370496
  · rw [if_pos (by omega), if_pos h1, show r / 4503599627370496 - 1 = 0 by omega, show (r + 1) / 4503599627370496 - 1 = 0 by omega]
    omega
  · by_cases h2 : r < 4503599627370496
    · rw [if_pos h2, if_neg h1, show r / 4503599627370496 - 1 = 0 by omega, show (r + 1) / 4503599627370496 - 1 = 0 by omega]
      omega
    · by_cases h3 : r % 4503599627370496 + 1 < 4503599627370496
      · rw [if_neg h2, if_neg h1, show (r + 1) / 4503599627370496 - 1 = r / 4503599627370496 - 1 by omega, show (r + 1) % 4503599627370496 = r % 4503599627370496 + 1 by omega]
        exact Nat.mul_lt_mul_of_pos_right (by omega) (two_pos _)
      · rw [if_neg h2, if_neg h1, show (r + 1) / 4503599627370496 - 1 = r / 4503599627370496 - 1 + 1 by omega, show (r + 1) % 4503599627370496 = 0 by omega, show r % 4503599627370496 = 4503599627370495 by omega, Nat.pow_succ]
        have := two_pos (r / 4503599627370496 - 1)
        generalize 2 ^ (r / 4503599627370496 - 1) = t at *
        omega

theorem un_lt {a b : Nat} (h : a < b) : un a < un b := by
  induction b with
  | zero => omega
  | succ b ih =>
    have := un_succ b
    rcases Nat.lt_or_ge a b with h1 | h1
    · have := ih h1; omega
    · obtain rfl : a = b := by omega
      exact this
theorem un_le {a b : Nat} (h : a ≤ b) : un a ≤ un b := by
  rcases Nat.lt_or_ge a b with h1 | h1
  · exact Nat.le_of_lt (un_lt h1)
  · obtain rfl : a = b := by omega
    exact Nat.le_refl _
theorem un_lt_iff {a b : Nat} : un a < un b ↔ a < b :=
  ⟨fun h => by rcases Nat.lt_or_ge a b with h1 | h1
               · exact h1
               · have := un_le h1; omega, un_lt⟩
theorem un_inj {a b : Nat} (h : un a = un b) : a = b := by
  rcases Nat.lt_trichotomy a b with h1 | h1 | h1
  · have := un_lt h1; omega
  · exact h1
  · have := un_lt h1; omega
theorem un_zero : un 0 = 0 := by decide
theorem un_pos {r : Nat} (h : 0 < r) : 0 < un r := by have := un_lt h; rw [un_zero] at this; exact this

theorem un_at (e l : Nat) (h : l < 9007199254740992) (h0 : e = 0 ∨ 4503599627370496 ≤ l) : un (e * 4503599627370496 + l) = l * 2 ^ e := by
  unfold un mg pl
  by_cases h1 : e * 4503599627370496 + l < 4503599627370496
  · have he : e = 0 := by omega
    subst he
    rw [if_pos h1, show (0 * 4503599627370496 + l) / 4503599627370496 - 1 = 0 by omega, Nat.zero_mul, Nat.zero_add]
  · have hl : 4503599627370496 ≤ l := by rcases h0 with h0 | h0 <;> omega
    rw [if_neg h1, show (e * 4503599627370496 + l) / 4503599627370496 - 1 = e by omega, show (e * 4503599627370496 + l) % 4503599627370496 = l - 4503599627370496 by omega, show 4503599627370496 + (l - 4503599627370496) = l by omega]
theorem un_at1 (e l : Nat) (h : l < 9007199254740992) (h0 : e = 0 ∨ 4503599627370496 ≤ l) : un (e * 4503599627370496 + l + 1) = (l + 1) * 2 ^ e := by
  by_cases h1 : l + 1 < 9007199254740992
  · have := un_at e (l + 1) h1 (by omega)
    rw [← Nat.add_assoc] at this
    exact this
  · have := un_at (e + 1) 4503599627370496 (by omega) (by omega)
    rw [show e * 4503599627370496 + l + 1 = (e + 1) * 4503599627370496 + 4503599627370496 by omega, this, Nat.pow_succ, show l + 1 = 4503599627370496 * 2 by omega, Nat.mul_assoc, Nat.mul_comm 2 (2 ^ e)]

/-- twice the midpoint between a rung and the next one. -/
def H (k : Nat) : Nat := un k + un (k + 1)

/-- 'r' is the rung to which a / b units are rounded: to the nearest, of two the even one. -/
def isR (a b r : Nat) : Prop := r ≤ 9218868437227405312 ∧ ∀ k, k < 9218868437227405312 → (k < r ↔ (H k * b < 2 * a ∨ (H k * b = 2 * a ∧ k % 2 = 1)))

theorem isR_floor (a b r0 r : Nat) (hb : 0 < b) (h1 : un r0 * b ≤ a) (h2 : a < un (r0 + 1) * b) (more : Bool)
    (hm : more = true ↔ (H r0 * b < 2 * a ∨ (H r0 * b = 2 * a ∧ r0 % 2 = 1))) (hr : r = min (r0 + more.toNat) 9218868437227405312) : isR a b r := by
  refine ⟨by omega, fun k hk => ?_⟩
  have hmn : more.toNat ≤ 1 := by cases more <;> simp
  rcases Nat.lt_trichotomy k r0 with h | h | h
  · have e1 := Nat.mul_lt_mul_of_pos_right (un_lt h) hb
    have e2 := Nat.mul_le_mul_right b (un_le (show k + 1 ≤ r0 from h))
    have e3 : H k * b = un k * b + un (k + 1) * b := by unfold H; rw [Nat.add_mul]
    constructor
    · intro _; left; omega
    · intro _; omega
  · subst h
    rw [← hm, hr]
    cases more
    · simp; omega
    · simp only [Bool.toNat_true, iff_true]; omega
  · have e1 := Nat.mul_le_mul_right b (un_le (show r0 + 1 ≤ k from h))
    have e2 := Nat.mul_lt_mul_of_pos_right (un_lt (show r0 + 1 < k + 1 by omega)) hb
    have e3 : H k * b = un k * b + un (k + 1) * b := by unfold H; rw [Nat.add_mul]
    constructor
    · intro hk2; omega
    · intro hk2
      rcases hk2 with hk2 | ⟨hk2, _⟩ <;> omega

theorem isR_mono {a b a' b' r r' : Nat} (hb : 0 < b) (hb' : 0 < b') (h : a * b' ≤ a' * b) (h1 : isR a b r) (h2 : isR a' b' r') : r ≤ r' := by
  rcases Nat.lt_or_ge r' r with hlt | hge
  · exfalso
    have hk : r' < 9218868437227405312 := by have := h1.1; omega
    have g2 := (h2.2 r' hk)
    have g1 := (h1.2 r' hk).1 hlt
    have hn : ¬ (H r' * b' < 2 * a' ∨ (H r' * b' = 2 * a' ∧ r' % 2 = 1)) := fun hh => by have := g2.2 hh; omega
    apply hn
    have e0 : 2 * a * b' ≤ 2 * a' * b := by rw [Nat.mul_assoc, Nat.mul_assoc]; omega
    rcases g1 with g1 | ⟨g1, ho⟩
    · left
      have e1 := Nat.mul_lt_mul_of_pos_right g1 hb'
      have e2 : H r' * b' * b < 2 * a' * b := by
        rw [show H r' * b' * b = H r' * b * b' by rw [Nat.mul_right_comm]]; omega
      exact Nat.lt_of_mul_lt_mul_right e2
    · have e2 : H r' * b' * b ≤ 2 * a' * b := by
        rw [show H r' * b' * b = H r' * b * b' by rw [Nat.mul_right_comm], g1]; omega
      have e3 := Nat.le_of_mul_le_mul_right e2 hb
      rcases Nat.lt_or_ge (H r' * b') (2 * a') with h3 | h3
      · exact .inl h3
      · exact .inr ⟨by omega, ho⟩
  · exact hge
theorem isR_unique {a b r r' : Nat} (hb : 0 < b) (h1 : isR a b r) (h2 : isR a b r') : r = r' :=
  Nat.le_antisymm (isR_mono hb hb (Nat.le_refl _) h1 h2) (isR_mono hb hb (Nat.le_refl _) h2 h1)
theorem isR_same {a b a' b' r r' : Nat} (hb : 0 < b) (hb' : 0 < b') (h : a * b' = a' * b) (h1 : isR a b r) (h2 : isR a' b' r') : r = r' :=
  Nat.le_antisymm (isR_mono hb hb' (Nat.le_of_eq h) h1 h2) (isR_mono hb' hb (Nat.le_of_eq h.symm) h2 h1)
theorem isR_exact (b r : Nat) (hb : 0 < b) (hr : r ≤ 9218868437227405312) : isR (un r * b) b r := by
  refine isR_floor (un r * b) b r r hb (Nat.le_refl _) (Nat.mul_lt_mul_of_pos_right (un_succ r) hb) false ?_ (by simp; omega)
  have h := Nat.mul_lt_mul_of_pos_right (un_succ r) hb
  have e3 : H r * b = un r * b + un (r + 1) * b := by unfold H; rw [Nat.add_mul]
  simp only [Bool.false_eq_true, false_iff]
  omega
theorem isR_at {a b r q : Nat} (hb : 0 < b) (hq : q ≤ 9218868437227405312) (h : a = un q * b) (h1 : isR a b r) : r = q := by
  subst h
  exact isR_unique hb h1 (isR_exact b q hb hq)
theorem isR_ge {a b r q : Nat} (hb : 0 < b) (hq : q ≤ 9218868437227405312) (h : un q * b ≤ a) (h1 : isR a b r) : q ≤ r :=
  isR_mono (a := un q) (b := 1) (by omega) hb (by omega) (by have := isR_exact 1 q (by omega) hq; rwa [Nat.mul_one] at this) h1
theorem isR_le {a b r q : Nat} (hb : 0 < b) (hq : q ≤ 9218868437227405312) (h : a ≤ un q * b) (h1 : isR a b r) : r ≤ q :=
  isR_mono (a' := un q) (b' := 1) hb (by omega) (by omega) h1 (by have := isR_exact 1 q (by omega) hq; rwa [Nat.mul_one] at this)

theorem cut_even (neg : Bool) (n d : Nat) : Ieee.Toward.even.cut neg n d = n / 2 ^ d + (decide (2 ^ d < 2 * (n % 2 ^ d)) || (decide (2 ^ d = 2 * (n % 2 ^ d)) && decide (n / 2 ^ d % 2 = 1))).toNat := by
  unfold Ieee.Toward.cut
  simp only [Nat.one_shiftLeft]
  have hd := Nat.lt_log2_self (n := n)
  rcases Nat.le_total d (n.log2 + 2) with h | h
  · rw [Nat.min_eq_left h]
    congr 1
  · rw [Nat.min_eq_right h]
    have hp : 2 ^ (n.log2 + 2) ≤ 2 ^ d := Nat.pow_le_pow_right (by omega) h
    have hp1 : 2 ^ (n.log2 + 2) = 2 * 2 ^ (n.log2 + 1) := by rw [Nat.pow_succ, Nat.mul_comm]
    have d1 : n / 2 ^ (n.log2 + 2) = 0 := Nat.div_eq_of_lt (by omega)
    have d2 : n / 2 ^ d = 0 := Nat.div_eq_of_lt (by omega)
    have m1 : n % 2 ^ (n.log2 + 2) = n := Nat.mod_eq_of_lt (by omega)
    have m2 : n % 2 ^ d = n := Nat.mod_eq_of_lt (by omega)
    rw [d1, d2, m1, m2]
    generalize 2 ^ (n.log2 + 2) = t at *
    generalize 2 ^ d = u at *
    generalize 2 ^ (n.log2 + 1) = v at *
    rw [decide_eq_false (show ¬ t < 2 * n by omega), decide_eq_false (show ¬ u < 2 * n by omega), decide_eq_false (show ¬ u = 2 * n by omega)]
    simp

theorem word_mk (neg : Bool) (r : Nat) : Ieee.double.word neg r = mk neg r := by
  unfold Ieee.Format.word mk
  rw [show Ieee.double.signWeight = 9223372036854775808 by decide]

theorem nearest_R (neg : Bool) (mag : Nat) (place : Int) : ∃ r, Ieee.double.nearest neg mag place = mk neg r ∧ isR (mag * 2 ^ (place + 1074).toNat) (2 ^ (-(place + 1074)).toNat) r := by
  by_cases hm : mag = 0
  · subst hm
    refine ⟨0, ?_, ?_⟩
    · simp [Ieee.Format.nearest, word_mk]
    · have := isR_exact (2 ^ (-(place + 1074)).toNat) 0 (two_pos _) (by omega)
      rw [un_zero, Nat.zero_mul] at this
      rwa [Nat.zero_mul]
  · have hlp : Ieee.double.leastPlace = -1074 := by decide
    have hbn : Ieee.double.binade = 4503599627370496 := by decide
    have hin : Ieee.double.infRung = 9218868437227405312 := by decide
    have hfb : Ieee.double.fractionBits = 52 := rfl
    unfold Ieee.Format.nearest
    rw [if_neg hm, hlp, hbn, hin, hfb]
    simp only [word_mk, cut_even]
    have hL1 := Nat.lt_log2_self (n := mag)
    have hL2 := Nat.log2_self_le hm
    generalize hL : mag.log2 = L at *
    obtain ⟨last, hlast⟩ : ∃ last : Int, last = max (place + (L : Int) - (52 : Nat)) (-1074) := ⟨_, rfl⟩
    rw [← hlast]
    obtain ⟨e, he⟩ : ∃ e : Nat, last = (e : Int) - 1074 := ⟨(last + 1074).toNat, by omega⟩
    rw [show (last - -1074).toNat = e by omega]
    rcases Int.le_total last place with hc | hc
    · -- nothing is cut
      obtain ⟨s, hs⟩ : ∃ s : Nat, place = last + s := ⟨(place - last).toNat, by omega⟩
      rw [show (place - last).toNat = s by omega, show (last - place).toNat = 0 by omega, show (place + 1074).toNat = s + e by omega, show (-(place + 1074)).toNat = 0 by omega]
      simp only [Nat.pow_zero, Nat.div_one, Nat.mod_one, Nat.shiftLeft_eq]
      have hs52 : L + s ≤ 52 := by omega
      have hup : mag * 2 ^ s < 9007199254740992 := by
        have : mag * 2 ^ s < 2 ^ (L + 1) * 2 ^ s := Nat.mul_lt_mul_of_pos_right hL1 (two_pos _)
        rw [← Nat.pow_add] at this
        exact Nat.lt_of_lt_of_le this (Nat.pow_le_pow_right (by omega) (show L + 1 + s ≤ 53 by omega))
      have hlo : e = 0 ∨ 4503599627370496 ≤ mag * 2 ^ s := by
        by_cases he0 : e = 0
        · exact .inl he0
        · right
          have : 2 ^ L * 2 ^ s ≤ mag * 2 ^ s := Nat.mul_le_mul_right _ hL2
          rw [← Nat.pow_add, show L + s = 52 by omega] at this
          exact this
      have u0 := un_at e (mag * 2 ^ s) hup hlo
      refine ⟨_, rfl, ?_⟩
      have ha : mag * 2 ^ (s + e) = un (e * 4503599627370496 + mag * 2 ^ s) := by rw [u0, Nat.pow_add, Nat.mul_assoc]
      have hx := un_succ (e * 4503599627370496 + mag * 2 ^ s)
      refine isR_floor _ _ (e * 4503599627370496 + mag * 2 ^ s) _ (by omega) (by rw [ha]; omega) (by rw [ha]; omega) false ?_ (by simp)
      unfold H
      rw [ha]
      simp only [Bool.false_eq_true, false_iff]
      omega
    · obtain ⟨d, hd⟩ : ∃ d : Nat, place = last - d := ⟨(last - place).toNat, by omega⟩
      rw [show (place - last).toNat = 0 by omega, show (last - place).toNat = d by omega, Nat.shiftLeft_zero]
      have hpp : 2 ^ (place + 1074).toNat * 2 ^ d = 2 ^ e * 2 ^ (-(place + 1074)).toNat := by
        rw [← Nat.pow_add, ← Nat.pow_add]
        congr 1
        omega
      obtain ⟨P, hP⟩ : ∃ P, P = 2 ^ (place + 1074).toNat := ⟨_, rfl⟩
      obtain ⟨Q, hQ⟩ : ∃ Q, Q = 2 ^ (-(place + 1074)).toNat := ⟨_, rfl⟩
      rw [← hP, ← hQ] at hpp ⊢
      have hP0 : 0 < P := hP ▸ two_pos _
      have hQ0 : 0 < Q := hQ ▸ two_pos _
      have hdm := Nat.div_add_mod mag (2 ^ d)
      have hml := Nat.mod_lt mag (two_pos d)
      have hup : mag / 2 ^ d < 9007199254740992 := by
        apply Nat.div_lt_of_lt_mul
        refine Nat.lt_of_lt_of_le hL1 ?_
        rw [show (9007199254740992 : Nat) = 2 ^ 53 by decide, ← Nat.pow_add]
        exact Nat.pow_le_pow_right (by omega) (by omega)
      have hlo : e = 0 ∨ 4503599627370496 ≤ mag / 2 ^ d := by
        by_cases he0 : e = 0
        · exact .inl he0
        · right
          rw [Nat.le_div_iff_mul_le (two_pos d)]
          refine Nat.le_trans ?_ hL2
          rw [show (4503599627370496 : Nat) = 2 ^ 52 by decide, ← Nat.pow_add]
          exact Nat.pow_le_pow_right (by omega) (by omega)
      generalize hl : mag / 2 ^ d = l at *
      generalize hrs : mag % 2 ^ d = rs at *
      have u0 := un_at e l hup hlo
      have u1 := un_at1 e l hup hlo
      have hT : 0 < 2 ^ d := two_pos d
      generalize 2 ^ d = T at *
      generalize 2 ^ e = E at *
      have k0 : un (e * 4503599627370496 + l) * Q = T * l * P := by
        rw [u0, Nat.mul_assoc, ← hpp, Nat.mul_comm P T, ← Nat.mul_assoc, Nat.mul_comm l T]
      have k1 : un (e * 4503599627370496 + l + 1) * Q = (T * l + T) * P := by
        rw [u1, Nat.mul_assoc, ← hpp, Nat.mul_comm P T, ← Nat.mul_assoc, Nat.mul_comm (l + 1) T, Nat.mul_add, Nat.mul_one]
      have kH : H (e * 4503599627370496 + l) * Q = (2 * (T * l) + T) * P := by
        unfold H
        rw [Nat.add_mul, k0, k1, ← Nat.add_mul]
        congr 1
        omega
      refine ⟨_, rfl, isR_floor _ _ (e * 4503599627370496 + l) _ hQ0 (by rw [k0, ← hdm]; exact Nat.mul_le_mul_right _ (by omega)) (by rw [k1, ← hdm]; exact Nat.mul_lt_mul_of_pos_right (by omega) hP0) _ ?_ (by rw [Nat.add_assoc])⟩
      rw [kH, ← Nat.mul_assoc 2 mag P, Nat.mul_lt_mul_right hP0, Nat.mul_right_cancel_iff hP0]
      simp only [Bool.or_eq_true, Bool.and_eq_true, decide_eq_true_eq]
      omega
end Go.Proofs.Ytchhnjadnacniaa.Fl
