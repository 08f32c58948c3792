/- Plain facts on binary64 words, no program in sight: division, integers, infinities and NaNs, the sign turned, and operations with every NaN as the one. -/
import Derived.Test.YtchhnjadnacniaaFlB
namespace Go.Proofs.Ytchhnjadnacniaa.Fl

theorem mgpl (k : Nat) : k = pl k * 4503599627370496 + mg k ∧ mg k < 9007199254740992 ∧ (pl k = 0 ∨ 4503599627370496 ≤ mg k) := by
  unfold mg pl
  by_cases h : k < 4503599627370496
  · rw [if_pos h]; omega
  · rw [if_neg h]; omega
theorem H_eq (k : Nat) : H k = (2 * mg k + 1) * 2 ^ pl k := by
  obtain ⟨h1, h2, h3⟩ := mgpl k
  have a0 := un_at (pl k) (mg k) h2 h3
  have a1 := un_at1 (pl k) (mg k) h2 h3
  rw [← h1] at a0 a1
  unfold H
  rw [a0, a1, ← Nat.add_mul]
  congr 1
  omega

theorem div_core (m n Q rem more pi pj r : Nat) (A C p1 p2 : Nat) (hA : A = 2 ^ p1) (hC : C = 2 ^ p2) (hrel : p1 + (pj + more + 1) = p2 + (pi + e1074)) (hn : 0 < n)
    (hdm : m * 2 ^ more = n * Q + rem) (hrem : rem < n) (hQ : 9007199254740992 ≤ Q) (h : isR ((2 * Q + (rem != 0).toNat) * A) C r) : isR (m * 2 ^ pi * U1) (n * 2 ^ pj) r := by
  have hA0 : 0 < A := hA ▸ two_pos _
  have hC0 : 0 < C := hC ▸ two_pos _
  refine ⟨h.1, fun k hk => ?_⟩
  rw [h.2 k hk]
  have hkey : H k * C ≤ 4 * A * Q ∨ 4 * A * (Q + 1) ≤ H k * C := by
    rcases Nat.lt_or_ge (4 * A * Q) (H k * C) with hlt | hge
    · right
      rw [H_eq, hC, Nat.mul_assoc (2 * mg k + 1), ← Nat.pow_add] at hlt
      have hm := (mgpl k).2.1
      have e4 : 4 * A = 2 ^ (p1 + 2) := by rw [hA, Nat.pow_add, Nat.mul_comm]
      have hpl : p1 + 2 ≤ pl k + p2 := by
        rcases Nat.lt_or_ge (pl k + p2) (p1 + 2) with hh | hh
        · exfalso
          have hle : (2 ^ (pl k + p2) : Nat) ≤ 2 ^ (p1 + 1) := Nat.pow_le_pow_right (by omega) (by omega)
          have e5 : (2 : Nat) ^ (p1 + 2) = 2 * 2 ^ (p1 + 1) := by rw [Nat.pow_succ, Nat.mul_comm]
          have l1 : (2 * mg k + 1) * 2 ^ (pl k + p2) ≤ 18014398509481984 * 2 ^ (p1 + 1) := Nat.mul_le_mul (by omega) hle
          have l2 : 2 * 2 ^ (p1 + 1) * 9007199254740992 ≤ 4 * A * Q := by rw [e4, e5]; exact Nat.mul_le_mul_left _ hQ
          generalize 2 ^ (p1 + 1) = t at *
          omega
        · exact hh
      obtain ⟨q, hq⟩ : ∃ q, pl k + p2 = p1 + 2 + q := ⟨pl k + p2 - (p1 + 2), by omega⟩
      have hX : H k * C = 4 * A * ((2 * mg k + 1) * 2 ^ q) := by
        rw [H_eq, hC, Nat.mul_assoc (2 * mg k + 1), ← Nat.pow_add, hq, Nat.pow_add, ← e4, Nat.mul_left_comm]
      rw [hq, Nat.pow_add, ← e4, Nat.mul_left_comm] at hlt
      rw [hX]
      exact Nat.mul_le_mul_left _ (Nat.lt_of_mul_lt_mul_left hlt)
    · exact .inl hge
  have hP : 0 < 2 ^ pj := two_pos _
  have hrhs : 2 * (m * 2 ^ pi * U1) * C = 4 * A * (n * Q + rem) * 2 ^ pj := by
    have e1 : (2 : Nat) ^ p1 * 2 ^ (pj + more + 1) = 2 ^ p2 * (2 ^ pi * U1) := by
      unfold U1
      rw [← Nat.pow_add, ← Nat.pow_add, ← Nat.pow_add, hrel]
    rw [← hA, ← hC, Nat.pow_succ, Nat.pow_add] at e1
    rw [← hdm]
    calc 2 * (m * 2 ^ pi * U1) * C = 2 * m * (C * (2 ^ pi * U1)) := by
          simp only [Nat.mul_assoc, Nat.mul_left_comm, Nat.mul_comm]
      _ = 2 * m * (A * (2 ^ pj * 2 ^ more * 2)) := by rw [e1]
      _ = 4 * A * (m * 2 ^ more) * 2 ^ pj := by
          rw [show (4 : Nat) = 2 * 2 by rfl]
          simp only [Nat.mul_assoc, Nat.mul_left_comm, Nat.mul_comm]
  have hl : H k * (n * 2 ^ pj) * C = H k * C * n * 2 ^ pj := by simp only [Nat.mul_assoc, Nat.mul_left_comm, Nat.mul_comm]
  have c1 : H k * (n * 2 ^ pj) < 2 * (m * 2 ^ pi * U1) ↔ H k * C * n < 4 * A * (n * Q + rem) := by
    rw [← Nat.mul_lt_mul_right hC0, hl, hrhs, Nat.mul_lt_mul_right hP]
  have c2 : H k * (n * 2 ^ pj) = 2 * (m * 2 ^ pi * U1) ↔ H k * C * n = 4 * A * (n * Q + rem) := by
    rw [← Nat.mul_right_cancel_iff hC0, hl, hrhs, Nat.mul_right_cancel_iff hP]
  rw [c1, c2]
  generalize H k * C = X at *
  have e3 : 4 * A * (n * Q + rem) = 4 * A * Q * n + 4 * A * rem := by rw [Nat.mul_add, Nat.mul_assoc (4 * A) Q n, Nat.mul_comm Q n]
  have e4 : 2 * ((2 * Q + (rem != 0).toNat) * A) = 4 * A * Q + 2 * A * (rem != 0).toNat := by
    have s1 : 2 * Q * A = 2 * (A * Q) := by rw [Nat.mul_assoc, Nat.mul_comm Q A]
    have s2 : 4 * A * Q = 4 * (A * Q) := Nat.mul_assoc _ _ _
    rw [Nat.add_mul, Nat.mul_add, s1, s2, Nat.mul_comm _ A, Nat.mul_assoc 2 A]
    omega
  rw [e3, e4]
  have h4A : 0 < 4 * A := by omega
  rcases hkey with hk1 | hk1
  · have l1 := Nat.mul_le_mul_right n hk1
    by_cases h0 : rem = 0
    · subst h0
      simp only [bne_self_eq_false, Bool.toNat_false, Nat.mul_zero, Nat.add_zero]
      rw [Nat.mul_lt_mul_right hn, Nat.mul_right_cancel_iff hn]
    · have : (rem != 0) = true := by simpa using h0
      rw [this, Bool.toNat_true, Nat.mul_one]
      have l2 : 0 < 4 * A * rem := Nat.mul_pos h4A (by omega)
      constructor
      · intro _; left; omega
      · intro _; left; omega
  · have l1 := Nat.mul_le_mul_right n hk1
    rw [Nat.mul_add, Nat.mul_one, Nat.add_mul] at l1
    rw [Nat.mul_add, Nat.mul_one] at hk1
    have l2 : 4 * A * rem < 4 * A * n := Nat.mul_lt_mul_of_pos_left hrem h4A
    have l3 : (rem != 0).toNat ≤ 1 := by cases (rem != 0) <;> simp
    have l4 : 2 * A * (rem != 0).toNat ≤ 2 * A := by
      have := Nat.mul_le_mul_left (2 * A) l3; omega
    constructor
    · intro hh; rcases hh with hh | ⟨hh, _⟩ <;> omega
    · intro hh; rcases hh with hh | ⟨hh, _⟩ <;> omega

theorem div_fin (x y : Nat) (hx : rg x < 9218868437227405312) (hy : rg y < 9218868437227405312) (hy0 : 0 < rg y) :
    ∃ r, D.div x y = some (mk (ng x ^^ ng y) r) ∧ isR (un (rg x) * U1) (un (rg y)) r := by
  unfold Ieee.Format.div
  rw [read_fin x hx, read_fin y hy, show Ieee.double.fractionBits = 52 by rfl]
  have hn0 : 0 < mg (rg y) := by unfold mg; split <;> omega
  unfold Ieee.Datum.quotient
  simp only
  rw [if_neg (by omega)]
  simp only [Option.map_some, Ieee.Format.write]
  have hm53 := (mgpl (rg x)).2.1
  unfold un
  generalize mg (rg x) = m at *
  generalize mg (rg y) = n at *
  generalize pl (rg x) = pi at *
  generalize pl (rg y) = pj at *
  obtain ⟨more, hmore⟩ : ∃ more, more = 52 + 2 + n.log2 - m.log2 := ⟨_, rfl⟩
  rw [← hmore, Nat.shiftLeft_eq]
  obtain ⟨r, hr, hR⟩ := nearest_R (ng x ^^ ng y) (2 * (m * 2 ^ more / n) + (m * 2 ^ more % n != 0).toNat) ((pi : Int) - 1074 - ((pj : Int) - 1074) - (more : Int) - 1)
  refine ⟨r, by rw [hr], ?_⟩
  by_cases hm0 : m = 0
  · subst hm0
    have hz : 2 * (0 * 2 ^ more / n) + (0 * 2 ^ more % n != 0).toNat = 0 := by rw [Nat.zero_mul, Nat.zero_div, Nat.zero_mod]; rfl
    rw [hz, Nat.zero_mul] at hR
    rw [Nat.zero_mul, Nat.zero_mul]
    exact isR_congr (two_pos _) (Nat.mul_pos hn0 (two_pos _)) (by simp) hR
  · have hdm := Nat.div_add_mod (m * 2 ^ more) n
    have hml := Nat.mod_lt (m * 2 ^ more) hn0
    have hQ : 9007199254740992 ≤ m * 2 ^ more / n := by
      rw [Nat.le_div_iff_mul_le hn0]
      have b1 := Nat.log2_self_le hm0
      have b2 := Nat.lt_log2_self (n := n)
      have b3 : m.log2 ≤ 52 := by
        rcases Nat.lt_or_ge 52 m.log2 with hh | hh
        · exfalso
          have : (2 : Nat) ^ 53 ≤ 2 ^ m.log2 := Nat.pow_le_pow_right (by omega) hh
          have e : (2 : Nat) ^ 53 = 9007199254740992 := by decide
          omega
        · exact hh
      calc 9007199254740992 * n ≤ 2 ^ 53 * 2 ^ (n.log2 + 1) := Nat.mul_le_mul (by decide) (Nat.le_of_lt b2)
        _ = 2 ^ m.log2 * 2 ^ more := by rw [← Nat.pow_add, ← Nat.pow_add]; congr 1; omega
        _ ≤ m * 2 ^ more := Nat.mul_le_mul_right _ b1
    have he := e1074_eq
    exact div_core m n _ _ more pi pj r _ _ _ _ rfl rfl (by omega) hn0 hdm.symm hml hQ hR

/-- an integer as a float: rounded. -/
theorem ofInt_R (n : Int) : ∃ r, floatOfInt .f64 n = mk (decide (n < 0)) r ∧ isR (n.natAbs * U1) 1 r := by
  obtain ⟨r, hr, hR⟩ := nearest_R (decide (n < 0)) n.natAbs 0
  have e1 : ((0 : Int) + 1074).toNat = e1074 := by rw [e1074_eq]; rfl
  have e2 : (-((0 : Int) + 1074)).toNat = 0 := rfl
  rw [e1, e2, Nat.pow_zero] at hR
  exact ⟨r, hr, hR⟩
theorem rep (m p : Nat) (h : m < 9007199254740992) : ∃ r, un r = m * 2 ^ p := by
  by_cases h0 : m = 0
  · exact ⟨0, by rw [h0, un_zero, Nat.zero_mul]⟩
  · have b1 := Nat.log2_self_le h0
    have b2 := Nat.lt_log2_self (n := m)
    have b3 : m.log2 ≤ 52 := by
      rcases Nat.lt_or_ge 52 m.log2 with hh | hh
      · exfalso
        have : (2 : Nat) ^ 53 ≤ 2 ^ m.log2 := Nat.pow_le_pow_right (by omega) hh
        have e : (2 : Nat) ^ 53 = 9007199254740992 := by decide
        omega
      · exact hh
    have u53 : ∀ s, s + m.log2 ≤ 52 → m * 2 ^ s < 9007199254740992 := fun s hs => by
      have : m * 2 ^ s < 2 ^ (m.log2 + 1) * 2 ^ s := Nat.mul_lt_mul_of_pos_right b2 (two_pos _)
      rw [← Nat.pow_add] at this
      exact Nat.lt_of_lt_of_le this (Nat.pow_le_pow_right (by omega) (show m.log2 + 1 + s ≤ 53 by omega))
    rcases Nat.le_total p (52 - m.log2) with hp | hp
    · exact ⟨0 * 4503599627370496 + m * 2 ^ p, by rw [un_at 0 (m * 2 ^ p) (u53 p (by omega)) (.inl rfl), Nat.pow_zero, Nat.mul_one]⟩
    · refine ⟨(p - (52 - m.log2)) * 4503599627370496 + m * 2 ^ (52 - m.log2), ?_⟩
      rw [un_at _ _ (u53 _ (by omega)) (.inr ?_), Nat.mul_assoc, ← Nat.pow_add, show 52 - m.log2 + (p - (52 - m.log2)) = p by omega]
      calc 4503599627370496 = 2 ^ m.log2 * 2 ^ (52 - m.log2) := by rw [← Nat.pow_add, show m.log2 + (52 - m.log2) = 52 by omega]
        _ ≤ _ := Nat.mul_le_mul_right _ b1
@[irreducible] def e2045 : Nat := 2045
theorem e2045_eq : e2045 = 2045 := by unfold e2045; rfl
@[irreducible] def e2046 : Nat := 2046
theorem e2046_eq : e2046 = 2046 := by unfold e2046; rfl
theorem e2046_succ : e2046 = e2045 + 1 := by rw [e2046_eq, e2045_eq]
theorem un_I : un 9218868437227405312 = 4503599627370496 * 2 ^ e2046 := by
  have := un_at e2046 4503599627370496 (by omega) (by omega)
  rwa [show e2046 * 4503599627370496 + 4503599627370496 = 9218868437227405312 by rw [e2046_eq]] at this
theorem un_le_I {m p r : Nat} (h : un r = m * 2 ^ p) (hm : m ≤ 9007199254740992) (hp : p ≤ e2045) : r ≤ 9218868437227405312 := by
  rcases Nat.lt_or_ge 9218868437227405312 r with hh | hh
  · exfalso
    have := un_lt hh
    rw [un_I, h] at this
    have l0 : (2 : Nat) ^ p ≤ 2 ^ e2045 := Nat.pow_le_pow_right (by omega) hp
    have l2 : (2 : Nat) ^ e2046 = 2 ^ e2045 * 2 := by rw [e2046_succ, Nat.pow_succ]
    rw [l2] at this
    generalize (2 : Nat) ^ e2045 = t at *
    have l1 : m * 2 ^ p ≤ 9007199254740992 * t := Nat.mul_le_mul hm l0
    omega
  · exact hh
theorem un_lt_I {r : Nat} (h : un r < un 9218868437227405312) : r < 9218868437227405312 := un_lt_iff.1 h

theorem ofInt_exact (n : Int) (h : n.natAbs ≤ 9007199254740991) : ∃ r, floatOfInt .f64 n = mk (decide (n < 0)) r ∧ un r = n.natAbs * U1 ∧ r < 9218868437227405312 := by
  obtain ⟨r, hr, hR⟩ := ofInt_R n
  obtain ⟨q, hq⟩ := rep n.natAbs e1074 (by omega)
  have hqI : q < 9218868437227405312 := by
    apply un_lt_I
    rw [un_I, hq]
    calc n.natAbs * 2 ^ e1074 < 9007199254740992 * 2 ^ e1074 := Nat.mul_lt_mul_of_pos_right (by omega) (two_pos _)
      _ = 4503599627370496 * 2 ^ (e1074 + 1) := by rw [Nat.pow_succ, show (9007199254740992 : Nat) = 4503599627370496 * 2 by omega, Nat.mul_assoc, Nat.mul_comm 2]
      _ ≤ _ := Nat.mul_le_mul_left _ (Nat.pow_le_pow_right (by omega) (by rw [e1074_eq, e2046_eq]; omega))
  have : r = q := isR_at (by omega) (by omega) (by rw [hq]; unfold U1; omega) hR
  subst this
  exact ⟨r, hr, hq, hqI⟩

/-- the sign turned: what Go's '-x' gives. -/
theorem neg_rg (y : Nat) : rg (y ^^^ 9223372036854775808) = rg y := by
  unfold rg
  rw [show (9223372036854775808 : Nat) = 2 ^ 63 by decide, Nat.xor_mod_two_pow, Nat.mod_self, Nat.xor_zero]
theorem neg_ng (y : Nat) : ng (y ^^^ 9223372036854775808) = !ng y := by
  unfold ng
  have h1 : (y ^^^ 9223372036854775808) / 9223372036854775808 = (y / 9223372036854775808) ^^^ 1 := by
    have := Nat.xor_div_two_pow (a := y) (b := 2 ^ 63) (n := 63)
    simpa using this
  rw [h1]
  generalize y / 9223372036854775808 = t
  have h2 := @Nat.xor_mod_two_eq_one t 1
  rcases Nat.mod_two_eq_zero_or_one t with h | h
  · have : (t ^^^ 1) % 2 = 1 := h2.2 (by omega)
    rw [h, this]; rfl
  · have : (t ^^^ 1) % 2 = 0 := by
      rcases Nat.mod_two_eq_zero_or_one (t ^^^ 1) with g | g
      · exact g
      · have := h2.1 g; omega
    rw [h, this]; rfl
theorem neg_lt (y : Nat) (h : y < 18446744073709551616) : y ^^^ 9223372036854775808 < 18446744073709551616 := by
  rw [show (18446744073709551616 : Nat) = 2 ^ 64 by decide] at h ⊢
  exact Nat.xor_lt_two_pow h (by decide)
theorem neg_mk (y : Nat) (h : y < 18446744073709551616) : y ^^^ 9223372036854775808 = mk (!ng y) (rg y) := by
  have := mk_eq _ (neg_lt y h)
  rw [neg_ng, neg_rg] at this
  exact this.symm
theorem neg_su (y : Nat) : su (y ^^^ 9223372036854775808) = - su y := by
  unfold su
  rw [neg_ng, neg_rg]
  cases ng y <;> simp
theorem neg_sk (y : Nat) : sk (y ^^^ 9223372036854775808) = - sk y := by
  unfold sk
  rw [neg_ng, neg_rg]
  cases ng y <;> simp
theorem read_neg (y : Nat) : Ieee.double.read (y ^^^ 9223372036854775808) = (Ieee.double.read y).opposite := by
  have e1 := neg_rg y
  have e2 := neg_ng y
  rcases Nat.lt_trichotomy (rg y) 9218868437227405312 with h | h | h
  · rw [read_fin y h, read_fin _ (by rw [e1]; exact h), e1, e2]; rfl
  · rw [read_inf y h, read_inf _ (by rw [e1]; exact h), e2]; rfl
  · rw [read_nan y h, read_nan _ (by rw [e1]; exact h), e1, e2]; rfl
theorem sub_add (x y : Nat) : D.sub x y = D.add x (y ^^^ 9223372036854775808) := by
  unfold Ieee.Format.sub Ieee.Format.add
  rw [read_neg]

/-- NaNs and infinities. -/
theorem add_nan (x y : Nat) (h : 9218868437227405312 < rg x ∨ 9218868437227405312 < rg y) : D.add x y = none := by
  unfold Ieee.Format.add Ieee.Datum.sum
  rcases h with h | h
  · rw [read_nan x h]; rfl
  · rw [read_nan y h]; cases Ieee.double.read x <;> rfl
theorem add_inf_l (x y : Nat) (hx : rg x = 9218868437227405312) (hy : rg y < 9218868437227405312) : D.add x y = some (mk (ng x) 9218868437227405312) := by
  unfold Ieee.Format.add Ieee.Datum.sum
  rw [read_inf x hx, read_fin y hy]
  rfl
theorem add_inf_r (x y : Nat) (hx : rg x < 9218868437227405312) (hy : rg y = 9218868437227405312) : D.add x y = some (mk (ng y) 9218868437227405312) := by
  unfold Ieee.Format.add Ieee.Datum.sum
  rw [read_fin x hx, read_inf y hy]
  rfl
theorem add_inf_inf (x y : Nat) (hx : rg x = 9218868437227405312) (hy : rg y = 9218868437227405312) : D.add x y = if ng x = ng y then some (mk (ng x) 9218868437227405312) else none := by
  unfold Ieee.Format.add Ieee.Datum.sum
  rw [read_inf x hx, read_inf y hy]
  simp only
  split <;> rfl
theorem mul_nan (x y : Nat) (h : 9218868437227405312 < rg x ∨ 9218868437227405312 < rg y) : D.mul x y = none := by
  unfold Ieee.Format.mul Ieee.Datum.product
  rcases h with h | h
  · rw [read_nan x h]; rfl
  · rw [read_nan y h]; cases Ieee.double.read x <;> rfl
theorem mg_zero (r : Nat) : mg r = 0 ↔ r = 0 := by unfold mg; split <;> omega
theorem mul_inf_l (x y : Nat) (hx : rg x = 9218868437227405312) (hy : rg y < 9218868437227405312) : D.mul x y = if rg y = 0 then none else some (mk (ng x ^^ ng y) 9218868437227405312) := by
  unfold Ieee.Format.mul Ieee.Datum.product
  rw [read_inf x hx, read_fin y hy]
  simp only [mg_zero]
  split <;> rfl
theorem mul_inf_r (x y : Nat) (hx : rg x < 9218868437227405312) (hy : rg y = 9218868437227405312) : D.mul x y = if rg x = 0 then none else some (mk (ng x ^^ ng y) 9218868437227405312) := by
  unfold Ieee.Format.mul Ieee.Datum.product
  rw [read_fin x hx, read_inf y hy]
  simp only [mg_zero]
  rw [Bool.xor_comm]
  split <;> rfl
theorem mul_inf_inf (x y : Nat) (hx : rg x = 9218868437227405312) (hy : rg y = 9218868437227405312) : D.mul x y = some (mk (ng x ^^ ng y) 9218868437227405312) := by
  unfold Ieee.Format.mul Ieee.Datum.product
  rw [read_inf x hx, read_inf y hy]
  rfl
theorem div_nan (x y : Nat) (h : 9218868437227405312 < rg x ∨ 9218868437227405312 < rg y) : D.div x y = none := by
  unfold Ieee.Format.div Ieee.Datum.quotient
  rcases h with h | h
  · rw [read_nan x h]; rfl
  · rw [read_nan y h]; cases Ieee.double.read x <;> rfl
theorem div_inf_inf (x y : Nat) (hx : rg x = 9218868437227405312) (hy : rg y = 9218868437227405312) : D.div x y = none := by
  unfold Ieee.Format.div Ieee.Datum.quotient
  rw [read_inf x hx, read_inf y hy]
  rfl
theorem div_inf_l (x y : Nat) (hx : rg x = 9218868437227405312) (hy : rg y < 9218868437227405312) : D.div x y = some (mk (ng x ^^ ng y) 9218868437227405312) := by
  unfold Ieee.Format.div Ieee.Datum.quotient
  rw [read_inf x hx, read_fin y hy]
  rfl
theorem div_inf_r (x y : Nat) (hx : rg x < 9218868437227405312) (hy : rg y = 9218868437227405312) : D.div x y = some (mk (ng x ^^ ng y) 0) := by
  unfold Ieee.Format.div Ieee.Datum.quotient
  rw [read_fin x hx, read_inf y hy]
  simp only [Option.map_some, Ieee.Format.write]
  unfold Ieee.Format.nearest
  rw [if_pos rfl, word_mk]
theorem div_zero (x y : Nat) (hx : rg x < 9218868437227405312) (hy : rg y = 0) : D.div x y = if rg x = 0 then none else some (mk (ng x ^^ ng y) 9218868437227405312) := by
  unfold Ieee.Format.div Ieee.Datum.quotient
  rw [read_fin x hx, read_fin y (by omega)]
  simp only
  rw [if_pos ((mg_zero _).2 hy)]
  simp only [mg_zero]
  split <;> rfl
end Go.Proofs.Ytchhnjadnacniaa.Fl
