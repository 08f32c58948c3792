/- Plain facts on binary64 words, no program in sight: the order of words, and what +, -, *, / and the way from an integer give, each as a rounding. -/
import Derived.Test.YtchhnjadnacniaaFlA
namespace Go.Proofs.Ytchhnjadnacniaa.Fl

abbrev D : Ieee.Format := Ieee.double

theorem read_fin (x : Nat) (h : rg x < 9218868437227405312) : Ieee.double.read x = .number (ng x) (mg (rg x)) ((pl (rg x) : Int) - 1074) := by
  unfold Ieee.Format.read
  rw [show Ieee.double.signWeight = 9223372036854775808 by decide, show Ieee.double.leastPlace = -1074 by decide, show Ieee.double.binade = 4503599627370496 by decide, show Ieee.double.infRung = 9218868437227405312 by decide]
  simp only
  change (if rg x < 4503599627370496 then Ieee.Datum.number (ng x) (rg x) (-1074) else _) = _
  unfold mg pl
  by_cases h1 : rg x < 4503599627370496
  · rw [if_pos h1, if_pos h1, show rg x / 4503599627370496 - 1 = 0 by omega]
    rfl
  · rw [if_neg h1, if_neg h1]
    change (if rg x < 9218868437227405312 then Ieee.Datum.number (ng x) (4503599627370496 + rg x % 4503599627370496) (-1074 + ((rg x / 4503599627370496 - 1 : Nat) : Int)) else _) = _
    rw [if_pos h, Int.add_comm]
    rfl
theorem read_inf (x : Nat) (h : rg x = 9218868437227405312) : Ieee.double.read x = .infinity (ng x) := by
  unfold Ieee.Format.read
  rw [show Ieee.double.signWeight = 9223372036854775808 by decide, show Ieee.double.binade = 4503599627370496 by decide, show Ieee.double.infRung = 9218868437227405312 by decide]
  simp only
  change (if rg x < 4503599627370496 then _ else if rg x < 9218868437227405312 then _ else if rg x = 9218868437227405312 then Ieee.Datum.infinity (ng x) else _) = _
  rw [if_neg (by omega), if_neg (by omega), if_pos h]
theorem read_nan (x : Nat) (h : 9218868437227405312 < rg x) : Ieee.double.read x = .nan (ng x) (rg x - 9218868437227405312) := by
  unfold Ieee.Format.read
  rw [show Ieee.double.signWeight = 9223372036854775808 by decide, show Ieee.double.binade = 4503599627370496 by decide, show Ieee.double.infRung = 9218868437227405312 by decide]
  simp only
  change (if rg x < 4503599627370496 then _ else if rg x < 9218868437227405312 then _ else if rg x = 9218868437227405312 then _ else Ieee.Datum.nan (ng x) (rg x - 9218868437227405312)) = _
  rw [if_neg (by omega), if_neg (by omega), if_neg (by omega)]

theorem rg_lt (x : Nat) : rg x < 9223372036854775808 := Nat.mod_lt _ (by omega)
theorem rg_mk (s : Bool) (r : Nat) (h : r < 9223372036854775808) : rg (mk s r) = r := by
  unfold rg mk
  cases s <;> simp <;> omega
theorem ng_mk (s : Bool) (r : Nat) (h : r < 9223372036854775808) : ng (mk s r) = s := by
  unfold ng mk
  cases s <;> simp <;> omega
theorem mk_eq (x : Nat) (h : x < 18446744073709551616) : mk (ng x) (rg x) = x := by
  unfold mk ng rg
  by_cases h1 : x / 9223372036854775808 % 2 = 1
  · rw [show (x / 9223372036854775808 % 2 == 1) = true by simpa using h1]; simp; omega
  · rw [show (x / 9223372036854775808 % 2 == 1) = false by simpa using h1]; simp; omega

theorem signed_su (x c : Nat) (hc : c ≤ pl (rg x)) : su x = Ieee.signed (ng x) (mg (rg x)) (pl (rg x) - c) * ((2 ^ c : Nat) : Int) := by
  unfold su Ieee.signed un
  have h : mg (rg x) * 2 ^ pl (rg x) = mg (rg x) <<< (pl (rg x) - c) * 2 ^ c := by
    rw [Nat.shiftLeft_eq, Nat.mul_assoc, ← Nat.pow_add, Nat.sub_add_cancel hc]
  rw [h]
  cases ng x
  · simp only [Bool.false_eq_true, if_false]; rw [Int.natCast_mul]
  · simp only [if_true]; rw [Int.natCast_mul, Int.neg_mul]

theorem cmp_lt {a b : Int} (h : a < b) : compare a b = .lt := by simp [compare, compareOfLessAndEq, h]
theorem cmp_eq (a : Int) : compare a a = .eq := by simp [compare, compareOfLessAndEq]
theorem cmp_gt {a b : Int} (h : b < a) : compare a b = .gt := by
  simp only [compare, compareOfLessAndEq]
  rw [if_neg (by omega), if_neg (by omega)]
theorem cmp_scale (a b : Int) (c : Nat) (hc : 0 < c) : compare (a * (c : Int)) (b * (c : Int)) = compare a b := by
  have hc' : (0 : Int) < c := by omega
  rcases Int.lt_trichotomy a b with h | h | h
  · rw [cmp_lt h, cmp_lt (Int.mul_lt_mul_of_pos_right h hc')]
  · rw [h, cmp_eq, cmp_eq]
  · rw [cmp_gt h, cmp_gt (Int.mul_lt_mul_of_pos_right h hc')]
theorem su_sk (x y : Nat) : compare (su x) (su y) = compare (sk x) (sk y) := by
  have h0 := un_zero
  have h1 := @un_lt_iff (rg x) (rg y)
  have h2 := @un_lt_iff (rg y) (rg x)
  have h3 : un (rg x) = un (rg y) ↔ rg x = rg y := ⟨un_inj, fun h => by rw [h]⟩
  have p1 := @un_lt_iff 0 (rg x)
  have p2 := @un_lt_iff 0 (rg y)
  rw [un_zero] at p1 p2
  unfold su sk
  generalize un (rg x) = a at *
  generalize un (rg y) = b at *
  cases ng x <;> cases ng y <;> simp only [Bool.false_eq_true, if_false, if_true]
  · rcases Nat.lt_trichotomy (rg x) (rg y) with h | h | h
    · rw [cmp_lt (show (rg x : Int) < rg y by omega), cmp_lt (by omega)]
    · rw [h, h3.2 h, cmp_eq, cmp_eq]
    · rw [cmp_gt (show (rg y : Int) < rg x by omega), cmp_gt (by omega)]
  · by_cases h : rg x = 0 ∧ rg y = 0
    · rw [show (rg x : Int) = 0 by omega, show (rg y : Int) = 0 by omega, show (a : Int) = 0 by omega, show (b : Int) = 0 by omega]
    · rw [cmp_gt (show -(rg y : Int) < rg x by omega), cmp_gt (by omega)]
  · by_cases h : rg x = 0 ∧ rg y = 0
    · rw [show (rg x : Int) = 0 by omega, show (rg y : Int) = 0 by omega, show (a : Int) = 0 by omega, show (b : Int) = 0 by omega]
    · rw [cmp_lt (show -(rg x : Int) < rg y by omega), cmp_lt (by omega)]
  · rcases Nat.lt_trichotomy (rg x) (rg y) with h | h | h
    · rw [cmp_gt (show -(rg y : Int) < -(rg x : Int) by omega), cmp_gt (by omega)]
    · rw [h, h3.2 h, cmp_eq, cmp_eq]
    · rw [cmp_lt (show -(rg x : Int) < -(rg y : Int) by omega), cmp_lt (by omega)]

theorem order_sk (x y : Nat) (hx : rg x ≤ 9218868437227405312) (hy : rg y ≤ 9218868437227405312) : D.order x y = some (compare (sk x) (sk y)) := by
  unfold Ieee.Format.order
  by_cases h1 : rg x < 9218868437227405312 <;> by_cases h2 : rg y < 9218868437227405312
  · rw [read_fin x h1, read_fin y h2, ← su_sk]
    unfold Ieee.Datum.order
    simp only
    rw [signed_su x (min (pl (rg x)) (pl (rg y))) (Nat.min_le_left _ _), signed_su y (min (pl (rg x)) (pl (rg y))) (Nat.min_le_right _ _), cmp_scale _ _ _ (two_pos _)]
    congr 3 <;> omega
  · rw [read_fin x h1, read_inf y (by omega)]
    unfold Ieee.Datum.order
    simp only
    congr 1
    have : rg y = 9218868437227405312 := by omega
    unfold sk
    cases ng y <;> simp only [Bool.false_eq_true, if_false, if_true]
    · rw [cmp_lt]; split <;> omega
    · rw [cmp_gt]; split <;> omega
  · rw [read_inf x (by omega), read_fin y h2]
    unfold Ieee.Datum.order
    simp only
    congr 1
    unfold sk
    cases ng x <;> simp only [Bool.false_eq_true, if_false, if_true]
    · rw [cmp_gt]; split <;> omega
    · rw [cmp_lt]; split <;> omega
  · rw [read_inf x (by omega), read_inf y (by omega)]
    unfold Ieee.Datum.order
    simp only
    congr 1
    have e1 : rg x = 9218868437227405312 := by omega
    have e2 : rg y = 9218868437227405312 := by omega
    unfold sk
    rw [e1, e2]
    cases ng x <;> cases ng y <;> decide
theorem order_nan_l (x y : Nat) (h : 9218868437227405312 < rg x) : D.order x y = none := by
  unfold Ieee.Format.order
  rw [read_nan x h]
  unfold Ieee.Datum.order
  simp only
theorem order_nan_r (x y : Nat) (h : 9218868437227405312 < rg y) : D.order x y = none := by
  unfold Ieee.Format.order
  rw [read_nan y h]
  unfold Ieee.Datum.order
  cases Ieee.double.read x <;> simp only

/-- the six comparisons, as the walk writes them. -/
theorem o_lt (x y : Nat) : (D.order x y == some .lt) = (decide (rg x ≤ 9218868437227405312) && decide (rg y ≤ 9218868437227405312) && decide (sk x < sk y)) := by
  by_cases h1 : rg x ≤ 9218868437227405312
  · by_cases h2 : rg y ≤ 9218868437227405312
    · rw [order_sk x y h1 h2]
      rcases Int.lt_trichotomy (sk x) (sk y) with h | h | h
      · rw [cmp_lt h]; simp [h1, h2, h]
      · rw [h, cmp_eq]; simp
      · rw [cmp_gt h]; simp; omega
    · rw [order_nan_r x y (by omega)]; simp [h2]
  · rw [order_nan_l x y (by omega)]; simp [h1]
theorem o_eq (x y : Nat) : (D.order x y == some .eq) = (decide (rg x ≤ 9218868437227405312) && decide (rg y ≤ 9218868437227405312) && decide (sk x = sk y)) := by
  by_cases h1 : rg x ≤ 9218868437227405312
  · by_cases h2 : rg y ≤ 9218868437227405312
    · rw [order_sk x y h1 h2]
      rcases Int.lt_trichotomy (sk x) (sk y) with h | h | h
      · rw [cmp_lt h]; simp; omega
      · rw [h, cmp_eq]; simp [h1, h2]
      · rw [cmp_gt h]; simp; omega
    · rw [order_nan_r x y (by omega)]; simp [h2]
  · rw [order_nan_l x y (by omega)]; simp [h1]
theorem o_gt (x y : Nat) : (D.order x y == some .gt) = (decide (rg x ≤ 9218868437227405312) && decide (rg y ≤ 9218868437227405312) && decide (sk y < sk x)) := by
  by_cases h1 : rg x ≤ 9218868437227405312
  · by_cases h2 : rg y ≤ 9218868437227405312
    · rw [order_sk x y h1 h2]
      rcases Int.lt_trichotomy (sk x) (sk y) with h | h | h
      · rw [cmp_lt h]; simp; omega
      · rw [h, cmp_eq]; simp
      · rw [cmp_gt h]; simp [h1, h2, h]
    · rw [order_nan_r x y (by omega)]; simp [h2]
  · rw [order_nan_l x y (by omega)]; simp [h1]
theorem o_ne (x y : Nat) : (D.order x y != some .eq) = !(decide (rg x ≤ 9218868437227405312) && decide (rg y ≤ 9218868437227405312) && decide (sk x = sk y)) := by
  rw [bne, o_eq]
theorem o_self (x : Nat) : (D.order x x != some .eq) = decide (9218868437227405312 < rg x) := by
  rw [o_ne]
  by_cases h : rg x ≤ 9218868437227405312
  · simp [h]
  · simp [h]; omega

theorem isR_congr {a b a' b' r : Nat} (hb : 0 < b) (hb' : 0 < b') (h : a * b' = a' * b) (h1 : isR a b r) : isR a' b' r := by
  refine ⟨h1.1, fun k hk => ?_⟩
  rw [h1.2 k hk]
  have e0 : 2 * a * b' = 2 * a' * b := by rw [Nat.mul_assoc, Nat.mul_assoc, h]
  have e1 : H k * b < 2 * a ↔ H k * b' < 2 * a' := by
    rw [← Nat.mul_lt_mul_right hb' (b := H k * b), ← Nat.mul_lt_mul_right hb (b := H k * b'), e0, Nat.mul_right_comm]
  have e2 : H k * b = 2 * a ↔ H k * b' = 2 * a' := by
    have c1 : H k * b * b' = 2 * a * b' ↔ H k * b = 2 * a := Nat.mul_right_cancel_iff hb'
    have c2 : H k * b' * b = 2 * a' * b ↔ H k * b' = 2 * a' := Nat.mul_right_cancel_iff hb
    rw [← c1, ← c2, e0, Nat.mul_right_comm]
  rw [e1, e2]

theorem add_fin (x y : Nat) (hx : rg x < 9218868437227405312) (hy : rg y < 9218868437227405312) :
    ∃ r, D.add x y = some (mk (if su x + su y = 0 then ng x && ng y else decide (su x + su y < 0)) r) ∧ isR (su x + su y).natAbs 1 r := by
  unfold Ieee.Format.add
  rw [read_fin x hx, read_fin y hy]
  unfold Ieee.Datum.sum
  simp only [Option.map_some, Ieee.Format.write]
  have g1 := signed_su x (min (pl (rg x)) (pl (rg y))) (Nat.min_le_left _ _)
  have g2 := signed_su y (min (pl (rg x)) (pl (rg y))) (Nat.min_le_right _ _)
  have hbase : min ((pl (rg x) : Int) - 1074) ((pl (rg y) : Int) - 1074) = ((min (pl (rg x)) (pl (rg y)) : Nat) : Int) - 1074 := by omega
  rw [hbase, show ((pl (rg x) : Int) - 1074 - (((min (pl (rg x)) (pl (rg y)) : Nat) : Int) - 1074)).toNat = pl (rg x) - min (pl (rg x)) (pl (rg y)) by omega,
    show ((pl (rg y) : Int) - 1074 - (((min (pl (rg x)) (pl (rg y)) : Nat) : Int) - 1074)).toNat = pl (rg y) - min (pl (rg x)) (pl (rg y)) by omega]
  generalize Ieee.signed (ng x) (mg (rg x)) (pl (rg x) - min (pl (rg x)) (pl (rg y))) = t1 at *
  generalize Ieee.signed (ng y) (mg (rg y)) (pl (rg y) - min (pl (rg x)) (pl (rg y))) = t2 at *
  generalize min (pl (rg x)) (pl (rg y)) = c at *
  have hs : su x + su y = (t1 + t2) * ((2 ^ c : Nat) : Int) := by rw [g1, g2, Int.add_mul]
  rw [hs]
  have hcp : (0 : Int) < ((2 ^ c : Nat) : Int) := by have := two_pos c; omega
  obtain ⟨r, hr, hR⟩ := nearest_R (if t1 + t2 = 0 then ng x && ng y else decide (t1 + t2 < 0)) (t1 + t2).natAbs ((c : Int) - 1074)
  refine ⟨r, ?_, ?_⟩
  · rw [hr]
    congr 2
    by_cases h0 : t1 + t2 = 0
    · rw [if_pos h0, h0, Int.zero_mul, if_pos rfl]
    · rw [if_neg h0, if_neg (Int.mul_ne_zero h0 (by omega))]
      rcases Int.lt_or_gt_of_ne h0 with h1 | h1
      · rw [decide_eq_true h1, decide_eq_true]
        have := Int.mul_lt_mul_of_pos_right h1 hcp
        rwa [Int.zero_mul] at this
      · have := Int.mul_lt_mul_of_pos_right h1 hcp
        rw [Int.zero_mul] at this
        rw [decide_eq_false (by omega), decide_eq_false (by omega)]
  · rw [show ((c : Int) - 1074 + 1074).toNat = c by omega, show (-((c : Int) - 1074 + 1074)).toNat = 0 by omega, Nat.pow_zero] at hR
    rwa [Int.natAbs_mul, Int.natAbs_natCast]

@[irreducible] def e1074 : Nat := 1074
theorem e1074_eq : e1074 = 1074 := by unfold e1074; rfl
/-- a one, in units of 2^-1074. -/
def U1 : Nat := 2 ^ e1074
theorem U1_pos : 0 < U1 := two_pos _

theorem mul_fin (x y : Nat) (hx : rg x < 9218868437227405312) (hy : rg y < 9218868437227405312) :
    ∃ r, D.mul x y = some (mk (ng x ^^ ng y) r) ∧ isR (un (rg x) * un (rg y)) U1 r := by
  unfold Ieee.Format.mul
  rw [read_fin x hx, read_fin y hy]
  unfold Ieee.Datum.product
  simp only [Option.map_some, Ieee.Format.write]
  obtain ⟨r, hr, hR⟩ := nearest_R (ng x ^^ ng y) (mg (rg x) * mg (rg y)) ((pl (rg x) : Int) - 1074 + ((pl (rg y) : Int) - 1074))
  refine ⟨r, by rw [hr], isR_congr (two_pos _) U1_pos ?_ hR⟩
  unfold un U1
  generalize mg (rg x) = m
  generalize mg (rg y) = n
  rw [show m * 2 ^ pl (rg x) * (n * 2 ^ pl (rg y)) = m * n * (2 ^ pl (rg x) * 2 ^ pl (rg y)) by rw [Nat.mul_mul_mul_comm], Nat.mul_assoc (m * n), Nat.mul_assoc (m * n), ← Nat.pow_add, ← Nat.pow_add, ← Nat.pow_add]
  congr 2
  have := e1074_eq
  omega
end Go.Proofs.Ytchhnjadnacniaa.Fl
