/- Plain facts on binary64 words, no program in sight: a sum of numbers that are not too great stays finite; whole numbers are summed exactly. -/
import Derived.Test.YthiiicgibcgipaaFlS
import Derived.Test.YthiiicgibcgipaaFlN
namespace Go.Proofs.Ythiiicgibcgipaa.Fl
set_option linter.unusedSimpArgs false

theorem fsub_add (x y : Nat) : fop .sub x y = fop .add x (flipV y) := by
  rw [fop_sub, fop_add]
  unfold fsub fadd flipV
  rw [show Ieee.double.sub x y = Ieee.double.add x (y ^^^ 9223372036854775808) from sub_add x y]
theorem fadd_fin {x y : Nat} (hx : rg x < 9218868437227405312) (hy : rg y < 9218868437227405312) :
    ∃ r, fop .add x y = mk (if su x + su y = 0 then ng x && ng y else decide (su x + su y < 0)) r ∧ isR (su x + su y).natAbs 1 r := by
  obtain ⟨r, h1, h2⟩ := add_fin x y hx hy
  refine ⟨r, ?_, h2⟩
  rw [fop_add]
  unfold fadd
  rw [show Ieee.double.add x y = _ from h1]
  rfl
theorem su_abs (x : Nat) : (su x).natAbs = un (rg x) := by unfold su; split <;> omega
theorem mk_rg {b : Bool} {r : Nat} (h : r ≤ 9218868437227405312) : rg (mk b r) = r := rg_mk b r (by omega)
theorem su_mk {b : Bool} {r : Nat} (h : r ≤ 9218868437227405312) : su (mk b r) = if b then -(un r : Int) else (un r : Int) := by
  unfold su; rw [mk_rg h, ng_mk _ _ (by omega)]
/-- a sum whose true value is no more than that of a rung is no more than it. -/
theorem add_le {x y q : Nat} (hx : rg x < 9218868437227405312) (hy : rg y < 9218868437227405312) (hq : q ≤ 9218868437227405312) (h : (su x + su y).natAbs ≤ un q) : rg (fop .add x y) ≤ q := by
  obtain ⟨r, h1, h2⟩ := fadd_fin hx hy
  rw [h1, mk_rg h2.1]
  exact isR_le (by omega) hq (by omega) h2
/-- a sum that is a number is that number. -/
theorem add_exact {x y q : Nat} (hx : rg x < 9218868437227405312) (hy : rg y < 9218868437227405312) (hq : q < 9218868437227405312) (h : (su x + su y).natAbs = un q) :
    rg (fop .add x y) = q ∧ su (fop .add x y) = su x + su y := by
  obtain ⟨r, h1, h2⟩ := fadd_fin hx hy
  have hr : r = q := isR_at (by omega) (by omega) (by omega) h2
  subst hr
  rw [h1, mk_rg h2.1, su_mk h2.1]
  refine ⟨rfl, ?_⟩
  generalize su x + su y = z at *
  by_cases h0 : z = 0
  · have : un r = 0 := by rw [← h, h0]; rfl
    rw [this, h0]
    simp
  · rw [if_neg h0]
    by_cases h3 : z < 0
    · rw [decide_eq_true h3]; simp only [if_true]; omega
    · rw [decide_eq_false h3]; simp only [Bool.false_eq_true, if_false]; omega

/-- finite, and no more than m * 2^p units. -/
def Bd (p m x : Nat) : Prop := rg x < 9218868437227405312 ∧ un (rg x) ≤ m * 2 ^ p
theorem Bd.mono {p m k x : Nat} (h : Bd p m x) (hk : m ≤ k) : Bd p k x := ⟨h.1, Nat.le_trans h.2 (Nat.mul_le_mul_right _ hk)⟩
theorem Bd.flip {p m x : Nat} (h : Bd p m x) : Bd p m (flipV x) := by unfold Bd; rw [flip_rg]; exact h
theorem Bd.add {p a b x y : Nat} (hx : Bd p a x) (hy : Bd p b y) (hp : p ≤ 2071) (hab : a + b ≤ 67108864) : Bd p (a + b) (fop .add x y) := by
  obtain ⟨q, hq⟩ := rep (a + b) p (by omega)
  have e26 : (67108864 : Nat) = 2 ^ 26 := by decide
  have hlt : q < 9218868437227405312 := by
    apply un_lt_I
    have e46 := e2046_eq
    rw [hq, un_I, show (4503599627370496 : Nat) = 2 ^ 52 by decide, ← Nat.pow_add]
    calc (a + b) * 2 ^ p ≤ 2 ^ 26 * 2 ^ p := Nat.mul_le_mul_right _ (by omega)
      _ = 2 ^ (26 + p) := by rw [Nat.pow_add]
      _ < 2 ^ (52 + e2046) := Nat.pow_lt_pow_right (by omega) (by omega)
  have hle : rg (fop .add x y) ≤ q := by
    refine add_le hx.1 hy.1 (by omega) ?_
    have h1 := su_abs x
    have h2 := su_abs y
    have h3 := hx.2
    have h4 := hy.2
    rw [hq, Nat.add_mul]
    omega
  exact ⟨by omega, by rw [← hq]; exact un_le hle⟩
theorem Bd.sub {p a b x y : Nat} (hx : Bd p a x) (hy : Bd p b y) (hp : p ≤ 2071) (hab : a + b ≤ 67108864) : Bd p (a + b) (fop .sub x y) := by
  rw [fsub_add]; exact hx.add hy.flip hp hab
theorem Bd.zero (p : Nat) : Bd p 0 0 := ⟨by decide, by rw [show rg 0 = 0 from rfl, un_zero]; omega⟩
/-- so the sum of k numbers of which each is no more than 2^p. -/
theorem part_Bd {p : Nat} (hp : p ≤ 2071) (l : List Nat) (h : ∀ x ∈ l, Bd p 1 x) : ∀ k, k ≤ l.length → k ≤ 300 → Bd p k (partV (l.take k)).1 ∧ Bd p (k * (k + 1)) (partV (l.take k)).2 := by
  intro k
  induction k with
  | zero => intro _ _; exact ⟨Bd.zero p, Bd.zero p⟩
  | succ k ih =>
    intro hk h3
    obtain ⟨h1, h2⟩ := ih (by omega) (by omega)
    rw [partV_take (by omega)]
    have hx := h _ (List.getElem_mem (show k < l.length by omega))
    generalize l[k] = x at *
    have hkk : k * (k + 1) ≤ 300 * 300 := Nat.mul_le_mul (by omega) (by omega)
    have ht := h1.add hx hp (by omega)
    have e : (k + 1) * (k + 1 + 1) = k * (k + 1) + (k + (k + 1) + 1) := by
      rw [Nat.add_mul, Nat.mul_add, Nat.mul_add, Nat.mul_add]; omega
    refine ⟨ht, ?_⟩
    rw [e]
    unfold stepV
    simp only
    refine h2.add ?_ hp (by omega)
    split
    · exact (h1.sub ht hp (by omega)).add hx hp (by omega)
    · exact ((hx.sub ht hp (by omega)).add h1 hp (by omega)).mono (by omega)
theorem sum_fin {p : Nat} (hp : p ≤ 2071) (l : List Nat) (h : ∀ x ∈ l, Bd p 1 x) (hn : l.length ≤ 300) : rg (sumV l) < 9218868437227405312 := by
  unfold sumV endV
  split
  · decide
  · have := part_Bd hp l h l.length (Nat.le_refl _) hn
    rw [List.take_of_length_le (Nat.le_refl _)] at this
    have hkk : l.length * (l.length + 1) ≤ 300 * 301 := Nat.mul_le_mul (by omega) (by omega)
    rw [if_neg (by have := this.2.1; omega)]
    exact (this.1.add this.2 hp (by omega)).1
end Go.Proofs.Ythiiicgibcgipaa.Fl
