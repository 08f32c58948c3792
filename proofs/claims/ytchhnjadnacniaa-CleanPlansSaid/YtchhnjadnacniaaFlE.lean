/- Plain facts on binary64 words, no program in sight: whole numbers, their products and quotients. -/
import Derived.Test.YtchhnjadnacniaaFlD
namespace Go.Proofs.Ytchhnjadnacniaa.Fl
set_option linter.unusedSimpArgs false

/-- 'x' is the word of the whole number n. -/
def isW (x n : Nat) : Prop := un x = n * U1 ∧ x < 9218868437227405312
theorem isW.rg {x n : Nat} (h : isW x n) : rg x = x := Nat.mod_eq_of_lt (by have := h.2; omega)
theorem isW.ng {x n : Nat} (h : isW x n) : ng x = false := by unfold Fl.ng; rw [Nat.div_eq_of_lt (by have := h.2; omega)]; rfl
theorem isW.fin {x n : Nat} (h : isW x n) : Fl.rg x < 9218868437227405312 := by rw [h.rg]; exact h.2
theorem isW.inj {x y n : Nat} (h : isW x n) (k : isW y n) : x = y := un_inj (h.1.trans k.1.symm)
theorem isW.sk {x n : Nat} (h : isW x n) : sk x = (x : Int) := by unfold Fl.sk; rw [h.ng, h.rg]; rfl
theorem isW.lt {x y n m : Nat} (h : isW x n) (k : isW y m) : x < y ↔ n < m := by
  rw [← un_lt_iff, h.1, k.1, Nat.mul_lt_mul_right U1_pos]
theorem isW.le {x y n m : Nat} (h : isW x n) (k : isW y m) : x ≤ y ↔ n ≤ m := by
  have := k.lt h; omega
theorem isW_of (n : Nat) (hn : n ≤ 9007199254740991) : isW (floatOfInt .f64 (n : Int)) n := by
  obtain ⟨r, hr, hu, hI⟩ := ofInt_exact (n : Int) (by simpa using hn)
  rw [decide_eq_false (by omega)] at hr
  have : floatOfInt .f64 (n : Int) = r := hr
  rw [this]
  exact ⟨by simpa using hu, hI⟩
theorem isW_int (z : Int) (n : Nat) (h : z = (n : Int)) (hn : n ≤ 9007199254740991) : isW (floatOfInt .f64 z) n := by subst h; exact isW_of n hn
theorem isW_zero : isW 0 0 := ⟨by rw [un_zero, Nat.zero_mul], by omega⟩
theorem isW_one : isW 4607182418800017408 1 := ⟨by decide +kernel, by omega⟩
theorem isW_two : isW 4611686018427387904 2 := ⟨by decide +kernel, by omega⟩
theorem mk_false (r : Nat) : mk false r = r := rfl
theorem mul_W {x y n m : Nat} (h : isW x n) (k : isW y m) (hb : n * m ≤ 9007199254740991) : isW (fop .mul x y) (n * m) := by
  obtain ⟨r, hr, hR⟩ := mul_fin x y h.fin k.fin
  have hw := isW_of (n * m) hb
  have e : fop .mul x y = r := by
    show (Ieee.double.mul x y).getD _ = r
    rw [hr, h.ng, k.ng]; rfl
  rw [e]
  rw [h.rg, k.rg, h.1, k.1] at hR
  have : r = floatOfInt .f64 ((n * m : Nat) : Int) := isR_at U1_pos (Nat.le_of_lt hw.2) (by rw [hw.1]; simp only [Nat.mul_assoc, Nat.mul_left_comm, Nat.mul_comm]) hR
  rw [this]
  exact hw
/-- a quotient of two whole numbers is a rounding of theirs. -/
theorem div_R {x y n m : Nat} (h : isW x n) (k : isW y m) (hm : 0 < m) : ∃ r, fop .quo x y = r ∧ isR (n * U1) m r := by
  have hy : 0 < y := by
    rcases Nat.eq_zero_or_pos y with h0 | h0
    · subst h0
      have := k.1
      rw [un_zero] at this
      have := Nat.mul_pos hm U1_pos
      omega
    · exact h0
  obtain ⟨r, hr, hR⟩ := div_fin x y h.fin k.fin (by rw [k.rg]; exact hy)
  refine ⟨r, ?_, ?_⟩
  · show (Ieee.double.div x y).getD _ = r
    rw [hr, h.ng, k.ng]; rfl
  · rw [h.rg, k.rg, h.1, k.1] at hR
    exact isR_congr (Nat.mul_pos hm U1_pos) hm (by simp only [Nat.mul_assoc, Nat.mul_left_comm, Nat.mul_comm]) hR
theorem div_W {x y n m : Nat} (h : isW x (n * m)) (k : isW y m) (hm : 0 < m) (hn : n ≤ 9007199254740991) : isW (fop .quo x y) n := by
  obtain ⟨r, hr, hR⟩ := div_R h k hm
  have hw := isW_of n hn
  rw [hr]
  have : r = floatOfInt .f64 (n : Int) := isR_at hm (Nat.le_of_lt hw.2) (by rw [hw.1]; simp only [Nat.mul_assoc, Nat.mul_left_comm, Nat.mul_comm]) hR
  rw [this]
  exact hw
theorem t_eq_W {x y n : Nat} (h : isW x n) (k : isW y n) : (FloatKind.f64.format.order x y == some .eq) = true := by
  have := h.inj k
  subst this
  exact t_eq_num (by have := h.fin; omega)
end Go.Proofs.Ytchhnjadnacniaa.Fl
