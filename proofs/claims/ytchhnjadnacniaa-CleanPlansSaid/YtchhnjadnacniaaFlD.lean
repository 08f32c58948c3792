/- Plain facts on binary64 words, no program in sight: every NaN as the one ('cn'), the operations so, and what a walk needs of them: an operation's run, whatever the operands are. -/
import Derived.Test.YtchhnjadnacniaaFlC
import Derived.WalkKit
import Derived.WalkLawsBesides
import Derived.Deep.Draws
import Derived.Laws.BitsAllLaws
namespace Go.Proofs.Ytchhnjadnacniaa.Fl

/-- the one NaN's word. -/
abbrev C0 : Nat := 9221120237041090560
def cn (x : Nat) : Nat := if 9218868437227405312 < rg x then 9221120237041090560 else x

theorem fmt64 : FloatKind.f64.format = Ieee.double := rfl
theorem t_ne_nan {x : Nat} (h : 9218868437227405312 < rg x) : (FloatKind.f64.format.order x x != some .eq) = true := by rw [fmt64, o_self]; simpa using h
theorem t_ne_num {x : Nat} (h : rg x ≤ 9218868437227405312) : (FloatKind.f64.format.order x x != some .eq) = false := by rw [fmt64, o_self]; simpa using h
theorem t_eq_nan {x : Nat} (h : 9218868437227405312 < rg x) : (FloatKind.f64.format.order x x == some .eq) = false := by rw [fmt64, o_eq]; simp; omega
theorem t_eq_num {x : Nat} (h : rg x ≤ 9218868437227405312) : (FloatKind.f64.format.order x x == some .eq) = true := by rw [fmt64, o_eq]; simp [h]

theorem cn_nan {x : Nat} (h : 9218868437227405312 < rg x) : cn x = 9221120237041090560 := if_pos h
theorem cn_num {x : Nat} (h : rg x ≤ 9218868437227405312) : cn x = x := if_neg (by omega)
theorem rg_C0 : rg 9221120237041090560 = 9221120237041090560 := by decide
theorem cn_C0 : cn 9221120237041090560 = 9221120237041090560 := by decide
theorem cn_cn (x : Nat) : cn (cn x) = cn x := by
  unfold cn
  by_cases h : 9218868437227405312 < rg x
  · rw [if_pos h, rg_C0, if_pos (by omega)]
  · rw [if_neg h, if_neg h]
theorem cn_lt {x : Nat} (h : x < 18446744073709551616) : cn x < 18446744073709551616 := by unfold cn; split <;> omega
theorem cn_isnan (x : Nat) : 9218868437227405312 < rg (cn x) ↔ 9218868437227405312 < rg x := by
  unfold cn
  by_cases h : 9218868437227405312 < rg x
  · rw [if_pos h, rg_C0]; omega
  · rw [if_neg h]

/-- the operations, an invalid one giving the one NaN. -/
def fadd (x y : Nat) : Nat := (Ieee.double.add x y).getD 9221120237041090560
def fsub (x y : Nat) : Nat := (Ieee.double.sub x y).getD 9221120237041090560
def fmul (x y : Nat) : Nat := (Ieee.double.mul x y).getD 9221120237041090560
def fdiv (x y : Nat) : Nat := (Ieee.double.div x y).getD 9221120237041090560

def fop (op : BinOp) (x y : Nat) : Nat := (floatBits op .f64 x y).getD 9221120237041090560
theorem fop_add (x y : Nat) : fop .add x y = fadd x y := rfl
theorem fop_sub (x y : Nat) : fop .sub x y = fsub x y := rfl
theorem fop_mul (x y : Nat) : fop .mul x y = fmul x y := rfl
theorem fop_quo (x y : Nat) : fop .quo x y = fdiv x y := rfl

/-- the bits that an operation gives in a world (an invalid one asks the tape), and how often it draws. -/
@[irreducible] def fR (op : BinOp) (x y : Nat) (w : World) : Nat := match floatBits op .f64 x y with
  | some r => r
  | none => (Question.nanBits .f64 x y).cut (w.tape w.drawn (.nanBits .f64 x y))
@[irreducible] def fN (op : BinOp) (x y : Nat) : Nat := if (floatBits op .f64 x y).isSome then 0 else 1

theorem cut_nan (x y t : Nat) : 9218868437227405312 < rg ((Question.nanBits .f64 x y).cut t) ∧ (Question.nanBits .f64 x y).cut t < 18446744073709551616 := by
  unfold Question.cut rg
  simp only
  rw [show (2 : Nat) ^ 63 = 9223372036854775808 by decide, show (2 : Nat) ^ 52 - 1 = 4503599627370495 by decide]
  have h1 := Nat.mod_lt t (show 2 > 0 by omega)
  have h2 := Nat.mod_lt (t / 2) (show 4503599627370495 > 0 by omega)
  generalize t % 2 = a at *
  generalize t / 2 % 4503599627370495 = b at *
  omega

theorem word_rg (d : Ieee.Datum) (hd : ∀ s t, d ≠ .nan s t) : rg (Ieee.double.write d) ≤ 9218868437227405312 := by
  cases d with
  | number s m p =>
    obtain ⟨r, hr, hR⟩ := nearest_R s m p
    unfold Ieee.Format.write
    simp only
    rw [hr, rg_mk _ _ (by have := hR.1; omega)]
    exact hR.1
  | infinity s =>
    unfold Ieee.Format.write
    simp only
    rw [word_mk, show Ieee.double.infRung = 9218868437227405312 by decide, rg_mk _ _ (by omega)]
    exact Nat.le_refl _
  | nan s t => exact absurd rfl (hd s t)

theorem sum_num (a b d : Ieee.Datum) (h : a.sum b = some d) : ∀ s t, d ≠ .nan s t := by
  intro s t
  unfold Ieee.Datum.sum at h
  cases a <;> cases b <;> simp only at h
  all_goals first | (cases h; done) | (injection h with h; subst h; intro hh; cases hh) | (split at h <;> first | (cases h; done) | (injection h with h; subst h; intro hh; cases hh))
theorem product_num (a b d : Ieee.Datum) (h : a.product b = some d) : ∀ s t, d ≠ .nan s t := by
  intro s t
  unfold Ieee.Datum.product at h
  cases a <;> cases b <;> simp only at h
  all_goals first | (cases h; done) | (injection h with h; subst h; intro hh; cases hh) | (split at h <;> first | (cases h; done) | (injection h with h; subst h; intro hh; cases hh))
theorem quotient_num (k : Nat) (a b d : Ieee.Datum) (h : a.quotient k b = some d) : ∀ s t, d ≠ .nan s t := by
  intro s t
  unfold Ieee.Datum.quotient at h
  cases a <;> cases b <;> simp only at h
  all_goals first | (cases h; done) | (injection h with h; subst h; intro hh; cases hh) | (split at h <;> first | (injection h with h; subst h; intro hh; cases hh) | (split at h <;> first | (cases h; done) | (injection h with h; subst h; intro hh; cases hh)))

theorem bits_num {op : BinOp} {x y r : Nat} (h : floatBits op .f64 x y = some r) : rg r ≤ 9218868437227405312 ∧ r < 18446744073709551616 := by
  have hw := floatBits_wf h
  refine ⟨?_, by simpa [Lit.wf] using hw⟩
  have key : ∀ (o : Option Ieee.Datum), (∀ d, o = some d → ∀ s t, d ≠ .nan s t) → o.map Ieee.double.write = some r → rg r ≤ 9218868437227405312 := by
    intro o ho hm
    cases o with
    | none => cases hm
    | some d => injection hm with hm; subst hm; exact word_rg d (ho d rfl)
  unfold floatBits at h
  split at h
  · exact key _ (fun d hd => sum_num _ _ d hd) h
  · exact key _ (fun d hd => sum_num _ _ d hd) h
  · exact key _ (fun d hd => product_num _ _ d hd) h
  · exact key _ (fun d hd => quotient_num _ _ _ d hd) h
  · cases h

theorem cn_fR (op : BinOp) (x y : Nat) (w : World) : cn (fR op x y w) = fop op x y := by
  unfold fR fop
  cases h : floatBits op .f64 x y with
  | some r => exact cn_num (bits_num h).1
  | none => exact cn_nan (cut_nan _ _ _).1
theorem fR_lt (op : BinOp) (x y : Nat) (w : World) : fR op x y w < 18446744073709551616 := by
  unfold fR
  cases h : floatBits op .f64 x y with
  | some r => exact (bits_num h).2
  | none => exact (cut_nan _ _ _).2
theorem fop_lt (op : BinOp) (x y : Nat) : fop op x y < 18446744073709551616 := by
  unfold fop
  cases h : floatBits op .f64 x y with
  | some r => exact (bits_num h).2
  | none => show 9221120237041090560 < _; omega
theorem cn_fop (op : BinOp) (x y : Nat) : cn (fop op x y) = fop op x y := by
  unfold fop
  cases h : floatBits op .f64 x y with
  | some r => exact cn_num (bits_num h).1
  | none => exact cn_C0

theorem run_fop (op : BinOp) (hop : op = .add ∨ op = .sub ∨ op = .mul ∨ op = .quo) (P : Program) (w : World) (t : TypeId) (x y : Nat) :
    (binOp op t (.float .f64 x) (.float .f64 y)).run P w = .ok (.float .f64 (fR op x y w)) (w.drewN (fN op x y)) := by
  unfold fR fN
  cases h : floatBits op .f64 x y with
  | some r => rw [run_float_arith w op t .f64 x y r h]; rfl
  | none =>
    unfold floatBits at h
    rcases hop with rfl | rfl | rfl | rfl <;> simp only at h <;> simp [binOp, Op.floatArith, h, Question.forced] <;> rfl
theorem run_fadd (P : Program) (w : World) (t : TypeId) (x y : Nat) : (binOp .add t (.float .f64 x) (.float .f64 y)).run P w = .ok (.float .f64 (fR .add x y w)) (w.drewN (fN .add x y)) := run_fop _ (by simp) P w t x y
theorem run_fsub (P : Program) (w : World) (t : TypeId) (x y : Nat) : (binOp .sub t (.float .f64 x) (.float .f64 y)).run P w = .ok (.float .f64 (fR .sub x y w)) (w.drewN (fN .sub x y)) := run_fop _ (by simp) P w t x y
theorem run_fmul (P : Program) (w : World) (t : TypeId) (x y : Nat) : (binOp .mul t (.float .f64 x) (.float .f64 y)).run P w = .ok (.float .f64 (fR .mul x y w)) (w.drewN (fN .mul x y)) := run_fop _ (by simp) P w t x y
theorem run_fquo (P : Program) (w : World) (t : TypeId) (x y : Nat) : (binOp .quo t (.float .f64 x) (.float .f64 y)).run P w = .ok (.float .f64 (fR .quo x y w)) (w.drewN (fN .quo x y)) := run_fop _ (by simp) P w t x y

/-- operands that are NaNs give what the one NaN gives. -/
theorem bits_nan {op : BinOp} {x y : Nat} (h : 9218868437227405312 < rg x ∨ 9218868437227405312 < rg y) : floatBits op .f64 x y = none := by
  unfold floatBits
  split
  · exact add_nan x y h
  · show Ieee.double.sub x y = none
    rw [sub_add]
    exact add_nan _ _ (by rw [neg_rg]; exact h)
  · exact mul_nan x y h
  · exact div_nan x y h
  · rfl
theorem fop_nan {op : BinOp} {x y : Nat} (h : 9218868437227405312 < rg x ∨ 9218868437227405312 < rg y) : fop op x y = 9221120237041090560 := by
  unfold fop; rw [bits_nan h]; rfl
theorem fop_cn (op : BinOp) (x y : Nat) : fop op (cn x) (cn y) = fop op x y := by
  by_cases h : 9218868437227405312 < rg x ∨ 9218868437227405312 < rg y
  · rw [fop_nan h, fop_nan (by rw [cn_isnan, cn_isnan]; exact h)]
  · rw [cn_num (by omega), cn_num (by omega)]
theorem fop_cn_l (op : BinOp) (x y : Nat) : fop op (cn x) y = fop op x y := by rw [← fop_cn op x y, ← fop_cn op (cn x) y, cn_cn]
theorem fop_cn_r (op : BinOp) (x y : Nat) : fop op x (cn y) = fop op x y := by rw [← fop_cn op x y, ← fop_cn op x (cn y), cn_cn]
theorem ofInt_num (n : Int) : rg (floatOfInt .f64 n) ≤ 9218868437227405312 ∧ floatOfInt .f64 n < 18446744073709551616 := by
  have := floatOfInt_wf .f64 n
  refine ⟨?_, by simpa [Lit.wf] using this⟩
  obtain ⟨r, hr, hR⟩ := ofInt_R n
  rw [hr, rg_mk _ _ (by have := hR.1; omega)]
  exact hR.1
/-- the sign's bit and the rest of a word. -/
theorem and_sign (b : Nat) (hb : b < 18446744073709551616) : bits .and .u64 (b : Int) 9223372036854775808 = if ng b then 9223372036854775808 else 0 := by
  have h := u64_and_nat b 9223372036854775808 hb (by omega)
  rw [show (9223372036854775808 : Int) = ((9223372036854775808 : Nat) : Int) by rfl, h, show (9223372036854775808 : Nat) = 2 ^ 63 by decide, nat_bit, show (2 : Nat) ^ 63 = 9223372036854775808 by decide]
  unfold ng
  rcases Nat.mod_two_eq_zero_or_one (b / 9223372036854775808) with g | g <;> rw [g] <;> simp
theorem andNot_sign (b : Nat) (hb : b < 18446744073709551616) : bits .andNot .u64 (b : Int) 9223372036854775808 = (rg b : Int) := by
  have h := u64_andNot_nat b 9223372036854775808 hb (by omega)
  rw [show (9223372036854775808 : Int) = ((9223372036854775808 : Nat) : Int) by rfl, h]
  unfold rg
  rw [show (18446744073709551615 - 9223372036854775808 : Nat) = 2 ^ 63 - 1 by decide, Nat.and_two_pow_sub_one_eq_mod]
theorem xor_sign (b : Nat) (hb : b < 18446744073709551616) : bits .xor .u64 (b : Int) 9223372036854775808 = ((b ^^^ 9223372036854775808 : Nat) : Int) :=
  u64_xor_nat b 9223372036854775808 hb (by omega)
def sameB (x y : Nat) : Bool := cn x == cn y
theorem sameB_yes {x y : Nat} (h : cn x = cn y) : sameB x y = true := by unfold sameB; simpa using h
theorem sameB_iff {x y : Nat} : sameB x y = true ↔ cn x = cn y := by unfold sameB; simp
end Go.Proofs.Ytchhnjadnacniaa.Fl
