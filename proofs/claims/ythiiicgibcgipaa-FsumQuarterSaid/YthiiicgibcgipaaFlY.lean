/- Plain facts on binary64 words, no program in sight: the whole part of a number of at least one. -/
import Derived.Test.YthiiicgibcgipaaFlX
import Derived.Test.YthiiicgibcgipaaFlV
namespace Go.Proofs.Ythiiicgibcgipaa.Fl
set_option linter.unusedSimpArgs false

theorem D_Q {e : Nat} (he : e ≤ 52) : 2 ^ (52 - e) * 2 ^ e = 4503599627370496 := by
  rw [← Nat.pow_add, show 52 - e + e = 52 by omega]
theorem D_U {e : Nat} (he : e ≤ 52) : 2 ^ (52 - e) * 2 ^ (1022 + e) = U1 := by
  rw [← Nat.pow_add, show 52 - e + (1022 + e) = e1074 by rw [e1074_eq]; omega]; rfl
/-- the word k less its lowest 52 - e bits is the word of the whole part. -/
theorem trunc_W {k e l : Nat} (he : e ≤ 52) (hl : 4503599627370496 ≤ l) (hl2 : l < 9007199254740992) (hk : k = (1022 + e) * 4503599627370496 + l) :
    ∃ j, isW (k / 2 ^ (52 - e) * 2 ^ (52 - e)) j ∧ j * U1 ≤ un k ∧ un k < (j + 1) * U1 := by
  have hD := D_Q he
  have hU := D_U he
  have hu : un k = l * 2 ^ (1022 + e) := by rw [hk]; exact un_at _ _ hl2 (Or.inr hl)
  have hv : ∀ m, 4503599627370496 ≤ m → m ≤ l → un ((1022 + e) * 4503599627370496 + m) = m * 2 ^ (1022 + e) := fun m g1 g2 => un_at _ _ (by omega) (Or.inr g1)
  generalize 2 ^ (52 - e) = D at *
  generalize 2 ^ (1022 + e) = P at hU hu hv
  generalize hQ : 2 ^ e = Q at *
  have hDp : 0 < D := by rcases Nat.eq_zero_or_pos D with h | h; · rw [h] at hD; omega
                         · exact h
  have hq : k / D = (1022 + e) * Q + l / D := by
    rw [hk, ← hD, show (1022 + e) * (D * Q) + l = D * ((1022 + e) * Q) + l by rw [Nat.mul_left_comm], Nat.mul_add_div hDp]
  have hk2 : k / D * D = (1022 + e) * 4503599627370496 + l / D * D := by
    rw [hq, Nat.add_mul, Nat.mul_assoc, Nat.mul_comm Q D, hD]
  have h1 : l / D * D ≤ l := Nat.div_mul_le_self _ _
  have h2 : l < (l / D + 1) * D := by rw [Nat.mul_comm]; exact Nat.lt_mul_div_succ l hDp
  have h3 : 4503599627370496 ≤ l / D * D := by
    have : Q ≤ l / D := (Nat.le_div_iff_mul_le hDp).2 (by rw [Nat.mul_comm, hD]; exact hl)
    rw [← hD, Nat.mul_comm]
    exact Nat.mul_le_mul_right _ this
  refine ⟨l / D, ⟨?_, ?_⟩, ?_, ?_⟩
  · rw [hk2, hv _ h3 h1, ← hU, Nat.mul_assoc]
  · rw [hk2]; omega
  · rw [hu, ← hU, ← Nat.mul_assoc]; exact Nat.mul_le_mul_right _ h1
  · rw [hu, ← hU, ← Nat.mul_assoc]
    have hP : 0 < P := by
      rcases Nat.eq_zero_or_pos P with h | h
      · exact absurd hU (by rw [h, Nat.mul_zero]; exact Nat.ne_of_lt U1_pos)
      · exact h
    exact Nat.mul_lt_mul_of_pos_right h2 hP

/-- the whole part of a word that is no less than nought, in units of one. -/
def wholeV (k : Nat) : Nat := un (rg k) / U1
def okI (g : Nat) : Bool := (floatToIntVal .f64 g .i64).isSome
def cvI (g : Nat) : Int := (floatToIntVal .f64 g .i64).getD 0
theorem F_int : ∀ j, j < 301 → floatToIntVal .f64 (F ((j : Nat) : Int)) .i64 = some ((j : Nat) : Int) := by decide +kernel
theorem W_int {g j : Nat} (h : isW g j) (hj : j < 301) : okI g = true ∧ cvI g = (j : Int) := by
  obtain rfl : g = F (j : Int) := h.inj (isW_of j (by omega))
  have := F_int j hj
  unfold okI cvI
  rw [this]
  exact ⟨rfl, rfl⟩
theorem Z_int {k : Nat} (hk : k < 18446744073709551616) (h : rg k = 0) : okI k = true ∧ cvI k = 0 := by
  have : k = 0 ∨ k = 9223372036854775808 := by unfold rg at h; omega
  rcases this with rfl | rfl <;> decide +kernel
theorem run_cvI (P : Program) (w : World) (src dst : TypeId) (g : Nat) (hs : (P.underlying src).isSome = true) (hd : P.underlying dst = some (.int .i64)) (h : okI g = true) :
    (convert src dst (.float .f64 g)).run P w = .ok (.int .i64 (cvI g)) w := by
  obtain ⟨n, hn⟩ := Option.isSome_iff_exists.1 h
  rw [run_convert_float_int w src dst .f64 .i64 g n hs hd hn]
  unfold cvI
  rw [hn]
  rfl
theorem whole_small {k : Nat} (h : rg k < 4607182418800017408) : wholeV k = 0 := by
  unfold wholeV
  have := un_lt h
  rw [isW_one.1, Nat.one_mul] at this
  exact Nat.div_eq_of_lt this

theorem cut_down (n d : Nat) : Ieee.Toward.down.cut false n d = n / 2 ^ d := by
  unfold Ieee.Toward.cut
  simp only [Nat.one_shiftLeft, Bool.false_and, Bool.toNat_false, Nat.add_zero]
  have hd := Nat.lt_log2_self (n := n)
  rcases Nat.le_total d (n.log2 + 2) with h | h
  · rw [Nat.min_eq_left h]
  · rw [Nat.min_eq_right h]
    have hp : 2 ^ (n.log2 + 2) ≤ 2 ^ d := Nat.pow_le_pow_right (by omega) h
    have hp1 : 2 ^ (n.log2 + 2) = 2 * 2 ^ (n.log2 + 1) := by rw [Nat.pow_succ, Nat.mul_comm]
    rw [Nat.div_eq_of_lt (by omega), Nat.div_eq_of_lt (by omega)]
/-- what math.Floor gives. -/
@[irreducible] def floV (k : Nat) : Nat := FloatKind.f64.encode ((FloatKind.f64.decode k).integral .down)
theorem floV_W {k : Nat} (hs : ng k = false) (hb : rg k < 4648523658003546112) : floV k = F (wholeV k : Nat) := by
  have hp : pl (rg k) ≤ 1031 := by unfold pl; omega
  unfold floV
  show Ieee.double.write ((Ieee.double.read k).integral .down) = _
  rw [read_fin k (by omega), hs]
  show Ieee.double.nearest false (Ieee.Toward.down.cut false (mg (rg k) <<< ((pl (rg k) : Int) - 1074).toNat) (-((pl (rg k) : Int) - 1074)).toNat) 0 = Ieee.double.nearest (decide (((wholeV k : Nat) : Int) < 0)) (((wholeV k : Nat) : Int)).natAbs 0
  have e1 : ((pl (rg k) : Int) - 1074).toNat = 0 := by omega
  have e2 : (-((pl (rg k) : Int) - 1074)).toNat = e1074 - pl (rg k) := by rw [e1074_eq]; omega
  have e3 : decide (((wholeV k : Nat) : Int) < 0) = false := decide_eq_false (by omega)
  have e4 : wholeV k = mg (rg k) / 2 ^ (e1074 - pl (rg k)) := by
    unfold wholeV un U1
    have : e1074 = (e1074 - pl (rg k)) + pl (rg k) := by rw [e1074_eq]; omega
    rw [show 2 ^ e1074 = 2 ^ (e1074 - pl (rg k)) * 2 ^ pl (rg k) by rw [← Nat.pow_add, ← this]]
    exact Nat.mul_div_mul_right _ _ (two_pos _)
  rw [e1, e2, e3, cut_down, Int.natAbs_natCast, e4, Nat.shiftLeft_zero]
theorem rg_301 {k : Nat} (hb : un (rg k) < 301 * U1) : rg k < 4648523658003546112 := by
  have h301 : isW (F (301 : Nat)) 301 := isW_of 301 (by omega)
  have h2 : un (rg k) < un (F (301 : Nat)) := by rw [h301.1]; exact hb
  have h3 := un_lt_iff.1 h2
  have h4 : F (301 : Nat) < 4648523658003546112 := by decide +kernel
  omega
theorem whole_lt {k n : Nat} (hb : un (rg k) < n * U1) : wholeV k < n := (Nat.div_lt_iff_lt_mul U1_pos).2 hb
theorem floV_int {k : Nat} (hk : k < 18446744073709551616) (hs : ng k = false ∨ rg k = 0) (hb : un (rg k) < 301 * U1) : okI (floV k) = true ∧ cvI (floV k) = (wholeV k : Int) := by
  by_cases hz : rg k = 0
  · have hw : wholeV k = 0 := by unfold wholeV; rw [hz, un_zero, Nat.zero_div]
    have : k = 0 ∨ k = 9223372036854775808 := by unfold rg at hz; omega
    rw [hw]
    unfold floV
    rcases this with rfl | rfl <;> decide +kernel
  · rw [floV_W (hs.resolve_right hz) (rg_301 hb)]
    exact W_int (isW_of _ (by have := whole_lt hb; omega)) (whole_lt hb)
/-- a number, no NaN (a fact for a walk). -/
@[irreducible] def numB (k : Nat) : Bool := decide (rg k ≤ 9218868437227405312)

end Go.Proofs.Ythiiicgibcgipaa.Fl
