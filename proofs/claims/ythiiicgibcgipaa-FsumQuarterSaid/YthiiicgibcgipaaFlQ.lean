/- Plain facts on binary64 words, no program in sight: a sum grows with its parts. -/
import Derived.Test.YthiiicgibcgipaaFlZ
namespace Go.Proofs.Ythiiicgibcgipaa.Fl
set_option linter.unusedSimpArgs false

/-- the sum of two numbers grows with the numbers. -/
theorem add_mono {x y x' y' : Nat} (hx : rg x < 9218868437227405312) (hy : rg y < 9218868437227405312) (hx' : rg x' < 9218868437227405312) (hy' : rg y' < 9218868437227405312) (h : su x + su y ≤ su x' + su y') :
    su (fop .add x y) ≤ su (fop .add x' y') := by
  obtain ⟨r, h1, h2⟩ := fadd_fin hx hy
  obtain ⟨r', h3, h4⟩ := fadd_fin hx' hy'
  generalize su x + su y = t at *
  generalize su x' + su y' = t' at *
  have k1 : r < 9223372036854775808 := by have := h2.1; omega
  have k2 : r' < 9223372036854775808 := by have := h4.1; omega
  rw [h1, h3]
  unfold su
  rw [ng_mk _ _ k1, ng_mk _ _ k2, rg_mk _ _ k1, rg_mk _ _ k2]
  have z1 : t = 0 → un r = 0 := fun h0 => by
    subst h0
    rw [show r = 0 from isR_at (by omega) (by omega) (by rw [un_zero]; rfl) h2, un_zero]
  have z2 : t' = 0 → un r' = 0 := fun h0 => by
    subst h0
    rw [show r' = 0 from isR_at (by omega) (by omega) (by rw [un_zero]; rfl) h4, un_zero]
  have p1 : t.natAbs ≤ t'.natAbs → un r ≤ un r' := fun g => un_le (isR_mono (by omega) (by omega) (by omega) h2 h4)
  have p2 : t'.natAbs ≤ t.natAbs → un r' ≤ un r := fun g => un_le (isR_mono (by omega) (by omega) (by omega) h4 h2)
  generalize un r = R at *
  generalize un r' = R' at *
  rcases Int.lt_trichotomy t 0 with a | a | a <;> rcases Int.lt_trichotomy t' 0 with b | b | b
  all_goals
    first
      | rw [if_neg (show ¬ t = 0 by omega)]
      | rw [if_pos a]
    first
      | rw [if_neg (show ¬ t' = 0 by omega)]
      | rw [if_pos b]
    try simp only [a, b, decide_true, decide_false, if_true, if_false]
    try (have := z1 (by omega))
    try (have := z2 (by omega))
    try (have := p1 (by omega))
    try (have := p2 (by omega))
    repeat' split
    all_goals first | omega | (simp_all <;> omega)
theorem place_mono {q q' m : Nat} (hq : okQ q) (hq' : okQ q') (h : rg q ≤ rg q') (hm : m ≤ 300) : un (rg (placeV q m)) ≤ un (rg (placeV q' m)) := by
  have hW := isW_of m (by omega)
  have hF : floatOfInt .f64 (m : Int) = F (m : Nat) := rfl
  rw [hF] at hW
  obtain ⟨r, hr, hR⟩ := mul_fin q (F (m : Nat)) (by have := hq.1; omega) hW.fin
  obtain ⟨r', hr', hR'⟩ := mul_fin q' (F (m : Nat)) (by have := hq'.1; omega) hW.fin
  have hp : placeV q m = mk (ng q ^^ ng (F (m : Nat))) r := by unfold placeV; rw [fop_mul]; unfold fmul; rw [show Ieee.double.mul q (F (m : Nat)) = _ from hr]; rfl
  have hp' : placeV q' m = mk (ng q' ^^ ng (F (m : Nat))) r' := by unfold placeV; rw [fop_mul]; unfold fmul; rw [show Ieee.double.mul q' (F (m : Nat)) = _ from hr']; rfl
  rw [hp, hp', rg_mk _ _ (by have := hR.1; omega), rg_mk _ _ (by have := hR'.1; omega)]
  exact un_le (isR_mono U1_pos U1_pos (Nat.mul_le_mul_right _ (Nat.mul_le_mul_right _ (un_le h))) hR hR')

/-- a part between nought and one, as a number. -/
def pos1 (p : Nat) : Prop := 0 ≤ su p ∧ su p ≤ (U1 : Int) ∧ rg p < 9218868437227405312
theorem pos1_un {p : Nat} (h : pos1 p) : (un (rg p) : Int) = su p ∧ (ng p = false ∨ rg p = 0) := by
  have h1 := h.1
  rcases Nat.eq_zero_or_pos (rg p) with g | g
  · exact ⟨by unfold su; rw [g, un_zero]; split <;> rfl, Or.inr g⟩
  · have := un_pos g
    cases hs : ng p
    · exact ⟨by unfold su; rw [hs]; rfl, Or.inl rfl⟩
    · unfold su at h1; rw [hs] at h1; simp at h1; omega
/-- the product of such a part and a whole number: between nought and the number, and it grows with the part. -/
theorem mul_part {p : Nat} {D : Nat} (hp : pos1 p) (hD : D ≤ 2000000) :
    ∃ r, isR (un (rg p) * (D * U1)) U1 r ∧ r < 9218868437227405312 ∧ rg (fop .mul p (F (D : Nat))) = r ∧ su (fop .mul p (F (D : Nat))) = (un r : Int) ∧ un r ≤ D * U1 := by
  have hW := isW_of D (by omega)
  have hF : floatOfInt .f64 (D : Int) = F (D : Nat) := rfl
  rw [hF] at hW
  obtain ⟨r, hr, hR⟩ := mul_fin p (F (D : Nat)) hp.2.2 hW.fin
  have e : fop .mul p (F (D : Nat)) = mk (ng p ^^ ng (F (D : Nat))) r := by rw [fop_mul]; unfold fmul; rw [show Ieee.double.mul p (F (D : Nat)) = _ from hr]; rfl
  obtain ⟨h1, h2⟩ := pos1_un hp
  have hle : un (rg p) ≤ U1 := by have := hp.2.1; omega
  rw [hW.rg, hW.1] at hR
  have hrl : r ≤ F (D : Nat) := isR_le U1_pos (by have := hW.2; omega) (by rw [hW.1, Nat.mul_comm]; exact Nat.mul_le_mul_left _ hle) hR
  have hr2 : r < 9218868437227405312 := Nat.lt_of_le_of_lt hrl hW.2
  refine ⟨r, hR, hr2, ?_, ?_, ?_⟩
  · rw [e, rg_mk _ _ (by omega)]
  · rw [e, su_mk (by omega), hW.ng, Bool.xor_false]
    rcases h2 with g | g
    · rw [g]; rfl
    · rw [g, un_zero, Nat.zero_mul] at hR
      have : r = 0 := isR_at U1_pos (by omega) (by rw [un_zero, Nat.zero_mul]) hR
      rw [this, un_zero]; split <;> rfl
  · rw [← hW.1]; exact un_le hrl

theorem place_su {k : Nat} (h0 : ng k = false ∨ rg k = 0) : su k = (un (rg k) : Int) := by
  rcases h0 with g | g
  · unfold su; rw [g]; rfl
  · unfold su; rw [g, un_zero]; split <;> rfl
theorem whole_in {k : Nat} : wholeV k * U1 ≤ un (rg k) ∧ un (rg k) < (wholeV k + 1) * U1 := by
  unfold wholeV
  exact ⟨Nat.div_mul_le_self _ _, by rw [Nat.mul_comm]; exact Nat.lt_mul_div_succ _ U1_pos⟩
/-- the part of a place behind its whole part. -/
theorem part_pos {k : Nat} (hk : rg k < 9218868437227405312) (h0 : ng k = false ∨ rg k = 0) (hj : wholeV k ≤ 300) : pos1 (fop .sub k (F (wholeV k : Nat))) := by
  have hf := F_fin (n := (wholeV k : Nat)) (by omega)
  have hfl : rg (flipV (F (wholeV k : Nat))) < 9218868437227405312 := by rw [flip_rg]; exact hf
  have hs := place_su h0
  have hF := F_su (n := (wholeV k : Nat)) (by omega)
  obtain ⟨h1, h2⟩ := whole_in (k := k)
  rw [Nat.add_mul, Nat.one_mul] at h2
  have h1' : ((wholeV k : Nat) : Int) * (U1 : Int) ≤ (un (rg k) : Int) := by exact_mod_cast h1
  have h2' : (un (rg k) : Int) < ((wholeV k : Nat) : Int) * (U1 : Int) + (U1 : Int) := by exact_mod_cast h2
  have z0 := F_su (n := 0) (by decide)
  have z1 := F_su (n := 1) (by decide)
  have f0 := F_fin (n := 0) (by decide)
  have f1 := F_fin (n := 1) (by decide)
  rw [Int.zero_mul] at z0
  rw [Int.one_mul] at z1
  have e0 : fop .add (F 0) (F 0) = F 0 := add_F (by decide) (by decide) (by decide)
  have e1 : fop .add (F 1) (F 0) = F 1 := add_F (by decide) (by decide) (by decide)
  have a1 := add_mono f0 f0 hk hfl (by rw [su_flip, z0, hs, hF]; omega)
  have a2 := add_mono hk hfl f1 f0 (by rw [su_flip, z0, z1, hs, hF]; omega)
  rw [e0, z0, ← fsub_add] at a1
  rw [e1, z1, ← fsub_add] at a2
  refine ⟨a1, a2, ?_⟩
  have hn := sub_num hk hf
  rcases Nat.lt_or_ge (rg (fop .sub k (F (wholeV k : Nat)))) 9218868437227405312 with g | g
  · exact g
  · have e : rg (fop .sub k (F (wholeV k : Nat))) = 9218868437227405312 := by omega
    have hb : U1 < un 9218868437227405312 := by
      have := un_lt (show 4607182418800017408 < 9218868437227405312 by omega)
      rw [isW_one.1, Nat.one_mul] at this
      exact this
    unfold su at a1 a2
    rw [e] at a1 a2
    split at a2 <;> rename_i c
    · rw [c] at a1; simp at a1; omega
    · omega

/-- between two whole numbers: the value at a part, where it lies and that it grows. -/
def valX (p : Nat) (x y : Int) : Nat := fop .add (F x) (fop .mul p (fop .sub (F y) (F x)))
theorem val_in {p : Nat} {x y : Int} (hp : pos1 p) (hx : x.natAbs ≤ 1000000) (hy : y.natAbs ≤ 1000000) (h : x ≤ y) :
    rg (valX p x y) ≤ 9218868437227405312 ∧ x * (U1 : Int) ≤ su (valX p x y) ∧ su (valX p x y) ≤ y * (U1 : Int)
    ∧ ∀ p', pos1 p' → su p ≤ su p' → su (valX p x y) ≤ su (valX p' x y) := by
  have hd : fop .sub (F y) (F x) = F (((y - x).toNat : Nat) : Int) := by rw [sub_F (by omega) (by omega) (by omega)]; congr 1; omega
  have hD : (y - x).toNat ≤ 2000000 := by omega
  unfold valX
  rw [hd]
  obtain ⟨r, r1, r2, r3, r4, r5⟩ := mul_part hp hD
  have hm : rg (fop .mul p (F (((y - x).toNat : Nat) : Int))) < 9218868437227405312 := by rw [r3]; exact r2
  have fx := F_fin (n := x) (by omega)
  have sx := F_su (n := x) (by omega)
  have sd := F_su (n := (((y - x).toNat : Nat) : Int)) (by omega)
  have fd := F_fin (n := (((y - x).toNat : Nat) : Int)) (by omega)
  have z0 := F_su (n := 0) (by decide)
  have f0 := F_fin (n := 0) (by decide)
  rw [Int.zero_mul] at z0
  have e0 : fop .add (F x) (F 0) = F x := by rw [add_F (by omega) (by decide) (by omega), Int.add_zero]
  have e1 : fop .add (F x) (F (((y - x).toNat : Nat) : Int)) = F y := by rw [add_F (by omega) (by omega) (by omega)]; congr 1; omega
  have r5' : (un r : Int) ≤ (((y - x).toNat : Nat) : Int) * (U1 : Int) := by exact_mod_cast r5
  have a1 := add_mono fx f0 fx hm (by rw [z0, r4]; omega)
  have a2 := add_mono fx hm fx fd (by rw [sd, r4]; omega)
  rw [e0, sx] at a1
  rw [e1, F_su (n := y) (by omega)] at a2
  refine ⟨?_, a1, a2, fun p' hp' hpp => ?_⟩
  · obtain ⟨q, q1, q2⟩ := fadd_fin fx hm
    rw [q1, rg_mk _ _ (by have := q2.1; omega)]
    exact q2.1
  · obtain ⟨r', t1, t2, t3, t4, t5⟩ := mul_part hp' hD
    have hm' : rg (fop .mul p' (F (((y - x).toNat : Nat) : Int))) < 9218868437227405312 := by rw [t3]; exact t2
    have hu : un (rg p) ≤ un (rg p') := by have := (pos1_un hp).1; have := (pos1_un hp').1; omega
    have := un_le (isR_mono U1_pos U1_pos (Nat.mul_le_mul_right _ (Nat.mul_le_mul_right _ hu)) r1 t1)
    exact add_mono fx hm fx hm' (by rw [r4, t4]; omega)

end Go.Proofs.Ythiiicgibcgipaa.Fl
