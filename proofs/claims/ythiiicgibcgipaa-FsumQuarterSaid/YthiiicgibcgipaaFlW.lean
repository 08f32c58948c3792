/- Plain facts on binary64 words, no program in sight: the mean of whole numbers lies between the least and the greatest; the spread is not below 0, and 0 just where all are alike. -/
import Derived.Test.YthiiicgibcgipaaFlV
namespace Go.Proofs.Ythiiicgibcgipaa.Fl
set_option linter.unusedSimpArgs false

theorem U1_eq : U1 = 2 ^ e1074 := rfl
/-- how far a rounding of a whole number of units is off. -/
theorem isR_err {a r : Nat} (h : isR a 1 r) (hr : r < 9218868437227405312) : 9007199254740992 * un r ≤ 9007199254740992 * a + un r ∧ 9007199254740992 * a ≤ 9007199254740992 * un r + un r := by
  have hstep := un_step r
  have hup := (h.2 r hr)
  have hnu : ¬ (H r * 1 < 2 * a ∨ (H r * 1 = 2 * a ∧ r % 2 = 1)) := fun hh => by have := hup.2 hh; omega
  have hH : H r = un r + un (r + 1) := rfl
  obtain ⟨m1, m2, m3⟩ := mgpl r
  have hu : un r = mg r * 2 ^ pl r := rfl
  rcases Nat.eq_zero_or_pos r with h0 | h0
  · subst h0
    rw [un_zero] at *
    have : un (0 + 1) = 1 := by decide
    rw [this] at hH
    omega
  · have hdn := (h.2 (r - 1) (by omega)).1 (by omega)
    have hH1 : H (r - 1) = un (r - 1) + un r := by
      show un (r - 1) + un (r - 1 + 1) = _
      rw [Nat.sub_add_cancel h0]
    have hs1 := un_step (r - 1)
    rw [Nat.sub_add_cancel h0] at hs1
    have hpl : pl (r - 1) ≤ pl r := by unfold pl; omega
    have hp2 : (2 : Nat) ^ pl (r - 1) ≤ 2 ^ pl r := Nat.pow_le_pow_right (by omega) hpl
    rcases m3 with m3 | m3
    · rw [m3] at hstep hp2
      have e1 : (2 : Nat) ^ 0 = 1 := rfl
      have e2 := two_pos (pl (r - 1))
      rw [e1] at hstep hp2
      omega
    · have e3 : 4503599627370496 * 2 ^ pl r ≤ un r := by rw [hu]; exact Nat.mul_le_mul_right _ m3
      generalize 2 ^ pl r = t at *
      generalize 2 ^ pl (r - 1) = t1 at *
      omega
theorem isR_le2 {a r : Nat} (h : isR a 1 r) (hr : r < 9218868437227405312) : 9007199254740991 * un r ≤ 9007199254740992 * a := by
  have := (isR_err h hr).1
  omega
/-- a sum whose value is bounded is finite. -/
theorem abs_add_le (x y : Int) : (x + y).natAbs ≤ x.natAbs + y.natAbs := by omega
theorem add_un {x y : Nat} (hx : rg x < 9218868437227405312) (hy : rg y < 9218868437227405312) :
    isR (su x + su y).natAbs 1 (rg (fop .add x y)) ∧ (su (fop .add x y) = un (rg (fop .add x y)) ∨ su x + su y < 0) ∧ (su (fop .add x y) = -(un (rg (fop .add x y)) : Int) ∨ 0 ≤ su x + su y) := by
  obtain ⟨r, h1, h2⟩ := fadd_fin hx hy
  rw [h1, mk_rg h2.1]
  refine ⟨h2, ?_, ?_⟩
  · rw [su_mk h2.1]
    generalize su x + su y = z at *
    by_cases h0 : z < 0
    · exact .inr h0
    · left
      by_cases h3 : z = 0
      · have : r = 0 := isR_at (by omega) (by omega) (by rw [un_zero, h3]; rfl) h2
        rw [this, un_zero]; simp
      · have hb : (if z = 0 then ng x && ng y else decide (z < 0)) = false := by rw [if_neg h3, decide_eq_false h0]
        rw [hb]; rfl
  · rw [su_mk h2.1]
    generalize su x + su y = z at *
    by_cases h0 : z < 0
    · left
      have hb : (if z = 0 then ng x && ng y else decide (z < 0)) = true := by rw [if_neg (by omega), decide_eq_true h0]
      rw [hb]; rfl
    · exact .inr (by omega)
/-- the state of a sum of numbers that are not below 0: the sum, and how little was lost. -/
def PosSt (k : Nat) (p : Nat × Nat) : Prop := p.1 < 9218868437227405312 ∧ rg p.2 < 9218868437227405312 ∧ 1099511627776 * (su p.2).natAbs ≤ k * un p.1
theorem pos_step {k q : Nat} {p : Nat × Nat} {v : Nat} (hk : k ≤ 300) (hq : q ≤ 2071) (hb1 : Bd q k p.1) (hb2 : Bd q (k * (k + 1)) p.2) (hbv : Bd q 1 v) (h : PosSt k p) (hv : v < 9218868437227405312) :
    PosSt (k + 1) (stepV p v) ∧ p.1 ≤ (stepV p v).1 ∧ v ≤ (stepV p v).1 := by
  obtain ⟨s, c⟩ := p
  obtain ⟨h1, h2, h3⟩ := h
  simp only at h1 h2 h3 hb1 hb2
  have hsR := add_P h1 hv
  have hkk : k * (k + 1) ≤ 300 * 301 := Nat.mul_le_mul (by omega) (by omega)
  have bt := hb1.add hbv hq (by omega)
  have htrg : rg (fop .add s v) = fop .add s v := rg_small hsR.1
  have htI : fop .add s v < 9218868437227405312 := by have := bt.1; rw [htrg] at this; exact this
  have hst : s ≤ fop .add s v := isR_ge (by omega) (by omega) (by omega) hsR
  have hvt : v ≤ fop .add s v := isR_ge (by omega) (by omega) (by omega) hsR
  have hste := un_le hst
  have hvte := un_le hvt
  have herr := isR_err hsR htI
  refine ⟨⟨htI, ?_⟩, hst, hvt⟩
  show rg (fop .add c _) < _ ∧ 1099511627776 * (su (fop .add c _)).natAbs ≤ (k + 1) * un (fop .add s v)
  -- the lost part of this step
  have key : ∀ a b : Nat, Bd q 1 a ∨ Bd q k a → Bd q 1 b ∨ Bd q k b → a < 9218868437227405312 → b < 9218868437227405312 → un a + un b = un s + un v → a ≤ fop .add s v → b ≤ fop .add s v →
      rg (fop .add (fop .sub a (fop .add s v)) b) < 9218868437227405312 ∧ 2251799813685248 * (su (fop .add (fop .sub a (fop .add s v)) b)).natAbs ≤ un (fop .add s v) := by
    intro a b ha hb hal hbl hab hat hbt
    generalize ht : fop .add s v = t at *
    have ha' : Bd q (k + 1) a := by rcases ha with g | g <;> exact g.mono (by omega)
    have hb' : Bd q (k + 1) b := by rcases hb with g | g <;> exact g.mono (by omega)
    have b1 := ha'.sub bt hq (by omega)
    have b2 := b1.add hb' hq (by omega)
    refine ⟨b2.1, ?_⟩
    have e1 : fop .sub a t = fop .add a (flipV t) := fsub_add a t
    have u1 := add_un (x := a) (y := flipV t) ha'.1 (by rw [flip_rg]; exact bt.1)
    have u2 := add_un (x := fop .sub a t) (y := b) b1.1 hb'.1
    have hsa : su a = un a := su_small (by omega)
    have hsb : su b = un b := su_small (by omega)
    have hst2 : su (flipV t) = -(un t : Int) := by rw [su_flip, su_small (by omega)]
    rw [← e1, hsa, hst2] at u1
    rw [hsb] at u2
    have r1 := isR_err u1.1 b1.1
    have r2 := isR_le2 u2.1 b2.1
    have hsp := su_abs (fop .sub a t)
    have hsq := su_abs (fop .add (fop .sub a t) b)
    have hate := un_le hat
    have hpl : rg (fop .sub a t) ≤ t := isR_le (by omega) (by omega) (by omega) u1.1
    have hple := un_le hpl
    generalize un (rg (fop .sub a t)) = P at *
    generalize un (rg (fop .add (fop .sub a t) b)) = Q at *
    generalize su (fop .add (fop .sub a t) b) = sq at *
    generalize su (fop .sub a t) = sp at *
    generalize un t = T at *
    generalize un a = ua at *
    generalize un b = ub at *
    omega
  have hlost : rg (if magGe s v then fop .add (fop .sub s (fop .add s v)) v else fop .add (fop .sub v (fop .add s v)) s) < 9218868437227405312 ∧ Bd q (k + (k + 1) + 1) (if magGe s v then fop .add (fop .sub s (fop .add s v)) v else fop .add (fop .sub v (fop .add s v)) s) ∧
      2251799813685248 * (su (if magGe s v then fop .add (fop .sub s (fop .add s v)) v else fop .add (fop .sub v (fop .add s v)) s)).natAbs ≤ un (fop .add s v) := by
    split
    · have a1 := key s v (.inr hb1) (.inl hbv) h1 hv rfl hst hvt
      exact ⟨a1.1, (hb1.sub bt hq (by omega)).add hbv hq (by omega), a1.2⟩
    · have a1 := key v s (.inl hbv) (.inr hb1) hv h1 (Nat.add_comm _ _) hvt hst
      exact ⟨a1.1, ((hbv.sub bt hq (by omega)).add hb1 hq (by omega)).mono (by omega), a1.2⟩
  simp only
  generalize (if magGe s v then fop .add (fop .sub s (fop .add s v)) v else fop .add (fop .sub v (fop .add s v)) s) = d at *
  have bc := hb2.add hlost.2.1 hq (by omega)
  refine ⟨bc.1, ?_⟩
  have u := add_un h2 hlost.1
  have r := isR_le2 u.1 bc.1
  have hsc := su_abs (fop .add c d)
  have h4 : k * un s ≤ k * un (fop .add s v) := Nat.mul_le_mul_left _ hste
  have h5 : (k + 1) * un (fop .add s v) = k * un (fop .add s v) + un (fop .add s v) := by rw [Nat.add_mul, Nat.one_mul]
  have h6 : k * un (fop .add s v) ≤ 300 * un (fop .add s v) := Nat.mul_le_mul_right _ hk
  have h7 := hlost.2.2
  rw [h5]
  generalize k * un (fop .add s v) = P at *
  generalize k * un s = P0 at *
  generalize un (fop .add s v) = T at *
  generalize un (rg (fop .add c d)) = C at *
  generalize su (fop .add c d) = sc2 at *
  generalize su c = sc at *
  generalize su d = sd at *
  omega
theorem pos_all {l : List Nat} {q : Nat} (hq : q ≤ 2071) (hv : ∀ x ∈ l, x < 9218868437227405312) (hb : ∀ x ∈ l, Bd q 1 x) (hn : l.length ≤ 300) :
    ∀ k, k ≤ l.length → PosSt k (partV (l.take k)) ∧ ∀ x ∈ l.take k, x ≤ (partV (l.take k)).1 := by
  intro k
  induction k with
  | zero => intro _; exact ⟨(show PosSt 0 ((0 : Nat), (0 : Nat)) from ⟨by decide, by decide, by decide⟩), by simp⟩
  | succ k ih =>
    intro hk
    obtain ⟨h1, h2⟩ := ih (by omega)
    obtain ⟨b1, b2⟩ := part_Bd hq l hb k (by omega) (by omega)
    have hm := List.getElem_mem (show k < l.length by omega)
    have st := pos_step (by omega) hq b1 b2 (hb _ hm) h1 (hv _ hm)
    rw [partV_take (by omega)]
    refine ⟨st.1, fun x hx => ?_⟩
    rw [List.take_succ_eq_append_getElem (by omega)] at hx
    rcases List.mem_append.1 hx with g | g
    · exact Nat.le_trans (h2 x g) st.2.1
    · rw [List.mem_singleton] at g; rw [g]; exact st.2.2
theorem class5_pos {x : Nat} (h : x < 9218868437227405312) : classV x ≠ 5 := by
  have h1 := ng_small (x := x) (by omega)
  have h2 := rg_small (x := x) (by omega)
  unfold classV
  rw [h1, h2]
  simp only [Bool.false_eq_true, if_false]
  (repeat' split) <;> omega
/-- the word of a half, a quarter, an eighth. -/
theorem un_half : un 4602678819172646912 * 2 = U1 := by decide +kernel
theorem un_quarter : un 4598175219545276416 * 4 = U1 := by decide +kernel
theorem un_eighth : un 4593671619917905920 * 8 = U1 := by decide +kernel
/-- the sum of numbers that are not below 0 is not below 0; nor is it small where one of them is not. -/
theorem pos_sum {l : List Nat} {q : Nat} (hq : q ≤ 2071) (hv : ∀ x ∈ l, x < 9218868437227405312) (hb : ∀ x ∈ l, Bd q 1 x) (hn : l.length ≤ 300) :
    sumV l < 9218868437227405312 ∧ ((∃ x ∈ l, 4598175219545276416 ≤ x) → 4593671619917905920 ≤ sumV l) := by
  have hneg : negAll l = false := by
    unfold negAll
    cases l with
    | nil => rfl
    | cons x l => have := class5_pos (hv x (List.mem_cons_self ..)); simp [this]
  obtain ⟨hp, hx⟩ := pos_all hq hv hb hn l.length (Nat.le_refl _)
  obtain ⟨b1, b2⟩ := part_Bd hq l hb l.length (Nat.le_refl _) hn
  rw [List.take_of_length_le (Nat.le_refl _)] at hp hx b1 b2
  unfold sumV
  rw [hneg, if_neg (by decide)]
  unfold endV
  obtain ⟨h1, h2, h3⟩ := hp
  have hkk : l.length * (l.length + 1) ≤ 300 * 301 := Nat.mul_le_mul (by omega) (by omega)
  rw [if_neg (by omega)]
  generalize (partV l).1 = s at *
  generalize (partV l).2 = c at *
  have hrs := rg_small (x := s) (by omega)
  have bs := b1.add b2 hq (by omega)
  have u := add_un (x := s) (y := c) b1.1 h2
  have hss : su s = un s := su_small (by omega)
  rw [hss] at u
  have h4 : l.length * un s ≤ 300 * un s := Nat.mul_le_mul_right _ hn
  have hge : 0 ≤ (un s : Int) + su c := by omega
  have hns : ng (fop .add s c) = false := by
    obtain ⟨r, g1, g2⟩ := fadd_fin b1.1 h2
    rw [g1, ng_mk _ _ (by have := g2.1; omega), hss]
    by_cases h0 : (un s : Int) + su c = 0
    · rw [if_pos h0, ng_small (x := s) (by omega)]; rfl
    · rw [if_neg h0, decide_eq_false (by omega)]
  have hw : fop .add s c = rg (fop .add s c) := mk_rg_lt (fop_lt _ _ _) hns
  refine ⟨by rw [hw]; exact bs.1, fun ⟨x, hxm, hxq⟩ => ?_⟩
  have hsx := un_le (Nat.le_trans hxq (hx x hxm))
  have hq4 := un_quarter
  have hq8 := un_eighth
  rw [hw]
  refine isR_ge (by omega) (by omega) ?_ u.1
  omega
theorem meanV_def (l : List Nat) : meanV l = fop .quo (sumV l) (F (l.length : Int)) := rfl
/-- the mean of whole numbers. -/
theorem F_pos {n : Nat} (h : n ≤ 9007199254740991) : F (n : Int) < 9218868437227405312 ∧ un (F (n : Int)) = n * U1 := by
  obtain ⟨r, h1, h2, h3⟩ := F_spec (n := (n : Int)) (by omega)
  rw [h1, decide_eq_false (by omega)]
  exact ⟨h3, by rw [show mk false r = r from rfl, h2, Int.natAbs_natCast]⟩
theorem mean_F {S : Int} {n : Nat} (hS : S.natAbs ≤ 9007199254740991) (hn : n ≤ 9007199254740991) (h0 : 0 < n) :
    ∃ r, fop .quo (F S) (F (n : Int)) = mk (decide (S < 0)) r ∧ isR (S.natAbs * U1) n r := by
  obtain ⟨g1, g2⟩ := F_pos hn
  have hU := U1_pos
  have hrg := rg_small (x := F (n : Int)) (by omega)
  have hp : 0 < F (n : Int) := by
    rcases Nat.eq_zero_or_pos (F (n : Int)) with g | g
    · rw [g, un_zero] at g2
      have := Nat.mul_pos h0 hU; omega
    · exact g
  obtain ⟨r, hr, hR⟩ := div_fin (F S) (F (n : Int)) (F_fin hS) (by rw [hrg]; exact g1) (by rw [hrg]; exact hp)
  refine ⟨r, ?_, ?_⟩
  · show (Ieee.double.div _ _).getD _ = _
    rw [hr, F_ng hS, ng_small (x := F (n : Int)) (by omega), Bool.xor_false]; rfl
  · rw [F_un hS, hrg, g2] at hR
    exact isR_congr (Nat.mul_pos h0 hU) h0 (by simp only [Nat.mul_assoc, Nat.mul_left_comm, Nat.mul_comm]) hR
theorem sk_F {z : Int} (h : z.natAbs ≤ 9007199254740991) : sk (F z) = if z < 0 then -(rg (F z) : Int) else (rg (F z) : Int) := by
  unfold sk
  rw [F_ng h]
  by_cases h0 : z < 0
  · rw [decide_eq_true h0, if_pos rfl, if_pos h0]
  · rw [decide_eq_false h0, if_neg (by decide), if_neg h0]
theorem mul_pull (a b : Nat) : a * U1 * b = a * b * U1 := Nat.mul_right_comm _ _ _
theorem mean_ge {S z : Int} {n : Nat} (hS : S.natAbs ≤ 9007199254740991) (hz : z.natAbs ≤ 1000000) (hn : n ≤ 300) (h0 : 0 < n) (h : z * n ≤ S) :
    rg (fop .quo (F S) (F (n : Int))) ≤ 9218868437227405312 ∧ sk (F z) ≤ sk (fop .quo (F S) (F (n : Int))) := by
  obtain ⟨r, h1, h2⟩ := mean_F hS (show n ≤ 9007199254740991 by omega) h0
  have hrI := h2.1
  have hzn : (z * n).natAbs = z.natAbs * n := by rw [Int.natAbs_mul, Int.natAbs_natCast]
  rw [h1, mk_rg hrI, sk_F (by omega)]
  refine ⟨hrI, ?_⟩
  have hsk : sk (mk (decide (S < 0)) r) = if S < 0 then -(r : Int) else (r : Int) := by
    unfold sk
    rw [mk_rg hrI, ng_mk _ _ (by omega)]
    by_cases g : S < 0
    · rw [decide_eq_true g, if_pos rfl, if_pos g]
    · rw [decide_eq_false g, if_neg (by decide), if_neg g]
  rw [hsk]
  have hfin := F_fin (n := z) (by omega)
  by_cases hz0 : z < 0
  · rw [if_pos hz0]
    by_cases hS0 : S < 0
    · rw [if_pos hS0]
      have : r ≤ rg (F z) := by
        refine isR_le h0 (by omega) ?_ h2
        rw [F_un (by omega), mul_pull]
        exact Nat.mul_le_mul_right _ (by rw [← hzn]; have : z * n ≤ 0 := Int.mul_nonpos_of_nonpos_of_nonneg (by omega) (by omega); omega)
      omega
    · rw [if_neg hS0]; omega
  · have hzn0 : 0 ≤ z * n := Int.mul_nonneg (by omega) (by omega)
    rw [if_neg hz0, if_neg (by omega)]
    have : rg (F z) ≤ r := by
      refine isR_ge h0 (by omega) ?_ h2
      rw [F_un (by omega), mul_pull]
      exact Nat.mul_le_mul_right _ (by rw [← hzn]; omega)
    omega
theorem mean_le {S z : Int} {n : Nat} (hS : S.natAbs ≤ 9007199254740991) (hz : z.natAbs ≤ 1000000) (hn : n ≤ 300) (h0 : 0 < n) (h : S ≤ z * n) :
    sk (fop .quo (F S) (F (n : Int))) ≤ sk (F z) := by
  obtain ⟨r, h1, h2⟩ := mean_F hS (show n ≤ 9007199254740991 by omega) h0
  have hrI := h2.1
  have hzn : (z * n).natAbs = z.natAbs * n := by rw [Int.natAbs_mul, Int.natAbs_natCast]
  rw [h1, sk_F (by omega)]
  have hsk : sk (mk (decide (S < 0)) r) = if S < 0 then -(r : Int) else (r : Int) := by
    unfold sk
    rw [mk_rg hrI, ng_mk _ _ (by omega)]
    by_cases g : S < 0
    · rw [decide_eq_true g, if_pos rfl, if_pos g]
    · rw [decide_eq_false g, if_neg (by decide), if_neg g]
  rw [hsk]
  have hfin := F_fin (n := z) (by omega)
  by_cases hz0 : z < 0
  · have hzn0 : z * n ≤ 0 := Int.mul_nonpos_of_nonpos_of_nonneg (by omega) (by omega)
    have hzn1 : z * n < 0 := Int.mul_neg_of_neg_of_pos hz0 (by omega)
    rw [if_pos hz0, if_pos (by omega)]
    have : rg (F z) ≤ r := by
      refine isR_ge h0 (by omega) ?_ h2
      rw [F_un (by omega), mul_pull]
      exact Nat.mul_le_mul_right _ (by rw [← hzn]; omega)
    omega
  · rw [if_neg hz0]
    by_cases hS0 : S < 0
    · rw [if_pos hS0]; omega
    · rw [if_neg hS0]
      have : r ≤ rg (F z) := by
        refine isR_le h0 (by omega) ?_ h2
        rw [F_un (by omega), mul_pull]
        exact Nat.mul_le_mul_right _ (by rw [← hzn]; omega)
      omega
theorem sk_su {x y : Nat} (h : sk x ≤ sk y) : su x ≤ su y := by
  have := su_sk x y
  rcases Int.lt_or_le (su y) (su x) with g | g
  · rw [cmp_gt g] at this
    rcases Int.lt_trichotomy (sk x) (sk y) with k | k | k
    · rw [cmp_lt k] at this; cases this
    · rw [k, cmp_eq] at this; cases this
    · omega
  · exact g
theorem sk_bd {x a b : Nat} (h1 : sk a ≤ sk x) (h2 : sk x ≤ sk b) : rg x ≤ rg a ∨ rg x ≤ rg b := by
  unfold sk at h1 h2
  cases hx : ng x <;> cases ha : ng a <;> cases hb : ng b <;> rw [hx, ha] at h1 <;> rw [hx, hb] at h2 <;> simp only [if_true, if_false, Bool.false_eq_true] at h1 h2 <;> omega
theorem isum_le {l : List Int} {z : Int} (h : ∀ x ∈ l, x ≤ z) : isum l ≤ z * l.length := by
  induction l with
  | nil => simp [isum]
  | cons x l ih =>
    have e : isum (x :: l) = x + isum l := by
      have := isum_append [x] l
      rw [List.singleton_append] at this
      rw [this]; unfold isum; simp
    have h1 := h x (List.mem_cons_self ..)
    have h2 := ih fun y hy => h y (List.mem_cons_of_mem _ hy)
    rw [e, List.length_cons, Int.natCast_add, Int.mul_add]
    omega
theorem isum_ge {l : List Int} {z : Int} (h : ∀ x ∈ l, z ≤ x) : z * l.length ≤ isum l := by
  induction l with
  | nil => simp [isum]
  | cons x l ih =>
    have e : isum (x :: l) = x + isum l := by
      have := isum_append [x] l
      rw [List.singleton_append] at this
      rw [this]; unfold isum; simp
    have h1 := h x (List.mem_cons_self ..)
    have h2 := ih fun y hy => h y (List.mem_cons_of_mem _ hy)
    rw [e, List.length_cons, Int.natCast_add, Int.mul_add]
    omega
/-- how far, squared: a number that is not below 0, nor too great; not small where the number is half a one away. -/
theorem far_pos {m z : Nat} (hm : rg m < 9218868437227405312) (hz : rg z < 9218868437227405312) (h : (su z - su m).natAbs ≤ 2000000 * U1) :
    farV m z < 9218868437227405312 ∧ un (farV m z) ≤ 4000000000000 * U1 ∧ (U1 ≤ 2 * (su z - su m).natAbs → 4598175219545276416 ≤ farV m z) := by
  have f2 := F_pos (n := 2000000) (by omega)
  have f4 := F_pos (n := 4000000000000) (by omega)
  obtain ⟨r, g1, g2⟩ := fadd_fin hz (show rg (flipV m) < 9218868437227405312 by rw [flip_rg]; exact hm)
  rw [su_flip, show su z + -su m = su z - su m by omega] at g1 g2
  have hd : fop .sub z m = mk (if su z - su m = 0 then ng z && ng (flipV m) else decide (su z - su m < 0)) r := by rw [fsub_add, g1]
  have hr : r ≤ F ((2000000 : Nat) : Int) := isR_le (by omega) (by omega) (by rw [f2.2, Nat.mul_one]; omega) g2
  have hrI := g2.1
  unfold farV
  generalize fop .sub z m = d at *
  have hrg : rg d = r := by rw [hd, mk_rg hrI]
  obtain ⟨q, k1, k2⟩ := mul_fin d d (by omega) (by omega)
  have he : fop .mul d d = q := by
    show (Ieee.double.mul d d).getD _ = q
    rw [k1, Bool.xor_self]; rfl
  rw [he]
  rw [hrg] at k2
  have hue := un_le hr
  rw [f2.2] at hue
  have hU := U1_pos
  have hq4 : q ≤ F ((4000000000000 : Nat) : Int) := by
    refine isR_le hU (by omega) ?_ k2
    rw [f4.2]
    calc un r * un r ≤ (2000000 * U1) * (2000000 * U1) := Nat.mul_le_mul hue hue
      _ = 4000000000000 * U1 * U1 := by rw [Nat.mul_mul_mul_comm, Nat.mul_assoc _ U1]
  refine ⟨by omega, by have := un_le hq4; rw [f4.2] at this; exact this, fun hh => ?_⟩
  have hhalf := un_half
  have hqu := un_quarter
  have hr2 : 4602678819172646912 ≤ r := isR_ge (by omega) (by omega) (by omega) g2
  have hre := un_le hr2
  refine isR_ge hU (by omega) ?_ k2
  refine Nat.le_trans ?_ (Nat.mul_le_mul hre hre)
  generalize un 4602678819172646912 = a at *
  generalize un 4598175219545276416 = c at *
  have : c * U1 = a * a := by
    rw [← hhalf] at hqu ⊢
    have : c * 2 = a := by omega
    rw [← this, ← Nat.mul_assoc, Nat.mul_comm (c * (c * 2)), Nat.mul_mul_mul_comm, Nat.mul_comm 2]
    simp only [Nat.mul_assoc, Nat.mul_left_comm, Nat.mul_comm]
  omega
theorem B1116 : 4000000000000 * U1 ≤ 1 * 2 ^ 1116 := by
  unfold U1
  rw [show (1116 : Nat) = 42 + e1074 by rw [e1074_eq], Nat.pow_add, Nat.one_mul]
  exact Nat.mul_le_mul_right _ (by decide)
/-- all that the law says of the mean and the spread of whole numbers. -/
theorem middle {l : List Int} {lo hi : Int} (hlen : l.length ≤ 200) (hb : ∀ x ∈ l, x.natAbs ≤ 1000000) (hlo : lo ∈ l) (hhi : hi ∈ l) (hall : ∀ x ∈ l, lo ≤ x ∧ x ≤ hi) :
    rg (meanV (l.map F)) ≤ 9218868437227405312 ∧ sk (F lo) ≤ sk (meanV (l.map F)) ∧ sk (meanV (l.map F)) ≤ sk (F hi) ∧ spreadV (l.map F) < 9218868437227405312 ∧ (spreadV (l.map F) = 0 ↔ lo = hi) := by
  have hpos : 0 < l.length := List.length_pos_of_mem hlo
  have hsum := sum_F (l := l) (B := 1000000) hb (by omega) (by omega)
  have hSb := isum_bd hb
  have hS : (isum l).natAbs ≤ 9007199254740991 := by omega
  have h1 := isum_ge (l := l) (z := lo) fun x hx => (hall x hx).1
  have h2 := isum_le (l := l) (z := hi) fun x hx => (hall x hx).2
  have hm : meanV (l.map F) = fop .quo (F (isum l)) (F (l.length : Int)) := by
    unfold meanV
    rw [hsum, List.length_map]; rfl
  have bl := hb lo hlo
  have bh := hb hi hhi
  have g1 := mean_ge hS bl (by omega) hpos h1
  have g2 := mean_le hS bh (by omega) hpos h2
  rw [← hm] at g1 g2
  have sl := F_su (n := lo) (by omega)
  have sh := F_su (n := hi) (by omega)
  have hml := sk_su g1.2
  have hmh := sk_su g2
  rw [sl] at hml
  rw [sh] at hmh
  have hU := U1_pos
  have hmfin : rg (meanV (l.map F)) < 9218868437227405312 := by
    have fl := F_fin (n := lo) (by omega)
    have fh := F_fin (n := hi) (by omega)
    have := sk_bd g1.2 g2
    omega
  refine ⟨g1.1, g1.2, g2, ?_⟩
  have hU1 : (lo * (U1 : Int)).natAbs ≤ 1000000 * U1 := by rw [Int.natAbs_mul, Int.natAbs_natCast]; exact Nat.mul_le_mul_right _ bl
  have hU2 : (hi * (U1 : Int)).natAbs ≤ 1000000 * U1 := by rw [Int.natAbs_mul, Int.natAbs_natCast]; exact Nat.mul_le_mul_right _ bh
  have hfar : ∀ x ∈ l, farV (meanV (l.map F)) (F x) < 9218868437227405312 ∧ un (farV (meanV (l.map F)) (F x)) ≤ 4000000000000 * U1 ∧ (U1 ≤ 2 * (su (F x) - su (meanV (l.map F))).natAbs → 4598175219545276416 ≤ farV (meanV (l.map F)) (F x)) := by
    intro x hx
    have bx := hb x hx
    refine far_pos hmfin (F_fin (by omega)) ?_
    rw [F_su (by omega)]
    have hU3 : (x * (U1 : Int)).natAbs ≤ 1000000 * U1 := by rw [Int.natAbs_mul, Int.natAbs_natCast]; exact Nat.mul_le_mul_right _ bx
    omega
  have hlist : ∀ y ∈ (l.map F).map (farV (meanV (l.map F))), ∃ x ∈ l, farV (meanV (l.map F)) (F x) = y := by
    intro y hy
    obtain ⟨a, ha, rfl⟩ := List.mem_map.1 hy
    obtain ⟨x, hx, rfl⟩ := List.mem_map.1 ha
    exact ⟨x, hx, rfl⟩
  have hps := pos_sum (l := (l.map F).map (farV (meanV (l.map F)))) (q := 1116) (by omega) (fun y hy => by
    obtain ⟨x, hx, rfl⟩ := hlist y hy
    exact (hfar x hx).1) (fun y hy => by
    obtain ⟨x, hx, rfl⟩ := hlist y hy
    have := hfar x hx
    exact ⟨by rw [rg_small (by omega)]; exact this.1, by rw [rg_small (by omega)]; exact Nat.le_trans this.2.1 B1116⟩) (by rw [List.length_map, List.length_map]; omega)
  have hlenF := F_pos (n := l.length) (by omega)
  have hlenP : 0 < F (l.length : Int) := by
    rcases Nat.eq_zero_or_pos (F (l.length : Int)) with g | g
    · have := hlenF.2; rw [g, un_zero] at this
      have := Nat.mul_pos hpos hU; omega
    · exact g
  have hspe : spreadV (l.map F) = fop .quo (sumV ((l.map F).map (farV (meanV (l.map F))))) (F (l.length : Int)) := by
    refine (meanV_def _).trans ?_
    rw [List.length_map, List.length_map]
  have hdiv := div_P hps.1 hlenF.1 hlenP
  rw [← hspe, hlenF.2] at hdiv
  have hdiv' : isR (un (sumV ((l.map F).map (farV (meanV (l.map F)))))) l.length (spreadV (l.map F)) := isR_congr (Nat.mul_pos hpos hU) hpos (by simp only [Nat.mul_assoc, Nat.mul_left_comm, Nat.mul_comm]) hdiv
  have hle : spreadV (l.map F) ≤ sumV ((l.map F).map (farV (meanV (l.map F)))) := isR_le hpos (by omega) (Nat.le_mul_of_pos_right _ hpos) hdiv'
  refine ⟨by omega, ?_, ?_⟩
  · intro h0
    rcases Int.lt_trichotomy lo hi with hlt | heq | hgt
    · exfalso
      have hex : ∃ y ∈ (l.map F).map (farV (meanV (l.map F))), 4598175219545276416 ≤ y := by
        have hgap : (U1 : Int) ≤ hi * (U1 : Int) - lo * (U1 : Int) := by
          have : (1 : Int) * (U1 : Int) ≤ (hi - lo) * (U1 : Int) := Int.mul_le_mul_of_nonneg_right (by omega) (by omega)
          rw [Int.sub_mul] at this
          omega
        by_cases hc : U1 ≤ 2 * (su (F hi) - su (meanV (l.map F))).natAbs
        · exact ⟨_, List.mem_map.2 ⟨_, List.mem_map.2 ⟨hi, hhi, rfl⟩, rfl⟩, (hfar hi hhi).2.2 hc⟩
        · refine ⟨_, List.mem_map.2 ⟨_, List.mem_map.2 ⟨lo, hlo, rfl⟩, rfl⟩, (hfar lo hlo).2.2 ?_⟩
          rw [sh] at hc
          rw [sl]
          omega
      have hbig := un_le (hps.2 hex)
      have he8 := un_eighth
      have h1p : 1 ≤ spreadV (l.map F) := by
        refine isR_ge hpos (by omega) ?_ hdiv'
        rw [show un 1 = 1 by decide, Nat.one_mul]
        have := U1_big
        omega
      omega
    · exact heq
    · have := (hall lo hlo).2; omega
  · intro h0
    subst h0
    have hconst : ∀ x ∈ l, x = lo := fun x hx => by have := hall x hx; omega
    have hmean : meanV (l.map F) = F lo := by
      have hSe : isum l = lo * l.length := by omega
      obtain ⟨r, k1, k2⟩ := mean_F hS (show l.length ≤ 9007199254740991 by omega) hpos
      obtain ⟨r', j1, j2, j3⟩ := F_spec (n := lo) (by omega)
      have : r = r' := isR_at hpos (by omega) (by rw [j2, hSe, Int.natAbs_mul, Int.natAbs_natCast, mul_pull]) k2
      rw [hm, k1, j1, this, hSe]
      congr 1
      have hlz : 0 < (l.length : Int) := by omega
      exact decide_eq_decide.2 ⟨fun h => by
        rcases Int.lt_or_le lo 0 with g | g
        · exact g
        · have := Int.mul_nonneg g (Int.le_of_lt hlz); omega, fun h => Int.mul_neg_of_neg_of_pos h hlz⟩
    have hz : (l.map F).map (farV (meanV (l.map F))) = (l.map fun _ => (0 : Int)).map F := by
      rw [hmean, List.map_map, List.map_map]
      refine List.map_congr_left fun x hx => ?_
      show farV (F lo) (F x) = F 0
      rw [hconst x hx]
      unfold farV
      rw [sub_F (by omega) (by omega) (by omega), Int.sub_self, F_zero]
      decide +kernel
    have hs0 : sumV ((l.map F).map (farV (meanV (l.map F)))) = 0 := by
      rw [hz, sum_F (B := 0) (fun x hx => by obtain ⟨_, _, rfl⟩ := List.mem_map.1 hx; decide) (by omega) (by omega)]
      have : isum (l.map fun _ => (0 : Int)) = 0 := by
        have := isum_bd (l := l.map fun _ => (0 : Int)) (B := 0) (fun x hx => by obtain ⟨_, _, rfl⟩ := List.mem_map.1 hx; decide)
        omega
      rw [this, F_zero]
    omega
end Go.Proofs.Ythiiicgibcgipaa.Fl
