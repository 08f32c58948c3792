/- Plain facts on binary64 words, no program in sight: whole numbers summed without an error; twice each number is twice the sum; products with ones and with noughts. -/
import Derived.Test.YthiiicgibcgipaaFlU
namespace Go.Proofs.Ythiiicgibcgipaa.Fl
set_option linter.unusedSimpArgs false

/-- the word of a whole number. -/
def F (n : Int) : Nat := floatOfInt .f64 n
theorem F_spec {n : Int} (h : n.natAbs ≤ 9007199254740991) : ∃ r, F n = mk (decide (n < 0)) r ∧ un r = n.natAbs * U1 ∧ r < 9218868437227405312 := ofInt_exact n h
theorem F_fin {n : Int} (h : n.natAbs ≤ 9007199254740991) : rg (F n) < 9218868437227405312 := by
  obtain ⟨r, h1, h2, h3⟩ := F_spec h
  rw [h1, mk_rg (by omega)]; exact h3
theorem F_un {n : Int} (h : n.natAbs ≤ 9007199254740991) : un (rg (F n)) = n.natAbs * U1 := by
  obtain ⟨r, h1, h2, h3⟩ := F_spec h
  rw [h1, mk_rg (by omega)]; exact h2
theorem F_ng {n : Int} (h : n.natAbs ≤ 9007199254740991) : ng (F n) = decide (n < 0) := by
  obtain ⟨r, h1, h2, h3⟩ := F_spec h
  rw [h1, ng_mk _ _ (by omega)]
theorem F_su {n : Int} (h : n.natAbs ≤ 9007199254740991) : su (F n) = n * (U1 : Int) := by
  unfold su
  rw [F_ng h, F_un h]
  have e : ((n.natAbs * U1 : Nat) : Int) = (n.natAbs : Int) * (U1 : Int) := Int.natCast_mul _ _
  rw [e]
  by_cases h0 : n < 0
  · rw [decide_eq_true h0, if_pos rfl, show (n.natAbs : Int) = -n by omega, Int.neg_mul, Int.neg_neg]
  · rw [decide_eq_false h0, if_neg (by decide), show (n.natAbs : Int) = n by omega]
theorem F_lt (n : Int) : F n < 18446744073709551616 := (ofInt_num n).2
theorem F_zero : F 0 = 0 := by decide +kernel
/-- two words whose numbers add up to a whole one. -/
theorem add_to_F {x y : Nat} {n : Int} (hx : rg x < 9218868437227405312) (hy : rg y < 9218868437227405312) (h : su x + su y = n * (U1 : Int)) (hn : n.natAbs ≤ 9007199254740991) (hz : n = 0 → (ng x && ng y) = false) : fop .add x y = F n := by
  obtain ⟨r, h1, h2⟩ := fadd_fin hx hy
  obtain ⟨q, g1, g2, g3⟩ := F_spec hn
  have hU := U1_pos
  have e : (su x + su y).natAbs = n.natAbs * U1 := by rw [h, Int.natAbs_mul, Int.natAbs_natCast]
  have hr : r = q := isR_at (by omega) (by omega) (by rw [e, g2, Nat.mul_one]) h2
  subst hr
  rw [h1, g1]
  congr 1
  by_cases h0 : n = 0
  · rw [if_pos (by rw [h, h0, Int.zero_mul]), hz h0, h0]; rfl
  · have hU' : (0 : Int) < U1 := by omega
    rw [if_neg (by rw [h]; exact Int.mul_ne_zero h0 (by omega)), h]
    by_cases hneg : n < 0
    · rw [decide_eq_true hneg, decide_eq_true]
      have := Int.mul_lt_mul_of_pos_right hneg hU'
      rwa [Int.zero_mul] at this
    · rw [decide_eq_false hneg, decide_eq_false]
      have := Int.mul_nonneg (show 0 ≤ n by omega) (Int.le_of_lt hU')
      omega
theorem add_F {a b : Int} (ha : a.natAbs ≤ 9007199254740991) (hb : b.natAbs ≤ 9007199254740991) (h : (a + b).natAbs ≤ 9007199254740991) : fop .add (F a) (F b) = F (a + b) := by
  refine add_to_F (F_fin ha) (F_fin hb) (by rw [F_su ha, F_su hb, Int.add_mul]) h fun h0 => ?_
  rw [F_ng ha, F_ng hb]
  simp only [Bool.and_eq_false_iff, decide_eq_false_iff_not]
  omega
theorem su_flip (x : Nat) : su (flipV x) = - su x := by unfold flipV; exact neg_su x
theorem sub_F {a b : Int} (ha : a.natAbs ≤ 9007199254740991) (hb : b.natAbs ≤ 9007199254740991) (h : (a - b).natAbs ≤ 9007199254740991) : fop .sub (F a) (F b) = F (a - b) := by
  rw [fsub_add]
  refine add_to_F (F_fin ha) (by rw [flip_rg]; exact F_fin hb) (by rw [F_su ha, su_flip, F_su hb, Int.sub_mul]; omega) h fun h0 => ?_
  rw [F_ng ha, flip_ng, F_ng hb, show a = b by omega]
  cases decide (b < 0) <;> rfl
theorem step_F {s x : Int} (hs : s.natAbs ≤ 2251799813685248) (hx : x.natAbs ≤ 2251799813685248) : stepV (F s, 0) (F x) = (F (s + x), 0) := by
  unfold stepV
  simp only
  rw [add_F (by omega) (by omega) (by omega)]
  congr 1
  rw [sub_F (by omega) (by omega) (by omega), sub_F (by omega) (by omega) (by omega)]
  have z : (0 : Nat) = F 0 := F_zero.symm
  split
  · rw [add_F (by omega) (by omega) (by omega), show s - (s + x) + x = 0 by omega, z, add_F (by decide) (by decide) (by decide)]; rfl
  · rw [add_F (by omega) (by omega) (by omega), show x - (s + x) + s = 0 by omega, z, add_F (by decide) (by decide) (by decide)]; rfl
/-- a sum of whole numbers. -/
def isum (l : List Int) : Int := l.foldl (· + ·) 0
theorem isum_snoc (l : List Int) (x : Int) : isum (l ++ [x]) = isum l + x := by unfold isum; rw [List.foldl_append]; rfl
theorem isum_take {l : List Int} {k : Nat} (h : k < l.length) : isum (l.take (k + 1)) = isum (l.take k) + l[k] := by
  rw [List.take_succ_eq_append_getElem h, isum_snoc]
theorem isum_from (l : List Int) (a : Int) : l.foldl (· + ·) a = a + isum l := by
  unfold isum
  induction l generalizing a with
  | nil => simp
  | cons x l ih => rw [List.foldl_cons, List.foldl_cons, ih, ih (0 + x)]; omega
theorem isum_append (l m : List Int) : isum (l ++ m) = isum l + isum m := by
  unfold isum
  rw [List.foldl_append, isum_from]; rfl
theorem isum_bd {l : List Int} {B : Nat} (h : ∀ x ∈ l, x.natAbs ≤ B) : (isum l).natAbs ≤ l.length * B := by
  induction l with
  | nil => simp [isum]
  | cons x l ih =>
    have e : isum (x :: l) = x + isum l := by
      have := isum_append [x] l
      rw [List.singleton_append] at this
      rw [this]; unfold isum; simp
    have h1 := h x (List.mem_cons_self ..)
    have h2 := ih fun y hy => h y (List.mem_cons_of_mem _ hy)
    rw [e, List.length_cons, Nat.add_mul, Nat.one_mul]
    omega
theorem part_F {l : List Int} {B : Nat} (h : ∀ x ∈ l, x.natAbs ≤ B) (hB : l.length * B ≤ 2251799813685248) (hB1 : B ≤ 2251799813685248) : ∀ k, k ≤ l.length → partV ((l.map F).take k) = (F (isum (l.take k)), 0) := by
  intro k
  induction k with
  | zero => intro _; show ((0 : Nat), (0 : Nat)) = (F (isum []), 0); rw [show isum [] = 0 from rfl, F_zero]
  | succ k ih =>
    intro hk
    rw [partV_take (by rw [List.length_map]; omega), ih (by omega), List.getElem_map, isum_take (by omega)]
    have h1 := isum_bd (l := l.take k) (B := B) fun x hx => h x (List.mem_of_mem_take hx)
    rw [List.length_take] at h1
    have h2 : min k l.length * B ≤ l.length * B := Nat.mul_le_mul_right _ (by omega)
    have h3 := h _ (List.getElem_mem (show k < l.length by omega))
    exact step_F (by omega) (by omega)
theorem class_F {n : Int} (h : n.natAbs ≤ 9007199254740991) : classV (F n) ≠ 5 := by
  intro h5
  have hg := F_ng h
  have hu := F_un h
  have hU := U1_pos
  unfold classV at h5
  rw [hg] at h5
  by_cases h0 : rg (F n) = 0
  · rw [h0, un_zero] at hu
    have : n = 0 := by
      rcases Nat.eq_zero_or_pos n.natAbs with g | g
      · omega
      · have := Nat.mul_pos g hU; omega
    subst this
    rw [h0] at h5
    simp at h5
  · rw [if_neg (by have := F_fin h; omega), if_neg h0] at h5
    (repeat' split at h5) <;> omega
theorem add_F_zero {n : Int} (h : n.natAbs ≤ 9007199254740991) : fop .add (F n) 0 = F n := by
  have := add_F (a := n) (b := 0) h (by decide) (by omega)
  rw [F_zero, Int.add_zero] at this
  exact this
/-- whole numbers that are not too great are summed without an error. -/
theorem sum_F {l : List Int} {B : Nat} (h : ∀ x ∈ l, x.natAbs ≤ B) (hB : l.length * B ≤ 2251799813685248) (hB1 : B ≤ 2251799813685248) : sumV (l.map F) = F (isum l) := by
  have hp := part_F h hB hB1 l.length (Nat.le_refl _)
  rw [List.take_of_length_le (Nat.le_refl _), List.take_of_length_le (by simp)] at hp
  have hn : negAll (l.map F) = false := by
    unfold negAll
    cases l with
    | nil => rfl
    | cons x l =>
      have h1 := h x (List.mem_cons_self ..)
      have := class_F (n := x) (by omega)
      simp [this]
  have hb := isum_bd h
  unfold sumV
  rw [hn, if_neg (by decide), hp]
  unfold endV
  simp only
  rw [if_neg (by decide)]
  exact add_F_zero (by omega)
theorem sum_F_turn {l : List Int} {B k : Nat} (h : ∀ x ∈ l, x.natAbs ≤ B) (hB : l.length * B ≤ 2251799813685248) (hB1 : B ≤ 2251799813685248) : sumV ((l.map F).drop k ++ (l.map F).take k) = F (isum l) := by
  have e : (l.map F).drop k ++ (l.map F).take k = (l.drop k ++ l.take k).map F := by rw [List.map_append, List.map_drop, List.map_take]
  have e2 : isum (l.drop k ++ l.take k) = isum l := by
    have h1 := isum_append (l.take k) (l.drop k)
    rw [List.take_append_drop] at h1
    rw [isum_append]; omega
  rw [e, ← e2]
  refine sum_F (B := B) (fun x hx => ?_) ?_ hB1
  · rcases List.mem_append.1 hx with g | g
    · exact h x (List.mem_of_mem_drop g)
    · exact h x (List.mem_of_mem_take g)
  · rw [List.length_append, List.length_drop, List.length_take]
    exact Nat.le_trans (Nat.mul_le_mul_right _ (by omega)) hB
theorem t_eq_same {x : Nat} (h : rg x ≤ 9218868437227405312) : (FloatKind.f64.format.order x x == some .eq) = true := t_eq_num h

/-- y is twice x. -/
def Tw (x y : Nat) : Prop := rg x < 9218868437227405312 ∧ rg y < 9218868437227405312 ∧ ng y = ng x ∧ un (rg y) = 2 * un (rg x)
theorem Tw.su {x y : Nat} (h : Tw x y) : su y = 2 * Fl.su x := by
  obtain ⟨_, _, h3, h4⟩ := h
  unfold Fl.su
  rw [h3, h4]
  split <;> omega
theorem Tw.flip {x y : Nat} (h : Tw x y) : Tw (flipV x) (flipV y) := by
  unfold Tw at *
  rw [flip_rg, flip_rg, flip_ng, flip_ng, h.2.2.1]
  exact ⟨h.1, h.2.1, rfl, h.2.2.2⟩
theorem Tw.zero : Tw 0 0 := ⟨by decide, by decide, rfl, by decide⟩
theorem un_twice (k : Nat) (h : 4503599627370496 ≤ k) : un (k + 4503599627370496) = 2 * un k := by
  obtain ⟨h1, h2, h3⟩ := mgpl k
  have hm : 4503599627370496 ≤ mg k := by
    rcases h3 with h3 | h3
    · rw [h3] at h1; omega
    · exact h3
  have a0 := un_at (pl k) (mg k) h2 (.inr hm)
  have a1 := un_at (pl k + 1) (mg k) h2 (.inr hm)
  rw [← h1] at a0
  rw [show k + 4503599627370496 = (pl k + 1) * 4503599627370496 + mg k by omega, a1, a0, Nat.pow_succ]
  generalize 2 ^ pl k = t
  rw [Nat.mul_comm 2, Nat.mul_assoc]
theorem H_twice (k : Nat) (h : 4503599627370496 ≤ k) : H (k + 4503599627370496) = 2 * H k := by
  unfold H
  rw [un_twice k h, show k + 4503599627370496 + 1 = k + 1 + 4503599627370496 by omega, un_twice (k + 1) (by omega)]
  omega
theorem un_small {k : Nat} (h : k ≤ 9007199254740992) : un k = k := by
  rcases Nat.lt_or_ge k 9007199254740992 with g | g
  · have := un_at 0 k g (.inl rfl); simpa using this
  · obtain rfl : k = 9007199254740992 := by omega
    have := un_at 1 4503599627370496 (by omega) (by omega)
    simpa using this
theorem un_53 : un 9007199254740992 = 9007199254740992 := un_small (Nat.le_refl _)
/-- a rounding of twice as much is twice the rounding, where nothing runs over. -/
theorem isR_twice {v r q : Nat} (h : isR v 1 r) (h2 : isR (2 * v) 1 q) (hq : q < 9218868437227405312) : un q = 2 * un r := by
  rcases Nat.lt_or_ge v 4503599627370496 with hs | hs
  · have e1 : r = v := isR_at (by omega) (by omega) (by rw [un_small (by omega)]; omega) h
    have e2 : q = 2 * v := isR_at (by omega) (by omega) (by rw [un_small (by omega)]; omega) h2
    rw [e1, e2, un_small (by omega), un_small (by omega)]
  · have hr : 4503599627370496 ≤ r := isR_ge (by omega) (by omega) (by rw [un_small (by omega)]; omega) h
    have hq2 : 9007199254740992 ≤ q := isR_ge (by omega) (by omega) (by rw [un_53]; omega) h2
    have e : q = r + 4503599627370496 := by
      rcases Nat.lt_trichotomy q (r + 4503599627370496) with g | g | g
      · exfalso
        have hk := (h2.2 q hq)
        have hn : ¬ (H q * 1 < 2 * (2 * v) ∨ (H q * 1 = 2 * (2 * v) ∧ q % 2 = 1)) := fun hh => by have := hk.2 hh; omega
        have hk2 := (h.2 (q - 4503599627370496) (by omega)).1 (by omega)
        have eH := H_twice (q - 4503599627370496) (by omega)
        rw [Nat.sub_add_cancel (by omega)] at eH
        omega
      · exact g
      · exfalso
        have hk := (h2.2 (q - 1) (by omega)).1 (by omega)
        have hk2 := h.2 (q - 1 - 4503599627370496) (by omega)
        have eH := H_twice (q - 1 - 4503599627370496) (by omega)
        rw [Nat.sub_add_cancel (by omega)] at eH
        have hn : ¬ (q - 1 - 4503599627370496 < r) := by omega
        apply hn
        apply hk2.2
        omega
    rw [e, un_twice r hr]
theorem Tw.add {x y s t : Nat} (hx : Tw x y) (hs : Tw s t) (hf : rg (fop .add y t) < 9218868437227405312) : Tw (fop .add x s) (fop .add y t) := by
  obtain ⟨r, h1, h2⟩ := fadd_fin hx.1 hs.1
  obtain ⟨q, g1, g2⟩ := fadd_fin hx.2.1 hs.2.1
  have e : Fl.su y + Fl.su t = 2 * (Fl.su x + Fl.su s) := by rw [hx.su, hs.su]; omega
  rw [e] at g1 g2
  rw [g1, mk_rg g2.1] at hf
  have e2 : (2 * (Fl.su x + Fl.su s)).natAbs = 2 * (Fl.su x + Fl.su s).natAbs := by omega
  rw [e2] at g2
  have hu := isR_twice h2 g2 hf
  have hr : r < 9218868437227405312 := by
    have h0 := @un_le r q
    rcases Nat.lt_or_ge q r with g | g
    · have := un_lt g; omega
    · omega
  rw [g1, h1]
  refine ⟨by rw [mk_rg h2.1]; exact hr, by rw [mk_rg g2.1]; exact hf, ?_, by rw [mk_rg h2.1, mk_rg g2.1]; exact hu⟩
  rw [ng_mk _ _ (by omega), ng_mk _ _ (by omega), hx.2.2.1, hs.2.2.1]
  generalize Fl.su x + Fl.su s = z
  by_cases h0 : z = 0
  · rw [if_pos h0, if_pos (by omega)]
  · rw [if_neg h0, if_neg (by omega)]
    congr 1
    exact propext (by omega)
theorem Tw.sub {x y s t : Nat} (hx : Tw x y) (hs : Tw s t) (hf : rg (fop .sub y t) < 9218868437227405312) : Tw (fop .sub x s) (fop .sub y t) := by
  rw [fsub_add] at hf ⊢
  rw [fsub_add]
  exact hx.add hs.flip hf
theorem Tw.mag {x y s t : Nat} (hx : Tw x y) (hs : Tw s t) : magGe t y = magGe s x := by
  unfold magGe
  rw [decide_eq_true (show rg t ≤ 9218868437227405312 by have := hs.2.1; omega), decide_eq_true (show rg s ≤ 9218868437227405312 by have := hs.1; omega)]
  congr 1
  have a := @un_lt_iff (rg s) (rg x)
  have b := @un_lt_iff (rg t) (rg y)
  rw [hx.2.2.2, hs.2.2.2] at b
  exact decide_eq_decide.2 (by omega)
theorem Tw.self {x : Nat} (hf : rg (fop .add x x) < 9218868437227405312) (hx : rg x < 9218868437227405312) : Tw x (fop .add x x) := by
  obtain ⟨q, g1, g2⟩ := fadd_fin hx hx
  have e : (Fl.su x + Fl.su x).natAbs = 2 * un (rg x) := by have := su_abs x; omega
  rw [e] at g2
  rw [g1, mk_rg g2.1] at hf
  have hu := isR_twice (r := rg x) (by have := isR_exact 1 (rg x) (by omega) (by omega); rwa [Nat.mul_one] at this) g2 hf
  rw [g1]
  refine ⟨hx, by rw [mk_rg g2.1]; exact hf, ?_, by rw [mk_rg g2.1]; exact hu⟩
  rw [ng_mk _ _ (by omega)]
  unfold Fl.su at *
  by_cases h0 : un (rg x) = 0
  · rw [if_pos (by split <;> omega)]; cases ng x <;> rfl
  · rw [if_neg (by split <;> omega)]
    cases ng x <;> simp <;> omega
theorem Tw.eq {x y z : Nat} (h : Tw x y) (h2 : Tw x z) (hy : lt64 y) (hz : lt64 z) : y = z :=
  word_inj hy hz (h.2.2.1.trans h2.2.2.1.symm) (un_inj (h.2.2.2.trans h2.2.2.2.symm))
theorem Tw.class5 {x y : Nat} (h : Tw x y) : (classV y == 5) = (classV x == 5) := by
  have hz : rg y = 0 ↔ rg x = 0 := by
    have a := @un_pos (rg y)
    have b := @un_pos (rg x)
    have c := h.2.2.2
    have u0 := un_zero
    constructor
    · intro g
      rw [g, u0] at c
      rcases Nat.eq_zero_or_pos (rg x) with k | k
      · exact k
      · have := b k; omega
    · intro g
      rw [g, u0] at c
      rcases Nat.eq_zero_or_pos (rg y) with k | k
      · exact k
      · have := a k; omega
  have f1 := h.1
  have f2 := h.2.1
  have key : ∀ z : Nat, rg z < 9218868437227405312 → (classV z = 5 ↔ (rg z = 0 ∧ ng z = true)) := by
    intro z hz
    unfold classV
    rw [if_neg (by omega)]
    by_cases h0 : rg z = 0
    · rw [if_pos h0]; cases ng z <;> simp [h0]
    · rw [if_neg h0]
      constructor
      · intro g; (repeat' split at g) <;> omega
      · intro g; omega
  rw [Bool.eq_iff_iff, beq_iff_eq, beq_iff_eq, key y f2, key x f1, hz, h.2.2.1]
theorem tw_list {l m : List Nat} (hl : m.length = l.length) (h : ∀ i (hi : i < l.length), Tw l[i] (m[i]'(by omega))) {p : Nat} (hp : p ≤ 2071) (hb : ∀ x ∈ m, Bd p 1 x) (hn : l.length ≤ 300) :
    ∀ k, k ≤ l.length → Tw (partV (l.take k)).1 (partV (m.take k)).1 ∧ Tw (partV (l.take k)).2 (partV (m.take k)).2 := by
  intro k
  induction k with
  | zero => intro _; exact ⟨Tw.zero, Tw.zero⟩
  | succ k ih =>
    intro hk
    obtain ⟨h1, h2⟩ := ih (by omega)
    obtain ⟨b1, b2⟩ := part_Bd hp m hb k (by omega) (by omega)
    have hx := h k (by omega)
    have hbx := hb _ (List.getElem_mem (show k < m.length by omega))
    rw [partV_take (by omega), partV_take (by omega)]
    have hkk : k * (k + 1) ≤ 300 * 300 := Nat.mul_le_mul (by omega) (by omega)
    have bt := b1.add hbx hp (by omega)
    have ht := h1.add hx bt.1
    refine ⟨ht, ?_⟩
    unfold stepV
    simp only
    rw [hx.mag h1]
    split
    · have c1 := b1.sub bt hp (by omega)
      have c2 := c1.add hbx hp (by omega)
      exact h2.add ((h1.sub ht c1.1).add hx c2.1) (b2.add c2 hp (by omega)).1
    · have c1 := hbx.sub bt hp (by omega)
      have c2 := c1.add b1 hp (by omega)
      exact h2.add ((hx.sub ht c1.1).add h1 c2.1) (b2.add c2 hp (by omega)).1
theorem sum_tw {l m : List Nat} (hl : m.length = l.length) (h : ∀ i (hi : i < l.length), Tw l[i] (m[i]'(by omega))) {p : Nat} (hp : p ≤ 2071) (hb : ∀ x ∈ m, Bd p 1 x) (hn : l.length ≤ 300) :
    Tw (sumV l) (sumV m) := by
  have hneg : negAll m = negAll l := by
    unfold negAll
    have e1 : (l.all fun x => classV x == 5) = (m.all fun x => classV x == 5) := by
      rw [Bool.eq_iff_iff, List.all_eq_true, List.all_eq_true]
      constructor
      · intro g x hx
        obtain ⟨i, hi, rfl⟩ := List.getElem_of_mem hx
        rw [(h i (by omega)).class5]
        exact g _ (List.getElem_mem _)
      · intro g x hx
        obtain ⟨i, hi, rfl⟩ := List.getElem_of_mem hx
        rw [← (h i (by omega)).class5]
        exact g _ (List.getElem_mem _)
    rw [e1]
    congr 2
    cases l <;> cases m <;> simp at hl <;> rfl
  have hk := tw_list hl h hp hb hn l.length (Nat.le_refl _)
  have hB := part_Bd hp m hb m.length (Nat.le_refl _) (by omega)
  rw [← hl, List.take_of_length_le (Nat.le_refl _), List.take_of_length_le (by omega)] at hk
  rw [List.take_of_length_le (Nat.le_refl _)] at hB
  unfold sumV
  rw [hneg]
  split
  · exact ⟨by decide, by decide, by decide, by decide⟩
  · unfold endV
    rw [if_neg (by have := hk.2.1; omega), if_neg (by have := hk.2.2.1; omega)]
    have hkk : m.length * (m.length + 1) ≤ 300 * 301 := Nat.mul_le_mul (by omega) (by omega)
    exact hk.1.add hk.2 (hB.1.add hB.2 hp (by omega)).1
theorem two_times (p : Nat) : (1 + 1) * 2 ^ p = 1 * 2 ^ (p + 1) := by rw [Nat.pow_succ]; omega
theorem Bd.two {p x : Nat} (h : Bd p (1 + 1) x) : Bd (p + 1) 1 x := ⟨h.1, by rw [← two_times]; exact h.2⟩
/-- twice each number is twice the sum. -/
theorem sum_doubles {l : List Nat} (hw : ∀ x ∈ l, Bd 2070 1 x) (hn : l.length ≤ 300) : sumV (l.map fun x => fop .add x x) = fop .add (sumV l) (sumV l) := by
  have hb : ∀ x ∈ l, Bd 2071 1 (fop .add x x) := by
    intro x hx
    exact ((hw x hx).add (hw x hx) (by omega) (by omega)).two
  have h := sum_tw (l := l) (m := l.map fun x => fop .add x x) (by simp) (fun i hi => by
    rw [List.getElem_map]
    have hm := List.getElem_mem hi
    exact Tw.self (hb _ hm).1 (hw _ hm).1) (p := 2071) (by omega) (fun x hx => by
    obtain ⟨y, hy, rfl⟩ := List.mem_map.1 hx
    exact hb y hy) hn
  have hs : rg (sumV l) < 9218868437227405312 := h.1
  have hs2 : rg (fop .add (sumV l) (sumV l)) < 9218868437227405312 := by
    have := h.2.1
    have hk := sum_fin (p := 2070) (by omega) l hw hn
    refine Nat.lt_of_le_of_lt (add_le hs hs (q := rg (sumV (l.map fun x => fop .add x x))) (by omega) ?_) this
    rw [h.2.2.2]
    have := su_abs (sumV l)
    omega
  exact h.eq (Tw.self hs2 hs) (sumV_lt _) (fop_lt _ _ _)
end Go.Proofs.Ythiiicgibcgipaa.Fl
