/- Plain facts on binary64 words, no program in sight: what a sum is where infinities and NaNs were seen; the class of a sum at its edges. -/
import Derived.Test.YthiiicgibcgipaaFlT
namespace Go.Proofs.Ythiiicgibcgipaa.Fl
set_option linter.unusedSimpArgs false

/-- what sums give where one side is not finite. -/
theorem add_NaN_l {x y : Nat} (h : 9218868437227405312 < rg x) : fop .add x y = 9221120237041090560 := fop_nan (.inl h)
theorem add_NaN_r {x y : Nat} (h : 9218868437227405312 < rg y) : fop .add x y = 9221120237041090560 := fop_nan (.inr h)
theorem add_inf_fin {x y : Nat} (hx : rg x = 9218868437227405312) (hy : rg y < 9218868437227405312) : fop .add x y = mk (ng x) 9218868437227405312 := by
  rw [fop_add]; unfold fadd; rw [show Ieee.double.add x y = _ from add_inf_l x y hx hy]; rfl
theorem add_fin_inf {x y : Nat} (hx : rg x < 9218868437227405312) (hy : rg y = 9218868437227405312) : fop .add x y = mk (ng y) 9218868437227405312 := by
  rw [fop_add]; unfold fadd; rw [show Ieee.double.add x y = _ from add_inf_r x y hx hy]; rfl
theorem add_inf_same {x y : Nat} (hx : rg x = 9218868437227405312) (hy : rg y = 9218868437227405312) (h : ng x = ng y) : fop .add x y = mk (ng x) 9218868437227405312 := by
  rw [fop_add]; unfold fadd; rw [show Ieee.double.add x y = _ from add_inf_inf x y hx hy, if_pos h]; rfl
theorem add_inf_other {x y : Nat} (hx : rg x = 9218868437227405312) (hy : rg y = 9218868437227405312) (h : ng x ≠ ng y) : fop .add x y = 9221120237041090560 := by
  rw [fop_add]; unfold fadd; rw [show Ieee.double.add x y = _ from add_inf_inf x y hx hy, if_neg h]; rfl
theorem st1 (s c x : Nat) : (stepV (s, c) x).1 = fop .add s x := rfl
theorem nan_C0 : 9218868437227405312 < rg 9221120237041090560 := by decide

/-- which infinities were seen among the first k numbers. -/
def upB (l : List Nat) : Bool := l.any fun x => classV x == 9
def downB (l : List Nat) : Bool := l.any fun x => classV x == 2
def badB (l : List Nat) : Bool := l.any fun x => classV x == 1

/-- the two of a sum, by what was seen: no infinity, one, both. -/
def EdSt (k : Nat) (u d : Bool) (p : Nat × Nat) : Prop :=
  if u && d then 9218868437227405312 < rg p.1
  else if u then p.1 = 9218868437227405312 ∧ 9218868437227405312 < rg p.2
  else if d then p.1 = 18442240474082181120 ∧ 9218868437227405312 < rg p.2
  else Bd 2071 k p.1 ∧ Bd 2071 (k * (k + 1)) p.2

theorem class_up {x : Nat} (hx : lt64 x) (h : classV x = 9) : x = 9218868437227405312 := by
  unfold classV at h
  have hw := word_eq hx
  cases hs : ng x <;> rw [hs] at h hw <;> simp only [if_true, if_false, Bool.false_eq_true] at h hw <;> (repeat' split at h) <;> first | omega | skip
theorem class_down {x : Nat} (hx : lt64 x) (h : classV x = 2) : x = 18442240474082181120 := by
  unfold classV at h
  have hw := word_eq hx
  cases hs : ng x <;> rw [hs] at h hw <;> simp only [if_true, if_false, Bool.false_eq_true] at h hw <;> (repeat' split at h) <;> first | omega | skip
theorem class_nan {x : Nat} : classV x = 1 ↔ 9218868437227405312 < rg x := by
  unfold classV
  cases hs : ng x <;> simp only [if_true, if_false, Bool.false_eq_true] <;> (repeat' split) <;> constructor <;> intro h <;> omega
theorem class_of_up : classV 9218868437227405312 = 9 := by decide
theorem class_of_down : classV 18442240474082181120 = 2 := by decide
/-- one number more, of which none is a NaN, and no finite one too great. -/
theorem ed_step {k : Nat} {u d : Bool} {p : Nat × Nat} {x : Nat} (hk : k < 300) (h : EdSt k u d p) (hx : lt64 x) (hn : rg x ≤ 9218868437227405312) (hg : rg x < 9218868437227405312 → Bd 2071 1 x) :
    EdSt (k + 1) (u || classV x == 9) (d || classV x == 2) (stepV p x) := by
  obtain ⟨s, c⟩ := p
  by_cases hnan : 9218868437227405312 < rg s
  · -- a NaN stays
    have e1 : (stepV (s, c) x).1 = 9221120237041090560 := add_NaN_l hnan
    have hud : u = true ∧ d = true := by
      unfold EdSt at h
      cases u <;> cases d <;> simp only [Bool.and_true, Bool.and_false, Bool.false_eq_true, if_true, if_false] at h
      · exact absurd hnan (by have := h.1.1; omega)
      · exact absurd hnan (by rw [h.1]; decide)
      · exact absurd hnan (by rw [h.1]; decide)
      · exact ⟨rfl, rfl⟩
    rw [hud.1, hud.2]
    unfold EdSt
    simp only [Bool.true_or, Bool.and_true, if_true]
    rw [e1]
    exact nan_C0
  · by_cases hf : rg x < 9218868437227405312
    · -- a finite number
      have c9 : (classV x == 9) = false := by
        rw [beq_eq_false_iff_ne]; intro h9; have := class_up hx h9; subst this; revert hf; decide
      have c2 : (classV x == 2) = false := by
        rw [beq_eq_false_iff_ne]; intro h9; have := class_down hx h9; subst this; revert hf; decide
      rw [c9, c2, Bool.or_false, Bool.or_false]
      have hb := hg hf
      unfold EdSt at h ⊢
      cases u <;> cases d <;> simp only [Bool.and_true, Bool.and_false, Bool.false_eq_true, if_true, if_false] at h ⊢
      · obtain ⟨h1, h2⟩ := h
        have hkk : k * (k + 1) ≤ 300 * 300 := Nat.mul_le_mul (by omega) (by omega)
        have ht := h1.add hb (by omega) (by omega)
        have e : (k + 1) * (k + 1 + 1) = k * (k + 1) + (k + (k + 1) + 1) := by
          rw [Nat.add_mul, Nat.mul_add, Nat.mul_add, Nat.mul_add]; omega
        refine ⟨ht, ?_⟩
        rw [e]
        unfold stepV
        simp only
        refine h2.add ?_ (by omega) (by omega)
        split
        · exact (h1.sub ht (by omega) (by omega)).add hb (by omega) (by omega)
        · exact ((hb.sub ht (by omega) (by omega)).add h1 (by omega) (by omega)).mono (by omega)
      · obtain ⟨h1, h2⟩ := h
        subst h1
        refine ⟨?_, ?_⟩
        · rw [st1, add_inf_fin (by decide) hf]; rfl
        · show 9218868437227405312 < rg (fop .add c _)
          rw [add_NaN_l h2]; exact nan_C0
      · obtain ⟨h1, h2⟩ := h
        subst h1
        refine ⟨?_, ?_⟩
        · rw [st1, add_inf_fin (by decide) hf]; rfl
        · show 9218868437227405312 < rg (fop .add c _)
          rw [add_NaN_l h2]; exact nan_C0
      · exact absurd h (by simpa using hnan)
    · -- an infinity
      have hi : rg x = 9218868437227405312 := by omega
      have hlost : ∀ s', rg s' < 9218868437227405312 → 9218868437227405312 < rg (stepV (s', c) x).2 := by
        intro s' hs'
        have hm : magGe s' x = false := by
          unfold magGe
          simp only [Bool.and_eq_false_iff, decide_eq_false_iff_not]
          right; omega
        unfold stepV
        simp only
        rw [hm, if_neg (by decide), add_fin_inf hs' hi]
        have e2 : fop .sub x (mk (ng x) 9218868437227405312) = 9221120237041090560 := by
          rw [fsub_add, add_inf_other hi (by rw [flip_rg, mk_rg (Nat.le_refl _)])]
          rw [flip_ng, ng_mk _ _ (by omega)]
          cases ng x <;> decide
        rw [e2, add_NaN_l nan_C0, add_NaN_r nan_C0]
        exact nan_C0
      have hw := word_eq hx
      cases hs : ng x
      · have hxe : x = 9218868437227405312 := by rw [hs] at hw; simp only [Bool.false_eq_true, if_false] at hw; omega
        subst hxe
        have c9 : (classV 9218868437227405312 == 9) = true := by decide
        have c2 : (classV 9218868437227405312 == 2) = false := by decide
        rw [c9, c2, Bool.or_true, Bool.or_false]
        unfold EdSt at h ⊢
        cases u <;> cases d <;> simp only [Bool.and_true, Bool.and_false, Bool.false_eq_true, if_true, if_false] at h ⊢
        · refine ⟨?_, hlost s h.1.1⟩
          rw [st1, add_fin_inf h.1.1 (by decide)]; rfl
        · obtain ⟨h1, h2⟩ := h
          subst h1
          rw [st1, add_inf_other (by decide) (by decide) (by decide)]; exact nan_C0
        · obtain ⟨h1, h2⟩ := h
          subst h1
          refine ⟨?_, ?_⟩
          · rw [st1, add_inf_same (by decide) (by decide) (by decide)]; rfl
          · show 9218868437227405312 < rg (fop .add c _)
            rw [add_NaN_l h2]; exact nan_C0
        · exact absurd h (by simpa using hnan)
      · have hxe : x = 18442240474082181120 := by rw [hs] at hw; simp only [if_true] at hw; omega
        subst hxe
        have c9 : (classV 18442240474082181120 == 9) = false := by decide
        have c2 : (classV 18442240474082181120 == 2) = true := by decide
        rw [c9, c2, Bool.or_true, Bool.or_false]
        unfold EdSt at h ⊢
        cases u <;> cases d <;> simp only [Bool.and_true, Bool.and_false, Bool.false_eq_true, if_true, if_false] at h ⊢
        · refine ⟨?_, hlost s h.1.1⟩
          rw [st1, add_fin_inf h.1.1 (by decide)]; rfl
        · obtain ⟨h1, h2⟩ := h
          subst h1
          refine ⟨?_, ?_⟩
          · rw [st1, add_inf_same (by decide) (by decide) (by decide)]; rfl
          · show 9218868437227405312 < rg (fop .add c _)
            rw [add_NaN_l h2]; exact nan_C0
        · obtain ⟨h1, h2⟩ := h
          subst h1
          rw [st1, add_inf_other (by decide) (by decide) (by decide)]; exact nan_C0
        · exact absurd h (by simpa using hnan)
theorem any_snoc {l : List Nat} {k : Nat} (h : k < l.length) (f : Nat → Bool) : (l.take (k + 1)).any f = ((l.take k).any f || f l[k]) := by
  rw [List.take_succ_eq_append_getElem h, List.any_append]
  simp
theorem all_snoc {l : List Nat} {k : Nat} (h : k < l.length) (f : Nat → Bool) : (l.take (k + 1)).all f = ((l.take k).all f && f l[k]) := by
  rw [List.take_succ_eq_append_getElem h, List.all_append]
  simp
theorem ed_all {l : List Nat} (hw : ∀ x ∈ l, lt64 x) (hn : ∀ x ∈ l, rg x ≤ 9218868437227405312) (hg : ∀ x ∈ l, rg x < 9218868437227405312 → Bd 2071 1 x) (hl : l.length ≤ 300) :
    ∀ k, k ≤ l.length → EdSt k (upB (l.take k)) (downB (l.take k)) (partV (l.take k)) := by
  intro k
  induction k with
  | zero => intro _; exact ⟨Bd.zero _, Bd.zero _⟩
  | succ k ih =>
    intro hk
    have hm := List.getElem_mem (show k < l.length by omega)
    have := ed_step (x := l[k]) (by omega) (ih (by omega)) (hw _ hm) (hn _ hm) (hg _ hm)
    rw [partV_take (by omega)]
    unfold upB downB at this ⊢
    rw [any_snoc (by omega), any_snoc (by omega)]
    exact this
theorem ed_end {l : List Nat} (hw : ∀ x ∈ l, lt64 x) (hn : ∀ x ∈ l, rg x ≤ 9218868437227405312) (hg : ∀ x ∈ l, rg x < 9218868437227405312 → Bd 2071 1 x) (hl : l.length ≤ 300) :
    EdSt l.length (upB l) (downB l) (partV l) := by
  have := ed_all hw hn hg hl l.length (Nat.le_refl _)
  rwa [List.take_of_length_le (Nat.le_refl _)] at this
/-- a NaN among them. -/
theorem part_nan {l : List Nat} (h : badB l = true) : 9218868437227405312 < rg (partV l).1 := by
  have key : ∀ k, k ≤ l.length → badB (l.take k) = true → 9218868437227405312 < rg (partV (l.take k)).1 := by
    intro k
    induction k with
    | zero => intro _ hb; simp [badB] at hb
    | succ k ih =>
      intro hk hb
      unfold badB at hb ih
      rw [any_snoc (by omega), Bool.or_eq_true] at hb
      rw [partV_take (by omega)]
      rcases hb with hb | hb
      · have := ih (by omega) hb
        show 9218868437227405312 < rg (fop .add _ _)
        rw [add_NaN_l this]; exact nan_C0
      · have : classV l[k] = 1 := by simpa using hb
        show 9218868437227405312 < rg (fop .add _ _)
        rw [add_NaN_r (class_nan.1 this)]; exact nan_C0
  have := key l.length (Nat.le_refl _)
  rw [List.take_of_length_le (Nat.le_refl _)] at this
  exact this h
theorem class_C0 : classV 9221120237041090560 = 1 := by decide
theorem end_nan {p : Nat × Nat} (h : 9218868437227405312 < rg p.1) : endV p = 9221120237041090560 := by
  unfold endV
  split
  · exact cn_nan h
  · exact add_NaN_l h
theorem neg_not_nan {l : List Nat} (h : negAll l = true) : badB l = false ∧ upB l = false ∧ downB l = false := by
  unfold negAll at h
  rw [Bool.and_eq_true, List.all_eq_true] at h
  unfold badB upB downB
  refine ⟨?_, ?_, ?_⟩ <;> rw [List.any_eq_false] <;> intro x hx <;> have := h.1 x hx <;> simp at this <;> simp [this]
theorem edge_bad {l : List Nat} (h : badB l = true) : classV (sumV l) = 1 := by
  unfold sumV
  cases hn : negAll l
  · rw [if_neg (by decide), end_nan (part_nan h)]; exact class_C0
  · have := neg_not_nan hn; rw [this.1] at h; cases h
theorem bad_num {l : List Nat} (h : badB l = false) : ∀ x ∈ l, rg x ≤ 9218868437227405312 := by
  intro x hx
  unfold badB at h
  rw [List.any_eq_false] at h
  have := h x hx
  have h2 : classV x ≠ 1 := by simpa using this
  rw [Ne, class_nan] at h2
  omega
/-- too great: finite, and beyond 1e300. -/
def greatX (x : Nat) : Bool := decide (rg x < 9218868437227405312) && decide (9094988921128908188 < rg x)
def greatB (l : List Nat) : Bool := l.any greatX
theorem great_lit : un 9094988921128908188 ≤ 1 * 2 ^ 2071 := by decide +kernel
theorem great_num {l : List Nat} (h : greatB l = false) : ∀ x ∈ l, rg x < 9218868437227405312 → Bd 2071 1 x := by
  intro x hx hf
  unfold greatB at h
  rw [List.any_eq_false] at h
  have := h x hx
  unfold greatX at this
  simp only [Bool.and_eq_true, decide_eq_true_eq, not_and, Nat.not_lt] at this
  exact ⟨hf, Nat.le_trans (un_le (this hf)) great_lit⟩
section
variable {l : List Nat} (hw : ∀ x ∈ l, lt64 x) (hb : badB l = false) (hg : greatB l = false) (hl : l.length ≤ 300)
include hw hb hg hl
theorem edge_both (hu : upB l = true) (hd : downB l = true) : classV (sumV l) = 1 := by
  have h := ed_end hw (bad_num hb) (great_num hg) hl
  rw [hu, hd] at h
  unfold EdSt at h
  simp only [Bool.and_true, if_true] at h
  unfold sumV
  cases hn : negAll l
  · rw [if_neg (by decide), end_nan h]; exact class_C0
  · have := neg_not_nan hn; rw [this.2.1] at hu; cases hu
theorem edge_up (hu : upB l = true) (hd : downB l = false) : classV (sumV l) = 9 := by
  have h := ed_end hw (bad_num hb) (great_num hg) hl
  rw [hu, hd] at h
  unfold EdSt at h
  simp only [Bool.and_false, Bool.false_eq_true, if_true, if_false] at h
  unfold sumV
  cases hn : negAll l
  · rw [if_neg (by decide)]
    unfold endV
    rw [if_pos h.2, h.1]; decide
  · have := neg_not_nan hn; rw [this.2.1] at hu; cases hu
theorem edge_down (hu : upB l = false) (hd : downB l = true) : classV (sumV l) = 2 := by
  have h := ed_end hw (bad_num hb) (great_num hg) hl
  rw [hu, hd] at h
  unfold EdSt at h
  simp only [Bool.and_true, Bool.and_false, Bool.false_eq_true, if_true, if_false] at h
  unfold sumV
  cases hn : negAll l
  · rw [if_neg (by decide)]
    unfold endV
    rw [if_pos h.2, h.1]; decide
  · have := neg_not_nan hn; rw [this.2.2] at hd; cases hd
end
theorem edge_none {l : List Nat} (hb : badB l = false) (hg : greatB l = false) (hl : l.length ≤ 300) (hu : upB l = false) (hd : downB l = false) : classV (sumV l) ≠ 1 ∧ classV (sumV l) ≠ 9 ∧ classV (sumV l) ≠ 2 := by
  have hfin : ∀ x ∈ l, rg x < 9218868437227405312 := by
    intro x hx
    have h1 := bad_num hb x hx
    rcases Nat.lt_or_ge (rg x) 9218868437227405312 with h | h
    · exact h
    · exfalso
      have hi : rg x = 9218868437227405312 := by omega
      unfold upB at hu
      unfold downB at hd
      rw [List.any_eq_false] at hu hd
      have a := hu x hx
      have b := hd x hx
      unfold classV at a b
      rw [hi] at a b
      cases hs : ng x <;> rw [hs] at a b <;> simp at a b
  have hs := sum_fin (p := 2071) (by omega) l (fun x hx => great_num hg x hx (hfin x hx)) hl
  have hlt := sumV_lt l
  refine ⟨?_, ?_, ?_⟩
  · rw [Ne, class_nan]; omega
  · intro h; rw [class_up hlt h] at hs; revert hs; decide
  · intro h; rw [class_down hlt h] at hs; revert hs; decide
theorem edge_minus {l : List Nat} (h : negAll l = true) : classV (sumV l) = 5 := by
  unfold sumV; rw [h, if_pos rfl]; decide
end Go.Proofs.Ythiiicgibcgipaa.Fl
