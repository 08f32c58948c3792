/- Plain facts on binary64 words, no program in sight: the sum whose lost digits are kept beside it, as a function of a list of words; it does not see which NaN is which. -/
import Derived.Test.YthiiicgibcgipaaFlG
namespace Go.Proofs.Ythiiicgibcgipaa.Fl
set_option linter.unusedSimpArgs false

/-- |s| >= |x|. -/
def magGe (s x : Nat) : Bool := decide (rg s ≤ 9218868437227405312) && decide (rg x ≤ rg s)
theorem magGe_test (s x : Nat) : (FloatKind.f64.format.order (rg s) (rg x) == some .gt || FloatKind.f64.format.order (rg s) (rg x) == some .eq) = magGe s x := by
  rw [fmt64, o_gt, o_eq, rg_rg, rg_rg, sk_rg, sk_rg]
  unfold magGe
  rw [Bool.eq_iff_iff]
  simp
  omega
theorem rg_cn_le (s : Nat) : rg (cn s) ≤ 9218868437227405312 ↔ rg s ≤ 9218868437227405312 := by have := cn_isnan s; omega
theorem magGe_cn (s x : Nat) : magGe (cn s) (cn x) = magGe s x := by
  unfold magGe
  rw [Bool.eq_iff_iff]
  simp only [Bool.and_eq_true, decide_eq_true_eq, rg_cn_le]
  constructor
  · rintro ⟨h1, h2⟩
    rw [cn_num h1] at h2
    rcases Nat.lt_or_ge 9218868437227405312 (rg x) with g | g
    · have := (cn_isnan x).2 g; omega
    · rw [cn_num g] at h2; exact ⟨h1, h2⟩
  · rintro ⟨h1, h2⟩
    refine ⟨h1, ?_⟩
    rw [cn_num h1, cn_num (by omega)]
    exact h2
/-- one number more: the sum, and what was lost. -/
def stepV (p : Nat × Nat) (x : Nat) : Nat × Nat :=
  (fop .add p.1 x, fop .add p.2 (if magGe p.1 x then fop .add (fop .sub p.1 (fop .add p.1 x)) x else fop .add (fop .sub x (fop .add p.1 x)) p.1))
def partV (l : List Nat) : Nat × Nat := l.foldl stepV (0, 0)
def negAll (l : List Nat) : Bool := l.all (fun x => classV x == 5) && !l.isEmpty
def endV (p : Nat × Nat) : Nat := if 9218868437227405312 < rg p.2 then cn p.1 else fop .add p.1 p.2
def sumV (l : List Nat) : Nat := if negAll l then 9223372036854775808 else endV (partV l)
theorem partV_snoc (l : List Nat) (x : Nat) : partV (l ++ [x]) = stepV (partV l) x := by unfold partV; rw [List.foldl_append]; rfl
theorem partV_take {l : List Nat} {k : Nat} (h : k < l.length) : partV (l.take (k + 1)) = stepV (partV (l.take k)) l[k] := by
  rw [List.take_succ_eq_append_getElem h, partV_snoc]
theorem fop_cn_add (x y : Nat) : fop .add (cn x) (cn y) = fop .add x y := fop_cn _ _ _
theorem stepV_cn (p : Nat × Nat) (x : Nat) : stepV (cn p.1, cn p.2) (cn x) = stepV p x := by
  unfold stepV
  simp only [fop_cn, magGe_cn, fop_cn_l, fop_cn_r]
theorem stepV_cn1 (s c x : Nat) : stepV (cn s, cn c) x = stepV (s, c) x := by
  rw [← stepV_cn (cn s, cn c) x, ← stepV_cn (s, c) x]
  simp only [cn_cn]
theorem stepV_cn2 (p : Nat × Nat) (x : Nat) : stepV p (cn x) = stepV p x := by
  rw [← stepV_cn p (cn x), ← stepV_cn p x, cn_cn]
theorem partV_cn (l : List Nat) : partV (l.map cn) = partV l := by
  unfold partV
  rw [List.foldl_map]
  congr 1
  funext p x
  exact stepV_cn2 p x
theorem classV_cn (x : Nat) : classV (cn x) = classV x := by
  rcases Nat.lt_or_ge 9218868437227405312 (rg x) with h | h
  · unfold classV
    rw [if_pos ((cn_isnan x).2 h), if_pos h]
  · rw [cn_num h]
theorem negAll_cn (l : List Nat) : negAll (l.map cn) = negAll l := by
  unfold negAll
  rw [List.all_map, List.isEmpty_map]
  congr 2
  funext x
  simp [Function.comp, classV_cn]
theorem sumV_cn (l : List Nat) : sumV (l.map cn) = sumV l := by unfold sumV; rw [negAll_cn, partV_cn]
theorem sumV_of_cn {l m : List Nat} (h : l.map cn = m.map cn) : sumV l = sumV m := by rw [← sumV_cn l, h, sumV_cn]
theorem stepV_raw {s c S C : Nat} (hs : cn s = S) (hc : cn c = C) (x : Nat) : stepV (S, C) x = stepV (s, c) x := by subst hs; subst hc; exact stepV_cn1 s c x
theorem fop_fR_r (op : BinOp) (a : Nat) (op2 : BinOp) (x y : Nat) (w : World) : fop op a (fR op2 x y w) = fop op a (fop op2 x y) := by
  have := fop_cn_r op a (fR op2 x y w)
  rw [cn_fR] at this
  exact this.symm
theorem fop_fR_l (op : BinOp) (a : Nat) (op2 : BinOp) (x y : Nat) (w : World) : fop op (fR op2 x y w) a = fop op (fop op2 x y) a := by
  have := fop_cn_l op (fR op2 x y w) a
  rw [cn_fR] at this
  exact this.symm
/-- what the walk has of a round, up to NaNs. -/
theorem step_s {s S x : Nat} (hs : cn s = S) (w : World) : cn (fR .add s x w) = fop .add S x := by rw [cn_fR, ← hs, fop_cn_l]
theorem step_c {s c S C x : Nat} (hs : cn s = S) (hc : cn c = C) (b : Bool) (hb : magGe s x = b) (w1 w2 w3 w4 : World) :
    cn (fR .add c (if b then fR .add (fR .sub s (fR .add s x w1) w2) x w3 else fR .add (fR .sub x (fR .add s x w1) w2) s w3) w4) = (stepV (S, C) x).2 := by
  rw [cn_fR, stepV_raw hs hc]
  unfold stepV
  simp only
  rw [hb]
  cases b
  · simp only [Bool.false_eq_true, if_false, fop_fR_l, fop_fR_r]
  · simp only [if_true, fop_fR_l, fop_fR_r]
theorem negAll_nil : negAll [] = false := rfl
theorem sumV_lt (l : List Nat) : sumV l < 18446744073709551616 := by
  unfold sumV endV
  split
  · omega
  · split
    · rename_i h _
      unfold cn
      split
      · omega
      · unfold partV
        rcases List.eq_nil_or_concat l with rfl | ⟨l', x, rfl⟩
        · simp
        · rw [List.concat_eq_append, List.foldl_append]
          exact fop_lt _ _ _
    · exact fop_lt _ _ _
theorem sumV_canon (l : List Nat) : cn (sumV l) = sumV l := by
  unfold sumV endV
  split
  · decide
  · split
    · exact cn_cn _
    · exact cn_fop _ _ _
/-- the mean. -/
def meanV (l : List Nat) : Nat := fop .quo (sumV l) (floatOfInt .f64 (l.length : Int))
theorem meanV_canon (l : List Nat) : cn (meanV l) = meanV l := cn_fop _ _ _
theorem meanV_lt (l : List Nat) : meanV l < 18446744073709551616 := fop_lt _ _ _
theorem meanV_of_cn {l m : List Nat} (h : l.map cn = m.map cn) : meanV l = meanV m := by
  unfold meanV
  rw [sumV_of_cn h, show l.length = m.length by have := congrArg List.length h; simpa using this]
/-- how far from m, squared. -/
def farV (m x : Nat) : Nat := fop .mul (fop .sub x m) (fop .sub x m)
def spreadV (l : List Nat) : Nat := meanV (l.map (farV (meanV l)))
theorem far_of (m x : Nat) (w1 w2 : World) : cn (fR .mul (fR .sub x m w1) (fR .sub x m w1) w2) = farV m x := by
  unfold farV
  rw [cn_fR, ← fop_cn, cn_fR]
def dotV (l r : List Nat) : Nat := sumV (List.zipWith (fop .mul) l r)
end Go.Proofs.Ythiiicgibcgipaa.Fl
