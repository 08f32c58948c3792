/- Plain facts on binary64 words, no program in sight: products with ones and with noughts, and their sums. -/
import Derived.Test.YthiiicgibcgipaaFlU
namespace Go.Proofs.Ythiiicgibcgipaa.Fl
set_option linter.unusedSimpArgs false

theorem mul_one_cn {x : Nat} (hx : lt64 x) : fop .mul x 4607182418800017408 = cn x := by
  have h1 : rg 4607182418800017408 = 4607182418800017408 := by decide
  have h2 : ng 4607182418800017408 = false := by decide
  have hw : mk (ng x) (rg x) = x := mk_eq x hx
  rcases Nat.lt_trichotomy (rg x) 9218868437227405312 with h | h | h
  · obtain ⟨r, hr, hR⟩ := mul_fin x 4607182418800017408 h (by rw [h1]; omega)
    have : r = rg x := isR_at U1_pos (by omega) (by rw [h1, un_one]) hR
    rw [cn_num (by omega), fop_mul]
    unfold fmul
    rw [show Ieee.double.mul x 4607182418800017408 = _ from hr, h2, Bool.xor_false, this]
    exact hw
  · rw [cn_num (by omega), fop_mul]
    unfold fmul
    rw [show Ieee.double.mul x 4607182418800017408 = _ from mul_inf_l x _ h (by rw [h1]; omega), if_neg (by rw [h1]; omega), h2, Bool.xor_false, ← h]
    exact hw
  · rw [fop_nan (.inl h), cn_nan h]
theorem mul_zero_rg {x : Nat} (h : rg x < 9218868437227405312) : rg (fop .mul x 0) = 0 := by
  obtain ⟨r, hr, hR⟩ := mul_fin x 0 h (by decide)
  have : r = 0 := isR_at U1_pos (by omega) (by rw [show rg 0 = 0 from rfl, un_zero, Nat.mul_zero, Nat.zero_mul]) hR
  rw [fop_mul]
  unfold fmul
  rw [show Ieee.double.mul x 0 = _ from hr, this]
  exact mk_rg (by omega)
theorem zip_ones {l : List Nat} (hw : ∀ x ∈ l, lt64 x) : ∀ n, n = l.length → List.zipWith (fop .mul) l (List.replicate n 4607182418800017408) = l.map cn := by
  intro n hn
  subst hn
  induction l with
  | nil => rfl
  | cons x l ih =>
    rw [List.length_cons, List.replicate_succ, List.zipWith_cons_cons, List.map_cons, ih fun y hy => hw y (List.mem_cons_of_mem _ hy), mul_one_cn (hw x (List.mem_cons_self ..))]
theorem dot_ones {l : List Nat} (hw : ∀ x ∈ l, lt64 x) {n : Nat} (hn : n = l.length) : dotV l (List.replicate n 4607182418800017408) = sumV l := by
  unfold dotV
  rw [zip_ones hw n hn, sumV_cn]
theorem add_rg0 {x y : Nat} (hx : rg x = 0) (hy : rg y = 0) : rg (fop .add x y) = 0 := by
  have sx : su x = 0 := by unfold su; rw [hx, un_zero]; split <;> rfl
  have sy : su y = 0 := by unfold su; rw [hy, un_zero]; split <;> rfl
  have := add_le (x := x) (y := y) (q := 0) (by omega) (by omega) (by omega) (by rw [sx, sy, un_zero]; decide)
  omega
theorem sub_rg0 {x y : Nat} (hx : rg x = 0) (hy : rg y = 0) : rg (fop .sub x y) = 0 := by
  rw [fsub_add]; exact add_rg0 hx (by rw [flip_rg]; exact hy)
theorem part_rg0 {l : List Nat} (h : ∀ x ∈ l, rg x = 0) : ∀ k, k ≤ l.length → rg (partV (l.take k)).1 = 0 ∧ rg (partV (l.take k)).2 = 0 := by
  intro k
  induction k with
  | zero => intro _; exact (show rg 0 = 0 ∧ rg 0 = 0 from ⟨rfl, rfl⟩)
  | succ k ih =>
    intro hk
    obtain ⟨h1, h2⟩ := ih (by omega)
    have hx := h _ (List.getElem_mem (show k < l.length by omega))
    rw [partV_take (by omega)]
    unfold stepV
    simp only
    refine ⟨add_rg0 h1 hx, add_rg0 h2 ?_⟩
    split
    · exact add_rg0 (sub_rg0 h1 (add_rg0 h1 hx)) hx
    · exact add_rg0 (sub_rg0 hx (add_rg0 h1 hx)) h1
theorem sum_rg0 {l : List Nat} (h : ∀ x ∈ l, rg x = 0) : rg (sumV l) = 0 := by
  obtain ⟨h1, h2⟩ := part_rg0 h l.length (Nat.le_refl _)
  rw [List.take_of_length_le (Nat.le_refl _)] at h1 h2
  unfold sumV endV
  split
  · decide
  · rw [if_neg (by omega)]
    exact add_rg0 h1 h2
theorem zip_zeros {l : List Nat} (hf : ∀ x ∈ l, rg x < 9218868437227405312) : ∀ n, ∀ y ∈ List.zipWith (fop .mul) l (List.replicate n 0), rg y = 0 := by
  induction l with
  | nil => intro n y hy; simp at hy
  | cons x l ih =>
    intro n y hy
    cases n with
    | zero => simp at hy
    | succ n =>
      rw [List.replicate_succ, List.zipWith_cons_cons] at hy
      rcases List.mem_cons.1 hy with g | g
      · rw [g]; exact mul_zero_rg (hf x (List.mem_cons_self ..))
      · exact ih (fun z hz => hf z (List.mem_cons_of_mem _ hz)) n y g
theorem dot_zeros {l : List Nat} (hf : ∀ x ∈ l, rg x < 9218868437227405312) (n : Nat) : (FloatKind.f64.format.order (dotV l (List.replicate n 0)) 0 == some .eq) = true := by
  have h := sum_rg0 (zip_zeros hf n)
  unfold dotV
  rw [fmt64, o_eq, h]
  unfold sk
  rw [h, show ng 0 = false by decide, show rg 0 = 0 from rfl]
  cases ng (sumV (List.zipWith (fop .mul) l (List.replicate n 0))) <;> decide
/-- not finite. -/
def oddX (x : Nat) : Bool := decide (9218868437227405312 ≤ rg x)
def oddB (l : List Nat) : Bool := l.any oddX
theorem odd_fin {l : List Nat} (h : oddB l = false) : ∀ x ∈ l, rg x < 9218868437227405312 := by
  intro x hx
  unfold oddB at h
  rw [List.any_eq_false] at h
  have := h x hx
  unfold oddX at this
  simp at this
  omega
end Go.Proofs.Ythiiicgibcgipaa.Fl
