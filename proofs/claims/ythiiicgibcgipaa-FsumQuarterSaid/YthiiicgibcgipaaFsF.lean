/- scarplaw4.awake returns true. -/
import Derived.Test.YthiiicgibcgipaaFsE
import Derived.Test.YthiiicgibcgipaaKept
namespace Go.Proofs.Ythiiicgibcgipaa.Fs
set_option linter.unusedSimpArgs false
set_option linter.unusedVariables false
open Go.RowKit Fl Fb
attribute [local go_sem] and_sgn andNot_sgn xor_sgn xor_all run_neg_float u64_unsigned

set_option maxHeartbeats 1000000 in
theorem awake_any  (w : World) :
    Calls Try.prog 12 #[] w fun e w' => e = .returned (.bool true) ∧ Below w.heap.size w w' := by
  have t1 : (FloatKind.f64.format.order (meanV [4607182418800017408, 4611686018427387904]) 4609434218613702656 == some .eq) = true := by decide +kernel
  have t2 : (FloatKind.f64.format.order (sumV [4607182418800017408, 6103021453049119613, 4607182418800017408, 15326393489903895421]) 4611686018427387904 == some .eq) = true := by decide +kernel
  go_enter Try.func12, Try.ntmps12
  go_wp2_with fail
  refine (mean_none _ _ _).mono ?_
  rintro e w' ⟨rfl, rfl⟩
  go_wp2_with fail
  refine (mean_some _ 2 2 [4607182418800017408, 4611686018427387904] _ (IsNums.lit w 25 [4607182418800017408, 4611686018427387904] (by simp) (by simp)) (by omega) (by decide)).mono ?_
  rintro e w1 ⟨rfl, hb1⟩
  have K1 : Kp [] w w1 := (Kp.nil.alloc _).next hb1
  clear hb1
  go_wp2_with fail
  refine (sum_any _ 4 4 [4607182418800017408, 6103021453049119613, 4607182418800017408, 15326393489903895421] _ (IsNums.lit w1 25 [4607182418800017408, 6103021453049119613, 4607182418800017408, 15326393489903895421] (by simp) (by simp)) (by omega)).mono ?_
  rintro e w2 ⟨rfl, hb2⟩
  have K2 : Kp [] w w2 := (K1.alloc _).next hb2
  clear hb2
  go_wp2_with fail
  go_ret
  exact ⟨rfl, K2.bel⟩
set_option maxHeartbeats 1000000 in
theorem small_any (A : Option Addr) (n c : Nat) (w : World) :
    Calls Try.prog 15 #[.slice A n c] w fun e w' => e = .returned (.bool (decide ((n : Int) ≤ 300))) ∧ w = w' := by
  go_enter Try.func15, Try.ntmps15
  go_wp2_with fail
  go_ret
  exact ⟨rfl, rfl⟩
end Go.Proofs.Ythiiicgibcgipaa.Fs
