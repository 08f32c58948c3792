/- FsumQuantiles: the walk. For every list and every number the law returns true, and nothing that was there is written. No condition. -/
import Derived.Test.YthiiicgibcgipaaFq
namespace Go.Proofs.Ythiiicgibcgipaa.Fq
set_option linter.unusedSimpArgs false
set_option linter.unusedVariables false
open Go.RowKit Fl Fb Fs
attribute [local go_sem] and_sgn andNot_sgn xor_sgn xor_all run_neg_float u64_unsigned

set_option maxHeartbeats 2000000 in
theorem quantiles_long (A : Option Addr) (n c q : Nat) (w : World) (u1 : decide ((n : Int) ≤ 300) = false) :
    Calls Try.prog 9 #[.slice A n c, .float .f64 q] w fun e w' => e = .returned (.bool true) ∧ Below w.heap.size w w' := by
  go_enter Try.func9, Try.ntmps9
  go_wp2_with fail
  refine (small_any _ _ _ _).mono ?_
  rintro e w' ⟨rfl, rfl⟩
  go_wp2_with fail
  refine (awake_any _).mono ?_
  rintro e w1 ⟨rfl, hb⟩
  go_wp2_with fail
  go_ret
  exact ⟨rfl, hb⟩
set_option maxHeartbeats 2000000 in
theorem quantiles_x (A : Option Addr) (n c q : Nat) (l : List Nat) (w : World) (hA : IsNums w A n c l) (hn : n ≤ 300) :
    Calls Try.prog 9 #[.slice A n c, .float .f64 q] w fun e w' => e = .returned (.bool true) ∧ Below w.heap.size w w' := by
  have u1 : decide ((n : Int) ≤ 300) = true := decide_eq_true (by omega)
  go_enter Try.func9, Try.ntmps9
  go_wp2_with fail
  refine (small_any _ _ _ _).mono ?_
  rintro e w' ⟨rfl, rfl⟩
  go_wp2_with fail
  refine (quant_any _ _ _ q l _ hA hn).mono ?_
  rintro e w1 ⟨⟨r1, rfl, h1⟩, hb1⟩
  have hA1 := hA.next hb1
  go_wp2_with fail
  refine (rquant_any _ _ _ q l _ hA1 hn).mono ?_
  rintro e w2 ⟨⟨r2, rfl, h2⟩, hb2⟩
  have HB := hb1.trans (hb2.mono hb1.size)
  have hs : sameB r1 r2 = true := sameB_yes (by rw [h1, h2])
  clear h1 h2 hA hA1 hb1 hb2
  generalize quantE l q = E
  go_wp2_with fail
  refine (rsame_any _ _ _).mono ?_
  rintro e w' ⟨rfl, rfl⟩
  go_wp2_with fail
  refine (awake_any _).mono ?_
  rintro e w3 ⟨rfl, hb3⟩
  have HB3 := HB.trans (hb3.mono HB.size)
  go_wp2_with fail
  go_ret
  exact ⟨rfl, HB3⟩
theorem quantiles_walk (A : Option Addr) (n c : Nat) (l : List Nat) (q : Nat) (w : World) (hA : IsNums w A n c l) (hq : (Lit.float .f64 q).wf = true) :
    Calls Try.prog 9 #[.slice A n c, .float .f64 q] w fun e w' => e = .returned (.bool true) ∧ Below w.heap.size w w' := by
  rcases Nat.lt_or_ge 300 n with h1 | h1
  · exact quantiles_long A n c q w (decide_eq_false (by omega))
  · exact quantiles_x A n c q l w hA h1
end Go.Proofs.Ythiiicgibcgipaa.Fq
