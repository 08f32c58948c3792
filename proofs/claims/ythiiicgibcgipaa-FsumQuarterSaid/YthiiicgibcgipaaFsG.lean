/- What the laws over whole numbers share: a turn that is rounded, lists that are made number by number. -/
import Derived.Test.YthiiicgibcgipaaFsF
import Derived.Test.YthiiicgibcgipaaFlV
import Derived.Test.YthiiicgibcgipaaHeld
import Derived.Test.YthiiicgibcgipaaAp
import Derived.Deep.DeepMust
namespace Go.Proofs.Ythiiicgibcgipaa.Fs
set_option linter.unusedSimpArgs false
set_option linter.unusedVariables false
open Go.RowKit Fl Fb
attribute [local go_sem] and_sgn andNot_sgn xor_sgn xor_all run_neg_float u64_unsigned

theorem tmod_gt (k : Int) (n : Nat) (h : 0 < n) : -(n : Int) < k.tmod n := by
  have h1 := Int.natAbs_tmod (a := k) (b := n)
  have h2 := Nat.mod_lt k.natAbs h
  rw [Int.natAbs_natCast] at h1
  omega
theorem take_mapI (g : Int → Nat) (l : List Int) (k : Nat) (h : k < l.length) : (l.take (k + 1)).map g = (l.take k).map g ++ [g l[k]] := by
  rw [List.take_succ_eq_append_getElem h, List.map_append]; rfl
theorem mapI_canon (g : Int → Nat) (hg : ∀ x, cn (g x) = g x) (l : List Int) : (l.map g).map cn = l.map g := by
  rw [List.map_map]; congr 1; funext x; exact hg x
theorem cn_F (x : Int) : cn (F x) = F x := cn_num (ofInt_num x).1
theorem round_lt (k : Int) (n : Nat) (h : 0 < n) : ∃ j : Nat, j < n ∧ (if k.tmod n < 0 then k.tmod n + n else k.tmod n) = (j : Int) := by
  have h1 := Int.tmod_lt_of_pos k (show (0 : Int) < n by omega)
  have h2 := tmod_gt k n h
  by_cases h0 : k.tmod n < 0
  · exact ⟨(k.tmod n + n).toNat, by omega, by rw [if_pos h0]; omega⟩
  · exact ⟨(k.tmod n).toNat, by omega, by rw [if_neg h0]; omega⟩
theorem big_len {n c : Nat} {A : Option Addr} {l : List Int} {w : World} (h : IsInts .i64 w A n c l) : n ≤ 9223372036854775807 := by
  have a := h.cap
  have b := h.big
  unfold maxLen at b
  omega
set_option maxHeartbeats 1000000 in
theorem round_any (k : Int) (n : Nat) (w : World) (h : 0 < n) (hn : n ≤ 1000000) (hk : (Lit.int .i64 k).wf = true) :
    Calls Try.prog 13 #[.int .i64 k, .int .i64 n] w fun e w' => (∃ j : Nat, j < n ∧ e = .returned (.int .i64 j)) ∧ w = w' := by
  obtain ⟨j, hj, e⟩ := round_lt k n h
  have h1 := Int.tmod_lt_of_pos k (show (0 : Int) < n by omega)
  have h2 := tmod_gt k n h
  have n0 : ((n : Int) == 0) = false := beq_eq_false_iff_ne.2 (by omega)
  have n1 : ¬ (n : Int) = 0 := by omega
  have HJ := Lib.hid e
  clear e
  have hk1 : -9223372036854775808 ≤ k ∧ k ≤ 9223372036854775807 := by simpa [Lit.wf, IntKind.min, IntKind.max, IntKind.bits, IntKind.signed] using hk
  obtain ⟨hk1, hk2⟩ := hk1
  clear hk
  have w0 : IntKind.i64.wrap (k.tmod n) = k.tmod n := IntWalk.i64_in _ (by omega)
  obtain ⟨r, hr⟩ : ∃ r, k.tmod n = r := ⟨_, rfl⟩
  rw [hr] at h1 h2 w0 HJ
  by_cases h0 : r < 0
  · have t0 : decide (r < 0) = true := decide_eq_true h0
    go_enter Try.func13, Try.ntmps13
    go_wp2_with fail
    go_ret
    exact ⟨⟨j, hj, ret_int (by have := HJ.out; rw [if_pos h0] at this; exact this)⟩, rfl⟩
  · have t0 : decide (r < 0) = false := decide_eq_false h0
    go_enter Try.func13, Try.ntmps13
    go_wp2_with fail
    go_ret
    exact ⟨⟨j, hj, ret_int (by have := HJ.out; rw [if_neg (by omega)] at this; exact this)⟩, rfl⟩
end Go.Proofs.Ythiiicgibcgipaa.Fs
