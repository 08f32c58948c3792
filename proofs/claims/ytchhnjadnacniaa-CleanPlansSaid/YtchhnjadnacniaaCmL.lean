/- The contract of scarpalike.Block and Data. -/
import Derived.Test.YtchhnjadnacniaaCmG
import Derived.Test.YtchhnjadnacniaaRo
namespace Go.Proofs.Ytchhnjadnacniaa.Cm
set_option linter.unusedSimpArgs false
set_option linter.unusedVariables false
open Go.RowKit

theorem wf_wrap (x : Int) : (Lit.int .i64 (wrap64 x)).wf = true := by
  simp only [Lit.wf, IntKind.min, IntKind.max, IntKind.bits, IntKind.signed]
  simp
  unfold wrap64
  omega
theorem made40 : madeCells #[Value.int .u8 0] 40 = (List.replicate 40 (Value.int .u8 0)).toArray := by first | rfl | kernel_rfl
/-- a row of 40 bytes that was made. -/
def Is40 (w : World) (g : Nat) : Prop := ∃ ds : List Value, ds.length = 40 ∧ Bk w g 5 ds ∧ ∀ u ∈ ds, u.oneCell' = true
theorem Is40.next {w w' : World} {g B : Nat} (h : Is40 w g) (hb : Below B w w') (hg : g < B) : Is40 w' g := by
  obtain ⟨ds, h1, h2, h3⟩ := h
  exact ⟨ds, h1, h2.next hb hg, h3⟩
set_option maxRecDepth 100000 in
set_option maxHeartbeats 4000000 in
theorem block40_any (s : Int) (w : World) :
    Calls Try.prog 71 #[.int .i64 40, .int .i64 s] w fun e w' => e = .returned (.slice (some ⟨w.heap.size, 0, none⟩) 40 40) ∧ Is40 w' w.heap.size ∧ w.heap.size < w'.heap.size ∧ Below w.heap.size w w' := by
  have hmk := run_make40
  go_enter Try.func71, Try.ntmps71
  go_wp2_with fail
  go_loopw [6] (fun i wr => ∃ k : Nat, k ≤ 40 ∧ i = .int .i64 (k : Int) ∧ Is40 wr w.heap.size ∧ w.heap.size < wr.heap.size ∧ Below w.heap.size w wr) (fun i _ => 40 - (intOf i).toNat)
  case atStart => exact ⟨0, by omega, rfl, ⟨List.replicate 40 (.int .u8 0), by simp, by rw [made40]; exact Bk.new w _ _, by simp [Value.oneCell']⟩, by simp, (Below.refl _ _).alloc (Nat.le_refl _) _⟩
  case round =>
    obtain ⟨k, hk, rfl, ⟨ds, hd, hB, h1⟩, hsz, hb⟩ := hrel
    by_cases hlt : k < 40
    · have t0 : decide ((k : Int) < 40) = true := decide_eq_true (by omega)
      have n0 : (k : Int) < 40 := by omega
      have n1 : (0 : Int) ≤ (k : Int) := by omega
      obtain ⟨y, hy⟩ : ∃ y, ds[k]'(by omega) = y := ⟨_, rfl⟩
      have c0 := hB.cell (i := k) (by omega)
      rw [hy] at c0
      have f0 := hB.free k
      have HD := Lib.hid (And.intro hd (And.intro hB (And.intro h1 (And.intro hsz hb))))
      clear hd hB h1 hsz hb hy
      go_wp2_with fail
      refine (Ro.round_any _ 251 _ (by omega) (by omega) (wf_wrap _)).mono ?_
      rintro e w' ⟨⟨j, hj, rfl⟩, rfl⟩
      go_wp2_with fail
      go_roundw
      case rel => exact ⟨k + 1, by omega, by go_num, ⟨ds.set k _, by simp [HD.out.1], HD.out.2.1.set k _, fun u hu => by
        rcases List.mem_or_eq_of_mem_set hu with g | g
        · exact HD.out.2.2.1 u g
        · subst g; rfl⟩, by have := HD.out.2.2.2.1; simpa using this, HD.out.2.2.2.2.setCell (Nat.le_refl _) _⟩
      case measure => simp [intOf]; omega
    · obtain rfl : k = 40 := by omega
      go_wp2_with fail
      go_ret
      exact ⟨rfl, ⟨ds, hd, hB, h1⟩, hsz, hb⟩
set_option maxHeartbeats 1000000 in
theorem data_any (s : Int) (w : World) :
    Calls Try.prog 46 #[.int .i64 s] w fun e w' => e = .returned (.slice (some ⟨w.heap.size, 0, none⟩) 40 40) ∧ Is40 w' w.heap.size ∧ w.heap.size < w'.heap.size ∧ Below w.heap.size w w' := by
  go_enter Try.func46, Try.ntmps46
  go_wp2_with fail
  refine (block40_any _ _).mono ?_
  rintro e w' ⟨rfl, h1, h2, h3⟩
  go_wp2_with fail
  go_ret
  exact ⟨rfl, h1, h2, h3⟩
end Go.Proofs.Ytchhnjadnacniaa.Cm
