/- Contracts of Spread of fsum and of the reference: what each returns, for every list of numbers. -/
import Derived.Test.YthiiicgibcgipaaFsC
import Derived.Deep.AppendLies
import Derived.WalkSpells
namespace Go.Proofs.Ythiiicgibcgipaa.Fs
set_option linter.unusedSimpArgs false
set_option linter.unusedVariables false
open Go.RowKit Fl Fb
attribute [local go_sem] and_sgn andNot_sgn xor_sgn xor_all run_neg_float u64_unsigned

theorem infoF : (Try.prog.info? 25).map (fun i => (i.zero, i.size, i.bytes)) = some (some (.float .f64 0), 1, 8) := by kernel_rfl
/-- a row that is being built of numbers of which each reads, up to NaNs, as told. -/
structure Building (B : Nat) (w0 wr : World) (v : Value) (k : Nat) (goal : List Nat) (rs : List Nat) : Prop where
  own : wr.ownsRow B 25 1 v k (rs.map (Value.float .f64))
  bel : Below B w0 wr
  cns : rs.map cn = goal
  wf : ∀ x ∈ rs, x < 18446744073709551616
theorem Building.start (w : World) : Building w.heap.size w w (.slice none 0 0) 0 [] [] := ⟨⟨rfl, .inl ⟨rfl, rfl⟩⟩, Below.refl _ _, rfl, by simp⟩
theorem Building.more {B : Nat} {w0 wr w' : World} {v v' : Value} {k : Nat} {goal rs : List Nat} {x y : Nat} (h : Building B w0 wr v k goal rs) (ho : w'.ownsRow B 25 1 v' (k + 1) (rs.map (Value.float .f64) ++ [.float .f64 x])) (hb : Below B w0 w')
    (hx : cn x = y) (hw : x < 18446744073709551616) : Building B w0 w' v' (k + 1) (goal ++ [y]) (rs ++ [x]) :=
  ⟨by rw [List.map_append]; exact ho, hb, by rw [List.map_append, h.cns, ← hx]; rfl, fun z hz => by
    rcases List.mem_append.1 hz with hz | hz
    · exact h.wf z hz
    · rw [List.mem_singleton] at hz; rw [hz]; exact hw⟩
theorem Building.drewN {B : Nat} {w0 wr : World} {v : Value} {k : Nat} {goal rs : List Nat} (h : Building B w0 wr v k goal rs) (m : Nat) : Building B w0 (wr.drewN m) v k goal rs :=
  ⟨h.own, h.bel.trans ⟨rfl, rfl, rfl, Nat.le_refl _, fun _ _ => rfl⟩, h.cns, h.wf⟩
theorem far_canon (m x : Nat) : cn (farV m x) = farV m x := cn_fop _ _ _
theorem map_canon (g : Nat → Nat) (hg : ∀ x, cn (g x) = g x) (l : List Nat) : (l.map g).map cn = l.map g := by
  rw [List.map_map]; congr 1; funext x; exact hg x
theorem take_map_snoc (g : Nat → Nat) (l : List Nat) (k : Nat) (h : k < l.length) : (l.take (k + 1)).map g = (l.take k).map g ++ [g l[k]] := by
  rw [List.take_succ_eq_append_getElem h, List.map_append]; rfl
set_option maxHeartbeats 1000000 in
theorem spread_none (A : Option Addr) (c : Nat) (w : World) :
    Calls Try.prog 20 #[.slice A 0 c] w fun e w' => e = .returned (.tuple #[.float .f64 0, .int .i64 14]) ∧ w = w' := by
  go_enter Try.func20, Try.ntmps20
  go_wp2_with fail
  refine (mean_none _ _ _).mono ?_
  rintro e w' ⟨rfl, rfl⟩
  go_wp2_with fail
  go_ret2
  exact ⟨rfl, rfl⟩
set_option maxHeartbeats 1000000 in
theorem spread_some (A : Option Addr) (n c : Nat) (l : List Nat) (w : World) (h : IsNums w A n c l) (hn : n ≤ 1000) (h0 : ((n : Int) == 0) = false) :
    Calls Try.prog 20 #[.slice A n c] w fun e w' => e = .returned (.tuple #[.float .f64 (spreadV l), .int .i64 0]) ∧ Below w.heap.size w w' := by
  have hl := h.len
  obtain ⟨i0, hi, hz0, hz1, hz2⟩ := info_parts infoF
  go_enter Try.func20, Try.ntmps20
  go_wp2_with fail
  refine (mean_some _ _ _ _ _ h (by omega) h0).mono ?_
  rintro e w1 ⟨rfl, hb⟩
  go_wp2_with fail
  have h1 := h.next hb
  clear h
  go_loopw [6, 20] (fun v i wr => ∃ (k : Nat) (rs : List Nat), k ≤ n ∧ i = .int .i64 k ∧ Building w1.heap.size w1 wr v k ((l.take k).map (farV (meanV l))) rs) (fun _ i _ => n - (intOf i).toNat)
  case atStart => exact ⟨0, [], Nat.zero_le _, rfl, Building.start w1⟩
  case round =>
    obtain ⟨k, rs, hk, rfl, hB⟩ := hrel
    by_cases hlt : k < n
    · obtain ⟨ad, rfl, hbb, hcell⟩ := (h1.rd.next (Nat.le_refl _) hB.bel).get (k := k) (by rw [List.length_map]; omega)
      rw [List.getElem_map] at hcell
      go_wp2_with (at_builtin; go_must (refine wpList_app1 rfl _ _ 24 rfl w1.heap.size 25 i0 (.float .f64 0) 8 Try.underlying24 hi hz0 hz1 hz2 rfl _ k _ (by rfl) (by exact (hB.drewN _).own) (by exact hB.bel.size) (by exact (hB.drewN _).bel) _ (by rfl) (by rfl) (by omega) (by omega) ?_); intro v' w2 hO2 hW2 _)
      go_roundw
      case rel => exact ⟨k + 1, rs ++ [_], by omega, by go_num, by rw [take_map_snoc _ _ _ (by omega)]; exact hB.more hO2 hW2 (far_of _ _ _ _) (fR_lt _ _ _ _)⟩
      case measure => simp [intOf]; omega
    · obtain rfl : k = n := by omega
      obtain ⟨A2, c2, rfl, hI⟩ := nums_of_own hB.own hB.wf
      have HG := Lib.hid (show meanV rs = spreadV l by unfold spreadV; refine meanV_of_cn ?_; rw [hB.cns, List.take_of_length_le (by omega), map_canon _ (far_canon _)])
      have HW := hb.trans (hB.bel.mono hb.size)
      have HR := Lib.hid (show fop .quo (sumV rs) (floatOfInt .f64 (k : Int)) = spreadV l by rw [← HG.out]; unfold meanV; rw [hI.len])
      clear hB h1 hl
      go_wp2_with fail
      refine (mean_some _ _ _ _ _ hI (by omega) h0).mono ?_
      rintro e w3 ⟨rfl, hb3⟩
      go_wp2_with fail
      go_ret2
      exact ⟨by rw [← HG.out]; rfl, HW.trans (hb3.mono HW.size)⟩
set_option maxHeartbeats 1000000 in
theorem rspread_none (A : Option Addr) (c : Nat) (w : World) :
    Calls Try.prog 22 #[.slice A 0 c] w fun e w' => e = .returned (.tuple #[.float .f64 0, .int .i64 14]) ∧ w = w' := by
  go_enter Try.func22, Try.ntmps22
  go_wp2_with fail
  refine (rmean_none _ _ _).mono ?_
  rintro e w' ⟨rfl, rfl⟩
  go_wp2_with fail
  go_ret2
  exact ⟨rfl, rfl⟩
set_option maxHeartbeats 1000000 in
theorem rspread_some (A : Option Addr) (n c : Nat) (l : List Nat) (w : World) (h : IsNums w A n c l) (hn : n ≤ 1000) (h0 : ((n : Int) == 0) = false) :
    Calls Try.prog 22 #[.slice A n c] w fun e w' => e = .returned (.tuple #[.float .f64 (spreadV l), .int .i64 0]) ∧ Below w.heap.size w w' := by
  have hl := h.len
  obtain ⟨i0, hi, hz0, hz1, hz2⟩ := info_parts infoF
  go_enter Try.func22, Try.ntmps22
  go_wp2_with fail
  refine (rmean_some _ _ _ _ _ h (by omega) h0).mono ?_
  rintro e w1 ⟨rfl, hb⟩
  go_wp2_with fail
  have h1 := h.next hb
  clear h
  go_loopw [6, 7] (fun v i wr => ∃ (k : Nat) (rs : List Nat), k ≤ n ∧ i = .int .i64 k ∧ Building w1.heap.size w1 wr v k ((l.take k).map (farV (meanV l))) rs) (fun _ i _ => n - (intOf i).toNat)
  case atStart => exact ⟨0, [], Nat.zero_le _, rfl, Building.start w1⟩
  case round =>
    obtain ⟨k, rs, hk, rfl, hB⟩ := hrel
    by_cases hlt : k < n
    · obtain ⟨ad, rfl, hbb, hcell⟩ := (h1.rd.next (Nat.le_refl _) hB.bel).get (k := k) (by rw [List.length_map]; omega)
      rw [List.getElem_map] at hcell
      go_wp2_with (at_builtin; go_must (refine wpList_app1 rfl _ _ 24 rfl w1.heap.size 25 i0 (.float .f64 0) 8 Try.underlying24 hi hz0 hz1 hz2 rfl _ k _ (by rfl) (by exact (hB.drewN _).own) (by exact hB.bel.size) (by exact (hB.drewN _).bel) _ (by rfl) (by rfl) (by omega) (by omega) ?_); intro v' w2 hO2 hW2 _)
      go_roundw
      case rel => exact ⟨k + 1, rs ++ [_], by omega, by go_num, by rw [take_map_snoc _ _ _ (by omega)]; exact hB.more hO2 hW2 (far_of _ _ _ _) (fR_lt _ _ _ _)⟩
      case measure => simp [intOf]; omega
    · obtain rfl : k = n := by omega
      obtain ⟨A2, c2, rfl, hI⟩ := nums_of_own hB.own hB.wf
      have HG := Lib.hid (show meanV rs = spreadV l by unfold spreadV; refine meanV_of_cn ?_; rw [hB.cns, List.take_of_length_le (by omega), map_canon _ (far_canon _)])
      have HW := hb.trans (hB.bel.mono hb.size)
      have HR := Lib.hid (show fop .quo (sumV rs) (floatOfInt .f64 (k : Int)) = spreadV l by rw [← HG.out]; unfold meanV; rw [hI.len])
      clear hB h1 hl
      go_wp2_with fail
      refine (rsum_any _ _ _ _ _ hI (by omega)).mono ?_
      rintro e w3 ⟨rfl, hb3⟩
      go_wp2_with (go_at_call 33; refine (clean_any _ _).mono ?_; rintro e w' ⟨rfl, rfl⟩)
      go_ret2
      exact ⟨congrArg (fun v => Ending.returned (.tuple #[.float .f64 v, .int .i64 0])) ((cn_fR _ _ _ _).trans HR.out), (HW.trans (hb3.mono HW.size)).trans ⟨rfl, rfl, rfl, Nat.le_refl _, fun _ _ => rfl⟩⟩
end Go.Proofs.Ythiiicgibcgipaa.Fs
