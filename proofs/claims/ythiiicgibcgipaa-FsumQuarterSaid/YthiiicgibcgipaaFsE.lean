/- Contracts of Dot of fsum and of the reference: what each returns, for every two lists of numbers. -/
import Derived.Test.YthiiicgibcgipaaFsD
import Derived.Deep.RegionLaw
import Derived.Deep.DrawnRows
namespace Go.Proofs.Ythiiicgibcgipaa.Fs
set_option linter.unusedSimpArgs false
set_option linter.unusedVariables false
open Go.RowKit Fl Fb
attribute [local go_sem] and_sgn andNot_sgn xor_sgn xor_all run_neg_float u64_unsigned

attribute [local go_sem ↓] Go.wp_at_zero Go.wp_at_succ
theorem zip_snoc (l r : List Nat) (k : Nat) (hl : k < l.length) (hr : k < r.length) : List.zipWith (fop .mul) (l.take (k + 1)) (r.take (k + 1)) = List.zipWith (fop .mul) (l.take k) (r.take k) ++ [fop .mul l[k] r[k]] := by
  rw [List.take_succ_eq_append_getElem hl, List.take_succ_eq_append_getElem hr, List.zipWith_append (by simp; omega)]
  rfl
theorem mul_of (x y : Nat) (w : World) : cn (fR .mul x y w) = fop .mul x y := cn_fR _ _ _ _
theorem zip_canon (l r : List Nat) : (List.zipWith (fop .mul) l r).map cn = List.zipWith (fop .mul) l r := by
  rw [List.map_zipWith]
  congr 1
  funext x y
  exact cn_fop _ _ _
set_option maxHeartbeats 1000000 in
theorem dot_odd (A B : Option Addr) (n c m d : Nat) (w : World) (h : ((n : Int) != (m : Int)) = true) :
    Calls Try.prog 18 #[.slice A n c, .slice B m d] w fun e w' => e = .returned (.tuple #[.float .f64 0, .int .i64 1]) ∧ w = w' := by
  go_enter Try.func18, Try.ntmps18
  go_wp2_with fail
  go_ret2
  exact ⟨rfl, rfl⟩
set_option maxHeartbeats 4000000 in
theorem dot_even (A B : Option Addr) (n c d : Nat) (l r : List Nat) (w : World) (h : IsNums w A n c l) (h2 : IsNums w B n d r) (hn : n ≤ 1000) :
    Calls Try.prog 18 #[.slice A n c, .slice B n d] w fun e w' => e = .returned (.tuple #[.float .f64 (dotV l r), .int .i64 0]) ∧ Below w.heap.size w w' := by
  have hl := h.len
  have hr := h2.len
  obtain ⟨i0, hi, hz0, hz1, hz2⟩ := info_parts infoF
  go_enter Try.func18, Try.ntmps18
  go_wp2_with fail
  go_loopw [6, 15] (fun v i wr => ∃ (k : Nat) (rs : List Nat), k ≤ n ∧ i = .int .i64 k ∧ Building w.heap.size w wr v k (List.zipWith (fop .mul) (l.take k) (r.take k)) rs) (fun _ i _ => n - (intOf i).toNat)
  case atStart => exact ⟨0, [], Nat.zero_le _, rfl, Building.start w⟩
  case round =>
    obtain ⟨k, rs, hk, rfl, hB⟩ := hrel
    by_cases hlt : k < n
    · obtain ⟨a1, rfl, b1, c1⟩ := (h.rd.next (Nat.le_refl _) hB.bel).get (k := k) (by rw [List.length_map]; omega)
      obtain ⟨a2, rfl, b2, c2⟩ := (h2.rd.next (Nat.le_refl _) hB.bel).get (k := k) (by rw [List.length_map]; omega)
      rw [List.getElem_map] at c1 c2
      have HS : ∀ W : World, Below w.heap.size w W → W.cell? (a1.add k) = some (.float .f64 l[k]) ∧ W.cell? (a2.add k) = some (.float .f64 r[k]) := fun W hW =>
        ⟨by obtain ⟨ad, e, _, hc⟩ := (h.rd.next (Nat.le_refl _) hW).get (k := k) (by rw [List.length_map]; omega); injection e with e; subst e; rw [List.getElem_map] at hc; exact hc,
         by obtain ⟨ad, e, _, hc⟩ := (h2.rd.next (Nat.le_refl _) hW).get (k := k) (by rw [List.length_map]; omega); injection e with e; subst e; rw [List.getElem_map] at hc; exact hc⟩
      have HS' := Lib.hid HS
      clear HS
      have k0 : (0 : Int) ≤ (k : Int) := by omega
      have k1 : (k : Int) < n := by omega
      go_wp2_with fail
      go_region_law
        ((refine step_app1 (by rfl) _ _ 24 (by rfl) w.heap.size 25 i0 (.float .f64 0) 8 Try.underlying24 hi hz0 hz1 hz2 (by rfl) _ k _ (by rfl) (by exact (hB.drewN _).own) (by exact hB.bel.size) (by exact (hB.drewN _).bel) _ (by rfl) (by rfl) (by omega) (by omega) ?_; intro v' w2 hO2 hW2 _))
      all_goals
        go_wp2_with fail
        go_roundw
        case rel => exact ⟨k + 1, rs ++ [_], by omega, by go_num, by rw [zip_snoc _ _ _ (by omega) (by omega)]; exact hB.more hO2 hW2 (mul_of _ _ _) (fR_lt _ _ _ _)⟩
        case measure => simp [intOf]; omega
    · obtain rfl : k = n := by omega
      obtain ⟨A2, c2, rfl, hI⟩ := nums_of_own hB.own hB.wf
      have HG := Lib.hid (show sumV rs = dotV l r by unfold dotV; refine sumV_of_cn ?_; rw [hB.cns, List.take_of_length_le (by omega), List.take_of_length_le (by omega), zip_canon])
      have HW := hB.bel
      clear hB h h2 hl hr
      go_wp2_with fail
      refine (sum_any _ _ _ _ _ hI (by omega)).mono ?_
      rintro e w3 ⟨rfl, hb3⟩
      go_wp2_with fail
      go_ret2
      exact ⟨by rw [HG.out]; rfl, HW.trans (hb3.mono HW.size)⟩
set_option maxHeartbeats 1000000 in
theorem rdot_odd (A B : Option Addr) (n c m d : Nat) (w : World) (h : ((n : Int) != (m : Int)) = true) :
    Calls Try.prog 23 #[.slice A n c, .slice B m d] w fun e w' => e = .returned (.tuple #[.float .f64 0, .int .i64 1]) ∧ w = w' := by
  go_enter Try.func23, Try.ntmps23
  go_wp2_with fail
  go_ret2
  exact ⟨rfl, rfl⟩
set_option maxHeartbeats 4000000 in
theorem rdot_even (A B : Option Addr) (n c d : Nat) (l r : List Nat) (w : World) (h : IsNums w A n c l) (h2 : IsNums w B n d r) (hn : n ≤ 1000) :
    Calls Try.prog 23 #[.slice A n c, .slice B n d] w fun e w' => e = .returned (.tuple #[.float .f64 (dotV l r), .int .i64 0]) ∧ Below w.heap.size w w' := by
  have hl := h.len
  have hr := h2.len
  obtain ⟨i0, hi, hz0, hz1, hz2⟩ := info_parts infoF
  go_enter Try.func23, Try.ntmps23
  go_wp2_with fail
  go_loopw [6, 7] (fun v i wr => ∃ (k : Nat) (rs : List Nat), k ≤ n ∧ i = .int .i64 k ∧ Building w.heap.size w wr v k (List.zipWith (fop .mul) (l.take k) (r.take k)) rs) (fun _ i _ => n - (intOf i).toNat)
  case atStart => exact ⟨0, [], Nat.zero_le _, rfl, Building.start w⟩
  case round =>
    obtain ⟨k, rs, hk, rfl, hB⟩ := hrel
    by_cases hlt : k < n
    · obtain ⟨a1, rfl, b1, c1⟩ := (h.rd.next (Nat.le_refl _) hB.bel).get (k := k) (by rw [List.length_map]; omega)
      obtain ⟨a2, rfl, b2, c2⟩ := (h2.rd.next (Nat.le_refl _) hB.bel).get (k := k) (by rw [List.length_map]; omega)
      rw [List.getElem_map] at c1 c2
      have HS : ∀ W : World, Below w.heap.size w W → W.cell? (a1.add k) = some (.float .f64 l[k]) ∧ W.cell? (a2.add k) = some (.float .f64 r[k]) := fun W hW =>
        ⟨by obtain ⟨ad, e, _, hc⟩ := (h.rd.next (Nat.le_refl _) hW).get (k := k) (by rw [List.length_map]; omega); injection e with e; subst e; rw [List.getElem_map] at hc; exact hc,
         by obtain ⟨ad, e, _, hc⟩ := (h2.rd.next (Nat.le_refl _) hW).get (k := k) (by rw [List.length_map]; omega); injection e with e; subst e; rw [List.getElem_map] at hc; exact hc⟩
      have HS' := Lib.hid HS
      clear HS
      have k0 : (0 : Int) ≤ (k : Int) := by omega
      have k1 : (k : Int) < n := by omega
      go_wp2_with fail
      go_region_law
        ((refine step_app1 (by rfl) _ _ 24 (by rfl) w.heap.size 25 i0 (.float .f64 0) 8 Try.underlying24 hi hz0 hz1 hz2 (by rfl) _ k _ (by rfl) (by exact (hB.drewN _).own) (by exact hB.bel.size) (by exact (hB.drewN _).bel) _ (by rfl) (by rfl) (by omega) (by omega) ?_; intro v' w2 hO2 hW2 _))
      all_goals
        go_wp2_with fail
        go_roundw
        case rel => exact ⟨k + 1, rs ++ [_], by omega, by go_num, by rw [zip_snoc _ _ _ (by omega) (by omega)]; exact hB.more hO2 hW2 (mul_of _ _ _) (fR_lt _ _ _ _)⟩
        case measure => simp [intOf]; omega
    · obtain rfl : k = n := by omega
      obtain ⟨A2, c2, rfl, hI⟩ := nums_of_own hB.own hB.wf
      have HG := Lib.hid (show sumV rs = dotV l r by unfold dotV; refine sumV_of_cn ?_; rw [hB.cns, List.take_of_length_le (by omega), List.take_of_length_le (by omega), zip_canon])
      have HW := hB.bel
      clear hB h h2 hl hr
      go_wp2_with fail
      refine (rsum_any _ _ _ _ _ hI (by omega)).mono ?_
      rintro e w3 ⟨rfl, hb3⟩
      go_wp2_with fail
      go_ret2
      exact ⟨by rw [HG.out]; rfl, HW.trans (hb3.mono HW.size)⟩
end Go.Proofs.Ythiiicgibcgipaa.Fs
