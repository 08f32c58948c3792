/- FsumDoubles: the walk. For every list of numbers the law returns true, and nothing that was there is written. No condition. -/
import Derived.Test.YthiiicgibcgipaaFsG
namespace Go.Proofs.Ythiiicgibcgipaa.Fs
set_option linter.unusedSimpArgs false
set_option linter.unusedVariables false
open Go.RowKit Fl Fb
attribute [local go_sem] and_sgn andNot_sgn xor_sgn xor_all run_neg_float u64_unsigned

theorem lit200 : un 7598952565167317594 ≤ 1 * 2 ^ 2070 := by decide +kernel
theorem bd200 {x : Nat} (h : rg x ≤ 7598952565167317594) : Bd 2070 1 x := ⟨by omega, Nat.le_trans (un_le h) lit200⟩
theorem pass0 {x : Nat} (h : (FloatKind.f64.format.order x 0 != some .eq) = false) : Bd 2070 1 x := by
  rw [fmt64, o_ne, show sk 0 = 0 by decide, show rg 0 = 0 by decide] at h
  simp only [Bool.not_eq_false', Bool.and_eq_true, decide_eq_true_eq] at h
  refine bd200 ?_
  have h2 := h.2
  unfold sk at h2
  split at h2 <;> omega
theorem pass1 {x : Nat} (h1 : (FloatKind.f64.format.order x 1614679632300144556 == some .gt) = true) (h2 : (FloatKind.f64.format.order x 7598952565167317594 == some .lt) = true) : Bd 2070 1 x := by
  rw [fmt64, o_gt, show sk 1614679632300144556 = 1614679632300144556 by decide] at h1
  rw [fmt64, o_lt, show sk 7598952565167317594 = 7598952565167317594 by decide] at h2
  simp only [Bool.and_eq_true, decide_eq_true_eq] at h1 h2
  refine bd200 ?_
  have a := h1.2
  have c := h2.2
  unfold sk at a c
  split at a <;> rename_i hs <;> simp only [hs, if_true, if_false, Bool.false_eq_true] at c <;> omega
theorem pass2 {x : Nat} (h1 : (FloatKind.f64.format.order x 10838051669154920364 == some .lt) = true) (h2 : (FloatKind.f64.format.order x 16822324602022093402 == some .gt) = true) : Bd 2070 1 x := by
  rw [fmt64, o_lt, show sk 10838051669154920364 = -1614679632300144556 by decide] at h1
  rw [fmt64, o_gt, show sk 16822324602022093402 = -7598952565167317594 by decide] at h2
  simp only [Bool.and_eq_true, decide_eq_true_eq] at h1 h2
  refine bd200 ?_
  have a := h1.2
  have c := h2.2
  unfold sk at a c
  split at a <;> rename_i hs <;> simp only [hs, if_true, if_false, Bool.false_eq_true] at c <;> omega
set_option maxRecDepth 100000 in
set_option maxHeartbeats 4000000 in
theorem doubles_x (A : Option Addr) (n c : Nat) (l : List Nat) (w : World) (h : IsNums w A n c l) (h1 : decide ((n : Int) ≤ 300) = true) :
    Calls Try.prog 5 #[.slice A n c] w fun e w' => e = .returned (.bool true) ∧ Below w.heap.size w w' := by
  have hl := h.len
  have hn : n ≤ 300 := by have := of_decide_eq_true h1; omega
  obtain ⟨i0, hi, hz0, hz1, hz2⟩ := info_parts infoF
  go_enter Try.func5, Try.ntmps5
  go_wp2_with (go_at_call 15; refine (small_any _ _ _ _).mono ?_; rintro e w' ⟨rfl, rfl⟩)
  go_loopw [3, 4, 5] (fun v i _ wr => ∃ (k : Nat) (rs : List Nat), k ≤ n ∧ i = .int .i64 k ∧ Hid (∀ x ∈ l.take k, Bd 2070 1 x) ∧ Building w.heap.size w wr v k ((l.take k).map fun x => fop .add x x) rs) (fun _ i _ _ => n - (intOf i).toNat)
  case atStart => exact ⟨0, [], Nat.zero_le _, rfl, (by intro x hx; simp at hx), Building.start w⟩
  case round =>
    obtain ⟨k, rs, hk, rfl, HA, hB⟩ := hrel
    by_cases hlt : k < n
    · obtain ⟨ad, rfl, hbb, hcell⟩ := (h.rd.next (Nat.le_refl _) hB.bel).get (k := k) (by rw [List.length_map]; omega)
      rw [List.getElem_map] at hcell
      obtain ⟨x, hx0⟩ : ∃ x, l[k]'(by omega) = x := ⟨_, rfl⟩
      rw [hx0] at hcell
      have HX := Lib.hid hx0
      clear hx0
      cases h0 : (FloatKind.f64.format.order x 0 != some .eq)
      · have HD := Lib.hid (show Bd 2070 1 x from pass0 h0)
        go_wp2_with (at_builtin; go_must (refine wpList_app1 rfl _ _ 24 rfl w.heap.size 25 i0 (.float .f64 0) 8 Try.underlying24 hi hz0 hz1 hz2 rfl _ k _ (by rfl) (by exact (hB.drewN _).own) (by exact hB.bel.size) (by exact (hB.drewN _).bel) _ (by rfl) (by rfl) (by omega) (by omega) ?_); intro v' w2 hO2 hW2 _)
        go_roundw
        case rel => exact ⟨k + 1, rs ++ [_], by omega, by go_num, fun y hy => by
            rw [List.take_succ_eq_append_getElem (by omega), HX.out] at hy
            rcases List.mem_append.1 hy with g | g
            · exact HA.out y g
            · rw [List.mem_singleton] at g; rw [g]; exact HD.out, by rw [take_map_snoc _ _ _ (by omega), HX.out]; exact hB.more hO2 hW2 (cn_fR _ _ _ _) (fR_lt _ _ _ _)⟩
        case measure => simp [intOf]; omega
      · cases h1 : (FloatKind.f64.format.order x 1614679632300144556 == some .gt)
        · cases h3 : (FloatKind.f64.format.order x 10838051669154920364 == some .lt)
          · clear HX
            go_wp2_with fail
            refine (awake_any _).mono ?_
            rintro e w2 ⟨rfl, hb2⟩
            go_wp2_with fail
            go_ret
            exact ⟨rfl, Below.trans (hB.bel) (hb2.mono (hB.bel).size)⟩
          · cases h4 : (FloatKind.f64.format.order x 16822324602022093402 == some .gt)
            · clear HX
              go_wp2_with fail
              refine (awake_any _).mono ?_
              rintro e w2 ⟨rfl, hb2⟩
              go_wp2_with fail
              go_ret
              exact ⟨rfl, Below.trans (hB.bel) (hb2.mono (hB.bel).size)⟩
            · have HD := Lib.hid (show Bd 2070 1 x from pass2 h3 h4)
              go_wp2_with (at_builtin; go_must (refine wpList_app1 rfl _ _ 24 rfl w.heap.size 25 i0 (.float .f64 0) 8 Try.underlying24 hi hz0 hz1 hz2 rfl _ k _ (by rfl) (by exact (hB.drewN _).own) (by exact hB.bel.size) (by exact (hB.drewN _).bel) _ (by rfl) (by rfl) (by omega) (by omega) ?_); intro v' w2 hO2 hW2 _)
              go_roundw
              case rel => exact ⟨k + 1, rs ++ [_], by omega, by go_num, fun y hy => by
                  rw [List.take_succ_eq_append_getElem (by omega), HX.out] at hy
                  rcases List.mem_append.1 hy with g | g
                  · exact HA.out y g
                  · rw [List.mem_singleton] at g; rw [g]; exact HD.out, by rw [take_map_snoc _ _ _ (by omega), HX.out]; exact hB.more hO2 hW2 (cn_fR _ _ _ _) (fR_lt _ _ _ _)⟩
              case measure => simp [intOf]; omega
        · cases h2 : (FloatKind.f64.format.order x 7598952565167317594 == some .lt)
          · cases h3 : (FloatKind.f64.format.order x 10838051669154920364 == some .lt)
            · clear HX
              go_wp2_with fail
              refine (awake_any _).mono ?_
              rintro e w2 ⟨rfl, hb2⟩
              go_wp2_with fail
              go_ret
              exact ⟨rfl, Below.trans (hB.bel) (hb2.mono (hB.bel).size)⟩
            · cases h4 : (FloatKind.f64.format.order x 16822324602022093402 == some .gt)
              · clear HX
                go_wp2_with fail
                refine (awake_any _).mono ?_
                rintro e w2 ⟨rfl, hb2⟩
                go_wp2_with fail
                go_ret
                exact ⟨rfl, Below.trans (hB.bel) (hb2.mono (hB.bel).size)⟩
              · have HD := Lib.hid (show Bd 2070 1 x from pass2 h3 h4)
                go_wp2_with (at_builtin; go_must (refine wpList_app1 rfl _ _ 24 rfl w.heap.size 25 i0 (.float .f64 0) 8 Try.underlying24 hi hz0 hz1 hz2 rfl _ k _ (by rfl) (by exact (hB.drewN _).own) (by exact hB.bel.size) (by exact (hB.drewN _).bel) _ (by rfl) (by rfl) (by omega) (by omega) ?_); intro v' w2 hO2 hW2 _)
                go_roundw
                case rel => exact ⟨k + 1, rs ++ [_], by omega, by go_num, fun y hy => by
                    rw [List.take_succ_eq_append_getElem (by omega), HX.out] at hy
                    rcases List.mem_append.1 hy with g | g
                    · exact HA.out y g
                    · rw [List.mem_singleton] at g; rw [g]; exact HD.out, by rw [take_map_snoc _ _ _ (by omega), HX.out]; exact hB.more hO2 hW2 (cn_fR _ _ _ _) (fR_lt _ _ _ _)⟩
                case measure => simp [intOf]; omega
          · have HD := Lib.hid (show Bd 2070 1 x from pass1 h1 h2)
            go_wp2_with (at_builtin; go_must (refine wpList_app1 rfl _ _ 24 rfl w.heap.size 25 i0 (.float .f64 0) 8 Try.underlying24 hi hz0 hz1 hz2 rfl _ k _ (by rfl) (by exact (hB.drewN _).own) (by exact hB.bel.size) (by exact (hB.drewN _).bel) _ (by rfl) (by rfl) (by omega) (by omega) ?_); intro v' w2 hO2 hW2 _)
            go_roundw
            case rel => exact ⟨k + 1, rs ++ [_], by omega, by go_num, fun y hy => by
                rw [List.take_succ_eq_append_getElem (by omega), HX.out] at hy
                rcases List.mem_append.1 hy with g | g
                · exact HA.out y g
                · rw [List.mem_singleton] at g; rw [g]; exact HD.out, by rw [take_map_snoc _ _ _ (by omega), HX.out]; exact hB.more hO2 hW2 (cn_fR _ _ _ _) (fR_lt _ _ _ _)⟩
            case measure => simp [intOf]; omega
    · obtain rfl : k = n := by omega
      obtain ⟨A2, c2, rfl, hI0⟩ := nums_of_own hB.own hB.wf
      have HW0 := hB.bel
      rw [List.take_of_length_le (by omega)] at HA
      have HV0 : sumV rs = fop .add (sumV l) (sumV l) := by
        rw [← sumV_cn, hB.cns, List.take_of_length_le (by omega)]
        exact sum_doubles HA.out (by omega)
      obtain ⟨s, hs⟩ : ∃ s, sumV l = s := ⟨_, rfl⟩
      rw [hs] at HV0
      have HV := Lib.hid HV0
      have HS := Lib.hid hs
      have hsame : ∀ W : World, sameB (fop .add s s) (fR .add s s W) = true := fun W => sameB_yes (by rw [cn_fop, cn_fR])
      have h2 := h.next (HW0.mono (Nat.le_refl _))
      clear HV0 hs HA hB h hl
      go_wp2_with fail
      refine (sum_any _ _ _ _ _ h2 (by omega)).mono ?_
      rintro e w1 ⟨rfl, hb1⟩
      have HW := HW0.trans (hb1.mono HW0.size)
      have hI := hI0.next hb1
      rw [HS.out]
      clear hb1 HW0 h2 hI0
      cases g0 : (FloatKind.f64.format.order s 0 != some .eq)
      · go_wp2_with fail
        refine (sum_any _ _ _ _ _ hI (by omega)).mono ?_
        rintro e w3 ⟨rfl, hb3⟩
        have HW3 := HW.trans (hb3.mono HW.size)
        rw [HV.out]
        go_wp2_with fail
        refine (Fb.rsame_any _ _ _).mono ?_
        rintro e w' ⟨rfl, rfl⟩
        have HW4 : Below w.heap.size w _ := bdrewN HW3 (fN .add s s)
        go_wp2_with fail
        refine (awake_any _).mono ?_
        rintro e w2 ⟨rfl, hb2⟩
        go_wp2_with fail
        go_ret
        exact ⟨rfl, Below.trans (HW4) (hb2.mono (HW4).size)⟩
      · cases g1 : (FloatKind.f64.format.order s 1614679632300144556 == some .lt)
        · go_wp2_with fail
          refine (sum_any _ _ _ _ _ hI (by omega)).mono ?_
          rintro e w3 ⟨rfl, hb3⟩
          have HW3 := HW.trans (hb3.mono HW.size)
          rw [HV.out]
          go_wp2_with fail
          refine (Fb.rsame_any _ _ _).mono ?_
          rintro e w' ⟨rfl, rfl⟩
          have HW4 : Below w.heap.size w _ := bdrewN HW3 (fN .add s s)
          go_wp2_with fail
          refine (awake_any _).mono ?_
          rintro e w2 ⟨rfl, hb2⟩
          go_wp2_with fail
          go_ret
          exact ⟨rfl, Below.trans (HW4) (hb2.mono (HW4).size)⟩
        · cases g2 : (FloatKind.f64.format.order s 10838051669154920364 == some .gt)
          · go_wp2_with fail
            refine (sum_any _ _ _ _ _ hI (by omega)).mono ?_
            rintro e w3 ⟨rfl, hb3⟩
            have HW3 := HW.trans (hb3.mono HW.size)
            rw [HV.out]
            go_wp2_with fail
            refine (Fb.rsame_any _ _ _).mono ?_
            rintro e w' ⟨rfl, rfl⟩
            have HW4 : Below w.heap.size w _ := bdrewN HW3 (fN .add s s)
            go_wp2_with fail
            refine (awake_any _).mono ?_
            rintro e w2 ⟨rfl, hb2⟩
            go_wp2_with fail
            go_ret
            exact ⟨rfl, Below.trans (HW4) (hb2.mono (HW4).size)⟩
          · go_wp2_with fail
            refine (awake_any _).mono ?_
            rintro e w2 ⟨rfl, hb2⟩
            go_wp2_with fail
            go_ret
            exact ⟨rfl, Below.trans (HW) (hb2.mono (HW).size)⟩
theorem doubles_walk (A : Option Addr) (n c : Nat) (l : List Nat) (w : World) (h : IsNums w A n c l) :
    Calls Try.prog 5 #[.slice A n c] w fun e w' => e = .returned (.bool true) ∧ Below w.heap.size w w' := by
  rcases Nat.lt_or_ge 300 n with h1 | h1
  · have t1 : decide ((n : Int) ≤ 300) = false := decide_eq_false (by omega)
    go_enter Try.func5, Try.ntmps5
    go_wp2_with (go_at_call 15; refine (small_any _ _ _ _).mono ?_; rintro e w' ⟨rfl, rfl⟩)
    refine (awake_any _).mono ?_
    rintro e w2 ⟨rfl, hb2⟩
    go_wp2_with fail
    go_ret
    exact ⟨rfl, hb2⟩
  · exact doubles_x A n c l w h (decide_eq_true (by omega))
end Go.Proofs.Ythiiicgibcgipaa.Fs
