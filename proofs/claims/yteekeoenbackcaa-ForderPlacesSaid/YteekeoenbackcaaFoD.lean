/- Contracts of Find of the reference, of Nums, small and awake of the laws: what each returns. -/
import Derived.Test.YteekeoenbackcaaFoC
import Derived.Test.YteekeoenbackcaaRo
namespace Go.Proofs.Yteekeoenbackcaa.So
set_option linter.unusedSimpArgs false
set_option linter.unusedVariables false
open Go.RowKit Go.Sort Go.Lib Fl Fb
attribute [local go_sem] u64_unsigned

set_option maxRecDepth 100000 in
set_option maxHeartbeats 4000000 in
theorem rfind_any (A : Option Addr) (n c x : Nat) (l : List Nat) (w : World) (h : IsNums w A n c l) (hn : n ≤ 1000) (hx0 : lt64 x) :
    Calls Try.prog 25 #[.slice A n c, .float .f64 x] w fun e w' => e = .returned (.tuple #[.int .i64 (findI l x), .bool (findO l x)]) ∧ ∃ q, w' = w.drewN q := by
  have hl := h.len
  go_enter Try.func25, Try.ntmps25
  go_wp2_with fail
  go_loopw [6] (fun v wr => ∃ (i q : Nat), 0 < i ∧ i ≤ n + 1 ∧ v = .int .i64 i ∧ Hid (∀ a, a + 1 < i → a + 1 < l.length → ky l a ≤ ky l (a + 1)) ∧ wr = w.drewN q) (fun v _ => n + 1 - (intOf v).toNat)
  case atStart => exact ⟨1, 0, by omega, by omega, rfl, (fun a h1 => by omega), rfl⟩
  case round =>
    obtain ⟨i, q, hi0, hi1, rfl, HA, rfl⟩ := hrel
    by_cases hlt : i < n
    · obtain ⟨j, rfl⟩ : ∃ j, i = j + 1 := ⟨i - 1, by omega⟩
      obtain ⟨ad, rfl⟩ := nums_ad h (by omega)
      have j1 : (j : Int) + 1 < (n : Int) := by omega
      have j2 : (j : Int) < (n : Int) := by omega
      have hk1 := getD_lt h.wf (j + 1)
      have hk2 := getD_lt h.wf j
      have c1 := nums_cell h (j := j + 1) (by omega)
      have c2 := nums_cell h (j := j) (by omega)
      rw [add_succ_ ad j] at c1
      have j0 : (0 : Int) ≤ (j : Int) := by omega
      have j3 : (0 : Int) ≤ (j : Int) + 1 := by omega
      have j4 : (j : Int) + 1 ≤ 1000 := by omega
      obtain ⟨x_1, hx⟩ : ∃ x_1, l.getD (j + 1) 0 = x_1 := ⟨_, rfl⟩
      obtain ⟨y, hy⟩ : ∃ y, l.getD j 0 = y := ⟨_, rfl⟩
      rw [hx] at hk1 c1
      rw [hy] at hk2 c2
      have HX := Lib.hid hx
      have HY := Lib.hid hy
      clear hx hy
      by_cases hlt2 : keyV x_1 < keyV y
      · have t1 : decide (0 < cmpN (keyV y) (keyV x_1)) = true := decide_eq_true ((cmpN_pos _ _).2 hlt2)
        have HR := Lib.hid (show risB l = false from ris_false (i := j) (by omega) (by unfold ky; rw [HX.out, HY.out]; exact hlt2))
        clear hlt2
        have jw : IntKind.i64.wrap (j : Int) = j := IntWalk.i64_in _ (by omega)
        go_wp2_with fail
        refine wp_region_held_drew (S := Drawn w) (by kernel_rfl) (by first | exact Drawn.of _ _ | exact Drawn.one _) (fun hHeld => ?_)
        refine wpAnyH_take (i := 0) (v := ?v59_0) (by simp only [List.getElem?_toArray, List.getElem?_cons_succ, List.getElem?_cons_zero]; rfl) (by kernel_rfl) (by kernel_rfl) (by kernel_rfl) (by exact fun _ _ _ h => h) (Or.inl ⟨by rfl, ?h59_0⟩) hHeld ?_
        case h59_0 => (intro w' hSw; obtain ⟨m, rfl⟩ := hSw; go_simp <;> with_reducible rfl)
        try simp only [Act.put, List.setIfInBounds_toArray, List.set_cons_zero, List.set_cons_succ]
        refine wpAnyH_take (i := 1) (v := ?v60_1) (by simp only [List.getElem?_toArray, List.getElem?_cons_succ, List.getElem?_cons_zero]; rfl) (by kernel_rfl) (by kernel_rfl) (by kernel_rfl) (by exact fun _ _ _ h => h) (Or.inl ⟨by rfl, ?h60_1⟩) hHeld ?_
        case h60_1 => (intro w' hSw; obtain ⟨m, rfl⟩ := hSw; go_simp <;> with_reducible rfl)
        try simp only [Act.put, List.setIfInBounds_toArray, List.set_cons_zero, List.set_cons_succ]
        refine wpAnyH_take (i := 2) (v := ?v61_2) (by simp only [List.getElem?_toArray, List.getElem?_cons_succ, List.getElem?_cons_zero]; rfl) (by kernel_rfl) (by kernel_rfl) (by kernel_rfl) (by exact fun _ _ _ h => h) (Or.inl ⟨by rfl, ?h61_2⟩) hHeld ?_
        case h61_2 => (intro w' hSw; obtain ⟨m, rfl⟩ := hSw; go_simp <;> with_reducible rfl)
        try simp only [Act.put, List.setIfInBounds_toArray, List.set_cons_zero, List.set_cons_succ]
        refine wpAnyH_take (i := 3) (v := ?v62_3) (by simp only [List.getElem?_toArray, List.getElem?_cons_succ, List.getElem?_cons_zero]; rfl) (by kernel_rfl) (by kernel_rfl) (by kernel_rfl) (by exact fun _ _ _ h => h) (Or.inl ⟨by rfl, ?h62_3⟩) hHeld ?_
        case h62_3 => (intro w' hSw; obtain ⟨m, rfl⟩ := hSw; go_simp <;> with_reducible rfl)
        try simp only [Act.put, List.setIfInBounds_toArray, List.set_cons_zero, List.set_cons_succ]
        refine wpAnyH_take (i := 4) (v := ?v63_4) (by simp only [List.getElem?_toArray, List.getElem?_cons_succ, List.getElem?_cons_zero]; rfl) (by kernel_rfl) (by kernel_rfl) (by kernel_rfl) (by exact fun _ _ _ h => h) (Or.inl ⟨by rfl, ?h63_4⟩) hHeld ?_
        case h63_4 => (intro w' hSw; obtain ⟨m, rfl⟩ := hSw; go_simp <;> with_reducible rfl)
        try simp only [Act.put, List.setIfInBounds_toArray, List.set_cons_zero, List.set_cons_succ]
        refine wpAnyH_take (i := 5) (v := ?v64_5) (by simp only [List.getElem?_toArray, List.getElem?_cons_succ, List.getElem?_cons_zero]; rfl) (by kernel_rfl) (by kernel_rfl) (by kernel_rfl) (by exact fun _ _ _ h => h) (Or.inl ⟨by rfl, ?h64_5⟩) hHeld ?_
        case h64_5 => (intro w' hSw; obtain ⟨m, rfl⟩ := hSw; go_simp <;> with_reducible rfl)
        try simp only [Act.put, List.setIfInBounds_toArray, List.set_cons_zero, List.set_cons_succ]
        refine wpAnyH_take (i := 6) (v := ?v65_6) (by simp only [List.getElem?_toArray, List.getElem?_cons_succ, List.getElem?_cons_zero]; rfl) (by kernel_rfl) (by kernel_rfl) (by kernel_rfl) (by exact fun _ _ _ h => h) (Or.inl ⟨by rfl, ?h65_6⟩) hHeld ?_
        case h65_6 => (intro w' hSw; obtain ⟨m, rfl⟩ := hSw; go_simp <;> with_reducible rfl)
        try simp only [Act.put, List.setIfInBounds_toArray, List.set_cons_zero, List.set_cons_succ]
        refine wpAnyH_take (i := 7) (v := ?v66_7) (by simp only [List.getElem?_toArray, List.getElem?_cons_succ, List.getElem?_cons_zero]; rfl) (by kernel_rfl) (by kernel_rfl) (by kernel_rfl) (by exact fun _ _ _ h => h) (Or.inl ⟨by rfl, ?h66_7⟩) hHeld ?_
        case h66_7 => (intro w' hSw; obtain ⟨m, rfl⟩ := hSw; go_simp <;> with_reducible rfl)
        try simp only [Act.put, List.setIfInBounds_toArray, List.set_cons_zero, List.set_cons_succ]
        refine wpAnyH_take (i := 8) (v := ?v67_8) (by simp only [List.getElem?_toArray, List.getElem?_cons_succ, List.getElem?_cons_zero]; rfl) (by kernel_rfl) (by kernel_rfl) (by kernel_rfl) (by exact fun _ _ _ h => h) (Or.inl ⟨by rfl, ?h67_8⟩) hHeld ?_
        case h67_8 => (intro w' hSw; obtain ⟨m, rfl⟩ := hSw; go_simp <;> with_reducible rfl)
        try simp only [Act.put, List.setIfInBounds_toArray, List.set_cons_zero, List.set_cons_succ]
        refine wpAnyH_ready (rs := [9]) (by kernel_rfl) (by simp) ?_
        refine AllReadyH.cons (by simp only [List.getElem?_toArray, List.getElem?_cons_succ, List.getElem?_cons_zero]; rfl) (fun K hK => ?_) AllReadyH.nil
        go_simp
        refine (rcmp_any _ _ _ hk2 hk1).mono ?_
        rintro e w' ⟨rfl, rfl⟩
        go_simp
        refine hK.out _ _ ⟨_, rfl⟩ (fun hHeld2 => ?_)
        clear hK K hHeld
        rename Drawn _ _ => hHeld
        try simp only [Act.put, List.setIfInBounds_toArray, List.set_cons_zero, List.set_cons_succ]
        refine wpAnyH_take (i := 10) (v := ?v68_10) (by simp only [List.getElem?_toArray, List.getElem?_cons_succ, List.getElem?_cons_zero]; rfl) (by kernel_rfl) (by kernel_rfl) (by kernel_rfl) (by exact fun _ _ _ h => h) (Or.inl ⟨by rfl, ?h68_10⟩) hHeld ?_
        case h68_10 => (intro w' hSw; obtain ⟨m, rfl⟩ := hSw; go_simp <;> with_reducible rfl)
        try simp only [Act.put, List.setIfInBounds_toArray, List.set_cons_zero, List.set_cons_succ]
        refine wpAnyH_done (by kernel_rfl) ?_ _
        go_wp2_with fail
        go_ret2
        exact ⟨by rw [(find_no HR.out).1, (find_no HR.out).2]; rfl, _, rfl⟩
      · have t1 : decide (0 < cmpN (keyV y) (keyV x_1)) = false := decide_eq_false (fun hh => hlt2 ((cmpN_pos _ _).1 hh))
        have HL := Lib.hid (show keyV y ≤ keyV x_1 by omega)
        clear hlt2
        have jw : IntKind.i64.wrap (j : Int) = j := IntWalk.i64_in _ (by omega)
        go_wp2_with fail
        refine wp_region_held_drew (S := Drawn w) (by kernel_rfl) (by first | exact Drawn.of _ _ | exact Drawn.one _) (fun hHeld => ?_)
        refine wpAnyH_take (i := 0) (v := ?v69_0) (by simp only [List.getElem?_toArray, List.getElem?_cons_succ, List.getElem?_cons_zero]; rfl) (by kernel_rfl) (by kernel_rfl) (by kernel_rfl) (by exact fun _ _ _ h => h) (Or.inl ⟨by rfl, ?h69_0⟩) hHeld ?_
        case h69_0 => (intro w' hSw; obtain ⟨m, rfl⟩ := hSw; go_simp <;> with_reducible rfl)
        try simp only [Act.put, List.setIfInBounds_toArray, List.set_cons_zero, List.set_cons_succ]
        refine wpAnyH_take (i := 1) (v := ?v70_1) (by simp only [List.getElem?_toArray, List.getElem?_cons_succ, List.getElem?_cons_zero]; rfl) (by kernel_rfl) (by kernel_rfl) (by kernel_rfl) (by exact fun _ _ _ h => h) (Or.inl ⟨by rfl, ?h70_1⟩) hHeld ?_
        case h70_1 => (intro w' hSw; obtain ⟨m, rfl⟩ := hSw; go_simp <;> with_reducible rfl)
        try simp only [Act.put, List.setIfInBounds_toArray, List.set_cons_zero, List.set_cons_succ]
        refine wpAnyH_take (i := 2) (v := ?v71_2) (by simp only [List.getElem?_toArray, List.getElem?_cons_succ, List.getElem?_cons_zero]; rfl) (by kernel_rfl) (by kernel_rfl) (by kernel_rfl) (by exact fun _ _ _ h => h) (Or.inl ⟨by rfl, ?h71_2⟩) hHeld ?_
        case h71_2 => (intro w' hSw; obtain ⟨m, rfl⟩ := hSw; go_simp <;> with_reducible rfl)
        try simp only [Act.put, List.setIfInBounds_toArray, List.set_cons_zero, List.set_cons_succ]
        refine wpAnyH_take (i := 3) (v := ?v72_3) (by simp only [List.getElem?_toArray, List.getElem?_cons_succ, List.getElem?_cons_zero]; rfl) (by kernel_rfl) (by kernel_rfl) (by kernel_rfl) (by exact fun _ _ _ h => h) (Or.inl ⟨by rfl, ?h72_3⟩) hHeld ?_
        case h72_3 => (intro w' hSw; obtain ⟨m, rfl⟩ := hSw; go_simp <;> with_reducible rfl)
        try simp only [Act.put, List.setIfInBounds_toArray, List.set_cons_zero, List.set_cons_succ]
        refine wpAnyH_take (i := 4) (v := ?v73_4) (by simp only [List.getElem?_toArray, List.getElem?_cons_succ, List.getElem?_cons_zero]; rfl) (by kernel_rfl) (by kernel_rfl) (by kernel_rfl) (by exact fun _ _ _ h => h) (Or.inl ⟨by rfl, ?h73_4⟩) hHeld ?_
        case h73_4 => (intro w' hSw; obtain ⟨m, rfl⟩ := hSw; go_simp <;> with_reducible rfl)
        try simp only [Act.put, List.setIfInBounds_toArray, List.set_cons_zero, List.set_cons_succ]
        refine wpAnyH_take (i := 5) (v := ?v74_5) (by simp only [List.getElem?_toArray, List.getElem?_cons_succ, List.getElem?_cons_zero]; rfl) (by kernel_rfl) (by kernel_rfl) (by kernel_rfl) (by exact fun _ _ _ h => h) (Or.inl ⟨by rfl, ?h74_5⟩) hHeld ?_
        case h74_5 => (intro w' hSw; obtain ⟨m, rfl⟩ := hSw; go_simp <;> with_reducible rfl)
        try simp only [Act.put, List.setIfInBounds_toArray, List.set_cons_zero, List.set_cons_succ]
        refine wpAnyH_take (i := 6) (v := ?v75_6) (by simp only [List.getElem?_toArray, List.getElem?_cons_succ, List.getElem?_cons_zero]; rfl) (by kernel_rfl) (by kernel_rfl) (by kernel_rfl) (by exact fun _ _ _ h => h) (Or.inl ⟨by rfl, ?h75_6⟩) hHeld ?_
        case h75_6 => (intro w' hSw; obtain ⟨m, rfl⟩ := hSw; go_simp <;> with_reducible rfl)
        try simp only [Act.put, List.setIfInBounds_toArray, List.set_cons_zero, List.set_cons_succ]
        refine wpAnyH_take (i := 7) (v := ?v76_7) (by simp only [List.getElem?_toArray, List.getElem?_cons_succ, List.getElem?_cons_zero]; rfl) (by kernel_rfl) (by kernel_rfl) (by kernel_rfl) (by exact fun _ _ _ h => h) (Or.inl ⟨by rfl, ?h76_7⟩) hHeld ?_
        case h76_7 => (intro w' hSw; obtain ⟨m, rfl⟩ := hSw; go_simp <;> with_reducible rfl)
        try simp only [Act.put, List.setIfInBounds_toArray, List.set_cons_zero, List.set_cons_succ]
        refine wpAnyH_take (i := 8) (v := ?v77_8) (by simp only [List.getElem?_toArray, List.getElem?_cons_succ, List.getElem?_cons_zero]; rfl) (by kernel_rfl) (by kernel_rfl) (by kernel_rfl) (by exact fun _ _ _ h => h) (Or.inl ⟨by rfl, ?h77_8⟩) hHeld ?_
        case h77_8 => (intro w' hSw; obtain ⟨m, rfl⟩ := hSw; go_simp <;> with_reducible rfl)
        try simp only [Act.put, List.setIfInBounds_toArray, List.set_cons_zero, List.set_cons_succ]
        refine wpAnyH_ready (rs := [9]) (by kernel_rfl) (by simp) ?_
        refine AllReadyH.cons (by simp only [List.getElem?_toArray, List.getElem?_cons_succ, List.getElem?_cons_zero]; rfl) (fun K hK => ?_) AllReadyH.nil
        go_simp
        refine (rcmp_any _ _ _ hk2 hk1).mono ?_
        rintro e w' ⟨rfl, rfl⟩
        go_simp
        refine hK.out _ _ ⟨_, rfl⟩ (fun hHeld2 => ?_)
        clear hK K hHeld
        rename Drawn _ _ => hHeld
        try simp only [Act.put, List.setIfInBounds_toArray, List.set_cons_zero, List.set_cons_succ]
        refine wpAnyH_take (i := 10) (v := ?v78_10) (by simp only [List.getElem?_toArray, List.getElem?_cons_succ, List.getElem?_cons_zero]; rfl) (by kernel_rfl) (by kernel_rfl) (by kernel_rfl) (by exact fun _ _ _ h => h) (Or.inl ⟨by rfl, ?h78_10⟩) hHeld ?_
        case h78_10 => (intro w' hSw; obtain ⟨m, rfl⟩ := hSw; go_simp <;> with_reducible rfl)
        try simp only [Act.put, List.setIfInBounds_toArray, List.set_cons_zero, List.set_cons_succ]
        refine wpAnyH_done (by kernel_rfl) ?_ _
        clear jw
        go_wp2_with fail
        go_roundw
        case rel => exact ⟨j + 1 + 1, _, by omega, by omega, by go_num, fun a h1 h2 => by
            by_cases e : a = j
            · subst e; unfold ky; rw [HX.out, HY.out]; exact HL.out
            · exact HA.out a (by omega) h2, rfl⟩
        case measure => simp [intOf] <;> omega
    · have HR := Lib.hid (show risB l = true from ris_true fun a ha => HA.out a (by omega) ha)
      go_wp2_with fail
      go_loopw [7] (fun v wr => ∃ (k q : Nat), k ≤ n ∧ v = .int .i64 k ∧ Hid (∀ j, j < k → ky l j < keyV x) ∧ wr = w.drewN q) (fun v _ => n - (intOf v).toNat)
      case atStart => exact ⟨0, _, Nat.zero_le _, rfl, (fun j hj => by omega), rfl⟩
      case round =>
        obtain ⟨k, q2, hk, rfl, HK, rfl⟩ := hrel
        by_cases hlt3 : k < n
        · obtain ⟨ad, rfl⟩ := nums_ad h (by omega)
          have cm := nums_cell h hlt3
          have hy0 := getD_lt h.wf k
          obtain ⟨y, hy⟩ : ∃ y, l.getD k 0 = y := ⟨_, rfl⟩
          rw [hy] at cm hy0
          have HY := Lib.hid hy
          clear hy
          by_cases hyx : keyV y < keyV x
          · have t1 : decide (cmpN (keyV y) (keyV x) < 0) = true := decide_eq_true ((cmpN_neg _ _).2 hyx)
            have HX := Lib.hid hyx
            clear hyx
            go_wp2_with (go_at_call 21; refine (rcmp_any _ _ _ hy0 hx0).mono ?_; rintro e w' ⟨rfl, rfl⟩)
            go_roundw
            case rel => exact ⟨k + 1, _, by omega, by go_num, fun j hj => by
                by_cases e : j = k
                · subst e; unfold ky; rw [HY.out]; exact HX.out
                · exact HK.out j (by omega), rfl⟩
            case measure => simp [intOf]; omega
          · have t1 : decide (cmpN (keyV y) (keyV x) < 0) = false := decide_eq_false (fun hh => hyx ((cmpN_neg _ _).1 hh))
            have HL := Lib.hid (show lowB l x = k from low_one (by omega) HK.out fun _ => by unfold ky; rw [HY.out]; omega)
            have HF := Lib.hid (show metB l x = sameB y x by
              unfold metB; rw [HL.out, decide_eq_true (by omega), Bool.true_and, same_key hy0 hx0]; unfold ky; rw [HY.out])
            clear hyx
            go_wp2_with (first | (go_at_call 21; refine (rcmp_any _ _ _ hy0 hx0).mono ?_; rintro e w' ⟨rfl, rfl⟩) | (go_at_call 15; refine (rsame_any _ _ _).mono ?_; rintro e w' ⟨rfl, rfl⟩))
            go_ret2
            exact ⟨by rw [(find_yes HR.out).1, (find_yes HR.out).2, HF.out, HL.out]; rfl, q2, rfl⟩
        · obtain rfl : k = n := by omega
          have HL := Lib.hid (show lowB l x = k from low_one (by omega) HK.out fun hh => by omega)
          have HF := Lib.hid (show metB l x = false by unfold metB; rw [HL.out, decide_eq_false (by omega), Bool.false_and])
          go_wp2_with fail
          go_ret2
          exact ⟨by rw [(find_yes HR.out).1, (find_yes HR.out).2, HF.out, HL.out]; rfl, q2, rfl⟩
theorem getD_map (g : Nat → Nat) (l : List Nat) (k : Nat) (h : k < l.length) : (l.map g).getD k 0 = g (l.getD k 0) := by
  rw [List.getD_eq_getElem?_getD, List.getD_eq_getElem?_getD, List.getElem?_map, List.getElem?_eq_getElem h]; rfl
set_option maxHeartbeats 4000000 in
theorem nums_any (A B : Option Addr) (n c d : Nat) (l r : List Nat) (w : World) (h : IsNums w A n c l) (h2 : IsNums w B n d r) (hn : n ≤ 1000) (he : l.map cn = r.map cn) :
    Calls Try.prog 17 #[.slice A n c, .slice B n d] w fun e w' => e = .returned (.bool true) ∧ ∃ q, w' = w.drewN q := by
  have hl := h.len
  have hr := h2.len
  have HE := Lib.hid he
  clear he
  go_enter Try.func17, Try.ntmps17
  go_wp2_with fail
  go_loopw [5] (fun v wr => ∃ (k q : Nat), k ≤ n ∧ v = .int .i64 k ∧ wr = w.drewN q) (fun v _ => n - (intOf v).toNat)
  case atStart => exact ⟨0, 0, Nat.zero_le _, rfl, rfl⟩
  case round =>
    obtain ⟨k, q, hk, rfl, rfl⟩ := hrel
    by_cases hlt : k < n
    · obtain ⟨ad, rfl⟩ := nums_ad h (by omega)
      obtain ⟨ad2, rfl⟩ := nums_ad h2 (by omega)
      have c1 := nums_cell h hlt
      have c2 := nums_cell h2 hlt
      have k0 : (0 : Int) ≤ (k : Int) := by omega
      have k1 : (k : Int) < n := by omega
      have hs : sameB (l.getD k 0) (r.getD k 0) = true := sameB_yes (by
        have e := congrArg (fun m => m.getD k 0) HE.out
        rw [getD_map cn l k (by omega), getD_map cn r k (by omega)] at e
        exact e)
      obtain ⟨x, hx⟩ : ∃ x, l.getD k 0 = x := ⟨_, rfl⟩
      obtain ⟨y, hy⟩ : ∃ y, r.getD k 0 = y := ⟨_, rfl⟩
      rw [hx, hy] at hs
      rw [hx] at c1
      rw [hy] at c2
      clear hx hy
      go_wp2_with fail
      refine wp_region_held_drew (S := Drawn w) (by kernel_rfl) (by first | exact Drawn.of _ _ | exact Drawn.one _) (fun hHeld => ?_)
      refine wpAnyH_take (i := 0) (v := ?v79_0) (by simp only [List.getElem?_toArray, List.getElem?_cons_succ, List.getElem?_cons_zero]; rfl) (by kernel_rfl) (by kernel_rfl) (by kernel_rfl) (by exact fun _ _ _ h => h) (Or.inl ⟨by rfl, ?h79_0⟩) hHeld ?_
      case h79_0 => (intro w' hSw; obtain ⟨m, rfl⟩ := hSw; go_simp <;> with_reducible rfl)
      try simp only [Act.put, List.setIfInBounds_toArray, List.set_cons_zero, List.set_cons_succ]
      refine wpAnyH_take (i := 1) (v := ?v80_1) (by simp only [List.getElem?_toArray, List.getElem?_cons_succ, List.getElem?_cons_zero]; rfl) (by kernel_rfl) (by kernel_rfl) (by kernel_rfl) (by exact fun _ _ _ h => h) (Or.inl ⟨by rfl, ?h80_1⟩) hHeld ?_
      case h80_1 => (intro w' hSw; obtain ⟨m, rfl⟩ := hSw; go_simp <;> with_reducible rfl)
      try simp only [Act.put, List.setIfInBounds_toArray, List.set_cons_zero, List.set_cons_succ]
      refine wpAnyH_take (i := 2) (v := ?v81_2) (by simp only [List.getElem?_toArray, List.getElem?_cons_succ, List.getElem?_cons_zero]; rfl) (by kernel_rfl) (by kernel_rfl) (by kernel_rfl) (by exact fun _ _ _ h => h) (Or.inl ⟨by rfl, ?h81_2⟩) hHeld ?_
      case h81_2 => (intro w' hSw; obtain ⟨m, rfl⟩ := hSw; go_simp <;> with_reducible rfl)
      try simp only [Act.put, List.setIfInBounds_toArray, List.set_cons_zero, List.set_cons_succ]
      refine wpAnyH_take (i := 3) (v := ?v82_3) (by simp only [List.getElem?_toArray, List.getElem?_cons_succ, List.getElem?_cons_zero]; rfl) (by kernel_rfl) (by kernel_rfl) (by kernel_rfl) (by exact fun _ _ _ h => h) (Or.inl ⟨by rfl, ?h82_3⟩) hHeld ?_
      case h82_3 => (intro w' hSw; obtain ⟨m, rfl⟩ := hSw; go_simp <;> with_reducible rfl)
      try simp only [Act.put, List.setIfInBounds_toArray, List.set_cons_zero, List.set_cons_succ]
      refine wpAnyH_take (i := 4) (v := ?v83_4) (by simp only [List.getElem?_toArray, List.getElem?_cons_succ, List.getElem?_cons_zero]; rfl) (by kernel_rfl) (by kernel_rfl) (by kernel_rfl) (by exact fun _ _ _ h => h) (Or.inl ⟨by rfl, ?h83_4⟩) hHeld ?_
      case h83_4 => (intro w' hSw; obtain ⟨m, rfl⟩ := hSw; go_simp <;> with_reducible rfl)
      try simp only [Act.put, List.setIfInBounds_toArray, List.set_cons_zero, List.set_cons_succ]
      refine wpAnyH_take (i := 5) (v := ?v84_5) (by simp only [List.getElem?_toArray, List.getElem?_cons_succ, List.getElem?_cons_zero]; rfl) (by kernel_rfl) (by kernel_rfl) (by kernel_rfl) (by exact fun _ _ _ h => h) (Or.inl ⟨by rfl, ?h84_5⟩) hHeld ?_
      case h84_5 => (intro w' hSw; obtain ⟨m, rfl⟩ := hSw; go_simp <;> with_reducible rfl)
      try simp only [Act.put, List.setIfInBounds_toArray, List.set_cons_zero, List.set_cons_succ]
      refine wpAnyH_take (i := 6) (v := ?v85_6) (by simp only [List.getElem?_toArray, List.getElem?_cons_succ, List.getElem?_cons_zero]; rfl) (by kernel_rfl) (by kernel_rfl) (by kernel_rfl) (by exact fun _ _ _ h => h) (Or.inl ⟨by rfl, ?h85_6⟩) hHeld ?_
      case h85_6 => (intro w' hSw; obtain ⟨m, rfl⟩ := hSw; go_simp <;> with_reducible rfl)
      try simp only [Act.put, List.setIfInBounds_toArray, List.set_cons_zero, List.set_cons_succ]
      refine wpAnyH_take (i := 7) (v := ?v86_7) (by simp only [List.getElem?_toArray, List.getElem?_cons_succ, List.getElem?_cons_zero]; rfl) (by kernel_rfl) (by kernel_rfl) (by kernel_rfl) (by exact fun _ _ _ h => h) (Or.inl ⟨by rfl, ?h86_7⟩) hHeld ?_
      case h86_7 => (intro w' hSw; obtain ⟨m, rfl⟩ := hSw; go_simp <;> with_reducible rfl)
      try simp only [Act.put, List.setIfInBounds_toArray, List.set_cons_zero, List.set_cons_succ]
      refine wpAnyH_ready (rs := [8]) (by kernel_rfl) (by simp) ?_
      refine AllReadyH.cons (by simp only [List.getElem?_toArray, List.getElem?_cons_succ, List.getElem?_cons_zero]; rfl) (fun K hK => ?_) AllReadyH.nil
      go_simp
      refine (rsame_any _ _ _).mono ?_
      rintro e w' ⟨rfl, rfl⟩
      go_simp
      refine hK.out _ _ ⟨_, rfl⟩ (fun hHeld2 => ?_)
      clear hK K hHeld
      rename Drawn _ _ => hHeld
      try simp only [Act.put, List.setIfInBounds_toArray, List.set_cons_zero, List.set_cons_succ]
      refine wpAnyH_take (i := 9) (v := ?v87_9) (by simp only [List.getElem?_toArray, List.getElem?_cons_succ, List.getElem?_cons_zero]; rfl) (by kernel_rfl) (by kernel_rfl) (by kernel_rfl) (by exact fun _ _ _ h => h) (Or.inl ⟨by rfl, ?h87_9⟩) hHeld ?_
      case h87_9 => (intro w' hSw; obtain ⟨m, rfl⟩ := hSw; go_simp <;> with_reducible rfl)
      try simp only [Act.put, List.setIfInBounds_toArray, List.set_cons_zero, List.set_cons_succ]
      refine wpAnyH_done (by kernel_rfl) ?_ _
      go_wp2_with fail
      go_roundw
      case rel => exact ⟨k + 1, _, by omega, by go_num, rfl⟩
      case measure => simp [intOf]; omega
    · obtain rfl : k = n := by omega
      go_wp2_with fail
      go_ret
      exact ⟨rfl, q, rfl⟩
set_option maxHeartbeats 1000000 in
theorem small_any (A : Option Addr) (n c : Nat) (w : World) :
    Calls Try.prog 11 #[.slice A n c] w fun e w' => e = .returned (.bool (decide ((n : Int) ≤ 300))) ∧ w = w' := by
  go_enter Try.func11, Try.ntmps11
  go_wp2_with fail
  go_ret
  exact ⟨rfl, rfl⟩
theorem aw_sort : sortV [0, 9218868437227405312, 18442240474082181120, 4607182418800017408] = [18442240474082181120, 0, 4607182418800017408, 9218868437227405312] := by
  exact (sortV_one (by decide) (by decide) (by decide +kernel)).symm
theorem aw_flip : flipV 9218868437227405312 = 18442240474082181120 := by unfold flipV; decide
theorem aw_cn : cn 9218868437227405312 = 9218868437227405312 := by decide
attribute [local go_sem] run_neg_float
set_option maxHeartbeats 4000000 in
theorem awake_any  (w : World) :
    Calls Try.prog 12 #[] w fun e w' => e = .returned (.bool true) ∧ Below w.heap.size w w' := by
  have t1 : (FloatKind.f64.format.order 18442240474082181120 18442240474082181120 == some .eq) = true := by decide
  have t2 : (FloatKind.f64.format.order 9218868437227405312 9218868437227405312 == some .eq) = true := by decide
  have t4 := aw_flip
  have t3 : (cmpN (keyV 4607182418800017408) (keyV 4611686018427387904) == -1) = true := by decide +kernel
  go_enter Try.func12, Try.ntmps12
  go_wp2_with fail
  refine (rfrom_any 9218868437227405312 _ (by omega)).mono ?_
  rintro e w' ⟨rfl, rfl⟩
  rw [aw_cn]
  go_wp2_with fail
  refine (sort_any _ 4 4 [0, 9218868437227405312, 18442240474082181120, 4607182418800017408] _ (IsNums.lit w 27 [0, 9218868437227405312, 18442240474082181120, 4607182418800017408] (by simp) (by simp)) (by omega)).mono ?_
  rintro e w1 ⟨A1, c1, rfl, hI, hb1⟩
  rw [aw_sort] at hI
  have HB : Below w.heap.size w w1 := ((Below.refl _ _).alloc (Nat.le_refl _) _).trans (hb1.mono (by simp))
  clear hb1
  obtain ⟨ad, rfl⟩ := nums_ad hI (by omega)
  have d0 := nums_cell hI (j := 0) (by omega)
  have d3 := nums_cell hI (j := 3) (by omega)
  rw [add_zero_, show [18442240474082181120, 0, 4607182418800017408, 9218868437227405312].getD 0 0 = 18442240474082181120 from rfl] at d0
  rw [add_succ_ ad 2, show [18442240474082181120, 0, 4607182418800017408, 9218868437227405312].getD (2 + 1) 0 = 9218868437227405312 from rfl] at d3
  clear hI
  go_wp2_with fail
  refine (min_none _ _ _).mono ?_
  rintro e w' ⟨rfl, rfl⟩
  go_wp2_with fail
  refine (cmp_any _ _ _ (by show (_ : Nat) < _; omega) (by show (_ : Nat) < _; omega)).mono ?_
  rintro e w' ⟨rfl, rfl⟩
  go_wp2_with fail
  go_ret
  exact ⟨rfl, HB⟩
end Go.Proofs.Yteekeoenbackcaa.So
