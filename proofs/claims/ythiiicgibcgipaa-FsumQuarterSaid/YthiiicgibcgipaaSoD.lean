/- Contract of the reference Sort: what it returns, for every list of numbers. -/
import Derived.Test.YthiiicgibcgipaaSoB
import Derived.BigRegion
import Derived.RegionTactic
import Derived.IntWalk
namespace Go.Proofs.Ythiiicgibcgipaa.So
set_option linter.unusedSimpArgs false
set_option linter.unusedVariables false
open Go.RowKit Go.Sort Go.Lib Fl Fb
attribute [local go_sem] u64_unsigned

theorem run_storeF (P : Program) (w : World) (a : Addr) (m : Mode) (b : Nat) : (store a (.float .f64 b) m).run P w = stored P w a (.float .f64 b) m := run_store P w a _ m rfl
attribute [local go_sem] run_storeF
theorem getD_cell {w : World} {base g n cap : Nat} {e : TypeId} {ys : List Nat} (h : w.ownsRow base e 1 (.slice (some ⟨g, 0, none⟩) n cap) n (ys.map (Value.float .f64))) {j : Nat} (hj : j < n) : w.cell? ⟨g, j, none⟩ = some (.float .f64 (ys.getD j 0)) := by
  have hl : ys.length = n := by have := h.1; rw [List.length_map] at this; omega
  rw [h.cellAt j (by omega), List.getElem?_map, List.getD_eq_getElem?_getD, List.getElem?_eq_getElem (by omega)]
  rfl
theorem getD_lt {ys : List Nat} (h : ∀ x ∈ ys, x < 18446744073709551616) (j : Nat) : lt64 (ys.getD j 0) := by
  rw [List.getD_eq_getElem?_getD]
  cases hj : ys[j]? with
  | none => show (0 : Nat) < _; omega
  | some x => exact h x (List.mem_of_getElem? hj)
theorem swp_store {w : World} {base g n cap : Nat} {e : TypeId} {ys : List Nat} {k : Nat} (h : w.ownsRow base e 1 (.slice (some ⟨g, 0, none⟩) n cap) n (ys.map (Value.float .f64))) :
    ((w.setCell ⟨g, k, none⟩ (.float .f64 (ys.getD (k - 1) 0))).setCell ⟨g, k - 1, none⟩ (.float .f64 (ys.getD k 0))).ownsRow base e 1 (.slice (some ⟨g, 0, none⟩) n cap) n ((swp ys k).map (Value.float .f64)) ∧ w.grownBy ((w.setCell ⟨g, k, none⟩ (.float .f64 (ys.getD (k - 1) 0))).setCell ⟨g, k - 1, none⟩ (.float .f64 (ys.getD k 0))) (some g) := by
  obtain ⟨h1, g1⟩ := h.stored k (.float .f64 (ys.getD (k - 1) 0))
  obtain ⟨h2, g2⟩ := h1.stored (k - 1) (.float .f64 (ys.getD k 0))
  refine ⟨?_, ⟨g2.os.trans g1.os, g2.tape.trans g1.tape, g2.output.trans g1.output, Nat.le_trans g1.size g2.size, fun i hi hn => (g2.block i (Nat.lt_of_lt_of_le hi g1.size) hn).trans (g1.block i hi hn)⟩⟩
  unfold swp
  rw [List.map_set, List.map_set]
  exact h2
set_option maxHeartbeats 1000000 in
theorem rsort_zero (A : Option Addr) (n c : Nat) (l : List Nat) (w : World) (h : IsNums w A n c l) (h0 : n = 0) :
    Calls Try.prog 27 #[.slice A 0 c] w fun e w' => ∃ A' c' rs, e = .returned (.slice A' 0 c') ∧ IsNums w' A' 0 c' rs ∧ rs.map cn = sortV l ∧ rs.Perm l ∧ Below w.heap.size w w' := by
  subst h0
  have hl := h.len
  obtain rfl : l = [] := List.eq_nil_of_length_eq_zero hl
  obtain ⟨i0, hi, hz0, hz1, hz2⟩ := info_parts infoF
  go_enter Try.func27, Try.ntmps27
  go_wp2_with (at_builtin; go_must (refine wpList_appN _ rfl _ _ 24 rfl w.heap.size 25 i0 (.float .f64 0) 8 Try.underlying24 hi hz0 hz1 hz2 rfl _ 0 [] (by rfl) (by exact World.ownsRow_lit w #[] 0 (Nat.le_refl _) (by decide) rfl) w.heap.size A 0 c [] (by rfl) rfl (by exact Rd.nil _ _ _) (by simp) (by omega) (by omega) (by simp) ?_); intro v1 w1 hO1 hG1)
  have HB : Below w.heap.size w w1 := ((Below.refl _ _).alloc (Nat.le_refl _) _).grown hG1 (by simp) (fun g hg => Nat.le_of_eq (Option.some.inj (show some w.heap.size = some g from hg)))
  obtain ⟨A2, c2, rfl, hI⟩ := nums_of_own (l := []) (n := 0) (by simpa using hO1) (by simp)
  clear hO1 hG1
  go_wp2_with fail
  go_loopw [4, 5] (fun i _ wr => i = .int .i64 1 ∧ wr = w1) (fun _ _ _ => 0)
  case atStart => exact ⟨rfl, rfl⟩
  case round =>
    obtain ⟨rfl, rfl⟩ := hrel
    go_wp2_with fail
    go_ret
    exact ⟨_, _, [], rfl, hI, by unfold sortV; simp, List.Perm.refl _, HB⟩
set_option maxRecDepth 100000 in
set_option maxHeartbeats 8000000 in
theorem rsort_some (A : Option Addr) (n c : Nat) (l : List Nat) (w : World) (h : IsNums w A n c l) (h0 : 0 < n) (hn : n ≤ 1000) :
    Calls Try.prog 27 #[.slice A n c] w fun e w' => ∃ A' c' rs, e = .returned (.slice A' n c') ∧ IsNums w' A' n c' rs ∧ rs.map cn = sortV l ∧ rs.Perm l ∧ Below w.heap.size w w' := by
  have hl := h.len
  obtain ⟨i0, hi, hz0, hz1, hz2⟩ := info_parts infoF
  go_enter Try.func27, Try.ntmps27
  go_wp2_with (at_builtin; go_must (refine wpList_appN _ rfl _ _ 24 rfl w.heap.size 25 i0 (.float .f64 0) 8 Try.underlying24 hi hz0 hz1 hz2 rfl _ 0 [] (by rfl) (by exact World.ownsRow_lit w #[] 0 (Nat.le_refl _) (by decide) rfl) w.heap.size A n c (l.map (Value.float .f64)) (by rfl) (by simp [hl]) (by exact (h.rd.alloc (Nat.le_refl _) _)) one_float (by omega) (by omega) (by simp) ?_); intro v1 w1 hO1 hG1)
  have HB : Below w.heap.size w w1 := ((Below.refl _ _).alloc (Nat.le_refl _) _).grown hG1 (by simp) (fun g hg => Nat.le_of_eq (Option.some.inj (show some w.heap.size = some g from hg)))
  rw [Nat.zero_add, List.nil_append] at hO1
  obtain ⟨g, cap, rfl, hgb, _⟩ := hO1.form h0
  clear hG1
  go_wp2_with fail
  go_loopw [4, 5] (fun vi _ wr => ∃ (i : Nat) (ys : List Nat), i ≤ n ∧ 0 < i ∧ vi = .int .i64 i ∧ wr.ownsRow w.heap.size 25 1 (.slice (some ⟨g, 0, none⟩) n cap) n (ys.map (Value.float .f64)) ∧ Below w.heap.size w wr ∧ ys.Perm l ∧ Hid (Srt i ys)) (fun vi _ _ => n - (intOf vi).toNat)
  case atStart => exact ⟨1, l, by omega, by omega, rfl, hO1, HB, List.Perm.refl _, Srt.start _⟩
  case round =>
    obtain ⟨i, ys, hi1, hi2, rfl, hO, hW, hp, hS⟩ := hrel
    obtain ⟨wo, rfl⟩ : ∃ wo : World, wo = wr := ⟨_, rfl⟩
    clear hO1 HB
    by_cases hlt : i < n
    · go_wp2_with fail
      go_loopw [5] (fun vk wr => ∃ (k : Nat) (ys : List Nat), k ≤ i ∧ vk = .int .i64 k ∧ wr.ownsRow w.heap.size 25 1 (.slice (some ⟨g, 0, none⟩) n cap) n (ys.map (Value.float .f64)) ∧ Below w.heap.size w wr ∧ ys.Perm l ∧ Hid (Ins k i ys)) (fun vk _ => (intOf vk).toNat)
      case atStart => exact ⟨i, ys, Nat.le_refl _, rfl, hO, hW, hp, hS.out.ins⟩
      case round =>
        clear hO hW hp hS
        obtain ⟨k, ys, hk, rfl, hO, hW, hp, hS⟩ := hrel
        obtain ⟨W, rfl⟩ : ∃ W : World, W = wr := ⟨_, rfl⟩
        have hys : ys.length = n := by rw [hp.length_eq]; exact hl
        by_cases hk0 : k = 0
        · subst hk0
          go_wp2_with fail
          refine wp_region_held_drew (S := Drawn W) (by kernel_rfl) (by first | exact Drawn.of _ _ | exact Drawn.one _) (fun hHeld => ?_)
          refine wpAnyH_take (i := 0) (v := ?v1_0) (by simp only [List.getElem?_toArray, List.getElem?_cons_succ, List.getElem?_cons_zero]; rfl) (by kernel_rfl) (by kernel_rfl) (by kernel_rfl) (by exact fun _ _ _ h => h) (Or.inl ⟨by rfl, ?h1_0⟩) hHeld ?_
          case h1_0 => (intro w' hSw; obtain ⟨m, rfl⟩ := hSw; go_simp <;> with_reducible rfl)
          try simp only [Act.put, List.setIfInBounds_toArray, List.set_cons_zero, List.set_cons_succ]
          refine wpAnyH_take (i := 1) (v := ?v2_1) (by simp only [List.getElem?_toArray, List.getElem?_cons_succ, List.getElem?_cons_zero]; rfl) (by kernel_rfl) (by kernel_rfl) (by kernel_rfl) (by exact fun _ _ _ h => h) (Or.inl ⟨by rfl, ?h2_1⟩) hHeld ?_
          case h2_1 => (intro w' hSw; obtain ⟨m, rfl⟩ := hSw; go_simp <;> with_reducible rfl)
          try simp only [Act.put, List.setIfInBounds_toArray, List.set_cons_zero, List.set_cons_succ]
          refine wpAnyH_take (i := 2) (v := ?v3_2) (by simp only [List.getElem?_toArray, List.getElem?_cons_succ, List.getElem?_cons_zero]; rfl) (by kernel_rfl) (by kernel_rfl) (by kernel_rfl) (by exact fun _ _ _ h => h) (Or.inl ⟨by rfl, ?h3_2⟩) hHeld ?_
          case h3_2 => (intro w' hSw; obtain ⟨m, rfl⟩ := hSw; go_simp <;> with_reducible rfl)
          try simp only [Act.put, List.setIfInBounds_toArray, List.set_cons_zero, List.set_cons_succ]
          refine wpAnyH_take (i := 3) (v := undef) (by simp only [List.getElem?_toArray, List.getElem?_cons_succ, List.getElem?_cons_zero]; rfl) (by kernel_rfl) (by kernel_rfl) (by kernel_rfl) (by exact fun _ _ _ h => h) (Or.inr ⟨by rfl, rfl⟩) hHeld ?_
          try simp only [Act.put, List.setIfInBounds_toArray, List.set_cons_zero, List.set_cons_succ]
          refine wpAnyH_take (i := 4) (v := undef) (by simp only [List.getElem?_toArray, List.getElem?_cons_succ, List.getElem?_cons_zero]; rfl) (by kernel_rfl) (by kernel_rfl) (by kernel_rfl) (by exact fun _ _ _ h => h) (Or.inr ⟨by rfl, rfl⟩) hHeld ?_
          try simp only [Act.put, List.setIfInBounds_toArray, List.set_cons_zero, List.set_cons_succ]
          refine wpAnyH_take (i := 5) (v := undef) (by simp only [List.getElem?_toArray, List.getElem?_cons_succ, List.getElem?_cons_zero]; rfl) (by kernel_rfl) (by kernel_rfl) (by kernel_rfl) (by exact fun _ _ _ h => h) (Or.inr ⟨by rfl, rfl⟩) hHeld ?_
          try simp only [Act.put, List.setIfInBounds_toArray, List.set_cons_zero, List.set_cons_succ]
          refine wpAnyH_take (i := 6) (v := undef) (by simp only [List.getElem?_toArray, List.getElem?_cons_succ, List.getElem?_cons_zero]; rfl) (by kernel_rfl) (by kernel_rfl) (by kernel_rfl) (by exact fun _ _ _ h => h) (Or.inr ⟨by rfl, rfl⟩) hHeld ?_
          try simp only [Act.put, List.setIfInBounds_toArray, List.set_cons_zero, List.set_cons_succ]
          refine wpAnyH_take (i := 7) (v := undef) (by simp only [List.getElem?_toArray, List.getElem?_cons_succ, List.getElem?_cons_zero]; rfl) (by kernel_rfl) (by kernel_rfl) (by kernel_rfl) (by exact fun _ _ _ h => h) (Or.inr ⟨by rfl, rfl⟩) hHeld ?_
          try simp only [Act.put, List.setIfInBounds_toArray, List.set_cons_zero, List.set_cons_succ]
          refine wpAnyH_take (i := 8) (v := undef) (by simp only [List.getElem?_toArray, List.getElem?_cons_succ, List.getElem?_cons_zero]; rfl) (by kernel_rfl) (by kernel_rfl) (by kernel_rfl) (by exact fun _ _ _ h => h) (Or.inr ⟨by rfl, rfl⟩) hHeld ?_
          try simp only [Act.put, List.setIfInBounds_toArray, List.set_cons_zero, List.set_cons_succ]
          refine wpAnyH_take (i := 9) (v := undef) (by simp only [List.getElem?_toArray, List.getElem?_cons_succ, List.getElem?_cons_zero]; rfl) (by kernel_rfl) (by kernel_rfl) (by kernel_rfl) (by exact fun _ _ _ h => h) (Or.inr ⟨by rfl, rfl⟩) hHeld ?_
          try simp only [Act.put, List.setIfInBounds_toArray, List.set_cons_zero, List.set_cons_succ]
          refine wpAnyH_take (i := 10) (v := undef) (by simp only [List.getElem?_toArray, List.getElem?_cons_succ, List.getElem?_cons_zero]; rfl) (by kernel_rfl) (by kernel_rfl) (by kernel_rfl) (by exact fun _ _ _ h => h) (Or.inr ⟨by rfl, rfl⟩) hHeld ?_
          try simp only [Act.put, List.setIfInBounds_toArray, List.set_cons_zero, List.set_cons_succ]
          refine wpAnyH_take (i := 11) (v := undef) (by simp only [List.getElem?_toArray, List.getElem?_cons_succ, List.getElem?_cons_zero]; rfl) (by kernel_rfl) (by kernel_rfl) (by kernel_rfl) (by exact fun _ _ _ h => h) (Or.inr ⟨by rfl, rfl⟩) hHeld ?_
          try simp only [Act.put, List.setIfInBounds_toArray, List.set_cons_zero, List.set_cons_succ]
          refine wpAnyH_take (i := 12) (v := undef) (by simp only [List.getElem?_toArray, List.getElem?_cons_succ, List.getElem?_cons_zero]; rfl) (by kernel_rfl) (by kernel_rfl) (by kernel_rfl) (by exact fun _ _ _ h => h) (Or.inr ⟨by rfl, rfl⟩) hHeld ?_
          try simp only [Act.put, List.setIfInBounds_toArray, List.set_cons_zero, List.set_cons_succ]
          refine wpAnyH_take (i := 13) (v := undef) (by simp only [List.getElem?_toArray, List.getElem?_cons_succ, List.getElem?_cons_zero]; rfl) (by kernel_rfl) (by kernel_rfl) (by kernel_rfl) (by exact fun _ _ _ h => h) (Or.inr ⟨by rfl, rfl⟩) hHeld ?_
          try simp only [Act.put, List.setIfInBounds_toArray, List.set_cons_zero, List.set_cons_succ]
          refine wpAnyH_take (i := 14) (v := ?v4_14) (by simp only [List.getElem?_toArray, List.getElem?_cons_succ, List.getElem?_cons_zero]; rfl) (by kernel_rfl) (by kernel_rfl) (by kernel_rfl) (by exact fun _ _ _ h => h) (Or.inl ⟨by rfl, ?h4_14⟩) hHeld ?_
          case h4_14 => (intro w' hSw; obtain ⟨m, rfl⟩ := hSw; go_simp <;> with_reducible rfl)
          try simp only [Act.put, List.setIfInBounds_toArray, List.set_cons_zero, List.set_cons_succ]
          refine wpAnyH_done (by kernel_rfl) ?_ _
          go_wp2_with fail
          go_roundw
          case rel => exact ⟨i + 1, ys, by omega, by omega, by go_num, hO, bdrew hW, hp, hS.out.stop0⟩
          case measure => simp [intOf]; omega
        · obtain ⟨j, rfl⟩ : ∃ j, k = j + 1 := ⟨k - 1, by omega⟩
          have hw : ∀ x ∈ ys, x < 18446744073709551616 := fun x hx => h.wf x (hp.mem_iff.1 hx)
          have hk1 := getD_lt hw (j + 1)
          have hk2 := getD_lt hw j
          have c1 := getD_cell hO (j := j + 1) (by omega)
          have c2 := getD_cell hO (j := j) (by omega)
          have j0 : (0 : Int) ≤ (j : Int) := by omega
          have j1 : (j : Int) + 1 < (n : Int) := by omega
          have j2 : (j : Int) < (n : Int) := by omega
          have j3 : (0 : Int) ≤ (j : Int) + 1 := by omega
          have j4 : (j : Int) + 1 ≤ 1000 := by omega
          obtain ⟨x, hx⟩ : ∃ x, ys.getD (j + 1) 0 = x := ⟨_, rfl⟩
          obtain ⟨y, hy⟩ : ∃ y, ys.getD j 0 = y := ⟨_, rfl⟩
          have hHO := Lib.hid hO
          have hFr := hO.frozenAt (j := j + 1)
          have hFr2 := hO.frozenAt (j := j)
          rw [hx] at hk1 c1
          rw [hy] at hk2 c2
          have HX := Lib.hid hx
          have HY := Lib.hid hy
          clear hx hy hO hys
          by_cases hlt2 : keyV x < keyV y
          · have t1 : decide (cmpN (keyV x) (keyV y) < 0) = true := decide_eq_true ((cmpN_neg _ _).2 hlt2)
            have HL := Lib.hid hlt2
            clear hlt2
            have jw : IntKind.i64.wrap (j : Int) = j := IntWalk.i64_in _ (by omega)
            go_wp2_with fail
            refine wp_region_held_drew (S := Drawn W) (by kernel_rfl) (by first | exact Drawn.of _ _ | exact Drawn.one _) (fun hHeld => ?_)
            refine wpAnyH_take (i := 0) (v := ?v5_0) (by simp only [List.getElem?_toArray, List.getElem?_cons_succ, List.getElem?_cons_zero]; rfl) (by kernel_rfl) (by kernel_rfl) (by kernel_rfl) (by exact fun _ _ _ h => h) (Or.inl ⟨by rfl, ?h5_0⟩) hHeld ?_
            case h5_0 => (intro w' hSw; obtain ⟨m, rfl⟩ := hSw; go_simp <;> with_reducible rfl)
            try simp only [Act.put, List.setIfInBounds_toArray, List.set_cons_zero, List.set_cons_succ]
            refine wpAnyH_take (i := 1) (v := ?v6_1) (by simp only [List.getElem?_toArray, List.getElem?_cons_succ, List.getElem?_cons_zero]; rfl) (by kernel_rfl) (by kernel_rfl) (by kernel_rfl) (by exact fun _ _ _ h => h) (Or.inl ⟨by rfl, ?h6_1⟩) hHeld ?_
            case h6_1 => (intro w' hSw; obtain ⟨m, rfl⟩ := hSw; go_simp <;> with_reducible rfl)
            try simp only [Act.put, List.setIfInBounds_toArray, List.set_cons_zero, List.set_cons_succ]
            refine wpAnyH_take (i := 2) (v := ?v7_2) (by simp only [List.getElem?_toArray, List.getElem?_cons_succ, List.getElem?_cons_zero]; rfl) (by kernel_rfl) (by kernel_rfl) (by kernel_rfl) (by exact fun _ _ _ h => h) (Or.inl ⟨by rfl, ?h7_2⟩) hHeld ?_
            case h7_2 => (intro w' hSw; obtain ⟨m, rfl⟩ := hSw; go_simp <;> with_reducible rfl)
            try simp only [Act.put, List.setIfInBounds_toArray, List.set_cons_zero, List.set_cons_succ]
            refine wpAnyH_take (i := 3) (v := ?v8_3) (by simp only [List.getElem?_toArray, List.getElem?_cons_succ, List.getElem?_cons_zero]; rfl) (by kernel_rfl) (by kernel_rfl) (by kernel_rfl) (by exact fun _ _ _ h => h) (Or.inl ⟨by rfl, ?h8_3⟩) hHeld ?_
            case h8_3 => (intro w' hSw; obtain ⟨m, rfl⟩ := hSw; go_simp <;> with_reducible rfl)
            try simp only [Act.put, List.setIfInBounds_toArray, List.set_cons_zero, List.set_cons_succ]
            refine wpAnyH_take (i := 4) (v := ?v9_4) (by simp only [List.getElem?_toArray, List.getElem?_cons_succ, List.getElem?_cons_zero]; rfl) (by kernel_rfl) (by kernel_rfl) (by kernel_rfl) (by exact fun _ _ _ h => h) (Or.inl ⟨by rfl, ?h9_4⟩) hHeld ?_
            case h9_4 => (intro w' hSw; obtain ⟨m, rfl⟩ := hSw; go_simp <;> with_reducible rfl)
            try simp only [Act.put, List.setIfInBounds_toArray, List.set_cons_zero, List.set_cons_succ]
            refine wpAnyH_take (i := 5) (v := ?v10_5) (by simp only [List.getElem?_toArray, List.getElem?_cons_succ, List.getElem?_cons_zero]; rfl) (by kernel_rfl) (by kernel_rfl) (by kernel_rfl) (by exact fun _ _ _ h => h) (Or.inl ⟨by rfl, ?h10_5⟩) hHeld ?_
            case h10_5 => (intro w' hSw; obtain ⟨m, rfl⟩ := hSw; go_simp <;> with_reducible rfl)
            try simp only [Act.put, List.setIfInBounds_toArray, List.set_cons_zero, List.set_cons_succ]
            refine wpAnyH_take (i := 6) (v := ?v11_6) (by simp only [List.getElem?_toArray, List.getElem?_cons_succ, List.getElem?_cons_zero]; rfl) (by kernel_rfl) (by kernel_rfl) (by kernel_rfl) (by exact fun _ _ _ h => h) (Or.inl ⟨by rfl, ?h11_6⟩) hHeld ?_
            case h11_6 => (intro w' hSw; obtain ⟨m, rfl⟩ := hSw; go_simp <;> with_reducible rfl)
            try simp only [Act.put, List.setIfInBounds_toArray, List.set_cons_zero, List.set_cons_succ]
            refine wpAnyH_take (i := 7) (v := ?v12_7) (by simp only [List.getElem?_toArray, List.getElem?_cons_succ, List.getElem?_cons_zero]; rfl) (by kernel_rfl) (by kernel_rfl) (by kernel_rfl) (by exact fun _ _ _ h => h) (Or.inl ⟨by rfl, ?h12_7⟩) hHeld ?_
            case h12_7 => (intro w' hSw; obtain ⟨m, rfl⟩ := hSw; go_simp <;> with_reducible rfl)
            try simp only [Act.put, List.setIfInBounds_toArray, List.set_cons_zero, List.set_cons_succ]
            refine wpAnyH_take (i := 8) (v := ?v13_8) (by simp only [List.getElem?_toArray, List.getElem?_cons_succ, List.getElem?_cons_zero]; rfl) (by kernel_rfl) (by kernel_rfl) (by kernel_rfl) (by exact fun _ _ _ h => h) (Or.inl ⟨by rfl, ?h13_8⟩) hHeld ?_
            case h13_8 => (intro w' hSw; obtain ⟨m, rfl⟩ := hSw; go_simp <;> with_reducible rfl)
            try simp only [Act.put, List.setIfInBounds_toArray, List.set_cons_zero, List.set_cons_succ]
            refine wpAnyH_take (i := 9) (v := ?v14_9) (by simp only [List.getElem?_toArray, List.getElem?_cons_succ, List.getElem?_cons_zero]; rfl) (by kernel_rfl) (by kernel_rfl) (by kernel_rfl) (by exact fun _ _ _ h => h) (Or.inl ⟨by rfl, ?h14_9⟩) hHeld ?_
            case h14_9 => (intro w' hSw; obtain ⟨m, rfl⟩ := hSw; go_simp <;> with_reducible rfl)
            try simp only [Act.put, List.setIfInBounds_toArray, List.set_cons_zero, List.set_cons_succ]
            refine wpAnyH_take (i := 10) (v := ?v15_10) (by simp only [List.getElem?_toArray, List.getElem?_cons_succ, List.getElem?_cons_zero]; rfl) (by kernel_rfl) (by kernel_rfl) (by kernel_rfl) (by exact fun _ _ _ h => h) (Or.inl ⟨by rfl, ?h15_10⟩) hHeld ?_
            case h15_10 => (intro w' hSw; obtain ⟨m, rfl⟩ := hSw; go_simp <;> with_reducible rfl)
            try simp only [Act.put, List.setIfInBounds_toArray, List.set_cons_zero, List.set_cons_succ]
            refine wpAnyH_take (i := 11) (v := ?v16_11) (by simp only [List.getElem?_toArray, List.getElem?_cons_succ, List.getElem?_cons_zero]; rfl) (by kernel_rfl) (by kernel_rfl) (by kernel_rfl) (by exact fun _ _ _ h => h) (Or.inl ⟨by rfl, ?h16_11⟩) hHeld ?_
            case h16_11 => (intro w' hSw; obtain ⟨m, rfl⟩ := hSw; go_simp <;> with_reducible rfl)
            try simp only [Act.put, List.setIfInBounds_toArray, List.set_cons_zero, List.set_cons_succ]
            refine wpAnyH_ready (rs := [12]) (by kernel_rfl) (by simp) ?_
            refine AllReadyH.cons (by simp only [List.getElem?_toArray, List.getElem?_cons_succ, List.getElem?_cons_zero]; rfl) (fun K hK => ?_) AllReadyH.nil
            go_simp
            refine (rcmp_any _ _ _ hk1 hk2).mono ?_
            rintro e w' ⟨rfl, rfl⟩
            go_simp
            refine hK.out _ _ ⟨_, rfl⟩ (fun hHeld2 => ?_)
            clear hK K hHeld
            rename Drawn _ _ => hHeld
            try simp only [Act.put, List.setIfInBounds_toArray, List.set_cons_zero, List.set_cons_succ]
            refine wpAnyH_take (i := 13) (v := ?v17_13) (by simp only [List.getElem?_toArray, List.getElem?_cons_succ, List.getElem?_cons_zero]; rfl) (by kernel_rfl) (by kernel_rfl) (by kernel_rfl) (by exact fun _ _ _ h => h) (Or.inl ⟨by rfl, ?h17_13⟩) hHeld ?_
            case h17_13 => (intro w' hSw; obtain ⟨m, rfl⟩ := hSw; go_simp <;> with_reducible rfl)
            try simp only [Act.put, List.setIfInBounds_toArray, List.set_cons_zero, List.set_cons_succ]
            refine wpAnyH_take (i := 14) (v := ?v18_14) (by simp only [List.getElem?_toArray, List.getElem?_cons_succ, List.getElem?_cons_zero]; rfl) (by kernel_rfl) (by kernel_rfl) (by kernel_rfl) (by exact fun _ _ _ h => h) (Or.inl ⟨by rfl, ?h18_14⟩) hHeld ?_
            case h18_14 => (intro w' hSw; obtain ⟨m, rfl⟩ := hSw; go_simp <;> with_reducible rfl)
            try simp only [Act.put, List.setIfInBounds_toArray, List.set_cons_zero, List.set_cons_succ]
            refine wpAnyH_done (by kernel_rfl) ?_ _
            clear jw
            go_wp2_with fail
            have jw : IntKind.i64.wrap (j : Int) = j := IntWalk.i64_in _ (by omega)
            go_region
            all_goals
              clear jw
              have hs := swp_store (k := j + 1) hHO.out
              rw [show j + 1 - 1 = j from rfl, HX.out, HY.out] at hs
              have HS2 := Lib.hid hs
              clear hs
              go_wp2_with fail
              go_roundw
              case rel => exact ⟨j, swp ys (j + 1), by omega, by go_num, HS2.out.1, (by have hb := hW.grown HS2.out.2 hW.size (fun g' hg' => by injection hg' with e; omega); exact ⟨hb.os, hb.tape, hb.output, hb.size, hb.block⟩), (swp_perm (by have := hp.length_eq; omega)).trans hp, hS.out.down hk (by have := hp.length_eq; omega) (by omega) (by have := HL.out; unfold ky; rw [show j + 1 - 1 = j from rfl, HX.out, HY.out]; omega)⟩
              case measure => simp [intOf] <;> omega
          · have t1 : decide (cmpN (keyV x) (keyV y) < 0) = false := decide_eq_false (fun hh => hlt2 ((cmpN_neg _ _).1 hh))
            have HL := Lib.hid hlt2
            clear hlt2
            have jw : IntKind.i64.wrap (j : Int) = j := IntWalk.i64_in _ (by omega)
            go_wp2_with fail
            refine wp_region_held_drew (S := Drawn W) (by kernel_rfl) (by first | exact Drawn.of _ _ | exact Drawn.one _) (fun hHeld => ?_)
            refine wpAnyH_take (i := 0) (v := ?v19_0) (by simp only [List.getElem?_toArray, List.getElem?_cons_succ, List.getElem?_cons_zero]; rfl) (by kernel_rfl) (by kernel_rfl) (by kernel_rfl) (by exact fun _ _ _ h => h) (Or.inl ⟨by rfl, ?h19_0⟩) hHeld ?_
            case h19_0 => (intro w' hSw; obtain ⟨m, rfl⟩ := hSw; go_simp <;> with_reducible rfl)
            try simp only [Act.put, List.setIfInBounds_toArray, List.set_cons_zero, List.set_cons_succ]
            refine wpAnyH_take (i := 1) (v := ?v20_1) (by simp only [List.getElem?_toArray, List.getElem?_cons_succ, List.getElem?_cons_zero]; rfl) (by kernel_rfl) (by kernel_rfl) (by kernel_rfl) (by exact fun _ _ _ h => h) (Or.inl ⟨by rfl, ?h20_1⟩) hHeld ?_
            case h20_1 => (intro w' hSw; obtain ⟨m, rfl⟩ := hSw; go_simp <;> with_reducible rfl)
            try simp only [Act.put, List.setIfInBounds_toArray, List.set_cons_zero, List.set_cons_succ]
            refine wpAnyH_take (i := 2) (v := ?v21_2) (by simp only [List.getElem?_toArray, List.getElem?_cons_succ, List.getElem?_cons_zero]; rfl) (by kernel_rfl) (by kernel_rfl) (by kernel_rfl) (by exact fun _ _ _ h => h) (Or.inl ⟨by rfl, ?h21_2⟩) hHeld ?_
            case h21_2 => (intro w' hSw; obtain ⟨m, rfl⟩ := hSw; go_simp <;> with_reducible rfl)
            try simp only [Act.put, List.setIfInBounds_toArray, List.set_cons_zero, List.set_cons_succ]
            refine wpAnyH_take (i := 3) (v := ?v22_3) (by simp only [List.getElem?_toArray, List.getElem?_cons_succ, List.getElem?_cons_zero]; rfl) (by kernel_rfl) (by kernel_rfl) (by kernel_rfl) (by exact fun _ _ _ h => h) (Or.inl ⟨by rfl, ?h22_3⟩) hHeld ?_
            case h22_3 => (intro w' hSw; obtain ⟨m, rfl⟩ := hSw; go_simp <;> with_reducible rfl)
            try simp only [Act.put, List.setIfInBounds_toArray, List.set_cons_zero, List.set_cons_succ]
            refine wpAnyH_take (i := 4) (v := ?v23_4) (by simp only [List.getElem?_toArray, List.getElem?_cons_succ, List.getElem?_cons_zero]; rfl) (by kernel_rfl) (by kernel_rfl) (by kernel_rfl) (by exact fun _ _ _ h => h) (Or.inl ⟨by rfl, ?h23_4⟩) hHeld ?_
            case h23_4 => (intro w' hSw; obtain ⟨m, rfl⟩ := hSw; go_simp <;> with_reducible rfl)
            try simp only [Act.put, List.setIfInBounds_toArray, List.set_cons_zero, List.set_cons_succ]
            refine wpAnyH_take (i := 5) (v := ?v24_5) (by simp only [List.getElem?_toArray, List.getElem?_cons_succ, List.getElem?_cons_zero]; rfl) (by kernel_rfl) (by kernel_rfl) (by kernel_rfl) (by exact fun _ _ _ h => h) (Or.inl ⟨by rfl, ?h24_5⟩) hHeld ?_
            case h24_5 => (intro w' hSw; obtain ⟨m, rfl⟩ := hSw; go_simp <;> with_reducible rfl)
            try simp only [Act.put, List.setIfInBounds_toArray, List.set_cons_zero, List.set_cons_succ]
            refine wpAnyH_take (i := 6) (v := ?v25_6) (by simp only [List.getElem?_toArray, List.getElem?_cons_succ, List.getElem?_cons_zero]; rfl) (by kernel_rfl) (by kernel_rfl) (by kernel_rfl) (by exact fun _ _ _ h => h) (Or.inl ⟨by rfl, ?h25_6⟩) hHeld ?_
            case h25_6 => (intro w' hSw; obtain ⟨m, rfl⟩ := hSw; go_simp <;> with_reducible rfl)
            try simp only [Act.put, List.setIfInBounds_toArray, List.set_cons_zero, List.set_cons_succ]
            refine wpAnyH_take (i := 7) (v := ?v26_7) (by simp only [List.getElem?_toArray, List.getElem?_cons_succ, List.getElem?_cons_zero]; rfl) (by kernel_rfl) (by kernel_rfl) (by kernel_rfl) (by exact fun _ _ _ h => h) (Or.inl ⟨by rfl, ?h26_7⟩) hHeld ?_
            case h26_7 => (intro w' hSw; obtain ⟨m, rfl⟩ := hSw; go_simp <;> with_reducible rfl)
            try simp only [Act.put, List.setIfInBounds_toArray, List.set_cons_zero, List.set_cons_succ]
            refine wpAnyH_take (i := 8) (v := ?v27_8) (by simp only [List.getElem?_toArray, List.getElem?_cons_succ, List.getElem?_cons_zero]; rfl) (by kernel_rfl) (by kernel_rfl) (by kernel_rfl) (by exact fun _ _ _ h => h) (Or.inl ⟨by rfl, ?h27_8⟩) hHeld ?_
            case h27_8 => (intro w' hSw; obtain ⟨m, rfl⟩ := hSw; go_simp <;> with_reducible rfl)
            try simp only [Act.put, List.setIfInBounds_toArray, List.set_cons_zero, List.set_cons_succ]
            refine wpAnyH_take (i := 9) (v := ?v28_9) (by simp only [List.getElem?_toArray, List.getElem?_cons_succ, List.getElem?_cons_zero]; rfl) (by kernel_rfl) (by kernel_rfl) (by kernel_rfl) (by exact fun _ _ _ h => h) (Or.inl ⟨by rfl, ?h28_9⟩) hHeld ?_
            case h28_9 => (intro w' hSw; obtain ⟨m, rfl⟩ := hSw; go_simp <;> with_reducible rfl)
            try simp only [Act.put, List.setIfInBounds_toArray, List.set_cons_zero, List.set_cons_succ]
            refine wpAnyH_take (i := 10) (v := ?v29_10) (by simp only [List.getElem?_toArray, List.getElem?_cons_succ, List.getElem?_cons_zero]; rfl) (by kernel_rfl) (by kernel_rfl) (by kernel_rfl) (by exact fun _ _ _ h => h) (Or.inl ⟨by rfl, ?h29_10⟩) hHeld ?_
            case h29_10 => (intro w' hSw; obtain ⟨m, rfl⟩ := hSw; go_simp <;> with_reducible rfl)
            try simp only [Act.put, List.setIfInBounds_toArray, List.set_cons_zero, List.set_cons_succ]
            refine wpAnyH_take (i := 11) (v := ?v30_11) (by simp only [List.getElem?_toArray, List.getElem?_cons_succ, List.getElem?_cons_zero]; rfl) (by kernel_rfl) (by kernel_rfl) (by kernel_rfl) (by exact fun _ _ _ h => h) (Or.inl ⟨by rfl, ?h30_11⟩) hHeld ?_
            case h30_11 => (intro w' hSw; obtain ⟨m, rfl⟩ := hSw; go_simp <;> with_reducible rfl)
            try simp only [Act.put, List.setIfInBounds_toArray, List.set_cons_zero, List.set_cons_succ]
            refine wpAnyH_ready (rs := [12]) (by kernel_rfl) (by simp) ?_
            refine AllReadyH.cons (by simp only [List.getElem?_toArray, List.getElem?_cons_succ, List.getElem?_cons_zero]; rfl) (fun K hK => ?_) AllReadyH.nil
            go_simp
            refine (rcmp_any _ _ _ hk1 hk2).mono ?_
            rintro e w' ⟨rfl, rfl⟩
            go_simp
            refine hK.out _ _ ⟨_, rfl⟩ (fun hHeld2 => ?_)
            clear hK K hHeld
            rename Drawn _ _ => hHeld
            try simp only [Act.put, List.setIfInBounds_toArray, List.set_cons_zero, List.set_cons_succ]
            refine wpAnyH_take (i := 13) (v := ?v31_13) (by simp only [List.getElem?_toArray, List.getElem?_cons_succ, List.getElem?_cons_zero]; rfl) (by kernel_rfl) (by kernel_rfl) (by kernel_rfl) (by exact fun _ _ _ h => h) (Or.inl ⟨by rfl, ?h31_13⟩) hHeld ?_
            case h31_13 => (intro w' hSw; obtain ⟨m, rfl⟩ := hSw; go_simp <;> with_reducible rfl)
            try simp only [Act.put, List.setIfInBounds_toArray, List.set_cons_zero, List.set_cons_succ]
            refine wpAnyH_take (i := 14) (v := ?v32_14) (by simp only [List.getElem?_toArray, List.getElem?_cons_succ, List.getElem?_cons_zero]; rfl) (by kernel_rfl) (by kernel_rfl) (by kernel_rfl) (by exact fun _ _ _ h => h) (Or.inl ⟨by rfl, ?h32_14⟩) hHeld ?_
            case h32_14 => (intro w' hSw; obtain ⟨m, rfl⟩ := hSw; go_simp <;> with_reducible rfl)
            try simp only [Act.put, List.setIfInBounds_toArray, List.set_cons_zero, List.set_cons_succ]
            refine wpAnyH_done (by kernel_rfl) ?_ _
            clear jw
            go_wp2_with fail
            go_roundw
            case rel => exact ⟨i + 1, ys, by omega, by omega, by go_num, hHO.out, bdrew hW, hp, hS.out.stop hk (by omega) (by have := HL.out; unfold ky; rw [show j + 1 - 1 = j by omega, HX.out, HY.out]; omega)⟩
            case measure => simp [intOf]; omega
    · obtain rfl : i = n := by omega
      go_wp2_with fail
      have hwf : ∀ x ∈ ys, x < 18446744073709551616 := fun x hx => h.wf x (hp.mem_iff.1 hx)
      have hlen : i = ys.length := by rw [hp.length_eq]; exact hl.symm
      have hsv := hS.out.all hlen hp h.wf
      obtain ⟨A2, c2, hv, hI⟩ := nums_of_own hO hwf
      injection hv with e1 e2 e3
      subst e1 e3
      go_ret
      exact ⟨_, _, ys, rfl, hI, hsv, hp, hW⟩
end Go.Proofs.Ythiiicgibcgipaa.So
