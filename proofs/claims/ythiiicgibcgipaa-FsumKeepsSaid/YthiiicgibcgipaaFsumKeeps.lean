/- FsumKeeps: the walk. For every list and every number the law returns true, and nothing that was there is written. No condition. -/
import Derived.Test.YthiiicgibcgipaaFq
namespace Go.Proofs.Ythiiicgibcgipaa.Fq
set_option linter.unusedSimpArgs false
set_option linter.unusedVariables false
open Go.RowKit Fl Fb Fs
attribute [local go_sem] and_sgn andNot_sgn xor_sgn xor_all run_neg_float u64_unsigned

def spreadX (l : List Nat) : Nat := if l.length = 0 then 0 else spreadV l
def spreadE (l : List Nat) : Int := if l.length = 0 then 14 else 0
theorem spread_any (A : Option Addr) (n c : Nat) (l : List Nat) (w : World) (hA : IsNums w A n c l) (hn : n ≤ 300) :
    Calls Try.prog 20 #[.slice A n c] w fun e w' => e = .returned (.tuple #[.float .f64 (spreadX l), .int .i64 (spreadE l)]) ∧ Below w.heap.size w w' := by
  have hl := hA.len
  unfold spreadX spreadE
  rw [hl]
  rcases Nat.eq_zero_or_pos n with h0 | h0
  · subst h0
    exact (spread_none A c w).mono fun e w' ⟨he, hw⟩ => ⟨he, hw ▸ Below.refl _ _⟩
  · rw [if_neg (show ¬ n = 0 by omega), if_neg (show ¬ n = 0 by omega)]
    exact spread_some A n c l w hA (by omega) (beq_eq_false_iff_ne.2 (by omega))
set_option maxHeartbeats 2000000 in
theorem keeps_long (A : Option Addr) (n c q : Nat) (w : World) (u1 : decide ((n : Int) ≤ 300) = false) :
    Calls Try.prog 11 #[.slice A n c, .float .f64 q] w fun e w' => e = .returned (.bool true) ∧ Below w.heap.size w w' := by
  go_enter Try.func11, Try.ntmps11
  go_wp2_with fail
  refine (small_any _ _ _ _).mono ?_
  rintro e w' ⟨rfl, rfl⟩
  go_wp2_with fail
  refine (awake_any _).mono ?_
  rintro e w1 ⟨rfl, hb⟩
  go_wp2_with fail
  go_ret
  exact ⟨rfl, hb⟩
set_option maxRecDepth 100000 in
set_option maxHeartbeats 8000000 in
theorem keeps_x (A : Option Addr) (n c q : Nat) (l : List Nat) (w : World) (hA : IsNums w A n c l) (hn : n ≤ 300) :
    Calls Try.prog 11 #[.slice A n c, .float .f64 q] w fun e w' => e = .returned (.bool true) ∧ Below w.heap.size w w' := by
  have u1 : decide ((n : Int) ≤ 300) = true := decide_eq_true (by omega)
  have hl := hA.len
  obtain ⟨i0, hi, hz0, hz1, hz2⟩ := info_parts infoF
  go_enter Try.func11, Try.ntmps11
  go_wp2_with fail
  refine (small_any _ _ _ _).mono ?_
  rintro e w' ⟨rfl, rfl⟩
  go_wp2_with (at_builtin; refine wpList_appN _ rfl (.tmp 24) (.tmp 25) 24 rfl w.heap.size 25 i0 (.float .f64 0) 8 Try.underlying24 hi hz0 hz1 hz2 rfl _ 0 [] (by rfl) (by exact World.ownsRow_lit w #[] 0 (Nat.le_refl _) (by decide) rfl) w.heap.size A n c (l.map (Value.float .f64)) (by rfl) (by simp [hl]) (by exact (hA.rd.alloc (Nat.le_refl _) _)) one_float (by omega) (by omega) (by first | simp | exact HW1.size) ?_; intro v1 w1 hO1 hG1; have HW1 : Go.RowKit.Below w.heap.size w w1 := ((Below.refl _ _).alloc (Nat.le_refl _) _).grown hG1 (by simp) (fun g hg => Nat.le_of_eq (Option.some.inj (show some w.heap.size = some g from hg))))
  rw [show 0 + n = n by omega, List.nil_append] at hO1
  obtain ⟨A3, c3, rfl, hC1⟩ := nums_of_own hO1 hA.wf
  have hA1 := hA.next HW1
  clear hO1 hG1 hA
  go_wp2_with fail
  refine (sum_any _ _ _ _ _ hC1 (by omega)).mono ?_
  rintro e w2 ⟨rfl, hb⟩
  have HW2 := HW1.trans (hb.mono HW1.size)
  have hC2 := hC1.next hb
  have hA2 := hA1.next hb
  clear HW1 hC1 hA1 hb
  go_wp2_with fail
  refine (quant_any _ _ _ q l _ hC2 hn).mono ?_
  rintro e w3 ⟨⟨r1, rfl, h1⟩, hb⟩
  have HW3 := HW2.trans (hb.mono HW2.size)
  have hC3 := hC2.next hb
  have hA3 := hA2.next hb
  clear HW2 hC2 hA2 hb
  go_wp2_with fail
  refine (spread_any _ _ _ _ _ hC3 hn).mono ?_
  rintro e w4 ⟨rfl, hb⟩
  have HW4 := HW3.trans (hb.mono HW3.size)
  have hC4 := hC3.next hb
  have hA4 := hA3.next hb
  clear HW3 hC3 hA3 hb
  go_wp2_with fail
  refine (dot_even _ _ _ _ _ _ _ _ hC4 hC4 (by omega)).mono ?_
  rintro e w5 ⟨rfl, hb⟩
  have HW5 := HW4.trans (hb.mono HW4.size)
  have hC5 := hC4.next hb
  have hA5 := hA4.next hb
  clear HW4 hC4 hA4 hb
  go_wp2_with fail
  go_loopw [13] (fun v wr => ∃ (i m : Nat), i ≤ n ∧ v = .int .i64 i ∧ wr = w5.drewN m) (fun v _ => n - (intOf v).toNat)
  case atStart => exact ⟨0, 0, Nat.zero_le _, rfl, rfl⟩
  case round =>
  obtain ⟨i, m, hi', rfl, rfl⟩ := hrel
  by_cases hlt : i < n
  · obtain ⟨ad, rfl⟩ := nums_ad hC5 (by omega)
    obtain ⟨ad2, rfl⟩ := nums_ad hA5 (by omega)
    have cc := nums_cell hC5 hlt
    have cd := nums_cell hA5 hlt
    obtain ⟨y, hy⟩ : ∃ y, l.getD i 0 = y := ⟨_, rfl⟩
    rw [hy] at cc cd
    have sy := sameB_yes (rfl : cn y = cn y)
    have y0 : (0 : Int) ≤ (i : Int) := by omega
    have y1 : (i : Int) < (n : Int) := by omega
    clear hy
    go_wp2_with fail
    refine wp_region_held_drew (S := Drawn w5) (by kernel_rfl) (by first | exact Drawn.of _ _ | exact Drawn.one _) (fun hHeld => ?_)
    refine wpAnyH_take (i := 0) (v := ?v1_0) (by simp only [List.getElem?_toArray, List.getElem?_cons_succ, List.getElem?_cons_zero]; rfl) (by kernel_rfl) (by kernel_rfl) (by kernel_rfl) (by exact fun _ _ _ h => h) (Or.inl ⟨by rfl, ?h1_0⟩) hHeld ?_
    case h1_0 => (intro w' hSw; obtain ⟨m, rfl⟩ := hSw; go_simp <;> with_reducible rfl)
    try simp only [Act.put, List.setIfInBounds_toArray, List.set_cons_zero, List.set_cons_succ]
    refine wpAnyH_take (i := 1) (v := ?v2_1) (by simp only [List.getElem?_toArray, List.getElem?_cons_succ, List.getElem?_cons_zero]; rfl) (by kernel_rfl) (by kernel_rfl) (by kernel_rfl) (by exact fun _ _ _ h => h) (Or.inl ⟨by rfl, ?h2_1⟩) hHeld ?_
    case h2_1 => (intro w' hSw; obtain ⟨m, rfl⟩ := hSw; go_simp <;> with_reducible rfl)
    try simp only [Act.put, List.setIfInBounds_toArray, List.set_cons_zero, List.set_cons_succ]
    refine wpAnyH_take (i := 2) (v := ?v3_2) (by simp only [List.getElem?_toArray, List.getElem?_cons_succ, List.getElem?_cons_zero]; rfl) (by kernel_rfl) (by kernel_rfl) (by kernel_rfl) (by exact fun _ _ _ h => h) (Or.inl ⟨by rfl, ?h3_2⟩) hHeld ?_
    case h3_2 => (intro w' hSw; obtain ⟨m, rfl⟩ := hSw; go_simp <;> with_reducible rfl)
    try simp only [Act.put, List.setIfInBounds_toArray, List.set_cons_zero, List.set_cons_succ]
    refine wpAnyH_take (i := 3) (v := ?v4_3) (by simp only [List.getElem?_toArray, List.getElem?_cons_succ, List.getElem?_cons_zero]; rfl) (by kernel_rfl) (by kernel_rfl) (by kernel_rfl) (by exact fun _ _ _ h => h) (Or.inl ⟨by rfl, ?h4_3⟩) hHeld ?_
    case h4_3 => (intro w' hSw; obtain ⟨m, rfl⟩ := hSw; go_simp <;> with_reducible rfl)
    try simp only [Act.put, List.setIfInBounds_toArray, List.set_cons_zero, List.set_cons_succ]
    refine wpAnyH_take (i := 4) (v := ?v5_4) (by simp only [List.getElem?_toArray, List.getElem?_cons_succ, List.getElem?_cons_zero]; rfl) (by kernel_rfl) (by kernel_rfl) (by kernel_rfl) (by exact fun _ _ _ h => h) (Or.inl ⟨by rfl, ?h5_4⟩) hHeld ?_
    case h5_4 => (intro w' hSw; obtain ⟨m, rfl⟩ := hSw; go_simp <;> with_reducible rfl)
    try simp only [Act.put, List.setIfInBounds_toArray, List.set_cons_zero, List.set_cons_succ]
    refine wpAnyH_take (i := 5) (v := ?v6_5) (by simp only [List.getElem?_toArray, List.getElem?_cons_succ, List.getElem?_cons_zero]; rfl) (by kernel_rfl) (by kernel_rfl) (by kernel_rfl) (by exact fun _ _ _ h => h) (Or.inl ⟨by rfl, ?h6_5⟩) hHeld ?_
    case h6_5 => (intro w' hSw; obtain ⟨m, rfl⟩ := hSw; go_simp <;> with_reducible rfl)
    try simp only [Act.put, List.setIfInBounds_toArray, List.set_cons_zero, List.set_cons_succ]
    refine wpAnyH_take (i := 6) (v := ?v7_6) (by simp only [List.getElem?_toArray, List.getElem?_cons_succ, List.getElem?_cons_zero]; rfl) (by kernel_rfl) (by kernel_rfl) (by kernel_rfl) (by exact fun _ _ _ h => h) (Or.inl ⟨by rfl, ?h7_6⟩) hHeld ?_
    case h7_6 => (intro w' hSw; obtain ⟨m, rfl⟩ := hSw; go_simp <;> with_reducible rfl)
    try simp only [Act.put, List.setIfInBounds_toArray, List.set_cons_zero, List.set_cons_succ]
    refine wpAnyH_take (i := 7) (v := ?v8_7) (by simp only [List.getElem?_toArray, List.getElem?_cons_succ, List.getElem?_cons_zero]; rfl) (by kernel_rfl) (by kernel_rfl) (by kernel_rfl) (by exact fun _ _ _ h => h) (Or.inl ⟨by rfl, ?h8_7⟩) hHeld ?_
    case h8_7 => (intro w' hSw; obtain ⟨m, rfl⟩ := hSw; go_simp <;> with_reducible rfl)
    try simp only [Act.put, List.setIfInBounds_toArray, List.set_cons_zero, List.set_cons_succ]
    refine wpAnyH_ready (rs := [8]) (by kernel_rfl) (by simp) ?_
    refine AllReadyH.cons (by simp only [List.getElem?_toArray, List.getElem?_cons_succ, List.getElem?_cons_zero]; rfl) (fun K hK => ?_) AllReadyH.nil
    go_simp
    refine (rsame_any _ _ _).mono ?_
    rintro e w' ⟨rfl, rfl⟩
    go_simp
    refine hK.out _ _ ⟨_, rfl⟩ (fun hHeld2 => ?_)
    clear hK K hHeld
    rename Drawn _ _ => hHeld
    try simp only [Act.put, List.setIfInBounds_toArray, List.set_cons_zero, List.set_cons_succ]
    refine wpAnyH_take (i := 9) (v := ?v9_9) (by simp only [List.getElem?_toArray, List.getElem?_cons_succ, List.getElem?_cons_zero]; rfl) (by kernel_rfl) (by kernel_rfl) (by kernel_rfl) (by exact fun _ _ _ h => h) (Or.inl ⟨by rfl, ?h9_9⟩) hHeld ?_
    case h9_9 => (intro w' hSw; obtain ⟨m, rfl⟩ := hSw; go_simp <;> with_reducible rfl)
    try simp only [Act.put, List.setIfInBounds_toArray, List.set_cons_zero, List.set_cons_succ]
    refine wpAnyH_done (by kernel_rfl) ?_ _
    go_wp2_with fail
    go_roundw
    case rel => exact ⟨i + 1, _, by omega, by go_num, rfl⟩
    case measure => simp [intOf]; omega
  · obtain rfl : i = n := by omega
    have HWx := bdrewN HW5 m
    obtain ⟨wz, hwz⟩ : ∃ wz, w5.drewN m = wz := ⟨_, rfl⟩
    have hCz : IsNums wz A3 i c3 l := by rw [← hwz]; exact hC5.next (bdrewN (Go.RowKit.Below.refl _ _) m)
    rw [hwz] at HWx
    rw [hwz]
    clear hwz HW5 hC5 hA5
    go_wp2_with fail
    refine (quant_any _ _ _ q l _ hCz hn).mono ?_
    rintro e wz1 ⟨⟨r2, rfl, h2⟩, hb⟩
    have HWz1 := HWx.trans (hb.mono HWx.size)
    have hCz1 := hCz.next hb
    clear HWx hCz hb
    go_wp2_with fail
    refine (spread_any _ _ _ _ _ hCz1 hn).mono ?_
    rintro e wz2 ⟨rfl, hb⟩
    have HWz2 := HWz1.trans (hb.mono HWz1.size)
    have hCz2 := hCz1.next hb
    clear HWz1 hCz1 hb
    go_wp2_with fail
    refine (dot_even _ _ _ _ _ _ _ _ hCz2 hCz2 (by omega)).mono ?_
    rintro e wz3 ⟨rfl, hb⟩
    have HWz3 := HWz2.trans (hb.mono HWz2.size)
    have hCz3 := hCz2.next hb
    clear HWz2 hCz2 hb
    have hs : sameB r1 r2 = true := sameB_yes (by rw [h1, h2])
    clear h1 h2
    have s1 := sameB_yes (rfl : cn (sumV l) = cn (sumV l))
    have s2 := sameB_yes (rfl : cn (spreadX l) = cn (spreadX l))
    have s3 := sameB_yes (rfl : cn (dotV l l) = cn (dotV l l))
    generalize quantE l q = E
    go_wp2_with fail
    refine (sum_any _ _ _ _ _ hCz3 (by omega)).mono ?_
    rintro e wz4 ⟨rfl, hb⟩
    have HWz4 := HWz3.trans (hb.mono HWz3.size)
    have hCz4 := hCz3.next hb
    clear HWz3 hCz3 hb
    generalize sumV l = S at *
    generalize spreadX l = T at *
    generalize dotV l l = U at *
    generalize spreadE l = V at *
    go_wp2_with (go_at_call 17; refine (rsame_any _ _ _).mono ?_; rintro e w' ⟨rfl, rfl⟩)
    refine (awake_any _).mono ?_
    rintro e wl ⟨rfl, hb⟩
    have HWl := HWz4.trans (hb.mono HWz4.size)
    go_wp2_with fail
    go_ret
    exact ⟨rfl, HWl⟩
theorem keeps_walk (A : Option Addr) (n c : Nat) (l : List Nat) (q : Nat) (w : World) (hA : IsNums w A n c l) (hq : (Lit.float .f64 q).wf = true) :
    Calls Try.prog 11 #[.slice A n c, .float .f64 q] w fun e w' => e = .returned (.bool true) ∧ Below w.heap.size w w' := by
  rcases Nat.lt_or_ge 300 n with h1 | h1
  · exact keeps_long A n c q w (decide_eq_false (by omega))
  · exact keeps_x A n c q l w hA h1
end Go.Proofs.Ythiiicgibcgipaa.Fq
