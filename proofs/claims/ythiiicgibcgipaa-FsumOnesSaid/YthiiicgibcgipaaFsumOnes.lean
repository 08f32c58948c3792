/- FsumOnes: the walk. For every list of numbers the law returns true, and nothing that was there is written. No condition. -/
import Derived.Test.YthiiicgibcgipaaFsG
import Derived.Test.YthiiicgibcgipaaFlX
import Derived.Laws.MakeOwn
import Derived.Laws.Entries
namespace Go.Proofs.Ythiiicgibcgipaa.Fs
set_option linter.unusedSimpArgs false
set_option linter.unusedVariables false
open Go.RowKit Fl Fb
attribute [local go_sem] and_sgn andNot_sgn xor_sgn xor_all run_neg_float u64_unsigned

theorem run_storeF (P : Program) (w : World) (a : Addr) (m : Mode) (b : Nat) : (store a (.float .f64 b) m).run P w = stored P w a (.float .f64 b) m := run_store P w a _ m rfl
attribute [local go_sem] run_storeF
theorem o_sub_fin {x : Nat} (h : rg x < 9218868437227405312) (W : World) : fR .sub x x W = 0 := by
  have e : fop .sub x x = 0 := by
    rw [fsub_add]
    obtain ⟨r, h1, h2⟩ := fadd_fin h (show rg (flipV x) < 9218868437227405312 by rw [flip_rg]; exact h)
    have hs : su (flipV x) = - su x := by unfold flipV; exact neg_su x
    rw [hs, show su x + -su x = 0 by omega, flip_ng] at h1
    rw [hs, show su x + -su x = 0 by omega] at h2
    have : r = 0 := isR_at (by omega) (by omega) (by rw [un_zero]; rfl) h2
    rw [h1, this]
    cases ng x <;> rfl
  have := fR_num (op := .sub) (x := x) (y := x) (by rw [e]; decide) W
  rw [this, e]
theorem o_sub_not {x : Nat} (h : 9218868437227405312 ≤ rg x) (W : World) : (FloatKind.f64.format.order (fR .sub x x W) 0 != some .eq) = true := by
  have e : fop .sub x x = 9221120237041090560 := by
    rcases Nat.lt_or_ge 9218868437227405312 (rg x) with g | g
    · exact fop_nan (.inl g)
    · rw [fsub_add]
      exact add_inf_other (by omega) (by rw [flip_rg]; omega) (by rw [flip_ng]; cases ng x <;> decide)
  have := fR_nan e W
  rw [fmt64, o_ne, decide_eq_false (show ¬ rg (fR .sub x x W) ≤ 9218868437227405312 by omega)]
  rfl
theorem o_zero : (FloatKind.f64.format.order 0 0 != some .eq) = false := by decide
theorem odd_next {l : List Nat} {k : Nat} {o gx : Bool} (h : o = oddB (l.take k)) (hk : k < l.length) (hg : oddX l[k] = gx) : (o || gx) = oddB (l.take (k + 1)) := by
  subst h; subst hg
  unfold oddB
  rw [any_snoc hk]
theorem run_makeF (n : Nat) (hn : n ≤ 1000000) (W : World) : (Instr.makeSlice 24 (.int .i64 (n : Int)) (.int .i64 (n : Int))).run Try.prog W = .ok (.slice (some ⟨W.heap.size, 0, none⟩) n n) (W.alloc (.cells (List.replicate n (Value.float .f64 0)).toArray 25)) := by
  obtain ⟨i0, hi, hz0, hz1, hz2⟩ := info_parts infoF
  have h := run_make (P := Try.prog) W 24 25 i0 (.float .f64 0) Try.underlying24 hi hz0 .i64 .i64 n n (by omega) (Int.le_refl _) (by rw [hz2]; omega) (by omega)
  rw [Int.toNat_natCast, hz1, Nat.mul_one] at h
  have e : madeCells (Value.float .f64 0).cells n = (List.replicate n (Value.float .f64 0)).toArray := by
    have := toList_madeCells_one (Value.float .f64 0) n
    rw [← this]; rfl
  rw [e] at h
  exact h
theorem rep_set (k n : Nat) (h : k < n) (a c : Value) : (List.replicate k a ++ List.replicate (n - k) c).set k a = List.replicate (k + 1) a ++ List.replicate (n - (k + 1)) c := by
  rw [List.set_append_right _ _ (by simp)]
  rw [List.length_replicate, Nat.sub_self, show n - k = n - (k + 1) + 1 by omega, List.replicate_succ, List.set_cons_zero, List.replicate_succ' (n := k), List.append_assoc]
  rfl
theorem nums_of_bk {w : World} {g : Nat} {t : TypeId} {n x : Nat} (h : Bk w g t (List.replicate n (Value.float .f64 x))) (hx : x < 18446744073709551616) (hn : n ≤ 1000000) : IsNums w (some ⟨g, 0, none⟩) n n (List.replicate n x) :=
  ⟨by simp, by rw [List.map_replicate]; exact h.rd, fun y hy => by rw [List.eq_of_mem_replicate hy]; exact hx, Nat.le_refl _, by unfold maxLen; omega⟩
set_option maxRecDepth 100000 in
set_option maxHeartbeats 8000000 in
theorem ones_x (A : Option Addr) (n c : Nat) (l : List Nat) (w : World) (h : IsNums w A n c l) (h1 : decide ((n : Int) ≤ 300) = true) :
    Calls Try.prog 6 #[.slice A n c] w fun e w' => e = .returned (.bool true) ∧ Below w.heap.size w w' := by
  have hl := h.len
  have hn : n ≤ 300 := by have := of_decide_eq_true h1; omega
  have hmk := run_makeF n (by omega)
  have oz := o_zero
  obtain ⟨i0, hi, hz0, hz1, hz2⟩ := info_parts infoF
  have hstart : Bk ((w.alloc (.cells (List.replicate n (Value.float .f64 0)).toArray 25)).alloc (.cells (List.replicate n (Value.float .f64 0)).toArray 25)) w.heap.size 25 (List.replicate 0 (Value.float .f64 4607182418800017408) ++ List.replicate (n - 0) (Value.float .f64 0)) ∧ Bk ((w.alloc (.cells (List.replicate n (Value.float .f64 0)).toArray 25)).alloc (.cells (List.replicate n (Value.float .f64 0)).toArray 25)) (w.heap.size + 1) 25 (List.replicate n (Value.float .f64 0)) ∧ Below w.heap.size w ((w.alloc (.cells (List.replicate n (Value.float .f64 0)).toArray 25)).alloc (.cells (List.replicate n (Value.float .f64 0)).toArray 25)) :=
    ⟨(Bk.new w _ _).alloc _, by have := Bk.new (w.alloc (.cells (List.replicate n (Value.float .f64 0)).toArray 25)) 25 (List.replicate n (Value.float .f64 0)); simpa using this, ((Below.refl _ _).alloc (Nat.le_refl _) _).alloc (by simp) _⟩
  go_enter Try.func6, Try.ntmps6
  go_wp2_with (go_at_call 15; refine (small_any _ _ _ _).mono ?_; rintro e w' ⟨rfl, rfl⟩)
  go_loopw [5, 6] (fun vo i wr => ∃ (k : Nat) (o : Bool), k ≤ n ∧ i = .int .i64 k ∧ vo = .bool o ∧ Hid (o = oddB (l.take k)) ∧ Bk wr w.heap.size 25 (List.replicate k (Value.float .f64 4607182418800017408) ++ List.replicate (n - k) (Value.float .f64 0)) ∧ Bk wr (w.heap.size + 1) 25 (List.replicate n (Value.float .f64 0)) ∧ Below w.heap.size w wr) (fun _ i _ => n - (intOf i).toNat)
  case atStart => exact ⟨0, _, Nat.zero_le _, rfl, rfl, rfl, hstart⟩
  case round =>
    obtain ⟨k, o, hk, rfl, rfl, HO, hB1, hB2, hB3⟩ := hrel
    clear hstart hmk
    by_cases hlt : k < n
    · obtain ⟨ad, rfl, hbb, hcell⟩ := (h.rd.next (Nat.le_refl _) hB3).get (k := k) (by rw [List.length_map]; omega)
      rw [List.getElem_map] at hcell
      obtain ⟨x, hx0⟩ : ∃ x, l[k]'(by omega) = x := ⟨_, rfl⟩
      rw [hx0] at hcell
      have HX := Lib.hid hx0
      clear hx0
      have k0 : (0 : Int) ≤ (k : Int) := by omega
      have k1 : (k : Int) < n := by omega
      have hfr := hB1.free k
      have hc1 := hB1.cell (i := k) (by simp; omega)
      rw [show (List.replicate k (Value.float .f64 4607182418800017408) ++ List.replicate (n - k) (Value.float .f64 0))[k]'(by simp; omega) = .float .f64 0 by rw [List.getElem_append_right (by simp)]; simp] at hc1
      have HB1 := hB1.set k (.float .f64 4607182418800017408)
      rw [rep_set k n hlt] at HB1
      have HB2 := hB2.far (p := ⟨w.heap.size, k, none⟩) (by simp) (.float .f64 4607182418800017408)
      have HB3 := hB3.setCell (p := ⟨w.heap.size, k, none⟩) (Nat.le_refl _) (.float .f64 4607182418800017408)
      have hcell2 : (wr.setCell ⟨w.heap.size, k, none⟩ (.float .f64 4607182418800017408)).cell? (ad.add k) = some (.float .f64 x) := by
        rw [World.cell?_setCell_other _ _ _ _ (fun e => by have := congrArg Addr.block e; rw [add_block] at this; simp at this; omega)]
        exact hcell
      go_wp2_with fail
      obtain ⟨W2, hW2⟩ : ∃ W2, wr.setCell ⟨w.heap.size, k, none⟩ (.float .f64 4607182418800017408) = W2 := ⟨_, rfl⟩
      rw [hW2] at hcell2 HB1 HB2 HB3 ⊢
      clear hc1 hfr hcell hB1 hB2 hB3 hW2
      cases o
      · rcases Nat.lt_or_ge (rg x) 9218868437227405312 with hf | hf
        · have t1 := fun W : World => o_sub_fin hf W
          have HG := Lib.hid (show oddX l[k] = false by rw [HX.out]; unfold oddX; exact decide_eq_false (by omega))
          clear hf
          refine wp_region_held_drew (S := Drawn W2) (by kernel_rfl) (by first | exact Drawn.of _ _ | exact Drawn.one _) (fun hHeld => ?_)
          refine wpAnyH_take (i := 0) (v := ?v1_0) (by simp only [List.getElem?_toArray, List.getElem?_cons_succ, List.getElem?_cons_zero]; rfl) (by kernel_rfl) (by kernel_rfl) (by kernel_rfl) (by exact fun _ _ _ h => h) (Or.inl ⟨by rfl, ?h1_0⟩) hHeld ?_
          case h1_0 => (intro w' hSw; obtain ⟨m, rfl⟩ := hSw; go_simp <;> with_reducible rfl)
          try simp only [Act.put, List.setIfInBounds_toArray, List.set_cons_zero, List.set_cons_succ]
          refine wpAnyH_take (i := 1) (v := ?v2_1) (by simp only [List.getElem?_toArray, List.getElem?_cons_succ, List.getElem?_cons_zero]; rfl) (by kernel_rfl) (by kernel_rfl) (by kernel_rfl) (by exact fun _ _ _ h => h) (Or.inl ⟨by rfl, ?h2_1⟩) hHeld ?_
          case h2_1 => (intro w' hSw; obtain ⟨m, rfl⟩ := hSw; go_simp <;> with_reducible rfl)
          try simp only [Act.put, List.setIfInBounds_toArray, List.set_cons_zero, List.set_cons_succ]
          refine wpAnyH_take (i := 2) (v := ?v3_2) (by simp only [List.getElem?_toArray, List.getElem?_cons_succ, List.getElem?_cons_zero]; rfl) (by kernel_rfl) (by kernel_rfl) (by kernel_rfl) (by exact fun _ _ _ h => h) (Or.inl ⟨by rfl, ?h3_2⟩) hHeld ?_
          case h3_2 => (intro w' hSw; obtain ⟨m, rfl⟩ := hSw; go_simp <;> with_reducible rfl)
          try simp only [Act.put, List.setIfInBounds_toArray, List.set_cons_zero, List.set_cons_succ]
          refine wpAnyH_take (i := 3) (v := ?v4_3) (by simp only [List.getElem?_toArray, List.getElem?_cons_succ, List.getElem?_cons_zero]; rfl) (by kernel_rfl) (by kernel_rfl) (by kernel_rfl) (by exact fun _ _ _ h => h) (Or.inl ⟨by rfl, ?h4_3⟩) hHeld ?_
          case h4_3 => (intro w' hSw; obtain ⟨m, rfl⟩ := hSw; go_simp <;> with_reducible rfl)
          try simp only [Act.put, List.setIfInBounds_toArray, List.set_cons_zero, List.set_cons_succ]
          refine wpAnyH_take (i := 4) (v := ?v5_4) (by simp only [List.getElem?_toArray, List.getElem?_cons_succ, List.getElem?_cons_zero]; rfl) (by kernel_rfl) (by kernel_rfl) (by kernel_rfl) (by exact fun _ _ _ h => h) (Or.inl ⟨by rfl, ?h5_4⟩) hHeld ?_
          case h5_4 => (intro w' hSw; obtain ⟨m, rfl⟩ := hSw; go_simp <;> with_reducible rfl)
          try simp only [Act.put, List.setIfInBounds_toArray, List.set_cons_zero, List.set_cons_succ]
          refine wpAnyH_take (i := 5) (v := ?v6_5) (by simp only [List.getElem?_toArray, List.getElem?_cons_succ, List.getElem?_cons_zero]; rfl) (by kernel_rfl) (by kernel_rfl) (by kernel_rfl) (by exact fun _ _ _ h => h) (Or.inl ⟨by rfl, ?h6_5⟩) hHeld ?_
          case h6_5 => (intro w' hSw; obtain ⟨m, rfl⟩ := hSw; go_simp <;> with_reducible rfl)
          try simp only [Act.put, List.setIfInBounds_toArray, List.set_cons_zero, List.set_cons_succ]
          refine wpAnyH_take (i := 6) (v := ?v7_6) (by simp only [List.getElem?_toArray, List.getElem?_cons_succ, List.getElem?_cons_zero]; rfl) (by kernel_rfl) (by kernel_rfl) (by kernel_rfl) (by exact fun _ _ _ h => h) (Or.inl ⟨by rfl, ?h7_6⟩) hHeld ?_
          case h7_6 => (intro w' hSw; obtain ⟨m, rfl⟩ := hSw; go_simp <;> with_reducible rfl)
          try simp only [Act.put, List.setIfInBounds_toArray, List.set_cons_zero, List.set_cons_succ]
          refine wpAnyH_take (i := 7) (v := ?v8_7) (by simp only [List.getElem?_toArray, List.getElem?_cons_succ, List.getElem?_cons_zero]; rfl) (by kernel_rfl) (by kernel_rfl) (by kernel_rfl) (by exact fun _ _ _ h => h) (Or.inl ⟨by rfl, ?h8_7⟩) hHeld ?_
          case h8_7 => (intro w' hSw; obtain ⟨m, rfl⟩ := hSw; go_simp <;> with_reducible rfl)
          try simp only [Act.put, List.setIfInBounds_toArray, List.set_cons_zero, List.set_cons_succ]
          refine wpAnyH_take (i := 8) (v := ?v9_8) (by simp only [List.getElem?_toArray, List.getElem?_cons_succ, List.getElem?_cons_zero]; rfl) (by kernel_rfl) (by kernel_rfl) (by kernel_rfl) (by exact fun _ _ _ h => h) (Or.inl ⟨by rfl, ?h9_8⟩) hHeld ?_
          case h9_8 => (intro w' hSw; obtain ⟨m, rfl⟩ := hSw; go_simp <;> with_reducible rfl)
          try simp only [Act.put, List.setIfInBounds_toArray, List.set_cons_zero, List.set_cons_succ]
          refine wpAnyH_take (i := 9) (v := ?v10_9) (by simp only [List.getElem?_toArray, List.getElem?_cons_succ, List.getElem?_cons_zero]; rfl) (by kernel_rfl) (by kernel_rfl) (by kernel_rfl) (by exact fun _ _ _ h => h) (Or.inl ⟨by rfl, ?h10_9⟩) hHeld ?_
          case h10_9 => (intro w' hSw; obtain ⟨m, rfl⟩ := hSw; go_simp <;> with_reducible rfl)
          try simp only [Act.put, List.setIfInBounds_toArray, List.set_cons_zero, List.set_cons_succ]
          refine wpAnyH_ready (rs := [10]) (by kernel_rfl) (by simp) ?_
          refine AllReadyH.cons (by simp only [List.getElem?_toArray, List.getElem?_cons_succ, List.getElem?_cons_zero]; rfl) (fun K hK => ?_) AllReadyH.nil
          go_simp
          refine hK.out _ _ ⟨_, rfl⟩ (fun hHeld2 => ?_)
          clear hK K hHeld
          rename Drawn _ _ => hHeld
          try simp only [Act.put, List.setIfInBounds_toArray, List.set_cons_zero, List.set_cons_succ]
          refine wpAnyH_take (i := 11) (v := ?v11_11) (by simp only [List.getElem?_toArray, List.getElem?_cons_succ, List.getElem?_cons_zero]; rfl) (by kernel_rfl) (by kernel_rfl) (by kernel_rfl) (by exact fun _ _ _ h => h) (Or.inl ⟨by rfl, ?h11_11⟩) hHeld ?_
          case h11_11 => (intro w' hSw; obtain ⟨m, rfl⟩ := hSw; go_simp <;> with_reducible rfl)
          try simp only [Act.put, List.setIfInBounds_toArray, List.set_cons_zero, List.set_cons_succ]
          refine wpAnyH_take (i := 12) (v := ?v12_12) (by simp only [List.getElem?_toArray, List.getElem?_cons_succ, List.getElem?_cons_zero]; rfl) (by kernel_rfl) (by kernel_rfl) (by kernel_rfl) (by exact fun _ _ _ h => h) (Or.inl ⟨by rfl, ?h12_12⟩) hHeld ?_
          case h12_12 => (intro w' hSw; obtain ⟨m, rfl⟩ := hSw; go_simp <;> with_reducible rfl)
          try simp only [Act.put, List.setIfInBounds_toArray, List.set_cons_zero, List.set_cons_succ]
          refine wpAnyH_take (i := 13) (v := ?v13_13) (by simp only [List.getElem?_toArray, List.getElem?_cons_succ, List.getElem?_cons_zero]; rfl) (by kernel_rfl) (by kernel_rfl) (by kernel_rfl) (by exact fun _ _ _ h => h) (Or.inl ⟨by rfl, ?h13_13⟩) hHeld ?_
          case h13_13 => (intro w' hSw; obtain ⟨m, rfl⟩ := hSw; go_simp <;> with_reducible rfl)
          try simp only [Act.put, List.setIfInBounds_toArray, List.set_cons_zero, List.set_cons_succ]
          refine wpAnyH_done (by kernel_rfl) ?_ _
          go_wp2_with fail
          go_roundw
          case rel => exact ⟨k + 1, _, by omega, by go_num, rfl, odd_next HO.out (by omega) HG.out, (HB1.drewN _), (HB2.drewN _), bdrewN HB3 _⟩
          case measure => simp [intOf]; omega
        · have t1 := fun W : World => o_sub_not hf W
          have HG := Lib.hid (show oddX l[k] = true by rw [HX.out]; unfold oddX; exact decide_eq_true hf)
          clear hf
          refine wp_region_held_drew (S := Drawn W2) (by kernel_rfl) (by first | exact Drawn.of _ _ | exact Drawn.one _) (fun hHeld => ?_)
          refine wpAnyH_take (i := 0) (v := ?v14_0) (by simp only [List.getElem?_toArray, List.getElem?_cons_succ, List.getElem?_cons_zero]; rfl) (by kernel_rfl) (by kernel_rfl) (by kernel_rfl) (by exact fun _ _ _ h => h) (Or.inl ⟨by rfl, ?h14_0⟩) hHeld ?_
          case h14_0 => (intro w' hSw; obtain ⟨m, rfl⟩ := hSw; go_simp <;> with_reducible rfl)
          try simp only [Act.put, List.setIfInBounds_toArray, List.set_cons_zero, List.set_cons_succ]
          refine wpAnyH_take (i := 1) (v := ?v15_1) (by simp only [List.getElem?_toArray, List.getElem?_cons_succ, List.getElem?_cons_zero]; rfl) (by kernel_rfl) (by kernel_rfl) (by kernel_rfl) (by exact fun _ _ _ h => h) (Or.inl ⟨by rfl, ?h15_1⟩) hHeld ?_
          case h15_1 => (intro w' hSw; obtain ⟨m, rfl⟩ := hSw; go_simp <;> with_reducible rfl)
          try simp only [Act.put, List.setIfInBounds_toArray, List.set_cons_zero, List.set_cons_succ]
          refine wpAnyH_take (i := 2) (v := ?v16_2) (by simp only [List.getElem?_toArray, List.getElem?_cons_succ, List.getElem?_cons_zero]; rfl) (by kernel_rfl) (by kernel_rfl) (by kernel_rfl) (by exact fun _ _ _ h => h) (Or.inl ⟨by rfl, ?h16_2⟩) hHeld ?_
          case h16_2 => (intro w' hSw; obtain ⟨m, rfl⟩ := hSw; go_simp <;> with_reducible rfl)
          try simp only [Act.put, List.setIfInBounds_toArray, List.set_cons_zero, List.set_cons_succ]
          refine wpAnyH_take (i := 3) (v := ?v17_3) (by simp only [List.getElem?_toArray, List.getElem?_cons_succ, List.getElem?_cons_zero]; rfl) (by kernel_rfl) (by kernel_rfl) (by kernel_rfl) (by exact fun _ _ _ h => h) (Or.inl ⟨by rfl, ?h17_3⟩) hHeld ?_
          case h17_3 => (intro w' hSw; obtain ⟨m, rfl⟩ := hSw; go_simp <;> with_reducible rfl)
          try simp only [Act.put, List.setIfInBounds_toArray, List.set_cons_zero, List.set_cons_succ]
          refine wpAnyH_take (i := 4) (v := ?v18_4) (by simp only [List.getElem?_toArray, List.getElem?_cons_succ, List.getElem?_cons_zero]; rfl) (by kernel_rfl) (by kernel_rfl) (by kernel_rfl) (by exact fun _ _ _ h => h) (Or.inl ⟨by rfl, ?h18_4⟩) hHeld ?_
          case h18_4 => (intro w' hSw; obtain ⟨m, rfl⟩ := hSw; go_simp <;> with_reducible rfl)
          try simp only [Act.put, List.setIfInBounds_toArray, List.set_cons_zero, List.set_cons_succ]
          refine wpAnyH_take (i := 5) (v := ?v19_5) (by simp only [List.getElem?_toArray, List.getElem?_cons_succ, List.getElem?_cons_zero]; rfl) (by kernel_rfl) (by kernel_rfl) (by kernel_rfl) (by exact fun _ _ _ h => h) (Or.inl ⟨by rfl, ?h19_5⟩) hHeld ?_
          case h19_5 => (intro w' hSw; obtain ⟨m, rfl⟩ := hSw; go_simp <;> with_reducible rfl)
          try simp only [Act.put, List.setIfInBounds_toArray, List.set_cons_zero, List.set_cons_succ]
          refine wpAnyH_take (i := 6) (v := ?v20_6) (by simp only [List.getElem?_toArray, List.getElem?_cons_succ, List.getElem?_cons_zero]; rfl) (by kernel_rfl) (by kernel_rfl) (by kernel_rfl) (by exact fun _ _ _ h => h) (Or.inl ⟨by rfl, ?h20_6⟩) hHeld ?_
          case h20_6 => (intro w' hSw; obtain ⟨m, rfl⟩ := hSw; go_simp <;> with_reducible rfl)
          try simp only [Act.put, List.setIfInBounds_toArray, List.set_cons_zero, List.set_cons_succ]
          refine wpAnyH_take (i := 7) (v := ?v21_7) (by simp only [List.getElem?_toArray, List.getElem?_cons_succ, List.getElem?_cons_zero]; rfl) (by kernel_rfl) (by kernel_rfl) (by kernel_rfl) (by exact fun _ _ _ h => h) (Or.inl ⟨by rfl, ?h21_7⟩) hHeld ?_
          case h21_7 => (intro w' hSw; obtain ⟨m, rfl⟩ := hSw; go_simp <;> with_reducible rfl)
          try simp only [Act.put, List.setIfInBounds_toArray, List.set_cons_zero, List.set_cons_succ]
          refine wpAnyH_take (i := 8) (v := ?v22_8) (by simp only [List.getElem?_toArray, List.getElem?_cons_succ, List.getElem?_cons_zero]; rfl) (by kernel_rfl) (by kernel_rfl) (by kernel_rfl) (by exact fun _ _ _ h => h) (Or.inl ⟨by rfl, ?h22_8⟩) hHeld ?_
          case h22_8 => (intro w' hSw; obtain ⟨m, rfl⟩ := hSw; go_simp <;> with_reducible rfl)
          try simp only [Act.put, List.setIfInBounds_toArray, List.set_cons_zero, List.set_cons_succ]
          refine wpAnyH_take (i := 9) (v := ?v23_9) (by simp only [List.getElem?_toArray, List.getElem?_cons_succ, List.getElem?_cons_zero]; rfl) (by kernel_rfl) (by kernel_rfl) (by kernel_rfl) (by exact fun _ _ _ h => h) (Or.inl ⟨by rfl, ?h23_9⟩) hHeld ?_
          case h23_9 => (intro w' hSw; obtain ⟨m, rfl⟩ := hSw; go_simp <;> with_reducible rfl)
          try simp only [Act.put, List.setIfInBounds_toArray, List.set_cons_zero, List.set_cons_succ]
          refine wpAnyH_ready (rs := [10]) (by kernel_rfl) (by simp) ?_
          refine AllReadyH.cons (by simp only [List.getElem?_toArray, List.getElem?_cons_succ, List.getElem?_cons_zero]; rfl) (fun K hK => ?_) AllReadyH.nil
          go_simp
          refine hK.out _ _ ⟨_, rfl⟩ (fun hHeld2 => ?_)
          clear hK K hHeld
          rename Drawn _ _ => hHeld
          try simp only [Act.put, List.setIfInBounds_toArray, List.set_cons_zero, List.set_cons_succ]
          refine wpAnyH_take (i := 11) (v := ?v24_11) (by simp only [List.getElem?_toArray, List.getElem?_cons_succ, List.getElem?_cons_zero]; rfl) (by kernel_rfl) (by kernel_rfl) (by kernel_rfl) (by exact fun _ _ _ h => h) (Or.inl ⟨by rfl, ?h24_11⟩) hHeld ?_
          case h24_11 => (intro w' hSw; obtain ⟨m, rfl⟩ := hSw; go_simp <;> with_reducible rfl)
          try simp only [Act.put, List.setIfInBounds_toArray, List.set_cons_zero, List.set_cons_succ]
          refine wpAnyH_take (i := 12) (v := ?v25_12) (by simp only [List.getElem?_toArray, List.getElem?_cons_succ, List.getElem?_cons_zero]; rfl) (by kernel_rfl) (by kernel_rfl) (by kernel_rfl) (by exact fun _ _ _ h => h) (Or.inl ⟨by rfl, ?h25_12⟩) hHeld ?_
          case h25_12 => (intro w' hSw; obtain ⟨m, rfl⟩ := hSw; go_simp <;> with_reducible rfl)
          try simp only [Act.put, List.setIfInBounds_toArray, List.set_cons_zero, List.set_cons_succ]
          refine wpAnyH_take (i := 13) (v := ?v26_13) (by simp only [List.getElem?_toArray, List.getElem?_cons_succ, List.getElem?_cons_zero]; rfl) (by kernel_rfl) (by kernel_rfl) (by kernel_rfl) (by exact fun _ _ _ h => h) (Or.inl ⟨by rfl, ?h26_13⟩) hHeld ?_
          case h26_13 => (intro w' hSw; obtain ⟨m, rfl⟩ := hSw; go_simp <;> with_reducible rfl)
          try simp only [Act.put, List.setIfInBounds_toArray, List.set_cons_zero, List.set_cons_succ]
          refine wpAnyH_done (by kernel_rfl) ?_ _
          go_wp2_with fail
          go_roundw
          case rel => exact ⟨k + 1, _, by omega, by go_num, rfl, odd_next HO.out (by omega) HG.out, (HB1.drewN _), (HB2.drewN _), bdrewN HB3 _⟩
          case measure => simp [intOf]; omega
      · skip
        refine wp_region_held_drew (S := Drawn W2) (by kernel_rfl) (by first | exact Drawn.of _ _ | exact Drawn.one _) (fun hHeld => ?_)
        refine wpAnyH_take (i := 0) (v := ?v27_0) (by simp only [List.getElem?_toArray, List.getElem?_cons_succ, List.getElem?_cons_zero]; rfl) (by kernel_rfl) (by kernel_rfl) (by kernel_rfl) (by exact fun _ _ _ h => h) (Or.inl ⟨by rfl, ?h27_0⟩) hHeld ?_
        case h27_0 => (intro w' hSw; obtain ⟨m, rfl⟩ := hSw; go_simp <;> with_reducible rfl)
        try simp only [Act.put, List.setIfInBounds_toArray, List.set_cons_zero, List.set_cons_succ]
        refine wpAnyH_take (i := 1) (v := ?v28_1) (by simp only [List.getElem?_toArray, List.getElem?_cons_succ, List.getElem?_cons_zero]; rfl) (by kernel_rfl) (by kernel_rfl) (by kernel_rfl) (by exact fun _ _ _ h => h) (Or.inl ⟨by rfl, ?h28_1⟩) hHeld ?_
        case h28_1 => (intro w' hSw; obtain ⟨m, rfl⟩ := hSw; go_simp <;> with_reducible rfl)
        try simp only [Act.put, List.setIfInBounds_toArray, List.set_cons_zero, List.set_cons_succ]
        refine wpAnyH_take (i := 2) (v := undef) (by simp only [List.getElem?_toArray, List.getElem?_cons_succ, List.getElem?_cons_zero]; rfl) (by kernel_rfl) (by kernel_rfl) (by kernel_rfl) (by exact fun _ _ _ h => h) (Or.inr ⟨by rfl, rfl⟩) hHeld ?_
        try simp only [Act.put, List.setIfInBounds_toArray, List.set_cons_zero, List.set_cons_succ]
        refine wpAnyH_take (i := 3) (v := undef) (by simp only [List.getElem?_toArray, List.getElem?_cons_succ, List.getElem?_cons_zero]; rfl) (by kernel_rfl) (by kernel_rfl) (by kernel_rfl) (by exact fun _ _ _ h => h) (Or.inr ⟨by rfl, rfl⟩) hHeld ?_
        try simp only [Act.put, List.setIfInBounds_toArray, List.set_cons_zero, List.set_cons_succ]
        refine wpAnyH_take (i := 4) (v := undef) (by simp only [List.getElem?_toArray, List.getElem?_cons_succ, List.getElem?_cons_zero]; rfl) (by kernel_rfl) (by kernel_rfl) (by kernel_rfl) (by exact fun _ _ _ h => h) (Or.inr ⟨by rfl, rfl⟩) hHeld ?_
        try simp only [Act.put, List.setIfInBounds_toArray, List.set_cons_zero, List.set_cons_succ]
        refine wpAnyH_take (i := 5) (v := undef) (by simp only [List.getElem?_toArray, List.getElem?_cons_succ, List.getElem?_cons_zero]; rfl) (by kernel_rfl) (by kernel_rfl) (by kernel_rfl) (by exact fun _ _ _ h => h) (Or.inr ⟨by rfl, rfl⟩) hHeld ?_
        try simp only [Act.put, List.setIfInBounds_toArray, List.set_cons_zero, List.set_cons_succ]
        refine wpAnyH_take (i := 6) (v := undef) (by simp only [List.getElem?_toArray, List.getElem?_cons_succ, List.getElem?_cons_zero]; rfl) (by kernel_rfl) (by kernel_rfl) (by kernel_rfl) (by exact fun _ _ _ h => h) (Or.inr ⟨by rfl, rfl⟩) hHeld ?_
        try simp only [Act.put, List.setIfInBounds_toArray, List.set_cons_zero, List.set_cons_succ]
        refine wpAnyH_take (i := 7) (v := undef) (by simp only [List.getElem?_toArray, List.getElem?_cons_succ, List.getElem?_cons_zero]; rfl) (by kernel_rfl) (by kernel_rfl) (by kernel_rfl) (by exact fun _ _ _ h => h) (Or.inr ⟨by rfl, rfl⟩) hHeld ?_
        try simp only [Act.put, List.setIfInBounds_toArray, List.set_cons_zero, List.set_cons_succ]
        refine wpAnyH_take (i := 8) (v := undef) (by simp only [List.getElem?_toArray, List.getElem?_cons_succ, List.getElem?_cons_zero]; rfl) (by kernel_rfl) (by kernel_rfl) (by kernel_rfl) (by exact fun _ _ _ h => h) (Or.inr ⟨by rfl, rfl⟩) hHeld ?_
        try simp only [Act.put, List.setIfInBounds_toArray, List.set_cons_zero, List.set_cons_succ]
        refine wpAnyH_take (i := 9) (v := undef) (by simp only [List.getElem?_toArray, List.getElem?_cons_succ, List.getElem?_cons_zero]; rfl) (by kernel_rfl) (by kernel_rfl) (by kernel_rfl) (by exact fun _ _ _ h => h) (Or.inr ⟨by rfl, rfl⟩) hHeld ?_
        try simp only [Act.put, List.setIfInBounds_toArray, List.set_cons_zero, List.set_cons_succ]
        refine wpAnyH_take (i := 10) (v := undef) (by simp only [List.getElem?_toArray, List.getElem?_cons_succ, List.getElem?_cons_zero]; rfl) (by kernel_rfl) (by kernel_rfl) (by kernel_rfl) (by exact fun _ _ _ h => h) (Or.inr ⟨by rfl, rfl⟩) hHeld ?_
        try simp only [Act.put, List.setIfInBounds_toArray, List.set_cons_zero, List.set_cons_succ]
        refine wpAnyH_take (i := 11) (v := undef) (by simp only [List.getElem?_toArray, List.getElem?_cons_succ, List.getElem?_cons_zero]; rfl) (by kernel_rfl) (by kernel_rfl) (by kernel_rfl) (by exact fun _ _ _ h => h) (Or.inr ⟨by rfl, rfl⟩) hHeld ?_
        try simp only [Act.put, List.setIfInBounds_toArray, List.set_cons_zero, List.set_cons_succ]
        refine wpAnyH_take (i := 12) (v := ?v29_12) (by simp only [List.getElem?_toArray, List.getElem?_cons_succ, List.getElem?_cons_zero]; rfl) (by kernel_rfl) (by kernel_rfl) (by kernel_rfl) (by exact fun _ _ _ h => h) (Or.inl ⟨by rfl, ?h29_12⟩) hHeld ?_
        case h29_12 => (intro w' hSw; obtain ⟨m, rfl⟩ := hSw; go_simp <;> with_reducible rfl)
        try simp only [Act.put, List.setIfInBounds_toArray, List.set_cons_zero, List.set_cons_succ]
        refine wpAnyH_take (i := 13) (v := ?v30_13) (by simp only [List.getElem?_toArray, List.getElem?_cons_succ, List.getElem?_cons_zero]; rfl) (by kernel_rfl) (by kernel_rfl) (by kernel_rfl) (by exact fun _ _ _ h => h) (Or.inl ⟨by rfl, ?h30_13⟩) hHeld ?_
        case h30_13 => (intro w' hSw; obtain ⟨m, rfl⟩ := hSw; go_simp <;> with_reducible rfl)
        try simp only [Act.put, List.setIfInBounds_toArray, List.set_cons_zero, List.set_cons_succ]
        refine wpAnyH_done (by kernel_rfl) ?_ _
        go_wp2_with fail
        go_roundw
        case rel => exact ⟨k + 1, _, by omega, by go_num, rfl, odd_next HO.out (by omega) rfl, (HB1.drewN _), (HB2.drewN _), bdrewN HB3 _⟩
        case measure => simp [intOf]; omega
    · obtain rfl : k = n := by omega
      clear oz
      rw [Nat.sub_self, List.replicate_zero, List.append_nil] at hB1
      have hI := h.next hB3
      have J1 := nums_of_bk hB1 (by omega) (by omega)
      have J2 := nums_of_bk hB2 (by omega) (by omega)
      have hO := HO.out
      rw [List.take_of_length_le (by omega)] at hO
      have HD1 := Lib.hid (dot_ones h.wf (n := k) hl.symm)
      have hD2 : o = true ∨ (FloatKind.f64.format.order (dotV l (List.replicate k 0)) 0 == some .eq) = true := by
        cases o
        · exact .inr (dot_zeros (odd_fin hO.symm) k)
        · exact .inl rfl
      obtain ⟨D2, hd2⟩ : ∃ D2, dotV l (List.replicate k 0) = D2 := ⟨_, rfl⟩
      rw [hd2] at hD2
      have HD2 := Lib.hid hd2
      have HDO := Lib.hid hD2
      have ts : sameB (sumV l) (sumV l) = true := sameB_yes rfl
      have ts0 : sameB 0 0 = true := by decide
      have hne : (((k + 1 : Nat) : Int) != (k : Int)) = true := bne_iff_ne.2 (by omega)
      have hB3' := hB3
      clear hd2 hD2 hO HO hB1 hB2 hB3 h hl
      go_wp2_with fail
      refine (dot_even _ _ _ _ _ _ _ _ hI J1 (by omega)).mono ?_
      rintro e w1 ⟨rfl, hb1⟩
      rw [HD1.out]
      have B1 := hB3'.trans (hb1.mono hB3'.size)
      have hI1 := hI.next hb1
      have J11 := J1.next hb1
      have J21 := J2.next hb1
      clear hI J1 J2 hb1 hB3'
      go_wp2_with fail
      refine (dot_even _ _ _ _ _ _ _ _ hI1 J21 (by omega)).mono ?_
      rintro e w4 ⟨rfl, hb4⟩
      rw [HD2.out]
      have B4 := B1.trans (hb4.mono B1.size)
      have hI4 := hI1.next hb4
      have J4 := J11.next hb4
      clear hI1 J11 J21 hb4 B1
      go_wp2_with (at_builtin; go_must (refine wpList_appN _ rfl _ _ 24 rfl w4.heap.size 25 i0 (.float .f64 0) 8 Try.underlying24 hi hz0 hz1 hz2 rfl _ 1 [.float .f64 4607182418800017408] (by rfl) (by exact World.ownsRow_lit w4 #[.float .f64 4607182418800017408] 1 (Nat.le_refl _) (by decide) rfl) w4.heap.size _ k k ((List.replicate k 4607182418800017408).map (Value.float .f64)) (by rfl) (by simp) (by exact (J4.rd.alloc (Nat.le_refl _) _)) one_float (by omega) (by omega) (by simp) ?_); intro v5 w5 hO5 hG5)
      have B5 : Below w4.heap.size w4 w5 := ((Below.refl _ _).alloc (Nat.le_refl _) _).grown hG5 (by simp) (fun g hg => Nat.le_of_eq (Option.some.inj (show some w4.heap.size = some g from hg)))
      have B5w := B4.trans (B5.mono B4.size)
      have hI5 := hI4.next B5
      rw [show (1 + k : Nat) = k + 1 by omega] at hO5
      obtain ⟨A3, c3, rfl, hJ5⟩ := nums_of_own (l := 4607182418800017408 :: List.replicate k 4607182418800017408) (by rw [List.map_cons, List.map_replicate]; rw [List.map_replicate] at hO5; exact hO5) (by
        intro y hy
        rcases List.mem_cons.1 hy with g | g
        · rw [g]; omega
        · rw [List.eq_of_mem_replicate g]; omega)
      clear hO5 hG5 hI4 J4 B5 B4
      go_wp2_with fail
      refine (dot_odd _ _ _ _ _ _ _ hne).mono ?_
      rintro e w' ⟨rfl, rfl⟩
      go_wp2_with fail
      refine (sum_any _ _ _ _ _ hI5 (by omega)).mono ?_
      rintro e w6 ⟨rfl, hb6⟩
      have B6 := B5w.trans (hb6.mono B5w.size)
      clear hb6 hI5 hJ5 B5w
      go_wp2_with fail
      refine (Fb.rsame_any _ _ _).mono ?_
      rintro e w' ⟨rfl, rfl⟩
      cases o
      · have td : (FloatKind.f64.format.order D2 0 == some .eq) = true := by
          rcases HDO.out with g | g
          · cases g
          · exact g
        go_wp2_with fail
        refine (Fb.rsame_any _ _ _).mono ?_
        rintro e w' ⟨rfl, rfl⟩
        go_wp2_with fail
        refine (awake_any _).mono ?_
        rintro e w2 ⟨rfl, hb2⟩
        go_wp2_with fail
        go_ret
        exact ⟨rfl, Below.trans (B6) (hb2.mono (B6).size)⟩
      · go_wp2_with fail
        refine (Fb.rsame_any _ _ _).mono ?_
        rintro e w' ⟨rfl, rfl⟩
        go_wp2_with fail
        refine (awake_any _).mono ?_
        rintro e w2 ⟨rfl, hb2⟩
        go_wp2_with fail
        go_ret
        exact ⟨rfl, Below.trans (B6) (hb2.mono (B6).size)⟩
theorem ones_walk (A : Option Addr) (n c : Nat) (l : List Nat) (w : World) (h : IsNums w A n c l) :
    Calls Try.prog 6 #[.slice A n c] w fun e w' => e = .returned (.bool true) ∧ Below w.heap.size w w' := by
  rcases Nat.lt_or_ge 300 n with h1 | h1
  · have t1 : decide ((n : Int) ≤ 300) = false := decide_eq_false (by omega)
    go_enter Try.func6, Try.ntmps6
    go_wp2_with (go_at_call 15; refine (small_any _ _ _ _).mono ?_; rintro e w' ⟨rfl, rfl⟩)
    refine (awake_any _).mono ?_
    rintro e w2 ⟨rfl, hb2⟩
    go_wp2_with fail
    go_ret
    exact ⟨rfl, hb2⟩
  · exact ones_x A n c l w h (decide_eq_true (by omega))
end Go.Proofs.Ythiiicgibcgipaa.Fs
