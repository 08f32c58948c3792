/- Contracts of the reference sum and of clean: what each returns, for every list of numbers. -/
import Derived.Test.YthiiicgibcgipaaFsA
namespace Go.Proofs.Ythiiicgibcgipaa.Fs
set_option linter.unusedSimpArgs false
set_option linter.unusedVariables false
open Go.RowKit Fl Fb
attribute [local go_sem] and_sgn andNot_sgn xor_sgn xor_all run_neg_float u64_unsigned

set_option maxHeartbeats 1000000 in
theorem clean_any (x : Nat) (w : World) :
    Calls Try.prog 33 #[.float .f64 x] w fun e w' => e = .returned (.float .f64 (cn x)) ∧ w = w' := by
  by_cases h : 9218868437227405312 < rg x
  · have h1 := t_ne_nan h
    go_enter Try.func33, Try.ntmps33
    go_wp2_with (go_at_call 34; refine (rfrom_any 9221120237041090560 _ (by omega)).mono ?_; rintro e w' ⟨rfl, rfl⟩)
    go_ret
    exact ⟨by rw [cn_nan h]; rfl, rfl⟩
  · have h1 := t_ne_num (Nat.le_of_not_lt h)
    go_enter Try.func33, Try.ntmps33
    go_wp2
    go_ret
    exact ⟨by rw [cn_num (Nat.le_of_not_lt h)]; rfl, rfl⟩
def negP (l : List Nat) (k : Nat) : Bool := (l.take k).all fun x => classV x == 5
theorem negP_succ {l : List Nat} {k : Nat} (h : k < l.length) : negP l (k + 1) = (negP l k && (classV l[k] == 5)) := by
  unfold negP
  rw [List.take_succ_eq_append_getElem h, List.all_append]
  simp
theorem negP_all {l : List Nat} {n : Nat} (h : l.length = n) : (decide (0 < n) && negP l n) = negAll l := by
  unfold negP negAll
  rw [List.take_of_length_le (by omega), Bool.and_comm]
  congr 1
  cases l
  · subst h; rfl
  · subst h; simp
/-- an operation that is valid gives just its word. -/
theorem fR_num {op : BinOp} {x y : Nat} (h : rg (fop op x y) ≤ 9218868437227405312) (w : World) : fR op x y w = fop op x y := by
  have h1 := cn_fR op x y w
  rcases Nat.lt_or_ge 9218868437227405312 (rg (fR op x y w)) with g | g
  · rw [cn_nan g] at h1
    rw [← h1, rg_C0] at h
    omega
  · rw [cn_num g] at h1
    exact h1
theorem fR_nan {op : BinOp} {x y : Nat} (h : fop op x y = 9221120237041090560) (w : World) : 9218868437227405312 < rg (fR op x y w) := by
  rw [← cn_isnan, cn_fR, h, rg_C0]
  omega
theorem fop_dec (op : BinOp) (x y : Nat) : rg (fop op x y) ≤ 9218868437227405312 ∨ fop op x y = 9221120237041090560 := by
  rcases Nat.lt_or_ge 9218868437227405312 (rg (fop op x y)) with h | h
  · right; have := cn_fop op x y; rw [cn_nan h] at this; exact this.symm
  · exact .inl h
set_option maxHeartbeats 4000000 in
theorem rsum_any (A : Option Addr) (n c : Nat) (l : List Nat) (w : World) (h : IsNums w A n c l) (hn : n ≤ 1000000) :
    Calls Try.prog 24 #[.slice A n c] w fun e w' => e = .returned (.float .f64 (sumV l)) ∧ Below w.heap.size w w' := by
  have hl := h.len
  go_enter Try.func24, Try.ntmps24
  go_wp2_with fail
  go_loopw [3, 4, 5, 6] (fun vs vc vm i wr => ∃ (k s c q : Nat) (b : Bool), k ≤ n ∧ i = .int .i64 k ∧ vs = .float .f64 s ∧ vc = .float .f64 c ∧ vm = .bool b ∧ Hid (b = (decide (0 < n) && negP l k)) ∧ lt64 s ∧ lt64 c ∧ Hid (cn s = (partV (l.take k)).1 ∧ cn c = (partV (l.take k)).2) ∧ wr = w.drewN q) (fun _ _ _ i _ => n - (intOf i).toNat)
  case atStart => exact ⟨0, 0, 0, 0, _, Nat.zero_le _, rfl, rfl, rfl, rfl, (by show decide (0 < n) = _; rw [show negP l 0 = true by rfl, Bool.and_true]), by show (0 : Nat) < 18446744073709551616; omega, by show (0 : Nat) < 18446744073709551616; omega, ⟨rfl, rfl⟩, rfl⟩
  case round =>
    obtain ⟨k, s, c, q, b, hk, rfl, rfl, rfl, rfl, HM, hs, hc, HS, rfl⟩ := hrel
    by_cases hlt : k < n
    · obtain ⟨ad, rfl, hb, hcell⟩ := h.rd.get (k := k) (by rw [List.length_map]; omega)
      rw [List.getElem_map] at hcell
      have hx : lt64 (l[k]'(by omega)) := h.wf _ (List.getElem_mem _)
      have HP := Lib.hid (partV_take (l := l) (k := k) (by omega))
      have HQ := Lib.hid (negP_succ (l := l) (k := k) (by omega))
      cases hb : magGe s (l[k]'(by omega)) <;> cases b <;> cases h5 : (classV (l[k]'(by omega)) == 5)
      all_goals
        have ht := (magGe_test s (l[k]'(by omega))).trans hb
        have HB := Lib.hid hb
        have H5 := Lib.hid h5
        clear hb
        go_wp2_with (first | (go_at_call 16; refine (rclass_any _ _ hx).mono ?_; rintro e w' ⟨rfl, rfl⟩) | (go_at_call 30; first | (with_reducible refine (abs_any s _ hs).mono ?_; rintro e w' ⟨rfl, rfl⟩) | (with_reducible refine (abs_any _ _ hx).mono ?_; rintro e w' ⟨rfl, rfl⟩)))
        go_roundw
        case rel =>
          exact ⟨k + 1, _, _, _, _, by omega, by go_num, rfl, rfl, rfl, (by show _ = _; rw [HQ.out, ← Bool.and_assoc, ← HM.out, H5.out]; rfl), fR_lt _ _ _ _, fR_lt _ _ _ _, ⟨by rw [HP.out]; exact step_s HS.out.1 _, by rw [HP.out]; exact step_c HS.out.1 HS.out.2 _ HB.out _ _ _ _⟩, rfl⟩
        case measure => simp [intOf]; omega
    · obtain rfl : k = n := by omega
      cases b
      · have hneg : negAll l = false := by rw [← negP_all hl, ← HM.out]
        have HE := Lib.hid (show sumV l = endV (cn s, cn c) by unfold sumV; rw [hneg, if_neg (by decide), HS.out.1, HS.out.2, List.take_of_length_le (by omega)])
        clear HS hneg
        rcases Nat.lt_or_ge 9218868437227405312 (rg c) with hcn | hcn
        · have t1 := t_eq_nan hcn
          have HF := Lib.hid (show sumV l = cn s by rw [HE.out]; unfold endV; rw [if_pos ((cn_isnan c).2 hcn), cn_cn])
          clear hcn HE
          rcases Nat.lt_or_ge 9218868437227405312 (rg s) with hsn | hsn
          · have t2 := t_ne_nan hsn
            have HG := Lib.hid (HF.out.trans (cn_nan hsn))
            clear hsn
            go_wp2_with (go_at_call 34; refine (rfrom_any 9221120237041090560 _ (by omega)).mono ?_; rintro e w' ⟨rfl, rfl⟩)
            go_ret
            exact ⟨by rw [HG.out]; rfl, below_drawn w q⟩
          · have t2 := t_ne_num hsn
            have HG := Lib.hid (HF.out.trans (cn_num hsn))
            clear hsn
            go_wp2_with fail
            go_ret
            exact ⟨by rw [HG.out]; rfl, below_drawn w q⟩
        · have t1 := t_eq_num hcn
          have HF := Lib.hid (show sumV l = fop .add s c by rw [HE.out]; unfold endV; rw [if_neg (show ¬ 9218868437227405312 < rg (cn c) by have := cn_isnan c; omega), fop_cn])
          clear hcn HE
          rcases fop_dec .add s c with hsn | hsn
          · have t2 : ∀ W : World, (FloatKind.f64.format.order (fR .add s c W) (fR .add s c W) != some .eq) = false := fun W => by rw [fR_num hsn W]; exact t_ne_num hsn
            have HG := Lib.hid (fun W : World => HF.out.trans (fR_num hsn W).symm)
            clear hsn
            go_wp2_with fail
            go_ret
            exact ⟨by rw [HG.out]; rfl, ⟨rfl, rfl, rfl, Nat.le_refl _, fun _ _ => rfl⟩⟩
          · have t2 : ∀ W : World, (FloatKind.f64.format.order (fR .add s c W) (fR .add s c W) != some .eq) = true := fun W => t_ne_nan (fR_nan hsn W)
            have HG := Lib.hid (HF.out.trans hsn)
            clear hsn
            go_wp2_with (go_at_call 34; refine (rfrom_any 9221120237041090560 _ (by omega)).mono ?_; rintro e w' ⟨rfl, rfl⟩)
            go_ret
            exact ⟨by rw [HG.out]; rfl, ⟨rfl, rfl, rfl, Nat.le_refl _, fun _ _ => rfl⟩⟩
      · have HG := Lib.hid (show sumV l = 9223372036854775808 by unfold sumV; rw [← negP_all hl, ← HM.out, if_pos rfl])
        go_wp2_with (go_at_call 34; refine (rfrom_any 9223372036854775808 _ (by omega)).mono ?_; rintro e w' ⟨rfl, rfl⟩)
        go_ret
        exact ⟨by rw [HG.out]; rfl, below_drawn w q⟩
end Go.Proofs.Ythiiicgibcgipaa.Fs
