/- Contracts of Compare and Sort of forder, and of the reference: what each returns, for every list of numbers. -/
import Derived.Test.YthiiicgibcgipaaSoC
import Derived.Test.YthiiicgibcgipaaFbK
import Derived.Test.YthiiicgibcgipaaAp
import Derived.Test.YthiiicgibcgipaaHeld
import Derived.Test.YthiiicgibcgipaaShelf
import Derived.LoopTactic
import Derived.Lib.Hide
import Derived.Deep.DeepMust
import Derived.Laws.MakeOwn
import Derived.Laws.Entries
import Derived.WalkSpells
import Derived.Deep.AppendLies
namespace Go.Proofs.Ythiiicgibcgipaa.So
set_option linter.unusedSimpArgs false
set_option linter.unusedVariables false
open Go.RowKit Go.Sort Go.Lib Fl Fb
attribute [local go_sem] u64_unsigned

set_option maxHeartbeats 1000000 in
theorem cmp64_any (a b : Nat) (w : World) :
    Calls Try.prog 52 #[.int .u64 a, .int .u64 b] w fun e w' => e = .returned (.int .i64 (cmpN a b)) ∧ w = w' := by
  rcases Nat.lt_trichotomy a b with h | h | h
  · have t1 : decide (a < b) = true := decide_eq_true h
    go_enter Try.func52, Try.ntmps52
    go_wp2
    go_ret
    exact ⟨ret_int (by unfold cmpN; rw [if_pos h]), rfl⟩
  · subst h
    have t1 : decide (a < a) = false := decide_eq_false (by omega)
    go_enter Try.func52, Try.ntmps52
    go_wp2
    go_ret
    exact ⟨ret_int (by unfold cmpN; rw [if_neg (by omega), if_neg (by omega)]), rfl⟩
  · have t1 : decide (a < b) = false := decide_eq_false (by omega)
    have t2 : decide (b < a) = true := decide_eq_true h
    go_enter Try.func52, Try.ntmps52
    go_wp2
    go_ret
    exact ⟨ret_int (by unfold cmpN; rw [if_neg (by omega), if_pos h]), rfl⟩
set_option maxHeartbeats 1000000 in
theorem cmp_any (x y : Nat) (w : World) (hx : lt64 x) (hy : lt64 y) :
    Calls Try.prog 45 #[.float .f64 x, .float .f64 y] w fun e w' => e = .returned (.int .i64 (cmpN (keyV x) (keyV y))) ∧ w = w' := by
  go_enter Try.func45, Try.ntmps45
  go_wp2_with fail
  refine (key_any _ _ hx).mono ?_
  rintro e w' ⟨rfl, rfl⟩
  go_wp2_with fail
  refine (key_any _ _ hy).mono ?_
  rintro e w' ⟨rfl, rfl⟩
  go_wp2_with fail
  refine (cmp64_any _ _ _).mono ?_
  rintro e w' ⟨rfl, rfl⟩
  go_wp2_with fail
  go_ret
  exact ⟨rfl, rfl⟩
set_option maxHeartbeats 1000000 in
theorem rcmp_any (x y : Nat) (w : World) (hx : lt64 x) (hy : lt64 y) :
    Calls Try.prog 38 #[.float .f64 x, .float .f64 y] w fun e w' => e = .returned (.int .i64 (cmpN (keyV x) (keyV y))) ∧ w = w' := by
  rcases Nat.lt_trichotomy (keyV x) (keyV y) with h | h | h
  all_goals
    first
    | (have t1 : decide (keyV x < keyV y) = true := decide_eq_true h)
    | (have t1 : decide (keyV x < keyV y) = false := decide_eq_false (by omega); have t2 : decide (keyV y < keyV x) = true := decide_eq_true (by omega))
    | (have t1 : decide (keyV x < keyV y) = false := decide_eq_false (by omega); have t2 : decide (keyV y < keyV x) = false := decide_eq_false (by omega))
    have HH := Lib.hid (show cmpN (keyV x) (keyV y) = _ from rfl)
    obtain ⟨r, hr⟩ : ∃ r, cmpN (keyV x) (keyV y) = r := ⟨_, rfl⟩
    have HR := Lib.hid hr
    have hv : r = (if keyV x < keyV y then -1 else if keyV y < keyV x then 1 else 0) := by rw [← hr]; rfl
    have HV := Lib.hid hv
    rw [hr]
    clear hr hv HH
    have HO := Lib.hid h
    clear h
    go_enter Try.func38, Try.ntmps38
    go_wp2_with fail
    refine (rkey_any _ _ hx).mono ?_
    rintro e w' ⟨rfl, rfl⟩
    go_wp2_with fail
    refine (rkey_any _ _ hy).mono ?_
    rintro e w' ⟨rfl, rfl⟩
    go_wp2_with fail
    go_ret
    exact ⟨ret_int (by rw [HV.out]; have h := HO.out; first | rw [if_neg (by omega), if_pos (by omega)] | rw [if_neg (by omega), if_neg (by omega)] | rw [if_pos h]), rfl⟩
theorem infoF : (Try.prog.info? 25).map (fun i => (i.zero, i.size, i.bytes)) = some (some (.float .f64 0), 1, 8) := by kernel_rfl
theorem run_makeC (n : Nat) (hn : n ≤ 1000000) (W : World) : (Instr.makeSlice 24 (.int .i64 0) (.int .i64 (n : Int))).run Try.prog W = .ok (.slice (some ⟨W.heap.size, 0, none⟩) 0 n) (W.alloc (.cells (madeCells (Value.float .f64 0).cells n) 25)) := by
  obtain ⟨i0, hi, hz0, hz1, hz2⟩ := info_parts infoF
  have h := run_make (P := Try.prog) W 24 25 i0 (.float .f64 0) Try.underlying24 hi hz0 .i64 .i64 0 n (by omega) (by omega) (by rw [hz2]; omega) (by omega)
  rw [Int.toNat_natCast, hz1, Nat.mul_one] at h
  exact h
theorem cmpReads (blk off size : Nat) (w : World) : CmpReads Try.prog 45 #[] encW cfW blk off size w := fun _ _ _ _ x y =>
  (cmp_any x.1 y.1 _ x.2.1 y.2.1).mono fun e w' ⟨he, hw⟩ => ⟨by rw [he]; unfold cfW keyV; rw [x.2.2, y.2.2], 0, hw.symm⟩
theorem encOne : OneCell encW := fun _ => rfl
theorem enterCmp : ∀ args w, (callFunc 45 args).run Try.prog w = .ok (.enter 45 args) w := enters_of Try.func45 (by kernel_rfl) rfl
theorem hide' {p : Prop} (h : p) : Hid p := h
theorem unhide' {p : Prop} (h : Hid p) : p := h
/-- slices.SortFunc of a row of the call's own, by Compare. -/
theorem sortFunc_own {w : World} {base : Nat} {v : Value} {n : Nat} {rs : List Nat} (hn : n ≤ 1000000) (h : w.ownsRow base 25 1 v n (rs.map (Value.float .f64))) (hw : ∀ x ∈ rs, x < 18446744073709551616 ∧ cn x = x) (hb : base ≤ w.heap.size) :
    Calls Try.prog 44 #[v, .func (.func 45) #[] #[]] w fun e w' => e = .returned (.tuple #[]) ∧ w'.ownsRow base 25 1 v n ((sortV rs).map (Value.float .f64)) ∧ Below base w w' := by
  have hl : rs.length = n := by have := h.1; rw [List.length_map] at this; omega
  rcases Nat.eq_zero_or_pos n with h0 | h0
  · subst h0
    obtain rfl : rs = [] := List.eq_nil_of_length_eq_zero hl
    have hs : sortV [] = [] := by unfold sortV; simp
    rw [hs]
    rcases h.2 with ⟨rfl, _⟩ | ⟨g, cap, cur, rfl, _⟩
    · exact (Try.slices_SortFunc_none (α := Wd) _ _ _ w).mono fun e w' ⟨he, hw'⟩ => by subst hw'; exact ⟨he, h, Below.refl _ _⟩
    · exact (Try.slices_SortFunc_none (α := Wd) _ _ _ w).mono fun e w' ⟨he, hw'⟩ => by subst hw'; exact ⟨he, h, Below.refl _ _⟩
  · rcases h.2 with ⟨_, h1⟩ | ⟨g, cap, cur, rfl, hbg, hcur, hnc, hcm, hcs, htk⟩
    · omega
    · have hvals := toW_vals rs hw
      have hlW : (toW rs hw).length = n := by have := congrArg List.length hvals; rw [List.length_map] at this; omega
      have hsz : (toW rs hw).toArray.size = n := by simpa using hlW
      have hg : g < w.heap.size := (Array.getElem?_eq_some_iff.1 hcur).1
      have hH : Holds encW w g 0 (toW rs hw).toArray := holds_own hcur (by rw [hlW, enc_vals, hvals]; rw [Nat.mul_one] at htk; exact htk)
      have hc := Try.slices_SortFunc_total encW encOne cfW swoW 45 #[] g 0 cap (toW rs hw).toArray w enterCmp (cmpReads _ _ _ w).lays hH hg (by rw [hsz]; omega) totW
      rw [hsz] at hc
      refine hc.mono fun e w' ⟨he, m, os, hw'⟩ => ?_
      subst hw'
      have hsv := sort_vals (toW rs hw)
      rw [hvals] at hsv
      have hown := own_sorted (enc := encW) (n := m) (os := os) (ss := toW rs hw) (ts := (toW rs hw).mergeSort fun x y => !ltOf cfW y x) (by rw [List.length_mergeSort]) hbg hcur (by omega) hcm hcs
      rw [hlW, enc_vals, hsv] at hown
      refine ⟨he, hown, (Below.refl _ _).grown (grown_sorted _) hb fun k hk => ?_⟩
      injection hk with hk
      omega
set_option maxHeartbeats 4000000 in
theorem sort_any (A : Option Addr) (n c : Nat) (l : List Nat) (w : World) (h : IsNums w A n c l) (hn : n ≤ 1000) :
    Calls Try.prog 35 #[.slice A n c] w fun e w' => ∃ A' c', e = .returned (.slice A' n c') ∧ IsNums w' A' n c' (sortV l) ∧ Below w.heap.size w w' := by
  have hl := h.len
  obtain ⟨i0, hi, hz0, hz1, hz2⟩ := info_parts infoF
  have hmk := run_makeC n (by omega)
  go_enter Try.func35, Try.ntmps35
  go_wp2_with fail
  go_loopw [3, 5, 11] (fun v _ i wr => ∃ (k : Nat), k ≤ n ∧ i = .int .i64 k ∧ wr.ownsRow w.heap.size 25 1 v k (((l.take k).map cn).map (Value.float .f64)) ∧ Below w.heap.size w wr) (fun _ _ i _ => n - (intOf i).toNat)
  case atStart => exact ⟨0, Nat.zero_le _, rfl, World.ownsRow_made w _ n (Nat.le_refl _) (by unfold maxLen; omega) (by simp [size_madeCells]), (Below.refl _ _).alloc (Nat.le_refl _) _⟩
  case round =>
    obtain ⟨k, hk, rfl, hO, hW⟩ := hrel
    clear hmk
    by_cases hlt : k < n
    · obtain ⟨ad, rfl, hbb, hcell⟩ := (h.rd.next (Nat.le_refl _) hW).get (k := k) (by rw [List.length_map]; omega)
      rw [List.getElem_map] at hcell
      obtain ⟨x, hx0⟩ : ∃ x, l[k]'(by omega) = x := ⟨_, rfl⟩
      rw [hx0] at hcell
      have HX := Lib.hid hx0
      clear hx0
      go_wp2_with (first | (go_at_call 43; refine (bits_any _ _).mono ?_; rintro e w' ⟨rfl, rfl⟩) | (go_at_call 42; refine (from_any _ _).mono ?_; rintro e w' ⟨rfl, rfl⟩) | (at_builtin; go_must (refine wpList_app1 rfl _ _ 24 rfl w.heap.size 25 i0 (.float .f64 0) 8 Try.underlying24 hi hz0 hz1 hz2 rfl _ k _ (by rfl) (by exact hO) (by exact hW.size) (by exact hW) _ (by rfl) (by rfl) (by omega) (by omega) ?_); intro v' w2 hO2 hW2 _))
      go_roundw
      case rel => exact ⟨k + 1, by omega, by go_num, by rw [List.take_succ_eq_append_getElem (by omega), HX.out, List.map_append, List.map_append]; rw [cn_cn] at hO2; exact hO2, hW2⟩
      case measure => simp [intOf]; omega
    · obtain rfl : k = n := by omega
      rw [List.take_of_length_le (by omega)] at hO
      have hwf : ∀ x ∈ l.map cn, x < 18446744073709551616 ∧ cn x = x := fun x hx => by
        obtain ⟨y, hy, rfl⟩ := List.mem_map.1 hx
        exact ⟨cn_lt (h.wf y hy), cn_cn y⟩
      have HC := hide' (sortFunc_own (by omega) hO hwf hW.size)
      have hwf2 := sortV_lt h.wf
      rw [sortV_cn] at HC
      clear hO h hl
      go_wp2_with fail
      refine (unhide' HC).mono ?_
      rintro e w3 ⟨rfl, hO3, hb3⟩
      obtain ⟨A2, c2, rfl, hI⟩ := nums_of_own hO3 hwf2
      have HB := hW.trans hb3
      clear HC hO3 hb3 hwf2
      go_wp2_with fail
      go_ret
      exact ⟨_, _, rfl, hI, HB⟩
end Go.Proofs.Ythiiicgibcgipaa.So
