/- The contracts of newest and living of clean. -/
import Derived.Test.YtchhnjadnacniaaCmH
import Derived.Test.YtchhnjadnacniaaApk
namespace Go.Proofs.Ytchhnjadnacniaa.Cm
set_option linter.unusedSimpArgs false
set_option linter.unusedVariables false
open Go.RowKit

/-- the greatest time of copies. -/
def newT : List CpD → Int
  | [] => 0
  | c :: cs => cs.foldl (fun m x => if m < x.t then x.t else m) c.t
theorem newT_snoc (l : List CpD) (c : CpD) : newT (l ++ [c]) = if l.length = 0 ∨ newT l < c.t then c.t else newT l := by
  cases l with
  | nil => simp [newT]
  | cons x l => simp [newT, List.foldl_append]
theorem newT_step {cs : List CpD} {k : Nat} (hk : k < cs.length) {c : CpD} (hc : cs[k] = c) : newT (cs.take (k + 1)) = if k = 0 ∨ newT (cs.take k) < c.t then c.t else newT (cs.take k) := by
  rw [List.take_succ_eq_append_getElem hk, hc, newT_snoc, List.length_take, Nat.min_eq_left (by omega)]
def liveL (g : Int → List Int) (hz : Int) (cs : List CpD) : List CpD := cs.filter (liveB g hz)
theorem liveL_yes {g : Int → List Int} {hz : Int} {cs : List CpD} {k : Nat} (hk : k < cs.length) {c : CpD} (hc : cs[k] = c) (h : liveB g hz c = true) : liveL g hz (cs.take (k + 1)) = liveL g hz (cs.take k) ++ [c] := by
  unfold liveL; rw [List.take_succ_eq_append_getElem hk, hc, List.filter_append]; simp [h]
theorem liveL_no {g : Int → List Int} {hz : Int} {cs : List CpD} {k : Nat} (hk : k < cs.length) {c : CpD} (hc : cs[k] = c) (h : liveB g hz c = false) : liveL g hz (cs.take (k + 1)) = liveL g hz (cs.take k) := by
  unfold liveL; rw [List.take_succ_eq_append_getElem hk, hc, List.filter_append]; simp [h]
theorem liveL_len (g : Int → List Int) (hz : Int) (cs : List CpD) : (liveL g hz cs).length ≤ cs.length := List.length_filter_le _ _
theorem infoC : (Try.prog.info? 51).map (fun i => (i.size, i.bytes, i.zero.map (·.cells.size))) = some (2, 16, some 2) := by kernel_rfl
theorem infoCs : ∃ i z, Try.prog.info? 51 = some i ∧ i.zero = some z ∧ i.size = 2 ∧ i.bytes = 16 ∧ z.cells.size = 2 := by
  obtain ⟨i, hi, e⟩ := Option.map_eq_some_iff.1 infoC
  injection e with e1 e
  injection e with e2 e3
  obtain ⟨z, hz, hzs⟩ := Option.map_eq_some_iff.1 e3
  exact ⟨i, z, hi, hz, e1, e2, hzs⟩
theorem own_bel' {w w' : World} {B e size n : Nat} {v : Value} {xs : List Value} (h : w.ownsRow B e size v n xs) (hb : Below w.heap.size w w') : w'.ownsRow B e size v n xs := by
  rcases h.2 with h0 | ⟨g, cap, cur, hv, hg, hh, hr⟩
  · exact ⟨h.1, .inl h0⟩
  · exact ⟨h.1, .inr ⟨g, cap, cur, hv, hg, (hb.block g (Array.getElem?_eq_some_iff.1 hh).1).trans hh, hr⟩⟩
set_option maxRecDepth 100000 in
set_option maxHeartbeats 4000000 in
theorem newest_any (A : Option Addr) (n c : Nat) (cs : List CpD) (w : World) (hc : IsCps w A n c cs) (hn : n ≤ 100000) :
    Calls Try.prog 57 #[.slice A n c] w fun e w' => e = .returned (.int .i64 (newT cs)) ∧ Below w.heap.size w w' := by
  have hl := hc.len
  go_enter Try.func57, Try.ntmps57
  go_wp2_with fail
  go_loopw [2, 7] (fun v i wr => ∃ k : Nat, k ≤ n ∧ i = .int .i64 (k : Int) ∧ Below w.heap.size w wr ∧ ∃ s : Int, v = .int .i64 s ∧ Hid (s = newT (cs.take k))) (fun _ i _ => n - (intOf i).toNat)
  case atStart => exact ⟨0, Nat.zero_le _, rfl, Below.refl _ _, 0, rfl, rfl⟩
  case round =>
    obtain ⟨k, hk, rfl, hW, s, rfl, HS⟩ := hrel
    by_cases hlt : k < n
    · obtain ⟨x, hxk⟩ : ∃ x, cs[k]'(by omega) = x := ⟨_, rfl⟩
      obtain ⟨ad, rfl, had, c0, c1⟩ := two_get cp_two (hc.rd.next (Nat.le_refl _) hW) (k := k) (by omega) (u := .int .i64 x.lba) (v := .int .i64 x.t) (by rw [hxk]; rfl)
      have n0 : (k : Int) < (n : Int) := by omega
      have n1 : (0 : Int) ≤ (k : Int) := by omega
      have HX := Lib.hid hxk
      have W2 := Lib.hid (show wrap64 ((k : Int) + 1) = (k : Int) + 1 by unfold wrap64; omega)
      have hW2 : Below w.heap.size w (wr.alloc (.cells #[.int .i64 x.lba, .int .i64 x.t] 51)) := hW.alloc hW.size _
      have HW := Lib.hid hW2
      clear hxk hW2 had
      by_cases hk0 : k = 0
      · have HN := Lib.hid (show x.t = newT (cs.take (k + 1)) by rw [newT_step (by omega) HX.out, if_pos (.inl hk0)])
        have t0 : decide ((k : Int) = 0) = true := decide_eq_true (by omega)
        have t0' : ((k : Int) == 0) = true := by rw [beq_iff_eq]; omega
        clear hk0
        go_wp2_with fail
        go_roundw
        case rel => exact ⟨k + 1, hlt, by first | go_num | (rw [W2.out]; rfl), HW.out, _, rfl, HN⟩
        case measure => first | exact meas hlt | (rw [W2.out]; exact meas hlt)
      · have t0 : decide ((k : Int) = 0) = false := decide_eq_false (by omega)
        have t0' : ((k : Int) == 0) = false := by rw [beq_eq_false_iff_ne]; omega
        by_cases hst : s < x.t
        · have t1 : decide (s < x.t) = true := decide_eq_true hst
          have HN := Lib.hid (show x.t = newT (cs.take (k + 1)) by rw [newT_step (by omega) HX.out, if_pos (.inr (by rw [← HS.out]; exact hst))])
          clear hst
          go_wp2_with fail
          go_roundw
          case rel => exact ⟨k + 1, hlt, by first | go_num | (rw [W2.out]; rfl), HW.out, _, rfl, HN⟩
          case measure => first | exact meas hlt | (rw [W2.out]; exact meas hlt)
        · have t1 : decide (s < x.t) = false := decide_eq_false hst
          have HN := Lib.hid (show s = newT (cs.take (k + 1)) by rw [newT_step (by omega) HX.out, if_neg (by rw [← HS.out]; omega)]; exact HS.out)
          clear hst
          go_wp2_with fail
          go_roundw
          case rel => exact ⟨k + 1, hlt, by first | go_num | (rw [W2.out]; rfl), HW.out, _, rfl, HN⟩
          case measure => first | exact meas hlt | (rw [W2.out]; exact meas hlt)
    · obtain rfl : k = n := by omega
      have HN := Lib.hid (show s = newT cs by have := HS.out; rwa [List.take_of_length_le (by omega)] at this)
      go_wp2_with fail
      go_ret
      exact ⟨ret_int HN.out, hW⟩
set_option maxRecDepth 100000 in
set_option maxHeartbeats 4000000 in
theorem living_any (B gm N M : Nat) (last : Int) (g : Int → List Int) (A : Option Addr) (n c : Nat) (cs : List CpD) (hz : Int) (w : World) (hE : EV w B gm N M last g) (hM : M ≤ 100000) (hc : IsCps w A n c cs) (hn : n ≤ 100000) :
    Calls Try.prog 56 #[.pointer (some ⟨gm, 0, none⟩), .slice A n c, .int .i64 hz] w fun e w' => (∃ A' c', e = .returned (.slice A' (liveL g hz cs).length c') ∧ w'.ownsRow w.heap.size 51 2 (.slice A' (liveL g hz cs).length c') (liveL g hz cs).length ((liveL g hz cs).flatMap CpD.cells)) ∧ Below w.heap.size w w' := by
  have hl := hc.len
  obtain ⟨xi, xz, hxi, hxz, hx3, hx40, hxc⟩ := infoCs
  go_enter Try.func56, Try.ntmps56
  go_wp2_with fail
  go_loopw [6, 11] (fun v i wr => ∃ k : Nat, k ≤ n ∧ i = .int .i64 (k : Int) ∧ Below w.heap.size w wr ∧ wr.ownsRow w.heap.size 51 2 v (liveL g hz (cs.take k)).length ((liveL g hz (cs.take k)).flatMap CpD.cells)) (fun _ i _ => n - (intOf i).toNat)
  case atStart => exact ⟨0, Nat.zero_le _, rfl, Below.refl _ _, ⟨rfl, .inl ⟨rfl, rfl⟩⟩⟩
  case round =>
    obtain ⟨k, hk, rfl, hW, hO⟩ := hrel
    by_cases hlt : k < n
    · obtain ⟨x, hxk⟩ : ∃ x, cs[k]'(by omega) = x := ⟨_, rfl⟩
      obtain ⟨ad, rfl, had, c0, c1⟩ := two_get cp_two (hc.rd.next (Nat.le_refl _) hW) (k := k) (by omega) (u := .int .i64 x.lba) (v := .int .i64 x.t) (by rw [hxk]; rfl)
      have n0 : (k : Int) < (n : Int) := by omega
      have n1 : (0 : Int) ≤ (k : Int) := by omega
      obtain ⟨w4, hw4⟩ : ∃ w4, wr.alloc (.cells #[.int .i64 x.lba, .int .i64 x.t] 51) = w4 := ⟨_, rfl⟩
      have hb4 : Below wr.heap.size wr w4 := by rw [← hw4]; exact (Below.refl _ _).alloc (Nat.le_refl _) _
      have hx4 : Bk w4 wr.heap.size 51 [.int .i64 x.lba, .int .i64 x.t] := by rw [← hw4]; exact Bk.new wr _ _
      have hE4 : EV w4 B gm N M last g := (hE.next hW).next hb4
      have d0 := hx4.cell (i := 0) (by simp)
      have d1 := hx4.cell (i := 1) (by simp)
      simp only [List.getElem_cons_zero, List.getElem_cons_succ] at d0 d1
      have HX := Lib.hid (And.intro hxk (And.intro hb4 (And.intro hx4 (And.intro hW hO))))
      have hlen : (liveL g hz (cs.take k)).length ≤ 100000 := by have := liveL_len g hz (cs.take k); rw [List.length_take] at this; omega
      have HLEN := Lib.hid hlen
      clear hxk hb4 hx4 had hlen hO hW
      go_wp2_with fail
      refine (live_any B gm N M last g x hz w4 hE4 hM).mono ?_
      rintro e w5 ⟨rfl, hb5⟩
      have e0 : w5.cell? ⟨wr.heap.size, 0, none⟩ = some (.int .i64 x.lba) := (HX.out.2.2.1.next hb5 HX.out.2.2.1.lt).cell (i := 0) (by simp)
      have e1 : w5.cell? ⟨wr.heap.size, 1, none⟩ = some (.int .i64 x.t) := (HX.out.2.2.1.next hb5 HX.out.2.2.1.lt).cell (i := 1) (by simp)
      have hb6 : Below wr.heap.size wr w5 := HX.out.2.1.trans (hb5.mono HX.out.2.1.size)
      have hO5 := own_bel' HX.out.2.2.2.2 hb6
      have hW5 := HX.out.2.2.2.1.trans (hb6.mono HX.out.2.2.2.1.size)
      cases hlv : liveB g hz x
      · have HN := Lib.hid (liveL_no (by omega) HX.out.1 hlv)
        have HG := Lib.hid (And.intro hO5 hW5)
        clear hlv hO5 hW5 hb6 hb5
        go_wp2_with fail
        go_roundw
        case rel => exact ⟨k + 1, hlt, by go_num, HG.out.2, by rw [HN.out]; exact HG.out.1⟩
        case measure => exact meas hlt
      · have HN := Lib.hid (liveL_yes (by omega) HX.out.1 hlv)
        have hO6 := own_bel' hO5 ((Below.refl _ _).alloc (Nat.le_refl _) (.cells #[.int .i64 x.lba, .int .i64 x.t] 51))
        have hW6 : Below w.heap.size w (w5.alloc (.cells #[.int .i64 x.lba, .int .i64 x.t] 51)) := hW5.alloc hW5.size _
        have HG := Lib.hid (And.intro hO6 hW6)
        clear hlv hO5 hW5 hb6 hb5 hO6 hW6
        go_wp2_with (at_builtin; go_must (refine wpList_appK _ rfl _ _ 54 rfl w.heap.size 51 xi xz 16 Try.underlying54 hxi hxz 2 (by decide) hx3 hx40 hxc _ (liveL g hz (cs.take k)).length _ (by rfl) (by exact HG.out.1) (w5.heap.size + 1) (some ⟨w5.heap.size, 0, none⟩) 1 1 [.int .i64 x.lba, .int .i64 x.t] (by rfl) rfl (by simpa using (Bk.new w5 51 [.int .i64 x.lba, .int .i64 x.t]).rd) (by intro u hu; simp at hu; rcases hu with rfl | rfl <;> rfl) (by have := HLEN.out; omega) (by have := HLEN.out; omega) (by exact HG.out.2.size) ?_); intro v9 W9 hO9 hG9)
        have hS9 := HG.out.2.grown hG9 HG.out.2.size (fun g hg => (own_obj HG.out.1 hg).1)
        go_roundw
        case rel => exact ⟨k + 1, hlt, by go_num, hS9, by rw [HN.out, List.length_append, List.flatMap_append]; simpa [CpD.cells] using hO9⟩
        case measure => exact meas hlt
    · obtain rfl : k = n := by omega
      rw [List.take_of_length_le (by omega)] at hO
      obtain ⟨A', c', rfl⟩ := own_shape hO
      go_wp2_with fail
      go_ret
      exact ⟨⟨A', c', rfl, hO⟩, hW⟩
end Go.Proofs.Ytchhnjadnacniaa.Cm
