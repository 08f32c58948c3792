/- Contracts of the comparisons, of the closure by which score.Rank sorts, and of slices.SortFunc of a row of the call's own by it. -/
import Derived.Test.YtchhnjadnacniaaRkA
import Derived.Test.YtchhnjadnacniaaFbK
import Derived.Test.YtchhnjadnacniaaAp
import Derived.Test.YtchhnjadnacniaaHeld
import Derived.Test.YtchhnjadnacniaaShelf
import Derived.LoopTactic
import Derived.LoopN
import Derived.Lib.Hide
import Derived.Deep.DeepMust
import Derived.Laws.MakeOwn
import Derived.Laws.Entries
import Derived.WalkSpells
import Derived.Deep.AppendLies
namespace Go.Proofs.Ytchhnjadnacniaa.Rk
set_option linter.unusedSimpArgs false
set_option linter.unusedVariables false
open Go.RowKit Go.Sort Go.Lib Fl Fb Sc
open Go.Proofs.Ytchhnjadnacniaa.So
attribute [local go_sem] u64_unsigned

set_option maxHeartbeats 1000000 in
theorem cmp64_any (a b : Nat) (w : World) :
    Calls Try.prog 63 #[.int .u64 a, .int .u64 b] w fun e w' => e = .returned (.int .i64 (cmpN a b)) ∧ w = w' := by
  rcases Nat.lt_trichotomy a b with h | h | h
  · have t1 : decide (a < b) = true := decide_eq_true h
    go_enter Try.func63, Try.ntmps63
    go_wp2
    go_ret
    exact ⟨ret_int (by unfold cmpN; rw [if_pos h]), rfl⟩
  · subst h
    have t1 : decide (a < a) = false := decide_eq_false (by omega)
    go_enter Try.func63, Try.ntmps63
    go_wp2
    go_ret
    exact ⟨ret_int (by unfold cmpN; rw [if_neg (by omega), if_neg (by omega)]), rfl⟩
  · have t1 : decide (a < b) = false := decide_eq_false (by omega)
    have t2 : decide (b < a) = true := decide_eq_true h
    go_enter Try.func63, Try.ntmps63
    go_wp2
    go_ret
    exact ⟨ret_int (by unfold cmpN; rw [if_neg (by omega), if_pos h]), rfl⟩
set_option maxHeartbeats 1000000 in
theorem cmp_any (x y : Nat) (w : World) (hx : lt64 x) (hy : lt64 y) :
    Calls Try.prog 37 #[.float .f64 x, .float .f64 y] w fun e w' => e = .returned (.int .i64 (cmpN (keyV x) (keyV y))) ∧ w = w' := by
  go_enter Try.func37, Try.ntmps37
  go_wp2_with fail
  refine (key_any _ _ hx).mono ?_
  rintro e w' ⟨rfl, rfl⟩
  go_wp2_with fail
  refine (key_any _ _ hy).mono ?_
  rintro e w' ⟨rfl, rfl⟩
  go_wp2_with fail
  refine (cmp64_any _ _ _).mono ?_
  rintro e w' ⟨rfl, rfl⟩
  go_wp2_with fail
  go_ret
  exact ⟨rfl, rfl⟩
set_option maxHeartbeats 1000000 in
theorem rcmp_any (x y : Nat) (w : World) (hx : lt64 x) (hy : lt64 y) :
    Calls Try.prog 43 #[.float .f64 x, .float .f64 y] w fun e w' => e = .returned (.int .i64 (cmpN (keyV x) (keyV y))) ∧ w = w' := by
  rcases Nat.lt_trichotomy (keyV x) (keyV y) with h | h | h
  all_goals
    first
    | (have t1 : decide (keyV x < keyV y) = true := decide_eq_true h)
    | (have t1 : decide (keyV x < keyV y) = false := decide_eq_false (by omega); have t2 : decide (keyV y < keyV x) = true := decide_eq_true (by omega))
    | (have t1 : decide (keyV x < keyV y) = false := decide_eq_false (by omega); have t2 : decide (keyV y < keyV x) = false := decide_eq_false (by omega))
    have HH := Lib.hid (show cmpN (keyV x) (keyV y) = _ from rfl)
    obtain ⟨r, hr⟩ : ∃ r, cmpN (keyV x) (keyV y) = r := ⟨_, rfl⟩
    have HR := Lib.hid hr
    have hv : r = (if keyV x < keyV y then -1 else if keyV y < keyV x then 1 else 0) := by rw [← hr]; rfl
    have HV := Lib.hid hv
    rw [hr]
    clear hr hv HH
    have HO := Lib.hid h
    clear h
    go_enter Try.func43, Try.ntmps43
    go_wp2_with fail
    refine (rkey_any _ _ hx).mono ?_
    rintro e w' ⟨rfl, rfl⟩
    go_wp2_with fail
    refine (rkey_any _ _ hy).mono ?_
    rintro e w' ⟨rfl, rfl⟩
    go_wp2_with fail
    go_ret
    exact ⟨ret_int (by rw [HV.out]; have h := HO.out; first | rw [if_neg (by omega), if_pos (by omega)] | rw [if_neg (by omega), if_neg (by omega)] | rw [if_pos h]), rfl⟩
set_option maxHeartbeats 1000000 in
theorem cmpI_any (a b : Nat) (w : World) :
    Calls Try.prog 38 #[.int .i64 a, .int .i64 b] w fun e w' => e = .returned (.int .i64 (cmpN a b)) ∧ w = w' := by
  rcases Nat.lt_trichotomy a b with h | h | h
  · have t1 : decide (a < b) = true := decide_eq_true h
    have HR := Lib.hid (show cmpN a b = -1 by unfold cmpN; rw [if_pos h])
    clear h
    go_enter Try.func38, Try.ntmps38
    go_wp2
    go_ret
    exact ⟨ret_int (by rw [HR.out]), rfl⟩
  · subst h
    have t1 : decide (a < a) = false := decide_eq_false (by omega)
    have HR := Lib.hid (show cmpN a a = 0 by unfold cmpN; rw [if_neg (by omega), if_neg (by omega)])
    go_enter Try.func38, Try.ntmps38
    go_wp2
    go_ret
    exact ⟨ret_int (by rw [HR.out]), rfl⟩
  · have t1 : decide (a < b) = false := decide_eq_false (by omega)
    have t2 : decide (b < a) = true := decide_eq_true h
    have HR := Lib.hid (show cmpN a b = 1 by unfold cmpN; rw [if_neg (by omega), if_pos h])
    clear h
    go_enter Try.func38, Try.ntmps38
    go_wp2
    go_ret
    exact ⟨ret_int (by rw [HR.out]), rfl⟩
theorem or_1 {x y r : Int} (h : (x != 0) = true) (hr : orV x y = r) : x = r := by unfold orV at hr; rw [← hr, if_neg (by simpa using h)]
theorem or_2 {x y r : Int} (h : (x != 0) = false) (hr : orV x y = r) : y = r := by unfold orV at hr; rw [← hr, if_pos (by simpa using h)]
theorem or_3 {x y r : Int} (h : (x != 0) = false) (h2 : (y != 0) = false) (hr : orV x y = r) : 0 = r := by unfold orV at hr; rw [← hr, if_pos (by simpa using h)]; simp at h2; exact h2.symm
set_option maxHeartbeats 1000000 in
theorem or_any (g : Nat) (x y : Int) (w : World) (h0 : w.cell? ⟨g, 0, none⟩ = some (.int .i64 x)) (h1 : w.cell? ⟨g, 1, none⟩ = some (.int .i64 y)) :
    Calls Try.prog 36 #[.slice (some ⟨g, 0, none⟩) 2 2] w fun e w' => e = .returned (.int .i64 (orV x y)) ∧ w = w' := by
  obtain ⟨r, hr⟩ : ∃ r, orV x y = r := ⟨_, rfl⟩
  have HR := Lib.hid hr
  rw [hr]
  clear hr
  go_enter Try.func36, Try.ntmps36
  go_wp2_with fail
  refine wp_loop_rounds 3 ?_
  rw [rounds_succ]
  go_wp2
  · go_ret
    exact ⟨ret_int (or_1 (by assumption) HR.out), rfl⟩
  · rw [rounds_succ]
    go_wp2
    · go_ret
      exact ⟨ret_int (or_2 (by assumption) HR.out), rfl⟩
    · rw [rounds_succ]
      go_wp2
      go_ret
      exact ⟨ret_int (or_3 (by assumption) (by assumption) HR.out), rfl⟩
theorem grow_one (w : World) (o : Obj) : w.alloc o = grow w #[o] := congrArg (fun h => { w with heap := h }) Array.push_eq_append
theorem drewN_alloc (w : World) (q : Nat) (o : Obj) : (w.drewN q).alloc o = grow (w.drewN q) #[o] := grow_one _ _
/-- the cells of L stand, each in a block that is there; the world has drawn, and has new blocks. -/
structure Gk (L : List (Nat × Nat × Value)) (w0 w : World) : Prop where
  cells : ∀ c ∈ L, c.1 < w.heap.size ∧ w.cell? ⟨c.1, c.2.1, none⟩ = some c.2.2
  form : ∃ q os, w = grow (w0.drewN q) os
theorem Gk.nil (w : World) : Gk [] w w := ⟨fun c hc => by simp at hc, 0, #[], by rw [grow_empty]; rfl⟩
theorem Gk.add {L : List (Nat × Nat × Value)} {w0 w : World} {b o : Nat} {v : Value} (h : Gk L w0 w) (hb : b < w.heap.size) (hc : w.cell? ⟨b, o, none⟩ = some v) : Gk ((b, o, v) :: L) w0 w :=
  ⟨fun c hm => by
    rcases List.mem_cons.1 hm with rfl | hm
    · exact ⟨hb, hc⟩
    · exact h.cells c hm, h.form⟩
theorem Gk.head {L : List (Nat × Nat × Value)} {w0 w : World} {b o : Nat} {v : Value} (h : Gk ((b, o, v) :: L) w0 w) : w.cell? ⟨b, o, none⟩ = some v := (h.cells _ (List.mem_cons_self ..)).2
theorem Gk.tail {L : List (Nat × Nat × Value)} {w0 w : World} {c : Nat × Nat × Value} (h : Gk (c :: L) w0 w) : Gk L w0 w := ⟨fun d hd => h.cells d (List.mem_cons_of_mem _ hd), h.form⟩
theorem Gk.drewN {L : List (Nat × Nat × Value)} {w0 w : World} (h : Gk L w0 w) (n : Nat) : Gk L w0 (w.drewN n) :=
  ⟨h.cells, by obtain ⟨q, os, rfl⟩ := h.form; exact ⟨q + n, os, by rw [← World.drewN_drewN]; rfl⟩⟩
theorem Gk.drew {L : List (Nat × Nat × Value)} {w0 w : World} (h : Gk L w0 w) : Gk L w0 w.drew := h.drewN 1
theorem Gk.alloc {L : List (Nat × Nat × Value)} {w0 w : World} (h : Gk L w0 w) (o : Obj) : Gk L w0 (w.alloc o) :=
  ⟨fun c hc => by
    have hb : Below w.heap.size w (w.alloc o) := (Below.refl _ _).alloc (Nat.le_refl _) _
    exact ⟨Nat.lt_of_lt_of_le (h.cells c hc).1 hb.size, (hb.cell (p := ⟨c.1, c.2.1, none⟩) (h.cells c hc).1).trans (h.cells c hc).2⟩,
   by obtain ⟨q, os, rfl⟩ := h.form; exact ⟨q, os ++ #[o], by rw [grow_one, grow_grow]⟩⟩
set_option maxHeartbeats 4000000 in
theorem clos_any (b0 b1 i j n : Nat) (ws : List Nat) (w : World) (h0 : Bk w b0 31 (ws.map (Value.float .f64))) (h1 : Bk w b1 73 [.slice (some ⟨b0, 0, none⟩) n n]) (hn : n = ws.length) (hn2 : n ≤ 1000000) (hi : i < n) (hj : j < n) (hw : ∀ x ∈ ws, x ≤ 9218868437227405312) :
    Calls Try.prog 35 #[.int .i64 i, .int .i64 j, .pointer (some ⟨b1, 0, none⟩)] w fun e w' => e = .returned (.int .i64 (cR ws i j)) ∧ ∃ q os', w' = grow (w.drewN q) os' := by
  have c1 := h1.cell (i := 0) (by simp)
  have ci := h0.cell (i := i) (by rw [List.length_map]; omega)
  have cj := h0.cell (i := j) (by rw [List.length_map]; omega)
  rw [List.getElem_map] at ci cj
  obtain ⟨x, hx⟩ : ∃ x, ws[i]'(by omega) = x := ⟨_, rfl⟩
  obtain ⟨y, hy⟩ : ∃ y, ws[j]'(by omega) = y := ⟨_, rfl⟩
  have gi : gt0 ws i = x := by unfold gt0; rw [List.getD_eq_getElem?_getD, List.getElem?_eq_getElem (by omega), hx]; rfl
  have gj : gt0 ws j = y := by unfold gt0; rw [List.getD_eq_getElem?_getD, List.getElem?_eq_getElem (by omega), hy]; rfl
  have hx2 : lt64 x := by have := gt0_le hw i; rw [gi] at this; show x < _; omega
  have hy2 : lt64 y := by have := gt0_le hw j; rw [gj] at this; show y < _; omega
  rw [hx] at ci
  rw [hy] at cj
  have mi : (0 : Int) ≤ (i : Int) := by omega
  have mi2 : (i : Int) < (n : Int) := by omega
  have mj : (0 : Int) ≤ (j : Int) := by omega
  have mj2 : (j : Int) < (n : Int) := by omega
  have wi : IntKind.i64.wrap (i : Int) = i := IntWalk.i64_in _ (by omega)
  have wj : IntKind.i64.wrap (j : Int) = j := IntWalk.i64_in _ (by omega)
  have HR := Lib.hid (show cR ws i j = orV (cmpN (keyV y) (keyV x)) (cmpN i j) by unfold cR; rw [gi, gj])
  have hG : Gk [(b1, 0, Value.slice (some ⟨b0, 0, none⟩) n n), (b0, i, Value.float .f64 x), (b0, j, Value.float .f64 y)] w w := (((Gk.nil w).add h0.lt cj).add h0.lt ci).add h1.lt c1
  clear hx hy gi gj hn hn2 hw h0 h1 c1 ci cj
  go_enter Try.func35, Try.ntmps35
  go_wp2_with fail
  refine wp_region_held_drew (S := Gk [(b1, 0, Value.slice (some ⟨b0, 0, none⟩) n n), (b0, i, Value.float .f64 x), (b0, j, Value.float .f64 y)] w) (by kernel_rfl) (by first | exact hG.drew | exact hG.drewN _ | exact hG) (fun hHeld => ?_)
  refine wpAnyH_take (i := 0) (v := ?v1_0) (by simp only [List.getElem?_toArray, List.getElem?_cons_succ, List.getElem?_cons_zero]; rfl) (by kernel_rfl) (by kernel_rfl) (by kernel_rfl) (by exact fun _ _ _ h => h) (Or.inl ⟨by rfl, ?h1_0⟩) hHeld ?_
  case h1_0 => (intro w' hSw; have k0 := hSw.head; have k1 := hSw.tail.head; have k2 := hSw.tail.tail.head; go_simp <;> with_reducible rfl)
  try simp only [Act.put, List.setIfInBounds_toArray, List.set_cons_zero, List.set_cons_succ]
  refine wpAnyH_take (i := 1) (v := ?v2_1) (by simp only [List.getElem?_toArray, List.getElem?_cons_succ, List.getElem?_cons_zero]; rfl) (by kernel_rfl) (by kernel_rfl) (by kernel_rfl) (by exact fun _ _ _ h => h) (Or.inl ⟨by rfl, ?h2_1⟩) hHeld ?_
  case h2_1 => (intro w' hSw; have k0 := hSw.head; have k1 := hSw.tail.head; have k2 := hSw.tail.tail.head; go_simp <;> with_reducible rfl)
  try simp only [Act.put, List.setIfInBounds_toArray, List.set_cons_zero, List.set_cons_succ]
  refine wpAnyH_take (i := 2) (v := ?v3_2) (by simp only [List.getElem?_toArray, List.getElem?_cons_succ, List.getElem?_cons_zero]; rfl) (by kernel_rfl) (by kernel_rfl) (by kernel_rfl) (by exact fun _ _ _ h => h) (Or.inl ⟨by rfl, ?h3_2⟩) hHeld ?_
  case h3_2 => (intro w' hSw; have k0 := hSw.head; have k1 := hSw.tail.head; have k2 := hSw.tail.tail.head; go_simp <;> with_reducible rfl)
  try simp only [Act.put, List.setIfInBounds_toArray, List.set_cons_zero, List.set_cons_succ]
  refine wpAnyH_take (i := 3) (v := ?v4_3) (by simp only [List.getElem?_toArray, List.getElem?_cons_succ, List.getElem?_cons_zero]; rfl) (by kernel_rfl) (by kernel_rfl) (by kernel_rfl) (by exact fun _ _ _ h => h) (Or.inl ⟨by rfl, ?h4_3⟩) hHeld ?_
  case h4_3 => (intro w' hSw; have k0 := hSw.head; have k1 := hSw.tail.head; have k2 := hSw.tail.tail.head; go_simp <;> with_reducible rfl)
  try simp only [Act.put, List.setIfInBounds_toArray, List.set_cons_zero, List.set_cons_succ]
  refine wpAnyH_take (i := 4) (v := ?v5_4) (by simp only [List.getElem?_toArray, List.getElem?_cons_succ, List.getElem?_cons_zero]; rfl) (by kernel_rfl) (by kernel_rfl) (by kernel_rfl) (by exact fun _ _ _ h => h) (Or.inl ⟨by rfl, ?h5_4⟩) hHeld ?_
  case h5_4 => (intro w' hSw; have k0 := hSw.head; have k1 := hSw.tail.head; have k2 := hSw.tail.tail.head; go_simp <;> with_reducible rfl)
  try simp only [Act.put, List.setIfInBounds_toArray, List.set_cons_zero, List.set_cons_succ]
  refine wpAnyH_take (i := 5) (v := ?v6_5) (by simp only [List.getElem?_toArray, List.getElem?_cons_succ, List.getElem?_cons_zero]; rfl) (by kernel_rfl) (by kernel_rfl) (by kernel_rfl) (by exact fun _ _ _ h => h) (Or.inl ⟨by rfl, ?h6_5⟩) hHeld ?_
  case h6_5 => (intro w' hSw; have k0 := hSw.head; have k1 := hSw.tail.head; have k2 := hSw.tail.tail.head; go_simp <;> with_reducible rfl)
  try simp only [Act.put, List.setIfInBounds_toArray, List.set_cons_zero, List.set_cons_succ]
  refine wpAnyH_take (i := 6) (v := ?v7_6) (by simp only [List.getElem?_toArray, List.getElem?_cons_succ, List.getElem?_cons_zero]; rfl) (by kernel_rfl) (by kernel_rfl) (by kernel_rfl) (by exact fun _ _ _ h => h) (Or.inl ⟨by rfl, ?h7_6⟩) hHeld ?_
  case h7_6 => (intro w' hSw; have k0 := hSw.head; have k1 := hSw.tail.head; have k2 := hSw.tail.tail.head; go_simp <;> with_reducible rfl)
  try simp only [Act.put, List.setIfInBounds_toArray, List.set_cons_zero, List.set_cons_succ]
  refine wpAnyH_take (i := 7) (v := ?v8_7) (by simp only [List.getElem?_toArray, List.getElem?_cons_succ, List.getElem?_cons_zero]; rfl) (by kernel_rfl) (by kernel_rfl) (by kernel_rfl) (by exact fun _ _ _ h => h) (Or.inl ⟨by rfl, ?h8_7⟩) hHeld ?_
  case h8_7 => (intro w' hSw; have k0 := hSw.head; have k1 := hSw.tail.head; have k2 := hSw.tail.tail.head; go_simp <;> with_reducible rfl)
  try simp only [Act.put, List.setIfInBounds_toArray, List.set_cons_zero, List.set_cons_succ]
  refine wpAnyH_take (i := 9) (v := ?v9_9) (by simp only [List.getElem?_toArray, List.getElem?_cons_succ, List.getElem?_cons_zero]; rfl) (by kernel_rfl) (by kernel_rfl) (by kernel_rfl) (by exact fun _ _ _ h => h) (Or.inl ⟨by rfl, ?h9_9⟩) hHeld ?_
  case h9_9 => (intro w' hSw; have k0 := hSw.head; have k1 := hSw.tail.head; have k2 := hSw.tail.tail.head; go_simp <;> with_reducible rfl)
  try simp only [Act.put, List.setIfInBounds_toArray, List.set_cons_zero, List.set_cons_succ]
  refine wpAnyH_take (i := 10) (v := ?v10_10) (by simp only [List.getElem?_toArray, List.getElem?_cons_succ, List.getElem?_cons_zero]; rfl) (by kernel_rfl) (by kernel_rfl) (by kernel_rfl) (by exact fun _ _ _ h => h) (Or.inl ⟨by rfl, ?h10_10⟩) hHeld ?_
  case h10_10 => (intro w' hSw; have k0 := hSw.head; have k1 := hSw.tail.head; have k2 := hSw.tail.tail.head; go_simp <;> with_reducible rfl)
  try simp only [Act.put, List.setIfInBounds_toArray, List.set_cons_zero, List.set_cons_succ]
  refine wpAnyH_ready (rs := [8]) (by kernel_rfl) (by simp) ?_
  refine AllReadyH.cons (by simp only [List.getElem?_toArray, List.getElem?_cons_succ, List.getElem?_cons_zero]; rfl) (fun K hK => ?_) AllReadyH.nil
  go_simp
  refine (cmp_any _ _ _ hy2 hx2).mono ?_
  rintro e w' ⟨rfl, rfl⟩
  go_simp
  refine hK.out _ _ (by first | exact hHeld | exact hHeld.alloc _ | exact hHeld.drewN _) (fun hHeld2 => ?_)
  clear hK K hHeld
  rename Gk _ _ _ => hHeld
  try simp only [Act.put, List.setIfInBounds_toArray, List.set_cons_zero, List.set_cons_succ]
  refine wpAnyH_ready (rs := [11]) (by kernel_rfl) (by simp) ?_
  refine AllReadyH.cons (by simp only [List.getElem?_toArray, List.getElem?_cons_succ, List.getElem?_cons_zero]; rfl) (fun K hK => ?_) AllReadyH.nil
  go_simp
  refine (cmpI_any _ _ _).mono ?_
  rintro e w' ⟨rfl, rfl⟩
  go_simp
  refine hK.out _ _ (by first | exact hHeld | exact hHeld.alloc _ | exact hHeld.drewN _) (fun hHeld2 => ?_)
  clear hK K hHeld
  rename Gk _ _ _ => hHeld
  try simp only [Act.put, List.setIfInBounds_toArray, List.set_cons_zero, List.set_cons_succ]
  refine wpAnyH_ready (rs := [12]) (by kernel_rfl) (by simp) ?_
  refine AllReadyH.cons (by simp only [List.getElem?_toArray, List.getElem?_cons_succ, List.getElem?_cons_zero]; rfl) (fun K hK => ?_) AllReadyH.nil
  go_simp
  refine hK.out _ _ (by first | exact hHeld | exact hHeld.alloc _ | exact hHeld.drewN _) (fun hHeld2 => ?_)
  clear hK K hHeld
  rename Gk _ _ _ => hHeld
  try simp only [Act.put, List.setIfInBounds_toArray, List.set_cons_zero, List.set_cons_succ]
  refine wpAnyH_ready (rs := [13]) (by kernel_rfl) (by simp) ?_
  refine AllReadyH.cons (by simp only [List.getElem?_toArray, List.getElem?_cons_succ, List.getElem?_cons_zero]; rfl) (fun K hK => ?_) AllReadyH.nil
  go_simp
  refine (or_any _ _ _ _ (by exact (Bk.new w 3 [_, _]).cell (i := 0) (by simp)) (by exact (Bk.new w 3 [_, _]).cell (i := 1) (by simp))).mono ?_
  rintro e w' ⟨rfl, rfl⟩
  go_simp
  refine hK.out _ _ (by first | exact hHeld | exact hHeld.alloc _ | exact hHeld.drewN _) (fun hHeld2 => ?_)
  clear hK K hHeld
  rename Gk _ _ _ => hHeld
  try simp only [Act.put, List.setIfInBounds_toArray, List.set_cons_zero, List.set_cons_succ]
  refine wpAnyH_take (i := 14) (v := ?v11_14) (by simp only [List.getElem?_toArray, List.getElem?_cons_succ, List.getElem?_cons_zero]; rfl) (by kernel_rfl) (by kernel_rfl) (by kernel_rfl) (by exact fun _ _ _ h => h) (Or.inl ⟨by rfl, ?h11_14⟩) hHeld ?_
  case h11_14 => (intro w' hSw; have k0 := hSw.head; have k1 := hSw.tail.head; have k2 := hSw.tail.tail.head; go_simp <;> with_reducible rfl)
  try simp only [Act.put, List.setIfInBounds_toArray, List.set_cons_zero, List.set_cons_succ]
  refine wpAnyH_done (by kernel_rfl) ?_ _
  go_wp2_with fail
  go_ret
  refine ⟨ret_int ?_, hHeld.form⟩
  rw [HR.out]
def encI {n : Nat} (x : Fin n) : Value := .int .i64 (x.1 : Int)
theorem oneI {n : Nat} : OneCell (encI (n := n)) := fun _ => rfl
theorem enterR : ∀ args w, (callFunc 35 args).run Try.prog w = .ok (.enter 35 args) w := enters_of Try.func35 (by kernel_rfl) rfl
def nv (i : Nat) : Value := .int .i64 (i : Int)
theorem fins_of (n : Nat) : (is : List Nat) → (∀ i ∈ is, i < n) → ∃ fs : List (Fin n), fs.map (fun x => x.1) = is
  | [], _ => ⟨[], rfl⟩
  | i :: is, h => by
    obtain ⟨fs, hf⟩ := fins_of n is fun j hj => h j (List.mem_cons_of_mem _ hj)
    exact ⟨⟨i, h i (List.mem_cons_self ..)⟩ :: fs, by rw [List.map_cons, hf]⟩
theorem enc_fins {n : Nat} (fs : List (Fin n)) : fs.map encI = (fs.map fun x => x.1).map nv := by rw [List.map_map]; rfl
theorem bk_sorted {α : Type} [Inhabited α] {enc : α → Value} {w : World} {g n k : Nat} {os : Array Obj} {d : Array α} {t : TypeId} {cs : List Value} (h : Bk w k t cs) (hne : k ≠ g) : Bk (sortWorld enc w g 0 n d os) k t cs :=
  ((grown_sorted (enc := enc) (w := w) (g := g) (n := n) (os := os) d).block k h.lt (fun e => by injection e with e; exact hne e)).trans h
/-- slices.SortFunc of a row of the call's own, by the closure that reads the scores. -/
theorem sortR_own {w : World} {base b0 b1 m : Nat} {v : Value} {is ws : List Nat} {n : Nat} (hm : m ≤ 1000000) (hn2 : n ≤ 1000000) (hn : n = ws.length) (h : w.ownsRow base 3 1 v m (is.map nv)) (hi : ∀ i ∈ is, i < n) (hb : base ≤ w.heap.size) (hb0 : b0 < base) (hb1 : b1 < base)
    (h0 : Bk w b0 31 (ws.map (Value.float .f64))) (h1 : Bk w b1 73 [.slice (some ⟨b0, 0, none⟩) n n]) (hw : ∀ x ∈ ws, x ≤ 9218868437227405312) :
    Calls Try.prog 34 #[v, .func (.func 35) #[] #[.pointer (some ⟨b1, 0, none⟩)]] w fun e w' => e = .returned (.tuple #[]) ∧ w'.ownsRow base 3 1 v m ((is.mergeSort (leR ws)).map nv) ∧ Below base w w' := by
  have hl : is.length = m := by have := h.1; rw [List.length_map] at this; omega
  rcases Nat.eq_zero_or_pos m with hz | hz
  · subst hz
    obtain rfl : is = [] := List.eq_nil_of_length_eq_zero hl
    have hs : ([] : List Nat).mergeSort (leR ws) = [] := by simp
    rw [hs]
    rcases h.2 with ⟨rfl, _⟩ | ⟨g, cap, cur, rfl, _⟩
    · exact (Try.slices_SortFunc_none (α := Wd) _ _ _ w).mono fun e w' ⟨he, hw'⟩ => by subst hw'; exact ⟨he, h, Below.refl _ _⟩
    · exact (Try.slices_SortFunc_none (α := Wd) _ _ _ w).mono fun e w' ⟨he, hw'⟩ => by subst hw'; exact ⟨he, h, Below.refl _ _⟩
  · rcases h.2 with ⟨_, h1⟩ | ⟨g, cap, cur, rfl, hbg, hcur, hnc, hcm, hcs, htk⟩
    · omega
    · have hpos : 0 < n := by
        cases is with
        | nil => simp at hl; omega
        | cons i is => have := hi i (List.mem_cons_self ..); omega
      have : Inhabited (Fin n) := ⟨⟨0, hpos⟩⟩
      obtain ⟨fs, hfs⟩ := fins_of n is hi
      have hlf : fs.length = m := by have := congrArg List.length hfs; rw [List.length_map] at this; omega
      have hsz : fs.toArray.size = m := by simpa using hlf
      have hg : g < w.heap.size := (Array.getElem?_eq_some_iff.1 hcur).1
      have hH : Holds encI w g 0 fs.toArray := holds_own hcur (by rw [hlf, enc_fins, hfs]; rw [Nat.mul_one] at htk; exact htk)
      have hc := Try.slices_SortFunc_total encI oneI (fun x y : Fin n => cR ws x.1 y.1) (swoR hw n) 35 #[.pointer (some ⟨b1, 0, none⟩)] g 0 cap fs.toArray w enterR
        (fun q os dk _ x y => clos_any b0 b1 x.1 y.1 n ws _ (bk_sorted h0 (by omega)) (bk_sorted h1 (by omega)) hn hn2 x.2 y.2 hw) hH hg (by rw [hsz]; omega) (totR hw)
      rw [hsz] at hc
      refine hc.mono fun e w' ⟨he, q, os, hw'⟩ => ?_
      subst hw'
      have hsv := sort_fins hw fs
      rw [hfs] at hsv
      have hown := own_sorted (enc := encI) (n := q) (os := os) (ss := fs) (ts := fs.mergeSort fun x y => !ltOf (fun x y : Fin n => cR ws x.1 y.1) y x) (by rw [List.length_mergeSort]) hbg hcur (by omega) hcm hcs
      rw [hlf, enc_fins, hsv] at hown
      refine ⟨he, hown, (Below.refl _ _).grown (grown_sorted _) hb fun k hk => ?_⟩
      injection hk with hk
      omega
end Go.Proofs.Ytchhnjadnacniaa.Rk
