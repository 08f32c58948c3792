/- Rows of copies, how they read and are opened; contracts of Sum, Puts and Txs and of scarplaw20.small. -/
import Derived.Test.YtchhnjadnacniaaCmA
import Derived.Test.YtchhnjadnacniaaHeld
import Derived.Test.YtchhnjadnacniaaAp
import Derived.LoopTactic
import Derived.LoopN
import Derived.Lib.Hide
import Derived.Deep.DeepMust
import Derived.Laws.MakeOwn
import Derived.Laws.Entries
import Derived.WalkSpells
import Derived.WalkMore
import Derived.IntWalk
namespace Go.Proofs.Ytchhnjadnacniaa.Cm
set_option linter.unusedSimpArgs false
set_option linter.unusedVariables false
open Go.RowKit

/-- a copy: of which block, of which time. -/
structure CpD where
  lba : Int
  t : Int
def CpD.cells (x : CpD) : List Value := [.int .i64 x.lba, .int .i64 x.t]
theorem cp_two (p : CpD) : p.cells.length = 2 := rfl
structure IsCps (w : World) (A : Option Addr) (n c : Nat) (cs : List CpD) : Prop where
  len : cs.length = n
  rd : Rd w w.heap.size A (cs.flatMap CpD.cells)
  cap : n ≤ c
  big : c ≤ maxLen
  wf : ∀ x ∈ cs, (Lit.int .i64 x.lba).wf = true ∧ (Lit.int .i64 x.t).wf = true
/-- a row of copies. -/
structure RoD where
  A : Option Addr
  n : Nat
  c : Nat
  cs : List CpD
def RoD.cell (x : RoD) : Value := .slice x.A x.n x.c
structure IsZs (w : World) (A : Option Addr) (n c : Nat) (zs : List RoD) : Prop where
  len : zs.length = n
  rd : Rd w w.heap.size A (zs.map RoD.cell)
  rows : ∀ x ∈ zs, IsCps w x.A x.n x.c x.cs
  cap : n ≤ c
  big : c ≤ maxLen
theorem IsCps.next {w w' : World} {A : Option Addr} {n c : Nat} {cs : List CpD} (h : IsCps w A n c cs) (hb : Below w.heap.size w w') : IsCps w' A n c cs :=
  ⟨h.len, (h.rd.next (Nat.le_refl _) hb).more hb.size, h.cap, h.big, h.wf⟩
theorem IsZs.next {w w' : World} {A : Option Addr} {n c : Nat} {zs : List RoD} (h : IsZs w A n c zs) (hb : Below w.heap.size w w') : IsZs w' A n c zs :=
  ⟨h.len, (h.rd.next (Nat.le_refl _) hb).more hb.size, fun x hx => (h.rows x hx).next hb, h.cap, h.big⟩
theorem IsZs.none (w : World) : IsZs w none 0 0 [] := ⟨rfl, Rd.nil _ _ _, by simp, Nat.le_refl _, by simp [maxLen]⟩
section
open Go.ChangeShapes Go.WideShapes Go.Deep
variable {H : Type} {enc : TypeId × Value → H} {w : World} {base : Nat} {spare : Nat → Bool} {held : Bool}
theorem cps_cs {fuel : Nat} {cs : List Value} {x : DataW H × List MemPlace} (h : DataW.trod enc Try.prog w base spare held fuel 54 cs = some x) :
    ∃ A n c ps, cs = [.slice A n c] ∧ IsCps w A n c ps := by
  have hc : Try.prog.cellsOf 51 = 2 := by kernel_rfl
  have hc1 : Try.prog.cellsOf 3 = 1 := by kernel_rfl
  have lt := DataW.trod_lt _ _ _ _ h
  rcases open_slice Try.underlying54 h with ⟨hcs, _⟩ | ⟨a, len, cap, m, n', D, Pl, hcs, hb, hl, hm, hmm, hx, hi⟩
  · exact ⟨none, 0, 0, [], hcs, rfl, Rd.nil _ _ _, Nat.le_refl _, by simp [maxLen], by simp⟩
  · have hlm : len ≤ m := by rw [hmm]; split <;> omega
    obtain ⟨l, hlen, hp⟩ := list_of len (fun i (p : CpD) => w.cell? (a.add (i * 2)) = some (.int .i64 p.lba) ∧ w.cell? (a.add (i * 2 + 1)) = some (.int .i64 p.t) ∧ (Lit.int .i64 p.lba).wf = true ∧ (Lit.int .i64 p.t).wf = true) fun i hin => by
      obtain ⟨cs', hcc, htr⟩ := hi i (by omega)
      rw [hc] at hcc
      obtain ⟨_, hcl, hat⟩ := World.cells?_some hcc
      match cs', hcl with
      | [v0, v1], _ =>
        obtain ⟨ys, n2, _, _, _, hyl, hf2⟩ := DataW.trod_struct Try.underlying51 htr
        have hyl2 : ys.length = 2 := by rw [hyl]; rfl
        have f0 := hf2 0 _ rfl
        rw [List.getElem?_eq_getElem (show 0 < ys.length by omega)] at f0
        obtain ⟨z0, e0, _, w0⟩ := DataW.trod_int Try.underlying3 f0
        have e0' : [v0] = [Value.int .i64 z0] := by
          rw [← e0]; show [v0] = (([v0, v1] : List Value).drop 0).take (Try.prog.cellsOf 3); rw [hc1]; rfl
        have f1 := hf2 1 _ rfl
        rw [List.getElem?_eq_getElem (show 1 < ys.length by omega)] at f1
        obtain ⟨z1, e1, _, w1⟩ := DataW.trod_int Try.underlying3 f1
        have e1' : [v1] = [Value.int .i64 z1] := by
          rw [← e1]; show [v1] = (([v0, v1] : List Value).drop 1).take (Try.prog.cellsOf 3); rw [hc1]; rfl
        injection e0' with e0'
        injection e1' with e1'
        subst e0' e1'
        have h0 := hat 0 (by omega)
        have h1 := hat 1 (by omega)
        rw [add_twice] at h0 h1
        exact ⟨⟨z0, z1⟩, by simpa using h0, by simpa using h1, w0, w1⟩
    refine ⟨some a, len, cap, l, hcs, hlen, fun hn => ⟨a, rfl, ?_, fun j u hu => ?_⟩, hl, hm, fun p hpm => by obtain ⟨i, hi', rfl⟩ := List.getElem_of_mem hpm; exact (hp i hi').2.2⟩
    · rw [flat_len cp_two] at hn
      have hx2 := (Prod.mk.inj hx).2
      exact lt (MemPlace.cell a.block (a.off + 0)) (by rw [hx2, hc]; exact List.mem_append_left _ (List.mem_map.2 ⟨0, by simp; omega, rfl⟩))
    · have hjl : j < l.length * 2 := by
        obtain ⟨hj, _⟩ := List.getElem?_eq_some_iff.1 hu
        rwa [flat_len cp_two] at hj
      have hk : j / 2 < l.length := by omega
      have he : j = j / 2 * 2 + j % 2 := by omega
      have hr := flat_get cp_two hk (j := j % 2) (by omega)
      rw [← he, hu] at hr
      obtain ⟨p0, p1, _⟩ := hp (j / 2) hk
      have hc3 : j % 2 = 0 ∨ j % 2 = 1 := by omega
      rcases hc3 with e | e
      · rw [e] at hr he; rw [he, Nat.add_zero, p0]; rw [hr]; rfl
      · rw [e] at hr he; rw [he, p1]; rw [hr]; rfl
theorem open_zs {A : Option Addr} {n c : Nat} {d : DataW H} {ps : List MemPlace} (h : DataW.Trod enc Try.prog w base spare held 53 (.slice A n c) d ps) (_lt : ∀ x ∈ ps, x.block < w.heap.size) : ∃ l, IsZs w A n c l := by
  have hc : Try.prog.cellsOf 54 = 1 := by kernel_rfl
  obtain ⟨fuel, hf⟩ := h
  have lt := DataW.trod_lt _ _ _ _ hf
  rcases open_slice Try.underlying53 hf with ⟨hcs, _⟩ | ⟨a, len, cap, m, n', D, Pl, hcs, hb, hl, hm, hmm, hx, hi⟩
  · simp [Value.cells] at hcs
    obtain ⟨rfl, rfl, rfl⟩ := hcs
    exact ⟨[], rfl, Rd.nil _ _ _, by simp, Nat.le_refl _, by simp [maxLen]⟩
  · simp [Value.cells] at hcs
    obtain ⟨rfl, rfl, rfl⟩ := hcs
    have hlm : n ≤ m := by rw [hmm]; split <;> omega
    obtain ⟨l, hlen, hp⟩ := list_of n (fun i (p : RoD) => w.cell? (a.add i) = some p.cell ∧ IsCps w p.A p.n p.c p.cs) fun i hin => by
      obtain ⟨cs', hcc, htr⟩ := hi i (by omega)
      rw [hc, Nat.mul_one] at hcc
      obtain ⟨_, hcl, hat⟩ := World.cells?_some hcc
      match cs', hcl with
      | [v0], _ =>
        obtain ⟨dA, dn, dc, ds, e1, d1⟩ := cps_cs htr
        injection e1 with e1
        subst e1
        have h0 := hat 0 (by omega)
        rw [add_twice] at h0
        exact ⟨⟨dA, dn, dc, ds⟩, by simpa [RoD.cell] using h0, d1⟩
    refine ⟨l, hlen, fun hn => ⟨a, rfl, ?_, fun j u hu => ?_⟩, fun p hpm => by obtain ⟨i, hi', rfl⟩ := List.getElem_of_mem hpm; exact (hp i hi').2, hl, hm⟩
    · rw [List.length_map] at hn
      have hx2 := (Prod.mk.inj hx).2
      exact lt (MemPlace.cell a.block (a.off + 0)) (by rw [hx2, hc]; exact List.mem_append_left _ (List.mem_map.2 ⟨0, by simp; omega, rfl⟩))
    · rw [List.getElem?_map] at hu
      obtain ⟨b, hb', rfl⟩ := Option.map_eq_some_iff.1 hu
      obtain ⟨hj, rfl⟩ := List.getElem?_eq_some_iff.1 hb'
      exact (hp j hj).1
end
theorem sum_take {xs : List Int} {k : Nat} (hk : k < xs.length) : (xs.take (k + 1)).sum = (xs.take k).sum + xs[k] := by
  rw [List.take_succ_eq_append_getElem hk, List.sum_append]; simp
set_option maxHeartbeats 4000000 in
theorem sum_any (m : Int) (A : Option Addr) (n c B : Nat) (xs : List Int) (w : World) (h : Rd w B A (xs.map (Value.int .i64))) (hl : xs.length = n) (hn : n ≤ 1000) (h0 : ∀ x ∈ xs, 0 ≤ x ∧ x ≤ 9223372036854775807) (hm : 0 ≤ m ∧ m ≤ 1099511627776) :
    Calls Try.prog 44 #[.int .i64 m, .slice A n c] w fun e w' => (∃ v : Int, e = .returned (.int .i64 v) ∧ 0 ≤ v ∧ v ≤ 1099511627776 ∧ (v = m + xs.sum ∨ v = 1099511627776)) ∧ w = w' := by
  go_enter Try.func44, Try.ntmps44
  go_wp2_with fail
  go_loop [0, 5] (fun v i => ∃ k : Nat, k ≤ n ∧ i = .int .i64 k ∧ ∃ s : Int, v = .int .i64 s ∧ 0 ≤ s ∧ s ≤ 1099511627776 ∧ Hid (s = m + (xs.take k).sum)) (fun _ i => n - (intOf i).toNat)
  case atStart => exact ⟨0, Nat.zero_le _, rfl, m, rfl, hm.1, hm.2, by show _ = _; simp⟩
  case round =>
    obtain ⟨k, hk, rfl, s, rfl, hs0, hs1, HS⟩ := hrel
    by_cases hlt : k < n
    · obtain ⟨ad, rfl, _, c1⟩ := h.get (k := k) (by rw [List.length_map]; omega)
      rw [List.getElem_map] at c1
      obtain ⟨x, hx⟩ : ∃ x, xs[k]'(by omega) = x := ⟨_, rfl⟩
      rw [hx] at c1
      obtain ⟨x0, x1⟩ := h0 x (by rw [← hx]; exact List.getElem_mem _)
      have HN := Lib.hid (show s + x = m + (xs.take (k + 1)).sum by rw [sum_take (by omega), hx]; have := HS.out; omega)
      have n0 : (k : Int) < (n : Int) := by omega
      have n1 : (0 : Int) ≤ (k : Int) := by omega
      have t0 : decide (1099511627776 < s) = false := decide_eq_false (by omega)
      clear hx h0
      by_cases hx2 : 1099511627776 - s < x
      · have t1 : decide (1099511627776 - s < x) = true := decide_eq_true hx2
        clear hx2
        go_wp2_with fail
        go_ret
        exact ⟨⟨1099511627776, rfl, by omega, by omega, .inr rfl⟩, rfl⟩
      · have t1 : decide (1099511627776 - s < x) = false := decide_eq_false hx2
        have hsx : s + x ≤ 1099511627776 := by omega
        clear hx2
        go_wp2_with fail
        go_round
        case rel => exact ⟨k + 1, by omega, by go_num, s + x, rfl, by omega, hsx, HN⟩
        case measure => simp [intOf]; omega
    · obtain rfl : k = n := by omega
      have hS := HS.out
      rw [List.take_of_length_le (by omega)] at hS
      have HS2 := Lib.hid hS
      clear hS
      go_wp2_with fail
      go_ret
      exact ⟨⟨s, rfl, hs0, hs1, .inl HS2.out⟩, rfl⟩
set_option maxHeartbeats 4000000 in
theorem puts_any (A : Option Addr) (n c : Nat) (ps : List PutD) (top : Int) (w : World) (h : IsPuts w A n c ps) (hn : n ≤ maxLen) (ht : 0 ≤ top ∧ top ≤ 1099511627776) :
    Calls Try.prog 70 #[.slice A n c, .int .i64 top] w fun e w' => (∃ v : Int, e = .returned (.int .i64 v) ∧ 0 ≤ v ∧ v ≤ 1099511627776) ∧ Below w.heap.size w w' := by
  have hbig : maxLen ≤ 9223372036854775807 := by decide
  go_enter Try.func70, Try.ntmps70
  go_wp2_with fail
  refine (sum_any 0 _ 1 1 _ [(n : Int)] _ (by exact (Bk.new w 3 [Value.int .i64 (n : Int)]).rd) (by rfl) (by omega) (by intro x hx; simp at hx; subst hx; omega) (by omega)).mono ?_
  rintro e w' ⟨⟨s, rfl, s0, s1, ss⟩, rfl⟩
  clear ss
  have hW0 : Below w.heap.size w (w.alloc (.cells #[Value.int .i64 (n : Int)] 3)) := (Below.refl _ _).alloc (Nat.le_refl _) _
  go_wp2_with fail
  go_loopw [5, 6] (fun v i wr => ∃ k : Nat, k ≤ n ∧ i = .int .i64 k ∧ Below w.heap.size w wr ∧ ∃ s : Int, v = .int .i64 s ∧ 0 ≤ s ∧ s ≤ 1099511627776) (fun _ i _ => n - (intOf i).toNat)
  case atStart => exact ⟨0, Nat.zero_le _, rfl, hW0, s, rfl, s0, s1⟩
  case round =>
    obtain ⟨k, hk, rfl, hW, s, rfl, hs0, hs1⟩ := hrel
    clear hW0
    by_cases hlt : k < n
    · by_cases hst : s ≤ top
      · have t0 : decide (s ≤ top) = true := decide_eq_true hst
        obtain ⟨p, hp⟩ : ∃ p, ps[k]'(by rw [h.len]; exact hlt) = p := ⟨_, rfl⟩
        obtain ⟨ad, rfl, had, c0, c1⟩ := two_get put_two (h.rd.next (Nat.le_refl _) hW) (k := k) (by rw [h.len]; exact hlt) (u := .int .i64 p.lba) (v := .slice p.A p.n p.c) (by rw [hp]; rfl)
        have hpn : p.n ≤ maxLen := h.dbig p (by rw [← hp]; exact List.getElem_mem _)
        clear hp
        have n0 : (k : Int) < (n : Int) := by omega
        have n1 : (0 : Int) ≤ (k : Int) := by omega
        go_wp2_with fail
        refine (sum_any s _ 1 1 _ [(p.n : Int)] _ (by exact (Bk.new wr 3 [Value.int .i64 (p.n : Int)]).rd) (by rfl) (by omega) (by intro x hx; simp at hx; subst hx; omega) (by omega)).mono ?_
        rintro e w' ⟨⟨q, rfl, q0, q1, qs⟩, rfl⟩
        have hW2 : Below w.heap.size w (wr.alloc (.cells #[Value.int .i64 (p.n : Int)] 3)) := hW.alloc hW.size _
        clear qs
        go_wp2_with fail
        go_roundw
        case rel => exact ⟨k + 1, by omega, by go_num, hW2, q, rfl, q0, q1⟩
        case measure => simp [intOf]; omega
      · have t0 : decide (s ≤ top) = false := decide_eq_false hst
        have n0 : (k : Int) < (n : Int) := by omega
        go_wp2_with fail
        go_ret
        exact ⟨⟨s, rfl, hs0, hs1⟩, hW⟩
    · obtain rfl : k = n := by omega
      go_wp2_with fail
      go_ret
      exact ⟨⟨s, rfl, hs0, hs1⟩, hW⟩
set_option maxHeartbeats 4000000 in
theorem txs_any (A : Option Addr) (n c : Nat) (ts : List TxD) (top : Int) (w : World) (h : IsTxs w A n c ts) (hn : n ≤ maxLen) (ht : 0 ≤ top ∧ top ≤ 1099511627776) :
    Calls Try.prog 45 #[.slice A n c, .int .i64 top] w fun e w' => (∃ v : Int, e = .returned (.int .i64 v) ∧ 0 ≤ v ∧ v ≤ 1099511627776) ∧ Below w.heap.size w w' := by
  have hbig : maxLen ≤ 9223372036854775807 := by decide
  go_enter Try.func45, Try.ntmps45
  go_wp2_with fail
  refine (sum_any 0 _ 1 1 _ [(n : Int)] _ (by exact (Bk.new w 3 [Value.int .i64 (n : Int)]).rd) (by rfl) (by omega) (by intro x hx; simp at hx; subst hx; omega) (by omega)).mono ?_
  rintro e w' ⟨⟨s, rfl, s0, s1, ss⟩, rfl⟩
  clear ss
  have hW0 : Below w.heap.size w (w.alloc (.cells #[Value.int .i64 (n : Int)] 3)) := (Below.refl _ _).alloc (Nat.le_refl _) _
  go_wp2_with fail
  go_loopw [5, 6] (fun v i wr => ∃ k : Nat, k ≤ n ∧ i = .int .i64 k ∧ Below w.heap.size w wr ∧ ∃ s : Int, v = .int .i64 s ∧ 0 ≤ s ∧ s ≤ 1099511627776) (fun _ i _ => n - (intOf i).toNat)
  case atStart => exact ⟨0, Nat.zero_le _, rfl, hW0, s, rfl, s0, s1⟩
  case round =>
    obtain ⟨k, hk, rfl, hW, s, rfl, hs0, hs1⟩ := hrel
    clear hW0
    by_cases hlt : k < n
    · by_cases hst : s ≤ top
      · have t0 : decide (s ≤ top) = true := decide_eq_true hst
        obtain ⟨p, hp⟩ : ∃ p, ts[k]'(by rw [h.len]; exact hlt) = p := ⟨_, rfl⟩
        obtain ⟨ad, rfl, had, c0, c1⟩ := two_get tx_two (h.rd.next (Nat.le_refl _) hW) (k := k) (by rw [h.len]; exact hlt) (u := .int .i64 p.t) (v := .slice p.A p.n p.c) (by rw [hp]; rfl)
        have hpp := (h.puts p (by rw [← hp]; exact List.getElem_mem _))
        have hpn := Nat.le_trans hpp.cap hpp.big
        have hpw := hpp.next hW
        clear hp
        have n0 : (k : Int) < (n : Int) := by omega
        have n1 : (0 : Int) ≤ (k : Int) := by omega
        go_wp2_with fail
        refine (puts_any p.A p.n p.c p.ps top _ hpw hpn ht).mono ?_
        rintro e w2 ⟨⟨u, rfl, u0, u1⟩, hb2⟩
        have hW1 := hW.trans (hb2.mono hW.size)
        clear c0 c1 hpw hb2
        go_wp2_with fail
        refine (sum_any s _ 1 1 _ [u] _ (by exact (Bk.new w2 3 [Value.int .i64 u]).rd) (by rfl) (by omega) (by intro x hx; simp at hx; subst hx; omega) (by omega)).mono ?_
        rintro e w' ⟨⟨q, rfl, q0, q1, qs⟩, rfl⟩
        have hW2 : Below w.heap.size w (w2.alloc (.cells #[Value.int .i64 u] 3)) := hW1.alloc hW1.size _
        clear qs
        go_wp2_with fail
        go_roundw
        case rel => exact ⟨k + 1, by omega, by go_num, hW2, q, rfl, q0, q1⟩
        case measure => simp [intOf]; omega
      · have t0 : decide (s ≤ top) = false := decide_eq_false hst
        have n0 : (k : Int) < (n : Int) := by omega
        go_wp2_with fail
        go_ret
        exact ⟨⟨s, rfl, hs0, hs1⟩, hW⟩
    · obtain rfl : k = n := by omega
      go_wp2_with fail
      go_ret
      exact ⟨⟨s, rfl, hs0, hs1⟩, hW⟩
/-- what small returns. -/
def SmallR (e : Ending) (n : Nat) (zs : List RoD) : Prop := ∃ r : Bool, e = .returned (.bool r) ∧ (r = true → n ≤ 60 ∧ (zs.map fun x => (x.n : Int) + 1).sum ≤ 400)
theorem zsum_take {zs : List RoD} {k : Nat} (hk : k < zs.length) : ((zs.take (k + 1)).map fun x => (x.n : Int) + 1).sum = ((zs.take k).map fun x => (x.n : Int) + 1).sum + ((zs[k].n : Int) + 1) := by
  rw [List.take_succ_eq_append_getElem hk, List.map_append, List.sum_append]; simp
set_option maxHeartbeats 4000000 in
theorem small_any (A A2 : Option Addr) (n c m c2 : Nat) (ts : List TxD) (zs : List RoD) (w : World) (h : IsTxs w A n c ts) (hz : IsZs w A2 m c2 zs) :
    Calls Try.prog 19 #[.slice A n c, .slice A2 m c2] w fun e w' => SmallR e n zs ∧ Below w.heap.size w w' := by
  have hbig : maxLen ≤ 9223372036854775807 := by decide
  have hnn := Nat.le_trans h.cap h.big
  have hmm := Nat.le_trans hz.cap hz.big
  go_enter Try.func19, Try.ntmps19
  go_wp2_with fail
  go_loopw [5, 6] (fun v i wr => ∃ k : Nat, k ≤ m ∧ i = .int .i64 k ∧ Below w.heap.size w wr ∧ ∃ s : Int, v = .int .i64 s ∧ 0 ≤ s ∧ s ≤ 1099511627776 ∧ Hid (s = ((zs.take k).map fun x => (x.n : Int) + 1).sum ∨ s = 1099511627776)) (fun _ i _ => m - (intOf i).toNat)
  case atStart => exact ⟨0, Nat.zero_le _, rfl, Below.refl _ _, 0, rfl, by omega, by omega, .inl (by simp)⟩
  case round =>
    obtain ⟨k, hk, rfl, hW, s, rfl, hs0, hs1, HS⟩ := hrel
    by_cases hlt : k < m
    · obtain ⟨p, hp⟩ : ∃ p, zs[k]'(by rw [hz.len]; exact hlt) = p := ⟨_, rfl⟩
      obtain ⟨ad, rfl, had, c0⟩ := (hz.rd.next (Nat.le_refl _) hW).get (k := k) (by rw [List.length_map, hz.len]; exact hlt)
      rw [List.getElem_map, hp] at c0
      unfold RoD.cell at c0
      have hpr := (hz.rows p (by rw [← hp]; exact List.getElem_mem _))
      have hpn := Nat.le_trans hpr.cap hpr.big
      have n0 : (k : Int) < (m : Int) := by omega
      have n1 : (0 : Int) ≤ (k : Int) := by omega
      have HP := Lib.hid hp
      clear hp hpr
      go_wp2_with fail
      refine (sum_any s _ 2 2 _ [(p.n : Int), 1] _ (by exact (Bk.new wr 3 [Value.int .i64 (p.n : Int), Value.int .i64  1]).rd) (by rfl) (by omega) (by intro x hx; simp at hx; rcases hx with rfl | rfl <;> omega) (by omega)).mono ?_
      rintro e w' ⟨⟨q, rfl, q0, q1, qs⟩, rfl⟩
      have hW2 : Below w.heap.size w (wr.alloc (.cells #[Value.int .i64 (p.n : Int), Value.int .i64 1] 3)) := hW.alloc hW.size _
      have HN := Lib.hid (show q = ((zs.take (k + 1)).map fun x => (x.n : Int) + 1).sum ∨ q = 1099511627776 by
        rw [zsum_take (by rw [hz.len]; exact hlt), HP.out]
        simp only [List.sum_cons, List.sum_nil] at qs
        have := HS.out
        omega)
      clear qs HS
      go_wp2_with fail
      go_roundw
      case rel => exact ⟨k + 1, by omega, by go_num, hW2, q, rfl, q0, q1, HN⟩
      case measure => simp [intOf]; omega
    · obtain rfl : k = m := by omega
      have hS := HS.out
      rw [List.take_of_length_le (by rw [hz.len]; omega)] at hS
      have HS2 := Lib.hid hS
      clear hS HS
      by_cases h4 : s ≤ 400
      · have t0 : decide (s ≤ 400) = true := decide_eq_true h4
        have HS3 := Lib.hid (show (zs.map fun x => (x.n : Int) + 1).sum ≤ 400 by have := HS2.out; omega)
        have hT := h.next hW
        clear HS2
        go_wp2_with fail
        refine (txs_any _ _ _ ts 10000 _ hT hnn (by omega)).mono ?_
        rintro e w2 ⟨⟨u, rfl, u0, u1⟩, hb2⟩
        have hW2 := hW.trans (hb2.mono hW.size)
        clear hT hb2
        by_cases h5 : u ≤ 10000
        · have t1 : decide (u ≤ 10000) = true := decide_eq_true h5
          by_cases h6 : n ≤ 60
          · have t2 : decide ((n : Int) ≤ 60) = true := decide_eq_true (by omega)
            go_wp2_with fail
            go_ret
            exact ⟨⟨true, rfl, fun _ => ⟨h6, HS3.out⟩⟩, hW2⟩
          · have t2 : decide ((n : Int) ≤ 60) = false := decide_eq_false (by omega)
            go_wp2_with fail
            go_ret
            exact ⟨⟨false, rfl, fun e => by cases e⟩, hW2⟩
        · have t1 : decide (u ≤ 10000) = false := decide_eq_false h5
          go_wp2_with fail
          go_ret
          exact ⟨⟨false, rfl, fun e => by cases e⟩, hW2⟩
      · have t0 : decide (s ≤ 400) = false := decide_eq_false h4
        go_wp2_with fail
        go_ret
        exact ⟨⟨false, rfl, fun e => by cases e⟩, hW⟩
end Go.Proofs.Ytchhnjadnacniaa.Cm
