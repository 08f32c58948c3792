/- Transactions that came in as an argument: rows of structs with rows in them, how they read, and how they are opened. -/
import Derived.Test.YtchhnjadnacniaaRd
import Derived.Test.YtchhnjadnacniaaChecked
namespace Go.Proofs.Ytchhnjadnacniaa.Cm
open Go.RowKit
set_option linter.unusedSimpArgs false
set_option linter.unusedVariables false

section
variable {α : Type} {f : α → List Value} {s : Nat}
theorem flat_len (hs : ∀ x, (f x).length = s) (l : List α) : (l.flatMap f).length = l.length * s := by
  induction l with
  | nil => simp
  | cons x l ih => rw [List.flatMap_cons, List.length_append, ih, hs, List.length_cons, Nat.succ_mul]; omega
theorem flat_get (hs : ∀ x, (f x).length = s) {l : List α} {k j : Nat} (hk : k < l.length) (hj : j < s) : (l.flatMap f)[k * s + j]? = (f l[k])[j]? := by
  induction l generalizing k with
  | nil => simp at hk
  | cons x l ih =>
    rw [List.flatMap_cons]
    cases k with
    | zero => rw [List.getElem?_append_left (by rw [hs]; omega)]; simp
    | succ k =>
      have e : (k + 1) * s + j = s + (k * s + j) := by rw [Nat.succ_mul]; omega
      rw [List.getElem?_append_right (by rw [hs, e]; omega), hs, e, Nat.add_sub_cancel_left, ih (by simpa using hk)]
      simp
end

/-- a block that is written: its number, and what is written. -/
structure PutD where
  lba : Int
  A : Option Addr
  n : Nat
  c : Nat
  ds : List Value
def PutD.cells (p : PutD) : List Value := [.int .i64 p.lba, .slice p.A p.n p.c]
/-- a transaction. -/
structure TxD where
  t : Int
  A : Option Addr
  n : Nat
  c : Nat
  ps : List PutD
def TxD.cells (x : TxD) : List Value := [.int .i64 x.t, .slice x.A x.n x.c]
theorem put_two (p : PutD) : p.cells.length = 2 := rfl
theorem tx_two (p : TxD) : p.cells.length = 2 := rfl
structure IsPuts (w : World) (A : Option Addr) (n c : Nat) (ps : List PutD) : Prop where
  len : ps.length = n
  rd : Rd w w.heap.size A (ps.flatMap PutD.cells)
  dlen : ∀ p ∈ ps, p.ds.length = p.n
  drd : ∀ p ∈ ps, Rd w w.heap.size p.A p.ds
  one : ∀ p ∈ ps, ∀ u ∈ p.ds, u.oneCell' = true
  wf : ∀ p ∈ ps, (Lit.int .i64 p.lba).wf = true
  cap : n ≤ c
  big : c ≤ maxLen
  dbig : ∀ p ∈ ps, p.n ≤ maxLen
structure IsTxs (w : World) (A : Option Addr) (n c : Nat) (ts : List TxD) : Prop where
  len : ts.length = n
  rd : Rd w w.heap.size A (ts.flatMap TxD.cells)
  puts : ∀ x ∈ ts, IsPuts w x.A x.n x.c x.ps
  wf : ∀ x ∈ ts, (Lit.int .i64 x.t).wf = true
  cap : n ≤ c
  big : c ≤ maxLen
theorem IsPuts.next {w w' : World} {A : Option Addr} {n c : Nat} {ps : List PutD} (h : IsPuts w A n c ps) (hb : Below w.heap.size w w') : IsPuts w' A n c ps :=
  ⟨h.len, (h.rd.next (Nat.le_refl _) hb).more hb.size, h.dlen, fun p hp => ((h.drd p hp).next (Nat.le_refl _) hb).more hb.size, h.one, h.wf, h.cap, h.big, h.dbig⟩
theorem IsTxs.next {w w' : World} {A : Option Addr} {n c : Nat} {ts : List TxD} (h : IsTxs w A n c ts) (hb : Below w.heap.size w w') : IsTxs w' A n c ts :=
  ⟨h.len, (h.rd.next (Nat.le_refl _) hb).more hb.size, fun x hx => (h.puts x hx).next hb, h.wf, h.cap, h.big⟩
/-- the cells of the k-th. -/
theorem two_get {α : Type} {f : α → List Value} (hs : ∀ x, (f x).length = 2) {w : World} {B : Nat} {A : Option Addr} {l : List α} (h : Rd w B A (l.flatMap f)) {k : Nat} (hk : k < l.length) {u v : Value} (hf : f l[k] = [u, v]) :
    ∃ ad, A = some ad ∧ ad.block < B ∧ w.cell? (ad.add (k * 2)) = some u ∧ w.cell? ⟨(ad.add (k * 2)).block, (ad.add (k * 2)).off + 1, none⟩ = some v := by
  obtain ⟨ad, e, hb, hc⟩ := h (by rw [flat_len hs]; omega)
  have h0 := hc (k * 2) u (by have := flat_get hs hk (j := 0) (by omega); rw [Nat.add_zero] at this; rw [this, hf]; rfl)
  have h1 := hc (k * 2 + 1) v (by rw [flat_get hs hk (by omega), hf]; rfl)
  rw [← add_twice] at h1
  exact ⟨ad, e, hb, h0, h1⟩
section
open Go.ChangeShapes Go.WideShapes Go.Deep
variable {H : Type} {enc : TypeId × Value → H} {w : World} {base : Nat} {spare : Nat → Bool} {held : Bool}
theorem bytes_cs {fuel : Nat} {cs : List Value} {x : DataW H × List MemPlace} (h : DataW.trod enc Try.prog w base spare held fuel 46 cs = some x) :
    ∃ A n c ds, cs = [.slice A n c] ∧ ds.length = n ∧ Rd w w.heap.size A ds ∧ (∀ u ∈ ds, u.oneCell' = true) ∧ n ≤ maxLen := by
  have hc : Try.prog.cellsOf 5 = 1 := by kernel_rfl
  rcases open_ints Try.underlying46 Try.underlying5 hc h with ⟨hcs, _⟩ | ⟨a, len, cap, zs, hcs, _, hl, hm, hz, hx, hcell, hwz⟩
  · exact ⟨none, 0, 0, [], hcs, rfl, Rd.nil _ _ _, by simp, by simp⟩
  · have hlm : len ≤ zs.length := by rw [hz]; split <;> omega
    have lt := DataW.trod_lt _ _ _ _ h
    refine ⟨some a, len, cap, (zs.take len).map (Value.int .u8), hcs, by simp; omega, fun hn => ⟨a, rfl, ?_, fun j u hu => ?_⟩, fun u hu => ?_, by omega⟩
    · rw [List.length_map, List.length_take] at hn
      have hx2 := (Prod.mk.inj hx).2
      exact lt (MemPlace.cell a.block (a.off + 0)) (by rw [hx2]; exact List.mem_map.2 ⟨0, by simp; omega, rfl⟩)
    · rw [List.getElem?_map] at hu
      obtain ⟨b, hb', rfl⟩ := Option.map_eq_some_iff.1 hu
      obtain ⟨hj, rfl⟩ := List.getElem?_eq_some_iff.1 hb'
      rw [List.length_take] at hj
      rw [hcell j (by omega), List.getElem_take, List.getD_eq_getElem?_getD, List.getElem?_eq_getElem (by omega)]
      rfl
    · obtain ⟨b, _, rfl⟩ := List.mem_map.1 hu
      rfl
theorem puts_cs {fuel : Nat} {cs : List Value} {x : DataW H × List MemPlace} (h : DataW.trod enc Try.prog w base spare held fuel 87 cs = some x) :
    ∃ A n c ps, cs = [.slice A n c] ∧ IsPuts w A n c ps := by
  have hc : Try.prog.cellsOf 86 = 2 := by kernel_rfl
  have hc1 : Try.prog.cellsOf 3 = 1 := by kernel_rfl
  have hc2 : Try.prog.cellsOf 46 = 1 := by kernel_rfl
  have lt := DataW.trod_lt _ _ _ _ h
  rcases open_slice Try.underlying87 h with ⟨hcs, _⟩ | ⟨a, len, cap, m, n', D, Pl, hcs, hb, hl, hm, hmm, hx, hi⟩
  · exact ⟨none, 0, 0, [], hcs, rfl, Rd.nil _ _ _, by simp, by simp, by simp, by simp, Nat.le_refl _, by simp [maxLen], by simp⟩
  · have hlm : len ≤ m := by rw [hmm]; split <;> omega
    obtain ⟨l, hlen, hp⟩ := list_of len (fun i (p : PutD) => w.cell? (a.add (i * 2)) = some (.int .i64 p.lba) ∧ w.cell? (a.add (i * 2 + 1)) = some (.slice p.A p.n p.c) ∧ p.ds.length = p.n ∧ Rd w w.heap.size p.A p.ds ∧ (∀ u ∈ p.ds, u.oneCell' = true) ∧ (Lit.int .i64 p.lba).wf = true ∧ p.n ≤ maxLen) fun i hin => by
      obtain ⟨cs', hcc, htr⟩ := hi i (by omega)
      rw [hc] at hcc
      obtain ⟨_, hcl, hat⟩ := World.cells?_some hcc
      match cs', hcl with
      | [v0, v1], _ =>
        obtain ⟨ys, n2, _, _, _, hyl, hf2⟩ := DataW.trod_struct Try.underlying86 htr
        have hyl2 : ys.length = 2 := by rw [hyl]; rfl
        have f0 := hf2 0 _ rfl
        rw [List.getElem?_eq_getElem (show 0 < ys.length by omega)] at f0
        obtain ⟨z0, e0, _, w0⟩ := DataW.trod_int Try.underlying3 f0
        have e0' : [v0] = [Value.int .i64 z0] := by
          rw [← e0]; show [v0] = (([v0, v1] : List Value).drop 0).take (Try.prog.cellsOf 3); rw [hc1]; rfl
        have f1 := hf2 1 _ rfl
        rw [List.getElem?_eq_getElem (show 1 < ys.length by omega)] at f1
        obtain ⟨dA, dn, dc, ds, e1, d1, d2, d3, d4⟩ := bytes_cs f1
        have e1' : [v1] = [Value.slice dA dn dc] := by
          rw [← e1]; show [v1] = (([v0, v1] : List Value).drop 1).take (Try.prog.cellsOf 46); rw [hc2]; rfl
        injection e0' with e0'
        injection e1' with e1'
        subst e0' e1'
        have h0 := hat 0 (by omega)
        have h1 := hat 1 (by omega)
        rw [add_twice] at h0 h1
        exact ⟨⟨z0, dA, dn, dc, ds⟩, by simpa using h0, by simpa using h1, d1, d2, d3, w0, d4⟩
    have hall : ∀ p ∈ l, p.ds.length = p.n ∧ Rd w w.heap.size p.A p.ds ∧ (∀ u ∈ p.ds, u.oneCell' = true) ∧ (Lit.int .i64 p.lba).wf = true ∧ p.n ≤ maxLen := fun p hpm => by
      obtain ⟨i, hi', rfl⟩ := List.getElem_of_mem hpm
      exact (hp i hi').2.2
    refine ⟨some a, len, cap, l, hcs, hlen, fun hn => ⟨a, rfl, ?_, fun j u hu => ?_⟩, fun p h => (hall p h).1, fun p h => (hall p h).2.1, fun p h => (hall p h).2.2.1, fun p h => (hall p h).2.2.2.1, hl, hm, fun p h => (hall p h).2.2.2.2⟩
    · rw [flat_len put_two] at hn
      have hx2 := (Prod.mk.inj hx).2
      exact lt (MemPlace.cell a.block (a.off + 0)) (by rw [hx2, hc]; exact List.mem_append_left _ (List.mem_map.2 ⟨0, by simp; omega, rfl⟩))
    · have hjl : j < l.length * 2 := by
        obtain ⟨hj, _⟩ := List.getElem?_eq_some_iff.1 hu
        rwa [flat_len put_two] at hj
      have hk : j / 2 < l.length := by omega
      have he : j = j / 2 * 2 + j % 2 := by omega
      have hr := flat_get put_two hk (j := j % 2) (by omega)
      rw [← he, hu] at hr
      obtain ⟨p0, p1, _⟩ := hp (j / 2) hk
      have hc3 : j % 2 = 0 ∨ j % 2 = 1 := by omega
      rcases hc3 with e | e
      · rw [e] at hr he; rw [he, Nat.add_zero, p0]; rw [hr]; rfl
      · rw [e] at hr he; rw [he, p1]; rw [hr]; rfl
theorem open_txs {A : Option Addr} {n c : Nat} {d : DataW H} {ps : List MemPlace} (h : DataW.Trod enc Try.prog w base spare held 40 (.slice A n c) d ps) (_lt : ∀ x ∈ ps, x.block < w.heap.size) : ∃ l, IsTxs w A n c l := by
  have hc : Try.prog.cellsOf 89 = 2 := by kernel_rfl
  have hc1 : Try.prog.cellsOf 3 = 1 := by kernel_rfl
  have hc2 : Try.prog.cellsOf 87 = 1 := by kernel_rfl
  obtain ⟨fuel, hf⟩ := h
  have lt := DataW.trod_lt _ _ _ _ hf
  rcases open_slice Try.underlying40 hf with ⟨hcs, _⟩ | ⟨a, len, cap, m, n', D, Pl, hcs, hb, hl, hm, hmm, hx, hi⟩
  · simp [Value.cells] at hcs
    obtain ⟨rfl, rfl, rfl⟩ := hcs
    exact ⟨[], rfl, Rd.nil _ _ _, by simp, by simp, Nat.le_refl _, by simp [maxLen]⟩
  · simp [Value.cells] at hcs
    obtain ⟨rfl, rfl, rfl⟩ := hcs
    have hlm : n ≤ m := by rw [hmm]; split <;> omega
    obtain ⟨l, hlen, hp⟩ := list_of n (fun i (p : TxD) => w.cell? (a.add (i * 2)) = some (.int .i64 p.t) ∧ w.cell? (a.add (i * 2 + 1)) = some (.slice p.A p.n p.c) ∧ IsPuts w p.A p.n p.c p.ps ∧ (Lit.int .i64 p.t).wf = true) fun i hin => by
      obtain ⟨cs', hcc, htr⟩ := hi i (by omega)
      rw [hc] at hcc
      obtain ⟨_, hcl, hat⟩ := World.cells?_some hcc
      match cs', hcl with
      | [v0, v1], _ =>
        obtain ⟨ys, n2, _, _, _, hyl, hf2⟩ := DataW.trod_struct Try.underlying89 htr
        have hyl2 : ys.length = 2 := by rw [hyl]; rfl
        have f0 := hf2 0 _ rfl
        rw [List.getElem?_eq_getElem (show 0 < ys.length by omega)] at f0
        obtain ⟨z0, e0, _, w0⟩ := DataW.trod_int Try.underlying3 f0
        have e0' : [v0] = [Value.int .i64 z0] := by
          rw [← e0]; show [v0] = (([v0, v1] : List Value).drop 0).take (Try.prog.cellsOf 3); rw [hc1]; rfl
        have f1 := hf2 1 _ rfl
        rw [List.getElem?_eq_getElem (show 1 < ys.length by omega)] at f1
        obtain ⟨dA, dn, dc, ds, e1, d1⟩ := puts_cs f1
        have e1' : [v1] = [Value.slice dA dn dc] := by
          rw [← e1]; show [v1] = (([v0, v1] : List Value).drop 1).take (Try.prog.cellsOf 87); rw [hc2]; rfl
        injection e0' with e0'
        injection e1' with e1'
        subst e0' e1'
        have h0 := hat 0 (by omega)
        have h1 := hat 1 (by omega)
        rw [add_twice] at h0 h1
        exact ⟨⟨z0, dA, dn, dc, ds⟩, by simpa using h0, by simpa using h1, d1, w0⟩
    have hall : ∀ p ∈ l, IsPuts w p.A p.n p.c p.ps ∧ (Lit.int .i64 p.t).wf = true := fun p hpm => by
      obtain ⟨i, hi', rfl⟩ := List.getElem_of_mem hpm
      exact (hp i hi').2.2
    refine ⟨l, hlen, fun hn => ⟨a, rfl, ?_, fun j u hu => ?_⟩, fun p h => (hall p h).1, fun p h => (hall p h).2, hl, hm⟩
    · rw [flat_len tx_two] at hn
      have hx2 := (Prod.mk.inj hx).2
      exact lt (MemPlace.cell a.block (a.off + 0)) (by rw [hx2, hc]; exact List.mem_append_left _ (List.mem_map.2 ⟨0, by simp; omega, rfl⟩))
    · have hjl : j < l.length * 2 := by
        obtain ⟨hj, _⟩ := List.getElem?_eq_some_iff.1 hu
        rwa [flat_len tx_two] at hj
      have hk : j / 2 < l.length := by omega
      have he : j = j / 2 * 2 + j % 2 := by omega
      have hr := flat_get tx_two hk (j := j % 2) (by omega)
      rw [← he, hu] at hr
      obtain ⟨p0, p1, _⟩ := hp (j / 2) hk
      have hc3 : j % 2 = 0 ∨ j % 2 = 1 := by omega
      rcases hc3 with e | e
      · rw [e] at hr he; rw [he, Nat.add_zero, p0]; rw [hr]; rfl
      · rw [e] at hr he; rw [he, p1]; rw [hr]; rfl
end
end Go.Proofs.Ytchhnjadnacniaa.Cm
