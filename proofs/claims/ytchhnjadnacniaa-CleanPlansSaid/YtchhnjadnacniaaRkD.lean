/- How a slice of zones that came in as an argument is opened; contracts of scarplaw5.small and score.Choose. -/
import Derived.Test.YtchhnjadnacniaaRkC
namespace Go.Proofs.Ytchhnjadnacniaa.Rk
set_option linter.unusedSimpArgs false
set_option linter.unusedVariables false
open Go.RowKit Go.Sort Go.Lib Fl Fb Sc
open Go.Proofs.Ytchhnjadnacniaa.So
attribute [local go_sem] u64_unsigned

section
open Go.ChangeShapes Go.WideShapes Go.Deep
variable {H : Type} {enc : TypeId × Value → H} {w : World} {base : Nat} {spare : Nat → Bool} {held : Bool}
theorem one_int {fuel : Nat} {v : Value} {cs : List Value} {ys : List (DataW H × List MemPlace)} {j : Nat} (hj : j < ys.length) (h : DataW.trod enc Try.prog w base spare held fuel 3 cs = ys[j]?) (hc : cs = [v]) : ∃ n, v = .int .i64 n := by
  rw [List.getElem?_eq_getElem hj] at h
  obtain ⟨n, e, _⟩ := DataW.trod_int Try.underlying3 h
  rw [hc] at e
  exact ⟨n, by injection e⟩
theorem open_zones {A : Option Addr} {n c : Nat} {d : DataW H} {ps : List MemPlace} (h : DataW.Trod enc Try.prog w base spare held 22 (.slice A n c) d ps) (lt : ∀ x ∈ ps, x.block < w.heap.size) : ∃ l, IsZones w A n c l := by
  have hc : Try.prog.cellsOf 29 = 3 := by kernel_rfl
  have hc1 : Try.prog.cellsOf 3 = 1 := by kernel_rfl
  obtain ⟨fuel, hf⟩ := h
  rcases open_slice Try.underlying22 hf with ⟨hcs, _⟩ | ⟨a, len, cap, m, n', D, Pl, hcs, hb, hl, hm, hmm, hx, hi⟩
  · simp [Value.cells] at hcs
    obtain ⟨rfl, rfl, rfl⟩ := hcs
    exact ⟨[], rfl, Rd.nil _ _ _, Nat.le_refl _, by simp [maxLen]⟩
  · simp [Value.cells] at hcs
    obtain ⟨rfl, rfl, rfl⟩ := hcs
    have hlm : n ≤ m := by rw [hmm]; split <;> omega
    obtain ⟨l, hlen, hp⟩ := list_of n (fun i (z : Zn) => w.cell? (a.add (i * 3)) = some (.int .i64 z.l) ∧ w.cell? (a.add (i * 3 + 1)) = some (.int .i64 z.s) ∧ w.cell? (a.add (i * 3 + 2)) = some (.int .i64 z.t)) fun i hin => by
      obtain ⟨cs', hcc, htr⟩ := hi i (by omega)
      rw [hc] at hcc
      obtain ⟨_, hcl, hat⟩ := World.cells?_some hcc
      match cs', hcl with
      | [v0, v1, v2], _ =>
        obtain ⟨ys, n2, _, _, _, hyl, hf2⟩ := DataW.trod_struct Try.underlying29 htr
        have hyl3 : ys.length = 3 := by rw [hyl]; rfl
        obtain ⟨z0, rfl⟩ := one_int (by omega) (hf2 0 _ rfl) (by show (([v0, v1, v2] : List Value).drop 0).take (Try.prog.cellsOf 3) = [v0]; rw [hc1]; rfl)
        obtain ⟨z1, rfl⟩ := one_int (by omega) (hf2 1 _ rfl) (by show (([_, v1, v2] : List Value).drop 1).take (Try.prog.cellsOf 3) = [v1]; rw [hc1]; rfl)
        obtain ⟨z2, rfl⟩ := one_int (by omega) (hf2 2 _ rfl) (by show (([_, _, v2] : List Value).drop 2).take (Try.prog.cellsOf 3) = [v2]; rw [hc1]; rfl)
        have h0 := hat 0 (by omega)
        have h1 := hat 1 (by omega)
        have h2 := hat 2 (by omega)
        rw [add_twice] at h0 h1 h2
        exact ⟨⟨z0, z1, z2⟩, by simpa using h0, by simpa using h1, by simpa using h2⟩
    refine ⟨l, hlen, fun hn => ⟨a, rfl, ?_, fun j u hu => ?_⟩, hl, hm⟩
    · rw [zcells_len] at hn
      have hx2 := (Prod.mk.inj hx).2
      exact lt (MemPlace.cell a.block (a.off + 0)) (by rw [hx2, hc]; exact List.mem_append_left _ (List.mem_map.2 ⟨0, by simp; omega, rfl⟩))
    · have hjl : j < l.length * 3 := by
        obtain ⟨hj, _⟩ := List.getElem?_eq_some_iff.1 hu
        rwa [zcells_len] at hj
      have hk : j / 3 < l.length := by omega
      have he : j = j / 3 * 3 + j % 3 := by omega
      have hr := zcells_get hk (j := j % 3) (by omega)
      rw [← he, hu] at hr
      obtain ⟨p0, p1, p2⟩ := hp (j / 3) hk
      have hc3 : j % 3 = 0 ∨ j % 3 = 1 ∨ j % 3 = 2 := by omega
      rcases hc3 with e | e | e
      · rw [e] at hr he; rw [he, Nat.add_zero, p0]; rw [hr]; rfl
      · rw [e] at hr he; rw [he, p1]; rw [hr]; rfl
      · rw [e] at hr he; rw [he, p2]; rw [hr]; rfl
end
set_option maxHeartbeats 1000000 in
theorem small_any (A : Option Addr) (n c : Nat) (w : World) :
    Calls Try.prog 11 #[.slice A n c] w fun e w' => e = .returned (.bool (decide (n ≤ 200))) ∧ w = w' := by
  by_cases h : n ≤ 200
  · have t1 : decide ((n : Int) ≤ 200) = true := decide_eq_true (by omega)
    go_enter Try.func11, Try.ntmps11
    go_wp2
    go_ret
    exact ⟨ret_bool (by rw [decide_eq_true h]), rfl⟩
  · have t1 : decide ((n : Int) ≤ 200) = false := decide_eq_false (by omega)
    go_enter Try.func11, Try.ntmps11
    go_wp2
    go_ret
    exact ⟨ret_bool (by rw [decide_eq_false h]), rfl⟩
theorem rank_rd {w : World} {base n : Nat} {A : Option Addr} {c : Nat} {r : List Nat} {e : TypeId} (h : w.ownsRow base e 1 (.slice A n c) n (r.map nv)) : Rd w w.heap.size A (r.map nv) := Rd.of_own h
set_option maxRecDepth 100000 in
set_option maxHeartbeats 1000000 in
theorem choose_none (A : Option Addr) (n c : Nat) (zs : List Zn) (now : Int) (w : World) (h : IsZones w A n c zs) (hn : n ≤ 100000) (h0 : rankV (zs.map (wV now)) = []) :
    Calls Try.prog 17 #[.slice A n c, .int .i64 now] w fun e w' => e = .returned (.tuple #[.int .i64 0, .int .i64 14]) ∧ Below w.heap.size w w' := by
  go_enter Try.func17, Try.ntmps17
  go_wp2_with fail
  refine (rank_any _ _ _ _ _ _ h hn).mono ?_
  rintro e w1 ⟨A1, c1, rfl, hO, hb⟩
  rw [h0] at hO ⊢
  simp only [List.length_nil]
  go_wp2_with fail
  go_ret2
  exact ⟨rfl, hb⟩
set_option maxRecDepth 100000 in
set_option maxHeartbeats 1000000 in
theorem choose_some (A : Option Addr) (n c : Nat) (zs : List Zn) (now : Int) (w : World) (h : IsZones w A n c zs) (hn : n ≤ 100000) (q : Nat) (rs : List Nat) (h0 : rankV (zs.map (wV now)) = q :: rs) :
    Calls Try.prog 17 #[.slice A n c, .int .i64 now] w fun e w' => e = .returned (.tuple #[.int .i64 (q : Int), .int .i64 0]) ∧ Below w.heap.size w w' := by
  go_enter Try.func17, Try.ntmps17
  go_wp2_with fail
  refine (rank_any _ _ _ _ _ _ h hn).mono ?_
  rintro e w1 ⟨A1, c1, rfl, hO, hb⟩
  rw [h0] at hO ⊢
  obtain ⟨ad, rfl, hbb, hcell⟩ := (rank_rd hO).get (k := 0) (by simp)
  have hcell0 : w1.cell? ad = some (.int .i64 (q : Int)) := hcell
  have hl0 : ((rs.length + 1 : Nat) : Int) ≠ 0 := by omega
  simp only [List.length_cons]
  have m0 : (0 : Int) ≤ (rs.length : Int) := by omega
  clear hcell hO h
  go_wp2_with fail
  go_ret2
  exact ⟨rfl, hb⟩
end Go.Proofs.Ytchhnjadnacniaa.Rk
