/- ScoreEdges: the walk. For every list of zones and every time the law returns true, and nothing that was there is written. No condition. -/
import Derived.Test.YtchhnjadnacniaaRkD
namespace Go.Proofs.Ytchhnjadnacniaa.Rk
set_option linter.unusedSimpArgs false
set_option linter.unusedVariables false
open Go.RowKit Go.Sort Go.Lib Fl Fb Sc
open Go.Proofs.Ytchhnjadnacniaa.So
attribute [local go_sem] u64_unsigned

theorem run_makeB (n : Nat) (hn : n ≤ 1000000) (W : World) : (Instr.makeSlice 27 (.int .i64 (n : Int)) (.int .i64 (n : Int))).run Try.prog W = .ok (.slice (some ⟨W.heap.size, 0, none⟩) n n) (W.alloc (.cells (List.replicate n (Value.bool false)).toArray 4)) := by
  obtain ⟨i0, hi, hz0, hz1, hz2⟩ := info_parts (show (Try.prog.info? 4).map (fun i => (i.zero, i.size, i.bytes)) = some (some (.bool false), 1, 1) by kernel_rfl)
  have h := run_make (P := Try.prog) W 27 4 i0 (.bool false) Try.underlying27 hi hz0 .i64 .i64 n n (by omega) (by omega) (by rw [hz2]; omega) (by omega)
  rw [Int.toNat_natCast, hz1, Nat.mul_one] at h
  rcases made_row (.bool false) n with e | e
  · rw [e] at h; exact h
  · exact absurd rfl e
/-- which were seen. -/
def seenR (r : List Nat) (n k : Nat) : List Value := (List.range n).map fun i => Value.bool (decide (i ∈ r.take k))
theorem seen_len (r : List Nat) (n k : Nat) : (seenR r n k).length = n := by unfold seenR; simp
theorem seen_zero (r : List Nat) (n : Nat) : seenR r n 0 = List.replicate n (Value.bool false) := by
  unfold seenR
  apply List.ext_getElem
  · simp
  · intro i h1 h2; simp
theorem seen_set {r : List Nat} {n k q : Nat} (hk : k < r.length) (hq : r[k] = q) : (seenR r n k).set q (.bool true) = seenR r n (k + 1) := by
  unfold seenR
  apply List.ext_getElem
  · simp
  · intro i h1 h2
    rw [List.getElem_set]
    simp only [List.getElem_map, List.getElem_range, List.take_succ_eq_append_getElem hk, hq, List.mem_append, List.mem_singleton]
    by_cases h : q = i
    · rw [if_pos h, decide_eq_true (.inr h.symm)]
    · rw [if_neg h]; congr 2; simp; intro e; exact absurd e.symm h
theorem seen_cell {w : World} {g n k q : Nat} {r : List Nat} {t : TypeId} (h : Bk w g t (seenR r n k)) (hq : q < n) (hn : r.Nodup) (hk : k < r.length) (he : r[k] = q) : w.cell? ⟨g, q, none⟩ = some (.bool false) := by
  rw [h.cell (i := q) (by rw [seen_len]; exact hq)]
  unfold seenR
  rw [List.getElem_map, List.getElem_range, decide_eq_false]
  intro hm
  obtain ⟨j, hj, e⟩ := List.getElem_of_mem hm
  rw [List.length_take] at hj
  rw [List.getElem_take] at e
  exact (List.pairwise_iff_getElem.1 hn) j k (by omega) hk (by omega) (by rw [e, he])
set_option maxHeartbeats 1000000 in
theorem edges_0 (A : Option Addr) (n c : Nat) (now : Int) (w : World) (h0 : decide (n ≤ 200) = false) :
    Calls Try.prog 3 #[.slice A n c, .int .i64 now] w fun e w' => e = .returned (.bool true) ∧ Below w.heap.size w w' := by
  go_enter Try.func3, Try.ntmps3
  go_wp2_with fail
  refine (small_any _ _ _ _).mono ?_
  rintro e w' ⟨rfl, rfl⟩
  go_wp2_with fail
  refine (awake_any _).mono ?_
  rintro e w1 ⟨rfl, hb⟩
  go_wp2_with fail
  go_ret
  exact ⟨rfl, hb⟩
set_option maxHeartbeats 1000000 in
theorem edges_1 (A : Option Addr) (n c : Nat) (now : Int) (w : World) (h0 : decide (n ≤ 200) = true) (h1 : decide (now < 0) = true) :
    Calls Try.prog 3 #[.slice A n c, .int .i64 now] w fun e w' => e = .returned (.bool true) ∧ Below w.heap.size w w' := by
  go_enter Try.func3, Try.ntmps3
  go_wp2_with fail
  refine (small_any _ _ _ _).mono ?_
  rintro e w' ⟨rfl, rfl⟩
  go_wp2_with fail
  refine (awake_any _).mono ?_
  rintro e w1 ⟨rfl, hb⟩
  go_wp2_with fail
  go_ret
  exact ⟨rfl, hb⟩
set_option maxHeartbeats 1000000 in
theorem edges_2 (A : Option Addr) (n c : Nat) (now : Int) (w : World) (h0 : decide (n ≤ 200) = true) (h1 : decide (now < 0) = false) (h2 : decide (1099511627776 < now) = true) :
    Calls Try.prog 3 #[.slice A n c, .int .i64 now] w fun e w' => e = .returned (.bool true) ∧ Below w.heap.size w w' := by
  go_enter Try.func3, Try.ntmps3
  go_wp2_with fail
  refine (small_any _ _ _ _).mono ?_
  rintro e w' ⟨rfl, rfl⟩
  go_wp2_with fail
  refine (awake_any _).mono ?_
  rintro e w1 ⟨rfl, hb⟩
  go_wp2_with fail
  go_ret
  exact ⟨rfl, hb⟩
set_option maxRecDepth 100000 in
set_option maxHeartbeats 8000000 in
theorem edges_x (A : Option Addr) (n c : Nat) (zs : List Zn) (now : Int) (w : World) (h : IsZones w A n c zs) (h0 : decide (n ≤ 200) = true) (h1 : decide (now < 0) = false) (h2 : decide (1099511627776 < now) = false) :
    Calls Try.prog 3 #[.slice A n c, .int .i64 now] w fun e w' => e = .returned (.bool true) ∧ Below w.heap.size w w' := by
  have hl := h.len
  have hn : n ≤ 200 := of_decide_eq_true h0
  have hmk := run_makeB n (by omega)
  go_enter Try.func3, Try.ntmps3
  go_wp2_with fail
  refine (small_any _ _ _ _).mono ?_
  rintro e w' ⟨rfl, rfl⟩
  go_wp2_with fail
  refine (rank_any _ _ _ _ _ _ h (by omega)).mono ?_
  rintro e w1 ⟨A1, c1, rfl, hO, hb⟩
  obtain ⟨ws, hws⟩ : ∃ ws, zs.map (wV now) = ws := ⟨_, rfl⟩
  rw [hws] at hO ⊢
  obtain ⟨r, hr⟩ : ∃ r, rankV ws = r := ⟨_, rfl⟩
  rw [hr] at hO ⊢
  have hwl : ws.length = n := by rw [← hws, List.length_map, hl]
  have hlt : ∀ q ∈ r, q < n ∧ gt0 ws q ≠ 0 := fun q hq => by rw [← hr, mem_rankV, hwl] at hq; exact hq
  have hnd : r.Nodup := by rw [← hr]; exact rankV_nodup ws
  have hpw : r.Pairwise fun a b => leR ws a b = true := by rw [← hr]; exact rankV_sorted ws
  have hz : ∀ q (hq : q < zs.length), gt0 ws q = wV now (zs[q]) := fun q hq => by unfold gt0; rw [← hws, List.getD_eq_getElem?_getD, List.getElem?_map, List.getElem?_eq_getElem hq]; rfl
  have hrd := rank_rd hO
  have hzr := (h.next hb).rd
  have hrl : r.length ≤ n := by rw [← hr, ← hwl]; exact rankV_len ws
  obtain ⟨m, hm⟩ : ∃ m, r.length = m := ⟨_, rfl⟩
  rw [hm] at hO ⊢
  have HB := Lib.hid (And.intro hlt (And.intro hnd (And.intro hpw (And.intro hz (And.intro hl hm)))))
  clear hO h hr hws hwl hlt hnd hpw hz hl
  rw [hm] at hrl
  clear hm
  go_wp2_with fail
  go_loopw [7, 8, 9] (fun b i _ wr => ∃ (k : Nat) (rest : Bool), k ≤ m ∧ i = .int .i64 k ∧ b = .bool rest ∧ Hid (rest = true → ∃ j, ∃ hj : j < r.length, j < k ∧ gt0 ws r[j] < 9218868437227405312) ∧ Below w1.heap.size w1 wr ∧ Bk wr w1.heap.size 4 (seenR r n k)) (fun _ i _ _ => m - (intOf i).toNat)
  case atStart =>
    refine ⟨0, false, Nat.zero_le _, rfl, rfl, (by intro e; cases e), (Below.refl _ _).alloc (Nat.le_refl _) _, ?_⟩
    rw [seen_zero]
    have := Bk.new w1 4 (List.replicate n (Value.bool false))
    simpa using this
  case round =>
    obtain ⟨k, rest, hk, rfl, rfl, HR, hW, hS⟩ := hrel
    clear hmk
    by_cases hkm : k < m
    · obtain ⟨hlt, hnd, hpw, hz, hl, hm⟩ := HB.out
      have hkr : k < r.length := by omega
      obtain ⟨q, hq⟩ : ∃ q, r[k] = q := ⟨_, rfl⟩
      obtain ⟨hqn, hq0⟩ := hlt q (by rw [← hq]; exact List.getElem_mem _)
      obtain ⟨adr, rfl, hab, hcr⟩ := (hrd.below hW).get (k := k) (by rw [List.length_map]; omega)
      rw [List.getElem_map, hq] at hcr
      unfold nv at hcr
      obtain ⟨adz, rfl, hzb, e0, e1, e2⟩ := zone_get (hzr.below hW) (k := q) (by omega)
      obtain ⟨z, hzz⟩ : ∃ z, zs[q]'(by omega) = z := ⟨_, rfl⟩
      rw [hzz] at e0 e1 e2
      have hwz := hz q (by omega)
      rw [hzz] at hwz
      rw [hwz] at hq0
      obtain ⟨hok, hs1, hls, hlt1⟩ := wV_num hq0
      obtain ⟨m1, m2, m3, m4, m5⟩ := mayZ_yes (okZ_yes hok).1
      have cs := seen_cell hS hqn hnd hkr hq
      have fs := hS.free q
      have n0 : (0 : Int) ≤ (q : Int) := by omega
      have n1 : (q : Int) < (n : Int) := by omega
      have n2 : (k : Int) < (m : Int) := by omega
      have g1 : decide ((q : Int) < 0) = false := decide_eq_false (by omega)
      have g2 : decide ((n : Int) ≤ (q : Int)) = false := decide_eq_false (by omega)
      have g3 : decide (n ≤ q) = false := decide_eq_false (by omega)
      have g4 : decide (z.s < 1) = false := decide_eq_false (by omega)
      have g5 : decide (z.s ≤ z.l) = false := decide_eq_false (by omega)
      have hinf : z.l = 0 → gt0 ws q = 9218868437227405312 := fun e => by rw [hwz]; exact wV_inf.2 ⟨hok, by omega, e⟩
      have hfin : 0 < z.l → gt0 ws q < 9218868437227405312 := fun e => by
        have h1 := wV_le now z
        have h2 : wV now z ≠ 9218868437227405312 := fun e2 => by have := (wV_inf.1 e2).2.2; omega
        omega
      have hrest : z.l = 0 → rest = false := fun e => by
        cases hb : rest
        · rfl
        · obtain ⟨j, hj, hjk, hj2⟩ := HR.out hb
          have hp := List.pairwise_iff_getElem.1 hpw j k hj hkr hjk
          rw [hq] at hp
          have := hinf e
          unfold leR at hp; simp at hp; omega
      have hsl := hS.lt
      have hS1 := hS.alloc (Obj.cells #[Value.int IntKind.i64 z.l, Value.int IntKind.i64 z.s, Value.int IntKind.i64 z.t] 29)
      have hcr2 : (wr.alloc (Obj.cells #[Value.int IntKind.i64 z.l, Value.int IntKind.i64 z.s, Value.int IntKind.i64 z.t] 29)).cell? (adr.add k) = some (.int .i64 (q : Int)) := by rw [World.cell?_alloc_lt _ _ _ (by rw [add_block]; have := hW.size; omega)]; exact hcr
      have cs2 := seen_cell hS1 hqn hnd hkr hq
      have fs2 := hS1.free q
      have hZ := (Bk.new wr 29 [Value.int IntKind.i64 z.l, Value.int IntKind.i64 z.s, Value.int IntKind.i64 z.t]).far (p := ⟨w1.heap.size, q, none⟩) (by show wr.heap.size ≠ w1.heap.size; omega) (.bool true)
      have z0 := hZ.cell (i := 0) (by simp)
      have z1 := hZ.cell (i := 1) (by simp)
      have z2 := hZ.cell (i := 2) (by simp)
      simp only [List.getElem_cons_zero, List.getElem_cons_succ] at z0 z1 z2
      have hW2 := (hW.alloc hW.size (Obj.cells #[Value.int IntKind.i64 z.l, Value.int IntKind.i64 z.s, Value.int IntKind.i64 z.t] 29)).setCell (p := ⟨w1.heap.size, q, none⟩) (Nat.le_refl _) (.bool true)
      have hS2 := hS1.set q (.bool true)
      rw [seen_set hkr hq] at hS2
      clear hS1 hZ
      have HF := Lib.hid (show 0 < z.l → ∃ j, ∃ hj : j < r.length, j < k + 1 ∧ gt0 ws r[j] < 9218868437227405312 from fun e => ⟨k, hkr, by omega, by rw [hq]; exact hfin e⟩)
      have hlz : 0 < z.l ∨ z.l = 0 := by omega
      clear HB hlt hnd hpw hz hl hm hkr hq hq0 hwz hok hzz m1 m2 m3 m4 m5 hinf hfin hS hsl
      rcases hlz with hlz | hlz
      · have g6 : decide (0 < z.l) = true := decide_eq_true hlz
        have g7 : decide (now ≤ z.t) = false := decide_eq_false (by have := hlt1 hlz; omega)
        have g8 : (z.l == 0) = false := beq_eq_false_iff_ne.2 (by omega)
        clear hrest
        cases rest
        all_goals
          go_wp2_with fail
          go_roundw
          case rel => exact ⟨k + 1, true, by omega, by go_num, rfl, (fun _ => HF.out (by omega)), hW2, hS2⟩
          case measure => simp [intOf]; omega
      · obtain rfl := hrest hlz
        have g6 : decide (0 < z.l) = false := decide_eq_false (by omega)
        have g8 : (z.l == 0) = true := beq_iff_eq.2 hlz
        clear hrest hlz
        go_wp2_with fail
        go_roundw
        case rel => exact ⟨k + 1, false, by omega, by go_num, rfl, (by intro e; cases e), hW2, hS2⟩
        case measure => simp [intOf]; omega
    · obtain rfl : k = m := by omega
      go_wp2_with fail
      refine (awake_any _).mono ?_
      rintro e w2 ⟨rfl, hb2⟩
      have HBB := (hb.trans (hW.mono hb.size)).trans (hb2.mono (Nat.le_trans hb.size hW.size))
      go_wp2_with fail
      go_ret
      exact ⟨rfl, HBB⟩
theorem edges_walk (A : Option Addr) (n c : Nat) (zs : List Zn) (now : Int) (w : World) (h : IsZones w A n c zs) (_h2 : (Lit.int .i64 now).wf = true) :
    Calls Try.prog 3 #[.slice A n c, .int .i64 now] w fun e w' => e = .returned (.bool true) ∧ Below w.heap.size w w' := by
  cases h0 : decide (n ≤ 200)
  · exact edges_0 A n c now w h0
  · cases h1 : decide (now < 0)
    · cases h2 : decide (1099511627776 < now)
      · exact edges_x A n c zs now w h h0 h1 h2
      · exact edges_2 A n c now w h0 h1 h2
    · exact edges_1 A n c now w h0 h1
end Go.Proofs.Ytchhnjadnacniaa.Rk
