/- ScoreTurns: the walk. For every list of zones, every time and every place the law returns true, and nothing that was there is written. No condition. -/
import Derived.Test.YtchhnjadnacniaaRkD
import Derived.Test.YtchhnjadnacniaaApk
import Derived.Test.YtchhnjadnacniaaRo
namespace Go.Proofs.Ytchhnjadnacniaa.Rk
set_option linter.unusedSimpArgs false
set_option linter.unusedVariables false
open Go.RowKit Go.Sort Go.Lib Fl Fb Sc
open Go.Proofs.Ytchhnjadnacniaa.So
attribute [local go_sem] u64_unsigned

theorem add_succ_ (ad : Addr) (j : Nat) : ad.add (j + 1) = ⟨ad.block, ad.off + (j + 1), none⟩ := by simp [Addr.add]
theorem infoZ : (Try.prog.info? 29).map (fun i => (i.zero, i.size, i.bytes)) = some (some (.agg #[.int .i64 0, .int .i64 0, .int .i64 0]), 3, 24) := by kernel_rfl
theorem zcells_one {zs : List Zn} : ∀ u ∈ zcells zs, u.oneCell' = true := by
  intro u hu
  unfold zcells at hu
  obtain ⟨z, _, hz⟩ := List.mem_flatMap.1 hu
  unfold Zn.cells at hz
  simp at hz
  rcases hz with rfl | rfl | rfl <;> rfl
theorem rd_take3 {w : World} {B : Nat} {A : Option Addr} {zs : List Zn} (h : Rd w B A (zcells zs)) (k : Nat) : Rd w B A (zcells (zs.take k)) := by
  rw [← zcells_take]; exact h.take _
theorem rd_drop3 {w : World} {B : Nat} {A : Option Addr} {zs : List Zn} (h : Rd w B A (zcells zs)) {k c n : Nat} (hn : n = zs.length) (hk : k ≤ n) (hc : n ≤ c) {A' : Option Addr} (hA : A' = if c = k then A else A.map (·.add (k * 3))) : Rd w B A' (zcells (zs.drop k)) := by
  subst hA
  rw [← zcells_drop]
  have := h.drop (k := k * 3) (c := c * 3) (n := n * 3) (by rw [zcells_len, hn]) (by omega) (by omega)
  by_cases h0 : c = k
  · rw [if_pos h0]; rwa [if_pos (by omega)] at this
  · rw [if_neg h0]; rwa [if_neg (by omega)] at this
theorem zones_own {w : World} {B n : Nat} {v : Value} {zs : List Zn} {e : TypeId} (h : w.ownsRow B e 3 v n (zcells zs)) : ∃ A c, v = .slice A n c ∧ IsZones w A n c zs := by
  have hl : zs.length = n := by have := h.1; rw [zcells_len] at this; omega
  rcases h.2 with ⟨rfl, h0⟩ | ⟨g, cap, cur, rfl, _, hg, hnc, hcm, _⟩
  · obtain rfl : zs = [] := List.eq_nil_of_length_eq_zero (by omega)
    subst h0
    exact ⟨none, 0, rfl, rfl, Rd.nil _ _ _, Nat.le_refl _, by simp [maxLen]⟩
  · exact ⟨_, cap, rfl, hl, fun _ => ⟨_, rfl, (Array.getElem?_eq_some_iff.1 hg).1, h.cells (g := g) rfl⟩, hnc, hcm⟩
theorem SC.num {x c v : Nat} (h : SC x c v) (h0 : v ≠ 0) : c = 0 ∧ x = v ∧ v ≤ 9218868437227405312 := by
  rcases h with ⟨_, h⟩ | ⟨_, _, h⟩ | h
  · exact absurd h h0
  · exact absurd h h0
  · exact h
/-- two that stand beside each other. -/
theorem turn {ws r : List Nat} {now : Int} (hp : r.Pairwise fun a b => leR ws a b = true) (hn : r.Nodup) {k : Nat} (hk : k + 1 < r.length) : gt0 ws r[k + 1] < gt0 ws r[k] ∨ (gt0 ws r[k] = gt0 ws r[k + 1] ∧ r[k] < r[k + 1]) := by
  have h1 := List.pairwise_iff_getElem.1 hp k (k + 1) (by omega) hk (by omega)
  have h2 := List.pairwise_iff_getElem.1 hn k (k + 1) (by omega) hk (by omega)
  unfold leR at h1
  simp at h1
  omega
set_option maxHeartbeats 1000000 in
theorem turns_0 (A : Option Addr) (n c : Nat) (now k0 : Int) (w : World) (h0 : decide (n ≤ 200) = false) :
    Calls Try.prog 4 #[.slice A n c, .int .i64 now, .int .i64 k0] w fun e w' => e = .returned (.bool true) ∧ Below w.heap.size w w' := by
  go_enter Try.func4, Try.ntmps4
  go_wp2_with fail
  refine (small_any _ _ _ _).mono ?_
  rintro e w' ⟨rfl, rfl⟩
  go_wp2_with fail
  refine (awake_any _).mono ?_
  rintro e w1 ⟨rfl, hb⟩
  go_wp2_with fail
  go_ret
  exact ⟨rfl, hb⟩
set_option maxHeartbeats 1000000 in
theorem turns_1 (A : Option Addr) (n c : Nat) (now k0 : Int) (w : World) (h0 : decide (n ≤ 200) = true) (h1 : decide (now < 0) = true) :
    Calls Try.prog 4 #[.slice A n c, .int .i64 now, .int .i64 k0] w fun e w' => e = .returned (.bool true) ∧ Below w.heap.size w w' := by
  go_enter Try.func4, Try.ntmps4
  go_wp2_with fail
  refine (small_any _ _ _ _).mono ?_
  rintro e w' ⟨rfl, rfl⟩
  go_wp2_with fail
  refine (awake_any _).mono ?_
  rintro e w1 ⟨rfl, hb⟩
  go_wp2_with fail
  go_ret
  exact ⟨rfl, hb⟩
set_option maxHeartbeats 1000000 in
theorem turns_2 (A : Option Addr) (n c : Nat) (now k0 : Int) (w : World) (h0 : decide (n ≤ 200) = true) (h1 : decide (now < 0) = false) (h2 : decide (1099511627776 < now) = true) :
    Calls Try.prog 4 #[.slice A n c, .int .i64 now, .int .i64 k0] w fun e w' => e = .returned (.bool true) ∧ Below w.heap.size w w' := by
  go_enter Try.func4, Try.ntmps4
  go_wp2_with fail
  refine (small_any _ _ _ _).mono ?_
  rintro e w' ⟨rfl, rfl⟩
  go_wp2_with fail
  refine (awake_any _).mono ?_
  rintro e w1 ⟨rfl, hb⟩
  go_wp2_with fail
  go_ret
  exact ⟨rfl, hb⟩
set_option maxRecDepth 100000 in
set_option maxHeartbeats 8000000 in
theorem turns_x (A : Option Addr) (n c : Nat) (zs : List Zn) (now k0 : Int) (w : World) (h : IsZones w A n c zs) (hk0 : (Lit.int .i64 k0).wf = true) (h0 : decide (n ≤ 200) = true) (h1 : decide (now < 0) = false) (h2 : decide (1099511627776 < now) = false) :
    Calls Try.prog 4 #[.slice A n c, .int .i64 now, .int .i64 k0] w fun e w' => e = .returned (.bool true) ∧ Below w.heap.size w w' := by
  have hl := h.len
  have hn : n ≤ 200 := of_decide_eq_true h0
  obtain ⟨i0, hi, hz0, hz1, hz2⟩ := info_parts infoZ
  go_enter Try.func4, Try.ntmps4
  go_wp2_with fail
  refine (small_any _ _ _ _).mono ?_
  rintro e w' ⟨rfl, rfl⟩
  go_wp2_with fail
  refine (rank_any _ _ _ _ _ _ h (by omega)).mono ?_
  rintro e w1 ⟨A1, c1, rfl, hO, hb⟩
  obtain ⟨ws, hws⟩ : ∃ ws, zs.map (wV now) = ws := ⟨_, rfl⟩
  rw [hws] at hO ⊢
  obtain ⟨r, hr⟩ : ∃ r, rankV ws = r := ⟨_, rfl⟩
  rw [hr] at hO ⊢
  have hwl : ws.length = n := by rw [← hws, List.length_map, hl]
  have hlt : ∀ q ∈ r, q < n ∧ gt0 ws q ≠ 0 := fun q hq => by rw [← hr, mem_rankV, hwl] at hq; exact hq
  have htn : ∀ k (hk : k + 1 < r.length), gt0 ws r[k + 1] < gt0 ws r[k] ∨ (gt0 ws r[k] = gt0 ws r[k + 1] ∧ r[k] < r[k + 1]) := fun k hk => by
    exact turn (now := now) (by rw [← hr]; exact rankV_sorted ws) (by rw [← hr]; exact rankV_nodup ws) hk
  have hz : ∀ q (hq : q < zs.length), gt0 ws q = wV now (zs[q]) := fun q hq => by unfold gt0; rw [← hws, List.getD_eq_getElem?_getD, List.getElem?_map, List.getElem?_eq_getElem hq]; rfl
  have hrd := rank_rd hO
  have hh := h.next hb
  have hrl : r.length ≤ n := by rw [← hr, ← hwl]; exact rankV_len ws
  obtain ⟨m, hm⟩ : ∃ m, r.length = m := ⟨_, rfl⟩
  rw [hm] at hO ⊢
  have HB := Lib.hid (And.intro hlt (And.intro htn (And.intro hz (And.intro hl hm))))
  have HC := Lib.hid (And.intro hws (And.intro hr (And.intro hwl (And.intro hl hm))))
  have hcap := h.cap
  have hbig := h.big
  clear hO h hr hws hwl hlt htn hz hl
  rw [hm] at hrl
  clear hm
  go_wp2_with fail
  go_loopw [8, 9, 10, 11, 12] (fun i _ _ _ _ wr => ∃ (k : Nat), (k + 1 ≤ m ∨ k = 0) ∧ i = .int .i64 ((k : Int) + 1) ∧ Below w1.heap.size w1 wr) (fun i _ _ _ _ _ => m - (intOf i).toNat)
  case atStart => exact ⟨0, .inr rfl, rfl, Below.refl _ _⟩
  case round =>
    obtain ⟨k, hk, rfl, hW⟩ := hrel
    by_cases hkm : k + 1 < m
    · obtain ⟨hlt, htn, hz, hl, hm⟩ := HB.out
      obtain ⟨q1, hq1⟩ : ∃ q, r[k]'(by omega) = q := ⟨_, rfl⟩
      obtain ⟨q2, hq2⟩ : ∃ q, r[k + 1]'(by omega) = q := ⟨_, rfl⟩
      obtain ⟨hn1, hv1⟩ := hlt q1 (by rw [← hq1]; exact List.getElem_mem _)
      obtain ⟨hn2, hv2⟩ := hlt q2 (by rw [← hq2]; exact List.getElem_mem _)
      have hT := htn k (by omega)
      rw [hq1, hq2] at hT
      obtain ⟨adr, rfl, hab, hc1⟩ := (hrd.below hW).get (k := k) (by rw [List.length_map]; omega)
      have hc2 : wr.cell? (adr.add (k + 1)) = some (nv q2) := by
        obtain ⟨ad2, e, _, hcc⟩ := (hrd.below hW).get (k := k + 1) (by rw [List.length_map]; omega)
        injection e with e; subst e
        rw [List.getElem_map, hq2] at hcc; exact hcc
      rw [List.getElem_map, hq1] at hc1
      unfold nv at hc1 hc2
      obtain ⟨adz, rfl, hzb, e0, e1, e2⟩ := zone_get (hh.rd.below hW) (k := q1) (by omega)
      obtain ⟨z1, hz1'⟩ : ∃ z, zs[q1]'(by omega) = z := ⟨_, rfl⟩
      obtain ⟨z2, hz2'⟩ : ∃ z, zs[q2]'(by omega) = z := ⟨_, rfl⟩
      obtain ⟨d0, d1, d2⟩ : wr.cell? (adz.add (q2 * 3)) = some (.int .i64 z2.l) ∧ wr.cell? ⟨(adz.add (q2 * 3)).block, (adz.add (q2 * 3)).off + 1, none⟩ = some (.int .i64 z2.s) ∧ wr.cell? ⟨(adz.add (q2 * 3)).block, (adz.add (q2 * 3)).off + 2, none⟩ = some (.int .i64 z2.t) := by
        obtain ⟨ad2, e, _, hcc⟩ := zone_get (hh.rd.below hW) (k := q2) (by omega)
        injection e with e; subst e
        rw [hz2'] at hcc; exact hcc
      rw [hz1'] at e0 e1 e2
      have hw1 := hz q1 (by omega)
      rw [hz1'] at hw1
      have hw2 := hz q2 (by omega)
      rw [hz2'] at hw2
      rw [hw1, hw2] at hT
      rw [hw1] at hv1
      rw [hw2] at hv2
      have n0 : (0 : Int) ≤ (q1 : Int) := by omega
      have n1 : (q1 : Int) < (n : Int) := by omega
      have n2 : (0 : Int) ≤ (q2 : Int) := by omega
      have n3 : (q2 : Int) < (n : Int) := by omega
      have n4 : (k : Int) + 1 < (m : Int) := by omega
      have n5 : (k : Int) < (m : Int) := by omega
      have n6 : (0 : Int) ≤ (k : Int) + 1 := by omega
      have n7 : (k : Int) + 1 ≤ 1000 := by omega
      have HV := Lib.hid (And.intro hv1 hv2)
      have HT := Lib.hid hT
      clear HB HC hlt htn hz hl hm hq1 hq2 hv1 hv2 hT hw1 hw2 hz1' hz2'
      go_wp2_with fail
      refine (score_any z1 now _).mono ?_
      rintro e w2 ⟨x, cc, rfl, hb2, hS1⟩
      obtain ⟨rfl, hx, hxi⟩ := hS1.num HV.out.1
      have c1' : w2.cell? (adr.add k) = _ := (hb2.cell (by rw [add_block]; have := hW.size; omega)).trans hc1
      have c2' : w2.cell? (adr.add (k + 1)) = _ := (hb2.cell (by rw [add_block]; have := hW.size; omega)).trans hc2
      have d0' : w2.cell? (adz.add (q2 * 3)) = _ := (hb2.cell (by rw [add_block]; have := hW.size; omega)).trans d0
      have d1' : w2.cell? ⟨(adz.add (q2 * 3)).block, (adz.add (q2 * 3)).off + 1, none⟩ = _ := (hb2.cell (by show (adz.add _).block < _; rw [add_block]; have := hW.size; omega)).trans d1
      have d2' : w2.cell? ⟨(adz.add (q2 * 3)).block, (adz.add (q2 * 3)).off + 2, none⟩ = _ := (hb2.cell (by show (adz.add _).block < _; rw [add_block]; have := hW.size; omega)).trans d2
      have hW2 := hW.trans (hb2.mono hW.size)
      have HX := Lib.hid hx
      rw [add_succ_ adr k] at c2'
      clear hS1 hc1 hc2 d0 d1 d2 e0 e1 e2 hW hb2 hx
      go_wp2_with fail
      refine (score_any z2 now _).mono ?_
      rintro e w3 ⟨y, cc, rfl, hb3, hS2⟩
      obtain ⟨rfl, hy, hyi⟩ := hS2.num HV.out.2
      have c1 : w3.cell? (adr.add k) = _ := (hb3.cell (by rw [add_block]; have := hW2.size; omega)).trans c1'
      rw [← add_succ_ adr k] at c2'
      have c2 : w3.cell? (adr.add (k + 1)) = _ := (hb3.cell (by rw [add_block]; have := hW2.size; omega)).trans c2'
      rw [add_succ_ adr k] at c2
      have hx := HX.out
      have hW3 := hW2.trans (hb3.mono hW2.size)
      have hT := HT.out
      rw [← hx, ← hy] at hT
      rw [← hx] at hxi
      rw [← hy] at hyi
      have t0 : (FloatKind.f64.format.order x y == some .gt) = decide (y < x) := p_gt hxi hyi
      clear hS2 c1' c2' d0' d1' d2' hW2 hb3 HT HV hx hy HX
      by_cases hgt : y < x
      · rw [decide_eq_true hgt] at t0
        clear hT hgt hxi hyi
        · have wk : IntKind.i64.wrap (k : Int) = k := IntWalk.i64_in _ (by omega)
          have wk1 : IntKind.i64.wrap ((k : Int) + 1) = k + 1 := IntWalk.i64_in _ (by omega)
          go_wp2_with fail
          refine wp_region_held_drew (S := Drawn w3) (by kernel_rfl) (by first | exact Drawn.of _ _ | exact Drawn.one _) (fun hHeld => ?_)
          refine wpAnyH_take (i := 0) (v := ?v1_0) (by simp only [List.getElem?_toArray, List.getElem?_cons_succ, List.getElem?_cons_zero]; rfl) (by kernel_rfl) (by kernel_rfl) (by kernel_rfl) (by exact fun _ _ _ h => h) (Or.inl ⟨by rfl, ?h1_0⟩) hHeld ?_
          case h1_0 => (intro w' hSw; obtain ⟨m, rfl⟩ := hSw; go_simp <;> with_reducible rfl)
          try simp only [Act.put, List.setIfInBounds_toArray, List.set_cons_zero, List.set_cons_succ]
          refine wpAnyH_take (i := 1) (v := ?v2_1) (by simp only [List.getElem?_toArray, List.getElem?_cons_succ, List.getElem?_cons_zero]; rfl) (by kernel_rfl) (by kernel_rfl) (by kernel_rfl) (by exact fun _ _ _ h => h) (Or.inl ⟨by rfl, ?h2_1⟩) hHeld ?_
          case h2_1 => (intro w' hSw; obtain ⟨m, rfl⟩ := hSw; go_simp <;> with_reducible rfl)
          try simp only [Act.put, List.setIfInBounds_toArray, List.set_cons_zero, List.set_cons_succ]
          refine wpAnyH_take (i := 2) (v := ?v3_2) (by simp only [List.getElem?_toArray, List.getElem?_cons_succ, List.getElem?_cons_zero]; rfl) (by kernel_rfl) (by kernel_rfl) (by kernel_rfl) (by exact fun _ _ _ h => h) (Or.inl ⟨by rfl, ?h3_2⟩) hHeld ?_
          case h3_2 => (intro w' hSw; obtain ⟨m, rfl⟩ := hSw; go_simp <;> with_reducible rfl)
          try simp only [Act.put, List.setIfInBounds_toArray, List.set_cons_zero, List.set_cons_succ]
          refine wpAnyH_take (i := 3) (v := ?v4_3) (by simp only [List.getElem?_toArray, List.getElem?_cons_succ, List.getElem?_cons_zero]; rfl) (by kernel_rfl) (by kernel_rfl) (by kernel_rfl) (by exact fun _ _ _ h => h) (Or.inl ⟨by rfl, ?h4_3⟩) hHeld ?_
          case h4_3 => (intro w' hSw; obtain ⟨m, rfl⟩ := hSw; go_simp <;> with_reducible rfl)
          try simp only [Act.put, List.setIfInBounds_toArray, List.set_cons_zero, List.set_cons_succ]
          refine wpAnyH_take (i := 4) (v := undef) (by simp only [List.getElem?_toArray, List.getElem?_cons_succ, List.getElem?_cons_zero]; rfl) (by kernel_rfl) (by kernel_rfl) (by kernel_rfl) (by exact fun _ _ _ h => h) (Or.inr ⟨by rfl, rfl⟩) hHeld ?_
          try simp only [Act.put, List.setIfInBounds_toArray, List.set_cons_zero, List.set_cons_succ]
          refine wpAnyH_take (i := 5) (v := undef) (by simp only [List.getElem?_toArray, List.getElem?_cons_succ, List.getElem?_cons_zero]; rfl) (by kernel_rfl) (by kernel_rfl) (by kernel_rfl) (by exact fun _ _ _ h => h) (Or.inr ⟨by rfl, rfl⟩) hHeld ?_
          try simp only [Act.put, List.setIfInBounds_toArray, List.set_cons_zero, List.set_cons_succ]
          refine wpAnyH_take (i := 6) (v := undef) (by simp only [List.getElem?_toArray, List.getElem?_cons_succ, List.getElem?_cons_zero]; rfl) (by kernel_rfl) (by kernel_rfl) (by kernel_rfl) (by exact fun _ _ _ h => h) (Or.inr ⟨by rfl, rfl⟩) hHeld ?_
          try simp only [Act.put, List.setIfInBounds_toArray, List.set_cons_zero, List.set_cons_succ]
          refine wpAnyH_take (i := 7) (v := undef) (by simp only [List.getElem?_toArray, List.getElem?_cons_succ, List.getElem?_cons_zero]; rfl) (by kernel_rfl) (by kernel_rfl) (by kernel_rfl) (by exact fun _ _ _ h => h) (Or.inr ⟨by rfl, rfl⟩) hHeld ?_
          try simp only [Act.put, List.setIfInBounds_toArray, List.set_cons_zero, List.set_cons_succ]
          refine wpAnyH_take (i := 8) (v := undef) (by simp only [List.getElem?_toArray, List.getElem?_cons_succ, List.getElem?_cons_zero]; rfl) (by kernel_rfl) (by kernel_rfl) (by kernel_rfl) (by exact fun _ _ _ h => h) (Or.inr ⟨by rfl, rfl⟩) hHeld ?_
          try simp only [Act.put, List.setIfInBounds_toArray, List.set_cons_zero, List.set_cons_succ]
          refine wpAnyH_take (i := 9) (v := undef) (by simp only [List.getElem?_toArray, List.getElem?_cons_succ, List.getElem?_cons_zero]; rfl) (by kernel_rfl) (by kernel_rfl) (by kernel_rfl) (by exact fun _ _ _ h => h) (Or.inr ⟨by rfl, rfl⟩) hHeld ?_
          try simp only [Act.put, List.setIfInBounds_toArray, List.set_cons_zero, List.set_cons_succ]
          refine wpAnyH_take (i := 10) (v := undef) (by simp only [List.getElem?_toArray, List.getElem?_cons_succ, List.getElem?_cons_zero]; rfl) (by kernel_rfl) (by kernel_rfl) (by kernel_rfl) (by exact fun _ _ _ h => h) (Or.inr ⟨by rfl, rfl⟩) hHeld ?_
          try simp only [Act.put, List.setIfInBounds_toArray, List.set_cons_zero, List.set_cons_succ]
          refine wpAnyH_take (i := 11) (v := undef) (by simp only [List.getElem?_toArray, List.getElem?_cons_succ, List.getElem?_cons_zero]; rfl) (by kernel_rfl) (by kernel_rfl) (by kernel_rfl) (by exact fun _ _ _ h => h) (Or.inr ⟨by rfl, rfl⟩) hHeld ?_
          try simp only [Act.put, List.setIfInBounds_toArray, List.set_cons_zero, List.set_cons_succ]
          refine wpAnyH_take (i := 12) (v := undef) (by simp only [List.getElem?_toArray, List.getElem?_cons_succ, List.getElem?_cons_zero]; rfl) (by kernel_rfl) (by kernel_rfl) (by kernel_rfl) (by exact fun _ _ _ h => h) (Or.inr ⟨by rfl, rfl⟩) hHeld ?_
          try simp only [Act.put, List.setIfInBounds_toArray, List.set_cons_zero, List.set_cons_succ]
          refine wpAnyH_take (i := 13) (v := undef) (by simp only [List.getElem?_toArray, List.getElem?_cons_succ, List.getElem?_cons_zero]; rfl) (by kernel_rfl) (by kernel_rfl) (by kernel_rfl) (by exact fun _ _ _ h => h) (Or.inr ⟨by rfl, rfl⟩) hHeld ?_
          try simp only [Act.put, List.setIfInBounds_toArray, List.set_cons_zero, List.set_cons_succ]
          refine wpAnyH_take (i := 14) (v := undef) (by simp only [List.getElem?_toArray, List.getElem?_cons_succ, List.getElem?_cons_zero]; rfl) (by kernel_rfl) (by kernel_rfl) (by kernel_rfl) (by exact fun _ _ _ h => h) (Or.inr ⟨by rfl, rfl⟩) hHeld ?_
          try simp only [Act.put, List.setIfInBounds_toArray, List.set_cons_zero, List.set_cons_succ]
          refine wpAnyH_take (i := 15) (v := undef) (by simp only [List.getElem?_toArray, List.getElem?_cons_succ, List.getElem?_cons_zero]; rfl) (by kernel_rfl) (by kernel_rfl) (by kernel_rfl) (by exact fun _ _ _ h => h) (Or.inr ⟨by rfl, rfl⟩) hHeld ?_
          try simp only [Act.put, List.setIfInBounds_toArray, List.set_cons_zero, List.set_cons_succ]
          refine wpAnyH_take (i := 16) (v := undef) (by simp only [List.getElem?_toArray, List.getElem?_cons_succ, List.getElem?_cons_zero]; rfl) (by kernel_rfl) (by kernel_rfl) (by kernel_rfl) (by exact fun _ _ _ h => h) (Or.inr ⟨by rfl, rfl⟩) hHeld ?_
          try simp only [Act.put, List.setIfInBounds_toArray, List.set_cons_zero, List.set_cons_succ]
          refine wpAnyH_take (i := 17) (v := undef) (by simp only [List.getElem?_toArray, List.getElem?_cons_succ, List.getElem?_cons_zero]; rfl) (by kernel_rfl) (by kernel_rfl) (by kernel_rfl) (by exact fun _ _ _ h => h) (Or.inr ⟨by rfl, rfl⟩) hHeld ?_
          try simp only [Act.put, List.setIfInBounds_toArray, List.set_cons_zero, List.set_cons_succ]
          refine wpAnyH_take (i := 18) (v := undef) (by simp only [List.getElem?_toArray, List.getElem?_cons_succ, List.getElem?_cons_zero]; rfl) (by kernel_rfl) (by kernel_rfl) (by kernel_rfl) (by exact fun _ _ _ h => h) (Or.inr ⟨by rfl, rfl⟩) hHeld ?_
          try simp only [Act.put, List.setIfInBounds_toArray, List.set_cons_zero, List.set_cons_succ]
          refine wpAnyH_take (i := 19) (v := ?v5_19) (by simp only [List.getElem?_toArray, List.getElem?_cons_succ, List.getElem?_cons_zero]; rfl) (by kernel_rfl) (by kernel_rfl) (by kernel_rfl) (by exact fun _ _ _ h => h) (Or.inl ⟨by rfl, ?h5_19⟩) hHeld ?_
          case h5_19 => (intro w' hSw; obtain ⟨m, rfl⟩ := hSw; go_simp <;> with_reducible rfl)
          try simp only [Act.put, List.setIfInBounds_toArray, List.set_cons_zero, List.set_cons_succ]
          refine wpAnyH_take (i := 20) (v := ?v6_20) (by simp only [List.getElem?_toArray, List.getElem?_cons_succ, List.getElem?_cons_zero]; rfl) (by kernel_rfl) (by kernel_rfl) (by kernel_rfl) (by exact fun _ _ _ h => h) (Or.inl ⟨by rfl, ?h6_20⟩) hHeld ?_
          case h6_20 => (intro w' hSw; obtain ⟨m, rfl⟩ := hSw; go_simp <;> with_reducible rfl)
          try simp only [Act.put, List.setIfInBounds_toArray, List.set_cons_zero, List.set_cons_succ]
          refine wpAnyH_done (by kernel_rfl) ?_ _
          clear wk wk1
          go_wp2_with fail
          go_roundw
          case rel => exact ⟨k + 1, .inl (by omega), by go_num, bdrewN hW3 _⟩
          case measure => simp [intOf]; omega
      · rw [decide_eq_false hgt] at t0
        have hxy : x = y ∧ q1 < q2 := by omega
        have t1 : (FloatKind.f64.format.order x y == some .eq) = true := by rw [p_eq hxi hyi]; exact decide_eq_true hxy.1
        have t2 : decide ((q1 : Int) < (q2 : Int)) = true := decide_eq_true (by omega)
        have t3 : decide (q1 < q2) = true := decide_eq_true (by omega)
        clear hT hgt hxi hyi hxy
        · have wk : IntKind.i64.wrap (k : Int) = k := IntWalk.i64_in _ (by omega)
          have wk1 : IntKind.i64.wrap ((k : Int) + 1) = k + 1 := IntWalk.i64_in _ (by omega)
          go_wp2_with fail
          refine wp_region_held_drew (S := Drawn w3) (by kernel_rfl) (by first | exact Drawn.of _ _ | exact Drawn.one _) (fun hHeld => ?_)
          refine wpAnyH_take (i := 0) (v := ?v7_0) (by simp only [List.getElem?_toArray, List.getElem?_cons_succ, List.getElem?_cons_zero]; rfl) (by kernel_rfl) (by kernel_rfl) (by kernel_rfl) (by exact fun _ _ _ h => h) (Or.inl ⟨by rfl, ?h7_0⟩) hHeld ?_
          case h7_0 => (intro w' hSw; obtain ⟨m, rfl⟩ := hSw; go_simp <;> with_reducible rfl)
          try simp only [Act.put, List.setIfInBounds_toArray, List.set_cons_zero, List.set_cons_succ]
          refine wpAnyH_take (i := 1) (v := ?v8_1) (by simp only [List.getElem?_toArray, List.getElem?_cons_succ, List.getElem?_cons_zero]; rfl) (by kernel_rfl) (by kernel_rfl) (by kernel_rfl) (by exact fun _ _ _ h => h) (Or.inl ⟨by rfl, ?h8_1⟩) hHeld ?_
          case h8_1 => (intro w' hSw; obtain ⟨m, rfl⟩ := hSw; go_simp <;> with_reducible rfl)
          try simp only [Act.put, List.setIfInBounds_toArray, List.set_cons_zero, List.set_cons_succ]
          refine wpAnyH_take (i := 2) (v := ?v9_2) (by simp only [List.getElem?_toArray, List.getElem?_cons_succ, List.getElem?_cons_zero]; rfl) (by kernel_rfl) (by kernel_rfl) (by kernel_rfl) (by exact fun _ _ _ h => h) (Or.inl ⟨by rfl, ?h9_2⟩) hHeld ?_
          case h9_2 => (intro w' hSw; obtain ⟨m, rfl⟩ := hSw; go_simp <;> with_reducible rfl)
          try simp only [Act.put, List.setIfInBounds_toArray, List.set_cons_zero, List.set_cons_succ]
          refine wpAnyH_take (i := 3) (v := ?v10_3) (by simp only [List.getElem?_toArray, List.getElem?_cons_succ, List.getElem?_cons_zero]; rfl) (by kernel_rfl) (by kernel_rfl) (by kernel_rfl) (by exact fun _ _ _ h => h) (Or.inl ⟨by rfl, ?h10_3⟩) hHeld ?_
          case h10_3 => (intro w' hSw; obtain ⟨m, rfl⟩ := hSw; go_simp <;> with_reducible rfl)
          try simp only [Act.put, List.setIfInBounds_toArray, List.set_cons_zero, List.set_cons_succ]
          refine wpAnyH_take (i := 4) (v := ?v11_4) (by simp only [List.getElem?_toArray, List.getElem?_cons_succ, List.getElem?_cons_zero]; rfl) (by kernel_rfl) (by kernel_rfl) (by kernel_rfl) (by exact fun _ _ _ h => h) (Or.inl ⟨by rfl, ?h11_4⟩) hHeld ?_
          case h11_4 => (intro w' hSw; obtain ⟨m, rfl⟩ := hSw; go_simp <;> with_reducible rfl)
          try simp only [Act.put, List.setIfInBounds_toArray, List.set_cons_zero, List.set_cons_succ]
          refine wpAnyH_take (i := 5) (v := ?v12_5) (by simp only [List.getElem?_toArray, List.getElem?_cons_succ, List.getElem?_cons_zero]; rfl) (by kernel_rfl) (by kernel_rfl) (by kernel_rfl) (by exact fun _ _ _ h => h) (Or.inl ⟨by rfl, ?h12_5⟩) hHeld ?_
          case h12_5 => (intro w' hSw; obtain ⟨m, rfl⟩ := hSw; go_simp <;> with_reducible rfl)
          try simp only [Act.put, List.setIfInBounds_toArray, List.set_cons_zero, List.set_cons_succ]
          refine wpAnyH_take (i := 6) (v := ?v13_6) (by simp only [List.getElem?_toArray, List.getElem?_cons_succ, List.getElem?_cons_zero]; rfl) (by kernel_rfl) (by kernel_rfl) (by kernel_rfl) (by exact fun _ _ _ h => h) (Or.inl ⟨by rfl, ?h13_6⟩) hHeld ?_
          case h13_6 => (intro w' hSw; obtain ⟨m, rfl⟩ := hSw; go_simp <;> with_reducible rfl)
          try simp only [Act.put, List.setIfInBounds_toArray, List.set_cons_zero, List.set_cons_succ]
          refine wpAnyH_take (i := 7) (v := ?v14_7) (by simp only [List.getElem?_toArray, List.getElem?_cons_succ, List.getElem?_cons_zero]; rfl) (by kernel_rfl) (by kernel_rfl) (by kernel_rfl) (by exact fun _ _ _ h => h) (Or.inl ⟨by rfl, ?h14_7⟩) hHeld ?_
          case h14_7 => (intro w' hSw; obtain ⟨m, rfl⟩ := hSw; go_simp <;> with_reducible rfl)
          try simp only [Act.put, List.setIfInBounds_toArray, List.set_cons_zero, List.set_cons_succ]
          refine wpAnyH_take (i := 8) (v := ?v15_8) (by simp only [List.getElem?_toArray, List.getElem?_cons_succ, List.getElem?_cons_zero]; rfl) (by kernel_rfl) (by kernel_rfl) (by kernel_rfl) (by exact fun _ _ _ h => h) (Or.inl ⟨by rfl, ?h15_8⟩) hHeld ?_
          case h15_8 => (intro w' hSw; obtain ⟨m, rfl⟩ := hSw; go_simp <;> with_reducible rfl)
          try simp only [Act.put, List.setIfInBounds_toArray, List.set_cons_zero, List.set_cons_succ]
          refine wpAnyH_take (i := 9) (v := ?v16_9) (by simp only [List.getElem?_toArray, List.getElem?_cons_succ, List.getElem?_cons_zero]; rfl) (by kernel_rfl) (by kernel_rfl) (by kernel_rfl) (by exact fun _ _ _ h => h) (Or.inl ⟨by rfl, ?h16_9⟩) hHeld ?_
          case h16_9 => (intro w' hSw; obtain ⟨m, rfl⟩ := hSw; go_simp <;> with_reducible rfl)
          try simp only [Act.put, List.setIfInBounds_toArray, List.set_cons_zero, List.set_cons_succ]
          refine wpAnyH_take (i := 10) (v := ?v17_10) (by simp only [List.getElem?_toArray, List.getElem?_cons_succ, List.getElem?_cons_zero]; rfl) (by kernel_rfl) (by kernel_rfl) (by kernel_rfl) (by exact fun _ _ _ h => h) (Or.inl ⟨by rfl, ?h17_10⟩) hHeld ?_
          case h17_10 => (intro w' hSw; obtain ⟨m, rfl⟩ := hSw; go_simp <;> with_reducible rfl)
          try simp only [Act.put, List.setIfInBounds_toArray, List.set_cons_zero, List.set_cons_succ]
          refine wpAnyH_take (i := 11) (v := ?v18_11) (by simp only [List.getElem?_toArray, List.getElem?_cons_succ, List.getElem?_cons_zero]; rfl) (by kernel_rfl) (by kernel_rfl) (by kernel_rfl) (by exact fun _ _ _ h => h) (Or.inl ⟨by rfl, ?h18_11⟩) hHeld ?_
          case h18_11 => (intro w' hSw; obtain ⟨m, rfl⟩ := hSw; go_simp <;> with_reducible rfl)
          try simp only [Act.put, List.setIfInBounds_toArray, List.set_cons_zero, List.set_cons_succ]
          refine wpAnyH_take (i := 12) (v := ?v19_12) (by simp only [List.getElem?_toArray, List.getElem?_cons_succ, List.getElem?_cons_zero]; rfl) (by kernel_rfl) (by kernel_rfl) (by kernel_rfl) (by exact fun _ _ _ h => h) (Or.inl ⟨by rfl, ?h19_12⟩) hHeld ?_
          case h19_12 => (intro w' hSw; obtain ⟨m, rfl⟩ := hSw; go_simp <;> with_reducible rfl)
          try simp only [Act.put, List.setIfInBounds_toArray, List.set_cons_zero, List.set_cons_succ]
          refine wpAnyH_take (i := 13) (v := ?v20_13) (by simp only [List.getElem?_toArray, List.getElem?_cons_succ, List.getElem?_cons_zero]; rfl) (by kernel_rfl) (by kernel_rfl) (by kernel_rfl) (by exact fun _ _ _ h => h) (Or.inl ⟨by rfl, ?h20_13⟩) hHeld ?_
          case h20_13 => (intro w' hSw; obtain ⟨m, rfl⟩ := hSw; go_simp <;> with_reducible rfl)
          try simp only [Act.put, List.setIfInBounds_toArray, List.set_cons_zero, List.set_cons_succ]
          refine wpAnyH_take (i := 14) (v := ?v21_14) (by simp only [List.getElem?_toArray, List.getElem?_cons_succ, List.getElem?_cons_zero]; rfl) (by kernel_rfl) (by kernel_rfl) (by kernel_rfl) (by exact fun _ _ _ h => h) (Or.inl ⟨by rfl, ?h21_14⟩) hHeld ?_
          case h21_14 => (intro w' hSw; obtain ⟨m, rfl⟩ := hSw; go_simp <;> with_reducible rfl)
          try simp only [Act.put, List.setIfInBounds_toArray, List.set_cons_zero, List.set_cons_succ]
          refine wpAnyH_take (i := 15) (v := ?v22_15) (by simp only [List.getElem?_toArray, List.getElem?_cons_succ, List.getElem?_cons_zero]; rfl) (by kernel_rfl) (by kernel_rfl) (by kernel_rfl) (by exact fun _ _ _ h => h) (Or.inl ⟨by rfl, ?h22_15⟩) hHeld ?_
          case h22_15 => (intro w' hSw; obtain ⟨m, rfl⟩ := hSw; go_simp <;> with_reducible rfl)
          try simp only [Act.put, List.setIfInBounds_toArray, List.set_cons_zero, List.set_cons_succ]
          refine wpAnyH_take (i := 16) (v := ?v23_16) (by simp only [List.getElem?_toArray, List.getElem?_cons_succ, List.getElem?_cons_zero]; rfl) (by kernel_rfl) (by kernel_rfl) (by kernel_rfl) (by exact fun _ _ _ h => h) (Or.inl ⟨by rfl, ?h23_16⟩) hHeld ?_
          case h23_16 => (intro w' hSw; obtain ⟨m, rfl⟩ := hSw; go_simp <;> with_reducible rfl)
          try simp only [Act.put, List.setIfInBounds_toArray, List.set_cons_zero, List.set_cons_succ]
          refine wpAnyH_take (i := 17) (v := ?v24_17) (by simp only [List.getElem?_toArray, List.getElem?_cons_succ, List.getElem?_cons_zero]; rfl) (by kernel_rfl) (by kernel_rfl) (by kernel_rfl) (by exact fun _ _ _ h => h) (Or.inl ⟨by rfl, ?h24_17⟩) hHeld ?_
          case h24_17 => (intro w' hSw; obtain ⟨m, rfl⟩ := hSw; go_simp <;> with_reducible rfl)
          try simp only [Act.put, List.setIfInBounds_toArray, List.set_cons_zero, List.set_cons_succ]
          refine wpAnyH_take (i := 18) (v := ?v25_18) (by simp only [List.getElem?_toArray, List.getElem?_cons_succ, List.getElem?_cons_zero]; rfl) (by kernel_rfl) (by kernel_rfl) (by kernel_rfl) (by exact fun _ _ _ h => h) (Or.inl ⟨by rfl, ?h25_18⟩) hHeld ?_
          case h25_18 => (intro w' hSw; obtain ⟨m, rfl⟩ := hSw; go_simp <;> with_reducible rfl)
          try simp only [Act.put, List.setIfInBounds_toArray, List.set_cons_zero, List.set_cons_succ]
          refine wpAnyH_take (i := 19) (v := ?v26_19) (by simp only [List.getElem?_toArray, List.getElem?_cons_succ, List.getElem?_cons_zero]; rfl) (by kernel_rfl) (by kernel_rfl) (by kernel_rfl) (by exact fun _ _ _ h => h) (Or.inl ⟨by rfl, ?h26_19⟩) hHeld ?_
          case h26_19 => (intro w' hSw; obtain ⟨m, rfl⟩ := hSw; go_simp <;> with_reducible rfl)
          try simp only [Act.put, List.setIfInBounds_toArray, List.set_cons_zero, List.set_cons_succ]
          refine wpAnyH_take (i := 20) (v := ?v27_20) (by simp only [List.getElem?_toArray, List.getElem?_cons_succ, List.getElem?_cons_zero]; rfl) (by kernel_rfl) (by kernel_rfl) (by kernel_rfl) (by exact fun _ _ _ h => h) (Or.inl ⟨by rfl, ?h27_20⟩) hHeld ?_
          case h27_20 => (intro w' hSw; obtain ⟨m, rfl⟩ := hSw; go_simp <;> with_reducible rfl)
          try simp only [Act.put, List.setIfInBounds_toArray, List.set_cons_zero, List.set_cons_succ]
          refine wpAnyH_done (by kernel_rfl) ?_ _
          clear wk wk1
          go_wp2_with fail
          go_roundw
          case rel => exact ⟨k + 1, .inl (by omega), by go_num, bdrewN hW3 _⟩
          case measure => simp [intOf]; omega
    · obtain ⟨hws, hr, hwl, hl, hm⟩ := HC.out
      have HRo : ∀ W, Calls Try.prog 15 #[.int .i64 k0, .int .i64 ((n : Int) + 1)] W fun e w' => (∃ j : Nat, j < n + 1 ∧ e = .returned (.int .i64 j)) ∧ W = w' := fun W => by
        have e : (n : Int) + 1 = ((n + 1 : Nat) : Int) := by omega
        rw [e]
        exact Ro.round_any k0 (n + 1) W (by omega) (by omega) hk0
      have hzr := hh.rd.below hW
      have HL := Lib.hid hl
      clear hws hr hwl hl hm HB hk0
      go_wp2_with fail
      refine (HRo _).mono ?_
      rintro e w' ⟨⟨j, hj, rfl⟩, rfl⟩
      clear HRo
      have hj0 : (0 : Int) ≤ (j : Int) := by omega
      have hj1 : (j : Int) ≤ (n : Int) := by omega
      have hj2 : (j : Int) ≤ (c : Int) := by omega
      have hj3 : (n : Int) ≤ (c : Int) := by omega
      go_wp2_with (first
        | (at_builtin; refine wpList_appK _ rfl (.tmp 89) (.tmp 92) 22 rfl wr.heap.size 29 i0 _ 24 Try.underlying22 hi hz0 3 (by omega) hz1 hz2 rfl (.slice none 0 0) 0 (zcells []) (by rfl) ⟨rfl, .inl ⟨rfl, rfl⟩⟩ w1.heap.size A j c (zcells (zs.take j)) (by rfl) (by rw [zcells_len, List.length_take, HL.out]; omega) (by exact rd_take3 hzr j) zcells_one (by omega) (by omega) (Nat.le_refl _) ?_; intro v1 w2 hO1 hG1; have HB1 : Below wr.heap.size wr w2 := (Below.refl _ _).grown hG1 (Nat.le_refl _) (fun g hg => by cases hg))
        | (at_builtin; refine wpList_appK _ rfl (.tmp 94) (.tmp 96) 22 rfl wr.heap.size 29 i0 _ 24 Try.underlying22 hi hz0 3 (by omega) hz1 hz2 rfl v1 (0 + j) (zcells [] ++ zcells (zs.take j)) (by rfl) (by exact hO1.alloc _) (w2.heap.size + 1) (some ⟨w2.heap.size, 0, none⟩) 1 1 (zcells [⟨3, 3, 0⟩]) (by rfl) (by rfl) (by exact (Bk.new w2 29 (zcells [⟨3, 3, 0⟩])).rd.more (by simp)) zcells_one (by omega) (by omega) (by simp; have := HB1.size; omega) ?_; intro v2 w3 hO2 hG2; have HB2 : Below wr.heap.size wr w3 := (HB1.alloc HB1.size _).grown hG2 (by simp; have := HB1.size; omega) (fun g hg => (hO1.lt g hg).1))
        | (at_builtin; refine wpList_appK _ rfl (.tmp 98) (.tmp 101) 22 rfl wr.heap.size 29 i0 _ 24 Try.underlying22 hi hz0 3 (by omega) hz1 hz2 rfl v2 (0 + j + 1) _ (by rfl) (by exact hO2) w1.heap.size _ (n - j) (c - j) (zcells (zs.drop j)) (by rfl) (by rw [zcells_len, List.length_drop, HL.out]) (by exact rd_drop3 (hzr.below (HB2.mono hW.size)) HL.out.symm (by omega) hcap (by first | rfl | simp)) zcells_one (by omega) (by omega) HB2.size ?_; intro v3 w4 hO3 hG3; have HB3 : Below wr.heap.size wr w4 := HB2.grown hG3 HB2.size (fun g hg => (hO2.lt g hg).1)))
      all_goals
        have hO4 : w4.ownsRow wr.heap.size 29 3 v3 (n + 1) (zcells (zs.take j ++ ⟨3, 3, 0⟩ :: zs.drop j)) := by
          have e1 : 0 + j + 1 + (n - j) = n + 1 := by omega
          have e2 : zcells (zs.take j ++ ⟨3, 3, 0⟩ :: zs.drop j) = zcells [] ++ zcells (zs.take j) ++ zcells [⟨3, 3, 0⟩] ++ zcells (zs.drop j) := by
            rw [show zs.take j ++ (⟨3, 3, 0⟩ : Zn) :: zs.drop j = zs.take j ++ [⟨3, 3, 0⟩] ++ zs.drop j by simp, zcells_app, zcells_app]
            rfl
          rw [e1] at hO3
          rw [e2]
          exact hO3
        obtain ⟨A3, c3, rfl, hI⟩ := zones_own hO4
        refine (rank_any _ _ _ _ _ _ hI (by omega)).mono ?_
        rintro e w5 ⟨A5, c5, rfl, hO5, hb5⟩
        obtain ⟨hws, hr, hwl, hl, hm⟩ := HC.out
        have hq : rankV ((zs.take j ++ ⟨3, 3, 0⟩ :: zs.drop j).map (wV now)) = r.map (sh j) := by
          have h30 : wV now ⟨3, 3, 0⟩ = 0 := by
            by_cases h0 : wV now ⟨3, 3, 0⟩ = 0
            · exact h0
            · have h2 : (3 : Int) < 3 := (wV_num h0).2.2.1
              omega
          rw [List.map_append, List.map_cons, List.map_take, List.map_drop, hws, h30, rankV_ins (by omega), hr]
        rw [hq] at hO5 ⊢
        rw [List.length_map, hm] at hO5 ⊢
        have HB5 : Below w1.heap.size w1 w5 := hW.trans ((HB3.mono hW.size).trans (hb5.mono (Nat.le_trans hW.size HB3.size)))
        have hr5 := hrd.below HB5
        have hq5 := rank_rd hO5
        have HM := Lib.hid hm
        have HLR := Lib.hid (show ∀ q ∈ r, q < n from fun q hq => by rw [← hr, mem_rankV, hwl] at hq; exact hq.1)
        clear hws hr hwl hl hm hO1 hO2 hO3 hO4 hO5 hI hq HC HL hzr hh hG1 hG2 hG3 HB1 HB2 HB3 hb5 hrd hW hcap hbig
        go_wp2_with fail
        go_loop [15, 16] (fun i _ => ∃ (p : Nat), p ≤ m ∧ i = .int .i64 p) (fun i _ => m - (intOf i).toNat)
        case atStart => exact ⟨0, Nat.zero_le _, rfl⟩
        case round =>
          obtain ⟨p, hp, rfl⟩ := hrel
          by_cases hpm : p < m
          · have hm := HM.out
            obtain ⟨rp, hrp⟩ : ∃ q, r[p]'(by omega) = q := ⟨_, rfl⟩
            obtain ⟨adr, rfl, _, k1⟩ := hr5.get (k := p) (by rw [List.length_map]; omega)
            obtain ⟨adq, rfl, _, k2⟩ := hq5.get (k := p) (by rw [List.length_map, List.length_map]; omega)
            rw [List.getElem_map, hrp] at k1
            rw [List.getElem_map, List.getElem_map, hrp] at k2
            have n9 : (p : Int) < (m : Int) := by omega
            have hrpn : rp < n := HLR.out rp (by rw [← hrp]; exact List.getElem_mem _)
            clear hm hrp HM HLR
            by_cases hjr : j ≤ rp
            · have t1 : decide (j ≤ rp) = true := decide_eq_true hjr
              have e : nv (sh j rp) = .int .i64 ((rp : Int) + 1) := by unfold sh nv; rw [if_pos hjr]; simp
              rw [e] at k2
              unfold nv at k1
              have t2 : ((rp : Int) + 1 != (rp : Int) + 1) = false := by simp
              have n10 : (rp : Int) + 1 ≤ 1000 := by omega
              clear hjr e
              go_wp2_with fail
              go_round
              case rel => exact ⟨p + 1, by omega, by go_num⟩
              case measure => simp [intOf]; omega
            · have t1 : decide (j ≤ rp) = false := decide_eq_false hjr
              have e : nv (sh j rp) = .int .i64 (rp : Int) := by unfold sh nv; rw [if_neg hjr]
              rw [e] at k2
              unfold nv at k1
              clear hjr e
              go_wp2_with fail
              go_round
              case rel => exact ⟨p + 1, by omega, by go_num⟩
              case measure => simp [intOf]; omega
          · obtain rfl : p = m := by omega
            go_wp2_with fail
            refine (awake_any _).mono ?_
            rintro e w6 ⟨rfl, hb6⟩
            have HBB := (hb.trans (HB5.mono hb.size)).trans (hb6.mono (Nat.le_trans hb.size HB5.size))
            go_wp2_with fail
            go_ret
            exact ⟨rfl, HBB⟩
theorem turns_walk (A : Option Addr) (n c : Nat) (zs : List Zn) (now k0 : Int) (w : World) (h : IsZones w A n c zs) (_h2 : (Lit.int .i64 now).wf = true) (hk0 : (Lit.int .i64 k0).wf = true) :
    Calls Try.prog 4 #[.slice A n c, .int .i64 now, .int .i64 k0] w fun e w' => e = .returned (.bool true) ∧ Below w.heap.size w w' := by
  cases h0 : decide (n ≤ 200)
  · exact turns_0 A n c now k0 w h0
  · cases h1 : decide (now < 0)
    · cases h2 : decide (1099511627776 < now)
      · exact turns_x A n c zs now k0 w h hk0 h0 h1 h2
      · exact turns_2 A n c now k0 w h0 h1 h2
    · exact turns_1 A n c now k0 w h0 h1
end Go.Proofs.Ytchhnjadnacniaa.Rk
