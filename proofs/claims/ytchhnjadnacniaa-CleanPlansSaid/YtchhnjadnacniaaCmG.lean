/- The contracts of at and Get of extmap and of clean.Live. -/
import Derived.Test.YtchhnjadnacniaaCmF
namespace Go.Proofs.Ytchhnjadnacniaa.Cm
set_option linter.unusedSimpArgs false
set_option linter.unusedVariables false
open Go.RowKit

open Go.Maps
/-- the time of the newest version that is not above a time; 0: there is none. -/
def getT (l : List Int) (a : Int) : Int := (l.reverse.find? fun t => decide (t ≤ a)).getD 0
def getV (g : Int → List Int) (lba a : Int) : Int := if 0 ≤ lba ∧ lba < 30 then getT (g lba) a else 0
def AtR (i : Int) (l : List Int) (a : Int) : Prop := ∃ k : Nat, i = (k : Int) - 1 ∧ k ≤ l.length ∧ (∀ j, (hj : j < l.length) → k ≤ j → a < l[j]) ∧ (∀ j, (hj : j < l.length) → j + 1 = k → l[j] ≤ a)
theorem find_drop {l : List Int} {a : Int} {k : Nat} (h : ∀ j, (hj : j < l.length) → k ≤ j → a < l[j]) : (l.drop k).reverse.find? (fun t => decide (t ≤ a)) = none := by
  rw [List.find?_eq_none]
  intro x hx
  rw [List.mem_reverse] at hx
  obtain ⟨i, hi, rfl⟩ := List.getElem_of_mem hx
  rw [List.length_drop] at hi
  rw [List.getElem_drop]
  have := h (k + i) (by omega) (by omega)
  simp; omega
theorem getT_zero {l : List Int} {a : Int} (h : ∀ j, (hj : j < l.length) → a < l[j]) : getT l a = 0 := by
  have := find_drop (k := 0) (l := l) (a := a) (fun j hj _ => h j hj)
  rw [List.drop_zero] at this
  unfold getT
  rw [this]; rfl
theorem getT_at {l : List Int} {a : Int} {k : Nat} (hk : k < l.length) (h : ∀ j, (hj : j < l.length) → k + 1 ≤ j → a < l[j]) (h1 : l[k] ≤ a) : getT l a = l[k] := by
  have e : l = l.take k ++ l[k] :: l.drop (k + 1) := by rw [List.getElem_cons_drop, List.take_append_drop]
  have hf := find_drop h
  have hr : l.reverse = (l.drop (k + 1)).reverse ++ (l[k] :: (l.take k).reverse) := by
    have := congrArg List.reverse e
    rw [this]; simp
  unfold getT
  rw [hr, List.find?_append, hf]
  simp [h1]
theorem Rd.of_own2 {w : World} {A : Option Addr} {base : Nat} {e : TypeId} {n c size : Nat} {xs : List Value} (h : w.ownsRow base e size (.slice A n c) n xs) : Rd w w.heap.size A xs := fun hn => by
  have hl := h.1
  obtain ⟨g, cap, hv, _, hlt⟩ := h.form (by rcases Nat.eq_zero_or_pos n with g | g; rw [g, Nat.zero_mul] at hl; omega; exact g)
  have hA : A = some ⟨g, 0, none⟩ := by injection hv
  subst hA
  exact ⟨_, rfl, hlt, h.cells (g := g) rfl⟩
set_option maxRecDepth 100000 in
set_option maxHeartbeats 4000000 in
theorem at_any (B gm N M : Nat) (last lba a : Int) (g : Int → List Int) (w : World) (h : EV w B gm N M last g) (hl : 0 ≤ lba ∧ lba < 30) (hM : M ≤ 100000) :
    Calls Try.prog 52 #[.pointer (some ⟨gm, 0, none⟩), .int .i64 lba, .int .i64 a] w fun e w' => (∃ i : Int, e = .returned (.int .i64 i) ∧ AtR i (g lba) a) ∧ w = w' := by
  obtain ⟨bm, D, mv, f, hE, hT⟩ := h
  have k1 := hE.bx.cell (i := 1) (by simp)
  simp only [List.getElem_cons_zero, List.getElem_cons_succ] at k1
  have k2 := hE.look hl
  obtain ⟨A, c, hv⟩ := own_shape (hE.row lba)
  have hr := hE.row lba
  rw [hv] at k2 hr
  obtain ⟨ws, hws⟩ : ∃ ws, f lba = ws := ⟨_, rfl⟩
  obtain ⟨n, hn⟩ : ∃ n, ws.length = n := ⟨_, rfl⟩
  rw [hws, hn] at k2 hr
  have hg : g lba = ws.map VerD.t := by rw [← hws]; exact (hT lba).symm
  have hMn : n ≤ 100000 := by have := hE.lens lba; rw [hws] at this; omega
  have hrd := Rd.of_own2 hr
  have HH := Lib.hid (And.intro hn (And.intro hg hMn))
  have HE := Lib.hid hE
  clear hE hws hv hg hT hn hr hl hMn hM
  have wk0 : ∀ k : Nat, k ≤ n → wrap64 ((k : Int) - 1) = k - 1 := fun k hk => by have := HH.out.2.2; unfold wrap64; omega
  have w0 := wk0 n (Nat.le_refl _)
  have W0 := Lib.hid wk0
  clear wk0
  go_enter Try.func52, Try.ntmps52
  go_wp2_with fail
  go_step3
  go_wp2_with fail
  go_step3
  go_wp2_with fail
  go_loop [8] (fun i => ∃ (k : Nat) (x : Int), k ≤ n ∧ i = .int .i64 x ∧ x = (k : Int) - 1 ∧ Hid (∀ j, (hj : j < ws.length) → k ≤ j → a < ws[j].t)) (fun i => (intOf i + 1).toNat)
  case atStart => exact ⟨n, _, Nat.le_refl _, rfl, w0, fun j hj h => by have := HH.out.1; omega⟩
  case round =>
    obtain ⟨k, x, hk, rfl, hx, HU⟩ := hrel
    clear w0
    rcases k with _ | k
    · have t0 : decide (0 ≤ x) = false := decide_eq_false (by omega)
      have HR := Lib.hid (show AtR x (g lba) a from ⟨0, by simp at hx ⊢; exact hx, by simp, fun j hj _ => by
        have e := HH.out.2.1
        simp only [e] at hj ⊢
        rw [List.length_map] at hj
        rw [List.getElem_map]; exact HU.out j hj (by omega), fun j hj e => by omega⟩)
      clear HU hx
      go_wp2_with fail
      go_ret
      exact ⟨⟨_, rfl, HR.out⟩, rfl⟩
    · obtain rfl : x = (k : Int) := by omega
      obtain ⟨v, hvk⟩ : ∃ v, ws[k]'(by have := HH.out.1; omega) = v := ⟨_, rfl⟩
      obtain ⟨ad, rfl, had, c0, _⟩ := two_get ver_two hrd (k := k) (by have := HH.out.1; omega) (u := .int .i64 v.t) (v := v.d) (by rw [hvk]; rfl)
      have HV := Lib.hid hvk
      have n0 : (0 : Int) ≤ (k : Int) := by omega
      have n1 : (k : Int) < (n : Int) := by omega
      have w1 := W0.out k (by omega)
      clear hvk hx
      by_cases hle : v.t ≤ a
      · have t0 : decide (v.t ≤ a) = true := decide_eq_true hle
        have HR := Lib.hid (show AtR (k : Int) (g lba) a from ⟨k + 1, by push_cast; omega, by rw [HH.out.2.1, List.length_map, HH.out.1]; exact hk, fun j hj hkj => by
          have e := HH.out.2.1
          simp only [e] at hj ⊢
          rw [List.length_map] at hj
          rw [List.getElem_map]; exact HU.out j hj hkj, fun j hj hkj => by
          obtain rfl : j = k := by omega
          have e := HH.out.2.1
          simp only [e] at hj ⊢
          rw [List.getElem_map, HV.out]; exact hle⟩)
        clear hle HU
        go_wp2_with fail
        go_ret
        exact ⟨⟨_, rfl, HR.out⟩, rfl⟩
      · have t0 : decide (v.t ≤ a) = false := decide_eq_false hle
        have HN := Lib.hid (show ∀ j, (hj : j < ws.length) → k ≤ j → a < ws[j].t from fun j hj hkj => by
          rcases Nat.lt_or_ge k j with h | h
          · exact HU.out j hj h
          · obtain rfl : j = k := by omega
            rw [HV.out]; omega)
        clear hle HU
        go_wp2_with fail
        go_round
        case rel => exact ⟨k, _, by omega, rfl, w1, HN⟩
        case measure => rw [w1]; simp [intOf]
theorem run_make40 (W : World) : (Instr.makeSlice 46 (.int .i64 40) (.int .i64 40)).run Try.prog W = .ok (.slice (some ⟨W.heap.size, 0, none⟩) 40 40) (W.alloc (.cells (madeCells (Value.int .u8 0).cells 40) 5)) := by
  obtain ⟨i0, hi, hz0, hz1, hz2⟩ := info_parts infoB
  have h := run_make (P := Try.prog) W 46 5 i0 (.int .u8 0) Try.underlying46 hi hz0 .i64 .i64 40 40 (by omega) (by omega) (by rw [hz2]; omega) (by omega)
  rw [hz1] at h
  exact h
set_option maxRecDepth 100000 in
set_option maxHeartbeats 4000000 in
theorem get_any (B gm N M : Nat) (last lba a : Int) (g : Int → List Int) (w : World) (h : EV w B gm N M last g) (hM : M ≤ 100000) :
    Calls Try.prog 22 #[.pointer (some ⟨gm, 0, none⟩), .int .i64 lba, .int .i64 a] w fun e w' => (∃ v : Value, e = .returned (.tuple #[v, .int .i64 (getV g lba a)]) ∧ v.oneCell' = true) ∧ Below w.heap.size w w' := by
  have h0 := h
  obtain ⟨bm, D, mv, f, hE, hT⟩ := h
  have hmk := run_make40
  by_cases hl : 0 ≤ lba ∧ lba < 30
  · have t0 : decide (0 ≤ lba ∧ lba < 30) = true := decide_eq_true hl
    have HV := Lib.hid (show getV g lba a = getT (g lba) a from if_pos hl)
    have hat := at_any B gm N M last lba a g w h0 hl hM
    have k1 := hE.bx.cell (i := 1) (by simp)
    simp only [List.getElem_cons_zero, List.getElem_cons_succ] at k1
    have k2 := hE.look hl
    have HL := Lib.hid hl
    clear hl h0
    go_enter Try.func22, Try.ntmps22
    go_wp2_with fail
    refine (block_any _ _ _ _ _ hE.bx).mono ?_
    rintro e w' ⟨rfl, rfl⟩
    go_wp2_with fail
    refine hat.mono ?_
    rintro e w' ⟨⟨i, rfl, hi⟩, rfl⟩
    obtain ⟨k, hik, hk, hu, hd⟩ := hi
    rcases k with _ | k
    · have t1 : decide (i < 0) = true := decide_eq_true (by omega)
      have HZ := Lib.hid (getT_zero fun j hj => hu j hj (by omega))
      clear hu hd hik hk
      go_wp2_with fail
      go_ret2
      exact ⟨⟨_, by rw [HV.out, HZ.out]; rfl, rfl⟩, (Below.refl _ _).alloc (Nat.le_refl _) _⟩
    · obtain rfl : i = (k : Int) := by omega
      obtain ⟨A, c, hv⟩ := own_shape (hE.row lba)
      have hr := hE.row lba
      rw [hv] at k2 hr
      obtain ⟨ws, hws⟩ : ∃ ws, f lba = ws := ⟨_, rfl⟩
      obtain ⟨n, hn⟩ : ∃ n, ws.length = n := ⟨_, rfl⟩
      have hg : g lba = ws.map VerD.t := by rw [← hws]; exact (hT lba).symm
      have hkn : k < n := by rw [hg, List.length_map, hn] at hk; exact hk
      obtain ⟨v, hvk⟩ : ∃ v, ws[k]'(by omega) = v := ⟨_, rfl⟩
      obtain ⟨bs, hbo, hb1⟩ := hE.dat lba v (by rw [hws, ← hvk]; exact List.getElem_mem _)
      obtain ⟨vA, vc, hvd⟩ := own_shape hbo
      rw [hvd] at hbo
      have hbl := hbo.1
      have hbr0 := Rd.of_own2 hbo
      rw [hws, hn] at k2 hr
      have hrd := Rd.of_own2 hr
      obtain ⟨ad, rfl, had, c0, c1⟩ := two_get ver_two hrd (k := k) (by omega) (u := .int .i64 v.t) (v := .slice vA 40 vc) (by rw [hvk, ← hvd]; rfl)
      have HZ := Lib.hid (show getT (g lba) a = v.t by
        have e : (g lba)[k]'(by omega) = v.t := by simp only [hg]; rw [List.getElem_map, hvk]
        rw [getT_at (by omega) (fun j hj h => hu j hj h) (hd k (by omega) rfl), e])
      obtain ⟨w4, hw4⟩ : ∃ w4, w.alloc (.cells #[.int .i64 v.t, .slice vA 40 vc] 98) = w4 := ⟨_, rfl⟩
      have hb4 : Below w.heap.size w w4 := by rw [← hw4]; exact (Below.refl _ _).alloc (Nat.le_refl _) _
      have hx4 : Bk w4 w.heap.size 98 [.int .i64 v.t, .slice vA 40 vc] := by rw [← hw4]; exact Bk.new w _ _
      have K1 := Lib.hid (fun w' (h : Below w4.heap.size w4 w') => (hx4.next h hx4.lt).cell (i := 1) (by simp))
      have K2 := Lib.hid (fun w' (h : Below w4.heap.size w4 w') => (hx4.next h hx4.lt).cell (i := 0) (by simp))
      simp only [List.getElem_cons_zero, List.getElem_cons_succ] at K1 K2
      have hbr : ∀ w', Below w4.heap.size w4 w' → Rd w' w'.heap.size vA bs := fun w' h => by
        have hb := hb4.trans (h.mono hb4.size)
        exact (hbr0.next (Nat.le_refl _) hb).more hb.size
      have n0 : (0 : Int) ≤ (k : Int) := by omega
      have n1 : (k : Int) < (n : Int) := by omega
      have HB := Lib.hid hb4
      clear hu hd hik hk hT hg hws hvk hvd hbo hbr0 hr hv hb4 hx4 hkn hn
      go_wp2_with fail
      refine wp_region_held_drew (S := fun w' => Below w4.heap.size w4 w') (by kernel_rfl) (bdrew (Below.refl _ _)) (fun hHeld => ?_)
      refine wpAnyH_take (i := 0) (v := ?v1_0) (by simp only [List.getElem?_toArray, List.getElem?_cons_succ, List.getElem?_cons_zero]; rfl) (by kernel_rfl) (by kernel_rfl) (by kernel_rfl) (by exact fun _ _ _ h => h) (Or.inl ⟨by rfl, ?h1_0⟩) hHeld ?_
      case h1_0 => (intro w' hSw; have k0 := K1.out w' hSw; have k1 := K2.out w' hSw; go_simp <;> with_reducible rfl)
      try simp only [Act.put, List.setIfInBounds_toArray, List.set_cons_zero, List.set_cons_succ]
      refine wpAnyH_take (i := 1) (v := ?v2_1) (by simp only [List.getElem?_toArray, List.getElem?_cons_succ, List.getElem?_cons_zero]; rfl) (by kernel_rfl) (by kernel_rfl) (by kernel_rfl) (by exact fun _ _ _ h => h) (Or.inl ⟨by rfl, ?h2_1⟩) hHeld ?_
      case h2_1 => (intro w' hSw; have k0 := K1.out w' hSw; have k1 := K2.out w' hSw; go_simp <;> with_reducible rfl)
      try simp only [Act.put, List.setIfInBounds_toArray, List.set_cons_zero, List.set_cons_succ]
      refine wpAnyH_take (i := 3) (v := ?v3_3) (by simp only [List.getElem?_toArray, List.getElem?_cons_succ, List.getElem?_cons_zero]; rfl) (by kernel_rfl) (by kernel_rfl) (by kernel_rfl) (by exact fun _ _ _ h => h) (Or.inl ⟨by rfl, ?h3_3⟩) hHeld ?_
      case h3_3 => (intro w' hSw; have k0 := K1.out w' hSw; have k1 := K2.out w' hSw; go_simp <;> with_reducible rfl)
      try simp only [Act.put, List.setIfInBounds_toArray, List.set_cons_zero, List.set_cons_succ]
      refine wpAnyH_take (i := 4) (v := ?v4_4) (by simp only [List.getElem?_toArray, List.getElem?_cons_succ, List.getElem?_cons_zero]; rfl) (by kernel_rfl) (by kernel_rfl) (by kernel_rfl) (by exact fun _ _ _ h => h) (Or.inl ⟨by rfl, ?h4_4⟩) hHeld ?_
      case h4_4 => (intro w' hSw; have k0 := K1.out w' hSw; have k1 := K2.out w' hSw; go_simp <;> with_reducible rfl)
      try simp only [Act.put, List.setIfInBounds_toArray, List.set_cons_zero, List.set_cons_succ]
      refine wpAnyH_ready (rs := [2]) (by kernel_rfl) (by simp) ?_
      refine AllReadyH.cons (by simp only [List.getElem?_toArray, List.getElem?_cons_succ, List.getElem?_cons_zero]; rfl) (fun K hK => ?_) AllReadyH.nil
      go_simp
      refine (clone_any vA 40 vc 0 bs w4.drew (by omega) (hbr _ hHeld) hb1 (by omega) (by omega)).mono ?_
      rintro e w5 ⟨⟨v, rfl, hv5⟩, hb5⟩
      have hS5 := hHeld.trans (hb5.mono hHeld.size)
      have hone := own_one hv5
      clear hv5
      go_simp
      refine hK.out _ _ (hS5) (fun hHeld2 => ?_)
      clear hK K hHeld
      have hHeld := hHeld2
      clear hHeld2
      try simp only [Act.put, List.setIfInBounds_toArray, List.set_cons_zero, List.set_cons_succ]
      refine wpAnyH_take (i := 5) (v := ?v5_5) (by simp only [List.getElem?_toArray, List.getElem?_cons_succ, List.getElem?_cons_zero]; rfl) (by kernel_rfl) (by kernel_rfl) (by kernel_rfl) (by exact fun _ _ _ h => h) (Or.inl ⟨by rfl, ?h5_5⟩) hHeld ?_
      case h5_5 => (intro w' hSw; have k0 := K1.out w' hSw; have k1 := K2.out w' hSw; go_simp <;> with_reducible rfl)
      try simp only [Act.put, List.setIfInBounds_toArray, List.set_cons_zero, List.set_cons_succ]
      refine wpAnyH_take (i := 6) (v := ?v6_6) (by simp only [List.getElem?_toArray, List.getElem?_cons_succ, List.getElem?_cons_zero]; rfl) (by kernel_rfl) (by kernel_rfl) (by kernel_rfl) (by exact fun _ _ _ h => h) (Or.inl ⟨by rfl, ?h6_6⟩) hHeld ?_
      case h6_6 => (intro w' hSw; have k0 := K1.out w' hSw; have k1 := K2.out w' hSw; go_simp <;> with_reducible rfl)
      try simp only [Act.put, List.setIfInBounds_toArray, List.set_cons_zero, List.set_cons_succ]
      refine wpAnyH_done (by kernel_rfl) ?_ _
      go_wp2_with fail
      go_ret2
      exact ⟨⟨_, by rw [HV.out, HZ.out]; rfl, hone⟩, HB.out.trans (hS5.mono HB.out.size)⟩
  · have t0 : decide (0 ≤ lba ∧ lba < 30) = false := decide_eq_false hl
    have HV := Lib.hid (show getV g lba a = 0 from if_neg hl)
    clear hl
    go_enter Try.func22, Try.ntmps22
    go_wp2_with fail
    refine (block_any _ _ _ _ _ hE.bx).mono ?_
    rintro e w' ⟨rfl, rfl⟩
    go_wp2_with fail
    go_ret2
    exact ⟨⟨_, by rw [HV.out]; rfl, rfl⟩, Below.refl _ _⟩
end Go.Proofs.Ytchhnjadnacniaa.Cm
