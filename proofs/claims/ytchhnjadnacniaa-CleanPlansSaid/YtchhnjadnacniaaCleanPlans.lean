/- CleanPlans: the program's zones, live copies, plan and run are the reference's: the law returns true, for every input. -/
import Derived.Test.YtchhnjadnacniaaCmS
import Derived.Test.YtchhnjadnacniaaCmU
import Derived.Test.YtchhnjadnacniaaCmY
namespace Go.Proofs.Ytchhnjadnacniaa.Cm
set_option linter.unusedSimpArgs false
set_option linter.unusedVariables false
open Go.RowKit Rk

theorem step_length {g : Int → List Int} {hz size now : Int} {C D : List (List CpD)} (h : stepC g hz size now C = some D) : D.length = C.length := by
  unfold stepC at h
  split at h
  · cases h
  · split at h
    · cases h
    · injection h with h
      rw [← h]
      simp
theorem iter_length (g : Int → List Int) (hz size now : Int) : ∀ (n : Nat) (C : List (List CpD)), (iterC g hz size now n C).length = C.length := by
  intro n
  induction n with
  | zero => intro C; rfl
  | succ n ih =>
    intro C
    cases hs : stepC g hz size now C with
    | none => rw [iterC_none hs]
    | some D => rw [iterC_some hs, ih, step_length hs]
theorem IsCps.none (w : World) : IsCps w none 0 0 [] := ⟨rfl, Rd.nil _ _ _, Nat.le_refl _, by simp [maxLen], by simp⟩
/-- two plans of the same zones are the same. -/
theorem next_pair {g : Int → List Int} {hz size now : Int} {zs : List RoD} {e1 : Ending} {w1 : World} (h1 : NextR e1 w1 g zs size hz now) (hf : Fair zs) (hs : ∀ x ∈ zs, x.n ≤ 1000) :
    ∃ (p : Nat) (A1 : Option Addr) (nn c1 : Nat) (d r : Int) (mv : List CpD), e1 = .returned (.tuple #[planC p (.slice A1 nn c1) d, .int .i64 r]) ∧ IsCps w1 A1 nn c1 mv ∧ nn ≤ 1000 ∧
      (∀ e2 w2, NextR e2 w2 g zs size hz now → ∃ (A2 : Option Addr) (c2 : Nat), e2 = .returned (.tuple #[planC p (.slice A2 nn c2) d, .int .i64 r]) ∧ IsCps w2 A2 nn c2 mv) := by
  rcases h1 with ⟨h, he⟩ | ⟨h, hr, he⟩ | ⟨h, q, rs, i, x, A, c, hr, hi, hx, he, hc⟩
  · refine ⟨0, none, 0, 0, 0, 1, [], he, IsCps.none _, by omega, fun e2 w2 h2 => ?_⟩
    rcases h2 with ⟨_, he2⟩ | ⟨h', _⟩ | ⟨h', _⟩
    · exact ⟨none, 0, he2, IsCps.none _⟩
    · exact absurd h h'
    · exact absurd h h'
  · refine ⟨0, none, 0, 0, 0, 14, [], he, IsCps.none _, by omega, fun e2 w2 h2 => ?_⟩
    rcases h2 with ⟨h', _⟩ | ⟨_, _, he2⟩ | ⟨_, q', rs', i', x', A', c', hr', _⟩
    · exact absurd h' h
    · exact ⟨none, 0, he2, IsCps.none _⟩
    · rw [hr] at hr'; cases hr'
  · have hxm : x ∈ zs := List.mem_of_getElem? hx
    refine ⟨i, A, _, c, _, 0, _, he, hc, ?_, fun e2 w2 h2 => ?_⟩
    · have := liveL_len g hz x.cs
      have := hf x hxm
      have := hs x hxm
      omega
    rcases h2 with ⟨h', _⟩ | ⟨_, hr', _⟩ | ⟨_, q', rs', i', x', A', c', hr', hi', hx', he2, hc2⟩
    · exact absurd h' h
    · rw [hr] at hr'; cases hr'
    · rw [hr] at hr'
      injection hr' with e _
      subst e
      rw [hi] at hi'
      injection hi' with e
      subst e
      rw [hx] at hx'
      injection hx' with e
      subst e
      exact ⟨A', c', he2, hc2⟩
set_option maxRecDepth 100000 in
set_option maxHeartbeats 4000000 in
theorem plans_true (A : Option Addr) (n c : Nat) (ts : List TxD) (A2 : Option Addr) (m c2 : Nat) (zs : List RoD) (size hz0 now steps : Int) (w : World) (h : IsTxs w A n c ts) (hz : IsZs w A2 m c2 zs) (_ : (Lit.int .i64 size).wf = true) (_ : (Lit.int .i64 hz0).wf = true) (_ : (Lit.int .i64 now).wf = true) (_ : (Lit.int .i64 steps).wf = true) :
    Calls Try.prog 8 #[.slice A n c, .slice A2 m c2, .int .i64 size, .int .i64 hz0, .int .i64 now, .int .i64 steps] w fun e w' => e = .returned (.bool true) ∧ Below w.heap.size w w' := by
  have hl := hz.len
  go_enter Try.func8, Try.ntmps8
  go_wp2_with fail
  refine (small_any A A2 n c m c2 ts zs w h hz).mono ?_
  rintro e w1 ⟨⟨r, rfl, hr⟩, hb1⟩
  have HR := Lib.hid hr
  clear hr
  cases r
  · go_wp2_with fail
    refine (awake_any _).mono ?_
    rintro e w' ⟨rfl, hbA⟩
    go_wp2_with fail
    go_ret
    exact ⟨rfl, hb1.trans (hbA.mono hb1.size)⟩
  · by_cases h1 : 1000 < size
    · have t1 : decide (1000 < size) = true := decide_eq_true h1
      clear h1
      go_wp2_with fail
      refine (awake_any _).mono ?_
      rintro e w' ⟨rfl, hbA⟩
      go_wp2_with fail
      go_ret
      exact ⟨rfl, hb1.trans (hbA.mono hb1.size)⟩
    · have t1 : decide (1000 < size) = false := decide_eq_false h1
      have HSZ := Lib.hid (show size ≤ 1000 by omega)
      have HN := Lib.hid (And.intro (HR.out rfl).1 (small_tot (HR.out rfl).2))
      have hmd := made_any A n c ts w1 (h.next hb1) HN.out.1
      clear h1
      go_wp2_with fail
      refine hmd.mono ?_
      rintro e w2 ⟨gm, xm, rfl, hM⟩
      obtain ⟨g, hg⟩ : ∃ g, (foldT ts).2 = g := ⟨_, rfl⟩
      obtain ⟨last, hla⟩ : ∃ last, (foldT ts).1 = last := ⟨_, rfl⟩
      obtain ⟨N, hNN⟩ : ∃ N, n * 30 = N := ⟨_, rfl⟩
      have hev := hM.ev
      obtain ⟨XA, xn, xc, L, hX, hRG⟩ := hM.rm
      rw [hg, hla, hNN] at hev
      rw [hla, hNN] at hX
      have HLB := Lib.hid (show ∀ y, liveR hz0 (L.map XV.pr) y = liveB g hz0 y from fun y => liveR_liveB (by rw [← hg]; exact hRG) (by rw [← hg]; exact (foldT_inv ts).up) (by rw [← hg]; exact (foldT_inv ts).out) hz0 y)
      have hb2 := hb1.trans (hM.bel.mono hb1.size)
      have hnn : N ≤ 100000 := by have := HN.out.1; omega
      have hm1 : m ≤ 400 := by rw [← hl]; exact HN.out.2.2.1
      have hsm : ∀ x ∈ zs, x.n ≤ 400 := HN.out.2.2.2
      have hzn := zones_any w1.heap.size gm N N last g A2 m c2 zs size hz0 w2 hev hnn (hz.next hb2) (by omega) (fun x hx => by have := hsm x hx; omega)
      have HE := Lib.hid (And.intro hev (And.intro hX (And.intro hb2 (And.intro hnn (And.intro hm1 hsm)))))
      clear hM hg hla hNN hev hX hRG hb2 hmd hnn hm1 hsm
      go_wp2_with fail
      refine hzn.mono ?_
      rintro e w3 ⟨⟨ZA, zc, rfl, hZ⟩, hb3⟩
      have hX3 : RMx w3 w1.heap.size xm N last XA xn xc L := HE.out.2.1.keep fun b ob hb _ => (hb3.block b (Array.getElem?_eq_some_iff.1 hb).1).trans hb
      have hb13 := HE.out.2.2.1.trans (hb3.mono HE.out.2.2.1.size)
      have hrz := rzones_any w1.heap.size xm N xn xc last XA L g A2 m c2 zs size hz0 w3 hX3 HE.out.2.2.2.1 HLB.out (hz.next hb13) (by have := HE.out.2.2.2.2.1; omega) (fun x hx => by have := HE.out.2.2.2.2.2 x hx; omega)
      have H3 := Lib.hid (And.intro hZ (And.intro hb3 hb13))
      clear hZ hX3 hb3 hb13 hzn
      go_wp2_with fail
      refine hrz.mono ?_
      rintro e w4 ⟨⟨YA, yc, rfl, hY⟩, hb4⟩
      have hb24 := H3.out.2.1.trans (hb4.mono H3.out.2.1.size)
      have hb14 := H3.out.2.2.trans (hb4.mono H3.out.2.2.size)
      obtain ⟨ZL, hZL⟩ : ∃ ZL, zs.map (zoneV g hz0 size) = ZL := ⟨_, rfl⟩
      have hzl : ZL.length = m := by rw [← hZL, List.length_map, hl]
      have hZ4 := own_bel' H3.out.1 hb4
      rw [hZL] at hZ4 hY
      have H4 := Lib.hid (And.intro (And.intro (Rd.of_own2 hZ4) (Rd.of_own2 hY)) (And.intro hb24 (And.intro hb14 hzl)))
      have HEV := Lib.hid (HE.out.1.next hb24)
      have HXX := Lib.hid (show RMx w4 w1.heap.size xm N last XA xn xc L from HE.out.2.1.keep fun b ob hb _ => (hb24.block b (Array.getElem?_eq_some_iff.1 hb).1).trans hb)
      clear hY hb4 hb24 hb14 hZL hzl hZ4 hrz H3
      go_wp2_with fail
      go_loopw [17] (fun i wr => ∃ k : Nat, k ≤ m ∧ i = .int .i64 (k : Int) ∧ Below w4.heap.size w4 wr) (fun i _ => m - (intOf i).toNat)
      case atStart => exact ⟨0, Nat.zero_le _, rfl, Below.refl _ _⟩
      case round =>
        obtain ⟨wk, hwk⟩ : ∃ wk, wk = wr := ⟨_, rfl⟩
        subst hwk
        obtain ⟨k, hk, rfl, hW⟩ := hrel
        by_cases hlt : k < m
        · obtain ⟨x, hxk⟩ : ∃ x, zs[k]'(by omega) = x := ⟨_, rfl⟩
          obtain ⟨z, hzk⟩ : ∃ z, ZL[k]'(by have := H4.out.2.2.2; omega) = z := ⟨_, rfl⟩
          obtain ⟨adz, rfl, _, z0, z1, z2⟩ := zone_get (H4.out.1.1.next (Nat.le_refl _) hW) (k := k) (by have := H4.out.2.2.2; omega)
          obtain ⟨ady, rfl, _, y0, y1, y2⟩ := zone_get (H4.out.1.2.next (Nat.le_refl _) hW) (k := k) (by have := H4.out.2.2.2; omega)
          rw [hzk] at z0 z1 z2 y0 y1 y2
          have hbk := H4.out.2.2.1.trans (hW.mono H4.out.2.2.1.size)
          obtain ⟨ad, eA, had, c0⟩ := (hz.rd.next (Nat.le_refl _) hbk).get (k := k) (by rw [List.length_map]; omega)
          rw [List.getElem_map, hxk] at c0
          unfold RoD.cell at c0
          subst eA
          have hxm : x ∈ zs := by rw [← hxk]; exact List.getElem_mem _
          have n0 : (k : Int) < (m : Int) := by omega
          have n1 : (0 : Int) ≤ (k : Int) := by omega
          have HX := Lib.hid (And.intro ((hz.rows x hxm).next hbk) (And.intro (HE.out.2.2.2.2.2 x hxm) (And.intro hW (Nat.lt_of_lt_of_le had hbk.size))))
          clear hxk hzk hbk hxm hW had
          go_wp2_with fail
          refine wp_region_held_drew (S := Drawn wk) (by kernel_rfl) (by first | exact Drawn.of _ _ | exact Drawn.one _) (fun hHeld => ?_)
          refine wpAnyH_take (i := 0) (v := ?v1_0) (by simp only [List.getElem?_toArray, List.getElem?_cons_succ, List.getElem?_cons_zero]; rfl) (by kernel_rfl) (by kernel_rfl) (by kernel_rfl) (by exact fun _ _ _ h => h) (Or.inl ⟨by rfl, ?h1_0⟩) hHeld ?_
          case h1_0 => (intro w' hSw; obtain ⟨m, rfl⟩ := hSw; go_simp <;> with_reducible rfl)
          try simp only [Act.put, List.setIfInBounds_toArray, List.set_cons_zero, List.set_cons_succ]
          refine wpAnyH_take (i := 1) (v := ?v2_1) (by simp only [List.getElem?_toArray, List.getElem?_cons_succ, List.getElem?_cons_zero]; rfl) (by kernel_rfl) (by kernel_rfl) (by kernel_rfl) (by exact fun _ _ _ h => h) (Or.inl ⟨by rfl, ?h2_1⟩) hHeld ?_
          case h2_1 => (intro w' hSw; obtain ⟨m, rfl⟩ := hSw; go_simp <;> with_reducible rfl)
          try simp only [Act.put, List.setIfInBounds_toArray, List.set_cons_zero, List.set_cons_succ]
          refine wpAnyH_take (i := 2) (v := ?v3_2) (by simp only [List.getElem?_toArray, List.getElem?_cons_succ, List.getElem?_cons_zero]; rfl) (by kernel_rfl) (by kernel_rfl) (by kernel_rfl) (by exact fun _ _ _ h => h) (Or.inl ⟨by rfl, ?h3_2⟩) hHeld ?_
          case h3_2 => (intro w' hSw; obtain ⟨m, rfl⟩ := hSw; go_simp <;> with_reducible rfl)
          try simp only [Act.put, List.setIfInBounds_toArray, List.set_cons_zero, List.set_cons_succ]
          refine wpAnyH_take (i := 3) (v := ?v4_3) (by simp only [List.getElem?_toArray, List.getElem?_cons_succ, List.getElem?_cons_zero]; rfl) (by kernel_rfl) (by kernel_rfl) (by kernel_rfl) (by exact fun _ _ _ h => h) (Or.inl ⟨by rfl, ?h4_3⟩) hHeld ?_
          case h4_3 => (intro w' hSw; obtain ⟨m, rfl⟩ := hSw; go_simp <;> with_reducible rfl)
          try simp only [Act.put, List.setIfInBounds_toArray, List.set_cons_zero, List.set_cons_succ]
          refine wpAnyH_take (i := 4) (v := ?v5_4) (by simp only [List.getElem?_toArray, List.getElem?_cons_succ, List.getElem?_cons_zero]; rfl) (by kernel_rfl) (by kernel_rfl) (by kernel_rfl) (by exact fun _ _ _ h => h) (Or.inl ⟨by rfl, ?h5_4⟩) hHeld ?_
          case h5_4 => (intro w' hSw; obtain ⟨m, rfl⟩ := hSw; go_simp <;> with_reducible rfl)
          try simp only [Act.put, List.setIfInBounds_toArray, List.set_cons_zero, List.set_cons_succ]
          refine wpAnyH_take (i := 5) (v := ?v6_5) (by simp only [List.getElem?_toArray, List.getElem?_cons_succ, List.getElem?_cons_zero]; rfl) (by kernel_rfl) (by kernel_rfl) (by kernel_rfl) (by exact fun _ _ _ h => h) (Or.inl ⟨by rfl, ?h6_5⟩) hHeld ?_
          case h6_5 => (intro w' hSw; obtain ⟨m, rfl⟩ := hSw; go_simp <;> with_reducible rfl)
          try simp only [Act.put, List.setIfInBounds_toArray, List.set_cons_zero, List.set_cons_succ]
          refine wpAnyH_take (i := 6) (v := ?v7_6) (by simp only [List.getElem?_toArray, List.getElem?_cons_succ, List.getElem?_cons_zero]; rfl) (by kernel_rfl) (by kernel_rfl) (by kernel_rfl) (by exact fun _ _ _ h => h) (Or.inl ⟨by rfl, ?h7_6⟩) hHeld ?_
          case h7_6 => (intro w' hSw; obtain ⟨m, rfl⟩ := hSw; go_simp <;> with_reducible rfl)
          try simp only [Act.put, List.setIfInBounds_toArray, List.set_cons_zero, List.set_cons_succ]
          refine wpAnyH_take (i := 7) (v := ?v8_7) (by simp only [List.getElem?_toArray, List.getElem?_cons_succ, List.getElem?_cons_zero]; rfl) (by kernel_rfl) (by kernel_rfl) (by kernel_rfl) (by exact fun _ _ _ h => h) (Or.inl ⟨by rfl, ?h8_7⟩) hHeld ?_
          case h8_7 => (intro w' hSw; obtain ⟨m, rfl⟩ := hSw; go_simp <;> with_reducible rfl)
          try simp only [Act.put, List.setIfInBounds_toArray, List.set_cons_zero, List.set_cons_succ]
          refine wpAnyH_take (i := 8) (v := ?v9_8) (by simp only [List.getElem?_toArray, List.getElem?_cons_succ, List.getElem?_cons_zero]; rfl) (by kernel_rfl) (by kernel_rfl) (by kernel_rfl) (by exact fun _ _ _ h => h) (Or.inl ⟨by rfl, ?h9_8⟩) hHeld ?_
          case h9_8 => (intro w' hSw; obtain ⟨m, rfl⟩ := hSw; go_simp <;> with_reducible rfl)
          try simp only [Act.put, List.setIfInBounds_toArray, List.set_cons_zero, List.set_cons_succ]
          refine wpAnyH_done (by kernel_rfl) ?_ _
          go_wp2_with fail
          go_loopw [18] (fun i wr => ∃ j : Nat, j ≤ x.n ∧ i = .int .i64 (j : Int) ∧ Below wk.heap.size wk wr) (fun i _ => x.n - (intOf i).toNat)
          case atStart => exact ⟨0, Nat.zero_le _, rfl, bdrewN (Below.refl _ _) 1⟩
          case round =>
            obtain ⟨wl, hwl⟩ : ∃ wl, wl = wr := ⟨_, rfl⟩
            subst hwl
            clear z0 z1 z2 y0 y1 y2
            obtain ⟨j, hj, rfl, hI⟩ := hrel
            have c1 := (hI.cell (p := ad.add k) (by rw [add_block]; exact HX.out.2.2.2)).trans c0
            by_cases hjl : j < x.n
            · obtain ⟨y, hyk⟩ : ∃ y, x.cs[j]'(by have := HX.out.1.len; omega) = y := ⟨_, rfl⟩
              obtain ⟨ac, ea, hac, v0, v1⟩ := two_get cp_two (HX.out.1.rd.next (Nat.le_refl _) hI) (k := j) (by have := HX.out.1.len; omega) (u := .int .i64 y.lba) (v := .int .i64 y.t) (by rw [hyk]; rfl)
              rw [ea] at c1
              clear ea
              have m0 : (j : Int) < (x.n : Int) := by omega
              have m1 : (0 : Int) ≤ (j : Int) := by omega
              have hx4 : x.n ≤ 400 := HX.out.2.1
              have hWl : Below w4.heap.size w4 wl := HX.out.2.2.1.trans (hI.mono HX.out.2.2.1.size)
              have hck : (ad.add k).block < wl.heap.size := by rw [add_block]; exact Nat.lt_of_lt_of_le HX.out.2.2.2 hI.size
              have hacl : (ac.add (j * 2)).block < wl.heap.size := by rw [add_block]; exact Nat.lt_of_lt_of_le hac hI.size
              have K1 := Lib.hid (fun w' (h : Below wl.heap.size wl w') => (h.cell (p := ad.add k) hck).trans c1)
              have K2 := Lib.hid (fun w' (h : Below wl.heap.size wl w') => (h.cell (p := ac.add (j * 2)) hacl).trans v0)
              have K3 := Lib.hid (fun w' (h : Below wl.heap.size wl w') => (h.cell (p := ⟨(ac.add (j * 2)).block, _, none⟩) hacl).trans v1)
              have HEK := Lib.hid (And.intro hI (And.intro (fun w' (h : Below wl.heap.size wl w') => (HEV.out.next hWl).next h) (And.intro (fun w' (h : Below wl.heap.size wl w') => (show RMx w' w1.heap.size xm N last XA xn xc L from HXX.out.keep fun b ob hb _ => ((hWl.trans (h.mono hWl.size)).block b (Array.getElem?_eq_some_iff.1 hb).1).trans hb)) HE.out.2.2.2.1)))
              clear hyk hac hWl hck hacl hI
              go_wp2_with fail
              refine wp_region_held_drew (S := fun w' => Below wl.heap.size wl w') (by kernel_rfl) (bdrew (Below.refl _ _)) (fun hHeld => ?_)
              refine wpAnyH_take (i := 0) (v := ?v10_0) (by simp only [List.getElem?_toArray, List.getElem?_cons_succ, List.getElem?_cons_zero]; rfl) (by kernel_rfl) (by kernel_rfl) (by kernel_rfl) (by exact fun _ _ _ h => h) (Or.inl ⟨by rfl, ?h10_0⟩) hHeld ?_
              case h10_0 => (intro w' hSw; have k0 := K1.out w' hSw; have k1 := K2.out w' hSw; have k2 := K3.out w' hSw; go_simp <;> with_reducible rfl)
              try simp only [Act.put, List.setIfInBounds_toArray, List.set_cons_zero, List.set_cons_succ]
              refine wpAnyH_take (i := 1) (v := ?v11_1) (by simp only [List.getElem?_toArray, List.getElem?_cons_succ, List.getElem?_cons_zero]; rfl) (by kernel_rfl) (by kernel_rfl) (by kernel_rfl) (by exact fun _ _ _ h => h) (Or.inl ⟨by rfl, ?h11_1⟩) hHeld ?_
              case h11_1 => (intro w' hSw; have k0 := K1.out w' hSw; have k1 := K2.out w' hSw; have k2 := K3.out w' hSw; go_simp <;> with_reducible rfl)
              try simp only [Act.put, List.setIfInBounds_toArray, List.set_cons_zero, List.set_cons_succ]
              refine wpAnyH_take (i := 2) (v := ?v12_2) (by simp only [List.getElem?_toArray, List.getElem?_cons_succ, List.getElem?_cons_zero]; rfl) (by kernel_rfl) (by kernel_rfl) (by kernel_rfl) (by exact fun _ _ _ h => h) (Or.inl ⟨by rfl, ?h12_2⟩) hHeld ?_
              case h12_2 => (intro w' hSw; have k0 := K1.out w' hSw; have k1 := K2.out w' hSw; have k2 := K3.out w' hSw; go_simp <;> with_reducible rfl)
              try simp only [Act.put, List.setIfInBounds_toArray, List.set_cons_zero, List.set_cons_succ]
              refine wpAnyH_take (i := 3) (v := ?v13_3) (by simp only [List.getElem?_toArray, List.getElem?_cons_succ, List.getElem?_cons_zero]; rfl) (by kernel_rfl) (by kernel_rfl) (by kernel_rfl) (by exact fun _ _ _ h => h) (Or.inl ⟨by rfl, ?h13_3⟩) hHeld ?_
              case h13_3 => (intro w' hSw; have k0 := K1.out w' hSw; have k1 := K2.out w' hSw; have k2 := K3.out w' hSw; go_simp <;> with_reducible rfl)
              try simp only [Act.put, List.setIfInBounds_toArray, List.set_cons_zero, List.set_cons_succ]
              refine wpAnyH_take (i := 4) (v := ?v14_4) (by simp only [List.getElem?_toArray, List.getElem?_cons_succ, List.getElem?_cons_zero]; rfl) (by kernel_rfl) (by kernel_rfl) (by kernel_rfl) (by exact fun _ _ _ h => h) (Or.inl ⟨by rfl, ?h14_4⟩) hHeld ?_
              case h14_4 => (intro w' hSw; have k0 := K1.out w' hSw; have k1 := K2.out w' hSw; have k2 := K3.out w' hSw; go_simp <;> with_reducible rfl)
              try simp only [Act.put, List.setIfInBounds_toArray, List.set_cons_zero, List.set_cons_succ]
              refine wpAnyH_take (i := 5) (v := ?v15_5) (by simp only [List.getElem?_toArray, List.getElem?_cons_succ, List.getElem?_cons_zero]; rfl) (by kernel_rfl) (by kernel_rfl) (by kernel_rfl) (by exact fun _ _ _ h => h) (Or.inl ⟨by rfl, ?h15_5⟩) hHeld ?_
              case h15_5 => (intro w' hSw; have k0 := K1.out w' hSw; have k1 := K2.out w' hSw; have k2 := K3.out w' hSw; go_simp <;> with_reducible rfl)
              try simp only [Act.put, List.setIfInBounds_toArray, List.set_cons_zero, List.set_cons_succ]
              refine wpAnyH_take (i := 6) (v := ?v16_6) (by simp only [List.getElem?_toArray, List.getElem?_cons_succ, List.getElem?_cons_zero]; rfl) (by kernel_rfl) (by kernel_rfl) (by kernel_rfl) (by exact fun _ _ _ h => h) (Or.inl ⟨by rfl, ?h16_6⟩) hHeld ?_
              case h16_6 => (intro w' hSw; have k0 := K1.out w' hSw; have k1 := K2.out w' hSw; have k2 := K3.out w' hSw; go_simp <;> with_reducible rfl)
              try simp only [Act.put, List.setIfInBounds_toArray, List.set_cons_zero, List.set_cons_succ]
              refine wpAnyH_take (i := 7) (v := ?v17_7) (by simp only [List.getElem?_toArray, List.getElem?_cons_succ, List.getElem?_cons_zero]; rfl) (by kernel_rfl) (by kernel_rfl) (by kernel_rfl) (by exact fun _ _ _ h => h) (Or.inl ⟨by rfl, ?h17_7⟩) hHeld ?_
              case h17_7 => (intro w' hSw; have k0 := K1.out w' hSw; have k1 := K2.out w' hSw; have k2 := K3.out w' hSw; go_simp <;> with_reducible rfl)
              try simp only [Act.put, List.setIfInBounds_toArray, List.set_cons_zero, List.set_cons_succ]
              refine wpAnyH_take (i := 8) (v := ?v18_8) (by simp only [List.getElem?_toArray, List.getElem?_cons_succ, List.getElem?_cons_zero]; rfl) (by kernel_rfl) (by kernel_rfl) (by kernel_rfl) (by exact fun _ _ _ h => h) (Or.inl ⟨by rfl, ?h18_8⟩) hHeld ?_
              case h18_8 => (intro w' hSw; have k0 := K1.out w' hSw; have k1 := K2.out w' hSw; have k2 := K3.out w' hSw; go_simp <;> with_reducible rfl)
              try simp only [Act.put, List.setIfInBounds_toArray, List.set_cons_zero, List.set_cons_succ]
              refine wpAnyH_take (i := 10) (v := ?v19_10) (by simp only [List.getElem?_toArray, List.getElem?_cons_succ, List.getElem?_cons_zero]; rfl) (by kernel_rfl) (by kernel_rfl) (by kernel_rfl) (by exact fun _ _ _ h => h) (Or.inl ⟨by rfl, ?h19_10⟩) hHeld ?_
              case h19_10 => (intro w' hSw; have k0 := K1.out w' hSw; have k1 := K2.out w' hSw; have k2 := K3.out w' hSw; go_simp <;> with_reducible rfl)
              try simp only [Act.put, List.setIfInBounds_toArray, List.set_cons_zero, List.set_cons_succ]
              refine wpAnyH_take (i := 11) (v := ?v20_11) (by simp only [List.getElem?_toArray, List.getElem?_cons_succ, List.getElem?_cons_zero]; rfl) (by kernel_rfl) (by kernel_rfl) (by kernel_rfl) (by exact fun _ _ _ h => h) (Or.inl ⟨by rfl, ?h20_11⟩) hHeld ?_
              case h20_11 => (intro w' hSw; have k0 := K1.out w' hSw; have k1 := K2.out w' hSw; have k2 := K3.out w' hSw; go_simp <;> with_reducible rfl)
              try simp only [Act.put, List.setIfInBounds_toArray, List.set_cons_zero, List.set_cons_succ]
              refine wpAnyH_take (i := 12) (v := ?v21_12) (by simp only [List.getElem?_toArray, List.getElem?_cons_succ, List.getElem?_cons_zero]; rfl) (by kernel_rfl) (by kernel_rfl) (by kernel_rfl) (by exact fun _ _ _ h => h) (Or.inl ⟨by rfl, ?h21_12⟩) hHeld ?_
              case h21_12 => (intro w' hSw; have k0 := K1.out w' hSw; have k1 := K2.out w' hSw; have k2 := K3.out w' hSw; go_simp <;> with_reducible rfl)
              try simp only [Act.put, List.setIfInBounds_toArray, List.set_cons_zero, List.set_cons_succ]
              refine wpAnyH_take (i := 13) (v := ?v22_13) (by simp only [List.getElem?_toArray, List.getElem?_cons_succ, List.getElem?_cons_zero]; rfl) (by kernel_rfl) (by kernel_rfl) (by kernel_rfl) (by exact fun _ _ _ h => h) (Or.inl ⟨by rfl, ?h22_13⟩) hHeld ?_
              case h22_13 => (intro w' hSw; have k0 := K1.out w' hSw; have k1 := K2.out w' hSw; have k2 := K3.out w' hSw; go_simp <;> with_reducible rfl)
              try simp only [Act.put, List.setIfInBounds_toArray, List.set_cons_zero, List.set_cons_succ]
              refine wpAnyH_take (i := 14) (v := ?v23_14) (by simp only [List.getElem?_toArray, List.getElem?_cons_succ, List.getElem?_cons_zero]; rfl) (by kernel_rfl) (by kernel_rfl) (by kernel_rfl) (by exact fun _ _ _ h => h) (Or.inl ⟨by rfl, ?h23_14⟩) hHeld ?_
              case h23_14 => (intro w' hSw; have k0 := K1.out w' hSw; have k1 := K2.out w' hSw; have k2 := K3.out w' hSw; go_simp <;> with_reducible rfl)
              try simp only [Act.put, List.setIfInBounds_toArray, List.set_cons_zero, List.set_cons_succ]
              refine wpAnyH_take (i := 15) (v := ?v24_15) (by simp only [List.getElem?_toArray, List.getElem?_cons_succ, List.getElem?_cons_zero]; rfl) (by kernel_rfl) (by kernel_rfl) (by kernel_rfl) (by exact fun _ _ _ h => h) (Or.inl ⟨by rfl, ?h24_15⟩) hHeld ?_
              case h24_15 => (intro w' hSw; have k0 := K1.out w' hSw; have k1 := K2.out w' hSw; have k2 := K3.out w' hSw; go_simp <;> with_reducible rfl)
              try simp only [Act.put, List.setIfInBounds_toArray, List.set_cons_zero, List.set_cons_succ]
              refine wpAnyH_take (i := 16) (v := ?v25_16) (by simp only [List.getElem?_toArray, List.getElem?_cons_succ, List.getElem?_cons_zero]; rfl) (by kernel_rfl) (by kernel_rfl) (by kernel_rfl) (by exact fun _ _ _ h => h) (Or.inl ⟨by rfl, ?h25_16⟩) hHeld ?_
              case h25_16 => (intro w' hSw; have k0 := K1.out w' hSw; have k1 := K2.out w' hSw; have k2 := K3.out w' hSw; go_simp <;> with_reducible rfl)
              try simp only [Act.put, List.setIfInBounds_toArray, List.set_cons_zero, List.set_cons_succ]
              refine wpAnyH_take (i := 17) (v := ?v26_17) (by simp only [List.getElem?_toArray, List.getElem?_cons_succ, List.getElem?_cons_zero]; rfl) (by kernel_rfl) (by kernel_rfl) (by kernel_rfl) (by exact fun _ _ _ h => h) (Or.inl ⟨by rfl, ?h26_17⟩) hHeld ?_
              case h26_17 => (intro w' hSw; have k0 := K1.out w' hSw; have k1 := K2.out w' hSw; have k2 := K3.out w' hSw; go_simp <;> with_reducible rfl)
              try simp only [Act.put, List.setIfInBounds_toArray, List.set_cons_zero, List.set_cons_succ]
              refine wpAnyH_take (i := 18) (v := ?v27_18) (by simp only [List.getElem?_toArray, List.getElem?_cons_succ, List.getElem?_cons_zero]; rfl) (by kernel_rfl) (by kernel_rfl) (by kernel_rfl) (by exact fun _ _ _ h => h) (Or.inl ⟨by rfl, ?h27_18⟩) hHeld ?_
              case h27_18 => (intro w' hSw; have k0 := K1.out w' hSw; have k1 := K2.out w' hSw; have k2 := K3.out w' hSw; go_simp <;> with_reducible rfl)
              try simp only [Act.put, List.setIfInBounds_toArray, List.set_cons_zero, List.set_cons_succ]
              refine wpAnyH_ready (rs := [9]) (by kernel_rfl) (by simp) ?_
              refine AllReadyH.cons (by simp only [List.getElem?_toArray, List.getElem?_cons_succ, List.getElem?_cons_zero]; rfl) (fun K hK => ?_) AllReadyH.nil
              go_simp
              refine (live_any w1.heap.size gm _ _ _ g y hz0 _ (HEK.out.2.1 _ hHeld) HEK.out.2.2.2).mono ?_
              rintro e w7 ⟨rfl, hb7⟩
              have hS7 := hHeld.trans (hb7.mono hHeld.size)
              clear hb7
              go_simp
              refine hK.out _ _ (hS7) (fun hHeld2 => ?_)
              clear hK K hHeld
              have hHeld := hHeld2
              clear hHeld2
              try simp only [Act.put, List.setIfInBounds_toArray, List.set_cons_zero, List.set_cons_succ]
              refine wpAnyH_ready (rs := [19]) (by kernel_rfl) (by simp) ?_
              refine AllReadyH.cons (by simp only [List.getElem?_toArray, List.getElem?_cons_succ, List.getElem?_cons_zero]; rfl) (fun K hK => ?_) AllReadyH.nil
              go_simp
              refine (rlive_any w1.heap.size xm _ xn xc _ XA L y hz0 _ (HEK.out.2.2.1 _ hHeld) HEK.out.2.2.2).mono ?_
              rintro e w8 ⟨rfl, hb8⟩
              have hS8 := hHeld.trans (hb8.mono hHeld.size)
              clear hb8
              rw [HLB.out]
              go_simp
              refine hK.out _ _ (hS8) (fun hHeld2 => ?_)
              clear hK K hHeld
              have hHeld := hHeld2
              clear hHeld2
              try simp only [Act.put, List.setIfInBounds_toArray, List.set_cons_zero, List.set_cons_succ]
              refine wpAnyH_take (i := 20) (v := ?v28_20) (by simp only [List.getElem?_toArray, List.getElem?_cons_succ, List.getElem?_cons_zero]; rfl) (by kernel_rfl) (by kernel_rfl) (by kernel_rfl) (by exact fun _ _ _ h => h) (Or.inl ⟨by rfl, ?h28_20⟩) hHeld ?_
              case h28_20 => (intro w' hSw; have k0 := K1.out w' hSw; have k1 := K2.out w' hSw; have k2 := K3.out w' hSw; go_simp <;> with_reducible rfl)
              try simp only [Act.put, List.setIfInBounds_toArray, List.set_cons_zero, List.set_cons_succ]
              refine wpAnyH_done (by kernel_rfl) ?_ _
              go_wp2_with fail
              go_roundw
              case rel => exact ⟨j + 1, hjl, by go_num, HEK.out.1.trans (hS8.mono HEK.out.1.size)⟩
              case measure => exact meas hjl
            · have m0 : ¬ ((j : Int) < (x.n : Int)) := by omega
              have HW5 := Lib.hid (HX.out.2.2.1.trans (hI.mono HX.out.2.2.1.size))
              have hm4 := HE.out.2.2.2.2.1
              clear hI hjl
              go_wp2_with fail
              go_roundw
              case rel => exact ⟨k + 1, hlt, by go_num, HW5.out⟩
              case measure => exact meas hlt
        · have n0 : ¬ ((k : Int) < (m : Int)) := by omega
          have hbk := H4.out.2.2.1.trans (hW.mono H4.out.2.2.1.size)
          have hevk := HEV.out.next hW
          have hXk : RMx wk w1.heap.size xm N last XA xn xc L := HXX.out.keep fun b ob hb _ => (hW.block b (Array.getElem?_eq_some_iff.1 hb).1).trans hb
          have hm1 : m ≤ 1000 := by have := HE.out.2.2.2.2.1; omega
          have hs1 : ∀ x ∈ zs, x.n ≤ 1000 := fun x hx => by have := HE.out.2.2.2.2.2 x hx; omega
          have hfz := zs_fair hz
          have hnx := next_any w1.heap.size gm N N last g A2 m c2 zs size hz0 now wk hevk HE.out.2.2.2.1 (hz.next hbk) hm1 hs1
          have HK := Lib.hid (And.intro hbk (And.intro hevk (And.intro hXk (And.intro hm1 (And.intro hs1 hfz)))))
          clear hlt hk hW hbk hevk hXk hm1 hs1 hfz
          go_wp2_with fail
          refine hnx.mono ?_
          rintro e w5 ⟨hN1, hb5⟩
          obtain ⟨p, P1, pn, pc, d, r, mv, rfl, hC1, hpn, hpair⟩ := next_pair hN1 HK.out.2.2.2.2.2 HK.out.2.2.2.2.1
          unfold planC
          obtain ⟨w6, hw6⟩ : ∃ w6, w5.alloc (.cells #[.int .i64 (p : Int), .slice P1 pn pc, .int .i64 d] 56) = w6 := ⟨_, rfl⟩
          have hx6 : Bk w6 w5.heap.size 56 [.int .i64 (p : Int), .slice P1 pn pc, .int .i64 d] := by rw [← hw6]; exact Bk.new w5 _ _
          have hb56 : Below w5.heap.size w5 w6 := by rw [← hw6]; exact (Below.refl _ _).alloc (Nat.le_refl _) _
          have hb6 : Below wk.heap.size wk w6 := hb5.trans (hb56.mono hb5.size)
          have hX6 : RMx w6 w1.heap.size xm N last XA xn xc L := HK.out.2.2.1.keep fun b ob hb _ => (hb6.block b (Array.getElem?_eq_some_iff.1 hb).1).trans hb
          have hrx := rnext_any w1.heap.size xm N xn xc last XA L g A2 m c2 zs size hz0 now w6 hX6 HE.out.2.2.2.1 HLB.out ((hz.next HK.out.1).next hb6) HK.out.2.2.2.1 HK.out.2.2.2.2.1
          have H6 := Lib.hid (And.intro hb6 (And.intro hx6 (And.intro (hC1.next hb56) (And.intro hpn hpair))))
          clear hN1 hb5 hC1 hpn hpair hx6 hb56 hb6 hX6 hnx
          go_wp2_with fail
          refine hrx.mono ?_
          rintro e w7 ⟨hN2, hb7⟩
          obtain ⟨P2, pc2, rfl, hC2⟩ := H6.out.2.2.2.2 _ _ hN2
          unfold planC
          obtain ⟨w8, hw8⟩ : ∃ w8, w7.alloc (.cells #[.int .i64 (p : Int), .slice P2 pn pc2, .int .i64 d] 65) = w8 := ⟨_, rfl⟩
          have hx8 : Bk w8 w7.heap.size 65 [.int .i64 (p : Int), .slice P2 pn pc2, .int .i64 d] := by rw [← hw8]; exact Bk.new w7 _ _
          have hb78 : Below w7.heap.size w7 w8 := by rw [← hw8]; exact (Below.refl _ _).alloc (Nat.le_refl _) _
          have hb8 : Below w6.heap.size w6 w8 := hb7.trans (hb78.mono hb7.size)
          have hp8 := H6.out.2.1.next hb8 H6.out.2.1.lt
          have a0 := hp8.cell (i := 0) (by simp)
          have a1 := hp8.cell (i := 1) (by simp)
          have a2 := hp8.cell (i := 2) (by simp)
          have b0 := hx8.cell (i := 0) (by simp)
          have b1 := hx8.cell (i := 1) (by simp)
          have b2 := hx8.cell (i := 2) (by simp)
          simp only [List.getElem_cons_zero, List.getElem_cons_succ] at a0 a1 a2 b0 b1 b2
          have hrw := rows_any P1 P2 pn pc pn pc2 mv mv w8 (H6.out.2.2.1.next hb8) (hC2.next hb78) H6.out.2.2.2.1
          have hbk8 := H6.out.1.trans (hb8.mono H6.out.1.size)
          have H8 := Lib.hid hbk8
          clear hN2 hb7 hC2 hx8 hb78 hb8 hp8 hrx hbk8
          go_wp2_with fail
          refine hrw.mono ?_
          rintro e w9 ⟨hEq, q, rfl⟩
          rcases hEq with ⟨rfl, _⟩ | ⟨rfl, hne⟩
          · have hb9 := bdrewN H8.out q
            have hrn := run_any w1.heap.size gm N N last g A2 m c2 zs size hz0 now steps (w8.drewN q) (HK.out.2.1.next hb9) HE.out.2.2.2.1 ((hz.next HK.out.1).next hb9) HK.out.2.2.2.1 HK.out.2.2.2.2.1 HSZ.out
            have H9 := Lib.hid hb9
            clear hb9 hrw
            go_wp2_with fail
            refine hrn.mono ?_
            rintro e wa ⟨⟨os, v, rfl, hO, hcs⟩, hba⟩
            have hbka := H9.out.trans (hba.mono H9.out.size)
            have hXa : RMx wa w1.heap.size xm N last XA xn xc L := HK.out.2.2.1.keep fun b ob hb _ => (hbka.block b (Array.getElem?_eq_some_iff.1 hb).1).trans hb
            have hrr := rrun_any w1.heap.size xm N xn xc last XA L g A2 m c2 zs size hz0 now steps wa hXa HE.out.2.2.2.1 HLB.out ((hz.next HK.out.1).next hbka) HK.out.2.2.2.1 HK.out.2.2.2.2.1 HSZ.out
            have HA := Lib.hid (And.intro hO (And.intro hcs hbka))
            clear hO hcs hba hbka hXa hrn
            go_wp2_with fail
            refine hrr.mono ?_
            rintro e wb ⟨⟨os2, v2, rfl, hO2, hcs2⟩, hbb⟩
            have hO1 := HA.out.1.next hbb
            have hol : os.length = m := by have := congrArg List.length HA.out.2.1; rw [css_len, iter_length, css_len] at this; omega
            have hol2 : os2.length = m := by have := congrArg List.length hcs2; rw [css_len, iter_length, css_len] at this; omega
            obtain ⟨VA, vc, rfl, hZ1⟩ := hO1.zs
            obtain ⟨VB, vd, rfl, hZ2⟩ := hO2.zs
            rw [hol] at hZ1 ⊢
            rw [hol2] at hZ2 ⊢
            have hbkb := HA.out.2.2.trans (hbb.mono HA.out.2.2.size)
            have hcp := copies_any VA VB m vc m vd os os2 wb hZ1 hZ2 HK.out.2.2.2.1 hO1.sm
            have HB := Lib.hid (And.intro hcs2 (HK.out.1.trans (hbkb.mono HK.out.1.size)))
            clear hO1 hO2 hol hol2 hZ1 hZ2 hbkb hcs2 hbb hrr
            go_wp2_with fail
            refine hcp.mono ?_
            rintro e wc ⟨hEq, q2, rfl⟩
            rcases hEq with ⟨rfl, _⟩ | ⟨rfl, hne⟩
            · have hbc := bdrewN HB.out.2 q2
              clear hcp
              go_wp2_with fail
              refine (awake_any _).mono ?_
              rintro e w' ⟨rfl, hbA⟩
              go_wp2_with fail
              go_ret
              exact ⟨rfl, hbc.trans (hbA.mono hbc.size)⟩
            · exact absurd (HA.out.2.1.trans HB.out.1.symm) hne
          · exact absurd rfl hne
end Go.Proofs.Ytchhnjadnacniaa.Cm
