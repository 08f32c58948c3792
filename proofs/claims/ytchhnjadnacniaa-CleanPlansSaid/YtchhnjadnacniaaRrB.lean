/- The walk of the reference's Rank: for every list of zones it returns the ranked ones. -/
import Derived.Test.YtchhnjadnacniaaRrA
namespace Go.Proofs.Ytchhnjadnacniaa.Rk
set_option linter.unusedSimpArgs false
set_option linter.unusedVariables false
open Go.RowKit Go.Sort Go.Lib Fl Fb Sc
open Go.Proofs.Ytchhnjadnacniaa.So
attribute [local go_sem] u64_unsigned

theorem own_addr {w : World} {B e n c : Nat} {A : Option Addr} {xs : List Value} (h : w.ownsRow B e 1 (.slice A n c) n xs) (hn : 0 < n) : ∃ g, A = some ⟨g, 0, none⟩ := by
  obtain ⟨g, d, e⟩ := own_slice h hn
  injection e with e1
  exact ⟨g, e1⟩
theorem wpList_app1L {P : Program} {w : World} {ops : Array Oper} {rest : List Oper} {o : Oper} {a : Act} {Q : Exit → Act → World → Prop} (hgd : o.guard = none) (s x : Operand) (t : TypeId)
    (ho : o.op = .call { callee := .builtin .append, args := #[s, x], argTypes := #[t, t] })
    (B : Nat) (e : TypeId) (i : TypeInfo) (z : Value) (bytes : Nat) (ht : P.underlying t = some (.slice e)) (hi : P.info? e = some i) (hz : i.zero = some z)
    (hsize : i.size = 1) (hby : i.bytes = bytes) (hzs : z.cells.size = 1)
    (v : Value) (n : Nat) (xs : List Value) (hs : a.eval s = v) (hown : w.ownsRow B e 1 v n xs) (hB : B ≤ w.heap.size)
    (u : Value) (hu : u.oneCell' = true) (hx : a.eval x = .slice (some ⟨w.heap.size, 0, none⟩) 1 1)
    (hn : (n + 1) * bytes ≤ 1000000000) (hn2 : n ≤ 1000000000)
    (h : ∀ v' w', w'.ownsRow B e 1 v' (n + 1) (xs ++ [u]) → (w.alloc (.cells #[u] e)).grownBy w' v.ownBlock → (v'.ownBlock = v.ownBlock ∨ v'.ownBlock = some (w.alloc (.cells #[u] e)).heap.size) → wpList P ops Q rest (a.put o.dst v') w') : wpList P ops Q (o :: rest) a (w.alloc (.cells #[u] e)) := by
  refine wpList_append_own_at _ hgd s x t ho B e i z 1 bytes ht hi hz hsize hby hzs (by omega) v n xs hs (hown.alloc _) ⟨w.heap.size, 0, none⟩ 1 1 [u] hx rfl (cell_one_new _ _ _) (by simpa using hu) (by unfold maxLen; omega) (by omega) (by simp; omega) ?_
  intro v' w' h1 h2 _ h4
  exact h v' w' h1 h2 h4
set_option maxRecDepth 100000 in
set_option maxHeartbeats 8000000 in
theorem rrank_any (A : Option Addr) (n c : Nat) (zs : List Zn) (now : Int) (w : World) (h : IsZones w A n c zs) (hn : n ≤ 10000) :
    Calls Try.prog 16 #[.slice A n c, .int .i64 now] w fun e w' => ∃ A' c', e = .returned (.slice A' (rankV (zs.map (wV now))).length c') ∧ w'.ownsRow w.heap.size 3 1 (.slice A' (rankV (zs.map (wV now))).length c') (rankV (zs.map (wV now))).length ((rankV (zs.map (wV now))).map nv) ∧ Below w.heap.size w w' := by
  have hl := h.len
  obtain ⟨ws, hws⟩ : ∃ ws, zs.map (wV now) = ws := ⟨_, rfl⟩
  have hwl : n = ws.length := by rw [← hws, List.length_map, hl]
  have hwle : ∀ x ∈ ws, x ≤ 9218868437227405312 := fun x hx => by rw [← hws] at hx; obtain ⟨z, _, rfl⟩ := List.mem_map.1 hx; exact wV_le _ _
  rw [hws]
  obtain ⟨i0, hi, hz0, hz1, hz2⟩ := info_parts infoI
  obtain ⟨f0, fi, fz0, fz1, fz2⟩ := info_parts infoF
  have HWL := Lib.hid (And.intro hwl hwle)
  clear hwl hwle
  go_enter Try.func16, Try.ntmps16
  go_wp2_with fail
  go_loopw [5, 6, 7, 8, 9, 10, 11] (fun vo vs i _ _ _ _ wr => ∃ (k : Nat) (os : List Nat), k ≤ n ∧ i = .int .i64 k ∧ RR w wr ws k vo vs os) (fun _ _ i _ _ _ _ _ => n - (intOf i).toNat)
  case atStart => exact ⟨0, [], Nat.zero_le _, rfl, ⟨rfl, .inl ⟨rfl, rfl⟩⟩, ⟨rfl, .inl ⟨rfl, rfl⟩⟩, .inl ⟨rfl, rfl⟩, Below.refl _ _, .refl _, .nil⟩
  case round =>
    obtain ⟨k, os, hk, rfl, hR⟩ := hrel
    by_cases hlt : k < n
    · obtain ⟨ad, rfl, hbb, e0, e1, e2⟩ := zone_get (h.rd.next (Nat.le_refl _) hR.bel) (k := k) (by omega)
      obtain ⟨z, hz⟩ : ∃ z, zs[k]'(by omega) = z := ⟨_, rfl⟩
      have hgt : gt0 ws k = wV now z := by unfold gt0; rw [← hws, List.getD_eq_getElem?_getD, List.getElem?_map, List.getElem?_eq_getElem (by omega), hz]; rfl
      rw [hz] at e0 e1 e2
      clear hz
      have m0 : (k : Int) < n := by omega
      have hol := hR.len
      have HG := Lib.hid hgt
      clear hgt
      go_wp2_with fail
      refine (rscore_any z now _).mono ?_
      rintro e w2 ⟨x, cc, rfl, hb, hSC⟩
      have hR2 := hR.next hb
      clear hb e0 e1 e2 hR
      rcases hSC with ⟨rfl, hv⟩ | ⟨rfl, rfl, hv⟩ | ⟨rfl, hx, hv⟩
      · have HV := Lib.hid hv
        clear hv
        go_wp2_with fail
        go_roundw
        case rel => exact ⟨k + 1, os, by omega, by go_num, hR2.skip (by rw [HG.out]; exact HV.out)⟩
        case measure => simp [intOf]; omega
      · have t1 : (FloatKind.f64.format.order 9221120237041090560 9221120237041090560 != some .eq) = true := by decide +kernel
        have HV := Lib.hid hv
        clear hv
        go_wp2_with fail
        go_roundw
        case rel => exact ⟨k + 1, os, by omega, by go_num, hR2.skip (by rw [HG.out]; exact HV.out)⟩
        case measure => simp [intOf]; omega
      · rw [← hx] at hv
        have t1 : (FloatKind.f64.format.order x x != some .eq) = false := t_ne_num (by rw [rg_small hv]; exact hv)
        have t2 : (FloatKind.f64.format.order x 0 == some .eq) = decide (x = 0) := p_eq hv (by omega)
        have HX := Lib.hid hx
        clear hx
        by_cases h0 : x = 0
        · rw [decide_eq_true h0] at t2
          have HV := Lib.hid (show wV now z = 0 by rw [← HX.out]; exact h0)
          clear h0 hv
          go_wp2_with fail
          go_roundw
          case rel => exact ⟨k + 1, os, by omega, by go_num, hR2.skip (by rw [HG.out]; exact HV.out)⟩
          case measure => simp [intOf]; omega
        · rw [decide_eq_false h0] at t2
          have HZ := Lib.hid h0
          have hx64 : lt64 x := by show x < _; omega
          have hle : ∀ q, gt0 ws q ≤ 9218868437227405312 := gt0_le HWL.out.2
          have HC : ∀ q, Hid (cmpN (keyV (gt0 ws q)) (keyV x) < 0 ↔ gt0 ws q < x) := fun q => by
            rw [keyV_small (hle q), keyV_small hv]
            show _ ↔ _
            rw [cmpN_neg]; omega
          have H64 := Lib.hid hle
          clear h0 hle hv
          obtain ⟨Ao, co, rfl⟩ := own_form hR2.ro
          obtain ⟨As, cs, rfl⟩ := own_form hR2.rs
          go_wp2_with fail
          go_loop [10] (fun v => ∃ a : Nat, a ≤ os.length ∧ v = .int .i64 a ∧ Hid (∀ j, (hj : j < os.length) → a ≤ j → gt0 ws os[j] < gt0 ws k)) (fun v => (intOf v).toNat)
          case atStart => exact ⟨os.length, Nat.le_refl _, rfl, fun j hj h => absurd hj (by omega)⟩
          case round =>
            obtain ⟨a, hal, rfl, HLO⟩ := hrel
            rcases Nat.eq_zero_or_pos a with h0 | h0
            · subst h0
              have HUP := Lib.hid (show ∀ p, (hp : p < os.length) → 0 = p + 1 → gt0 ws k ≤ gt0 ws os[p] from fun p _ e => absurd e (by omega))
              have hR3 := hR2
              have hro := hR3.ro
              have hrs := hR3.rs
              have hsz := hR3.bel.size
              go_wp2_with (first
                | (at_builtin; refine wpList_app1L rfl (.tmp 54) (.tmp 55) 25 rfl w.heap.size 3 i0 (.int .i64 0) 8 Try.underlying25 hi hz0 hz1 hz2 rfl _ _ _ (by rfl) (by exact hro) (by exact hsz) (nv 0) (by rfl) (by rfl) (by omega) (by omega) ?_; intro vo' w3 hO3 hG3 hL3; have hrs3 := (hrs.alloc (.cells #[nv 0] 3)).kept hG3 (by have := hR3.dj; rcases this with g | g; exact .inl g.2; exact .inr (fun e => g e.symm)); have hsz3 : w.heap.size ≤ w3.heap.size := Nat.le_trans hsz (Nat.le_trans (by simp) hG3.size))
                | (at_builtin; refine wpList_app1L rfl (.tmp 57) (.tmp 58) 73 rfl w.heap.size 31 f0 (.float .f64 0) 8 Try.underlying73 fi fz0 fz1 fz2 rfl _ _ _ (by rfl) (by exact hrs3) (by exact hsz3) (fv 0) (by rfl) (by rfl) (by omega) (by omega) ?_; intro vs' w4 hO4 hG4 hL4; obtain ⟨g1, d1, g2, d2, rfl, rfl, hSX⟩ := hR3.grow hO3 hG3 hL3 hO4 hG4 hL4))
              clear hro hrs hO3 hG3 hL3 hO4 hG4 hL4 hrs3 hsz hsz3 hR2
              go_loopw [11] (fun v wr2 => ∃ (p : Nat), 0 ≤ p ∧ p ≤ os.length ∧ v = .int .i64 p ∧ SX w wr2 g1 d1 g2 d2 (os.length + 1) (shift os p) (shift (os.map (gt0 ws)) p)) (fun v _ => (intOf v).toNat)
              case atStart => exact ⟨os.length, by omega, Nat.le_refl _, by first | rfl | go_num, hSX⟩
              case round =>
                obtain ⟨p, hpa, hpl, rfl, hS⟩ := hrel
                clear hSX
                by_cases hpg : 0 < p
                · obtain ⟨q, rfl⟩ : ∃ q, p = q + 1 := ⟨p - 1, by omega⟩
                  have hq : q < os.length := by omega
                  have a1 := hS.geto (j := q) (by omega)
                  rw [shift_get hq] at a1
                  have a2 := hS.geto (j := q + 1) (by omega)
                  have a3 := hS.ro.frozenAt (q + 1)
                  have hS1 := hS.seto (q + 1) (os.getD q 0)
                  have b1 := hS1.gets (j := q) (by omega)
                  rw [shift_get (by rw [List.length_map]; exact hq)] at b1
                  have b2 := hS1.gets (j := q + 1) (by omega)
                  have b3 := hS1.rs.frozenAt (q + 1)
                  have hS2 := hS1.sets (q + 1) ((os.map (gt0 ws)).getD q 0)
                  rw [shift_set hq, shift_set (by rw [List.length_map]; exact hq)] at hS2
                  obtain ⟨u1, hu1⟩ : ∃ u, os.getD q 0 = u := ⟨_, rfl⟩
                  obtain ⟨u2, hu2⟩ : ∃ u, (os.map (gt0 ws)).getD q 0 = u := ⟨_, rfl⟩
                  obtain ⟨u3, hu3⟩ : ∃ u, (shift os (q + 1)).getD (q + 1) 0 = u := ⟨_, rfl⟩
                  obtain ⟨u4, hu4⟩ : ∃ u, (shift (os.map (gt0 ws)) (q + 1)).getD (q + 1) 0 = u := ⟨_, rfl⟩
                  rw [hu1] at a1 b1 b2 b3 hS2
                  rw [hu2] at b1 hS2
                  rw [hu3] at a2
                  rw [hu4] at b2
                  unfold nv at a1 a2 b1 b2 b3 hS2
                  unfold fv at b1 b2 hS2
                  clear hu1 hu2 hu3 hu4
                  have m0 : (0 : Int) ≤ (q : Int) := by omega
                  have m1 : (q : Int) + 1 < (os.length : Int) + 1 := by omega
                  have m2 : (q : Int) < (os.length : Int) + 1 := by omega
                  have m3 : (q : Int) + 1 ≤ 100000 := by omega
                  have t0 : decide ((0 : Int) < (q : Int) + 1) = true := decide_eq_true (by omega)
                  have M1 : 0 ≤ q ∧ q ≤ os.length := by omega
                  have M1' := Lib.hid M1
                  clear hS hS1 hpa hpl hpg M1
                  go_wp2_with fail
                  go_roundw
                  case rel => exact ⟨q, M1'.out.1, M1'.out.2, by first | rfl | go_num, hS2⟩
                  case measure => simp [intOf]
                · obtain rfl : p = 0 := by omega
                  have a2 := hS.geto (j := 0) (by omega)
                  have a3 := hS.ro.frozenAt (0)
                  have hS1 := hS.seto (0) k
                  have b2 := hS1.gets (j := 0) (by omega)
                  have b3 := hS1.rs.frozenAt (0)
                  have hS2 := hS1.sets (0) x
                  rw [shift_put (by omega), shift_put (by rw [List.length_map]; omega)] at hS2
                  obtain ⟨u3, hu3⟩ : ∃ u, (shift os (0)).getD (0) 0 = u := ⟨_, rfl⟩
                  obtain ⟨u4, hu4⟩ : ∃ u, (shift (os.map (gt0 ws)) (0)).getD (0) 0 = u := ⟨_, rfl⟩
                  rw [hu3] at a2
                  rw [hu4] at b2
                  unfold nv at a2 b2 b3 hS2
                  unfold fv at b2 hS2
                  clear hu3 hu4
                  have m1 : (0 : Int) < (os.length : Int) + 1 := by omega
                  have m0 : (0 : Int) ≤ (0 : Int) := by omega
                  clear hS hS1 hpa hpg hpl
                  go_wp2_with fail
                  go_roundw
                  case rel => exact ⟨k + 1, _, by omega, by go_num, RR.last (by rw [HG.out, ← HX.out]; exact hS2) (by omega) hR3.pm hR3.st (by rw [HG.out, ← HX.out]; exact HZ.out) (fun j hj ha => HLO.out j hj ha) (fun p hp ha => HUP.out p hp ha)⟩
                  case measure => simp [intOf]; omega
            · obtain ⟨a, rfl⟩ : ∃ q, a = q + 1 := ⟨a - 1, by omega⟩
              have hao : a < os.length := by omega
              obtain ⟨gs, rfl⟩ := own_addr hR2.rs (by omega)
              have ca : w2.cell? ⟨gs, a, none⟩ = some (.float .f64 (gt0 ws os[a])) := by
                rw [hR2.rs.cellAt a (by omega), List.getElem?_map, List.getElem?_map, List.getElem?_eq_getElem hao]; rfl
              obtain ⟨y, hy⟩ : ∃ y, gt0 ws os[a] = y := ⟨_, rfl⟩
              rw [hy] at ca
              have hCa := HC os[a]
              rw [hy] at hCa
              have hy64 : lt64 y := by have := H64.out os[a]; rw [hy] at this; show y < _; omega
              have HY := Lib.hid hy
              have n0 : (0 : Int) ≤ (a : Int) := by omega
              have n1 : (a : Int) < (os.length : Int) := by omega
              have n2 : (a : Int) + 1 ≤ 100000 := by omega
              have ta : decide ((0 : Int) < (a : Int) + 1) = true := decide_eq_true (by omega)
              clear hy
              by_cases hyx : y < x
              · have tc : decide (cmpN (keyV y) (keyV x) < 0) = true := decide_eq_true (hCa.out.2 hyx)
                have HYX := Lib.hid hyx
                clear hyx hCa
                go_wp2_with fail
                refine (rcmp_any y x _ hy64 hx64).mono ?_
                rintro e w' ⟨rfl, rfl⟩
                go_wp2_with fail
                go_round
                case rel => exact ⟨a, by omega, by first | rfl | go_num, fun j hj hja => by
                  rcases Nat.lt_or_ge a j with g | g
                  · exact HLO.out j hj (by omega)
                  · obtain rfl : j = a := by omega
                    rw [HY.out, HG.out, ← HX.out]; exact HYX.out⟩
                case measure => simp [intOf]
              · have tc : decide (cmpN (keyV y) (keyV x) < 0) = false := decide_eq_false (fun e => hyx (hCa.out.1 e))
                have HUP := Lib.hid (show ∀ p, (hp : p < os.length) → a + 1 = p + 1 → gt0 ws k ≤ gt0 ws os[p] from fun p _ e => by
                  obtain rfl : p = a := by omega
                  rw [HY.out, HG.out, ← HX.out]; omega)
                clear hyx hCa
                go_wp2_with fail
                refine (rcmp_any y x _ hy64 hx64).mono ?_
                rintro e w' ⟨rfl, rfl⟩
                clear ca
                have hR3 := hR2
                have hro := hR3.ro
                have hrs := hR3.rs
                have hsz := hR3.bel.size
                go_wp2_with (first
                  | (at_builtin; refine wpList_app1L rfl (.tmp 54) (.tmp 55) 25 rfl w.heap.size 3 i0 (.int .i64 0) 8 Try.underlying25 hi hz0 hz1 hz2 rfl _ _ _ (by rfl) (by exact hro) (by exact hsz) (nv 0) (by rfl) (by rfl) (by omega) (by omega) ?_; intro vo' w3 hO3 hG3 hL3; have hrs3 := (hrs.alloc (.cells #[nv 0] 3)).kept hG3 (by have := hR3.dj; rcases this with g | g; exact .inl g.2; exact .inr (fun e => g e.symm)); have hsz3 : w.heap.size ≤ w3.heap.size := Nat.le_trans hsz (Nat.le_trans (by simp) hG3.size))
                  | (at_builtin; refine wpList_app1L rfl (.tmp 57) (.tmp 58) 73 rfl w.heap.size 31 f0 (.float .f64 0) 8 Try.underlying73 fi fz0 fz1 fz2 rfl _ _ _ (by rfl) (by exact hrs3) (by exact hsz3) (fv 0) (by rfl) (by rfl) (by omega) (by omega) ?_; intro vs' w4 hO4 hG4 hL4; obtain ⟨g1, d1, g2, d2, rfl, rfl, hSX⟩ := hR3.grow hO3 hG3 hL3 hO4 hG4 hL4))
                clear hro hrs hO3 hG3 hL3 hO4 hG4 hL4 hrs3 hsz hsz3 hR2
                go_loopw [11] (fun v wr2 => ∃ (p : Nat), a + 1 ≤ p ∧ p ≤ os.length ∧ v = .int .i64 p ∧ SX w wr2 g1 d1 g2 d2 (os.length + 1) (shift os p) (shift (os.map (gt0 ws)) p)) (fun v _ => (intOf v).toNat)
                case atStart => exact ⟨os.length, by omega, Nat.le_refl _, by first | rfl | go_num, hSX⟩
                case round =>
                  obtain ⟨p, hpa, hpl, rfl, hS⟩ := hrel
                  clear hSX
                  by_cases hpg : a + 1 < p
                  · obtain ⟨q, rfl⟩ : ∃ q, p = q + 1 := ⟨p - 1, by omega⟩
                    have hq : q < os.length := by omega
                    have a1 := hS.geto (j := q) (by omega)
                    rw [shift_get hq] at a1
                    have a2 := hS.geto (j := q + 1) (by omega)
                    have a3 := hS.ro.frozenAt (q + 1)
                    have hS1 := hS.seto (q + 1) (os.getD q 0)
                    have b1 := hS1.gets (j := q) (by omega)
                    rw [shift_get (by rw [List.length_map]; exact hq)] at b1
                    have b2 := hS1.gets (j := q + 1) (by omega)
                    have b3 := hS1.rs.frozenAt (q + 1)
                    have hS2 := hS1.sets (q + 1) ((os.map (gt0 ws)).getD q 0)
                    rw [shift_set hq, shift_set (by rw [List.length_map]; exact hq)] at hS2
                    obtain ⟨u1, hu1⟩ : ∃ u, os.getD q 0 = u := ⟨_, rfl⟩
                    obtain ⟨u2, hu2⟩ : ∃ u, (os.map (gt0 ws)).getD q 0 = u := ⟨_, rfl⟩
                    obtain ⟨u3, hu3⟩ : ∃ u, (shift os (q + 1)).getD (q + 1) 0 = u := ⟨_, rfl⟩
                    obtain ⟨u4, hu4⟩ : ∃ u, (shift (os.map (gt0 ws)) (q + 1)).getD (q + 1) 0 = u := ⟨_, rfl⟩
                    rw [hu1] at a1 b1 b2 b3 hS2
                    rw [hu2] at b1 hS2
                    rw [hu3] at a2
                    rw [hu4] at b2
                    unfold nv at a1 a2 b1 b2 b3 hS2
                    unfold fv at b1 b2 hS2
                    clear hu1 hu2 hu3 hu4
                    have m0 : (0 : Int) ≤ (q : Int) := by omega
                    have m1 : (q : Int) + 1 < (os.length : Int) + 1 := by omega
                    have m2 : (q : Int) < (os.length : Int) + 1 := by omega
                    have m3 : (q : Int) + 1 ≤ 100000 := by omega
                    have t0 : decide ((a : Int) < (q : Int)) = true := decide_eq_true (by omega)
                    have t00 : decide (a < q) = true := decide_eq_true (by omega)
                    have M1 : a + 1 ≤ q ∧ q ≤ os.length := by omega
                    have M1' := Lib.hid M1
                    clear hS hS1 hpa hpl hpg M1 ta tc
                    go_wp2_with fail
                    go_roundw
                    case rel => exact ⟨q, M1'.out.1, M1'.out.2, by first | rfl | go_num, hS2⟩
                    case measure => simp [intOf]
                  · obtain rfl : p = a + 1 := by omega
                    have a2 := hS.geto (j := a + 1) (by omega)
                    have a3 := hS.ro.frozenAt (a + 1)
                    have hS1 := hS.seto (a + 1) k
                    have b2 := hS1.gets (j := a + 1) (by omega)
                    have b3 := hS1.rs.frozenAt (a + 1)
                    have hS2 := hS1.sets (a + 1) x
                    rw [shift_put (by omega), shift_put (by rw [List.length_map]; omega)] at hS2
                    obtain ⟨u3, hu3⟩ : ∃ u, (shift os (a + 1)).getD (a + 1) 0 = u := ⟨_, rfl⟩
                    obtain ⟨u4, hu4⟩ : ∃ u, (shift (os.map (gt0 ws)) (a + 1)).getD (a + 1) 0 = u := ⟨_, rfl⟩
                    rw [hu3] at a2
                    rw [hu4] at b2
                    unfold nv at a2 b2 b3 hS2
                    unfold fv at b2 hS2
                    clear hu3 hu4
                    have m1 : ((a : Int) + 1) < (os.length : Int) + 1 := by omega
                    have m0 : (0 : Int) ≤ ((a : Int) + 1) := by omega
                    clear hS hS1 hpa hpg hpl
                    go_wp2_with fail
                    go_roundw
                    case rel => exact ⟨k + 1, _, by omega, by go_num, RR.last (by rw [HG.out, ← HX.out]; exact hS2) (by omega) hR3.pm hR3.st (by rw [HG.out, ← HX.out]; exact HZ.out) (fun j hj ha => HLO.out j hj ha) (fun p hp ha => HUP.out p hp ha)⟩
                    case measure => simp [intOf]; omega
    · obtain rfl : k = n := by omega
      obtain ⟨hwl, hwle⟩ := HWL.out
      have hpm := hR.pm
      rw [hwl] at hpm
      obtain rfl : os = rankV ws := rankV_one hpm hR.st
      obtain ⟨A2, c2, rfl⟩ := own_form hR.ro
      have hO := hR.ro
      have hB := hR.bel
      clear hpm hwl hwle hR
      go_wp2_with fail
      go_ret
      exact ⟨A2, c2, by first | rfl | simp, hO, hB⟩
end Go.Proofs.Ytchhnjadnacniaa.Rk
