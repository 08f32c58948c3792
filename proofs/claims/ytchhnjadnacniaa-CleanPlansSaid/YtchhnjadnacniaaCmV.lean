/- The contract of the reference's Zones. -/
import Derived.Test.YtchhnjadnacniaaCmT
import Derived.Test.YtchhnjadnacniaaCmN
namespace Go.Proofs.Ytchhnjadnacniaa.Cm
set_option linter.unusedSimpArgs false
set_option linter.unusedVariables false
open Go.RowKit Rk

set_option maxRecDepth 100000 in
set_option maxHeartbeats 4000000 in
theorem rzones_any (B xm N xn xc : Nat) (last : Int) (XA : Option Addr) (L : List XV) (g : Int → List Int) (A : Option Addr) (n c : Nat) (zs : List RoD) (size hz0 : Int) (w : World) (hX : RMx w B xm N last XA xn xc L) (hN : N ≤ 100000) (hLB : ∀ y, liveR hz0 (L.map XV.pr) y = liveB g hz0 y) (hz : IsZs w A n c zs) (hn : n ≤ 100000) (hxn : ∀ x ∈ zs, x.n ≤ 100000) :
    Calls Try.prog 27 #[.pointer (some ⟨xm, 0, none⟩), .slice A n c, .int .i64 size, .int .i64 hz0] w fun e w' => (∃ A' c', e = .returned (.slice A' n c') ∧ w'.ownsRow w.heap.size 29 3 (.slice A' n c') n (zcells (zs.map (zoneV g hz0 size)))) ∧ Below w.heap.size w w' := by
  have hl := hz.len
  obtain ⟨xi, xz, hxi, hxz, hx3, hx24, hxc⟩ := infoZs
  go_enter Try.func27, Try.ntmps27
  go_wp2_with fail
  go_loopw [9, 10] (fun v i wr => ∃ k : Nat, k ≤ n ∧ i = .int .i64 (k : Int) ∧ Below w.heap.size w wr ∧ wr.ownsRow w.heap.size 29 3 v ((zs.take k).map (zoneV g hz0 size)).length (zcells ((zs.take k).map (zoneV g hz0 size)))) (fun _ i _ => n - (intOf i).toNat)
  case atStart => exact ⟨0, Nat.zero_le _, rfl, Below.refl _ _, ⟨rfl, .inl ⟨rfl, rfl⟩⟩⟩
  case round =>
    obtain ⟨k, hk, rfl, hW, hO⟩ := hrel
    obtain ⟨wo, hwo⟩ : ∃ wo, wo = wr := ⟨_, rfl⟩
    subst hwo
    by_cases hlt : k < n
    · obtain ⟨x, hxk⟩ : ∃ x, zs[k]'(by omega) = x := ⟨_, rfl⟩
      obtain ⟨ad, rfl, had, c0⟩ := (hz.rd.next (Nat.le_refl _) hW).get (k := k) (by rw [List.length_map]; omega)
      rw [List.getElem_map, hxk] at c0
      unfold RoD.cell at c0
      have n0 : (k : Int) < (n : Int) := by omega
      have n1 : (0 : Int) ≤ (k : Int) := by omega
      have hxm : x ∈ zs := by rw [← hxk]; exact List.getElem_mem _
      have HX := Lib.hid (And.intro hxk (And.intro hW hO))
      have HAD := Lib.hid (show ad.block < wo.heap.size from Nat.lt_of_lt_of_le had hW.size)
      have HLEN := Lib.hid (show min k zs.length + 1 ≤ 1000000000 ∧ (min k zs.length + 1) * 24 ≤ 1000000000000 by omega)
      have hcs := (hz.rows x hxm).next hW
      have hxn' := hxn x hxm
      have HCS := Lib.hid (And.intro hcs hxn')
      have HXR := Lib.hid (show RMx wo B xm N last XA xn xc L from hX.keep fun b ob hb _ => (hW.block b (Array.getElem?_eq_some_iff.1 hb).1).trans hb)
      obtain ⟨wa, hwa⟩ : ∃ wa, wo.alloc (.cells #[.int .i64 0, .int .i64 0, .int .i64 0] 29) = wa := ⟨_, rfl⟩
      have hxa : Bk wa wo.heap.size 29 [.int .i64 0, .int .i64 0, .int .i64 0] := by rw [← hwa]; exact Bk.new wo _ _
      have hba : Below wo.heap.size wo wa := by rw [← hwa]; exact (Below.refl _ _).alloc (Nat.le_refl _) _
      have p0 := hxa.cell (i := 0) (by simp)
      have p1 := hxa.cell (i := 1) (by simp)
      have p2 := hxa.cell (i := 2) (by simp)
      have q0 := hxa.free 0
      have q1 := hxa.free 1
      have q2 := hxa.free 2
      simp only [List.getElem_cons_zero, List.getElem_cons_succ] at p0 p1 p2
      obtain ⟨w1, hw1⟩ : ∃ w1, ((wa.setCell ⟨wo.heap.size, 0, none⟩ (.int .i64 0)).setCell ⟨wo.heap.size, 1, none⟩ (.int .i64 0)).setCell ⟨wo.heap.size, 2, none⟩ (.int .i64 0) = w1 := ⟨_, rfl⟩
      have hx1 : Bk w1 wo.heap.size 29 [.int .i64 0, .int .i64 0, .int .i64 0] := by rw [← hw1]; exact ((hxa.set 0 _).set 1 _).set 2 _
      have hb1 : Below wo.heap.size wo w1 := by rw [← hw1]; exact ((hba.setCell (p := ⟨wo.heap.size, 0, none⟩) (Nat.le_refl _) _).setCell (p := ⟨wo.heap.size, 1, none⟩) (Nat.le_refl _) _).setCell (p := ⟨wo.heap.size, 2, none⟩) (Nat.le_refl _) _
      have H1 := Lib.hid (And.intro hb1 hx1)
      clear hxk hxm hW hO had hcs hxn' hx1 hb1 hxa hba
      go_wp2_with fail
      go_loopw [12] (fun i wr => ∃ j : Nat, j ≤ x.n ∧ i = .int .i64 (j : Int) ∧ Below wo.heap.size wo wr ∧ Bk wr wo.heap.size 29 [.int .i64 ((liveL g hz0 (x.cs.take j)).length : Int), .int .i64 0, .int .i64 (newT (x.cs.take j))]) (fun i _ => x.n - (intOf i).toNat)
      case atStart => exact ⟨0, Nat.zero_le _, rfl, H1.out.1, H1.out.2⟩
      case round =>
        obtain ⟨j, hj, rfl, hI, hB⟩ := hrel
        obtain ⟨cn, hcn⟩ : ∃ cn, (liveL g hz0 (x.cs.take j)).length = cn := ⟨_, rfl⟩
        obtain ⟨tn, htn⟩ : ∃ tn, newT (x.cs.take j) = tn := ⟨_, rfl⟩
        rw [hcn, htn] at hB
        have HC := Lib.hid hcn
        have HT := Lib.hid htn
        have HCB := Lib.hid (show cn ≤ 100000 by have := liveL_len g hz0 (x.cs.take j); rw [List.length_take] at this; have := HCS.out.2; have := HCS.out.1.len; omega)
        clear hcn htn
        have c1 := (hI.cell (p := ad.add k) (by rw [add_block]; exact HAD.out)).trans c0
        by_cases hjl : j < x.n
        · obtain ⟨y, hyk⟩ : ∃ y, x.cs[j]'(by have := HCS.out.1.len; omega) = y := ⟨_, rfl⟩
          obtain ⟨ac, ea, hac, y0, y1⟩ := two_get cp_two HCS.out.1.rd (k := j) (by have := HCS.out.1.len; omega) (u := .int .i64 y.lba) (v := .int .i64 y.t) (by rw [hyk]; rfl)
          rw [ea] at c0 c1
          have z1 := (hI.cell (p := ac.add (j * 2)) (by rw [add_block]; exact hac)).trans y0
          have z2 := (hI.cell (p := ⟨(ac.add (j * 2)).block, _, none⟩) (by show (ac.add (j * 2)).block < _; rw [add_block]; exact hac)).trans y1
          have m0 : (j : Int) < (x.n : Int) := by omega
          have m1 : (0 : Int) ≤ (j : Int) := by omega
          have wj : wrap64 ((cn : Int) + 1) = (cn : Int) + 1 := by have := HCB.out; unfold wrap64; omega
          have W3 := Lib.hid (show wrap64 ((j : Int) + 1) = (j : Int) + 1 by have := HCS.out.2; unfold wrap64; omega)
          have wj2 : IntKind.i64.wrap ((cn : Int) + 1) = (cn : Int) + 1 := IntWalk.i64_in _ (by have := HCB.out; omega)
          have HY := Lib.hid (And.intro hyk (And.intro trivial (And.intro hac hI)))
          have HXI := Lib.hid (show RMx wr B xm N last XA xn xc L from HXR.out.keep fun b ob hb _ => (hI.block b (Array.getElem?_eq_some_iff.1 hb).1).trans hb)
          have HB := Lib.hid hB
          clear hyk hac hI hB
          go_wp2_with fail
          refine (rlive_any B xm N xn xc last XA L y hz0 wr HXI.out hN).mono ?_
          rintro e w5 ⟨rfl, hb5⟩
          rw [hLB y]
          have hB5 := HB.out.next hb5 HB.out.lt
          have hI5 := HY.out.2.2.2.trans (hb5.mono HY.out.2.2.2.size)
          clear hb5
          cases hlv : liveB g hz0 y
          · have HN := Lib.hid (liveL_no (by have := HCS.out.1.len; omega) HY.out.1 hlv)
            obtain ⟨w6, hw6⟩ : ∃ w6, w6 = w5 := ⟨_, rfl⟩
            subst hw6
            have hB6 : Bk w6 wo.heap.size 29 [.int .i64 (cn : Int), .int .i64 0, .int .i64 tn] := hB5
            have hI6 : Below wo.heap.size wo w6 := hI5
            have e0 := (hI6.cell (p := ad.add k) (by rw [add_block]; exact HAD.out)).trans c0
            have e1 := (hI6.cell (p := ac.add (j * 2)) (by rw [add_block]; exact HY.out.2.2.1)).trans y0
            have e2 := (hI6.cell (p := ⟨(ac.add (j * 2)).block, _, none⟩) (by show (ac.add (j * 2)).block < _; rw [add_block]; exact HY.out.2.2.1)).trans y1
            have f2 := hB6.cell (i := 2) (by simp)
            have fr2 := hB6.free 2
            simp only [List.getElem_cons_zero, List.getElem_cons_succ] at f2
            have HW6 := Lib.hid (And.intro hB6 hI6)
            clear hlv hB5 hI5 hB6 hI6
            by_cases hj0' : j = 0
            · have hj0 := Lib.hid hj0'
              have t0 : decide ((j : Int) = 0) = true := decide_eq_true (by omega)
              have t0' : ((j : Int) == 0) = true := by rw [beq_iff_eq]; omega
              clear hj0'
              · have HV := Lib.hid (show newT (x.cs.take (j + 1)) = y.t by rw [newT_step (by have := HCS.out.1.len; omega) HY.out.1, if_pos (.inl hj0.out)])
                go_wp2_with fail
                refine wp_region_held_drew (S := Drawn w6) (by kernel_rfl) (by first | exact Drawn.of _ _ | exact Drawn.one _) (fun hHeld => ?_)
                refine wpAnyH_take (i := 0) (v := ?v1_0) (by simp only [List.getElem?_toArray, List.getElem?_cons_succ, List.getElem?_cons_zero]; rfl) (by kernel_rfl) (by kernel_rfl) (by kernel_rfl) (by exact fun _ _ _ h => h) (Or.inl ⟨by rfl, ?h1_0⟩) hHeld ?_
                case h1_0 => (intro w' hSw; obtain ⟨m, rfl⟩ := hSw; go_simp <;> with_reducible rfl)
                try simp only [Act.put, List.setIfInBounds_toArray, List.set_cons_zero, List.set_cons_succ]
                refine wpAnyH_take (i := 1) (v := ?v2_1) (by simp only [List.getElem?_toArray, List.getElem?_cons_succ, List.getElem?_cons_zero]; rfl) (by kernel_rfl) (by kernel_rfl) (by kernel_rfl) (by exact fun _ _ _ h => h) (Or.inl ⟨by rfl, ?h2_1⟩) hHeld ?_
                case h2_1 => (intro w' hSw; obtain ⟨m, rfl⟩ := hSw; go_simp <;> with_reducible rfl)
                try simp only [Act.put, List.setIfInBounds_toArray, List.set_cons_zero, List.set_cons_succ]
                refine wpAnyH_take (i := 2) (v := ?v3_2) (by simp only [List.getElem?_toArray, List.getElem?_cons_succ, List.getElem?_cons_zero]; rfl) (by kernel_rfl) (by kernel_rfl) (by kernel_rfl) (by exact fun _ _ _ h => h) (Or.inl ⟨by rfl, ?h3_2⟩) hHeld ?_
                case h3_2 => (intro w' hSw; obtain ⟨m, rfl⟩ := hSw; go_simp <;> with_reducible rfl)
                try simp only [Act.put, List.setIfInBounds_toArray, List.set_cons_zero, List.set_cons_succ]
                refine wpAnyH_take (i := 3) (v := undef) (by simp only [List.getElem?_toArray, List.getElem?_cons_succ, List.getElem?_cons_zero]; rfl) (by kernel_rfl) (by kernel_rfl) (by kernel_rfl) (by exact fun _ _ _ h => h) (Or.inr ⟨by rfl, rfl⟩) hHeld ?_
                try simp only [Act.put, List.setIfInBounds_toArray, List.set_cons_zero, List.set_cons_succ]
                refine wpAnyH_take (i := 4) (v := undef) (by simp only [List.getElem?_toArray, List.getElem?_cons_succ, List.getElem?_cons_zero]; rfl) (by kernel_rfl) (by kernel_rfl) (by kernel_rfl) (by exact fun _ _ _ h => h) (Or.inr ⟨by rfl, rfl⟩) hHeld ?_
                try simp only [Act.put, List.setIfInBounds_toArray, List.set_cons_zero, List.set_cons_succ]
                refine wpAnyH_take (i := 5) (v := undef) (by simp only [List.getElem?_toArray, List.getElem?_cons_succ, List.getElem?_cons_zero]; rfl) (by kernel_rfl) (by kernel_rfl) (by kernel_rfl) (by exact fun _ _ _ h => h) (Or.inr ⟨by rfl, rfl⟩) hHeld ?_
                try simp only [Act.put, List.setIfInBounds_toArray, List.set_cons_zero, List.set_cons_succ]
                refine wpAnyH_take (i := 6) (v := undef) (by simp only [List.getElem?_toArray, List.getElem?_cons_succ, List.getElem?_cons_zero]; rfl) (by kernel_rfl) (by kernel_rfl) (by kernel_rfl) (by exact fun _ _ _ h => h) (Or.inr ⟨by rfl, rfl⟩) hHeld ?_
                try simp only [Act.put, List.setIfInBounds_toArray, List.set_cons_zero, List.set_cons_succ]
                refine wpAnyH_take (i := 7) (v := undef) (by simp only [List.getElem?_toArray, List.getElem?_cons_succ, List.getElem?_cons_zero]; rfl) (by kernel_rfl) (by kernel_rfl) (by kernel_rfl) (by exact fun _ _ _ h => h) (Or.inr ⟨by rfl, rfl⟩) hHeld ?_
                try simp only [Act.put, List.setIfInBounds_toArray, List.set_cons_zero, List.set_cons_succ]
                refine wpAnyH_take (i := 8) (v := undef) (by simp only [List.getElem?_toArray, List.getElem?_cons_succ, List.getElem?_cons_zero]; rfl) (by kernel_rfl) (by kernel_rfl) (by kernel_rfl) (by exact fun _ _ _ h => h) (Or.inr ⟨by rfl, rfl⟩) hHeld ?_
                try simp only [Act.put, List.setIfInBounds_toArray, List.set_cons_zero, List.set_cons_succ]
                refine wpAnyH_take (i := 9) (v := undef) (by simp only [List.getElem?_toArray, List.getElem?_cons_succ, List.getElem?_cons_zero]; rfl) (by kernel_rfl) (by kernel_rfl) (by kernel_rfl) (by exact fun _ _ _ h => h) (Or.inr ⟨by rfl, rfl⟩) hHeld ?_
                try simp only [Act.put, List.setIfInBounds_toArray, List.set_cons_zero, List.set_cons_succ]
                refine wpAnyH_take (i := 10) (v := undef) (by simp only [List.getElem?_toArray, List.getElem?_cons_succ, List.getElem?_cons_zero]; rfl) (by kernel_rfl) (by kernel_rfl) (by kernel_rfl) (by exact fun _ _ _ h => h) (Or.inr ⟨by rfl, rfl⟩) hHeld ?_
                try simp only [Act.put, List.setIfInBounds_toArray, List.set_cons_zero, List.set_cons_succ]
                refine wpAnyH_take (i := 11) (v := undef) (by simp only [List.getElem?_toArray, List.getElem?_cons_succ, List.getElem?_cons_zero]; rfl) (by kernel_rfl) (by kernel_rfl) (by kernel_rfl) (by exact fun _ _ _ h => h) (Or.inr ⟨by rfl, rfl⟩) hHeld ?_
                try simp only [Act.put, List.setIfInBounds_toArray, List.set_cons_zero, List.set_cons_succ]
                refine wpAnyH_take (i := 12) (v := undef) (by simp only [List.getElem?_toArray, List.getElem?_cons_succ, List.getElem?_cons_zero]; rfl) (by kernel_rfl) (by kernel_rfl) (by kernel_rfl) (by exact fun _ _ _ h => h) (Or.inr ⟨by rfl, rfl⟩) hHeld ?_
                try simp only [Act.put, List.setIfInBounds_toArray, List.set_cons_zero, List.set_cons_succ]
                refine wpAnyH_take (i := 13) (v := undef) (by simp only [List.getElem?_toArray, List.getElem?_cons_succ, List.getElem?_cons_zero]; rfl) (by kernel_rfl) (by kernel_rfl) (by kernel_rfl) (by exact fun _ _ _ h => h) (Or.inr ⟨by rfl, rfl⟩) hHeld ?_
                try simp only [Act.put, List.setIfInBounds_toArray, List.set_cons_zero, List.set_cons_succ]
                refine wpAnyH_take (i := 14) (v := ?v4_14) (by simp only [List.getElem?_toArray, List.getElem?_cons_succ, List.getElem?_cons_zero]; rfl) (by kernel_rfl) (by kernel_rfl) (by kernel_rfl) (by exact fun _ _ _ h => h) (Or.inl ⟨by rfl, ?h4_14⟩) hHeld ?_
                case h4_14 => (intro w' hSw; obtain ⟨m, rfl⟩ := hSw; go_simp <;> with_reducible rfl)
                try simp only [Act.put, List.setIfInBounds_toArray, List.set_cons_zero, List.set_cons_succ]
                refine wpAnyH_done (by kernel_rfl) ?_ _
                have hx7 : Bk ((w6.setCell ⟨wo.heap.size, 2, none⟩ (.int .i64 y.t)).drew) wo.heap.size 29 [.int .i64 (cn : Int), .int .i64 0, .int .i64 y.t] := by
                  have h := HW6.out.1.set 2 (.int .i64 y.t)
                  exact h.next (bdrew (Below.refl _ _)) h.lt
                have hb7 : Below wo.heap.size wo ((w6.setCell ⟨wo.heap.size, 2, none⟩ (.int .i64 y.t)).drew) := bdrew (HW6.out.2.setCell (p := ⟨wo.heap.size, 2, none⟩) (Nat.le_refl _) _)
                go_wp2_with fail
                go_roundw
                case rel => exact ⟨j + 1, hjl, by first | (rw [W3.out]; rfl) | go_num, hb7, by
                  have e : ((liveL g hz0 (x.cs.take (j + 1))).length : Int) = (cn : Int) := by rw [HN.out, HC.out]
                  rw [e, HV.out]; exact hx7⟩
                case measure => first | exact meas hjl | (rw [W3.out]; exact meas hjl)
            · have t0 : decide ((j : Int) = 0) = false := decide_eq_false (by omega)
              have t0' : ((j : Int) == 0) = false := by rw [beq_eq_false_iff_ne]; omega
              by_cases hgt' : tn < y.t
              · have t1 : decide (tn < y.t) = true := decide_eq_true hgt'
                have hgt := Lib.hid hgt'
                clear hgt'
                have HV := Lib.hid (show newT (x.cs.take (j + 1)) = y.t by rw [newT_step (by have := HCS.out.1.len; omega) HY.out.1, if_pos (.inr (by rw [HT.out]; exact hgt.out))])
                go_wp2_with fail
                refine wp_region_held_drew (S := Drawn w6) (by kernel_rfl) (by first | exact Drawn.of _ _ | exact Drawn.one _) (fun hHeld => ?_)
                refine wpAnyH_take (i := 0) (v := ?v5_0) (by simp only [List.getElem?_toArray, List.getElem?_cons_succ, List.getElem?_cons_zero]; rfl) (by kernel_rfl) (by kernel_rfl) (by kernel_rfl) (by exact fun _ _ _ h => h) (Or.inl ⟨by rfl, ?h5_0⟩) hHeld ?_
                case h5_0 => (intro w' hSw; obtain ⟨m, rfl⟩ := hSw; go_simp <;> with_reducible rfl)
                try simp only [Act.put, List.setIfInBounds_toArray, List.set_cons_zero, List.set_cons_succ]
                refine wpAnyH_take (i := 1) (v := ?v6_1) (by simp only [List.getElem?_toArray, List.getElem?_cons_succ, List.getElem?_cons_zero]; rfl) (by kernel_rfl) (by kernel_rfl) (by kernel_rfl) (by exact fun _ _ _ h => h) (Or.inl ⟨by rfl, ?h6_1⟩) hHeld ?_
                case h6_1 => (intro w' hSw; obtain ⟨m, rfl⟩ := hSw; go_simp <;> with_reducible rfl)
                try simp only [Act.put, List.setIfInBounds_toArray, List.set_cons_zero, List.set_cons_succ]
                refine wpAnyH_take (i := 2) (v := ?v7_2) (by simp only [List.getElem?_toArray, List.getElem?_cons_succ, List.getElem?_cons_zero]; rfl) (by kernel_rfl) (by kernel_rfl) (by kernel_rfl) (by exact fun _ _ _ h => h) (Or.inl ⟨by rfl, ?h7_2⟩) hHeld ?_
                case h7_2 => (intro w' hSw; obtain ⟨m, rfl⟩ := hSw; go_simp <;> with_reducible rfl)
                try simp only [Act.put, List.setIfInBounds_toArray, List.set_cons_zero, List.set_cons_succ]
                refine wpAnyH_take (i := 3) (v := ?v8_3) (by simp only [List.getElem?_toArray, List.getElem?_cons_succ, List.getElem?_cons_zero]; rfl) (by kernel_rfl) (by kernel_rfl) (by kernel_rfl) (by exact fun _ _ _ h => h) (Or.inl ⟨by rfl, ?h8_3⟩) hHeld ?_
                case h8_3 => (intro w' hSw; obtain ⟨m, rfl⟩ := hSw; go_simp <;> with_reducible rfl)
                try simp only [Act.put, List.setIfInBounds_toArray, List.set_cons_zero, List.set_cons_succ]
                refine wpAnyH_take (i := 4) (v := ?v9_4) (by simp only [List.getElem?_toArray, List.getElem?_cons_succ, List.getElem?_cons_zero]; rfl) (by kernel_rfl) (by kernel_rfl) (by kernel_rfl) (by exact fun _ _ _ h => h) (Or.inl ⟨by rfl, ?h9_4⟩) hHeld ?_
                case h9_4 => (intro w' hSw; obtain ⟨m, rfl⟩ := hSw; go_simp <;> with_reducible rfl)
                try simp only [Act.put, List.setIfInBounds_toArray, List.set_cons_zero, List.set_cons_succ]
                refine wpAnyH_take (i := 5) (v := ?v10_5) (by simp only [List.getElem?_toArray, List.getElem?_cons_succ, List.getElem?_cons_zero]; rfl) (by kernel_rfl) (by kernel_rfl) (by kernel_rfl) (by exact fun _ _ _ h => h) (Or.inl ⟨by rfl, ?h10_5⟩) hHeld ?_
                case h10_5 => (intro w' hSw; obtain ⟨m, rfl⟩ := hSw; go_simp <;> with_reducible rfl)
                try simp only [Act.put, List.setIfInBounds_toArray, List.set_cons_zero, List.set_cons_succ]
                refine wpAnyH_take (i := 6) (v := ?v11_6) (by simp only [List.getElem?_toArray, List.getElem?_cons_succ, List.getElem?_cons_zero]; rfl) (by kernel_rfl) (by kernel_rfl) (by kernel_rfl) (by exact fun _ _ _ h => h) (Or.inl ⟨by rfl, ?h11_6⟩) hHeld ?_
                case h11_6 => (intro w' hSw; obtain ⟨m, rfl⟩ := hSw; go_simp <;> with_reducible rfl)
                try simp only [Act.put, List.setIfInBounds_toArray, List.set_cons_zero, List.set_cons_succ]
                refine wpAnyH_take (i := 7) (v := ?v12_7) (by simp only [List.getElem?_toArray, List.getElem?_cons_succ, List.getElem?_cons_zero]; rfl) (by kernel_rfl) (by kernel_rfl) (by kernel_rfl) (by exact fun _ _ _ h => h) (Or.inl ⟨by rfl, ?h12_7⟩) hHeld ?_
                case h12_7 => (intro w' hSw; obtain ⟨m, rfl⟩ := hSw; go_simp <;> with_reducible rfl)
                try simp only [Act.put, List.setIfInBounds_toArray, List.set_cons_zero, List.set_cons_succ]
                refine wpAnyH_take (i := 8) (v := ?v13_8) (by simp only [List.getElem?_toArray, List.getElem?_cons_succ, List.getElem?_cons_zero]; rfl) (by kernel_rfl) (by kernel_rfl) (by kernel_rfl) (by exact fun _ _ _ h => h) (Or.inl ⟨by rfl, ?h13_8⟩) hHeld ?_
                case h13_8 => (intro w' hSw; obtain ⟨m, rfl⟩ := hSw; go_simp <;> with_reducible rfl)
                try simp only [Act.put, List.setIfInBounds_toArray, List.set_cons_zero, List.set_cons_succ]
                refine wpAnyH_take (i := 9) (v := ?v14_9) (by simp only [List.getElem?_toArray, List.getElem?_cons_succ, List.getElem?_cons_zero]; rfl) (by kernel_rfl) (by kernel_rfl) (by kernel_rfl) (by exact fun _ _ _ h => h) (Or.inl ⟨by rfl, ?h14_9⟩) hHeld ?_
                case h14_9 => (intro w' hSw; obtain ⟨m, rfl⟩ := hSw; go_simp <;> with_reducible rfl)
                try simp only [Act.put, List.setIfInBounds_toArray, List.set_cons_zero, List.set_cons_succ]
                refine wpAnyH_take (i := 10) (v := ?v15_10) (by simp only [List.getElem?_toArray, List.getElem?_cons_succ, List.getElem?_cons_zero]; rfl) (by kernel_rfl) (by kernel_rfl) (by kernel_rfl) (by exact fun _ _ _ h => h) (Or.inl ⟨by rfl, ?h15_10⟩) hHeld ?_
                case h15_10 => (intro w' hSw; obtain ⟨m, rfl⟩ := hSw; go_simp <;> with_reducible rfl)
                try simp only [Act.put, List.setIfInBounds_toArray, List.set_cons_zero, List.set_cons_succ]
                refine wpAnyH_take (i := 11) (v := ?v16_11) (by simp only [List.getElem?_toArray, List.getElem?_cons_succ, List.getElem?_cons_zero]; rfl) (by kernel_rfl) (by kernel_rfl) (by kernel_rfl) (by exact fun _ _ _ h => h) (Or.inl ⟨by rfl, ?h16_11⟩) hHeld ?_
                case h16_11 => (intro w' hSw; obtain ⟨m, rfl⟩ := hSw; go_simp <;> with_reducible rfl)
                try simp only [Act.put, List.setIfInBounds_toArray, List.set_cons_zero, List.set_cons_succ]
                refine wpAnyH_take (i := 12) (v := ?v17_12) (by simp only [List.getElem?_toArray, List.getElem?_cons_succ, List.getElem?_cons_zero]; rfl) (by kernel_rfl) (by kernel_rfl) (by kernel_rfl) (by exact fun _ _ _ h => h) (Or.inl ⟨by rfl, ?h17_12⟩) hHeld ?_
                case h17_12 => (intro w' hSw; obtain ⟨m, rfl⟩ := hSw; go_simp <;> with_reducible rfl)
                try simp only [Act.put, List.setIfInBounds_toArray, List.set_cons_zero, List.set_cons_succ]
                refine wpAnyH_take (i := 13) (v := ?v18_13) (by simp only [List.getElem?_toArray, List.getElem?_cons_succ, List.getElem?_cons_zero]; rfl) (by kernel_rfl) (by kernel_rfl) (by kernel_rfl) (by exact fun _ _ _ h => h) (Or.inl ⟨by rfl, ?h18_13⟩) hHeld ?_
                case h18_13 => (intro w' hSw; obtain ⟨m, rfl⟩ := hSw; go_simp <;> with_reducible rfl)
                try simp only [Act.put, List.setIfInBounds_toArray, List.set_cons_zero, List.set_cons_succ]
                refine wpAnyH_take (i := 14) (v := ?v19_14) (by simp only [List.getElem?_toArray, List.getElem?_cons_succ, List.getElem?_cons_zero]; rfl) (by kernel_rfl) (by kernel_rfl) (by kernel_rfl) (by exact fun _ _ _ h => h) (Or.inl ⟨by rfl, ?h19_14⟩) hHeld ?_
                case h19_14 => (intro w' hSw; obtain ⟨m, rfl⟩ := hSw; go_simp <;> with_reducible rfl)
                try simp only [Act.put, List.setIfInBounds_toArray, List.set_cons_zero, List.set_cons_succ]
                refine wpAnyH_done (by kernel_rfl) ?_ _
                have hx7 : Bk ((w6.setCell ⟨wo.heap.size, 2, none⟩ (.int .i64 y.t)).drew) wo.heap.size 29 [.int .i64 (cn : Int), .int .i64 0, .int .i64 y.t] := by
                  have h := HW6.out.1.set 2 (.int .i64 y.t)
                  exact h.next (bdrew (Below.refl _ _)) h.lt
                have hb7 : Below wo.heap.size wo ((w6.setCell ⟨wo.heap.size, 2, none⟩ (.int .i64 y.t)).drew) := bdrew (HW6.out.2.setCell (p := ⟨wo.heap.size, 2, none⟩) (Nat.le_refl _) _)
                go_wp2_with fail
                go_roundw
                case rel => exact ⟨j + 1, hjl, by first | (rw [W3.out]; rfl) | go_num, hb7, by
                  have e : ((liveL g hz0 (x.cs.take (j + 1))).length : Int) = (cn : Int) := by rw [HN.out, HC.out]
                  rw [e, HV.out]; exact hx7⟩
                case measure => first | exact meas hjl | (rw [W3.out]; exact meas hjl)
              · have t1 : decide (tn < y.t) = false := decide_eq_false hgt'
                have hgt := Lib.hid (show ¬ (j = 0 ∨ tn < y.t) from fun h => by rcases h with h | h; exact hj0' h; exact hgt' h)
                clear hgt'
                have HV := Lib.hid (show newT (x.cs.take (j + 1)) = tn by rw [newT_step (by have := HCS.out.1.len; omega) HY.out.1, if_neg (by rw [HT.out]; exact hgt.out)]; exact HT.out)
                go_wp2_with fail
                refine wp_region_held_drew (S := Drawn w6) (by kernel_rfl) (by first | exact Drawn.of _ _ | exact Drawn.one _) (fun hHeld => ?_)
                refine wpAnyH_take (i := 0) (v := ?v20_0) (by simp only [List.getElem?_toArray, List.getElem?_cons_succ, List.getElem?_cons_zero]; rfl) (by kernel_rfl) (by kernel_rfl) (by kernel_rfl) (by exact fun _ _ _ h => h) (Or.inl ⟨by rfl, ?h20_0⟩) hHeld ?_
                case h20_0 => (intro w' hSw; obtain ⟨m, rfl⟩ := hSw; go_simp <;> with_reducible rfl)
                try simp only [Act.put, List.setIfInBounds_toArray, List.set_cons_zero, List.set_cons_succ]
                refine wpAnyH_take (i := 1) (v := ?v21_1) (by simp only [List.getElem?_toArray, List.getElem?_cons_succ, List.getElem?_cons_zero]; rfl) (by kernel_rfl) (by kernel_rfl) (by kernel_rfl) (by exact fun _ _ _ h => h) (Or.inl ⟨by rfl, ?h21_1⟩) hHeld ?_
                case h21_1 => (intro w' hSw; obtain ⟨m, rfl⟩ := hSw; go_simp <;> with_reducible rfl)
                try simp only [Act.put, List.setIfInBounds_toArray, List.set_cons_zero, List.set_cons_succ]
                refine wpAnyH_take (i := 2) (v := ?v22_2) (by simp only [List.getElem?_toArray, List.getElem?_cons_succ, List.getElem?_cons_zero]; rfl) (by kernel_rfl) (by kernel_rfl) (by kernel_rfl) (by exact fun _ _ _ h => h) (Or.inl ⟨by rfl, ?h22_2⟩) hHeld ?_
                case h22_2 => (intro w' hSw; obtain ⟨m, rfl⟩ := hSw; go_simp <;> with_reducible rfl)
                try simp only [Act.put, List.setIfInBounds_toArray, List.set_cons_zero, List.set_cons_succ]
                refine wpAnyH_take (i := 3) (v := ?v23_3) (by simp only [List.getElem?_toArray, List.getElem?_cons_succ, List.getElem?_cons_zero]; rfl) (by kernel_rfl) (by kernel_rfl) (by kernel_rfl) (by exact fun _ _ _ h => h) (Or.inl ⟨by rfl, ?h23_3⟩) hHeld ?_
                case h23_3 => (intro w' hSw; obtain ⟨m, rfl⟩ := hSw; go_simp <;> with_reducible rfl)
                try simp only [Act.put, List.setIfInBounds_toArray, List.set_cons_zero, List.set_cons_succ]
                refine wpAnyH_take (i := 4) (v := ?v24_4) (by simp only [List.getElem?_toArray, List.getElem?_cons_succ, List.getElem?_cons_zero]; rfl) (by kernel_rfl) (by kernel_rfl) (by kernel_rfl) (by exact fun _ _ _ h => h) (Or.inl ⟨by rfl, ?h24_4⟩) hHeld ?_
                case h24_4 => (intro w' hSw; obtain ⟨m, rfl⟩ := hSw; go_simp <;> with_reducible rfl)
                try simp only [Act.put, List.setIfInBounds_toArray, List.set_cons_zero, List.set_cons_succ]
                refine wpAnyH_take (i := 5) (v := ?v25_5) (by simp only [List.getElem?_toArray, List.getElem?_cons_succ, List.getElem?_cons_zero]; rfl) (by kernel_rfl) (by kernel_rfl) (by kernel_rfl) (by exact fun _ _ _ h => h) (Or.inl ⟨by rfl, ?h25_5⟩) hHeld ?_
                case h25_5 => (intro w' hSw; obtain ⟨m, rfl⟩ := hSw; go_simp <;> with_reducible rfl)
                try simp only [Act.put, List.setIfInBounds_toArray, List.set_cons_zero, List.set_cons_succ]
                refine wpAnyH_take (i := 6) (v := ?v26_6) (by simp only [List.getElem?_toArray, List.getElem?_cons_succ, List.getElem?_cons_zero]; rfl) (by kernel_rfl) (by kernel_rfl) (by kernel_rfl) (by exact fun _ _ _ h => h) (Or.inl ⟨by rfl, ?h26_6⟩) hHeld ?_
                case h26_6 => (intro w' hSw; obtain ⟨m, rfl⟩ := hSw; go_simp <;> with_reducible rfl)
                try simp only [Act.put, List.setIfInBounds_toArray, List.set_cons_zero, List.set_cons_succ]
                refine wpAnyH_take (i := 7) (v := ?v27_7) (by simp only [List.getElem?_toArray, List.getElem?_cons_succ, List.getElem?_cons_zero]; rfl) (by kernel_rfl) (by kernel_rfl) (by kernel_rfl) (by exact fun _ _ _ h => h) (Or.inl ⟨by rfl, ?h27_7⟩) hHeld ?_
                case h27_7 => (intro w' hSw; obtain ⟨m, rfl⟩ := hSw; go_simp <;> with_reducible rfl)
                try simp only [Act.put, List.setIfInBounds_toArray, List.set_cons_zero, List.set_cons_succ]
                refine wpAnyH_take (i := 8) (v := ?v28_8) (by simp only [List.getElem?_toArray, List.getElem?_cons_succ, List.getElem?_cons_zero]; rfl) (by kernel_rfl) (by kernel_rfl) (by kernel_rfl) (by exact fun _ _ _ h => h) (Or.inl ⟨by rfl, ?h28_8⟩) hHeld ?_
                case h28_8 => (intro w' hSw; obtain ⟨m, rfl⟩ := hSw; go_simp <;> with_reducible rfl)
                try simp only [Act.put, List.setIfInBounds_toArray, List.set_cons_zero, List.set_cons_succ]
                refine wpAnyH_take (i := 9) (v := ?v29_9) (by simp only [List.getElem?_toArray, List.getElem?_cons_succ, List.getElem?_cons_zero]; rfl) (by kernel_rfl) (by kernel_rfl) (by kernel_rfl) (by exact fun _ _ _ h => h) (Or.inl ⟨by rfl, ?h29_9⟩) hHeld ?_
                case h29_9 => (intro w' hSw; obtain ⟨m, rfl⟩ := hSw; go_simp <;> with_reducible rfl)
                try simp only [Act.put, List.setIfInBounds_toArray, List.set_cons_zero, List.set_cons_succ]
                refine wpAnyH_take (i := 10) (v := ?v30_10) (by simp only [List.getElem?_toArray, List.getElem?_cons_succ, List.getElem?_cons_zero]; rfl) (by kernel_rfl) (by kernel_rfl) (by kernel_rfl) (by exact fun _ _ _ h => h) (Or.inl ⟨by rfl, ?h30_10⟩) hHeld ?_
                case h30_10 => (intro w' hSw; obtain ⟨m, rfl⟩ := hSw; go_simp <;> with_reducible rfl)
                try simp only [Act.put, List.setIfInBounds_toArray, List.set_cons_zero, List.set_cons_succ]
                refine wpAnyH_take (i := 11) (v := ?v31_11) (by simp only [List.getElem?_toArray, List.getElem?_cons_succ, List.getElem?_cons_zero]; rfl) (by kernel_rfl) (by kernel_rfl) (by kernel_rfl) (by exact fun _ _ _ h => h) (Or.inl ⟨by rfl, ?h31_11⟩) hHeld ?_
                case h31_11 => (intro w' hSw; obtain ⟨m, rfl⟩ := hSw; go_simp <;> with_reducible rfl)
                try simp only [Act.put, List.setIfInBounds_toArray, List.set_cons_zero, List.set_cons_succ]
                refine wpAnyH_take (i := 12) (v := ?v32_12) (by simp only [List.getElem?_toArray, List.getElem?_cons_succ, List.getElem?_cons_zero]; rfl) (by kernel_rfl) (by kernel_rfl) (by kernel_rfl) (by exact fun _ _ _ h => h) (Or.inl ⟨by rfl, ?h32_12⟩) hHeld ?_
                case h32_12 => (intro w' hSw; obtain ⟨m, rfl⟩ := hSw; go_simp <;> with_reducible rfl)
                try simp only [Act.put, List.setIfInBounds_toArray, List.set_cons_zero, List.set_cons_succ]
                refine wpAnyH_take (i := 13) (v := ?v33_13) (by simp only [List.getElem?_toArray, List.getElem?_cons_succ, List.getElem?_cons_zero]; rfl) (by kernel_rfl) (by kernel_rfl) (by kernel_rfl) (by exact fun _ _ _ h => h) (Or.inl ⟨by rfl, ?h33_13⟩) hHeld ?_
                case h33_13 => (intro w' hSw; obtain ⟨m, rfl⟩ := hSw; go_simp <;> with_reducible rfl)
                try simp only [Act.put, List.setIfInBounds_toArray, List.set_cons_zero, List.set_cons_succ]
                refine wpAnyH_take (i := 14) (v := ?v34_14) (by simp only [List.getElem?_toArray, List.getElem?_cons_succ, List.getElem?_cons_zero]; rfl) (by kernel_rfl) (by kernel_rfl) (by kernel_rfl) (by exact fun _ _ _ h => h) (Or.inl ⟨by rfl, ?h34_14⟩) hHeld ?_
                case h34_14 => (intro w' hSw; obtain ⟨m, rfl⟩ := hSw; go_simp <;> with_reducible rfl)
                try simp only [Act.put, List.setIfInBounds_toArray, List.set_cons_zero, List.set_cons_succ]
                refine wpAnyH_done (by kernel_rfl) ?_ _
                have hx7 : Bk w6.drew wo.heap.size 29 [.int .i64 (cn : Int), .int .i64 0, .int .i64 tn] := HW6.out.1.next (bdrew (Below.refl _ _)) HW6.out.1.lt
                have hb7 : Below wo.heap.size wo w6.drew := bdrew HW6.out.2
                go_wp2_with fail
                go_roundw
                case rel => exact ⟨j + 1, hjl, by first | (rw [W3.out]; rfl) | go_num, hb7, by
                  have e : ((liveL g hz0 (x.cs.take (j + 1))).length : Int) = (cn : Int) := by rw [HN.out, HC.out]
                  rw [e, HV.out]; exact hx7⟩
                case measure => first | exact meas hjl | (rw [W3.out]; exact meas hjl)
          · have HN := Lib.hid (liveL_yes (by have := HCS.out.1.len; omega) HY.out.1 hlv)
            obtain ⟨w6, hw6⟩ : ∃ w6, w5.setCell ⟨wo.heap.size, 0, none⟩ (.int .i64 ((cn : Int) + 1)) = w6 := ⟨_, rfl⟩
            have hB6 : Bk w6 wo.heap.size 29 [.int .i64 ((cn : Int) + 1), .int .i64 0, .int .i64 tn] := by rw [← hw6]; exact hB5.set 0 _
            have hI6 : Below wo.heap.size wo w6 := by rw [← hw6]; exact hI5.setCell (p := ⟨wo.heap.size, 0, none⟩) (Nat.le_refl _) _
            have fr := hB5.free 0
            have fc := hB5.cell (i := 0) (by simp)
            simp only [List.getElem_cons_zero] at fc
            have e0 := (hI6.cell (p := ad.add k) (by rw [add_block]; exact HAD.out)).trans c0
            have e1 := (hI6.cell (p := ac.add (j * 2)) (by rw [add_block]; exact HY.out.2.2.1)).trans y0
            have e2 := (hI6.cell (p := ⟨(ac.add (j * 2)).block, _, none⟩) (by show (ac.add (j * 2)).block < _; rw [add_block]; exact HY.out.2.2.1)).trans y1
            have f2 := hB6.cell (i := 2) (by simp)
            have fr2 := hB6.free 2
            simp only [List.getElem_cons_zero, List.getElem_cons_succ] at f2
            have HW6 := Lib.hid (And.intro hB6 hI6)
            clear hlv hB5 hI5 hB6 hI6
            by_cases hj0' : j = 0
            · have hj0 := Lib.hid hj0'
              have t0 : decide ((j : Int) = 0) = true := decide_eq_true (by omega)
              have t0' : ((j : Int) == 0) = true := by rw [beq_iff_eq]; omega
              clear hj0'
              · have HV := Lib.hid (show newT (x.cs.take (j + 1)) = y.t by rw [newT_step (by have := HCS.out.1.len; omega) HY.out.1, if_pos (.inl hj0.out)])
                go_wp2_with fail
                refine wp_region_held_drew (S := Drawn w6) (by kernel_rfl) (by first | exact Drawn.of _ _ | exact Drawn.one _) (fun hHeld => ?_)
                refine wpAnyH_take (i := 0) (v := ?v35_0) (by simp only [List.getElem?_toArray, List.getElem?_cons_succ, List.getElem?_cons_zero]; rfl) (by kernel_rfl) (by kernel_rfl) (by kernel_rfl) (by exact fun _ _ _ h => h) (Or.inl ⟨by rfl, ?h35_0⟩) hHeld ?_
                case h35_0 => (intro w' hSw; obtain ⟨m, rfl⟩ := hSw; go_simp <;> with_reducible rfl)
                try simp only [Act.put, List.setIfInBounds_toArray, List.set_cons_zero, List.set_cons_succ]
                refine wpAnyH_take (i := 1) (v := ?v36_1) (by simp only [List.getElem?_toArray, List.getElem?_cons_succ, List.getElem?_cons_zero]; rfl) (by kernel_rfl) (by kernel_rfl) (by kernel_rfl) (by exact fun _ _ _ h => h) (Or.inl ⟨by rfl, ?h36_1⟩) hHeld ?_
                case h36_1 => (intro w' hSw; obtain ⟨m, rfl⟩ := hSw; go_simp <;> with_reducible rfl)
                try simp only [Act.put, List.setIfInBounds_toArray, List.set_cons_zero, List.set_cons_succ]
                refine wpAnyH_take (i := 2) (v := ?v37_2) (by simp only [List.getElem?_toArray, List.getElem?_cons_succ, List.getElem?_cons_zero]; rfl) (by kernel_rfl) (by kernel_rfl) (by kernel_rfl) (by exact fun _ _ _ h => h) (Or.inl ⟨by rfl, ?h37_2⟩) hHeld ?_
                case h37_2 => (intro w' hSw; obtain ⟨m, rfl⟩ := hSw; go_simp <;> with_reducible rfl)
                try simp only [Act.put, List.setIfInBounds_toArray, List.set_cons_zero, List.set_cons_succ]
                refine wpAnyH_take (i := 3) (v := undef) (by simp only [List.getElem?_toArray, List.getElem?_cons_succ, List.getElem?_cons_zero]; rfl) (by kernel_rfl) (by kernel_rfl) (by kernel_rfl) (by exact fun _ _ _ h => h) (Or.inr ⟨by rfl, rfl⟩) hHeld ?_
                try simp only [Act.put, List.setIfInBounds_toArray, List.set_cons_zero, List.set_cons_succ]
                refine wpAnyH_take (i := 4) (v := undef) (by simp only [List.getElem?_toArray, List.getElem?_cons_succ, List.getElem?_cons_zero]; rfl) (by kernel_rfl) (by kernel_rfl) (by kernel_rfl) (by exact fun _ _ _ h => h) (Or.inr ⟨by rfl, rfl⟩) hHeld ?_
                try simp only [Act.put, List.setIfInBounds_toArray, List.set_cons_zero, List.set_cons_succ]
                refine wpAnyH_take (i := 5) (v := undef) (by simp only [List.getElem?_toArray, List.getElem?_cons_succ, List.getElem?_cons_zero]; rfl) (by kernel_rfl) (by kernel_rfl) (by kernel_rfl) (by exact fun _ _ _ h => h) (Or.inr ⟨by rfl, rfl⟩) hHeld ?_
                try simp only [Act.put, List.setIfInBounds_toArray, List.set_cons_zero, List.set_cons_succ]
                refine wpAnyH_take (i := 6) (v := undef) (by simp only [List.getElem?_toArray, List.getElem?_cons_succ, List.getElem?_cons_zero]; rfl) (by kernel_rfl) (by kernel_rfl) (by kernel_rfl) (by exact fun _ _ _ h => h) (Or.inr ⟨by rfl, rfl⟩) hHeld ?_
                try simp only [Act.put, List.setIfInBounds_toArray, List.set_cons_zero, List.set_cons_succ]
                refine wpAnyH_take (i := 7) (v := undef) (by simp only [List.getElem?_toArray, List.getElem?_cons_succ, List.getElem?_cons_zero]; rfl) (by kernel_rfl) (by kernel_rfl) (by kernel_rfl) (by exact fun _ _ _ h => h) (Or.inr ⟨by rfl, rfl⟩) hHeld ?_
                try simp only [Act.put, List.setIfInBounds_toArray, List.set_cons_zero, List.set_cons_succ]
                refine wpAnyH_take (i := 8) (v := undef) (by simp only [List.getElem?_toArray, List.getElem?_cons_succ, List.getElem?_cons_zero]; rfl) (by kernel_rfl) (by kernel_rfl) (by kernel_rfl) (by exact fun _ _ _ h => h) (Or.inr ⟨by rfl, rfl⟩) hHeld ?_
                try simp only [Act.put, List.setIfInBounds_toArray, List.set_cons_zero, List.set_cons_succ]
                refine wpAnyH_take (i := 9) (v := undef) (by simp only [List.getElem?_toArray, List.getElem?_cons_succ, List.getElem?_cons_zero]; rfl) (by kernel_rfl) (by kernel_rfl) (by kernel_rfl) (by exact fun _ _ _ h => h) (Or.inr ⟨by rfl, rfl⟩) hHeld ?_
                try simp only [Act.put, List.setIfInBounds_toArray, List.set_cons_zero, List.set_cons_succ]
                refine wpAnyH_take (i := 10) (v := undef) (by simp only [List.getElem?_toArray, List.getElem?_cons_succ, List.getElem?_cons_zero]; rfl) (by kernel_rfl) (by kernel_rfl) (by kernel_rfl) (by exact fun _ _ _ h => h) (Or.inr ⟨by rfl, rfl⟩) hHeld ?_
                try simp only [Act.put, List.setIfInBounds_toArray, List.set_cons_zero, List.set_cons_succ]
                refine wpAnyH_take (i := 11) (v := undef) (by simp only [List.getElem?_toArray, List.getElem?_cons_succ, List.getElem?_cons_zero]; rfl) (by kernel_rfl) (by kernel_rfl) (by kernel_rfl) (by exact fun _ _ _ h => h) (Or.inr ⟨by rfl, rfl⟩) hHeld ?_
                try simp only [Act.put, List.setIfInBounds_toArray, List.set_cons_zero, List.set_cons_succ]
                refine wpAnyH_take (i := 12) (v := undef) (by simp only [List.getElem?_toArray, List.getElem?_cons_succ, List.getElem?_cons_zero]; rfl) (by kernel_rfl) (by kernel_rfl) (by kernel_rfl) (by exact fun _ _ _ h => h) (Or.inr ⟨by rfl, rfl⟩) hHeld ?_
                try simp only [Act.put, List.setIfInBounds_toArray, List.set_cons_zero, List.set_cons_succ]
                refine wpAnyH_take (i := 13) (v := undef) (by simp only [List.getElem?_toArray, List.getElem?_cons_succ, List.getElem?_cons_zero]; rfl) (by kernel_rfl) (by kernel_rfl) (by kernel_rfl) (by exact fun _ _ _ h => h) (Or.inr ⟨by rfl, rfl⟩) hHeld ?_
                try simp only [Act.put, List.setIfInBounds_toArray, List.set_cons_zero, List.set_cons_succ]
                refine wpAnyH_take (i := 14) (v := ?v38_14) (by simp only [List.getElem?_toArray, List.getElem?_cons_succ, List.getElem?_cons_zero]; rfl) (by kernel_rfl) (by kernel_rfl) (by kernel_rfl) (by exact fun _ _ _ h => h) (Or.inl ⟨by rfl, ?h38_14⟩) hHeld ?_
                case h38_14 => (intro w' hSw; obtain ⟨m, rfl⟩ := hSw; go_simp <;> with_reducible rfl)
                try simp only [Act.put, List.setIfInBounds_toArray, List.set_cons_zero, List.set_cons_succ]
                refine wpAnyH_done (by kernel_rfl) ?_ _
                have hx7 : Bk ((w6.setCell ⟨wo.heap.size, 2, none⟩ (.int .i64 y.t)).drew) wo.heap.size 29 [.int .i64 ((cn : Int) + 1), .int .i64 0, .int .i64 y.t] := by
                  have h := HW6.out.1.set 2 (.int .i64 y.t)
                  exact h.next (bdrew (Below.refl _ _)) h.lt
                have hb7 : Below wo.heap.size wo ((w6.setCell ⟨wo.heap.size, 2, none⟩ (.int .i64 y.t)).drew) := bdrew (HW6.out.2.setCell (p := ⟨wo.heap.size, 2, none⟩) (Nat.le_refl _) _)
                go_wp2_with fail
                go_roundw
                case rel => exact ⟨j + 1, hjl, by first | (rw [W3.out]; rfl) | go_num, hb7, by
                  have e : ((liveL g hz0 (x.cs.take (j + 1))).length : Int) = ((cn : Int) + 1) := by rw [HN.out, List.length_append, HC.out]; simp
                  rw [e, HV.out]; exact hx7⟩
                case measure => first | exact meas hjl | (rw [W3.out]; exact meas hjl)
            · have t0 : decide ((j : Int) = 0) = false := decide_eq_false (by omega)
              have t0' : ((j : Int) == 0) = false := by rw [beq_eq_false_iff_ne]; omega
              by_cases hgt' : tn < y.t
              · have t1 : decide (tn < y.t) = true := decide_eq_true hgt'
                have hgt := Lib.hid hgt'
                clear hgt'
                have HV := Lib.hid (show newT (x.cs.take (j + 1)) = y.t by rw [newT_step (by have := HCS.out.1.len; omega) HY.out.1, if_pos (.inr (by rw [HT.out]; exact hgt.out))])
                go_wp2_with fail
                refine wp_region_held_drew (S := Drawn w6) (by kernel_rfl) (by first | exact Drawn.of _ _ | exact Drawn.one _) (fun hHeld => ?_)
                refine wpAnyH_take (i := 0) (v := ?v39_0) (by simp only [List.getElem?_toArray, List.getElem?_cons_succ, List.getElem?_cons_zero]; rfl) (by kernel_rfl) (by kernel_rfl) (by kernel_rfl) (by exact fun _ _ _ h => h) (Or.inl ⟨by rfl, ?h39_0⟩) hHeld ?_
                case h39_0 => (intro w' hSw; obtain ⟨m, rfl⟩ := hSw; go_simp <;> with_reducible rfl)
                try simp only [Act.put, List.setIfInBounds_toArray, List.set_cons_zero, List.set_cons_succ]
                refine wpAnyH_take (i := 1) (v := ?v40_1) (by simp only [List.getElem?_toArray, List.getElem?_cons_succ, List.getElem?_cons_zero]; rfl) (by kernel_rfl) (by kernel_rfl) (by kernel_rfl) (by exact fun _ _ _ h => h) (Or.inl ⟨by rfl, ?h40_1⟩) hHeld ?_
                case h40_1 => (intro w' hSw; obtain ⟨m, rfl⟩ := hSw; go_simp <;> with_reducible rfl)
                try simp only [Act.put, List.setIfInBounds_toArray, List.set_cons_zero, List.set_cons_succ]
                refine wpAnyH_take (i := 2) (v := ?v41_2) (by simp only [List.getElem?_toArray, List.getElem?_cons_succ, List.getElem?_cons_zero]; rfl) (by kernel_rfl) (by kernel_rfl) (by kernel_rfl) (by exact fun _ _ _ h => h) (Or.inl ⟨by rfl, ?h41_2⟩) hHeld ?_
                case h41_2 => (intro w' hSw; obtain ⟨m, rfl⟩ := hSw; go_simp <;> with_reducible rfl)
                try simp only [Act.put, List.setIfInBounds_toArray, List.set_cons_zero, List.set_cons_succ]
                refine wpAnyH_take (i := 3) (v := ?v42_3) (by simp only [List.getElem?_toArray, List.getElem?_cons_succ, List.getElem?_cons_zero]; rfl) (by kernel_rfl) (by kernel_rfl) (by kernel_rfl) (by exact fun _ _ _ h => h) (Or.inl ⟨by rfl, ?h42_3⟩) hHeld ?_
                case h42_3 => (intro w' hSw; obtain ⟨m, rfl⟩ := hSw; go_simp <;> with_reducible rfl)
                try simp only [Act.put, List.setIfInBounds_toArray, List.set_cons_zero, List.set_cons_succ]
                refine wpAnyH_take (i := 4) (v := ?v43_4) (by simp only [List.getElem?_toArray, List.getElem?_cons_succ, List.getElem?_cons_zero]; rfl) (by kernel_rfl) (by kernel_rfl) (by kernel_rfl) (by exact fun _ _ _ h => h) (Or.inl ⟨by rfl, ?h43_4⟩) hHeld ?_
                case h43_4 => (intro w' hSw; obtain ⟨m, rfl⟩ := hSw; go_simp <;> with_reducible rfl)
                try simp only [Act.put, List.setIfInBounds_toArray, List.set_cons_zero, List.set_cons_succ]
                refine wpAnyH_take (i := 5) (v := ?v44_5) (by simp only [List.getElem?_toArray, List.getElem?_cons_succ, List.getElem?_cons_zero]; rfl) (by kernel_rfl) (by kernel_rfl) (by kernel_rfl) (by exact fun _ _ _ h => h) (Or.inl ⟨by rfl, ?h44_5⟩) hHeld ?_
                case h44_5 => (intro w' hSw; obtain ⟨m, rfl⟩ := hSw; go_simp <;> with_reducible rfl)
                try simp only [Act.put, List.setIfInBounds_toArray, List.set_cons_zero, List.set_cons_succ]
                refine wpAnyH_take (i := 6) (v := ?v45_6) (by simp only [List.getElem?_toArray, List.getElem?_cons_succ, List.getElem?_cons_zero]; rfl) (by kernel_rfl) (by kernel_rfl) (by kernel_rfl) (by exact fun _ _ _ h => h) (Or.inl ⟨by rfl, ?h45_6⟩) hHeld ?_
                case h45_6 => (intro w' hSw; obtain ⟨m, rfl⟩ := hSw; go_simp <;> with_reducible rfl)
                try simp only [Act.put, List.setIfInBounds_toArray, List.set_cons_zero, List.set_cons_succ]
                refine wpAnyH_take (i := 7) (v := ?v46_7) (by simp only [List.getElem?_toArray, List.getElem?_cons_succ, List.getElem?_cons_zero]; rfl) (by kernel_rfl) (by kernel_rfl) (by kernel_rfl) (by exact fun _ _ _ h => h) (Or.inl ⟨by rfl, ?h46_7⟩) hHeld ?_
                case h46_7 => (intro w' hSw; obtain ⟨m, rfl⟩ := hSw; go_simp <;> with_reducible rfl)
                try simp only [Act.put, List.setIfInBounds_toArray, List.set_cons_zero, List.set_cons_succ]
                refine wpAnyH_take (i := 8) (v := ?v47_8) (by simp only [List.getElem?_toArray, List.getElem?_cons_succ, List.getElem?_cons_zero]; rfl) (by kernel_rfl) (by kernel_rfl) (by kernel_rfl) (by exact fun _ _ _ h => h) (Or.inl ⟨by rfl, ?h47_8⟩) hHeld ?_
                case h47_8 => (intro w' hSw; obtain ⟨m, rfl⟩ := hSw; go_simp <;> with_reducible rfl)
                try simp only [Act.put, List.setIfInBounds_toArray, List.set_cons_zero, List.set_cons_succ]
                refine wpAnyH_take (i := 9) (v := ?v48_9) (by simp only [List.getElem?_toArray, List.getElem?_cons_succ, List.getElem?_cons_zero]; rfl) (by kernel_rfl) (by kernel_rfl) (by kernel_rfl) (by exact fun _ _ _ h => h) (Or.inl ⟨by rfl, ?h48_9⟩) hHeld ?_
                case h48_9 => (intro w' hSw; obtain ⟨m, rfl⟩ := hSw; go_simp <;> with_reducible rfl)
                try simp only [Act.put, List.setIfInBounds_toArray, List.set_cons_zero, List.set_cons_succ]
                refine wpAnyH_take (i := 10) (v := ?v49_10) (by simp only [List.getElem?_toArray, List.getElem?_cons_succ, List.getElem?_cons_zero]; rfl) (by kernel_rfl) (by kernel_rfl) (by kernel_rfl) (by exact fun _ _ _ h => h) (Or.inl ⟨by rfl, ?h49_10⟩) hHeld ?_
                case h49_10 => (intro w' hSw; obtain ⟨m, rfl⟩ := hSw; go_simp <;> with_reducible rfl)
                try simp only [Act.put, List.setIfInBounds_toArray, List.set_cons_zero, List.set_cons_succ]
                refine wpAnyH_take (i := 11) (v := ?v50_11) (by simp only [List.getElem?_toArray, List.getElem?_cons_succ, List.getElem?_cons_zero]; rfl) (by kernel_rfl) (by kernel_rfl) (by kernel_rfl) (by exact fun _ _ _ h => h) (Or.inl ⟨by rfl, ?h50_11⟩) hHeld ?_
                case h50_11 => (intro w' hSw; obtain ⟨m, rfl⟩ := hSw; go_simp <;> with_reducible rfl)
                try simp only [Act.put, List.setIfInBounds_toArray, List.set_cons_zero, List.set_cons_succ]
                refine wpAnyH_take (i := 12) (v := ?v51_12) (by simp only [List.getElem?_toArray, List.getElem?_cons_succ, List.getElem?_cons_zero]; rfl) (by kernel_rfl) (by kernel_rfl) (by kernel_rfl) (by exact fun _ _ _ h => h) (Or.inl ⟨by rfl, ?h51_12⟩) hHeld ?_
                case h51_12 => (intro w' hSw; obtain ⟨m, rfl⟩ := hSw; go_simp <;> with_reducible rfl)
                try simp only [Act.put, List.setIfInBounds_toArray, List.set_cons_zero, List.set_cons_succ]
                refine wpAnyH_take (i := 13) (v := ?v52_13) (by simp only [List.getElem?_toArray, List.getElem?_cons_succ, List.getElem?_cons_zero]; rfl) (by kernel_rfl) (by kernel_rfl) (by kernel_rfl) (by exact fun _ _ _ h => h) (Or.inl ⟨by rfl, ?h52_13⟩) hHeld ?_
                case h52_13 => (intro w' hSw; obtain ⟨m, rfl⟩ := hSw; go_simp <;> with_reducible rfl)
                try simp only [Act.put, List.setIfInBounds_toArray, List.set_cons_zero, List.set_cons_succ]
                refine wpAnyH_take (i := 14) (v := ?v53_14) (by simp only [List.getElem?_toArray, List.getElem?_cons_succ, List.getElem?_cons_zero]; rfl) (by kernel_rfl) (by kernel_rfl) (by kernel_rfl) (by exact fun _ _ _ h => h) (Or.inl ⟨by rfl, ?h53_14⟩) hHeld ?_
                case h53_14 => (intro w' hSw; obtain ⟨m, rfl⟩ := hSw; go_simp <;> with_reducible rfl)
                try simp only [Act.put, List.setIfInBounds_toArray, List.set_cons_zero, List.set_cons_succ]
                refine wpAnyH_done (by kernel_rfl) ?_ _
                have hx7 : Bk ((w6.setCell ⟨wo.heap.size, 2, none⟩ (.int .i64 y.t)).drew) wo.heap.size 29 [.int .i64 ((cn : Int) + 1), .int .i64 0, .int .i64 y.t] := by
                  have h := HW6.out.1.set 2 (.int .i64 y.t)
                  exact h.next (bdrew (Below.refl _ _)) h.lt
                have hb7 : Below wo.heap.size wo ((w6.setCell ⟨wo.heap.size, 2, none⟩ (.int .i64 y.t)).drew) := bdrew (HW6.out.2.setCell (p := ⟨wo.heap.size, 2, none⟩) (Nat.le_refl _) _)
                go_wp2_with fail
                go_roundw
                case rel => exact ⟨j + 1, hjl, by first | (rw [W3.out]; rfl) | go_num, hb7, by
                  have e : ((liveL g hz0 (x.cs.take (j + 1))).length : Int) = ((cn : Int) + 1) := by rw [HN.out, List.length_append, HC.out]; simp
                  rw [e, HV.out]; exact hx7⟩
                case measure => first | exact meas hjl | (rw [W3.out]; exact meas hjl)
              · have t1 : decide (tn < y.t) = false := decide_eq_false hgt'
                have hgt := Lib.hid (show ¬ (j = 0 ∨ tn < y.t) from fun h => by rcases h with h | h; exact hj0' h; exact hgt' h)
                clear hgt'
                have HV := Lib.hid (show newT (x.cs.take (j + 1)) = tn by rw [newT_step (by have := HCS.out.1.len; omega) HY.out.1, if_neg (by rw [HT.out]; exact hgt.out)]; exact HT.out)
                go_wp2_with fail
                refine wp_region_held_drew (S := Drawn w6) (by kernel_rfl) (by first | exact Drawn.of _ _ | exact Drawn.one _) (fun hHeld => ?_)
                refine wpAnyH_take (i := 0) (v := ?v54_0) (by simp only [List.getElem?_toArray, List.getElem?_cons_succ, List.getElem?_cons_zero]; rfl) (by kernel_rfl) (by kernel_rfl) (by kernel_rfl) (by exact fun _ _ _ h => h) (Or.inl ⟨by rfl, ?h54_0⟩) hHeld ?_
                case h54_0 => (intro w' hSw; obtain ⟨m, rfl⟩ := hSw; go_simp <;> with_reducible rfl)
                try simp only [Act.put, List.setIfInBounds_toArray, List.set_cons_zero, List.set_cons_succ]
                refine wpAnyH_take (i := 1) (v := ?v55_1) (by simp only [List.getElem?_toArray, List.getElem?_cons_succ, List.getElem?_cons_zero]; rfl) (by kernel_rfl) (by kernel_rfl) (by kernel_rfl) (by exact fun _ _ _ h => h) (Or.inl ⟨by rfl, ?h55_1⟩) hHeld ?_
                case h55_1 => (intro w' hSw; obtain ⟨m, rfl⟩ := hSw; go_simp <;> with_reducible rfl)
                try simp only [Act.put, List.setIfInBounds_toArray, List.set_cons_zero, List.set_cons_succ]
                refine wpAnyH_take (i := 2) (v := ?v56_2) (by simp only [List.getElem?_toArray, List.getElem?_cons_succ, List.getElem?_cons_zero]; rfl) (by kernel_rfl) (by kernel_rfl) (by kernel_rfl) (by exact fun _ _ _ h => h) (Or.inl ⟨by rfl, ?h56_2⟩) hHeld ?_
                case h56_2 => (intro w' hSw; obtain ⟨m, rfl⟩ := hSw; go_simp <;> with_reducible rfl)
                try simp only [Act.put, List.setIfInBounds_toArray, List.set_cons_zero, List.set_cons_succ]
                refine wpAnyH_take (i := 3) (v := ?v57_3) (by simp only [List.getElem?_toArray, List.getElem?_cons_succ, List.getElem?_cons_zero]; rfl) (by kernel_rfl) (by kernel_rfl) (by kernel_rfl) (by exact fun _ _ _ h => h) (Or.inl ⟨by rfl, ?h57_3⟩) hHeld ?_
                case h57_3 => (intro w' hSw; obtain ⟨m, rfl⟩ := hSw; go_simp <;> with_reducible rfl)
                try simp only [Act.put, List.setIfInBounds_toArray, List.set_cons_zero, List.set_cons_succ]
                refine wpAnyH_take (i := 4) (v := ?v58_4) (by simp only [List.getElem?_toArray, List.getElem?_cons_succ, List.getElem?_cons_zero]; rfl) (by kernel_rfl) (by kernel_rfl) (by kernel_rfl) (by exact fun _ _ _ h => h) (Or.inl ⟨by rfl, ?h58_4⟩) hHeld ?_
                case h58_4 => (intro w' hSw; obtain ⟨m, rfl⟩ := hSw; go_simp <;> with_reducible rfl)
                try simp only [Act.put, List.setIfInBounds_toArray, List.set_cons_zero, List.set_cons_succ]
                refine wpAnyH_take (i := 5) (v := ?v59_5) (by simp only [List.getElem?_toArray, List.getElem?_cons_succ, List.getElem?_cons_zero]; rfl) (by kernel_rfl) (by kernel_rfl) (by kernel_rfl) (by exact fun _ _ _ h => h) (Or.inl ⟨by rfl, ?h59_5⟩) hHeld ?_
                case h59_5 => (intro w' hSw; obtain ⟨m, rfl⟩ := hSw; go_simp <;> with_reducible rfl)
                try simp only [Act.put, List.setIfInBounds_toArray, List.set_cons_zero, List.set_cons_succ]
                refine wpAnyH_take (i := 6) (v := ?v60_6) (by simp only [List.getElem?_toArray, List.getElem?_cons_succ, List.getElem?_cons_zero]; rfl) (by kernel_rfl) (by kernel_rfl) (by kernel_rfl) (by exact fun _ _ _ h => h) (Or.inl ⟨by rfl, ?h60_6⟩) hHeld ?_
                case h60_6 => (intro w' hSw; obtain ⟨m, rfl⟩ := hSw; go_simp <;> with_reducible rfl)
                try simp only [Act.put, List.setIfInBounds_toArray, List.set_cons_zero, List.set_cons_succ]
                refine wpAnyH_take (i := 7) (v := ?v61_7) (by simp only [List.getElem?_toArray, List.getElem?_cons_succ, List.getElem?_cons_zero]; rfl) (by kernel_rfl) (by kernel_rfl) (by kernel_rfl) (by exact fun _ _ _ h => h) (Or.inl ⟨by rfl, ?h61_7⟩) hHeld ?_
                case h61_7 => (intro w' hSw; obtain ⟨m, rfl⟩ := hSw; go_simp <;> with_reducible rfl)
                try simp only [Act.put, List.setIfInBounds_toArray, List.set_cons_zero, List.set_cons_succ]
                refine wpAnyH_take (i := 8) (v := ?v62_8) (by simp only [List.getElem?_toArray, List.getElem?_cons_succ, List.getElem?_cons_zero]; rfl) (by kernel_rfl) (by kernel_rfl) (by kernel_rfl) (by exact fun _ _ _ h => h) (Or.inl ⟨by rfl, ?h62_8⟩) hHeld ?_
                case h62_8 => (intro w' hSw; obtain ⟨m, rfl⟩ := hSw; go_simp <;> with_reducible rfl)
                try simp only [Act.put, List.setIfInBounds_toArray, List.set_cons_zero, List.set_cons_succ]
                refine wpAnyH_take (i := 9) (v := ?v63_9) (by simp only [List.getElem?_toArray, List.getElem?_cons_succ, List.getElem?_cons_zero]; rfl) (by kernel_rfl) (by kernel_rfl) (by kernel_rfl) (by exact fun _ _ _ h => h) (Or.inl ⟨by rfl, ?h63_9⟩) hHeld ?_
                case h63_9 => (intro w' hSw; obtain ⟨m, rfl⟩ := hSw; go_simp <;> with_reducible rfl)
                try simp only [Act.put, List.setIfInBounds_toArray, List.set_cons_zero, List.set_cons_succ]
                refine wpAnyH_take (i := 10) (v := ?v64_10) (by simp only [List.getElem?_toArray, List.getElem?_cons_succ, List.getElem?_cons_zero]; rfl) (by kernel_rfl) (by kernel_rfl) (by kernel_rfl) (by exact fun _ _ _ h => h) (Or.inl ⟨by rfl, ?h64_10⟩) hHeld ?_
                case h64_10 => (intro w' hSw; obtain ⟨m, rfl⟩ := hSw; go_simp <;> with_reducible rfl)
                try simp only [Act.put, List.setIfInBounds_toArray, List.set_cons_zero, List.set_cons_succ]
                refine wpAnyH_take (i := 11) (v := ?v65_11) (by simp only [List.getElem?_toArray, List.getElem?_cons_succ, List.getElem?_cons_zero]; rfl) (by kernel_rfl) (by kernel_rfl) (by kernel_rfl) (by exact fun _ _ _ h => h) (Or.inl ⟨by rfl, ?h65_11⟩) hHeld ?_
                case h65_11 => (intro w' hSw; obtain ⟨m, rfl⟩ := hSw; go_simp <;> with_reducible rfl)
                try simp only [Act.put, List.setIfInBounds_toArray, List.set_cons_zero, List.set_cons_succ]
                refine wpAnyH_take (i := 12) (v := ?v66_12) (by simp only [List.getElem?_toArray, List.getElem?_cons_succ, List.getElem?_cons_zero]; rfl) (by kernel_rfl) (by kernel_rfl) (by kernel_rfl) (by exact fun _ _ _ h => h) (Or.inl ⟨by rfl, ?h66_12⟩) hHeld ?_
                case h66_12 => (intro w' hSw; obtain ⟨m, rfl⟩ := hSw; go_simp <;> with_reducible rfl)
                try simp only [Act.put, List.setIfInBounds_toArray, List.set_cons_zero, List.set_cons_succ]
                refine wpAnyH_take (i := 13) (v := ?v67_13) (by simp only [List.getElem?_toArray, List.getElem?_cons_succ, List.getElem?_cons_zero]; rfl) (by kernel_rfl) (by kernel_rfl) (by kernel_rfl) (by exact fun _ _ _ h => h) (Or.inl ⟨by rfl, ?h67_13⟩) hHeld ?_
                case h67_13 => (intro w' hSw; obtain ⟨m, rfl⟩ := hSw; go_simp <;> with_reducible rfl)
                try simp only [Act.put, List.setIfInBounds_toArray, List.set_cons_zero, List.set_cons_succ]
                refine wpAnyH_take (i := 14) (v := ?v68_14) (by simp only [List.getElem?_toArray, List.getElem?_cons_succ, List.getElem?_cons_zero]; rfl) (by kernel_rfl) (by kernel_rfl) (by kernel_rfl) (by exact fun _ _ _ h => h) (Or.inl ⟨by rfl, ?h68_14⟩) hHeld ?_
                case h68_14 => (intro w' hSw; obtain ⟨m, rfl⟩ := hSw; go_simp <;> with_reducible rfl)
                try simp only [Act.put, List.setIfInBounds_toArray, List.set_cons_zero, List.set_cons_succ]
                refine wpAnyH_done (by kernel_rfl) ?_ _
                have hx7 : Bk w6.drew wo.heap.size 29 [.int .i64 ((cn : Int) + 1), .int .i64 0, .int .i64 tn] := HW6.out.1.next (bdrew (Below.refl _ _)) HW6.out.1.lt
                have hb7 : Below wo.heap.size wo w6.drew := bdrew HW6.out.2
                go_wp2_with fail
                go_roundw
                case rel => exact ⟨j + 1, hjl, by first | (rw [W3.out]; rfl) | go_num, hb7, by
                  have e : ((liveL g hz0 (x.cs.take (j + 1))).length : Int) = ((cn : Int) + 1) := by rw [HN.out, List.length_append, HC.out]; simp
                  rw [e, HV.out]; exact hx7⟩
                case measure => first | exact meas hjl | (rw [W3.out]; exact meas hjl)
        · obtain rfl : j = x.n := by omega
          have hta : x.cs.take x.n = x.cs := List.take_of_length_le (by have := HCS.out.1.len; omega)
          rw [hta] at HC HT
          have m0 : ¬ ((x.n : Int) < (x.n : Int)) := by omega
          have fr0 := hB.free 0
          have fr1 := hB.free 1
          have b0 := hB.cell (i := 0) (by simp)
          have b1 := hB.cell (i := 1) (by simp)
          have b2 := hB.cell (i := 2) (by simp)
          simp only [List.getElem_cons_zero, List.getElem_cons_succ] at b0 b1 b2
          by_cases hle : (x.n : Int) ≤ size
          · have t0 : decide ((x.n : Int) ≤ size) = true := decide_eq_true hle
            have t1 : decide (size < (x.n : Int)) = false := decide_eq_false (by omega)
            have HZ := Lib.hid (show zoneV g hz0 size x = ⟨(cn : Int), size, tn⟩ from (if_pos hle).trans (by rw [HC.out, HT.out]))
            clear hle hta
            obtain ⟨w6, hw6⟩ : ∃ w6, wr.setCell ⟨wo.heap.size, 1, none⟩ (.int .i64 size) = w6 := ⟨_, rfl⟩
            have hx6 : Bk w6 wo.heap.size 29 [.int .i64 (cn : Int), .int .i64 size, .int .i64 tn] := by rw [← hw6]; exact hB.set 1 _
            have hb6 : Below wo.heap.size wo w6 := by rw [← hw6]; exact hI.setCell (p := ⟨wo.heap.size, 1, none⟩) (Nat.le_refl _) _
            have c6 := (hb6.cell (p := ad.add k) (by rw [add_block]; exact HAD.out)).trans c0
            have g0 := hx6.cell (i := 0) (by simp)
            have g1 := hx6.cell (i := 1) (by simp)
            have g2 := hx6.cell (i := 2) (by simp)
            simp only [List.getElem_cons_zero, List.getElem_cons_succ] at g0 g1 g2
            have hb7 : Below wo.heap.size wo (w6.alloc (.cells #[.int .i64 (cn : Int), .int .i64 size, .int .i64 tn] 29)) := hb6.alloc hb6.size _
            have HG := Lib.hid (And.intro (own_bel' HX.out.2.2 hb7) (HX.out.2.1.trans (hb7.mono HX.out.2.1.size)))
            clear hx6 hb6 hb7
            go_wp2_with (at_builtin; go_must (refine wpList_appK _ rfl _ _ 22 rfl w.heap.size 29 xi xz 24 Try.underlying22 hxi hxz 3 (by decide) hx3 hx24 hxc _ ((zs.take k).map (zoneV g hz0 size)).length _ (by rfl) (by exact HG.out.1) (w6.heap.size + 1) (some ⟨w6.heap.size, 0, none⟩) 1 1 [.int .i64 (cn : Int), .int .i64 size, .int .i64 tn] (by rfl) rfl (by simpa using (Bk.new w6 29 [.int .i64 (cn : Int), .int .i64 size, .int .i64 tn]).rd) (by intro u hu; simp at hu; rcases hu with rfl | rfl | rfl <;> rfl) (by rw [List.length_map, List.length_take]; exact HLEN.out.1) (by rw [List.length_map, List.length_take]; exact HLEN.out.2) (by exact HG.out.2.size) ?_); intro v9 W9 hO9 hG9)
            have hS9 := HG.out.2.grown hG9 HG.out.2.size (fun g hg => (own_obj HG.out.1 hg).1)
            have HN := zmap_step (f := zoneV g hz0 size) (by omega) HX.out.1
            go_roundw
            case rel => exact ⟨k + 1, hlt, by go_num, hS9, by rw [HN, zcells_snoc, List.length_append, HZ.out]; exact hO9⟩
            case measure => exact meas hlt
          · have t0 : decide ((x.n : Int) ≤ size) = false := decide_eq_false hle
            have t1 : decide (size < (x.n : Int)) = true := decide_eq_true (by omega)
            have HZ := Lib.hid (show zoneV g hz0 size x = ⟨0, 0, tn⟩ from (if_neg hle).trans (by rw [HT.out]))
            clear hle hta
            obtain ⟨w5, hw5⟩ : ∃ w5, wr.setCell ⟨wo.heap.size, 1, none⟩ (.int .i64 size) = w5 := ⟨_, rfl⟩
            have hB5 : Bk w5 wo.heap.size 29 [.int .i64 (cn : Int), .int .i64 size, .int .i64 tn] := by rw [← hw5]; exact hB.set 1 _
            have hI5 : Below wo.heap.size wo w5 := by rw [← hw5]; exact hI.setCell (p := ⟨wo.heap.size, 1, none⟩) (Nat.le_refl _) _
            have c5 := (hI5.cell (p := ad.add k) (by rw [add_block]; exact HAD.out)).trans c0
            have h5 := hB5.free 0
            have h51 := hB5.free 1
            have v0 := hB5.cell (i := 0) (by simp)
            have v1 := hB5.cell (i := 1) (by simp)
            have v2 := hB5.cell (i := 2) (by simp)
            simp only [List.getElem_cons_zero, List.getElem_cons_succ] at v0 v1 v2
            obtain ⟨w6, hw6⟩ : ∃ w6, (w5.setCell ⟨wo.heap.size, 0, none⟩ (.int .i64 0)).setCell ⟨wo.heap.size, 1, none⟩ (.int .i64 0) = w6 := ⟨_, rfl⟩
            have hx6 : Bk w6 wo.heap.size 29 [.int .i64 0, .int .i64 0, .int .i64 tn] := by rw [← hw6]; exact (hB5.set 0 _).set 1 _
            have hb6 : Below wo.heap.size wo w6 := by rw [← hw6]; exact (hI5.setCell (p := ⟨wo.heap.size, 0, none⟩) (Nat.le_refl _) _).setCell (p := ⟨wo.heap.size, 1, none⟩) (Nat.le_refl _) _
            have c6 := (hb6.cell (p := ad.add k) (by rw [add_block]; exact HAD.out)).trans c0
            have g0 := hx6.cell (i := 0) (by simp)
            have g1 := hx6.cell (i := 1) (by simp)
            have g2 := hx6.cell (i := 2) (by simp)
            simp only [List.getElem_cons_zero, List.getElem_cons_succ] at g0 g1 g2
            have hb7 : Below wo.heap.size wo (w6.alloc (.cells #[.int .i64 0, .int .i64 0, .int .i64 tn] 29)) := hb6.alloc hb6.size _
            have HG := Lib.hid (And.intro (own_bel' HX.out.2.2 hb7) (HX.out.2.1.trans (hb7.mono HX.out.2.1.size)))
            clear hx6 hb6 hb7
            go_wp2_with (at_builtin; go_must (refine wpList_appK _ rfl _ _ 22 rfl w.heap.size 29 xi xz 24 Try.underlying22 hxi hxz 3 (by decide) hx3 hx24 hxc _ ((zs.take k).map (zoneV g hz0 size)).length _ (by rfl) (by exact HG.out.1) (w6.heap.size + 1) (some ⟨w6.heap.size, 0, none⟩) 1 1 [.int .i64 0, .int .i64 0, .int .i64 tn] (by rfl) rfl (by simpa using (Bk.new w6 29 [.int .i64 0, .int .i64 0, .int .i64 tn]).rd) (by intro u hu; simp at hu; rcases hu with rfl | rfl | rfl <;> rfl) (by rw [List.length_map, List.length_take]; exact HLEN.out.1) (by rw [List.length_map, List.length_take]; exact HLEN.out.2) (by exact HG.out.2.size) ?_); intro v9 W9 hO9 hG9)
            have hS9 := HG.out.2.grown hG9 HG.out.2.size (fun g hg => (own_obj HG.out.1 hg).1)
            have HN := zmap_step (f := zoneV g hz0 size) (by omega) HX.out.1
            go_roundw
            case rel => exact ⟨k + 1, hlt, by go_num, hS9, by rw [HN, zcells_snoc, List.length_append, HZ.out]; exact hO9⟩
            case measure => exact meas hlt
    · obtain rfl : k = n := by omega
      rw [List.take_of_length_le (by omega)] at hO
      obtain ⟨A', c', rfl⟩ := own_shape hO
      rw [List.length_map, hl] at hO
      have HO := Lib.hid hO
      clear hO
      rw [List.length_map, hl]
      go_wp2_with fail
      go_ret
      exact ⟨⟨A', c', rfl, HO.out⟩, hW⟩
end Go.Proofs.Ytchhnjadnacniaa.Cm
