/- The contract of the reference's Next. -/
import Derived.Test.YtchhnjadnacniaaCmW
import Derived.Test.YtchhnjadnacniaaRrB
namespace Go.Proofs.Ytchhnjadnacniaa.Cm
set_option linter.unusedSimpArgs false
set_option linter.unusedVariables false
open Go.RowKit Rk

theorem infoPr : (Try.prog.info? 65).map (·.size) = some 3 := by kernel_rfl
theorem res_rplan {fn : Func} {p u : Tmp} (h : fn.results = #[.cell p 65, .tmp u]) (tmps : Array Value) (w : World) (g : Nat) (cs : List Value) (hp : tmps.getD p undef = .pointer (some ⟨g, 0, none⟩)) (hg : Bk w g 65 cs) (hl : cs.length = 3 := by rfl) :
    (results fn tmps).run Try.prog w = .ok (.tuple #[.agg cs.toArray, tmps.getD u undef]) w := by
  rw [results_cell_tmp h, hp]
  simp [asAddr, run_loadVar_row w g 65 65 cs.toArray (0, 0) _ hg Try.underlying65 rfl (by rw [infoPr]; simp [hl]), Result.andThen]
set_option maxRecDepth 100000 in
set_option maxHeartbeats 4000000 in
theorem rnext_any (B xm N xn xc : Nat) (last : Int) (XA : Option Addr) (L : List XV) (g : Int → List Int) (A : Option Addr) (n c : Nat) (zs : List RoD) (size hz0 now : Int) (w : World) (hX : RMx w B xm N last XA xn xc L) (hN : N ≤ 100000) (hLB : ∀ y, liveR hz0 (L.map XV.pr) y = liveB g hz0 y) (hz : IsZs w A n c zs) (hn : n ≤ 1000) (hxn : ∀ x ∈ zs, x.n ≤ 1000) :
    Calls Try.prog 29 #[.pointer (some ⟨xm, 0, none⟩), .slice A n c, .int .i64 size, .int .i64 hz0, .int .i64 now] w fun e w' => NextR e w' g zs size hz0 now ∧ Below w.heap.size w w' := by
  have hl := hz.len
  obtain ⟨xi, xz, hxi, hxz, hx2, hx16, hxc⟩ := infoCs
  obtain ⟨w1, hw1⟩ : ∃ w1, w.alloc (.cells #[.int .i64 0, .slice none 0 0, .int .i64 0] 65) = w1 := ⟨_, rfl⟩
  have hb1 : Below w.heap.size w w1 := by rw [← hw1]; exact (Below.refl _ _).alloc (Nat.le_refl _) _
  have hp1 : Bk w1 w.heap.size 65 [.int .i64 0, .slice none 0 0, .int .i64 0] := by rw [← hw1]; exact Bk.new w _ _
  have p0 := hp1.cell (i := 0) (by simp)
  have p1 := hp1.cell (i := 1) (by simp)
  have p2 := hp1.cell (i := 2) (by simp)
  have q0 := hp1.free 0
  have q1 := hp1.free 1
  have q2 := hp1.free 2
  simp only [List.getElem_cons_zero, List.getElem_cons_succ] at p0 p1 p2
  have HH := Lib.hid (And.intro hb1 hp1)
  clear hb1 hp1
  by_cases hsz : size < 1
  · have t0 : decide (size < 1) = true := decide_eq_true hsz
    have HN := Lib.hid (show nextB zs size from .inl hsz)
    clear hsz
    obtain ⟨w9, hw9⟩ : ∃ w9, ((w1.setCell ⟨w.heap.size, 0, none⟩ (.int .i64 0)).setCell ⟨w.heap.size, 1, none⟩ (.slice none 0 0)).setCell ⟨w.heap.size, 2, none⟩ (.int .i64 0) = w9 := ⟨_, rfl⟩
    have hr9 : Bk w9 w.heap.size 65 [.int .i64 0, (.slice none 0 0), .int .i64 0] := by rw [← hw9]; exact ((HH.out.2.set 0 _).set 1 _).set 2 _
    have r0 := hr9.cell (i := 0) (by simp)
    have r1 := hr9.cell (i := 1) (by simp)
    have r2 := hr9.cell (i := 2) (by simp)
    simp only [List.getElem_cons_zero, List.getElem_cons_succ] at r0 r1 r2
    have hb9 : Below w.heap.size w w9 := by rw [← hw9]; exact ((HH.out.1.setCell (p := ⟨w.heap.size, 0, none⟩) (Nat.le_refl _) _).setCell (p := ⟨w.heap.size, 1, none⟩) (Nat.le_refl _) _).setCell (p := ⟨w.heap.size, 2, none⟩) (Nat.le_refl _) _
    have H9 := Lib.hid (And.intro hb9 hr9)
    clear hr9 hb9
    go_enter Try.func29, Try.ntmps29
    go_wp2_with fail
    go_wp2_with fail
    (try simp only [Exit.inBlock, Exit.then, Exit.noGoto_ret])
    refine bodyPost_ret (res_rplan rfl _ _ _ _ (by rfl) H9.out.2) rfl ?_
    exact ⟨.inl ⟨HN.out, rfl⟩, H9.out.1⟩
  · have t0 : decide (size < 1) = false := decide_eq_false hsz
    have HSZ := Lib.hid (show 1 ≤ size by omega)
    clear hsz
    go_enter Try.func29, Try.ntmps29
    go_wp2_with fail
    go_loop [12] (fun i => ∃ k : Nat, k ≤ n ∧ i = .int .i64 (k : Int) ∧ Hid (∀ j, (hj : j < zs.length) → j < k → (zs[j].n : Int) ≤ size)) (fun i => n - (intOf i).toNat)
    case atStart => exact ⟨0, Nat.zero_le _, rfl, Lib.hid (fun j hj h => absurd h (by omega))⟩
    case round =>
      obtain ⟨k, hk, rfl, HU⟩ := hrel
      by_cases hlt : k < n
      · obtain ⟨x, hxk⟩ : ∃ x, zs[k]'(by omega) = x := ⟨_, rfl⟩
        obtain ⟨ad, rfl, had, c0⟩ := (hz.rd.next (Nat.le_refl _) HH.out.1).get (k := k) (by rw [List.length_map]; omega)
        rw [List.getElem_map, hxk] at c0
        unfold RoD.cell at c0
        have n0 : (k : Int) < (n : Int) := by omega
        have n1 : (0 : Int) ≤ (k : Int) := by omega
        have HX := Lib.hid hxk
        clear hxk had
        by_cases h4 : size < (x.n : Int)
        · have t0 : decide (size < (x.n : Int)) = true := decide_eq_true h4
          have HN := Lib.hid (show nextB zs size from .inr ⟨x, by rw [← HX.out]; exact List.getElem_mem _, h4⟩)
          clear h4 HU
          obtain ⟨w9, hw9⟩ : ∃ w9, ((w1.setCell ⟨w.heap.size, 0, none⟩ (.int .i64 0)).setCell ⟨w.heap.size, 1, none⟩ (.slice none 0 0)).setCell ⟨w.heap.size, 2, none⟩ (.int .i64 0) = w9 := ⟨_, rfl⟩
          have hr9 : Bk w9 w.heap.size 65 [.int .i64 0, (.slice none 0 0), .int .i64 0] := by rw [← hw9]; exact ((HH.out.2.set 0 _).set 1 _).set 2 _
          have r0 := hr9.cell (i := 0) (by simp)
          have r1 := hr9.cell (i := 1) (by simp)
          have r2 := hr9.cell (i := 2) (by simp)
          simp only [List.getElem_cons_zero, List.getElem_cons_succ] at r0 r1 r2
          have hb9 : Below w.heap.size w w9 := by rw [← hw9]; exact ((HH.out.1.setCell (p := ⟨w.heap.size, 0, none⟩) (Nat.le_refl _) _).setCell (p := ⟨w.heap.size, 1, none⟩) (Nat.le_refl _) _).setCell (p := ⟨w.heap.size, 2, none⟩) (Nat.le_refl _) _
          have H9 := Lib.hid (And.intro hb9 hr9)
          clear hr9 hb9
          go_wp2_with fail
          (try simp only [Exit.inBlock, Exit.then, Exit.noGoto_ret])
          refine bodyPost_ret (res_rplan rfl _ _ _ _ (by rfl) H9.out.2) rfl ?_
          exact ⟨.inl ⟨HN.out, rfl⟩, H9.out.1⟩
        · have t0 : decide (size < (x.n : Int)) = false := decide_eq_false h4
          have HN := Lib.hid (show ∀ j, (hj : j < zs.length) → j < k + 1 → (zs[j].n : Int) ≤ size from fun j hj hjk => by
            rcases Nat.lt_or_ge j k with g | g
            · exact HU.out j hj g
            · obtain rfl : j = k := by omega
              rw [HX.out]; omega)
          clear h4 HU
          go_wp2_with fail
          go_round
          case rel => exact ⟨k + 1, hlt, by go_num, HN⟩
          case measure => exact meas hlt
      · have HN := Lib.hid (show ¬ nextB zs size from fun h => by
          rcases h with h | ⟨p, hp, h4⟩
          · have := HSZ.out; omega
          · obtain ⟨i, hi, rfl⟩ := List.getElem_of_mem hp
            have := HU.out i hi (by omega); omega)
        have n0 : ¬ (k : Int) < (n : Int) := by omega
        clear HU hlt hk
        go_wp2_with fail
        have hX1 : RMx w1 B xm N last XA xn xc L := hX.keep fun b ob hb _ => (HH.out.1.block b (Array.getElem?_eq_some_iff.1 hb).1).trans hb
        refine (rzones_any B xm N xn xc last XA L g A n c zs size hz0 w1 hX1 hN hLB (hz.next HH.out.1) (by omega) (fun x hx => Nat.le_trans (hxn x hx) (by omega))).mono ?_
        rintro e wz ⟨⟨ZA, zc, rfl, hZ⟩, hbz⟩
        have hBz : Below w.heap.size w wz := HH.out.1.trans (hbz.mono HH.out.1.size)
        have hZZ : IsZones wz ZA n zc (zs.map (zoneV g hz0 size)) := ⟨by rw [List.length_map, hl], Rd.of_own2 hZ, (own_caps hZ).1, (own_caps hZ).2⟩
        have HZ := Lib.hid (And.intro hBz (HH.out.2.next hbz HH.out.2.lt))
        clear hBz hZ hbz hX1 p0 p1 p2 q0 q1 q2
        go_wp2_with fail
        refine (rrank_any ZA n zc _ now wz hZZ (by omega)).mono ?_
        rintro e w2 ⟨RA, rc, rfl, hR, hb2⟩
        obtain ⟨R, hRe⟩ : ∃ R, rankA g hz0 size now zs = R := ⟨_, rfl⟩
        unfold rankA at hRe
        rw [hRe] at hR ⊢
        obtain ⟨rl, hrl⟩ : ∃ rl, R.length = rl := ⟨_, rfl⟩
        rw [hrl] at hR ⊢
        have hB2 : Below w.heap.size w w2 := HZ.out.1.trans (hb2.mono HZ.out.1.size)
        have hp2 := HZ.out.2.next hb2 HZ.out.2.lt
        have H2 := Lib.hid (And.intro hB2 (And.intro hp2 (And.intro (Rd.of_own2 hR) (And.intro (show rankA g hz0 size now zs = R from hRe) hrl))))
        have p0 := hp2.cell (i := 0) (by simp)
        have p1 := hp2.cell (i := 1) (by simp)
        have p2 := hp2.cell (i := 2) (by simp)
        have q0 := hp2.free 0
        have q1 := hp2.free 1
        have q2 := hp2.free 2
        simp only [List.getElem_cons_zero, List.getElem_cons_succ] at p0 p1 p2
        clear hB2 hp2 hR hb2 hZZ hRe hrl
        go_wp2_with fail
        go_loop [15] (fun i => ∃ m : Nat, m ≤ rl ∧ i = .int .i64 (m : Int) ∧ Hid (∀ j, (hj : j < R.length) → j < m → (rn zs R[j] : Int) ≠ size)) (fun i => rl - (intOf i).toNat)
        case atStart => exact ⟨0, Nat.zero_le _, rfl, Lib.hid (fun j hj h => absurd h (by omega))⟩
        case round =>
          obtain ⟨m, hm, rfl, HU⟩ := hrel
          by_cases hlm : m < rl
          · have hml : m < R.length := by have := H2.out.2.2.2.2; omega
            have HML := Lib.hid hml
            obtain ⟨i, hi⟩ : ∃ i, R[m]'(HML.out) = i := ⟨_, rfl⟩
            have hin : i < n := by rw [← hl]; exact rankA_lt (g := g) (hz := hz0) (size := size) (now := now) (by rw [H2.out.2.2.2.1, ← hi]; exact List.getElem_mem _)
            obtain ⟨adn, eR, hadn, e0⟩ := H2.out.2.2.1.get (k := m) (by rw [List.length_map]; exact hml)
            rw [List.getElem_map, hi] at e0
            unfold nv at e0
            subst eR
            have HIN := Lib.hid (show i < zs.length by omega)
            obtain ⟨x, hxi'⟩ : ∃ x, zs[i]'(HIN.out) = x := ⟨_, rfl⟩
            have hxm : x ∈ zs := by rw [← hxi']; exact List.getElem_mem _
            obtain ⟨ad, eA, had, c0⟩ := (hz.rd.next (Nat.le_refl _) H2.out.1).get (k := i) (by rw [List.length_map]; omega)
            rw [List.getElem_map, hxi'] at c0
            unfold RoD.cell at c0
            subst eA
            have n0 : (m : Int) < (rl : Int) := by omega
            have W4 := Lib.hid (show wrap64 ((m : Int) + 1) = (m : Int) + 1 from by
              have e := H2.out.2.2.2.1
              have h1 : R.length ≤ zs.length := by
                rw [← e]; unfold rankA
                have := (rankV_perm ((zs.map (zoneV g hz0 size)).map (wV now))).length_eq
                rw [this]
                unfold keepN
                have := List.length_filter_le (fun i => gt0 ((zs.map (zoneV g hz0 size)).map (wV now)) i != 0) (List.range ((zs.map (zoneV g hz0 size)).map (wV now)).length)
                rw [List.length_range, List.length_map, List.length_map] at this
                simpa using this
              have := H2.out.2.2.2.2
              unfold wrap64; omega)
            have n1 : (0 : Int) ≤ (m : Int) := by omega
            have n2 : (i : Int) < (n : Int) := by omega
            have n3 : (0 : Int) ≤ (i : Int) := by omega
            have HX := Lib.hid (And.intro hxi' (And.intro hi trivial))
            have HC := Lib.hid (And.intro (hz.rows x hxm) (hxn x hxm))
            have HAD := Lib.hid (show ad.block < w2.heap.size from Nat.lt_of_lt_of_le had H2.out.1.size)
            have hrn : rn zs i = x.n := rn_at (by omega) hxi'
            clear hxi' hi hml hxm had hadn hin
            by_cases hxs : (x.n : Int) = size
            · have t0 : ((x.n : Int) != size) = false := by simpa using hxs
              have HF := Lib.hid (show ∃ q rs, rankF g hz0 size now zs = q :: rs ∧ (idxF zs size zs.length)[q]? = some i from by
                have e := H2.out.2.2.2.1
                have hk := HML.out
                have hi := HX.out.2.1
                have hu := HU.out
                subst e
                obtain ⟨q, rs, h1, h2⟩ := rfind_some (k := m) hk (by rw [hi, hrn]; exact hxs) hu HN.out
                exact ⟨q, rs, h1, by rw [h2, hi]⟩)
              clear hxs hrn HU
              obtain ⟨wa, hwa⟩ : ∃ wa, w2.alloc (.cells #[.int .i64 0, .slice none 0 0, .int .i64 0] 65) = wa := ⟨_, rfl⟩
              have hxa : Bk wa w2.heap.size 65 [.int .i64 0, .slice none 0 0, .int .i64 0] := by rw [← hwa]; exact Bk.new w2 _ _
              have hba : Below w2.heap.size w2 wa := by rw [← hwa]; exact (Below.refl _ _).alloc (Nat.le_refl _) _
              have a0 := hxa.cell (i := 0) (by simp)
              have a1 := hxa.cell (i := 1) (by simp)
              have a2 := hxa.cell (i := 2) (by simp)
              have b0 := hxa.free 0
              have b1 := hxa.free 1
              have b2 := hxa.free 2
              simp only [List.getElem_cons_zero, List.getElem_cons_succ] at a0 a1 a2
              obtain ⟨w3, hw3⟩ : ∃ w3, ((wa.setCell ⟨w2.heap.size, 0, none⟩ (.int .i64 (i : Int))).setCell ⟨w2.heap.size, 1, none⟩ (.slice none 0 0)).setCell ⟨w2.heap.size, 2, none⟩ (.int .i64 0) = w3 := ⟨_, rfl⟩
              have hx3 : Bk w3 w2.heap.size 65 [.int .i64 (i : Int), .slice none 0 0, .int .i64 0] := by rw [← hw3]; exact ((hxa.set 0 _).set 1 _).set 2 _
              have hb3 : Below w2.heap.size w2 w3 := by rw [← hw3]; exact ((hba.setCell (p := ⟨w2.heap.size, 0, none⟩) (Nat.le_refl _) _).setCell (p := ⟨w2.heap.size, 1, none⟩) (Nat.le_refl _) _).setCell (p := ⟨w2.heap.size, 2, none⟩) (Nat.le_refl _) _
              have H3 := Lib.hid (And.intro hb3 hx3)
              clear hxa hba hx3 hb3 p0 p1 p2 q0 q1 q2
              go_wp2_with fail
              go_loopw [18] (fun u wr => ∃ (j : Nat) (v : Value), j ≤ x.n ∧ u = .int .i64 (j : Int) ∧ Below w2.heap.size w2 wr ∧ Bk wr w2.heap.size 65 [.int .i64 (i : Int), v, .int .i64 ((j : Int) - ((liveL g hz0 (x.cs.take j)).length : Int))] ∧ wr.ownsRow (w2.heap.size + 1) 51 2 v (liveL g hz0 (x.cs.take j)).length ((liveL g hz0 (x.cs.take j)).flatMap CpD.cells)) (fun u _ => x.n - (intOf u).toNat)
              case atStart => exact ⟨0, .slice none 0 0, Nat.zero_le _, rfl, H3.out.1, H3.out.2, ⟨rfl, .inl ⟨rfl, rfl⟩⟩⟩
              case round =>
                clear a0 a1 a2 b0 b1 b2 e0
                obtain ⟨j, v, hj, rfl, hI, hB, hO⟩ := hrel
                obtain ⟨cn, hcn⟩ : ∃ cn, (liveL g hz0 (x.cs.take j)).length = cn := ⟨_, rfl⟩
                obtain ⟨dn, hdn⟩ : ∃ dn : Int, (j : Int) - (cn : Int) = dn := ⟨_, rfl⟩
                rw [hcn] at hB hO
                rw [hdn] at hB
                have HCB := Lib.hid (show cn ≤ j ∧ j ≤ 1000 by have := liveL_len g hz0 (x.cs.take j); rw [List.length_take] at this; have := HC.out.2; have := HC.out.1.len; omega)
                have HCN := Lib.hid (And.intro hcn hdn)
                clear hcn hdn
                have c1 := (hI.cell (p := ad.add i) (by rw [add_block]; exact HAD.out)).trans c0
                by_cases hjl : j < x.n
                · obtain ⟨y, hyk⟩ : ∃ y, x.cs[j]'(by have := HC.out.1.len; omega) = y := ⟨_, rfl⟩
                  obtain ⟨ac, ea, hac, y0, y1⟩ := two_get cp_two (HC.out.1.rd.next (Nat.le_refl _) H2.out.1) (k := j) (by have := HC.out.1.len; omega) (u := .int .i64 y.lba) (v := .int .i64 y.t) (by rw [hyk]; rfl)
                  have hac2 : ac.block < w2.heap.size := Nat.lt_of_lt_of_le hac H2.out.1.size
                  rw [ea] at c0 c1
                  clear ea
                  have z1 := (hI.cell (p := ac.add (j * 2)) (by rw [add_block]; exact hac2)).trans y0
                  have z2 := (hI.cell (p := ⟨(ac.add (j * 2)).block, _, none⟩) (by show (ac.add (j * 2)).block < _; rw [add_block]; exact hac2)).trans y1
                  have m0 : (j : Int) < (x.n : Int) := by omega
                  have m1 : (0 : Int) ≤ (j : Int) := by omega
                  have wj : wrap64 (dn + 1) = dn + 1 := by have := HCB.out; have := HCN.out.2; unfold wrap64; omega
                  have wj2 : IntKind.i64.wrap (dn + 1) = dn + 1 := IntWalk.i64_in _ (by have := HCB.out; have := HCN.out.2; omega)
                  have W3 := Lib.hid (show wrap64 ((j : Int) + 1) = (j : Int) + 1 by have := HCB.out; unfold wrap64; omega)
                  have HY := Lib.hid (And.intro hyk (And.intro hac2 hI))
                  have HXI := Lib.hid (show RMx wr B xm N last XA xn xc L from hX.keep fun b ob hb _ => ((H2.out.1.trans (hI.mono H2.out.1.size)).block b (Array.getElem?_eq_some_iff.1 hb).1).trans hb)
                  have HB := Lib.hid hB
                  have HO := Lib.hid hO
                  clear hyk hac hac2 hI hB hO
                  go_wp2_with fail
                  refine (rlive_any B xm N xn xc last XA L y hz0 wr HXI.out hN).mono ?_
                  rintro e w5 ⟨rfl, hb5⟩
                  rw [hLB y]
                  have hB5 := HB.out.next hb5 HB.out.lt
                  have hI5 := HY.out.2.2.trans (hb5.mono HY.out.2.2.size)
                  have hO5 := own_bel' HO.out hb5
                  have HS5 := Lib.hid (show w2.heap.size + 1 ≤ w5.heap.size from hB5.lt)
                  clear hb5
                  cases hlv : liveB g hz0 y
                  · have HV := Lib.hid (liveL_no (by have := HC.out.1.len; omega) HY.out.1 hlv)
                    have a2 := hB5.cell (i := 2) (by simp)
                    have b2 := hB5.free 2
                    simp only [List.getElem_cons_zero, List.getElem_cons_succ] at a2
                    obtain ⟨w6, hw6⟩ : ∃ w6, w5.setCell ⟨w2.heap.size, 2, none⟩ (.int .i64 (dn + 1)) = w6 := ⟨_, rfl⟩
                    have hB6 : Bk w6 w2.heap.size 65 [.int .i64 (i : Int), v, .int .i64 (dn + 1)] := by rw [← hw6]; exact hB5.set 2 _
                    have hI6 : Below w2.heap.size w2 w6 := by rw [← hw6]; exact hI5.setCell (p := ⟨w2.heap.size, 2, none⟩) (Nat.le_refl _) _
                    have hO6 : w6.ownsRow (w2.heap.size + 1) 51 2 v cn ((liveL g hz0 (x.cs.take j)).flatMap CpD.cells) := by rw [← hw6]; exact own_set hO5 (Nat.lt_succ_self _) _
                    have H6 := Lib.hid (And.intro hB6 (And.intro hI6 hO6))
                    clear hB5 hI5 hO5 hlv hB6 hI6 hO6
                    go_wp2_with fail
                    go_roundw
                    case rel => exact ⟨j + 1, v, hjl, by first | (rw [W3.out]; rfl) | go_num, H6.out.2.1, by
                      rw [HV.out, HCN.out.1]
                      have e : ((j + 1 : Nat) : Int) - (cn : Int) = dn + 1 := by have := HCN.out.2; omega
                      rw [e]; exact H6.out.1, by rw [HV.out, HCN.out.1]; exact H6.out.2.2⟩
                    case measure => first | exact meas hjl | (rw [W3.out]; exact meas hjl)
                  · have HV := Lib.hid (liveL_yes (by have := HC.out.1.len; omega) HY.out.1 hlv)
                    have K1 := Lib.hid (fun w' (h : Below (w2.heap.size + 1) w5 w') => (hB5.next h (Nat.lt_succ_self _)).cell (i := 1) (by simp))
                    have KF := Lib.hid (fun w' (h : Below (w2.heap.size + 1) w5 w') => (hB5.next h (Nat.lt_succ_self _)).free 1)
                    have K2 := Lib.hid (fun w' (h : Below (w2.heap.size + 1) w5 w') => (h.cell (p := ad.add i) (by rw [add_block]; exact Nat.lt_succ_of_lt HAD.out)).trans ((hI5.cell (p := ad.add i) (by rw [add_block]; exact HAD.out)).trans c0))
                    have K3 := Lib.hid (fun w' (h : Below (w2.heap.size + 1) w5 w') => (h.cell (p := ac.add (j * 2)) (by rw [add_block]; exact Nat.lt_succ_of_lt HY.out.2.1)).trans ((hI5.cell (p := ac.add (j * 2)) (by rw [add_block]; exact HY.out.2.1)).trans y0))
                    have K4 := Lib.hid (fun w' (h : Below (w2.heap.size + 1) w5 w') => (h.cell (p := ⟨(ac.add (j * 2)).block, _, none⟩) (by show (ac.add (j * 2)).block < _; rw [add_block]; exact Nat.lt_succ_of_lt HY.out.2.1)).trans ((hI5.cell (p := ⟨(ac.add (j * 2)).block, _, none⟩) (by show (ac.add (j * 2)).block < _; rw [add_block]; exact HY.out.2.1)).trans y1))
                    simp only [List.getElem_cons_zero, List.getElem_cons_succ] at K1
                    have hOa : (w5.alloc (.cells #[.int .i64 y.lba, .int .i64 y.t] 51)).drew.ownsRow (w2.heap.size + 1) 51 2 v cn ((liveL g hz0 (x.cs.take j)).flatMap CpD.cells) := own_bel' hO5 (bdrew ((Below.refl _ _).alloc (Nat.le_refl _) _))
                    have H5 := Lib.hid (And.intro hB5 (And.intro hI5 hO5))
                    clear hB5 hI5 hO5 hlv
                    go_wp2_with fail
                    refine anyL_start (fun w' => Below (w2.heap.size + 1) w5 w') 12 (by kernel_rfl) (bdrew (Below.refl _ _)) (fun hHeld => ?_)
                    refine anyL_take (i := 0) (v := ?v1_0) (by simp only [List.getElem?_toArray, List.getElem?_cons_succ, List.getElem?_cons_zero]; rfl) (by kernel_rfl) (by kernel_rfl) (by kernel_rfl) (by kernel_rfl) (by exact fun _ _ _ h => h) (Or.inl ⟨by rfl, ?h1_0⟩) hHeld ?_
                    case h1_0 => (intro w' hSw; have k0 := K1.out w' hSw; have k1 := K2.out w' hSw; have k2 := K3.out w' hSw; have k3 := K4.out w' hSw; go_simp <;> with_reducible rfl)
                    try simp only [Act.put, List.setIfInBounds_toArray, List.set_cons_zero, List.set_cons_succ]
                    refine anyL_take (i := 1) (v := ?v2_1) (by simp only [List.getElem?_toArray, List.getElem?_cons_succ, List.getElem?_cons_zero]; rfl) (by kernel_rfl) (by kernel_rfl) (by kernel_rfl) (by kernel_rfl) (by exact fun _ _ _ h => h) (Or.inl ⟨by rfl, ?h2_1⟩) hHeld ?_
                    case h2_1 => (intro w' hSw; have k0 := K1.out w' hSw; have k1 := K2.out w' hSw; have k2 := K3.out w' hSw; have k3 := K4.out w' hSw; go_simp <;> with_reducible rfl)
                    try simp only [Act.put, List.setIfInBounds_toArray, List.set_cons_zero, List.set_cons_succ]
                    refine anyL_take (i := 2) (v := ?v3_2) (by simp only [List.getElem?_toArray, List.getElem?_cons_succ, List.getElem?_cons_zero]; rfl) (by kernel_rfl) (by kernel_rfl) (by kernel_rfl) (by kernel_rfl) (by exact fun _ _ _ h => h) (Or.inl ⟨by rfl, ?h3_2⟩) hHeld ?_
                    case h3_2 => (intro w' hSw; have k0 := K1.out w' hSw; have k1 := K2.out w' hSw; have k2 := K3.out w' hSw; have k3 := K4.out w' hSw; go_simp <;> with_reducible rfl)
                    try simp only [Act.put, List.setIfInBounds_toArray, List.set_cons_zero, List.set_cons_succ]
                    refine anyL_take (i := 3) (v := ?v4_3) (by simp only [List.getElem?_toArray, List.getElem?_cons_succ, List.getElem?_cons_zero]; rfl) (by kernel_rfl) (by kernel_rfl) (by kernel_rfl) (by kernel_rfl) (by exact fun _ _ _ h => h) (Or.inl ⟨by rfl, ?h4_3⟩) hHeld ?_
                    case h4_3 => (intro w' hSw; have k0 := K1.out w' hSw; have k1 := K2.out w' hSw; have k2 := K3.out w' hSw; have k3 := K4.out w' hSw; go_simp <;> with_reducible rfl)
                    try simp only [Act.put, List.setIfInBounds_toArray, List.set_cons_zero, List.set_cons_succ]
                    refine anyL_take (i := 4) (v := ?v5_4) (by simp only [List.getElem?_toArray, List.getElem?_cons_succ, List.getElem?_cons_zero]; rfl) (by kernel_rfl) (by kernel_rfl) (by kernel_rfl) (by kernel_rfl) (by exact fun _ _ _ h => h) (Or.inl ⟨by rfl, ?h5_4⟩) hHeld ?_
                    case h5_4 => (intro w' hSw; have k0 := K1.out w' hSw; have k1 := K2.out w' hSw; have k2 := K3.out w' hSw; have k3 := K4.out w' hSw; go_simp <;> with_reducible rfl)
                    try simp only [Act.put, List.setIfInBounds_toArray, List.set_cons_zero, List.set_cons_succ]
                    refine anyL_take (i := 5) (v := ?v6_5) (by simp only [List.getElem?_toArray, List.getElem?_cons_succ, List.getElem?_cons_zero]; rfl) (by kernel_rfl) (by kernel_rfl) (by kernel_rfl) (by kernel_rfl) (by exact fun _ _ _ h => h) (Or.inl ⟨by rfl, ?h6_5⟩) hHeld ?_
                    case h6_5 => (intro w' hSw; have k0 := K1.out w' hSw; have k1 := K2.out w' hSw; have k2 := K3.out w' hSw; have k3 := K4.out w' hSw; go_simp <;> with_reducible rfl)
                    try simp only [Act.put, List.setIfInBounds_toArray, List.set_cons_zero, List.set_cons_succ]
                    refine anyL_take (i := 6) (v := ?v7_6) (by simp only [List.getElem?_toArray, List.getElem?_cons_succ, List.getElem?_cons_zero]; rfl) (by kernel_rfl) (by kernel_rfl) (by kernel_rfl) (by kernel_rfl) (by exact fun _ _ _ h => h) (Or.inl ⟨by rfl, ?h7_6⟩) hHeld ?_
                    case h7_6 => (intro w' hSw; have k0 := K1.out w' hSw; have k1 := K2.out w' hSw; have k2 := K3.out w' hSw; have k3 := K4.out w' hSw; go_simp <;> with_reducible rfl)
                    try simp only [Act.put, List.setIfInBounds_toArray, List.set_cons_zero, List.set_cons_succ]
                    refine anyL_take (i := 7) (v := ?v8_7) (by simp only [List.getElem?_toArray, List.getElem?_cons_succ, List.getElem?_cons_zero]; rfl) (by kernel_rfl) (by kernel_rfl) (by kernel_rfl) (by kernel_rfl) (by exact fun _ _ _ h => h) (Or.inl ⟨by rfl, ?h8_7⟩) hHeld ?_
                    case h8_7 => (intro w' hSw; have k0 := K1.out w' hSw; have k1 := K2.out w' hSw; have k2 := K3.out w' hSw; have k3 := K4.out w' hSw; go_simp <;> with_reducible rfl)
                    try simp only [Act.put, List.setIfInBounds_toArray, List.set_cons_zero, List.set_cons_succ]
                    refine anyL_take (i := 8) (v := ?v9_8) (by simp only [List.getElem?_toArray, List.getElem?_cons_succ, List.getElem?_cons_zero]; rfl) (by kernel_rfl) (by kernel_rfl) (by kernel_rfl) (by kernel_rfl) (by exact fun _ _ _ h => h) (Or.inl ⟨by rfl, ?h9_8⟩) hHeld ?_
                    case h9_8 => (intro w' hSw; have k0 := K1.out w' hSw; have k1 := K2.out w' hSw; have k2 := K3.out w' hSw; have k3 := K4.out w' hSw; go_simp <;> with_reducible rfl)
                    try simp only [Act.put, List.setIfInBounds_toArray, List.set_cons_zero, List.set_cons_succ]
                    refine anyL_one (i := 9) (by kernel_rfl) (by simp only [List.getElem?_toArray, List.getElem?_cons_succ, List.getElem?_cons_zero]; rfl) (fun K hK => ?_)
                    have hH8 := hHeld.alloc (by have := HS5.out; simp; omega) (.cells #[.int .i64 y.lba, .int .i64 y.t] 51)
                    go_simp
                    refine hK.out _ _ (fun _ => hH8) ?_
                    clear hK K hHeld
                    have hHeld := hH8
                    try simp only [Act.put, List.setIfInBounds_toArray, List.set_cons_zero, List.set_cons_succ]
                    refine anyL_one (i := 10) (by kernel_rfl) (by simp only [List.getElem?_toArray, List.getElem?_cons_succ, List.getElem?_cons_zero]; rfl) (fun K hK => ?_)
                    refine if_wanted rfl (wp_appK _ _ _ 54 rfl (w2.heap.size + 1) 51 xi xz 16 Try.underlying54 hxi hxz 2 (by decide) hx2 hx16 hxc _ cn _ (by rfl) (by exact hOa) (w5.heap.size + 1) (some ⟨w5.heap.size, 0, none⟩) 1 1 [.int .i64 y.lba, .int .i64 y.t] (by rfl) rfl (by simpa using (Bk.new w5 51 [.int .i64 y.lba, .int .i64 y.t]).drew.rd) (by intro u hu; simp at hu; rcases hu with rfl | rfl <;> rfl) (by have := HCB.out; omega) (by have := HCB.out; omega) (by have := HS5.out; simp; omega) ?_)
                    intro v9 W9 hO9 hG9
                    have hH9 : Below (w2.heap.size + 1) w5 W9 := hH8.grown hG9 (by have := HS5.out; simp; omega) (fun g hg => (own_obj hOa hg).1)
                    obtain ⟨v9A, v9c, rfl⟩ := own_shape hO9
                    refine hK.out _ _ (fun _ => hH9) ?_
                    clear hK K hHeld
                    have hHeld := hH9
                    try simp only [Act.put, List.setIfInBounds_toArray, List.set_cons_zero, List.set_cons_succ]
                    refine anyL_take (i := 11) (v := ?v10_11) (by simp only [List.getElem?_toArray, List.getElem?_cons_succ, List.getElem?_cons_zero]; rfl) (by kernel_rfl) (by kernel_rfl) (by kernel_rfl) (by kernel_rfl) (by exact fun _ _ _ h => h) (Or.inl ⟨by rfl, ?h10_11⟩) hHeld ?_
                    case h10_11 => (intro w' hSw; have k0 := K1.out w' hSw; have k1 := K2.out w' hSw; have k2 := K3.out w' hSw; have k3 := K4.out w' hSw; go_simp <;> with_reducible rfl)
                    try simp only [Act.put, List.setIfInBounds_toArray, List.set_cons_zero, List.set_cons_succ]
                    refine anyL_one (i := 12) (by kernel_rfl) (by simp only [List.getElem?_toArray, List.getElem?_cons_succ, List.getElem?_cons_zero]; rfl) (fun K hK => ?_)
                    have kk := K1.out _ hHeld
                    have kf := KF.out _ hHeld
                    go_simp
                    refine hK.out _ _ (fun h => absurd rfl h) ?_
                    clear hK K
                    try simp only [Act.put, List.setIfInBounds_toArray, List.set_cons_zero, List.set_cons_succ]
                    refine anyL_done (by kernel_rfl) ?_ _
                    have hB6 := (H5.out.1.next hH9 (Nat.lt_succ_self _)).set 1 (.slice v9A (cn + 1) v9c)
                    have hI6 := (H5.out.2.1.trans (hH9.mono (Nat.le_succ _))).setCell (p := ⟨w2.heap.size, 1, none⟩) (Nat.le_refl _) (.slice v9A (cn + 1) v9c)
                    have hO6 := own_set hO9 (p := ⟨w2.heap.size, 1, none⟩) (Nat.lt_succ_self _) (.slice v9A (cn + 1) v9c)
                    go_wp2_with fail
                    go_roundw
                    case rel => exact ⟨j + 1, .slice v9A (cn + 1) v9c, hjl, by first | (rw [W3.out]; rfl) | go_num, hI6, by
                      rw [HV.out, List.length_append, HCN.out.1]
                      have e : ((j + 1 : Nat) : Int) - ((cn + [y].length : Nat) : Int) = dn := by have := HCN.out.2; simp; omega
                      rw [e]; exact hB6, by rw [HV.out, List.length_append, HCN.out.1, List.flatMap_append]; simpa [CpD.cells] using hO6⟩
                    case measure => first | exact meas hjl | (rw [W3.out]; exact meas hjl)
                · obtain rfl : j = x.n := by omega
                  have hta : x.cs.take x.n = x.cs := List.take_of_length_le (by have := HC.out.1.len; omega)
                  have m0 : ¬ ((x.n : Int) < (x.n : Int)) := by omega
                  obtain ⟨MA, mc, rfl⟩ := own_shape hO
                  have hBr := H2.out.1.trans (hI.mono H2.out.1.size)
                  have hpr := H2.out.2.1.next hI H2.out.2.1.lt
                  have p0 := hpr.cell (i := 0) (by simp)
                  have p1 := hpr.cell (i := 1) (by simp)
                  have p2 := hpr.cell (i := 2) (by simp)
                  have q0 := hpr.free 0
                  have q1 := hpr.free 1
                  have q2 := hpr.free 2
                  simp only [List.getElem_cons_zero, List.getElem_cons_succ] at p0 p1 p2
                  have a0 := hB.cell (i := 0) (by simp)
                  have a1 := hB.cell (i := 1) (by simp)
                  have a2 := hB.cell (i := 2) (by simp)
                  have b0 := hB.free 0
                  have b1 := hB.free 1
                  have b2 := hB.free 2
                  simp only [List.getElem_cons_zero, List.getElem_cons_succ] at a0 a1 a2
                  have HW := Lib.hid (show wr.ownsRow (w2.heap.size + 1) 51 2 (.slice MA cn mc) cn ((liveL g hz0 x.cs).flatMap CpD.cells) from by have := hO; rw [hta] at this; exact this)
                  have HCM := Lib.hid (show (liveL g hz0 x.cs).length = cn ∧ (x.n : Int) - (cn : Int) = dn from by have := HCN.out; rw [hta] at this; exact this)
                  obtain ⟨w9, hw9⟩ : ∃ w9, ((wr.setCell ⟨w.heap.size, 0, none⟩ (.int .i64 (i : Int))).setCell ⟨w.heap.size, 1, none⟩ (.slice MA cn mc)).setCell ⟨w.heap.size, 2, none⟩ (.int .i64 dn) = w9 := ⟨_, rfl⟩
                  have hr9 : Bk w9 w.heap.size 65 [.int .i64 (i : Int), (.slice MA cn mc), .int .i64 dn] := by rw [← hw9]; exact ((hpr.set 0 _).set 1 _).set 2 _
                  have r0 := hr9.cell (i := 0) (by simp)
                  have r1 := hr9.cell (i := 1) (by simp)
                  have r2 := hr9.cell (i := 2) (by simp)
                  simp only [List.getElem_cons_zero, List.getElem_cons_succ] at r0 r1 r2
                  have hb9 : Below w.heap.size w w9 := by rw [← hw9]; exact ((hBr.setCell (p := ⟨w.heap.size, 0, none⟩) (Nat.le_refl _) _).setCell (p := ⟨w.heap.size, 1, none⟩) (Nat.le_refl _) _).setCell (p := ⟨w.heap.size, 2, none⟩) (Nat.le_refl _) _
                  have H9 := Lib.hid (And.intro hb9 hr9)
                  clear hr9 hb9
                  have HO9 := Lib.hid (show IsCps w9 MA (liveL g hz0 x.cs).length mc (liveL g hz0 x.cs) by
                    have hlt : w.heap.size < w2.heap.size + 1 := Nat.lt_succ_of_le H2.out.1.size
                    refine cps_of_own (B := w2.heap.size + 1) ?_ rfl fun y hy => HC.out.1.wf y (List.mem_filter.1 hy).1
                    rw [← hw9, HCM.out.1]
                    exact own_set (own_set (own_set HW.out hlt _) hlt _) hlt _)
                  have HXI := Lib.hid (show zs[i]? = some x by rw [List.getElem?_eq_getElem (by have := HIN.out; omega)]; exact congrArg some HX.out.1)
                  have HFIN := Lib.hid (show NextR (.returned (.tuple #[planC i (.slice MA cn mc) dn, .int .i64 0])) w9 g zs size hz0 now from by
                    obtain ⟨q, rs, h1, h2⟩ := HF.out
                    exact .inr (.inr ⟨HN.out, q, rs, i, x, MA, mc, h1, h2, HXI.out, by rw [HCM.out.1, HCM.out.2], HO9.out⟩))
                  clear hta hO hI hB hBr hpr
                  go_wp2_with fail
                  (try simp only [Exit.inBlock, Exit.then, Exit.noGoto_ret])
                  refine bodyPost_ret (res_rplan rfl _ _ _ _ (by rfl) H9.out.2) rfl ?_
                  exact ⟨HFIN.out, H9.out.1⟩
            · have t0 : ((x.n : Int) != size) = true := by simpa using hxs
              have HV := Lib.hid (show ∀ j, (hj : j < R.length) → j < m + 1 → (rn zs R[j] : Int) ≠ size from fun j hj h => by
                rcases Nat.lt_or_ge j m with g | g
                · exact HU.out j hj g
                · obtain rfl : j = m := by omega
                  rw [HX.out.2.1, hrn]; exact hxs)
              clear hxs hrn HU
              go_wp2_with fail
              go_round
              case rel => exact ⟨m + 1, hlm, by rw [W4.out]; rfl, HV⟩
              case measure => rw [W4.out]; exact meas hlm
          · have n0 : ¬ ((m : Int) < (rl : Int)) := by omega
            have HF := Lib.hid (show rankF g hz0 size now zs = [] from by
              have e := H2.out.2.2.2.1
              refine rfind_none (fun i hi => ?_) HN.out
              rw [e] at hi
              obtain ⟨j, hj, rfl⟩ := List.getElem_of_mem hi
              exact HU.out j hj (by have := H2.out.2.2.2.2; omega))
            clear HU hlm hm
            obtain ⟨w9, hw9⟩ : ∃ w9, ((w2.setCell ⟨w.heap.size, 0, none⟩ (.int .i64 0)).setCell ⟨w.heap.size, 1, none⟩ (.slice none 0 0)).setCell ⟨w.heap.size, 2, none⟩ (.int .i64 0) = w9 := ⟨_, rfl⟩
            have hr9 : Bk w9 w.heap.size 65 [.int .i64 0, (.slice none 0 0), .int .i64 0] := by rw [← hw9]; exact ((H2.out.2.1.set 0 _).set 1 _).set 2 _
            have r0 := hr9.cell (i := 0) (by simp)
            have r1 := hr9.cell (i := 1) (by simp)
            have r2 := hr9.cell (i := 2) (by simp)
            simp only [List.getElem_cons_zero, List.getElem_cons_succ] at r0 r1 r2
            have hb9 : Below w.heap.size w w9 := by rw [← hw9]; exact ((H2.out.1.setCell (p := ⟨w.heap.size, 0, none⟩) (Nat.le_refl _) _).setCell (p := ⟨w.heap.size, 1, none⟩) (Nat.le_refl _) _).setCell (p := ⟨w.heap.size, 2, none⟩) (Nat.le_refl _) _
            have H9 := Lib.hid (And.intro hb9 hr9)
            clear hr9 hb9
            go_wp2_with fail
            (try simp only [Exit.inBlock, Exit.then, Exit.noGoto_ret])
            refine bodyPost_ret (res_rplan rfl _ _ _ _ (by rfl) H9.out.2) rfl ?_
            exact ⟨.inr (.inl ⟨HN.out, HF.out, rfl⟩), H9.out.1⟩
end Go.Proofs.Ytchhnjadnacniaa.Cm
