/- CleanEnds: cleaning ends: behind enough steps one more changes nothing; each step frees a zone that had a copy nobody reads: the law returns true, for every input. -/
import Derived.Test.YtchhnjadnacniaaCmS
namespace Go.Proofs.Ytchhnjadnacniaa.Cm
set_option linter.unusedSimpArgs false
set_option linter.unusedVariables false
open Go.RowKit Rk

theorem runN_one : runN 1 = 1 := rfl
theorem runN_five : runN 5 = 5 := rfl
theorem ends_cases {g : Int → List Int} {hz size now : Int} {C D : List (List CpD)} (h : D = iterC g hz size now (runN 1) C) : (stepC g hz size now C = none ∧ D = C) ∨ (True ∧ stepC g hz size now C = some D) := by
  rw [runN_one] at h
  cases hs : stepC g hz size now C with
  | none => rw [iterC_none hs] at h; exact .inl ⟨rfl, h⟩
  | some C' => rw [iterC_some hs] at h; exact .inr ⟨trivial, by rw [h]; rfl⟩
theorem sum_bound {os : List RoD} (h : ∀ x ∈ os, x.n ≤ 1000) (hl : os.length ≤ 1000) : (os.map (·.n)).sum ≤ 1000000 := by
  have key : ∀ l : List RoD, (∀ x ∈ l, x.n ≤ 1000) → (l.map (·.n)).sum ≤ l.length * 1000 := fun l => by
    induction l with
    | nil => simp
    | cons a l ih =>
      intro h
      have := h a (by simp)
      have := ih fun x hx => h x (List.mem_cons_of_mem _ hx)
      simp only [List.map_cons, List.sum_cons, List.length_cons]
      omega
  have := key os h
  omega
theorem step_len {g : Int → List Int} {hz size now : Int} {C D : List (List CpD)} (h : stepC g hz size now C = some D) : D.length = C.length := by
  unfold stepC at h
  split at h
  · cases h
  · split at h
    · cases h
    · injection h with h
      rw [← h]
      simp
theorem meas5 {j : Nat} (h : j < 500) : (500 - intOf (.int .i64 ((j : Int) + 1))).toNat < (500 - intOf (.int .i64 (j : Int))).toNat := by simp [intOf]; omega
set_option maxRecDepth 100000 in
set_option maxHeartbeats 4000000 in
theorem ends_true (A : Option Addr) (n c : Nat) (ts : List TxD) (A2 : Option Addr) (m c2 : Nat) (zs : List RoD) (size hz0 now : Int) (w : World) (h : IsTxs w A n c ts) (hz : IsZs w A2 m c2 zs) (_ : (Lit.int .i64 size).wf = true) (_ : (Lit.int .i64 hz0).wf = true) (_ : (Lit.int .i64 now).wf = true) :
    Calls Try.prog 10 #[.slice A n c, .slice A2 m c2, .int .i64 size, .int .i64 hz0, .int .i64 now] w fun e w' => e = .returned (.bool true) ∧ Below w.heap.size w w' := by
  have hl := hz.len
  go_enter Try.func10, Try.ntmps10
  go_wp2_with fail
  refine (small_any A A2 n c m c2 ts zs w h hz).mono ?_
  rintro e w1 ⟨⟨r, rfl, hr⟩, hb1⟩
  have HR := Lib.hid hr
  clear hr
  cases r
  · go_wp2_with fail
    refine (awake_any _).mono ?_
    rintro e w' ⟨rfl, hbA⟩
    go_wp2_with fail
    go_ret
    exact ⟨rfl, hb1.trans (hbA.mono hb1.size)⟩
  · by_cases h0 : size < 1
    · have t0 : decide (size < 1) = true := decide_eq_true h0
      clear h0
      go_wp2_with fail
      refine (awake_any _).mono ?_
      rintro e w' ⟨rfl, hbA⟩
      go_wp2_with fail
      go_ret
      exact ⟨rfl, hb1.trans (hbA.mono hb1.size)⟩
    · have t0 : decide (size < 1) = false := decide_eq_false h0
      by_cases h1 : 100 < size
      · have t1 : decide (100 < size) = true := decide_eq_true h1
        clear h0 h1
        go_wp2_with fail
        refine (awake_any _).mono ?_
        rintro e w' ⟨rfl, hbA⟩
        go_wp2_with fail
        go_ret
        exact ⟨rfl, hb1.trans (hbA.mono hb1.size)⟩
      · have t1 : decide (100 < size) = false := decide_eq_false h1
        by_cases h2 : 20 < m
        · have t2 : decide (20 < (m : Int)) = true := decide_eq_true (by omega)
          have t3 : decide (20 < m) = true := decide_eq_true h2
          clear h0 h1
          go_wp2_with fail
          refine (awake_any _).mono ?_
          rintro e w' ⟨rfl, hbA⟩
          go_wp2_with fail
          go_ret
          exact ⟨rfl, hb1.trans (hbA.mono hb1.size)⟩
        · have t2 : decide (20 < (m : Int)) = false := decide_eq_false (by omega)
          have t3 : decide (20 < m) = false := decide_eq_false h2
          have HSZ := Lib.hid (show 1 ≤ size ∧ size ≤ 100 by omega)
          have HN := Lib.hid (And.intro (HR.out rfl).1 (small_tot (HR.out rfl).2))
          have hmd := made_any A n c ts w1 (h.next hb1) HN.out.1
          clear h0 h1 h2
          go_wp2_with fail
          refine hmd.mono ?_
          rintro e w2 ⟨gm, xm, rfl, hM⟩
          obtain ⟨g, hg⟩ : ∃ g, (foldT ts).2 = g := ⟨_, rfl⟩
          have hev := hM.ev
          rw [hg] at hev
          have hb2 := hb1.trans (hM.bel.mono hb1.size)
          have HE := Lib.hid (And.intro hev (And.intro hb2 (show n * 30 ≤ 100000 by have := HN.out.1; omega)))
          clear hM hg hev hb2 hmd
          go_wp2_with fail
          go_loop [14, 15] (fun s i => ∃ k : Nat, k ≤ m ∧ i = .int .i64 (k : Int) ∧ ∃ t : Nat, s = .int .i64 (t : Int) ∧ t ≤ 400 ∧ Hid (t = ((zs.take k).map (·.n)).sum)) (fun _ i => m - (intOf i).toNat)
          case atStart => exact ⟨0, Nat.zero_le _, rfl, 0, rfl, by omega, Lib.hid (by simp)⟩
          case round =>
            obtain ⟨k, hk, rfl, t, rfl, ht4, HT⟩ := hrel
            have hm4 : m ≤ 400 := by rw [← hl]; exact HN.out.2.2.1
            by_cases hlt : k < m
            · obtain ⟨x, hxk⟩ : ∃ x, zs[k]'(by omega) = x := ⟨_, rfl⟩
              obtain ⟨ad, rfl, _, c0⟩ := (hz.rd.next (Nat.le_refl _) HE.out.2.1).get (k := k) (by rw [List.length_map]; omega)
              rw [List.getElem_map, hxk] at c0
              unfold RoD.cell at c0
              have n0 : (k : Int) < (m : Int) := by omega
              have n1 : (0 : Int) ≤ (k : Int) := by omega
              have hs1 := sum_step (zs := zs) (k := k) (by omega) hxk
              have hs2 := sum_le (zs := zs) (k + 1)
              have hs3 := HN.out.2.1
              have hT := HT.out
              have hx4 : t + x.n ≤ 400 := by omega
              have HT2 := Lib.hid (show t + x.n = ((zs.take (k + 1)).map (·.n)).sum by omega)
              have HX := Lib.hid hxk
              clear hxk hs1 hs2 hs3 hT
              by_cases hbg : size < (x.n : Int)
              · have e0 : decide (size < (x.n : Int)) = true := decide_eq_true hbg
                clear hbg
                go_wp2_with fail
                refine (awake_any _).mono ?_
                rintro e w' ⟨rfl, hbA⟩
                go_wp2_with fail
                go_ret
                exact ⟨rfl, HE.out.2.1.trans (hbA.mono HE.out.2.1.size)⟩
              · have e0 : decide (size < (x.n : Int)) = false := decide_eq_false hbg
                clear hbg
                go_wp2_with fail
                go_round
                case rel => exact ⟨k + 1, hlt, by go_num, t + x.n, by go_num, hx4, HT2⟩
                case measure => exact meas hlt
            · have n0 : ¬ ((k : Int) < (m : Int)) := by omega
              have HT3 := Lib.hid (show t = tot (css zs) by rw [tot_css (zs_fair hz)]; have := HT.out; rwa [List.take_of_length_le (by omega)] at this)
              clear hlt hk
              go_wp2_with fail
              go_loopw [13, 14, 16] (fun v s i wr => ∃ (j : Nat) (LA : Option Addr) (lc : Nat) (os : List RoD), i = .int .i64 (j : Int) ∧ j + tot (css os) ≤ 400 ∧ v = .slice LA m lc ∧ s = .int .i64 ((tot (css os) : Nat) : Int) ∧ IsZs wr LA m lc os ∧ (∀ x ∈ os, x.n ≤ 1000) ∧ Below w2.heap.size w2 wr) (fun _ _ i _ => (500 - intOf i).toNat)
              case atStart => exact ⟨0, A2, c2, zs, rfl, by have := HT3.out; omega, rfl, by rw [HT3.out], hz.next HE.out.2.1, fun x hx => by have := HN.out.2.2.2 x hx; omega, Below.refl _ _⟩
              case round =>
                clear HT3 HT ht4 n0
                obtain ⟨j, LA, lc, os, rfl, hj, rfl, rfl, hZ, hsm, hW⟩ := hrel
                have n0 : decide ((j : Int) < 500) = true := decide_eq_true (by omega)
                have n1 : (j : Int) < 500 := by omega
                obtain ⟨tt, htt⟩ : ∃ tt, tot (css os) = tt := ⟨_, rfl⟩
                rw [htt] at hj ⊢
                have HW := Lib.hid (And.intro hZ (And.intro hsm (And.intro hW (And.intro htt hj))))
                have hm1 : m ≤ 1000 := by omega
                have hfo := zs_fair hZ
                have HF := Lib.hid hfo
                have hnx := next_any w1.heap.size gm _ _ _ g LA m lc os size hz0 now wr (HE.out.1.next hW) HE.out.2.2 hZ hm1 hsm
                clear hZ hsm hW htt hj hfo
                go_wp2_with fail
                refine hnx.mono ?_
                rintro e w3 ⟨hN, hb3⟩
                obtain ⟨p, PA, pn, pc, d, r, rfl, hnf⟩ := next_form HF.out hN
                unfold planC
                obtain ⟨w4, hw4⟩ : ∃ w4, w3.alloc (.cells #[.int .i64 (p : Int), .slice PA pn pc, .int .i64 d] 56) = w4 := ⟨_, rfl⟩
                have hx4 : Bk w4 w3.heap.size 56 [.int .i64 (p : Int), .slice PA pn pc, .int .i64 d] := by rw [← hw4]; exact Bk.new w3 _ _
                have hb4 : Below wr.heap.size wr w4 := by rw [← hw4]; exact hb3.alloc hb3.size _
                have HP := Lib.hid (And.intro hnf (And.intro hx4 hb4))
                have hrn := run_any w1.heap.size gm _ _ _ g LA m lc os size hz0 now 1 w4 ((HE.out.1.next HW.out.2.2.1).next hb4) HE.out.2.2 (HW.out.1.next hb4) hm1 HW.out.2.1 (by have := HSZ.out; omega)
                clear hnf hx4 hb4 hb3 hN hnx
                go_wp2_with fail
                refine hrn.mono ?_
                rintro e w5 ⟨⟨os', v', rfl, hO', hcs'⟩, hb5⟩
                have hC := ends_cases hcs'
                have hol : os'.length = m := by
                  have e1 := css_len os'
                  have e2 := css_len os
                  have e3 := HW.out.1.len
                  rcases hC with ⟨_, e⟩ | ⟨_, e⟩
                  · rw [e] at e1; omega
                  · have := step_len e; omega
                obtain ⟨VA, vc, rfl, hZ'⟩ := hO'.zs
                rw [hol] at hZ' ⊢
                have hb45 := HP.out.2.2.trans (hb5.mono HP.out.2.2.size)
                have HC := Lib.hid (And.intro hC (And.intro hZ' (And.intro hO' (And.intro hb5 hb45))))
                clear hC hcs' hZ' hO' hb5 hb45 hrn
                go_wp2_with fail
                go_loop [20, 21] (fun s i => ∃ k : Nat, k ≤ m ∧ i = .int .i64 (k : Int) ∧ ∃ t : Nat, s = .int .i64 (t : Int) ∧ Hid (t = ((os'.take k).map (·.n)).sum)) (fun _ i => m - (intOf i).toNat)
                case atStart => exact ⟨0, Nat.zero_le _, rfl, 0, rfl, Lib.hid (by simp)⟩
                case round =>
                  obtain ⟨k, hk, rfl, t, rfl, HT⟩ := hrel
                  have htb : (os'.map (·.n)).sum ≤ 1000000 := sum_bound HC.out.2.2.1.sm (by have := hol; omega)
                  by_cases hlt : k < m
                  · obtain ⟨x, hxk⟩ : ∃ x, os'[k]'(by omega) = x := ⟨_, rfl⟩
                    obtain ⟨ad, rfl, _, c0⟩ := HC.out.2.1.rd.get (k := k) (by rw [List.length_map]; omega)
                    rw [List.getElem_map, hxk] at c0
                    unfold RoD.cell at c0
                    have n2 : (k : Int) < (m : Int) := by omega
                    have n3 : (0 : Int) ≤ (k : Int) := by omega
                    have hs1 := sum_step (zs := os') (k := k) (by omega) hxk
                    have hs2 := sum_le (zs := os') (k + 1)
                    have hT := HT.out
                    have hx4 : t + x.n ≤ 1000000 := by omega
                    have HT2 := Lib.hid (show t + x.n = ((os'.take (k + 1)).map (·.n)).sum by omega)
                    clear hxk hs1 hs2 hT htb
                    go_wp2_with fail
                    go_round
                    case rel => exact ⟨k + 1, hlt, by go_num, t + x.n, by go_num, HT2⟩
                    case measure => exact meas hlt
                  · have n2 : ¬ ((k : Int) < (m : Int)) := by omega
                    have HT3 := Lib.hid (show t = tot (css os') by rw [tot_css HC.out.2.2.1.fair]; have := HT.out; rwa [List.take_of_length_le (by omega)] at this)
                    clear hlt hk HT htb
                    have hcp := copies_any VA LA m vc m lc os' os w5 HC.out.2.1 ((HW.out.1.next HP.out.2.2).next HC.out.2.2.2.1) hm1 HC.out.2.2.1.sm
                    go_wp2_with fail
                    refine hcp.mono ?_
                    rintro e w6 ⟨heq, q, rfl⟩
                    have HQ := Lib.hid heq
                    clear heq hcp
                    rcases HQ.out with ⟨rfl, heq⟩ | ⟨rfl, heq⟩
                    · have hst : stepC g hz0 size now (css os) = none := by
                        rcases HC.out.1 with ⟨h, _⟩ | ⟨_, h⟩
                        · exact h
                        · exfalso
                          rcases HP.out.1 with ⟨_, hn⟩ | ⟨_, x, hx, hxs, h1, hn, _⟩
                          · unfold stepC at h; rw [hn] at h; cases h
                          · have hxc : (css os)[p]? = some x.cs := by unfold css; rw [List.getElem?_map, hx]; rfl
                            have hxl : x.n = x.cs.length := HF.out x (List.mem_of_getElem? hx)
                            rcases ends_step hn hxc (by omega) with e | ⟨C', e, hne, _⟩
                            · rw [e] at h; cases h
                            · rw [e] at h; injection h with h; exact hne (h.trans heq)
                      have HST := Lib.hid hst
                      have hb6 : Below w4.heap.size w4 (w5.drewN q) := bdrewN HC.out.2.2.2.1 q
                      have hb6' := HP.out.2.2.trans (hb6.mono HP.out.2.2.size)
                      have hrn := run_any w1.heap.size gm _ _ _ g LA m lc os size hz0 now 5 (w5.drewN q) ((HE.out.1.next HW.out.2.2.1).next hb6') HE.out.2.2 (HW.out.1.next hb6') hm1 HW.out.2.1 (by have := HSZ.out; omega)
                      have HB6 := Lib.hid hb6'
                      clear hst heq hb6 hb6'
                      go_wp2_with fail
                      refine hrn.mono ?_
                      rintro e w7 ⟨⟨os5, v5, rfl, hO5, hcs5⟩, hb7⟩
                      rw [iterC_none HST.out] at hcs5
                      have hol5 : os5.length = m := by have := congrArg List.length hcs5; rw [css_len, css_len, HW.out.1.len] at this; exact this
                      obtain ⟨VB, vd, rfl, hZ5⟩ := hO5.zs
                      rw [hol5] at hZ5 ⊢
                      have hb67 := HB6.out.trans (hb7.mono HB6.out.size)
                      have hcp := copies_any VB LA m vd m lc os5 os w7 hZ5 (HW.out.1.next hb67) hm1 hO5.sm
                      have H7 := Lib.hid (And.intro hcs5 (HE.out.2.1.trans ((HW.out.2.2.1.trans (hb67.mono HW.out.2.2.1.size)).mono HE.out.2.1.size)))
                      clear hZ5 hO5 hcs5 hb7 hb67 hrn hol5
                      go_wp2_with fail
                      refine hcp.mono ?_
                      rintro e w8 ⟨heq, q8, rfl⟩
                      rcases heq with ⟨rfl, _⟩ | ⟨rfl, heq⟩
                      · have hb8 := bdrewN H7.out.2 q8
                        clear hcp
                        go_wp2_with fail
                        refine (awake_any _).mono ?_
                        rintro e w' ⟨rfl, hbA⟩
                        go_wp2_with fail
                        go_ret
                        exact ⟨rfl, hb8.trans (hbA.mono hb8.size)⟩
                      · exact absurd H7.out.1 heq
                    · rcases HC.out.1 with ⟨_, h⟩ | ⟨_, h⟩
                      · exact absurd h heq
                      · rcases HP.out.1 with ⟨_, hn⟩ | ⟨hr0, x, hx, hxs, h1, hn, hpn, hd, hlt2⟩
                        · exfalso; unfold stepC at h; rw [hn] at h; cases h
                        · subst hr0
                          have hxc : (css os)[p]? = some x.cs := by unfold css; rw [List.getElem?_map, hx]; rfl
                          have hxl : x.n = x.cs.length := HF.out x (List.mem_of_getElem? hx)
                          have htot : t + x.n = tt + pn := by
                            rcases ends_step hn hxc (by omega) with e | ⟨C', e, _, _, htc⟩
                            · rw [e] at h; cases h
                            · rw [e] at h
                              injection h with h
                              rw [h, HW.out.2.2.2.1, ← HT3.out, ← hxl, ← hpn] at htc
                              exact htc
                          have ht4 := HW.out.2.2.2.2
                          have hx6 := HP.out.2.1.next (bdrewN HC.out.2.2.2.1 q) HP.out.2.1.lt
                          have c0 := hx6.cell (i := 0) (by simp)
                          have c1 := hx6.cell (i := 1) (by simp)
                          have c2' := hx6.cell (i := 2) (by simp)
                          simp only [List.getElem_cons_zero, List.getElem_cons_succ] at c0 c1 c2'
                          have wk1 : wrap64 ((tt : Int) - d) = (t : Int) := by unfold wrap64; omega
                          have wk2 : wrap64 ((pn : Int) + d) = size := by have := HSZ.out; unfold wrap64; omega
                          have e0 : decide (d < 1) = false := decide_eq_false (by omega)
                          have hW6 : Below w2.heap.size w2 (w5.drewN q) := HW.out.2.2.1.trans ((bdrewN HC.out.2.2.2.2 q).mono HW.out.2.2.1.size)
                          have HEND := Lib.hid (And.intro hW6 (And.intro (HC.out.2.1.next (bdrewN (Below.refl _ _) q)) (show j + 1 + t ≤ 400 by omega)))
                          clear hx hxs h1 hn hpn hd hlt2 hxc hxl htot ht4 hx6 hW6 h heq
                          go_wp2_with fail
                          go_roundw
                          case rel => exact ⟨j + 1, VA, vc, os', by go_num, by rw [← HT3.out]; exact HEND.out.2.2, rfl, by rw [← HT3.out], HEND.out.2.1, HC.out.2.2.1.sm, HEND.out.1⟩
                          case measure => exact meas5 (by omega)
end Go.Proofs.Ytchhnjadnacniaa.Cm
