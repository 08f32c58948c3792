/- CleanBest: the zone that is cleaned is full, and no full one is worth more; what is moved is live, what is dropped is not: the law returns true, for every input. -/
import Derived.Test.YtchhnjadnacniaaCmP
import Derived.Test.YtchhnjadnacniaaRrB
namespace Go.Proofs.Ytchhnjadnacniaa.Cm
set_option linter.unusedSimpArgs false
set_option linter.unusedVariables false
open Go.RowKit Rk Sc Fl

theorem rscore_pos (z : Zn) (now : Int) (w : World) (hs : z.s ≠ 0) :
    Calls Try.prog 26 #[.agg #[.int .i64 z.l, .int .i64 z.s, .int .i64 z.t], .int .i64 now] w fun e w' => ∃ x c : Nat, e = .returned (.tuple #[.float .f64 x, .int .i64 c]) ∧ Below w.heap.size w w' ∧ ((c = 1 ∧ wV now z = 0) ∨ (c = 0 ∧ x = wV now z)) := by
  have no : okZ now z = false → wV now z = 0 := fun h => by unfold wV; rw [if_neg (by simp [h])]
  cases h : mayZ z.l z.s z.t
  · exact (rscore_bad _ _ _ _ w h).mono fun e w' ⟨he, hb⟩ => ⟨0, 1, he, hb, .inl ⟨rfl, no (by unfold okZ; rw [h]; rfl)⟩⟩
  · obtain ⟨m1, m2, m3, m4, m5⟩ := mayZ_yes h
    rcases Int.lt_or_le now z.t with h1 | h1
    · exact (rscore_old _ _ _ _ w h h1).mono fun e w' ⟨he, hb⟩ => ⟨0, 1, he, hb, .inl ⟨rfl, no (by unfold okZ; simp; omega)⟩⟩
    · rcases Int.lt_or_le 1099511627776 now with h2 | h2
      · exact (rscore_late _ _ _ _ w h h1 h2).mono fun e w' ⟨he, hb⟩ => ⟨0, 1, he, hb, .inl ⟨rfl, no (by unfold okZ; simp; omega)⟩⟩
      · have hok : okZ now z = true := by unfold okZ; rw [h]; simp; omega
        have hs' : (z.s == 0) = false := beq_eq_false_iff_ne.2 hs
        by_cases hl : z.l = 0
        · refine (rscore_inf _ _ _ _ w h h1 h2 hl hs').mono fun e w' ⟨he, hb⟩ => ⟨_, 0, he, hb, .inr ⟨rfl, ?_⟩⟩
          unfold wV; rw [if_pos ⟨hok, hs⟩, if_pos hl]
        · refine (rscore_num _ _ _ _ w h h1 h2 hs' (beq_eq_false_iff_ne.2 hl)).mono fun e w' ⟨r, hr, _, he, hb⟩ => ⟨_, 0, he, hb, .inr ⟨rfl, ?_⟩⟩
          have e1 : wV now z = scoreV (useV z.l z.s) (now - z.t) := by unfold wV; rw [if_pos ⟨hok, hs⟩, if_neg hl]
          have hle := wV_le now z
          refine num_of (hr.trans e1.symm) ?_
          rw [rg_small hle]; exact hle
theorem idxF_up (zs : List RoD) (size : Int) (k : Nat) : (idxF zs size k).Pairwise (· < ·) := List.pairwise_lt_range.filter _
theorem idxF_mono {zs : List RoD} {size : Int} {k p q : Nat} (hp : p < (idxF zs size k).length) (hq : q < (idxF zs size k).length) (h : p ≤ q) : (idxF zs size k)[p] ≤ (idxF zs size k)[q] := by
  rcases Nat.lt_or_ge p q with g | g
  · exact Nat.le_of_lt (List.pairwise_iff_getElem.1 (idxF_up zs size k) p q hp hq g)
  · obtain rfl : p = q := by omega
    exact Nat.le_refl _
/-- the best zone's facts: what it is worth, and that no full one is worth more, nor one ahead of it as much. -/
theorem best_facts {g : Int → List Int} {hz size now : Int} {zs : List RoD} {q : Nat} {rs : List Nat} {i : Nat} (hr : rankF g hz size now zs = q :: rs) (hi : (idxF zs size zs.length)[q]? = some i) :
    0 < wV now (zn g hz size zs i) ∧ ∀ j, j < zs.length → size ≤ (rn zs j : Int) → wV now (zn g hz size zs j) ≤ wV now (zn g hz size zs i) ∧ (wV now (zn g hz size zs j) = wV now (zn g hz size zs i) → i ≤ j) := by
  obtain ⟨hq, hiq⟩ := List.getElem?_eq_some_iff.1 hi
  have gt : ∀ p, (hp : p < (idxF zs size zs.length).length) → gt0 ((fullZ g hz size zs zs.length).map (wV now)) p = wV now (zn g hz size zs (idxF zs size zs.length)[p]) := fun p hp => by
    unfold gt0 fullZ
    rw [List.getD_eq_getElem?_getD, List.getElem?_eq_getElem (by simpa using hp)]
    simp
  have h0 := (rank_mem hr).2
  rw [gt q hq, hiq] at h0
  refine ⟨by omega, fun j hj hs => ?_⟩
  obtain ⟨p, hp, hpj⟩ := List.getElem_of_mem (mem_idxF.2 ⟨hj, hs⟩)
  by_cases hw : wV now (zn g hz size zs j) = 0
  · rw [hw]; exact ⟨Nat.zero_le _, fun e => absurd e.symm h0⟩
  · obtain ⟨q', rs', hr', hle⟩ := head_rank (ws := (fullZ g hz size zs zs.length).map (wV now)) (i := p) (by unfold fullZ; simpa using hp) (by rw [gt p hp, hpj]; exact hw)
    have : q' = q := by unfold rankF at hr; rw [hr] at hr'; injection hr' with e _; exact e.symm
    subst this
    unfold leR at hle
    rw [gt q' hq, gt p hp, hiq, hpj] at hle
    have hle := of_decide_eq_true hle
    refine ⟨by omega, fun e => ?_⟩
    have hqp : q' ≤ p := by omega
    have := idxF_mono hq hp hqp
    rw [hiq, hpj] at this
    exact this
theorem small_sum {zs : List RoD} (h : (zs.map fun x => (x.n : Int) + 1).sum ≤ 400) : zs.length ≤ 400 ∧ ∀ x ∈ zs, x.n ≤ 400 := by
  induction zs with
  | nil => simp
  | cons y zs ih =>
    have hpos : ∀ l : List RoD, 0 ≤ (l.map fun x => (x.n : Int) + 1).sum := fun l => by
      induction l with
      | nil => simp
      | cons a l ih => simp only [List.map_cons, List.sum_cons]; omega
    have hge : ∀ l : List RoD, (l.length : Int) ≤ (l.map fun x => (x.n : Int) + 1).sum := fun l => by
      induction l with
      | nil => simp
      | cons a l ih => simp only [List.map_cons, List.sum_cons, List.length_cons]; push_cast; omega
    simp only [List.map_cons, List.sum_cons] at h
    have h1 := hpos zs
    have h2 := hge zs
    obtain ⟨_, h4⟩ := ih (by omega)
    refine ⟨by rw [List.length_cons]; omega, fun x hx => ?_⟩
    rcases List.mem_cons.1 hx with rfl | hx
    · omega
    · exact h4 x hx
theorem live_at {g : Int → List Int} {hz : Int} {cs : List CpD} {k : Nat} (hk : k < cs.length) {c : CpD} (hc : cs[k] = c) (h : liveB g hz c = true) : ∃ hm : (liveL g hz (cs.take k)).length < (liveL g hz cs).length, (liveL g hz cs)[(liveL g hz (cs.take k)).length]'hm = c := by
  have e : liveL g hz cs = liveL g hz (cs.take k) ++ (c :: liveL g hz (cs.drop (k + 1))) := by
    unfold liveL
    conv => lhs; rw [← List.take_append_drop k cs]
    rw [List.filter_append, List.drop_eq_getElem_cons hk, hc, List.filter_cons, h]; rfl
  refine ⟨by rw [e]; simp, ?_⟩
  simp only [e]
  rw [List.getElem_append_right (Nat.le_refl _)]
  simp
set_option maxRecDepth 100000 in
set_option maxHeartbeats 4000000 in
theorem best_true (A : Option Addr) (n c : Nat) (ts : List TxD) (A2 : Option Addr) (m c2 : Nat) (zs : List RoD) (size hz0 now : Int) (w : World) (h : IsTxs w A n c ts) (hz : IsZs w A2 m c2 zs) (_ : (Lit.int .i64 size).wf = true) (_ : (Lit.int .i64 hz0).wf = true) (_ : (Lit.int .i64 now).wf = true) :
    Calls Try.prog 7 #[.slice A n c, .slice A2 m c2, .int .i64 size, .int .i64 hz0, .int .i64 now] w fun e w' => e = .returned (.bool true) ∧ Below w.heap.size w w' := by
  have hl := hz.len
  go_enter Try.func7, Try.ntmps7
  go_wp2_with fail
  refine (small_any A A2 n c m c2 ts zs w h hz).mono ?_
  rintro e w1 ⟨⟨r, rfl, hr⟩, hb1⟩
  have HR := Lib.hid hr
  clear hr
  cases r
  · go_wp2_with fail
    refine (awake_any _).mono ?_
    rintro e w' ⟨rfl, hbA⟩
    go_wp2_with fail
    go_ret
    exact ⟨rfl, hb1.trans (hbA.mono hb1.size)⟩
  · by_cases h0 : size < 1
    · have t0 : decide (size < 1) = true := decide_eq_true h0
      clear h0
      go_wp2_with fail
      refine (awake_any _).mono ?_
      rintro e w' ⟨rfl, hbA⟩
      go_wp2_with fail
      go_ret
      exact ⟨rfl, hb1.trans (hbA.mono hb1.size)⟩
    · have t0 : decide (size < 1) = false := decide_eq_false h0
      by_cases h1 : 1000 < size
      · have t1 : decide (1000 < size) = true := decide_eq_true h1
        clear h0 h1
        go_wp2_with fail
        refine (awake_any _).mono ?_
        rintro e w' ⟨rfl, hbA⟩
        go_wp2_with fail
        go_ret
        exact ⟨rfl, hb1.trans (hbA.mono hb1.size)⟩
      · have t1 : decide (1000 < size) = false := decide_eq_false h1
        have HSZ := Lib.hid (show 1 ≤ size ∧ size ≤ 1000 by omega)
        have HN := Lib.hid (HR.out rfl)
        have hmd := made_any A n c ts w1 (h.next hb1) HN.out.1
        clear h0 h1
        go_wp2_with fail
        refine hmd.mono ?_
        rintro e w2 ⟨gm, xm, rfl, hM⟩
        obtain ⟨g, hg⟩ : ∃ g, (foldT ts).2 = g := ⟨_, rfl⟩
        have hev := hM.ev
        rw [hg] at hev
        have hb2 := hb1.trans (hM.bel.mono hb1.size)
        have hsm := small_sum HN.out.2
        have hmm : n * 30 ≤ 100000 := by have := HN.out.1; omega
        have hnx := next_any w1.heap.size gm _ _ _ g A2 m c2 zs size hz0 now w2 hev hmm (hz.next hb2) (by rw [← hl]; omega) (fun x hx => by have := hsm.2 x hx; omega)
        have HE := Lib.hid (And.intro hev (And.intro hb2 (And.intro hsm hmm)))
        clear hM hg hev hb2 hmd hsm hmm
        go_wp2_with fail
        refine hnx.mono ?_
        rintro e w3 ⟨hN, hb3⟩
        have hb23 := HE.out.2.1.trans (hb3.mono HE.out.2.1.size)
        rcases hN with ⟨hbad, rfl⟩ | ⟨hnb, hrk, rfl⟩ | ⟨hnb, q, rs, i, x, MA, mc, hrk, hiq, hxi, rfl, hMv⟩
        · have HB := Lib.hid hb23
          have hb34 : Below w.heap.size w (w3.alloc (.cells #[.int .i64 0, .slice none 0 0, .int .i64 0] 56)) := hb23.alloc hb23.size _
          unfold planC
          clear hbad hb23 hb3 hnx
          go_wp2_with fail
          refine (awake_any _).mono ?_
          rintro e w' ⟨rfl, hbA⟩
          go_wp2_with fail
          go_ret
          exact ⟨rfl, hb34.trans (hbA.mono hb34.size)⟩
        · have HB := Lib.hid hb23
          have hb34 : Below w.heap.size w (w3.alloc (.cells #[.int .i64 0, .slice none 0 0, .int .i64 0] 56)) := hb23.alloc hb23.size _
          unfold planC
          have HH := Lib.hid (And.intro hnb hrk)
          clear hnb hrk hb23 hb3 hnx
          go_wp2_with fail
          refine (awake_any _).mono ?_
          rintro e w' ⟨rfl, hbA⟩
          go_wp2_with fail
          go_ret
          exact ⟨rfl, hb34.trans (hbA.mono hb34.size)⟩
        · unfold planC
          obtain ⟨hil, hzi⟩ := List.getElem?_eq_some_iff.1 hxi
          have hnbig : ∀ y ∈ zs, (y.n : Int) ≤ size := fun y hy => by
            rcases Int.lt_or_le size (y.n : Int) with q | q
            · exact absurd (.inr ⟨y, hy, q⟩) hnb
            · exact q
          have hxm : x ∈ zs := by rw [← hzi]; exact List.getElem_mem hil
          have hsx : size = (x.n : Int) := by
            have h1 := hnbig x hxm
            have h2 := (mem_idxF.1 (List.mem_of_getElem? hiq)).2
            rw [rn_at hil hzi] at h2
            omega
          subst hsx
          have hbf := best_facts hrk hiq
          obtain ⟨nm, hnm⟩ : ∃ nm, (liveL g hz0 x.cs).length = nm := ⟨_, rfl⟩
          rw [hnm] at hMv ⊢
          obtain ⟨w4, hw4⟩ : ∃ w4, w3.alloc (.cells #[.int .i64 (i : Int), .slice MA nm mc, .int .i64 ((x.n : Int) - (nm : Int))] 56) = w4 := ⟨_, rfl⟩
          have hx4 : Bk w4 w3.heap.size 56 [.int .i64 (i : Int), .slice MA nm mc, .int .i64 ((x.n : Int) - (nm : Int))] := by rw [← hw4]; exact Bk.new w3 _ _
          have hb4 : Below w3.heap.size w3 w4 := by rw [← hw4]; exact (Below.refl _ _).alloc (Nat.le_refl _) _
          have hb24 := hb3.trans (hb4.mono hb3.size)
          have HN2 := Lib.hid (And.intro hil (And.intro hzi (And.intro hnbig (And.intro hbf (And.intro hnm (And.intro hMv (And.intro hx4 (And.intro hb4 (And.intro hb24 (hb23.trans (hb4.mono hb23.size)))))))))))
          have hxc := hz.rows x hxm
          have hxz := HE.out.2.2.1.2 x hxm
          have HX := Lib.hid (And.intro hxc hxz)
          have PL := Lib.hid (fun w' (hb : Below w4.heap.size w4 w') => (show w'.cell? ⟨w3.heap.size, 0, none⟩ = some (.int .i64 (i : Int)) ∧ w'.cell? ⟨w3.heap.size, 1, none⟩ = some (.slice MA nm mc) ∧ w'.cell? ⟨w3.heap.size, 2, none⟩ = some (.int .i64 ((x.n : Int) - (nm : Int))) from
            ⟨(hx4.next hb hx4.lt).cell (i := 0) (by simp), (hx4.next hb hx4.lt).cell (i := 1) (by simp), (hx4.next hb hx4.lt).cell (i := 2) (by simp)⟩))
          have ZG := Lib.hid (fun w' (hb : Below w4.heap.size w4 w') (k : Nat) (hk : k < m) => (show ∃ ad, A2 = some ad ∧ w'.cell? (ad.add k) = some (zs[k]'(by omega)).cell by
            obtain ⟨ad, e, _, hc⟩ := (hz.rd.next (Nat.le_refl _) (HN2.out.2.2.2.2.2.2.2.2.2.trans (hb.mono HN2.out.2.2.2.2.2.2.2.2.2.size))).get (k := k) (by rw [List.length_map]; omega)
            rw [List.getElem_map] at hc
            exact ⟨ad, e, hc⟩))
          have hza := zones_any w1.heap.size gm _ _ _ g A2 m c2 zs (x.n : Int) hz0 w4 (HE.out.1.next hb24) HE.out.2.2.2 (hz.next HN2.out.2.2.2.2.2.2.2.2.2) (by have := HE.out.2.2.1.1; omega) (fun y hy => by have := HE.out.2.2.1.2 y hy; omega)
          obtain ⟨p0, p1, p2⟩ := PL.out w4 (Below.refl _ _)
          obtain ⟨ad, rfl, z0⟩ := ZG.out w4 (Below.refl _ _) i (by omega)
          rw [hzi] at z0
          unfold RoD.cell at z0
          have i0 : (0 : Int) ≤ (i : Int) := by omega
          have i1 : (i : Int) < (m : Int) := by omega
          clear hnb hrk hiq hxi hzi hnbig hxm hbf hnm hMv hx4 hb4 hb24 hb3 hb23 hxc hxz hnx
          go_wp2_with fail
          refine hza.mono ?_
          rintro e w5 ⟨⟨ZA, zc, rfl, hZ⟩, hb5⟩
          have hlz : (zs.map (zoneV g hz0 (x.n : Int))).length = m := by rw [List.length_map, hl]
          have ZC := Lib.hid (fun w' (hb : Below w5.heap.size w5 w') (k : Nat) (hk : k < m) => zone_get ((Rd.of_own2 hZ).next (Nat.le_refl _) hb) (k := k) (by rw [hlz]; exact hk))
          have ZS := Lib.hid (fun (k : Nat) (hk : k < m) => (show ((zs.map (zoneV g hz0 (x.n : Int)))[k]'(by rw [hlz]; exact hk)).s ≠ 0 from by
            rw [List.getElem_map]
            unfold zoneV
            rw [if_pos (HN2.out.2.2.1 _ (List.getElem_mem _))]
            have := HSZ.out.1
            show (x.n : Int) ≠ 0
            omega))
          have ZN := Lib.hid (fun (k : Nat) (hk : k < m) => zn_at (g := g) (hz := hz0) (size := (x.n : Int)) (zs := zs) (k := k) (by omega))
          obtain ⟨y, hy⟩ : ∃ y, (zs.map (zoneV g hz0 (x.n : Int)))[i]'(by rw [hlz]; omega) = y := ⟨_, rfl⟩
          obtain ⟨adz, rfl, _, g0, g1, g2⟩ := ZC.out w5 (Below.refl _ _) i (by omega)
          rw [hy] at g0 g1 g2
          have hys : y.s ≠ 0 := by rw [← hy]; exact ZS.out i (by omega)
          have hzy : zn g hz0 (x.n : Int) zs i = y := by rw [ZN.out i (by omega)]; exact hy
          have hbf := HN2.out.2.2.2.1
          rw [hzy] at hbf
          have hB5 := HN2.out.2.2.2.2.2.2.2.2.2.trans (hb5.mono HN2.out.2.2.2.2.2.2.2.2.2.size)
          obtain ⟨f0, f1, f2⟩ := PL.out w5 hb5
          have HB5 := Lib.hid (And.intro hb5 (And.intro hB5 hys))
          have HBF := Lib.hid hbf
          clear hy hzy hb5 hB5 hys hbf hZ hza
          go_wp2_with fail
          refine (rscore_pos y now w5 HB5.out.2.2).mono ?_
          rintro e w6 ⟨bst, c', rfl, hb6, hsc⟩
          obtain ⟨rfl, hbst⟩ : c' = 0 ∧ bst = wV now y := by
            rcases hsc with ⟨_, q⟩ | q
            · have := HBF.out.1; omega
            · exact q
          have hbl : bst ≤ 9218868437227405312 := by rw [hbst]; exact wV_le _ _
          have hb0 : 0 < bst := by rw [hbst]; exact HBF.out.1
          have t5 : (FloatKind.f64.format.order bst 0 == some .gt) = true := by rw [p_gt hbl (by omega)]; exact decide_eq_true hb0
          have HBS := Lib.hid (And.intro hbst (And.intro hbl hb6))
          clear hsc hbst hbl hb0
          go_wp2_with fail
          go_loopw [18] (fun j wr => ∃ k : Nat, k ≤ m ∧ j = .int .i64 (k : Int) ∧ Below w5.heap.size w5 wr) (fun j _ => m - (intOf j).toNat)
          case atStart => exact ⟨0, Nat.zero_le _, rfl, HBS.out.2.2⟩
          case round =>
            clear hb6
            obtain ⟨k, hk, rfl, hW⟩ := hrel
            have hm4 : m ≤ 400 := by rw [← hl]; exact HE.out.2.2.1.1
            obtain ⟨p0', p1', p2'⟩ := PL.out wr (HB5.out.1.trans (hW.mono HB5.out.1.size))
            by_cases hlt : k < m
            · obtain ⟨xk, hxk⟩ : ∃ xk, zs[k]'(by omega) = xk := ⟨_, rfl⟩
              obtain ⟨ad', e, z1⟩ := ZG.out wr (HB5.out.1.trans (hW.mono HB5.out.1.size)) k hlt
              injection e with e
              subst e
              rw [hxk] at z1
              unfold RoD.cell at z1
              obtain ⟨yk, hyk⟩ : ∃ yk, (zs.map (zoneV g hz0 (x.n : Int)))[k]'(by rw [List.length_map]; omega) = yk := ⟨_, rfl⟩
              obtain ⟨adz', e, _, h0, h1, h2⟩ := ZC.out wr hW k hlt
              injection e with e
              subst e
              rw [hyk] at h0 h1 h2
              have hsk : yk.s ≠ 0 := by rw [← hyk]; exact ZS.out k hlt
              have hzk : zn g hz0 (x.n : Int) zs k = yk := by rw [ZN.out k hlt]; exact hyk
              have k0 : (0 : Int) ≤ (k : Int) := by omega
              have k1 : (k : Int) < (m : Int) := by omega
              have HK := Lib.hid (And.intro hxk (And.intro hzk (And.intro hsk hW)))
              clear hxk hyk hzk hsk hW
              go_wp2_with fail
              refine (rscore_pos yk now wr HK.out.2.2.1).mono ?_
              rintro e w7 ⟨v, c', rfl, hb7, hsc⟩
              have hW7 := HK.out.2.2.2.trans (hb7.mono HK.out.2.2.2.size)
              obtain ⟨p0', p1', p2'⟩ := PL.out w7 (HB5.out.1.trans (hW7.mono HB5.out.1.size))
              have z1' : w7.cell? (ad.add k) = some (.slice xk.A xk.n xk.c) := by
                obtain ⟨ad', e, z1⟩ := ZG.out w7 (HB5.out.1.trans (hW7.mono HB5.out.1.size)) k hlt
                injection e with e
                subst e
                rw [HK.out.1] at z1
                exact z1
              have HSC := Lib.hid hsc
              have HW7 := Lib.hid hW7
              clear hsc hb7 hW7
              by_cases hln : xk.n = x.n
              · have e1 : ((xk.n : Int) == (x.n : Int)) = true := by rw [beq_iff_eq]; omega
                have e2 : decide ((xk.n : Int) = (x.n : Int)) = true := decide_eq_true (by omega)
                have e3 : (xk.n == x.n) = true := by rw [beq_iff_eq]; exact hln
                have HF := Lib.hid (HBF.out.2 k (by omega) (by rw [rn_at (by omega) HK.out.1]; omega))
                clear hln
                rcases HSC.out with ⟨rfl, hv⟩ | ⟨rfl, hv⟩
                · clear hv
                  go_wp2_with fail
                  go_roundw
                  case rel => exact ⟨k + 1, hlt, by go_num, HW7.out⟩
                  case measure => exact meas hlt
                · have hF := HF.out
                  rw [HK.out.2.1, ← hv, ← HBS.out.1] at hF
                  have hvl : v ≤ 9218868437227405312 := by have := HBS.out.2.1; omega
                  have t6 : (FloatKind.f64.format.order v bst == some .gt) = false := by rw [p_gt hvl HBS.out.2.1]; exact decide_eq_false (by omega)
                  by_cases hve : v = bst
                  · have t7 : (FloatKind.f64.format.order v bst == some .eq) = true := by rw [p_eq hvl HBS.out.2.1]; exact decide_eq_true hve
                    have t8 : decide ((k : Int) < (i : Int)) = false := decide_eq_false (by have := hF.2 hve; omega)
                    have t9 : decide (k < i) = false := decide_eq_false (by have := hF.2 hve; omega)
                    have t10 : ¬ k < i := by have := hF.2 hve; omega
                    clear hF hv hve hvl
                    go_wp2_with fail
                    go_roundw
                    case rel => exact ⟨k + 1, hlt, by go_num, HW7.out⟩
                    case measure => exact meas hlt
                  · have t7 : (FloatKind.f64.format.order v bst == some .eq) = false := by rw [p_eq hvl HBS.out.2.1]; exact decide_eq_false hve
                    clear hF hv hve hvl
                    go_wp2_with fail
                    go_roundw
                    case rel => exact ⟨k + 1, hlt, by go_num, HW7.out⟩
                    case measure => exact meas hlt
              · have e1 : ((xk.n : Int) == (x.n : Int)) = false := by rw [beq_eq_false_iff_ne]; omega
                have e2 : decide ((xk.n : Int) = (x.n : Int)) = false := decide_eq_false (by omega)
                have e3 : (xk.n == x.n) = false := by rw [beq_eq_false_iff_ne]; exact hln
                clear hln
                go_wp2_with fail
                go_roundw
                case rel => exact ⟨k + 1, hlt, by go_num, HW7.out⟩
                case measure => exact meas hlt
            · have k1 : ¬ ((k : Int) < (m : Int)) := by omega
              clear hlt hk
              have HW := Lib.hid hW
              clear hW
              obtain ⟨ad', e, z1⟩ := ZG.out wr (HB5.out.1.trans (HW.out.mono HB5.out.1.size)) i (by omega)
              injection e with e
              subst e
              rw [HN2.out.2.1] at z1
              unfold RoD.cell at z1
              go_wp2_with fail
              go_loopw [21, 22] (fun kv iv wr => ∃ k i2 : Nat, i2 ≤ x.n ∧ kv = .int .i64 (k : Int) ∧ iv = .int .i64 (i2 : Int) ∧ Below w5.heap.size w5 wr ∧ Hid (k = (liveL g hz0 (x.cs.take i2)).length)) (fun _ iv _ => x.n - (intOf iv).toNat)
              case atStart => exact ⟨0, 0, Nat.zero_le _, rfl, rfl, HW.out, Lib.hid (by simp [liveL])⟩
              case round =>
                clear p0' p1' p2' z1
                obtain ⟨k2, i2, hi2, rfl, rfl, hW7, HK2⟩ := hrel
                obtain ⟨p0', p1', p2'⟩ := PL.out wr (HB5.out.1.trans (hW7.mono HB5.out.1.size))
                obtain ⟨ad', e, z1⟩ := ZG.out wr (HB5.out.1.trans (hW7.mono HB5.out.1.size)) i (by omega)
                injection e with e
                subst e
                rw [HN2.out.2.1] at z1
                unfold RoD.cell at z1
                have hB7 := HB5.out.2.1.trans (hW7.mono HB5.out.2.1.size)
                have hcl := HX.out.1.len
                have hx4 : x.n ≤ 400 := HE.out.2.2.1.2 x (by rw [← HN2.out.2.1]; exact List.getElem_mem _)
                by_cases hlt2 : i2 < x.n
                · obtain ⟨cp, hcp⟩ : ∃ cp, x.cs[i2]'(by omega) = cp := ⟨_, rfl⟩
                  have hg2 := two_get cp_two (HX.out.1.rd.next (Nat.le_refl _) hB7) (k := i2) (by omega) (u := .int .i64 cp.lba) (v := .int .i64 cp.t) (by rw [hcp]; rfl)
                  obtain ⟨xa, hxa⟩ : ∃ xa, x.A = xa := ⟨_, rfl⟩
                  rw [hxa] at z1 hg2
                  obtain ⟨adc, rfl, hadc, y0, y1⟩ := hg2
                  obtain ⟨w8, hw8⟩ : ∃ w8, wr.alloc (.cells #[.int .i64 cp.lba, .int .i64 cp.t] 51) = w8 := ⟨_, rfl⟩
                  have hb8 : Below wr.heap.size wr w8 := by rw [← hw8]; exact (Below.refl _ _).alloc (Nat.le_refl _) _
                  have hx8 : Bk w8 wr.heap.size 51 [.int .i64 cp.lba, .int .i64 cp.t] := by rw [← hw8]; exact Bk.new wr _ _
                  have s0 := hx8.cell (i := 0) (by simp)
                  have s1 := hx8.cell (i := 1) (by simp)
                  simp only [List.getElem_cons_zero, List.getElem_cons_succ] at s0 s1
                  have hW8 := hW7.trans (hb8.mono hW7.size)
                  have hE8 := HE.out.1.next (HN2.out.2.2.2.2.2.2.2.2.1.trans ((HB5.out.1.trans (hW8.mono HB5.out.1.size)).mono HN2.out.2.2.2.2.2.2.2.2.1.size))
                  have j0 : (0 : Int) ≤ (i2 : Int) := by omega
                  have j1 : (i2 : Int) < (x.n : Int) := by omega
                  have HC := Lib.hid (And.intro hcp (And.intro hx8 (And.intro hW8 hE8)))
                  clear hx8 hW8 hE8 hb8 hW7 hB7 hadc hxa
                  go_wp2_with fail
                  refine (live_any w1.heap.size gm _ _ _ g cp hz0 w8 HC.out.2.2.2 HE.out.2.2.2).mono ?_
                  rintro e w9 ⟨rfl, hb9⟩
                  have hW9 := HC.out.2.2.1.trans (hb9.mono HC.out.2.2.1.size)
                  have HW9 := Lib.hid hW9
                  cases hlv : liveB g hz0 cp
                  · have HK3 := Lib.hid (show k2 = (liveL g hz0 (x.cs.take (i2 + 1))).length by rw [liveL_no (by rw [HX.out.1.len]; exact hlt2) HC.out.1 hlv]; exact HK2.out)
                    clear hlv hW9 hb9
                    go_wp2_with fail
                    go_roundw
                    case rel => exact ⟨k2, i2 + 1, hlt2, rfl, by go_num, HW9.out, HK3⟩
                    case measure => exact meas hlt2
                  · have HK3 := Lib.hid (show k2 + 1 = (liveL g hz0 (x.cs.take (i2 + 1))).length by rw [liveL_yes (by rw [HX.out.1.len]; exact hlt2) HC.out.1 hlv, List.length_append, ← HK2.out]; rfl)
                    obtain ⟨hm1, hm2⟩ := live_at (by rw [HX.out.1.len]; exact hlt2) HC.out.1 hlv
                    rw [HN2.out.2.2.2.2.1, ← HK2.out] at hm1
                    simp only [← HK2.out] at hm2
                    obtain ⟨p0', p1', p2'⟩ := PL.out w9 (HB5.out.1.trans (hW9.mono HB5.out.1.size))
                    have hmg := two_get cp_two (HN2.out.2.2.2.2.2.1.rd.next (Nat.le_refl _) (HN2.out.2.2.2.2.2.2.2.1.trans ((HB5.out.1.trans (hW9.mono HB5.out.1.size)).mono HN2.out.2.2.2.2.2.2.2.1.size))) (k := k2) (by rw [HN2.out.2.2.2.2.1]; exact hm1) (u := .int .i64 cp.lba) (v := .int .i64 cp.t) (by rw [hm2]; rfl)
                    obtain ⟨ma, hma⟩ : ∃ ma, MA = ma := ⟨_, rfl⟩
                    rw [hma] at hmg p1'
                    obtain ⟨adm, rfl, hadm, u0, u1⟩ := hmg
                    have v0 : w9.cell? ⟨wr.heap.size, 0, none⟩ = some (.int .i64 cp.lba) := (HC.out.2.1.next hb9 HC.out.2.1.lt).cell (i := 0) (by simp)
                    have v1 : w9.cell? ⟨wr.heap.size, 1, none⟩ = some (.int .i64 cp.t) := (HC.out.2.1.next hb9 HC.out.2.1.lt).cell (i := 1) (by simp)
                    have o0 : decide ((nm : Int) ≤ (k2 : Int)) = false := decide_eq_false (by omega)
                    have o1 : (0 : Int) ≤ (k2 : Int) := by omega
                    have o2 : (k2 : Int) < (nm : Int) := by omega
                    have o3 : decide (nm ≤ k2) = false := decide_eq_false (by omega)
                    have o4 : k2 < 400 := by have := liveL_len g hz0 x.cs; rw [HX.out.1.len, HN2.out.2.2.2.2.1] at this; omega
                    clear hlv hW9 hb9 hm1 hm2 hma hadm
                    go_wp2_with fail
                    refine wp_region_held_drew (S := Drawn w9) (by kernel_rfl) (by first | exact Drawn.of _ _ | exact Drawn.one _) (fun hHeld => ?_)
                    refine wpAnyH_take (i := 0) (v := ?v1_0) (by simp only [List.getElem?_toArray, List.getElem?_cons_succ, List.getElem?_cons_zero]; rfl) (by kernel_rfl) (by kernel_rfl) (by kernel_rfl) (by exact fun _ _ _ h => h) (Or.inl ⟨by rfl, ?h1_0⟩) hHeld ?_
                    case h1_0 => (intro w' hSw; obtain ⟨m, rfl⟩ := hSw; go_simp <;> with_reducible rfl)
                    try simp only [Act.put, List.setIfInBounds_toArray, List.set_cons_zero, List.set_cons_succ]
                    refine wpAnyH_take (i := 1) (v := ?v2_1) (by simp only [List.getElem?_toArray, List.getElem?_cons_succ, List.getElem?_cons_zero]; rfl) (by kernel_rfl) (by kernel_rfl) (by kernel_rfl) (by exact fun _ _ _ h => h) (Or.inl ⟨by rfl, ?h2_1⟩) hHeld ?_
                    case h2_1 => (intro w' hSw; obtain ⟨m, rfl⟩ := hSw; go_simp <;> with_reducible rfl)
                    try simp only [Act.put, List.setIfInBounds_toArray, List.set_cons_zero, List.set_cons_succ]
                    refine wpAnyH_take (i := 2) (v := ?v3_2) (by simp only [List.getElem?_toArray, List.getElem?_cons_succ, List.getElem?_cons_zero]; rfl) (by kernel_rfl) (by kernel_rfl) (by kernel_rfl) (by exact fun _ _ _ h => h) (Or.inl ⟨by rfl, ?h3_2⟩) hHeld ?_
                    case h3_2 => (intro w' hSw; obtain ⟨m, rfl⟩ := hSw; go_simp <;> with_reducible rfl)
                    try simp only [Act.put, List.setIfInBounds_toArray, List.set_cons_zero, List.set_cons_succ]
                    refine wpAnyH_take (i := 3) (v := ?v4_3) (by simp only [List.getElem?_toArray, List.getElem?_cons_succ, List.getElem?_cons_zero]; rfl) (by kernel_rfl) (by kernel_rfl) (by kernel_rfl) (by exact fun _ _ _ h => h) (Or.inl ⟨by rfl, ?h4_3⟩) hHeld ?_
                    case h4_3 => (intro w' hSw; obtain ⟨m, rfl⟩ := hSw; go_simp <;> with_reducible rfl)
                    try simp only [Act.put, List.setIfInBounds_toArray, List.set_cons_zero, List.set_cons_succ]
                    refine wpAnyH_take (i := 4) (v := ?v5_4) (by simp only [List.getElem?_toArray, List.getElem?_cons_succ, List.getElem?_cons_zero]; rfl) (by kernel_rfl) (by kernel_rfl) (by kernel_rfl) (by exact fun _ _ _ h => h) (Or.inl ⟨by rfl, ?h5_4⟩) hHeld ?_
                    case h5_4 => (intro w' hSw; obtain ⟨m, rfl⟩ := hSw; go_simp <;> with_reducible rfl)
                    try simp only [Act.put, List.setIfInBounds_toArray, List.set_cons_zero, List.set_cons_succ]
                    refine wpAnyH_take (i := 5) (v := ?v6_5) (by simp only [List.getElem?_toArray, List.getElem?_cons_succ, List.getElem?_cons_zero]; rfl) (by kernel_rfl) (by kernel_rfl) (by kernel_rfl) (by exact fun _ _ _ h => h) (Or.inl ⟨by rfl, ?h6_5⟩) hHeld ?_
                    case h6_5 => (intro w' hSw; obtain ⟨m, rfl⟩ := hSw; go_simp <;> with_reducible rfl)
                    try simp only [Act.put, List.setIfInBounds_toArray, List.set_cons_zero, List.set_cons_succ]
                    refine wpAnyH_take (i := 6) (v := ?v7_6) (by simp only [List.getElem?_toArray, List.getElem?_cons_succ, List.getElem?_cons_zero]; rfl) (by kernel_rfl) (by kernel_rfl) (by kernel_rfl) (by exact fun _ _ _ h => h) (Or.inl ⟨by rfl, ?h7_6⟩) hHeld ?_
                    case h7_6 => (intro w' hSw; obtain ⟨m, rfl⟩ := hSw; go_simp <;> with_reducible rfl)
                    try simp only [Act.put, List.setIfInBounds_toArray, List.set_cons_zero, List.set_cons_succ]
                    refine wpAnyH_take (i := 7) (v := ?v8_7) (by simp only [List.getElem?_toArray, List.getElem?_cons_succ, List.getElem?_cons_zero]; rfl) (by kernel_rfl) (by kernel_rfl) (by kernel_rfl) (by exact fun _ _ _ h => h) (Or.inl ⟨by rfl, ?h8_7⟩) hHeld ?_
                    case h8_7 => (intro w' hSw; obtain ⟨m, rfl⟩ := hSw; go_simp <;> with_reducible rfl)
                    try simp only [Act.put, List.setIfInBounds_toArray, List.set_cons_zero, List.set_cons_succ]
                    refine wpAnyH_take (i := 8) (v := ?v9_8) (by simp only [List.getElem?_toArray, List.getElem?_cons_succ, List.getElem?_cons_zero]; rfl) (by kernel_rfl) (by kernel_rfl) (by kernel_rfl) (by exact fun _ _ _ h => h) (Or.inl ⟨by rfl, ?h9_8⟩) hHeld ?_
                    case h9_8 => (intro w' hSw; obtain ⟨m, rfl⟩ := hSw; go_simp <;> with_reducible rfl)
                    try simp only [Act.put, List.setIfInBounds_toArray, List.set_cons_zero, List.set_cons_succ]
                    refine wpAnyH_take (i := 9) (v := ?v10_9) (by simp only [List.getElem?_toArray, List.getElem?_cons_succ, List.getElem?_cons_zero]; rfl) (by kernel_rfl) (by kernel_rfl) (by kernel_rfl) (by exact fun _ _ _ h => h) (Or.inl ⟨by rfl, ?h10_9⟩) hHeld ?_
                    case h10_9 => (intro w' hSw; obtain ⟨m, rfl⟩ := hSw; go_simp <;> with_reducible rfl)
                    try simp only [Act.put, List.setIfInBounds_toArray, List.set_cons_zero, List.set_cons_succ]
                    refine wpAnyH_take (i := 10) (v := ?v11_10) (by simp only [List.getElem?_toArray, List.getElem?_cons_succ, List.getElem?_cons_zero]; rfl) (by kernel_rfl) (by kernel_rfl) (by kernel_rfl) (by exact fun _ _ _ h => h) (Or.inl ⟨by rfl, ?h11_10⟩) hHeld ?_
                    case h11_10 => (intro w' hSw; obtain ⟨m, rfl⟩ := hSw; go_simp <;> with_reducible rfl)
                    try simp only [Act.put, List.setIfInBounds_toArray, List.set_cons_zero, List.set_cons_succ]
                    refine wpAnyH_take (i := 11) (v := ?v12_11) (by simp only [List.getElem?_toArray, List.getElem?_cons_succ, List.getElem?_cons_zero]; rfl) (by kernel_rfl) (by kernel_rfl) (by kernel_rfl) (by exact fun _ _ _ h => h) (Or.inl ⟨by rfl, ?h12_11⟩) hHeld ?_
                    case h12_11 => (intro w' hSw; obtain ⟨m, rfl⟩ := hSw; go_simp <;> with_reducible rfl)
                    try simp only [Act.put, List.setIfInBounds_toArray, List.set_cons_zero, List.set_cons_succ]
                    refine wpAnyH_take (i := 12) (v := ?v13_12) (by simp only [List.getElem?_toArray, List.getElem?_cons_succ, List.getElem?_cons_zero]; rfl) (by kernel_rfl) (by kernel_rfl) (by kernel_rfl) (by exact fun _ _ _ h => h) (Or.inl ⟨by rfl, ?h13_12⟩) hHeld ?_
                    case h13_12 => (intro w' hSw; obtain ⟨m, rfl⟩ := hSw; go_simp <;> with_reducible rfl)
                    try simp only [Act.put, List.setIfInBounds_toArray, List.set_cons_zero, List.set_cons_succ]
                    refine wpAnyH_take (i := 13) (v := ?v14_13) (by simp only [List.getElem?_toArray, List.getElem?_cons_succ, List.getElem?_cons_zero]; rfl) (by kernel_rfl) (by kernel_rfl) (by kernel_rfl) (by exact fun _ _ _ h => h) (Or.inl ⟨by rfl, ?h14_13⟩) hHeld ?_
                    case h14_13 => (intro w' hSw; obtain ⟨m, rfl⟩ := hSw; go_simp <;> with_reducible rfl)
                    try simp only [Act.put, List.setIfInBounds_toArray, List.set_cons_zero, List.set_cons_succ]
                    refine wpAnyH_done (by kernel_rfl) ?_ _
                    go_wp2_with fail
                    go_roundw
                    case rel => exact ⟨k2 + 1, i2 + 1, hlt2, by go_num, by go_num, bdrew HW9.out, HK3⟩
                    case measure => exact meas hlt2
                · have hi3 : i2 = x.n := by omega
                  have hkn : k2 = nm := by rw [HK2.out, List.take_of_length_le (by rw [hcl]; omega)]; exact HN2.out.2.2.2.2.1
                  have j1 : ¬ ((i2 : Int) < (x.n : Int)) := by omega
                  have hnl : nm ≤ x.n := by have := liveL_len g hz0 x.cs; rw [hcl, HN2.out.2.2.2.2.1] at this; exact this
                  have wk : wrap64 ((x.n : Int) - (nm : Int)) = (x.n : Int) - (nm : Int) := by unfold wrap64; omega
                  subst hkn
                  have HB7 := Lib.hid hB7
                  clear hi3 hlt2 hi2 HK2 hW7 hB7
                  go_wp2_with fail
                  refine (awake_any _).mono ?_
                  rintro e w' ⟨rfl, hbA⟩
                  go_wp2_with fail
                  go_ret
                  exact ⟨rfl, HB7.out.trans (hbA.mono HB7.out.size)⟩
end Go.Proofs.Ytchhnjadnacniaa.Cm
