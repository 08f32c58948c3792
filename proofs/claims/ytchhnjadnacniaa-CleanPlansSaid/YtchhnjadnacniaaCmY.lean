/- The contract of the reference's Run. -/
import Derived.Test.YtchhnjadnacniaaCmX
import Derived.Test.YtchhnjadnacniaaCmR
import Derived.Test.YtchhnjadnacniaaRrB
import Derived.Maps.AppendAt
namespace Go.Proofs.Ytchhnjadnacniaa.Cm
set_option linter.unusedSimpArgs false
set_option linter.unusedVariables false
open Go.RowKit Rk

theorem wpList_appC {ops : Array Oper} {rest : List Oper} {o : Oper} {a : Act} {Q : Exit → Act → World → Prop} {w : World} (hgd : o.guard = none) (s x : Operand) (ho : o.op = .call { callee := .builtin .append, args := #[s, x], argTypes := #[54, 54] })
    (B : Nat) (v : Value) (n : Nat) (xs : List Value) (hs : a.eval s = v) (hown : w.ownsRow B 51 2 v n xs)
    (B2 : Nat) (A : Option Addr) (m c : Nat) (news : List Value) (hx : a.eval x = .slice A m c) (hl : news.length = m * 2) (hr : Rd w B2 A news) (h1 : ∀ u ∈ news, u.oneCell' = true) (hn : n + m ≤ 1000000) (hB : B ≤ w.heap.size)
    (h : ∀ v' w', w'.ownsRow B 51 2 v' (n + m) (xs ++ news) → w.grownBy w' v.ownBlock → wpList Try.prog ops Q rest (a.put o.dst v') w') : wpList Try.prog ops Q (o :: rest) a w :=
  wpList_plain hgd fun _ hK => wp_appC s x ho B v n xs hs hown B2 A m c news hx hl hr h1 hn hB fun v' w' h2 h3 _ => hK _ _ (h v' w' h2 h3)
/-- T: the least of the numbers from k2 on (below k) that f takes, or -1. -/
def ToOk (f : Nat → Bool) (k2 k : Nat) (T : Int) : Prop := (T = -1 ∧ ∀ j, k2 ≤ j → j < k → f j = false) ∨ (∃ t : Nat, T = (t : Int) ∧ t < k ∧ f t = true ∧ ∀ j, k2 ≤ j → j < t → f j = false)
theorem sum_in {a c : Nat} (ha : a ≤ 1000) (hc : c ≤ 1000) : wrap64 ((a : Int) + (c : Int)) = (a : Int) + (c : Int) ∧ IntKind.i64.wrap ((a : Int) + (c : Int)) = (a : Int) + (c : Int) := ⟨by unfold wrap64; omega, IntWalk.i64_in _ (by omega)⟩
theorem down_meas {m : Nat} (h : wrap64 ((m : Int) - 1) = (m : Int) - 1) : (wrap64 ((m : Int) - 1) + 1).toNat < ((m : Int) + 1).toNat := by rw [h]; omega
theorem ToOk.start (f : Nat → Bool) (k : Nat) : ToOk f k k (-1) := .inl ⟨rfl, fun j h1 h2 => absurd h1 (by omega)⟩
theorem ToOk.no {f : Nat → Bool} {k2 k : Nat} {T : Int} (h : ToOk f (k2 + 1) k T) (hf : f k2 = false) : ToOk f k2 k T := by
  have key : ∀ j, k2 ≤ j → (k2 + 1 ≤ j → f j = false) → f j = false := fun j h1 h2 => by
    rcases Nat.lt_or_ge k2 j with g | g
    · exact h2 g
    · obtain rfl : j = k2 := by omega
      exact hf
  rcases h with ⟨rfl, h⟩ | ⟨t, rfl, h1, h2, h3⟩
  · exact .inl ⟨rfl, fun j a b => key j a fun c => h j c b⟩
  · exact .inr ⟨t, rfl, h1, h2, fun j a b => key j a fun c => h3 j c b⟩
theorem ToOk.yes {f : Nat → Bool} {k2 k : Nat} (hk : k2 < k) (hf : f k2 = true) : ToOk f k2 k (k2 : Int) := .inr ⟨k2, rfl, hk, hf, fun j h1 h2 => absurd h1 (by omega)⟩
set_option maxRecDepth 100000 in
set_option maxHeartbeats 4000000 in
theorem rrun_any (B xm N xn xc : Nat) (last : Int) (XA : Option Addr) (L : List XV) (g : Int → List Int) (A : Option Addr) (n c : Nat) (zs : List RoD) (size hz0 now steps : Int) (w : World) (hX : RMx w B xm N last XA xn xc L) (hN : N ≤ 100000) (hLB : ∀ y, liveR hz0 (L.map XV.pr) y = liveB g hz0 y) (hz : IsZs w A n c zs) (hn : n ≤ 1000) (hxn : ∀ x ∈ zs, x.n ≤ 1000) (hsz : size ≤ 1000) :
    Calls Try.prog 33 #[.pointer (some ⟨xm, 0, none⟩), .slice A n c, .int .i64 size, .int .i64 hz0, .int .i64 now, .int .i64 steps] w fun e w' => (∃ os, ∃ v, e = .returned v ∧ OutX w.heap.size w' v os ∧ css os = iterC g hz0 size now (runN steps) (css zs)) ∧ Below w.heap.size w w' := by
  have hl := hz.len
  obtain ⟨i0, hi0, hz0', hz1, hz2⟩ := info_parts infoCS
  go_enter Try.func33, Try.ntmps33
  go_wp2_with fail
  go_loopw [13, 14] (fun v i wr => ∃ (k : Nat) (os : List RoD), k ≤ n ∧ i = .int .i64 (k : Int) ∧ OutX w.heap.size wr v os ∧ css os = css (zs.take k) ∧ Below w.heap.size w wr) (fun _ i _ => n - (intOf i).toNat)
  case atStart => exact ⟨0, [], Nat.zero_le _, rfl, OutX.nil _ _, by simp [css], Below.refl _ _⟩
  case round =>
    obtain ⟨k, os, hk, rfl, hO, hcs, hW⟩ := hrel
    have hol : os.length = k := by have := congrArg List.length hcs; unfold css at this; rw [List.length_map, List.length_map, List.length_take] at this; omega
    by_cases hlt : k < n
    · obtain ⟨y, hyk⟩ : ∃ y, zs[k]'(by omega) = y := ⟨_, rfl⟩
      obtain ⟨ad, rfl, had, c0⟩ := (hz.rd.next (Nat.le_refl _) hW).get (k := k) (by rw [List.length_map]; omega)
      rw [List.getElem_map, hyk] at c0
      unfold RoD.cell at c0
      have n0 : (k : Int) < (n : Int) := by omega
      have n1 : (0 : Int) ≤ (k : Int) := by omega
      have hym : y ∈ zs := by rw [← hyk]; exact List.getElem_mem _
      have c1 : (wr.alloc (.cells #[] 51)).cell? (ad.add k) = some (.slice y.A y.n y.c) := ((Below.refl wr.heap.size wr).alloc (Nat.le_refl _) (.cells #[] 51)).cell (p := ad.add k) (by rw [add_block]; exact Nat.lt_of_lt_of_le had hW.size) |>.trans c0
      have HY := Lib.hid (And.intro hyk (And.intro ((hz.rows y hym).next hW) (And.intro (hxn y hym) (hz.rows y hym))))
      have HO := Lib.hid (And.intro hO (And.intro hcs (And.intro hW hol)))
      have HLEN := Lib.hid (show os.length + 1 ≤ 1000000000 ∧ (os.length + 1) * 24 ≤ 1000000000000 by omega)
      clear hyk hym hO hcs hW had
      go_wp2_with (first | (at_builtin; refine wpList_appC rfl _ _ rfl wr.heap.size _ 0 [] (by rfl) (by exact World.ownsRow_lit wr #[] 0 (Nat.le_refl _) (by decide) (by rfl)) wr.heap.size y.A y.n y.c (y.cs.flatMap CpD.cells) (by rfl) (by rw [flat_len cp_two, HY.out.2.1.len]) (by exact HY.out.2.1.rd.alloc (Nat.le_refl _) _) one_cps (by have := HY.out.2.2.1; omega) (by simp) ?_; intro v5 w5 hO5 hG5; rw [Nat.zero_add, List.nil_append] at hO5; have hb5 : Below wr.heap.size wr w5 := ((Below.refl _ _).alloc (Nat.le_refl _) _).grown hG5 (by simp) (fun g hg => Nat.le_of_eq (Option.some.inj (show some wr.heap.size = some g from hg))); obtain ⟨xA, xc5, rfl⟩ := own_shape hO5; have hb6 : Below wr.heap.size wr (w5.alloc (.cells #[.slice xA y.n xc5] 54)) := hb5.alloc hb5.size _; have HG := Lib.hid (And.intro (HO.out.1.next hb6).own (show w.heap.size ≤ (w5.alloc (.cells #[.slice xA y.n xc5] 54)).heap.size from Nat.le_trans HO.out.2.2.1.size hb6.size)); have HX := Lib.hid (And.intro (own_bel' hO5 ((Below.refl _ _).alloc (Nat.le_refl _) (.cells #[.slice xA y.n xc5] 54))) hb6); clear hO5 hb5 hb6 hG5) | (at_builtin; go_must (refine wpList_appN _ rfl _ _ 53 rfl w.heap.size 54 i0 (.slice none 0 0) 24 Try.underlying53 hi0 hz0' hz1 hz2 rfl _ os.length _ (by rfl) (by exact HG.out.1) (w5.heap.size + 1) (some ⟨w5.heap.size, 0, none⟩) 1 1 [.slice xA y.n xc5] (by rfl) rfl (by simpa using (Bk.new w5 54 [.slice xA y.n xc5]).rd) (by intro u hu; simp at hu; subst hu; rfl) (by exact HLEN.out.1) (by exact HLEN.out.2) (by exact HG.out.2) ?_); intro v9 W9 hO9 hG9))
      have hO9' := HO.out.1.push HX.out.2 ⟨xA, y.n, xc5, y.cs⟩ HO.out.2.2.1.size HX.out.1 HY.out.2.2.2.len.symm HY.out.2.2.2.wf HY.out.2.2.1 hG9 hO9
      have hW9 := (HO.out.2.2.1.trans (HX.out.2.mono HO.out.2.2.1.size)).grown hG9 HG.out.2 (fun g hg => (own_obj HG.out.1 hg).1)
      have hc9 : css (os ++ [⟨xA, y.n, xc5, y.cs⟩]) = css (zs.take (k + 1)) := by
        unfold css at *
        rw [List.map_append, List.take_succ_eq_append_getElem (by omega), List.map_append, HY.out.1]
        rw [show os.map (·.cs) = (zs.take k).map (·.cs) from HO.out.2.1]
        simp
      go_roundw
      case rel => exact ⟨k + 1, os ++ [⟨xA, y.n, xc5, y.cs⟩], hlt, by go_num, hO9', hc9, hW9⟩
      case measure => exact meas hlt
    · obtain rfl : k = n := by omega
      rw [List.take_of_length_le (by omega)] at hcs
      have hO0 := hO
      obtain ⟨VA, vc, rfl, _⟩ := hO0.zs
      rw [hol] at hO ⊢
      have HO := Lib.hid (And.intro hO (And.intro hcs (And.intro hW hol)))
      obtain ⟨NN, hNN⟩ : ∃ NN, runN steps = NN := ⟨_, rfl⟩
      have HNN := Lib.hid (show runN steps = NN ∧ NN ≤ 1000 from ⟨hNN, by rw [← hNN]; unfold runN; omega⟩)
      have HST := Lib.hid (show ∀ j : Nat, j < NN ↔ (j : Int) < steps ∧ (j : Int) < 1000 from fun j => by rw [← hNN]; unfold runN; omega)
      clear hO hO0 hcs hW hlt hk hol hNN
      go_wp2_with fail
      go_loopw [15] (fun i wr => ∃ (j : Nat) (os : List RoD), j ≤ NN ∧ i = .int .i64 (j : Int) ∧ OutX w.heap.size wr (.slice VA k vc) os ∧ os.length = k ∧ Hid (iterC g hz0 size now (NN - j) (css os) = iterC g hz0 size now NN (css zs)) ∧ Below w.heap.size w wr) (fun i _ => NN - (intOf i).toNat)
      case atStart => exact ⟨0, os, Nat.zero_le _, rfl, HO.out.1, HO.out.2.2.2, Lib.hid (by rw [HO.out.2.1]; rfl), HO.out.2.2.1⟩
      case round =>
        clear HO
        obtain ⟨wo, hwo⟩ : ∃ wo, wo = wr := ⟨_, rfl⟩
        subst hwo
        obtain ⟨j, os, hj, rfl, hO, hol, HI, hW⟩ := hrel
        have hNb : NN ≤ 1000 := HNN.out.2
        by_cases hlt : j < NN
        · obtain ⟨VA', vc', e, hZ⟩ := hO.zs
          have hZ : IsZs wo VA k vc os := by rw [hol] at e hZ; injection e with e1 _ e3; subst e1; subst e3; exact hZ
          have n0 : (j : Int) < steps := ((HST.out j).1 hlt).1
          have n1 : (j : Int) < 1000 := ((HST.out j).1 hlt).2
          have hnx := rnext_any B xm N xn xc last XA L g VA k vc os size hz0 now wo (hX.keep fun b ob hb _ => (hW.block b (Array.getElem?_eq_some_iff.1 hb).1).trans hb) hN hLB hZ hn hO.sm
          have HO := Lib.hid (And.intro hO (And.intro hol hW))
          clear e hZ hO hol hW
          go_wp2_with fail
          refine hnx.mono ?_
          rintro e w3 ⟨hN, hb3⟩
          rcases nextR_C HO.out.1.fair hN with ⟨hnc, r, hr, rfl⟩ | ⟨p, x, MA, mc, hxp, hxs, hs1, hnc, rfl, hMv, hnl⟩
          · have hst : stepC g hz0 size now (css os) = none := by unfold stepC; rw [hnc]
            have HSN := Lib.hid hst
            have hb34 : Below wo.heap.size wo (w3.alloc (.cells #[.int .i64 0, .slice none 0 0, .int .i64 0] 65)) := hb3.alloc hb3.size _
            have HB := Lib.hid hb34
            have HRET := Lib.hid (show (∃ os', ∃ v, Ending.returned (.slice VA k vc) = .returned v ∧ OutX w.heap.size (w3.alloc (.cells #[.int .i64 0, .slice none 0 0, .int .i64 0] 65)) v os' ∧ css os' = iterC g hz0 size now (runN steps) (css zs)) ∧ Below w.heap.size w (w3.alloc (.cells #[.int .i64 0, .slice none 0 0, .int .i64 0] 65)) from
              ⟨⟨os, _, rfl, HO.out.1.next HB.out, by
                have := HI.out
                rw [iterC_none HSN.out] at this
                rw [HNN.out.1]; exact this⟩, HO.out.2.2.trans (HB.out.mono HO.out.2.2.size)⟩)
            unfold planC
            clear hst hb34 hb3 hnx hnc hN
            rcases hr with rfl | rfl
            · go_wp2_with fail
              go_ret
              exact HRET.out
            · go_wp2_with fail
              go_ret
              exact HRET.out
          · obtain ⟨hpl, hxp'⟩ := List.getElem?_eq_some_iff.1 hxp
            obtain ⟨nm, hnm⟩ : ∃ nm, (liveL g hz0 x.cs).length = nm := ⟨_, rfl⟩
            rw [hnm] at hMv hnl ⊢
            obtain ⟨w4, hw4⟩ : ∃ w4, w3.alloc (.cells #[.int .i64 (p : Int), .slice MA nm mc, .int .i64 ((x.n : Int) - (nm : Int))] 65) = w4 := ⟨_, rfl⟩
            have hx4 : Bk w4 w3.heap.size 65 [.int .i64 (p : Int), .slice MA nm mc, .int .i64 ((x.n : Int) - (nm : Int))] := by rw [← hw4]; exact Bk.new w3 _ _
            have hb4 : Below w3.heap.size w3 w4 := by rw [← hw4]; exact (Below.refl _ _).alloc (Nat.le_refl _) _
            have hO4 := (HO.out.1.next hb3).next hb4
            have hW4 := HO.out.2.2.trans ((hb3.trans (hb4.mono hb3.size)).mono HO.out.2.2.size)
            have HX := Lib.hid (And.intro hpl (And.intro hxp' (And.intro hxs (And.intro hnc (And.intro hnm (And.intro (hMv.next hb4) (And.intro hx4 (And.intro hO4 hW4))))))))
            have HNL := Lib.hid (And.intro hnl hs1)
            have wk0 : wrap64 ((k : Int) - 1) = (k : Int) - 1 := by unfold wrap64; omega
            unfold planC
            clear hxp hxp' hxs hnc hnm hMv hx4 hb4 hb3 hnx hN hO4 hW4 hnl hs1
            go_wp2_with fail
            go_loopw [18, 19] (fun t i wr => ∃ (k2 q : Nat) (I T : Int), k2 ≤ k ∧ i = .int .i64 I ∧ t = .int .i64 T ∧ Hid (I = (k2 : Int) - 1) ∧ wr = w4.drewN q ∧ Hid (ToOk (fitC size (css os) p (liveL g hz0 x.cs)) k2 k T)) (fun _ i _ => ((intOf i) + 1).toNat)
            case atStart => exact ⟨k, 0, _, _, Nat.le_refl _, rfl, rfl, Lib.hid rfl, rfl, Lib.hid (ToOk.start _ _)⟩
            case round =>
              obtain ⟨k2, q, I, T, hk2, rfl, rfl, hI, rfl, HF⟩ := hrel
              have hlen4 : os.length = k := HO.out.2.1
              have hk0 : 0 < k := by have := HX.out.1; omega
              obtain ⟨go, gc, hgo⟩ := own_slice HX.out.2.2.2.2.2.2.2.1.own (by omega)
              rw [hlen4] at hgo
              injection hgo with hgo1 _ hgo2
              subst hgo1
              subst hgo2
              have hown4 := HX.out.2.2.2.2.2.2.2.1.own
              rw [hlen4] at hown4
              rcases k2 with _ | k2
              · obtain rfl : I = -1 := by have := hI.out; omega
                clear hI
                rcases HF.out with ⟨rfl, hno⟩ | ⟨t, rfl, htk, hft, hno⟩
                · have hst : stepC g hz0 size now (css os) = none := by
                    unfold stepC
                    rw [HX.out.2.2.2.1]
                    simp only []
                    rw [place_none fun j h => hno j (Nat.zero_le _) (by rw [css_len] at h; omega)]
                  have HSN := Lib.hid hst
                  clear hst hno hown4
                  go_wp2_with fail
                  go_ret
                  refine ⟨⟨os, _, rfl, HX.out.2.2.2.2.2.2.2.1.heap rfl, ?_⟩, bdrewN HX.out.2.2.2.2.2.2.2.2 q⟩
                  have := HI.out
                  rw [iterC_none HSN.out] at this
                  rw [HNN.out.1]; exact this
                · have HTK := Lib.hid htk
                  obtain ⟨y, hy⟩ : ∃ y, os[t]'(by rw [hlen4]; exact HTK.out) = y := ⟨_, rfl⟩
                  have hyc : y.n ≤ 1000 := HO.out.1.sm y (by rw [← hy]; exact List.getElem_mem _)
                  have hyf : y.n = y.cs.length := HO.out.1.fair y (by rw [← hy]; exact List.getElem_mem _)
                  have T1 := Lib.hid (fun w' (h : NotC w4 w') => (show w'.cell? ⟨go, t, none⟩ = some (.slice y.A y.n y.c) ∧ w'.cell? ⟨go, p, none⟩ = some x.cell ∧ (∀ j, w'.frozen? ⟨go, j, none⟩ = false) ∧ w'.cell? ⟨w3.heap.size, 0, none⟩ = some (.int .i64 (p : Int)) ∧ w'.cell? ⟨w3.heap.size, 1, none⟩ = some (.slice MA nm mc) from by
                    have ho := h.own hown4 (by decide)
                    refine ⟨?_, ?_, fun j => ho.frozenAt j, (h.bk HX.out.2.2.2.2.2.2.1 (by decide)).cell (i := 0) (by simp), (h.bk HX.out.2.2.2.2.2.2.1 (by decide)).cell (i := 1) (by simp)⟩
                    · rw [ho.cellAt t (by omega), List.getElem?_map, List.getElem?_eq_getElem (by omega), hy]; rfl
                    · rw [ho.cellAt p (by have := HX.out.1; omega), List.getElem?_map, List.getElem?_eq_getElem HX.out.1, HX.out.2.1]; rfl))
                  have m0 : (t : Int) < (k : Int) := by omega
                  have m1 : (0 : Int) ≤ (t : Int) := by omega
                  have m2 : ¬ ((t : Int) < 0) := by omega
                  have hfy : (liveL g hz0 x.cs).length + y.n ≤ size.toNat := by
                    unfold fitC at hft
                    rw [css_get (by omega), hy, ← hyf] at hft
                    simp only [Bool.and_eq_true, decide_eq_true_eq] at hft
                    omega
                  have HNS := Lib.hid (show nm + y.n ≤ 1000 by rw [HX.out.2.2.2.2.1] at hfy; omega)
                  have HYY := Lib.hid (And.intro hy (And.intro hyc hyf))
                  have HFT := Lib.hid (And.intro hft hno)
                  have U1 := Lib.hid (fun w' (h : NotC w4 w') => (T1.out w' h).1)
                  have U2 := Lib.hid (fun w' (h : NotC w4 w') => (T1.out w' h).2.2.2.2)
                  have HROW := Lib.hid (show w4.ownsRow w.heap.size 51 2 (.slice y.A y.n y.c) y.n (y.cs.flatMap CpD.cells) from by
                    have := HX.out.2.2.2.2.2.2.2.1.row y (by rw [← HYY.out.1]; exact List.getElem_mem _)
                    exact this)
                  have HB4 := Lib.hid (show w.heap.size ≤ w4.heap.size from HX.out.2.2.2.2.2.2.2.2.size)
                  clear hy hyc hown4 hyf hfy hft hno htk HF hk2
                  go_wp2_with fail
                  refine anyL_start (NotC w4) 10 (by kernel_rfl) (⟨Nat.le_refl _, fun _ _ h _ => h⟩) (fun hHeld => ?_)
                  refine anyL_take (i := 0) (v := ?v41_0) (by simp only [List.getElem?_toArray, List.getElem?_cons_succ, List.getElem?_cons_zero]; rfl) (by kernel_rfl) (by kernel_rfl) (by kernel_rfl) (by kernel_rfl) (by exact fun _ _ _ h => h) (Or.inl ⟨by rfl, ?h41_0⟩) hHeld ?_
                  case h41_0 => (intro w' hSw; have k0 := U1.out w' hSw; have k1 := U2.out w' hSw; go_simp <;> with_reducible rfl)
                  try simp only [Act.put, List.setIfInBounds_toArray, List.set_cons_zero, List.set_cons_succ]
                  refine anyL_take (i := 1) (v := ?v42_1) (by simp only [List.getElem?_toArray, List.getElem?_cons_succ, List.getElem?_cons_zero]; rfl) (by kernel_rfl) (by kernel_rfl) (by kernel_rfl) (by kernel_rfl) (by exact fun _ _ _ h => h) (Or.inl ⟨by rfl, ?h42_1⟩) hHeld ?_
                  case h42_1 => (intro w' hSw; have k0 := U1.out w' hSw; have k1 := U2.out w' hSw; go_simp <;> with_reducible rfl)
                  try simp only [Act.put, List.setIfInBounds_toArray, List.set_cons_zero, List.set_cons_succ]
                  refine anyL_take (i := 2) (v := ?v43_2) (by simp only [List.getElem?_toArray, List.getElem?_cons_succ, List.getElem?_cons_zero]; rfl) (by kernel_rfl) (by kernel_rfl) (by kernel_rfl) (by kernel_rfl) (by exact fun _ _ _ h => h) (Or.inl ⟨by rfl, ?h43_2⟩) hHeld ?_
                  case h43_2 => (intro w' hSw; have k0 := U1.out w' hSw; have k1 := U2.out w' hSw; go_simp <;> with_reducible rfl)
                  try simp only [Act.put, List.setIfInBounds_toArray, List.set_cons_zero, List.set_cons_succ]
                  refine anyL_take (i := 3) (v := ?v44_3) (by simp only [List.getElem?_toArray, List.getElem?_cons_succ, List.getElem?_cons_zero]; rfl) (by kernel_rfl) (by kernel_rfl) (by kernel_rfl) (by kernel_rfl) (by exact fun _ _ _ h => h) (Or.inl ⟨by rfl, ?h44_3⟩) hHeld ?_
                  case h44_3 => (intro w' hSw; have k0 := U1.out w' hSw; have k1 := U2.out w' hSw; go_simp <;> with_reducible rfl)
                  try simp only [Act.put, List.setIfInBounds_toArray, List.set_cons_zero, List.set_cons_succ]
                  refine anyL_take (i := 4) (v := ?v45_4) (by simp only [List.getElem?_toArray, List.getElem?_cons_succ, List.getElem?_cons_zero]; rfl) (by kernel_rfl) (by kernel_rfl) (by kernel_rfl) (by kernel_rfl) (by exact fun _ _ _ h => h) (Or.inl ⟨by rfl, ?h45_4⟩) hHeld ?_
                  case h45_4 => (intro w' hSw; have k0 := U1.out w' hSw; have k1 := U2.out w' hSw; go_simp <;> with_reducible rfl)
                  try simp only [Act.put, List.setIfInBounds_toArray, List.set_cons_zero, List.set_cons_succ]
                  refine anyL_take (i := 5) (v := ?v46_5) (by simp only [List.getElem?_toArray, List.getElem?_cons_succ, List.getElem?_cons_zero]; rfl) (by kernel_rfl) (by kernel_rfl) (by kernel_rfl) (by kernel_rfl) (by exact fun _ _ _ h => h) (Or.inl ⟨by rfl, ?h46_5⟩) hHeld ?_
                  case h46_5 => (intro w' hSw; have k0 := U1.out w' hSw; have k1 := U2.out w' hSw; go_simp <;> with_reducible rfl)
                  try simp only [Act.put, List.setIfInBounds_toArray, List.set_cons_zero, List.set_cons_succ]
                  refine anyL_take (i := 6) (v := ?v47_6) (by simp only [List.getElem?_toArray, List.getElem?_cons_succ, List.getElem?_cons_zero]; rfl) (by kernel_rfl) (by kernel_rfl) (by kernel_rfl) (by kernel_rfl) (by exact fun _ _ _ h => h) (Or.inl ⟨by rfl, ?h47_6⟩) hHeld ?_
                  case h47_6 => (intro w' hSw; have k0 := U1.out w' hSw; have k1 := U2.out w' hSw; go_simp <;> with_reducible rfl)
                  try simp only [Act.put, List.setIfInBounds_toArray, List.set_cons_zero, List.set_cons_succ]
                  refine anyL_take (i := 7) (v := ?v48_7) (by simp only [List.getElem?_toArray, List.getElem?_cons_succ, List.getElem?_cons_zero]; rfl) (by kernel_rfl) (by kernel_rfl) (by kernel_rfl) (by kernel_rfl) (by exact fun _ _ _ h => h) (Or.inl ⟨by rfl, ?h48_7⟩) hHeld ?_
                  case h48_7 => (intro w' hSw; have k0 := U1.out w' hSw; have k1 := U2.out w' hSw; go_simp <;> with_reducible rfl)
                  try simp only [Act.put, List.setIfInBounds_toArray, List.set_cons_zero, List.set_cons_succ]
                  refine anyL_one (i := 8) (by kernel_rfl) (by simp only [List.getElem?_toArray, List.getElem?_cons_succ, List.getElem?_cons_zero]; rfl) (fun K hK => ?_)
                  refine if_wanted rfl (wp_appC _ _ rfl w.heap.size (.slice y.A y.n y.c) y.n (y.cs.flatMap CpD.cells) (by rfl) (by exact own_heap HROW.out rfl) w4.heap.size MA nm mc ((liveL g hz0 x.cs).flatMap CpD.cells) (by rfl) (by rw [flat_len cp_two, HX.out.2.2.2.2.1]) (by exact HX.out.2.2.2.2.2.1.rd.keep fun p _ => World.cell?_of_block rfl) one_cps (by have := HNS.out; omega) (by exact HB4.out) ?_)
                  intro v7 w7 ho7 hg7 hn7
                  obtain ⟨v7A, v7c, rfl⟩ := own_shape ho7
                  have hS7 : NotC w4 w7 := NotC.grown (w := w4) (a := (w4.drewN q).drew) ⟨Nat.le_refl _, fun _ _ h _ => h⟩ (own_heap HROW.out rfl) hg7
                  obtain ⟨d0, d1, d2, _, _⟩ := T1.out w7 hS7
                  have d3 := d2 t
                  refine hK.out _ _ (fun _ => hS7) ?_
                  clear hK K hHeld
                  have hHeld := hS7
                  try simp only [Act.put, List.setIfInBounds_toArray, List.set_cons_zero, List.set_cons_succ]
                  refine anyL_take (i := 9) (v := ?v49_9) (by simp only [List.getElem?_toArray, List.getElem?_cons_succ, List.getElem?_cons_zero]; rfl) (by kernel_rfl) (by kernel_rfl) (by kernel_rfl) (by kernel_rfl) (by exact fun _ _ _ h => h) (Or.inl ⟨by rfl, ?h49_9⟩) hHeld ?_
                  case h49_9 => (intro w' hSw; have k0 := U1.out w' hSw; have k1 := U2.out w' hSw; go_simp <;> with_reducible rfl)
                  try simp only [Act.put, List.setIfInBounds_toArray, List.set_cons_zero, List.set_cons_succ]
                  refine anyL_one (i := 10) (by kernel_rfl) (by simp only [List.getElem?_toArray, List.getElem?_cons_succ, List.getElem?_cons_zero]; rfl) (fun K hK => ?_)
                  go_simp
                  refine hK.out _ _ (fun h => absurd rfl h) ?_
                  clear hK K
                  try simp only [Act.put, List.setIfInBounds_toArray, List.set_cons_zero, List.set_cons_succ]
                  refine anyL_done (by kernel_rfl) ?_ _
                  obtain ⟨w8, hw8⟩ : ∃ w8, w7.setCell ⟨go, t, none⟩ (.slice v7A (y.n + nm) v7c) = w8 := ⟨_, rfl⟩
                  have hO8 : OutX w.heap.size w8 (.slice (some ⟨go, 0, none⟩) os.length vc) (os.set t ⟨v7A, y.n + nm, v7c, y.cs ++ liveL g hz0 x.cs⟩) := by
                    rw [← hw8]
                    have hOs : OutX w.heap.size w4 (.slice (some ⟨go, 0, none⟩) os.length vc) os := by have := HX.out.2.2.2.2.2.2.2.1; rw [HO.out.2.1]; exact this
                    refine (hOs.heap (w' := (w4.drewN q).drew) rfl).put (k := t) (by rw [HO.out.2.1]; exact HTK.out) ⟨v7A, y.n + nm, v7c, y.cs ++ liveL g hz0 x.cs⟩ (by rw [HYY.out.1]; exact hg7) (by rw [HYY.out.1]; exact .inr hn7) (by rw [List.flatMap_append]; exact ho7) (by rw [List.length_append, ← HYY.out.2.2, HX.out.2.2.2.2.1]) (fun c hc => ?_) (by have := HNS.out; show y.n + nm ≤ 1000; omega)
                    rcases List.mem_append.1 hc with q | q
                    · exact HO.out.1.wf y (by rw [← HYY.out.1]; exact List.getElem_mem _) c q
                    · exact HO.out.1.wf x (by rw [← HX.out.2.1]; exact List.getElem_mem _) c (List.mem_filter.1 q).1
                  have hp8 : Bk w8 w3.heap.size 65 [.int .i64 (p : Int), .slice MA nm mc, .int .i64 ((x.n : Int) - (nm : Int))] := by
                    rw [← hw8]
                    exact (hS7.bk HX.out.2.2.2.2.2.2.1 (by decide)).far (by
                      intro e
                      have e : w3.heap.size = go := e
                      obtain ⟨_, cs0, f0, o0⟩ := own_obj HX.out.2.2.2.2.2.2.2.1.own (g := go) rfl
                      have := HX.out.2.2.2.2.2.2.1
                      unfold Bk at this
                      rw [e, o0] at this
                      injection this with this
                      injection this with _ this _
                      exact absurd this (by decide)) _
                  have hW8 : Below w.heap.size w w8 := by
                    rw [← hw8]
                    exact ((bdrewN HX.out.2.2.2.2.2.2.2.2 0).trans (below_of_grown HROW.out hg7 HB4.out)).setCell (p := ⟨go, t, none⟩) (HX.out.2.2.2.2.2.2.2.1.own.lt go rfl).1 _
                  have a0 := hp8.cell (i := 0) (by simp)
                  simp only [List.getElem_cons_zero] at a0
                  have hpn : p < k := by have := HX.out.1; rw [HO.out.2.1] at this; exact this
                  have hol8 : (os.set t ⟨v7A, y.n + nm, v7c, y.cs ++ liveL g hz0 x.cs⟩).length = k := by rw [List.length_set]; exact HO.out.2.1
                  have ho8 := hO8.own
                  rw [HO.out.2.1, hol8] at ho8
                  have a1 := ho8.cellAt p (by omega)
                  rw [List.getElem?_eq_getElem (by rw [List.length_map, hol8]; exact hpn)] at a1
                  have a2 := ho8.frozenAt p
                  obtain ⟨oldp, hop⟩ : ∃ u, (((os.set t ⟨v7A, y.n + nm, v7c, y.cs ++ liveL g hz0 x.cs⟩).map RoD.cell)[p]'(by rw [List.length_map, hol8]; exact hpn)) = u := ⟨_, rfl⟩
                  rw [hop] at a1
                  have b0 : (0 : Int) ≤ (p : Int) := by omega
                  have b1 : (p : Int) < (k : Int) := by omega
                  have hst : stepC g hz0 size now (css os) = some (((css os).set t ((css os).getD t [] ++ liveL g hz0 x.cs)).set p []) := by
                    unfold stepC
                    rw [HX.out.2.2.2.1]
                    simp only []
                    rw [place_some (by rw [css_len, HO.out.2.1]; exact HTK.out) HFT.out.1 (fun j hj => HFT.out.2 j (Nat.zero_le _) hj)]
                  have hO9 := hO8.put' (by rw [hol8]; exact hpn) HO.out.2.1
                  have hcs9 : css ((os.set t ⟨v7A, y.n + nm, v7c, y.cs ++ liveL g hz0 x.cs⟩).set p ⟨none, 0, 0, []⟩) = ((css os).set t ((css os).getD t [] ++ liveL g hz0 x.cs)).set p [] := css_step (by rw [HO.out.2.1]; exact HTK.out) (by rw [HYY.out.1]) rfl
                  have hW9 : Below w.heap.size w (w8.setCell ⟨go, p, none⟩ (.slice none 0 0)) := hW8.setCell (p := ⟨go, p, none⟩) (HX.out.2.2.2.2.2.2.2.1.own.lt go rfl).1 _
                  have hI9 : iterC g hz0 size now (NN - (j + 1)) (((css os).set t ((css os).getD t [] ++ liveL g hz0 x.cs)).set p []) = iterC g hz0 size now NN (css zs) := by
                    have e : NN - j = (NN - (j + 1)) + 1 := by omega
                    rw [← iterC_some hst, ← e]; exact HI.out
                  rw [← hcs9] at hI9
                  have HEND := Lib.hid (And.intro hO9 (And.intro hI9 hW9))
                  clear hO8 hp8 hW8 ho8 hop hst hO9 hcs9 hW9 hI9 hol8 hpn ho7 hg7 hn7 hS7
                  go_wp2_with fail
                  go_roundw
                  case rel => exact ⟨j + 1, _, hlt, by go_num, HEND.out.1, by rw [List.length_set, List.length_set]; exact HO.out.2.1, Lib.hid HEND.out.2.1, HEND.out.2.2⟩
                  case measure => exact meas hlt
              · obtain rfl : I = (k2 : Int) := by have := hI.out; omega
                clear hI
                have HK2 := Lib.hid (show k2 < k from hk2)
                obtain ⟨y, hy⟩ : ∃ y, os[k2]'(by rw [hlen4]; exact HK2.out) = y := ⟨_, rfl⟩
                have hyc : y.n ≤ 1000 := HO.out.1.sm y (by rw [← hy]; exact List.getElem_mem _)
                have hyf : y.n = y.cs.length := HO.out.1.fair y (by rw [← hy]; exact List.getElem_mem _)
                have u0 : w4.cell? ⟨go, k2, none⟩ = some (.slice y.A y.n y.c) := by rw [hown4.cellAt k2 (by omega), List.getElem?_map, List.getElem?_eq_getElem (by omega), hy]; rfl
                have u1 : w4.cell? ⟨w3.heap.size, 0, none⟩ = some (.int .i64 (p : Int)) := HX.out.2.2.2.2.2.2.1.cell (i := 0) (by simp)
                have u2 : w4.cell? ⟨w3.heap.size, 1, none⟩ = some (.slice MA nm mc) := HX.out.2.2.2.2.2.2.1.cell (i := 1) (by simp)
                have m0 : (k2 : Int) < (k : Int) := by omega
                have m1 : (0 : Int) ≤ (k2 : Int) := by omega
                have hnm : nm ≤ 1000 := by have := HX.out.2.2.1; have := HNL.out; omega
                have W3 := Lib.hid (show wrap64 ((k2 : Int) - 1) = (k2 : Int) - 1 by unfold wrap64; omega)
                have wk := (sum_in hyc hnm).1
                have wk2 := (sum_in hyc hnm).2
                have HYY := Lib.hid (And.intro hy (And.intro hyc hyf))
                have HCY := Lib.hid (show (css os).getD k2 [] = y.cs by rw [css_get (by omega), hy])
                clear hy hyc hown4 hyf hk2 hnm
                by_cases hkp : k2 = p
                · have e0 : ((k2 : Int) != (p : Int)) = false := by simp; omega
                  have e1 : (k2 != p) = false := by simpa using hkp
                  have HFN := Lib.hid (show fitC size (css os) p (liveL g hz0 x.cs) k2 = false by unfold fitC; simp [hkp])
                  clear hkp
                  go_wp2_with fail
                  refine wp_region_held_drew (S := Drawn w4) (by kernel_rfl) (by first | exact Drawn.of _ _ | exact Drawn.one _) (fun hHeld => ?_)
                  refine wpAnyH_take (i := 0) (v := ?v1_0) (by simp only [List.getElem?_toArray, List.getElem?_cons_succ, List.getElem?_cons_zero]; rfl) (by kernel_rfl) (by kernel_rfl) (by kernel_rfl) (by exact fun _ _ _ h => h) (Or.inl ⟨by rfl, ?h1_0⟩) hHeld ?_
                  case h1_0 => (intro w' hSw; obtain ⟨m, rfl⟩ := hSw; go_simp <;> with_reducible rfl)
                  try simp only [Act.put, List.setIfInBounds_toArray, List.set_cons_zero, List.set_cons_succ]
                  refine wpAnyH_take (i := 1) (v := ?v2_1) (by simp only [List.getElem?_toArray, List.getElem?_cons_succ, List.getElem?_cons_zero]; rfl) (by kernel_rfl) (by kernel_rfl) (by kernel_rfl) (by exact fun _ _ _ h => h) (Or.inl ⟨by rfl, ?h2_1⟩) hHeld ?_
                  case h2_1 => (intro w' hSw; obtain ⟨m, rfl⟩ := hSw; go_simp <;> with_reducible rfl)
                  try simp only [Act.put, List.setIfInBounds_toArray, List.set_cons_zero, List.set_cons_succ]
                  refine wpAnyH_take (i := 2) (v := ?v3_2) (by simp only [List.getElem?_toArray, List.getElem?_cons_succ, List.getElem?_cons_zero]; rfl) (by kernel_rfl) (by kernel_rfl) (by kernel_rfl) (by exact fun _ _ _ h => h) (Or.inl ⟨by rfl, ?h3_2⟩) hHeld ?_
                  case h3_2 => (intro w' hSw; obtain ⟨m, rfl⟩ := hSw; go_simp <;> with_reducible rfl)
                  try simp only [Act.put, List.setIfInBounds_toArray, List.set_cons_zero, List.set_cons_succ]
                  refine wpAnyH_take (i := 3) (v := ?v4_3) (by simp only [List.getElem?_toArray, List.getElem?_cons_succ, List.getElem?_cons_zero]; rfl) (by kernel_rfl) (by kernel_rfl) (by kernel_rfl) (by exact fun _ _ _ h => h) (Or.inl ⟨by rfl, ?h4_3⟩) hHeld ?_
                  case h4_3 => (intro w' hSw; obtain ⟨m, rfl⟩ := hSw; go_simp <;> with_reducible rfl)
                  try simp only [Act.put, List.setIfInBounds_toArray, List.set_cons_zero, List.set_cons_succ]
                  refine wpAnyH_take (i := 4) (v := ?v5_4) (by simp only [List.getElem?_toArray, List.getElem?_cons_succ, List.getElem?_cons_zero]; rfl) (by kernel_rfl) (by kernel_rfl) (by kernel_rfl) (by exact fun _ _ _ h => h) (Or.inl ⟨by rfl, ?h5_4⟩) hHeld ?_
                  case h5_4 => (intro w' hSw; obtain ⟨m, rfl⟩ := hSw; go_simp <;> with_reducible rfl)
                  try simp only [Act.put, List.setIfInBounds_toArray, List.set_cons_zero, List.set_cons_succ]
                  refine wpAnyH_take (i := 5) (v := undef) (by simp only [List.getElem?_toArray, List.getElem?_cons_succ, List.getElem?_cons_zero]; rfl) (by kernel_rfl) (by kernel_rfl) (by kernel_rfl) (by exact fun _ _ _ h => h) (Or.inr ⟨by rfl, rfl⟩) hHeld ?_
                  try simp only [Act.put, List.setIfInBounds_toArray, List.set_cons_zero, List.set_cons_succ]
                  refine wpAnyH_take (i := 6) (v := undef) (by simp only [List.getElem?_toArray, List.getElem?_cons_succ, List.getElem?_cons_zero]; rfl) (by kernel_rfl) (by kernel_rfl) (by kernel_rfl) (by exact fun _ _ _ h => h) (Or.inr ⟨by rfl, rfl⟩) hHeld ?_
                  try simp only [Act.put, List.setIfInBounds_toArray, List.set_cons_zero, List.set_cons_succ]
                  refine wpAnyH_take (i := 7) (v := undef) (by simp only [List.getElem?_toArray, List.getElem?_cons_succ, List.getElem?_cons_zero]; rfl) (by kernel_rfl) (by kernel_rfl) (by kernel_rfl) (by exact fun _ _ _ h => h) (Or.inr ⟨by rfl, rfl⟩) hHeld ?_
                  try simp only [Act.put, List.setIfInBounds_toArray, List.set_cons_zero, List.set_cons_succ]
                  refine wpAnyH_take (i := 8) (v := undef) (by simp only [List.getElem?_toArray, List.getElem?_cons_succ, List.getElem?_cons_zero]; rfl) (by kernel_rfl) (by kernel_rfl) (by kernel_rfl) (by exact fun _ _ _ h => h) (Or.inr ⟨by rfl, rfl⟩) hHeld ?_
                  try simp only [Act.put, List.setIfInBounds_toArray, List.set_cons_zero, List.set_cons_succ]
                  refine wpAnyH_take (i := 9) (v := undef) (by simp only [List.getElem?_toArray, List.getElem?_cons_succ, List.getElem?_cons_zero]; rfl) (by kernel_rfl) (by kernel_rfl) (by kernel_rfl) (by exact fun _ _ _ h => h) (Or.inr ⟨by rfl, rfl⟩) hHeld ?_
                  try simp only [Act.put, List.setIfInBounds_toArray, List.set_cons_zero, List.set_cons_succ]
                  refine wpAnyH_take (i := 10) (v := undef) (by simp only [List.getElem?_toArray, List.getElem?_cons_succ, List.getElem?_cons_zero]; rfl) (by kernel_rfl) (by kernel_rfl) (by kernel_rfl) (by exact fun _ _ _ h => h) (Or.inr ⟨by rfl, rfl⟩) hHeld ?_
                  try simp only [Act.put, List.setIfInBounds_toArray, List.set_cons_zero, List.set_cons_succ]
                  refine wpAnyH_take (i := 11) (v := undef) (by simp only [List.getElem?_toArray, List.getElem?_cons_succ, List.getElem?_cons_zero]; rfl) (by kernel_rfl) (by kernel_rfl) (by kernel_rfl) (by exact fun _ _ _ h => h) (Or.inr ⟨by rfl, rfl⟩) hHeld ?_
                  try simp only [Act.put, List.setIfInBounds_toArray, List.set_cons_zero, List.set_cons_succ]
                  refine wpAnyH_take (i := 12) (v := undef) (by simp only [List.getElem?_toArray, List.getElem?_cons_succ, List.getElem?_cons_zero]; rfl) (by kernel_rfl) (by kernel_rfl) (by kernel_rfl) (by exact fun _ _ _ h => h) (Or.inr ⟨by rfl, rfl⟩) hHeld ?_
                  try simp only [Act.put, List.setIfInBounds_toArray, List.set_cons_zero, List.set_cons_succ]
                  refine wpAnyH_take (i := 13) (v := undef) (by simp only [List.getElem?_toArray, List.getElem?_cons_succ, List.getElem?_cons_zero]; rfl) (by kernel_rfl) (by kernel_rfl) (by kernel_rfl) (by exact fun _ _ _ h => h) (Or.inr ⟨by rfl, rfl⟩) hHeld ?_
                  try simp only [Act.put, List.setIfInBounds_toArray, List.set_cons_zero, List.set_cons_succ]
                  refine wpAnyH_take (i := 14) (v := undef) (by simp only [List.getElem?_toArray, List.getElem?_cons_succ, List.getElem?_cons_zero]; rfl) (by kernel_rfl) (by kernel_rfl) (by kernel_rfl) (by exact fun _ _ _ h => h) (Or.inr ⟨by rfl, rfl⟩) hHeld ?_
                  try simp only [Act.put, List.setIfInBounds_toArray, List.set_cons_zero, List.set_cons_succ]
                  refine wpAnyH_take (i := 15) (v := undef) (by simp only [List.getElem?_toArray, List.getElem?_cons_succ, List.getElem?_cons_zero]; rfl) (by kernel_rfl) (by kernel_rfl) (by kernel_rfl) (by exact fun _ _ _ h => h) (Or.inr ⟨by rfl, rfl⟩) hHeld ?_
                  try simp only [Act.put, List.setIfInBounds_toArray, List.set_cons_zero, List.set_cons_succ]
                  refine wpAnyH_take (i := 16) (v := ?v6_16) (by simp only [List.getElem?_toArray, List.getElem?_cons_succ, List.getElem?_cons_zero]; rfl) (by kernel_rfl) (by kernel_rfl) (by kernel_rfl) (by exact fun _ _ _ h => h) (Or.inl ⟨by rfl, ?h6_16⟩) hHeld ?_
                  case h6_16 => (intro w' hSw; obtain ⟨m, rfl⟩ := hSw; go_simp <;> with_reducible rfl)
                  try simp only [Act.put, List.setIfInBounds_toArray, List.set_cons_zero, List.set_cons_succ]
                  refine wpAnyH_done (by kernel_rfl) ?_ _
                  go_wp2_with fail
                  go_roundw
                  case rel => exact ⟨k2, q + 1, _, _, Nat.le_of_lt HK2.out, rfl, rfl, Lib.hid (by first | exact W3.out | rfl), rfl, Lib.hid (HF.out.no HFN.out)⟩
                  case measure => first | exact down_meas W3.out | simp [intOf]
                · have e0 : ((k2 : Int) != (p : Int)) = true := by simp; omega
                  have e1 : (k2 != p) = true := by simpa using hkp
                  have HKP := Lib.hid hkp
                  clear hkp
                  by_cases hft : (y.n : Int) + (nm : Int) ≤ size
                  · have d1 : decide ((y.n : Int) + (nm : Int) ≤ size) = true := decide_eq_true hft
                    have HFN := Lib.hid (show fitC size (css os) p (liveL g hz0 x.cs) k2 = true by unfold fitC; rw [HCY.out, HX.out.2.2.2.2.1, ← HYY.out.2.2]; simp [HKP.out]; omega)
                    clear hft
                    go_wp2_with fail
                    refine wp_region_held_drew (S := Drawn w4) (by kernel_rfl) (by first | exact Drawn.of _ _ | exact Drawn.one _) (fun hHeld => ?_)
                    refine wpAnyH_take (i := 0) (v := ?v7_0) (by simp only [List.getElem?_toArray, List.getElem?_cons_succ, List.getElem?_cons_zero]; rfl) (by kernel_rfl) (by kernel_rfl) (by kernel_rfl) (by exact fun _ _ _ h => h) (Or.inl ⟨by rfl, ?h7_0⟩) hHeld ?_
                    case h7_0 => (intro w' hSw; obtain ⟨m, rfl⟩ := hSw; go_simp <;> with_reducible rfl)
                    try simp only [Act.put, List.setIfInBounds_toArray, List.set_cons_zero, List.set_cons_succ]
                    refine wpAnyH_take (i := 1) (v := ?v8_1) (by simp only [List.getElem?_toArray, List.getElem?_cons_succ, List.getElem?_cons_zero]; rfl) (by kernel_rfl) (by kernel_rfl) (by kernel_rfl) (by exact fun _ _ _ h => h) (Or.inl ⟨by rfl, ?h8_1⟩) hHeld ?_
                    case h8_1 => (intro w' hSw; obtain ⟨m, rfl⟩ := hSw; go_simp <;> with_reducible rfl)
                    try simp only [Act.put, List.setIfInBounds_toArray, List.set_cons_zero, List.set_cons_succ]
                    refine wpAnyH_take (i := 2) (v := ?v9_2) (by simp only [List.getElem?_toArray, List.getElem?_cons_succ, List.getElem?_cons_zero]; rfl) (by kernel_rfl) (by kernel_rfl) (by kernel_rfl) (by exact fun _ _ _ h => h) (Or.inl ⟨by rfl, ?h9_2⟩) hHeld ?_
                    case h9_2 => (intro w' hSw; obtain ⟨m, rfl⟩ := hSw; go_simp <;> with_reducible rfl)
                    try simp only [Act.put, List.setIfInBounds_toArray, List.set_cons_zero, List.set_cons_succ]
                    refine wpAnyH_take (i := 3) (v := ?v10_3) (by simp only [List.getElem?_toArray, List.getElem?_cons_succ, List.getElem?_cons_zero]; rfl) (by kernel_rfl) (by kernel_rfl) (by kernel_rfl) (by exact fun _ _ _ h => h) (Or.inl ⟨by rfl, ?h10_3⟩) hHeld ?_
                    case h10_3 => (intro w' hSw; obtain ⟨m, rfl⟩ := hSw; go_simp <;> with_reducible rfl)
                    try simp only [Act.put, List.setIfInBounds_toArray, List.set_cons_zero, List.set_cons_succ]
                    refine wpAnyH_take (i := 4) (v := ?v11_4) (by simp only [List.getElem?_toArray, List.getElem?_cons_succ, List.getElem?_cons_zero]; rfl) (by kernel_rfl) (by kernel_rfl) (by kernel_rfl) (by exact fun _ _ _ h => h) (Or.inl ⟨by rfl, ?h11_4⟩) hHeld ?_
                    case h11_4 => (intro w' hSw; obtain ⟨m, rfl⟩ := hSw; go_simp <;> with_reducible rfl)
                    try simp only [Act.put, List.setIfInBounds_toArray, List.set_cons_zero, List.set_cons_succ]
                    refine wpAnyH_take (i := 5) (v := ?v12_5) (by simp only [List.getElem?_toArray, List.getElem?_cons_succ, List.getElem?_cons_zero]; rfl) (by kernel_rfl) (by kernel_rfl) (by kernel_rfl) (by exact fun _ _ _ h => h) (Or.inl ⟨by rfl, ?h12_5⟩) hHeld ?_
                    case h12_5 => (intro w' hSw; obtain ⟨m, rfl⟩ := hSw; go_simp <;> with_reducible rfl)
                    try simp only [Act.put, List.setIfInBounds_toArray, List.set_cons_zero, List.set_cons_succ]
                    refine wpAnyH_take (i := 6) (v := ?v13_6) (by simp only [List.getElem?_toArray, List.getElem?_cons_succ, List.getElem?_cons_zero]; rfl) (by kernel_rfl) (by kernel_rfl) (by kernel_rfl) (by exact fun _ _ _ h => h) (Or.inl ⟨by rfl, ?h13_6⟩) hHeld ?_
                    case h13_6 => (intro w' hSw; obtain ⟨m, rfl⟩ := hSw; go_simp <;> with_reducible rfl)
                    try simp only [Act.put, List.setIfInBounds_toArray, List.set_cons_zero, List.set_cons_succ]
                    refine wpAnyH_take (i := 7) (v := ?v14_7) (by simp only [List.getElem?_toArray, List.getElem?_cons_succ, List.getElem?_cons_zero]; rfl) (by kernel_rfl) (by kernel_rfl) (by kernel_rfl) (by exact fun _ _ _ h => h) (Or.inl ⟨by rfl, ?h14_7⟩) hHeld ?_
                    case h14_7 => (intro w' hSw; obtain ⟨m, rfl⟩ := hSw; go_simp <;> with_reducible rfl)
                    try simp only [Act.put, List.setIfInBounds_toArray, List.set_cons_zero, List.set_cons_succ]
                    refine wpAnyH_take (i := 8) (v := ?v15_8) (by simp only [List.getElem?_toArray, List.getElem?_cons_succ, List.getElem?_cons_zero]; rfl) (by kernel_rfl) (by kernel_rfl) (by kernel_rfl) (by exact fun _ _ _ h => h) (Or.inl ⟨by rfl, ?h15_8⟩) hHeld ?_
                    case h15_8 => (intro w' hSw; obtain ⟨m, rfl⟩ := hSw; go_simp <;> with_reducible rfl)
                    try simp only [Act.put, List.setIfInBounds_toArray, List.set_cons_zero, List.set_cons_succ]
                    refine wpAnyH_take (i := 9) (v := ?v16_9) (by simp only [List.getElem?_toArray, List.getElem?_cons_succ, List.getElem?_cons_zero]; rfl) (by kernel_rfl) (by kernel_rfl) (by kernel_rfl) (by exact fun _ _ _ h => h) (Or.inl ⟨by rfl, ?h16_9⟩) hHeld ?_
                    case h16_9 => (intro w' hSw; obtain ⟨m, rfl⟩ := hSw; go_simp <;> with_reducible rfl)
                    try simp only [Act.put, List.setIfInBounds_toArray, List.set_cons_zero, List.set_cons_succ]
                    refine wpAnyH_take (i := 10) (v := ?v17_10) (by simp only [List.getElem?_toArray, List.getElem?_cons_succ, List.getElem?_cons_zero]; rfl) (by kernel_rfl) (by kernel_rfl) (by kernel_rfl) (by exact fun _ _ _ h => h) (Or.inl ⟨by rfl, ?h17_10⟩) hHeld ?_
                    case h17_10 => (intro w' hSw; obtain ⟨m, rfl⟩ := hSw; go_simp <;> with_reducible rfl)
                    try simp only [Act.put, List.setIfInBounds_toArray, List.set_cons_zero, List.set_cons_succ]
                    refine wpAnyH_take (i := 11) (v := ?v18_11) (by simp only [List.getElem?_toArray, List.getElem?_cons_succ, List.getElem?_cons_zero]; rfl) (by kernel_rfl) (by kernel_rfl) (by kernel_rfl) (by exact fun _ _ _ h => h) (Or.inl ⟨by rfl, ?h18_11⟩) hHeld ?_
                    case h18_11 => (intro w' hSw; obtain ⟨m, rfl⟩ := hSw; go_simp <;> with_reducible rfl)
                    try simp only [Act.put, List.setIfInBounds_toArray, List.set_cons_zero, List.set_cons_succ]
                    refine wpAnyH_take (i := 12) (v := ?v19_12) (by simp only [List.getElem?_toArray, List.getElem?_cons_succ, List.getElem?_cons_zero]; rfl) (by kernel_rfl) (by kernel_rfl) (by kernel_rfl) (by exact fun _ _ _ h => h) (Or.inl ⟨by rfl, ?h19_12⟩) hHeld ?_
                    case h19_12 => (intro w' hSw; obtain ⟨m, rfl⟩ := hSw; go_simp <;> with_reducible rfl)
                    try simp only [Act.put, List.setIfInBounds_toArray, List.set_cons_zero, List.set_cons_succ]
                    refine wpAnyH_take (i := 13) (v := ?v20_13) (by simp only [List.getElem?_toArray, List.getElem?_cons_succ, List.getElem?_cons_zero]; rfl) (by kernel_rfl) (by kernel_rfl) (by kernel_rfl) (by exact fun _ _ _ h => h) (Or.inl ⟨by rfl, ?h20_13⟩) hHeld ?_
                    case h20_13 => (intro w' hSw; obtain ⟨m, rfl⟩ := hSw; go_simp <;> with_reducible rfl)
                    try simp only [Act.put, List.setIfInBounds_toArray, List.set_cons_zero, List.set_cons_succ]
                    refine wpAnyH_take (i := 14) (v := ?v21_14) (by simp only [List.getElem?_toArray, List.getElem?_cons_succ, List.getElem?_cons_zero]; rfl) (by kernel_rfl) (by kernel_rfl) (by kernel_rfl) (by exact fun _ _ _ h => h) (Or.inl ⟨by rfl, ?h21_14⟩) hHeld ?_
                    case h21_14 => (intro w' hSw; obtain ⟨m, rfl⟩ := hSw; go_simp <;> with_reducible rfl)
                    try simp only [Act.put, List.setIfInBounds_toArray, List.set_cons_zero, List.set_cons_succ]
                    refine wpAnyH_take (i := 15) (v := ?v22_15) (by simp only [List.getElem?_toArray, List.getElem?_cons_succ, List.getElem?_cons_zero]; rfl) (by kernel_rfl) (by kernel_rfl) (by kernel_rfl) (by exact fun _ _ _ h => h) (Or.inl ⟨by rfl, ?h22_15⟩) hHeld ?_
                    case h22_15 => (intro w' hSw; obtain ⟨m, rfl⟩ := hSw; go_simp <;> with_reducible rfl)
                    try simp only [Act.put, List.setIfInBounds_toArray, List.set_cons_zero, List.set_cons_succ]
                    refine wpAnyH_take (i := 16) (v := ?v23_16) (by simp only [List.getElem?_toArray, List.getElem?_cons_succ, List.getElem?_cons_zero]; rfl) (by kernel_rfl) (by kernel_rfl) (by kernel_rfl) (by exact fun _ _ _ h => h) (Or.inl ⟨by rfl, ?h23_16⟩) hHeld ?_
                    case h23_16 => (intro w' hSw; obtain ⟨m, rfl⟩ := hSw; go_simp <;> with_reducible rfl)
                    try simp only [Act.put, List.setIfInBounds_toArray, List.set_cons_zero, List.set_cons_succ]
                    refine wpAnyH_done (by kernel_rfl) ?_ _
                    go_wp2_with fail
                    go_roundw
                    case rel => exact ⟨k2, q + 1, _, _, Nat.le_of_lt HK2.out, rfl, rfl, Lib.hid (by first | exact W3.out | rfl), rfl, Lib.hid (ToOk.yes HK2.out HFN.out)⟩
                    case measure => first | exact down_meas W3.out | simp [intOf]
                  · have d1 : decide ((y.n : Int) + (nm : Int) ≤ size) = false := decide_eq_false hft
                    have HFN := Lib.hid (show fitC size (css os) p (liveL g hz0 x.cs) k2 = false by unfold fitC; rw [HCY.out, HX.out.2.2.2.2.1, ← HYY.out.2.2]; simp; omega)
                    clear hft
                    go_wp2_with fail
                    refine wp_region_held_drew (S := Drawn w4) (by kernel_rfl) (by first | exact Drawn.of _ _ | exact Drawn.one _) (fun hHeld => ?_)
                    refine wpAnyH_take (i := 0) (v := ?v24_0) (by simp only [List.getElem?_toArray, List.getElem?_cons_succ, List.getElem?_cons_zero]; rfl) (by kernel_rfl) (by kernel_rfl) (by kernel_rfl) (by exact fun _ _ _ h => h) (Or.inl ⟨by rfl, ?h24_0⟩) hHeld ?_
                    case h24_0 => (intro w' hSw; obtain ⟨m, rfl⟩ := hSw; go_simp <;> with_reducible rfl)
                    try simp only [Act.put, List.setIfInBounds_toArray, List.set_cons_zero, List.set_cons_succ]
                    refine wpAnyH_take (i := 1) (v := ?v25_1) (by simp only [List.getElem?_toArray, List.getElem?_cons_succ, List.getElem?_cons_zero]; rfl) (by kernel_rfl) (by kernel_rfl) (by kernel_rfl) (by exact fun _ _ _ h => h) (Or.inl ⟨by rfl, ?h25_1⟩) hHeld ?_
                    case h25_1 => (intro w' hSw; obtain ⟨m, rfl⟩ := hSw; go_simp <;> with_reducible rfl)
                    try simp only [Act.put, List.setIfInBounds_toArray, List.set_cons_zero, List.set_cons_succ]
                    refine wpAnyH_take (i := 2) (v := ?v26_2) (by simp only [List.getElem?_toArray, List.getElem?_cons_succ, List.getElem?_cons_zero]; rfl) (by kernel_rfl) (by kernel_rfl) (by kernel_rfl) (by exact fun _ _ _ h => h) (Or.inl ⟨by rfl, ?h26_2⟩) hHeld ?_
                    case h26_2 => (intro w' hSw; obtain ⟨m, rfl⟩ := hSw; go_simp <;> with_reducible rfl)
                    try simp only [Act.put, List.setIfInBounds_toArray, List.set_cons_zero, List.set_cons_succ]
                    refine wpAnyH_take (i := 3) (v := ?v27_3) (by simp only [List.getElem?_toArray, List.getElem?_cons_succ, List.getElem?_cons_zero]; rfl) (by kernel_rfl) (by kernel_rfl) (by kernel_rfl) (by exact fun _ _ _ h => h) (Or.inl ⟨by rfl, ?h27_3⟩) hHeld ?_
                    case h27_3 => (intro w' hSw; obtain ⟨m, rfl⟩ := hSw; go_simp <;> with_reducible rfl)
                    try simp only [Act.put, List.setIfInBounds_toArray, List.set_cons_zero, List.set_cons_succ]
                    refine wpAnyH_take (i := 4) (v := ?v28_4) (by simp only [List.getElem?_toArray, List.getElem?_cons_succ, List.getElem?_cons_zero]; rfl) (by kernel_rfl) (by kernel_rfl) (by kernel_rfl) (by exact fun _ _ _ h => h) (Or.inl ⟨by rfl, ?h28_4⟩) hHeld ?_
                    case h28_4 => (intro w' hSw; obtain ⟨m, rfl⟩ := hSw; go_simp <;> with_reducible rfl)
                    try simp only [Act.put, List.setIfInBounds_toArray, List.set_cons_zero, List.set_cons_succ]
                    refine wpAnyH_take (i := 5) (v := ?v29_5) (by simp only [List.getElem?_toArray, List.getElem?_cons_succ, List.getElem?_cons_zero]; rfl) (by kernel_rfl) (by kernel_rfl) (by kernel_rfl) (by exact fun _ _ _ h => h) (Or.inl ⟨by rfl, ?h29_5⟩) hHeld ?_
                    case h29_5 => (intro w' hSw; obtain ⟨m, rfl⟩ := hSw; go_simp <;> with_reducible rfl)
                    try simp only [Act.put, List.setIfInBounds_toArray, List.set_cons_zero, List.set_cons_succ]
                    refine wpAnyH_take (i := 6) (v := ?v30_6) (by simp only [List.getElem?_toArray, List.getElem?_cons_succ, List.getElem?_cons_zero]; rfl) (by kernel_rfl) (by kernel_rfl) (by kernel_rfl) (by exact fun _ _ _ h => h) (Or.inl ⟨by rfl, ?h30_6⟩) hHeld ?_
                    case h30_6 => (intro w' hSw; obtain ⟨m, rfl⟩ := hSw; go_simp <;> with_reducible rfl)
                    try simp only [Act.put, List.setIfInBounds_toArray, List.set_cons_zero, List.set_cons_succ]
                    refine wpAnyH_take (i := 7) (v := ?v31_7) (by simp only [List.getElem?_toArray, List.getElem?_cons_succ, List.getElem?_cons_zero]; rfl) (by kernel_rfl) (by kernel_rfl) (by kernel_rfl) (by exact fun _ _ _ h => h) (Or.inl ⟨by rfl, ?h31_7⟩) hHeld ?_
                    case h31_7 => (intro w' hSw; obtain ⟨m, rfl⟩ := hSw; go_simp <;> with_reducible rfl)
                    try simp only [Act.put, List.setIfInBounds_toArray, List.set_cons_zero, List.set_cons_succ]
                    refine wpAnyH_take (i := 8) (v := ?v32_8) (by simp only [List.getElem?_toArray, List.getElem?_cons_succ, List.getElem?_cons_zero]; rfl) (by kernel_rfl) (by kernel_rfl) (by kernel_rfl) (by exact fun _ _ _ h => h) (Or.inl ⟨by rfl, ?h32_8⟩) hHeld ?_
                    case h32_8 => (intro w' hSw; obtain ⟨m, rfl⟩ := hSw; go_simp <;> with_reducible rfl)
                    try simp only [Act.put, List.setIfInBounds_toArray, List.set_cons_zero, List.set_cons_succ]
                    refine wpAnyH_take (i := 9) (v := ?v33_9) (by simp only [List.getElem?_toArray, List.getElem?_cons_succ, List.getElem?_cons_zero]; rfl) (by kernel_rfl) (by kernel_rfl) (by kernel_rfl) (by exact fun _ _ _ h => h) (Or.inl ⟨by rfl, ?h33_9⟩) hHeld ?_
                    case h33_9 => (intro w' hSw; obtain ⟨m, rfl⟩ := hSw; go_simp <;> with_reducible rfl)
                    try simp only [Act.put, List.setIfInBounds_toArray, List.set_cons_zero, List.set_cons_succ]
                    refine wpAnyH_take (i := 10) (v := ?v34_10) (by simp only [List.getElem?_toArray, List.getElem?_cons_succ, List.getElem?_cons_zero]; rfl) (by kernel_rfl) (by kernel_rfl) (by kernel_rfl) (by exact fun _ _ _ h => h) (Or.inl ⟨by rfl, ?h34_10⟩) hHeld ?_
                    case h34_10 => (intro w' hSw; obtain ⟨m, rfl⟩ := hSw; go_simp <;> with_reducible rfl)
                    try simp only [Act.put, List.setIfInBounds_toArray, List.set_cons_zero, List.set_cons_succ]
                    refine wpAnyH_take (i := 11) (v := ?v35_11) (by simp only [List.getElem?_toArray, List.getElem?_cons_succ, List.getElem?_cons_zero]; rfl) (by kernel_rfl) (by kernel_rfl) (by kernel_rfl) (by exact fun _ _ _ h => h) (Or.inl ⟨by rfl, ?h35_11⟩) hHeld ?_
                    case h35_11 => (intro w' hSw; obtain ⟨m, rfl⟩ := hSw; go_simp <;> with_reducible rfl)
                    try simp only [Act.put, List.setIfInBounds_toArray, List.set_cons_zero, List.set_cons_succ]
                    refine wpAnyH_take (i := 12) (v := ?v36_12) (by simp only [List.getElem?_toArray, List.getElem?_cons_succ, List.getElem?_cons_zero]; rfl) (by kernel_rfl) (by kernel_rfl) (by kernel_rfl) (by exact fun _ _ _ h => h) (Or.inl ⟨by rfl, ?h36_12⟩) hHeld ?_
                    case h36_12 => (intro w' hSw; obtain ⟨m, rfl⟩ := hSw; go_simp <;> with_reducible rfl)
                    try simp only [Act.put, List.setIfInBounds_toArray, List.set_cons_zero, List.set_cons_succ]
                    refine wpAnyH_take (i := 13) (v := ?v37_13) (by simp only [List.getElem?_toArray, List.getElem?_cons_succ, List.getElem?_cons_zero]; rfl) (by kernel_rfl) (by kernel_rfl) (by kernel_rfl) (by exact fun _ _ _ h => h) (Or.inl ⟨by rfl, ?h37_13⟩) hHeld ?_
                    case h37_13 => (intro w' hSw; obtain ⟨m, rfl⟩ := hSw; go_simp <;> with_reducible rfl)
                    try simp only [Act.put, List.setIfInBounds_toArray, List.set_cons_zero, List.set_cons_succ]
                    refine wpAnyH_take (i := 14) (v := ?v38_14) (by simp only [List.getElem?_toArray, List.getElem?_cons_succ, List.getElem?_cons_zero]; rfl) (by kernel_rfl) (by kernel_rfl) (by kernel_rfl) (by exact fun _ _ _ h => h) (Or.inl ⟨by rfl, ?h38_14⟩) hHeld ?_
                    case h38_14 => (intro w' hSw; obtain ⟨m, rfl⟩ := hSw; go_simp <;> with_reducible rfl)
                    try simp only [Act.put, List.setIfInBounds_toArray, List.set_cons_zero, List.set_cons_succ]
                    refine wpAnyH_take (i := 15) (v := ?v39_15) (by simp only [List.getElem?_toArray, List.getElem?_cons_succ, List.getElem?_cons_zero]; rfl) (by kernel_rfl) (by kernel_rfl) (by kernel_rfl) (by exact fun _ _ _ h => h) (Or.inl ⟨by rfl, ?h39_15⟩) hHeld ?_
                    case h39_15 => (intro w' hSw; obtain ⟨m, rfl⟩ := hSw; go_simp <;> with_reducible rfl)
                    try simp only [Act.put, List.setIfInBounds_toArray, List.set_cons_zero, List.set_cons_succ]
                    refine wpAnyH_take (i := 16) (v := ?v40_16) (by simp only [List.getElem?_toArray, List.getElem?_cons_succ, List.getElem?_cons_zero]; rfl) (by kernel_rfl) (by kernel_rfl) (by kernel_rfl) (by exact fun _ _ _ h => h) (Or.inl ⟨by rfl, ?h40_16⟩) hHeld ?_
                    case h40_16 => (intro w' hSw; obtain ⟨m, rfl⟩ := hSw; go_simp <;> with_reducible rfl)
                    try simp only [Act.put, List.setIfInBounds_toArray, List.set_cons_zero, List.set_cons_succ]
                    refine wpAnyH_done (by kernel_rfl) ?_ _
                    go_wp2_with fail
                    go_roundw
                    case rel => exact ⟨k2, q + 1, _, _, Nat.le_of_lt HK2.out, rfl, rfl, Lib.hid (by first | exact W3.out | rfl), rfl, Lib.hid (HF.out.no HFN.out)⟩
                    case measure => first | exact down_meas W3.out | simp [intOf]
        · have HO := Lib.hid (And.intro hO hW)
          have HJ := Lib.hid (show NN - j = 0 by omega)
          have HRET := Lib.hid (show (∃ os', ∃ v, Ending.returned (.slice VA k vc) = .returned v ∧ OutX w.heap.size wo v os' ∧ css os' = iterC g hz0 size now (runN steps) (css zs)) ∧ Below w.heap.size w wo from ⟨⟨os, _, rfl, hO, by
            have := HI.out
            rw [HJ.out] at this
            rw [HNN.out.1]; exact this⟩, hW⟩)
          by_cases hs : (j : Int) < steps
          · have n1 : ¬ ((j : Int) < 1000) := fun h => hlt ((HST.out j).2 ⟨hs, h⟩)
            clear hO hW hlt
            go_wp2_with fail
            go_ret
            exact HRET.out
          · clear hO hW hlt
            go_wp2_with fail
            go_ret
            exact HRET.out
end Go.Proofs.Ytchhnjadnacniaa.Cm
