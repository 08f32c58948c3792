/- The contract of made of the clean laws. -/
import Derived.Test.YtchhnjadnacniaaCmJ
namespace Go.Proofs.Ytchhnjadnacniaa.Cm
set_option linter.unusedSimpArgs false
set_option linter.unusedVariables false
open Go.RowKit

/-- the last time and the times by block behind transactions. -/
noncomputable def foldT (ts : List TxD) : Int × (Int → List Int) := ts.foldl (fun s x => (nextL s.1 x.t x.ps, nextG s.1 x.t x.ps s.2)) (0, fun _ => [])
theorem foldT_nil : foldT [] = (0, fun _ => []) := rfl
theorem foldT_snoc (ts : List TxD) (x : TxD) : foldT (ts ++ [x]) = (nextL (foldT ts).1 x.t x.ps, nextG (foldT ts).1 x.t x.ps (foldT ts).2) := by unfold foldT; rw [List.foldl_append]; rfl
theorem foldT_step {ts : List TxD} {k : Nat} (hk : k < ts.length) {x : TxD} (hx : ts[k] = x) : foldT (ts.take (k + 1)) = (nextL (foldT (ts.take k)).1 x.t x.ps, nextG (foldT (ts.take k)).1 x.t x.ps (foldT (ts.take k)).2) := by
  rw [List.take_succ_eq_append_getElem hk, hx, foldT_snoc]
/-- what made leaves: the map gm and the reference's xm, both of the transactions. -/
structure MadeK (w0 w : World) (gm xm k : Nat) (ts : List TxD) : Prop where
  ev : EV w w0.heap.size gm (k * 30) (k * 30) (foldT ts).1 (foldT ts).2
  rm : RM w w0.heap.size xm (k * 30) (foldT ts).1 (foldT ts).2
  bel : Below w0.heap.size w0 w
set_option maxRecDepth 100000 in
set_option maxHeartbeats 4000000 in
theorem made_any (A : Option Addr) (n c : Nat) (ts : List TxD) (w : World) (h : IsTxs w A n c ts) (hn : n ≤ 60) :
    Calls Try.prog 21 #[.slice A n c] w fun e w' => ∃ gm xm, e = .returned (.tuple #[.pointer (some ⟨gm, 0, none⟩), .pointer (some ⟨xm, 0, none⟩)]) ∧ MadeK w w' gm xm n ts := by
  have hl := h.len
  go_enter Try.func21, Try.ntmps21
  go_wp2_with fail
  refine (new_any w.heap.size _ (Nat.le_refl _)).mono ?_
  rintro e w1 ⟨⟨gm, rfl, hg, hE⟩, hb1⟩
  go_wp2_with fail
  refine (rnew_any w.heap.size w1 hb1.size).mono ?_
  rintro e w2 ⟨⟨xm, rfl, hx, hR⟩, hb2⟩
  have hE2 : EV w2 w.heap.size gm 0 0 0 (fun _ => []) := EV.next (by obtain ⟨bm, D, mv, hE⟩ := hE; exact ⟨bm, D, mv, _, hE, fun _ => rfl⟩) hb2
  have hM0 : MadeK w w2 gm xm 0 (ts.take 0) := ⟨by simpa [foldT] using hE2, by simpa [foldT] using hR, hb1.trans (hb2.mono hb1.size)⟩
  clear hE hE2 hR hb1 hb2 hg hx
  go_wp2_with fail
  go_loopw [8] (fun i wr => ∃ k : Nat, k ≤ n ∧ i = .int .i64 (k : Int) ∧ MadeK w wr gm xm k (ts.take k)) (fun i _ => n - (intOf i).toNat)
  case atStart => exact ⟨0, Nat.zero_le _, rfl, hM0⟩
  case round =>
    obtain ⟨k, hk, rfl, hM⟩ := hrel
    by_cases hlt : k < n
    · obtain ⟨x, hxk⟩ : ∃ x, ts[k]'(by omega) = x := ⟨_, rfl⟩
      have hw := Lib.hid (fun w' (hb : Below w.heap.size w w') => two_get tx_two (h.next hb).rd (k := k) (by omega) (u := .int .i64 x.t) (v := .slice x.A x.n x.c) (by rw [hxk]; rfl))
      have hps := Lib.hid (h.puts x (by rw [← hxk]; exact List.getElem_mem _))
      obtain ⟨ad, rfl, had, c0, c1⟩ := hw.out _ hM.bel
      have n0 : (k : Int) < (n : Int) := by omega
      have n1 : (0 : Int) ≤ (k : Int) := by omega
      have hst := foldT_step (by omega) hxk
      have HST := Lib.hid hst
      have HK := Lib.hid (show k * 30 ≤ 100000 by omega)
      have HK1 := Lib.hid (show k * 30 + 30 = (k + 1) * 30 by omega)
      clear hst hxk
      go_wp2_with fail
      refine (apply_any w w.heap.size gm (k * 30) (k * 30) x.n x.c x.A _ x.t _ x.ps _ hM.ev hps.out rfl hM.bel ⟨HK.out, HK.out⟩).mono ?_
      rintro e w3 ⟨⟨r, rfl⟩, hk3, hE3⟩
      have hb3 := hM.bel.trans hk3.bel
      have hR3 := hM.rm.keepO hk3
      obtain ⟨ad2, e2, _, d0, d1⟩ := hw.out _ hb3
      injection e2 with e2
      subst e2
      go_wp2_with fail
      refine (rapply_any w xm (k * 30) x.n x.c x.A _ x.t _ x.ps _ hR3 hps.out hb3 HK.out).mono ?_
      rintro e w4 ⟨⟨r2, rfl⟩, hk4, hR4⟩
      have hM4 : MadeK w w4 gm xm (k + 1) (ts.take (k + 1)) := by
        obtain ⟨XA, xn, xc, L, hXX, _⟩ := hR3
        refine ⟨?_, ?_, hb3.trans hk4.bel⟩
        · rw [HST.out, ← HK1.out]; exact hE3.keepX hk4 hXX.bx
        · rw [HST.out, ← HK1.out]; exact hR4
      clear hk3 hE3 hk4 hR4 hR3 hb3
      go_wp2_with fail
      go_roundw
      case rel => exact ⟨k + 1, hlt, by go_num, hM4⟩
      case measure => exact meas hlt
    · obtain rfl : k = n := by omega
      rw [List.take_of_length_le (by omega)] at hM
      go_wp2_with fail
      go_ret2
      exact ⟨gm, xm, rfl, hM⟩
end Go.Proofs.Ytchhnjadnacniaa.Cm
