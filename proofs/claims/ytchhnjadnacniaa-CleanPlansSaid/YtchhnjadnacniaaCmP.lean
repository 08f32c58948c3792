/- What the document fixes holds (awake of the clean laws). -/
import Derived.Test.YtchhnjadnacniaaCmK
import Derived.Test.YtchhnjadnacniaaCmL
import Derived.Test.YtchhnjadnacniaaCmO
namespace Go.Proofs.Ytchhnjadnacniaa.Cm
set_option linter.unusedSimpArgs false
set_option linter.unusedVariables false
open Go.RowKit Rk

theorem okPs_one (A : Option Addr) (c : Nat) (ds : List Value) : okPs [⟨0, A, 40, c, ds⟩] :=
  ⟨⟨fun i hi => absurd hi (by simp [lbas]), by simp⟩, by simp, fun ⟨p, hp, h⟩ => by
    obtain rfl : p = ⟨0, A, 40, c, ds⟩ := by simpa using hp
    exact h rfl⟩
theorem aw_fold (A1 A2 D1 D2 : Option Addr) (ds1 ds2 : List Value) : (foldT [⟨1, A1, 1, 1, [⟨0, D1, 40, 40, ds1⟩]⟩, ⟨2, A2, 1, 1, [⟨0, D2, 40, 40, ds2⟩]⟩]).2 0 = [1, 2] := by
  have e : foldT [⟨1, A1, 1, 1, [⟨0, D1, 40, 40, ds1⟩]⟩, ⟨2, A2, 1, 1, [⟨0, D2, 40, 40, ds2⟩]⟩] = _ := rfl
  have o1 : okTx 0 1 [⟨0, D1, 40, 40, ds1⟩] := ⟨by omega, okPs_one _ _ _⟩
  have o2 : okTx 1 2 [⟨0, D2, 40, 40, ds2⟩] := ⟨by omega, okPs_one _ _ _⟩
  unfold foldT
  simp only [List.foldl_cons, List.foldl_nil]
  rw [show nextL 0 1 [⟨0, D1, 40, 40, ds1⟩] = 1 from if_pos o1]
  unfold nextG
  rw [if_pos o2, if_pos o1]
  simp [lbas]
theorem head_rank {ws : List Nat} {i : Nat} (hi : i < ws.length) (h0 : gt0 ws i ≠ 0) : ∃ q rs, rankV ws = q :: rs ∧ leR ws q i = true := by
  have hm : i ∈ rankV ws := mem_rankV.2 ⟨hi, h0⟩
  cases hr : rankV ws with
  | nil => rw [hr] at hm; simp at hm
  | cons q rs =>
    refine ⟨q, rs, rfl, ?_⟩
    have hs := rankV_sorted ws
    rw [hr] at hs hm
    rcases List.mem_cons.1 hm with rfl | h
    · unfold leR; simp
    · exact (List.pairwise_cons.1 hs).1 i h
theorem aw_next {g : Int → List Int} (hg : g 0 = [1, 2]) {e : Ending} {w' : World} {A1 A2 : Option Addr} (h : NextR e w' g [⟨A1, 1, 1, [⟨0, 1⟩]⟩, ⟨A2, 1, 1, [⟨0, 2⟩]⟩] 1 2 9) : ∃ A c, e = .returned (.tuple #[planC 0 (.slice A 0 c) 1, .int .i64 0]) := by
  have l1 : liveB g 2 ⟨0, 1⟩ = false := by
    unfold liveB getV; rw [if_pos (by simp), show (⟨0, 1⟩ : CpD).lba = 0 from rfl, hg]; decide
  have l2 : liveB g 2 ⟨0, 2⟩ = true := by
    unfold liveB getV; rw [if_pos (by simp), show (⟨0, 2⟩ : CpD).lba = 0 from rfl, hg]; decide
  have hx1 : liveL g 2 [⟨0, 1⟩] = [] := by unfold liveL; simp [l1]
  have hx2 : liveL g 2 [⟨0, 2⟩] = [⟨0, 2⟩] := by unfold liveL; simp [l2]
  have hi : idxF [⟨A1, 1, 1, [⟨0, 1⟩]⟩, ⟨A2, 1, 1, [⟨0, 2⟩]⟩] 1 2 = [0, 1] := by
    rw [idxF_yes (k := 1) (by simp [rn]), idxF_yes (k := 0) (by simp [rn])]; rfl
  have hf : fullZ g 2 1 [⟨A1, 1, 1, [⟨0, 1⟩]⟩, ⟨A2, 1, 1, [⟨0, 2⟩]⟩] 2 = [⟨0, 1, 1⟩, ⟨1, 1, 2⟩] := by
    unfold fullZ; rw [hi]; simp [zn, zoneV, hx1, hx2, newT]
  have hnb : ¬ nextB [⟨A1, 1, 1, [⟨0, 1⟩]⟩, ⟨A2, 1, 1, [⟨0, 2⟩]⟩] 1 := by
    rintro (h | ⟨x, hx, h⟩)
    · omega
    · simp at hx; rcases hx with rfl | rfl <;> simp at h
  have hw : wV 9 ⟨0, 1, 1⟩ = 9218868437227405312 := wV_inf.2 ⟨by decide, by decide, rfl⟩
  obtain ⟨q, rs, hr, hle⟩ := head_rank (ws := [wV 9 ⟨0, 1, 1⟩, wV 9 ⟨1, 1, 2⟩]) (i := 0) (by simp) (by unfold gt0; simp [hw])
  have hq : q = 0 := by
    have h1 := gt0_le (ws := [wV 9 ⟨0, 1, 1⟩, wV 9 ⟨1, 1, 2⟩]) (fun x hx => by simp at hx; rcases hx with rfl | rfl <;> exact wV_le _ _) q
    have h2 : gt0 [wV 9 ⟨0, 1, 1⟩, wV 9 ⟨1, 1, 2⟩] 0 = 9218868437227405312 := by unfold gt0; simpa using hw
    unfold leR at hle
    rw [h2] at hle
    simp at hle
    omega
  subst hq
  have hR : rankF g 2 1 9 [⟨A1, 1, 1, [⟨0, 1⟩]⟩, ⟨A2, 1, 1, [⟨0, 2⟩]⟩] = 0 :: rs := by unfold rankF; rw [show ([⟨A1, 1, 1, [⟨0, 1⟩]⟩, ⟨A2, 1, 1, [⟨0, 2⟩]⟩] : List RoD).length = 2 from rfl, hf]; exact hr
  rcases h with ⟨h, _⟩ | ⟨_, h, _⟩ | ⟨_, q, rs', i, x, A, c, h1, h2, h3, h4, _⟩
  · exact absurd h hnb
  · rw [hR] at h; cases h
  · rw [hR] at h1
    injection h1 with h1 _
    subst h1
    rw [show ([⟨A1, 1, 1, [⟨0, 1⟩]⟩, ⟨A2, 1, 1, [⟨0, 2⟩]⟩] : List RoD).length = 2 from rfl, hi] at h2
    obtain rfl : i = 0 := by simpa using h2.symm
    obtain rfl : x = ⟨A1, 1, 1, [⟨0, 1⟩]⟩ := by simpa using h3.symm
    refine ⟨A, c, ?_⟩
    rw [h4]
    show Ending.returned (.tuple #[planC 0 (.slice A (liveL g 2 [⟨0, 1⟩]).length c) ((1 : Int) - (liveL g 2 [⟨0, 1⟩]).length), .int .i64 0]) = _
    rw [hx1]; rfl
theorem puts_one {w : World} {p g : Nat} (hp : Bk w p 86 [.int .i64 0, .slice (some ⟨g, 0, none⟩) 40 40]) {ds : List Value} (hd : ds.length = 40) (hB : Bk w g 5 ds) (h1 : ∀ u ∈ ds, u.oneCell' = true) : IsPuts w (some ⟨p, 0, none⟩) 1 1 [⟨0, some ⟨g, 0, none⟩, 40, 40, ds⟩] :=
  ⟨rfl, by exact hp.rd, by simp [hd], by simpa using hB.rd, by simpa using h1, by simp; decide, by simp, by simp [maxLen], by simp [maxLen]⟩
theorem cps_one {w : World} {p : Nat} {t : Int} (hp : Bk w p 51 [.int .i64 0, .int .i64 t]) (ht : (Lit.int .i64 t).wf = true) : IsCps w (some ⟨p, 0, none⟩) 1 1 [⟨0, t⟩] :=
  ⟨rfl, by exact hp.rd, by simp, by simp [maxLen], by simpa using ⟨by decide, ht⟩⟩
set_option maxRecDepth 100000 in
set_option maxHeartbeats 4000000 in
theorem awake_any  (w : World) :
    Calls Try.prog 20 #[] w fun e w' => e = .returned (.bool true) ∧ Below w.heap.size w w' := by
  go_enter Try.func20, Try.ntmps20
  go_wp2_with fail
  refine (data_any 1 w).mono ?_
  rintro e w1 ⟨rfl, hd1, hs1, hb1⟩
  obtain ⟨ds1, hl1, hB1, ho1⟩ := hd1
  obtain ⟨wa, hwa⟩ : ∃ wa, w1.alloc (.cells #[.int .i64 0, .slice (some ⟨w.heap.size, 0, none⟩) 40 40] 86) = wa := ⟨_, rfl⟩
  have hpa : Bk wa w1.heap.size 86 [.int .i64 0, .slice (some ⟨w.heap.size, 0, none⟩) 40 40] := by rw [← hwa]; exact Bk.new w1 _ _
  have hba : Below w1.heap.size w1 wa := by rw [← hwa]; exact (Below.refl _ _).alloc (Nat.le_refl _) _
  have HA := Lib.hid (And.intro hl1 (And.intro hB1 (And.intro ho1 (And.intro hpa (And.intro hba (And.intro hb1 hs1))))))
  clear hl1 hB1 ho1 hpa hba hb1 hs1
  go_wp2_with fail
  refine (data_any 2 wa).mono ?_
  rintro e w2 ⟨rfl, ⟨ds2, hl2, hB2, ho2⟩, hs2, hb2⟩
  obtain ⟨wb, hwb⟩ : ∃ wb, (w2.alloc (.cells #[.int .i64 0, .slice (some ⟨wa.heap.size, 0, none⟩) 40 40] 86)).alloc (.cells #[.int .i64 1, .slice (some ⟨w1.heap.size, 0, none⟩) 1 1, .int .i64 2, .slice (some ⟨w2.heap.size, 0, none⟩) 1 1] 89) = wb := ⟨_, rfl⟩
  have hpb : Bk wb w2.heap.size 86 [.int .i64 0, .slice (some ⟨wa.heap.size, 0, none⟩) 40 40] := by rw [← hwb]; exact (Bk.new w2 _ _).alloc _
  have htb : Bk wb (w2.heap.size + 1) 89 [.int .i64 1, .slice (some ⟨w1.heap.size, 0, none⟩) 1 1, .int .i64 2, .slice (some ⟨w2.heap.size, 0, none⟩) 1 1] := by rw [← hwb]; simpa using Bk.new (w2.alloc (.cells #[.int .i64 0, .slice (some ⟨wa.heap.size, 0, none⟩) 40 40] 86)) 89 [.int .i64 1, .slice (some ⟨w1.heap.size, 0, none⟩) 1 1, .int .i64 2, .slice (some ⟨w2.heap.size, 0, none⟩) 1 1]
  have hbb : Below w2.heap.size w2 wb := by rw [← hwb]; exact ((Below.refl _ _).alloc (Nat.le_refl _) _).alloc (by simp) _
  have hab : Below wa.heap.size wa wb := hb2.trans (hbb.mono hb2.size)
  have h1b : Below w1.heap.size w1 wb := HA.out.2.2.2.2.1.trans (hab.mono HA.out.2.2.2.2.1.size)
  have hwb0 : Below w.heap.size w wb := HA.out.2.2.2.2.2.1.trans (h1b.mono HA.out.2.2.2.2.2.1.size)
  have hP1 := puts_one (HA.out.2.2.2.1.next hab HA.out.2.2.2.1.lt) HA.out.1 (HA.out.2.1.next h1b HA.out.2.1.lt) HA.out.2.2.1
  have hP2 := puts_one hpb hl2 (hB2.next hbb hB2.lt) ho2
  have hT : IsTxs wb (some ⟨w2.heap.size + 1, 0, none⟩) 2 2 [⟨1, some ⟨w1.heap.size, 0, none⟩, 1, 1, [⟨0, some ⟨w.heap.size, 0, none⟩, 40, 40, ds1⟩]⟩, ⟨2, some ⟨w2.heap.size, 0, none⟩, 1, 1, [⟨0, some ⟨wa.heap.size, 0, none⟩, 40, 40, ds2⟩]⟩] :=
    ⟨rfl, by exact htb.rd, by intro x hx; simp at hx; rcases hx with rfl | rfl; exact hP1; exact hP2, by intro x hx; simp at hx; rcases hx with rfl | rfl <;> rfl, by simp, by simp [maxLen]⟩
  have HB := Lib.hid hwb0
  have HG := Lib.hid (aw_fold (some ⟨w1.heap.size, 0, none⟩) (some ⟨w2.heap.size, 0, none⟩) (some ⟨w.heap.size, 0, none⟩) (some ⟨wa.heap.size, 0, none⟩) ds1 ds2)
  have HT := Lib.hid hT
  clear hpb htb hbb hab h1b hwb0 hP1 hP2 hT hl2 hB2 ho2 hs2 hb2
  go_wp2_with fail
  refine (made_any _ 2 2 _ wb HT.out (by omega)).mono ?_
  rintro e w3 ⟨gm, xm, rfl, hM⟩
  obtain ⟨g, hg⟩ : ∃ g, (foldT [⟨1, some ⟨w1.heap.size, 0, none⟩, 1, 1, [⟨0, some ⟨w.heap.size, 0, none⟩, 40, 40, ds1⟩]⟩, ⟨2, some ⟨w2.heap.size, 0, none⟩, 1, 1, [⟨0, some ⟨wa.heap.size, 0, none⟩, 40, 40, ds2⟩]⟩]).2 = g := ⟨_, rfl⟩
  have hev := hM.ev
  rw [hg] at hev
  have HG0 := Lib.hid (show g 0 = [1, 2] by rw [← hg]; exact HG.out)
  have hb3 := HB.out.trans (hM.bel.mono HB.out.size)
  clear hM hg
  obtain ⟨wc, hwc⟩ : ∃ wc, ((w3.alloc (.cells #[.int .i64 0, .int .i64 1] 51)).alloc (.cells #[.int .i64 0, .int .i64 2] 51)).alloc (.cells #[.slice (some ⟨w3.heap.size, 0, none⟩) 1 1, .slice (some ⟨w3.heap.size + 1, 0, none⟩) 1 1] 54) = wc := ⟨_, rfl⟩
  have hc1 : Bk wc w3.heap.size 51 [.int .i64 0, .int .i64 1] := by rw [← hwc]; exact ((Bk.new w3 _ _).alloc _).alloc _
  have hc2 : Bk wc (w3.heap.size + 1) 51 [.int .i64 0, .int .i64 2] := by rw [← hwc]; simpa using (Bk.new (w3.alloc (.cells #[.int .i64 0, .int .i64 1] 51)) 51 [.int .i64 0, .int .i64 2]).alloc (.cells #[.slice (some ⟨w3.heap.size, 0, none⟩) 1 1, .slice (some ⟨w3.heap.size + 1, 0, none⟩) 1 1] 54)
  have hc3 : Bk wc (w3.heap.size + 2) 54 [.slice (some ⟨w3.heap.size, 0, none⟩) 1 1, .slice (some ⟨w3.heap.size + 1, 0, none⟩) 1 1] := by rw [← hwc]; simpa using Bk.new ((w3.alloc (.cells #[.int .i64 0, .int .i64 1] 51)).alloc (.cells #[.int .i64 0, .int .i64 2] 51)) 54 [.slice (some ⟨w3.heap.size, 0, none⟩) 1 1, .slice (some ⟨w3.heap.size + 1, 0, none⟩) 1 1]
  have hbc : Below w3.heap.size w3 wc := by rw [← hwc]; exact (((Below.refl _ _).alloc (Nat.le_refl _) _).alloc (by simp) _).alloc (by simp; omega) _
  have hZ : IsZs wc (some ⟨w3.heap.size + 2, 0, none⟩) 2 2 [⟨some ⟨w3.heap.size, 0, none⟩, 1, 1, [⟨0, 1⟩]⟩, ⟨some ⟨w3.heap.size + 1, 0, none⟩, 1, 1, [⟨0, 2⟩]⟩] :=
    ⟨rfl, by exact hc3.rd, by intro x hx; simp at hx; rcases hx with rfl | rfl; exact cps_one hc1 (by decide); exact cps_one hc2 (by decide), by simp, by simp [maxLen]⟩
  have HZ := Lib.hid (And.intro hZ (And.intro (hev.next hbc) (hb3.trans (hbc.mono hb3.size))))
  clear hc1 hc2 hc3 hbc hZ hev hb3
  go_wp2_with fail
  refine (next_any wb.heap.size gm _ _ _ g _ 2 2 _ 1 2 9 wc HZ.out.2.1 (by omega) HZ.out.1 (by omega) (by intro x hx; simp at hx; rcases hx with rfl | rfl <;> simp)).mono ?_
  rintro e w4 ⟨hN, hb4⟩
  obtain ⟨PA, pc, rfl⟩ := aw_next HG0.out hN
  unfold planC
  obtain ⟨w5, hw5⟩ : ∃ w5, w4.alloc (.cells #[.int .i64 0, .slice PA 0 pc, .int .i64 1] 56) = w5 := ⟨_, rfl⟩
  have hx5 : Bk w5 w4.heap.size 56 [.int .i64 0, .slice PA 0 pc, .int .i64 1] := by rw [← hw5]; exact Bk.new w4 _ _
  have hb5 : Below wc.heap.size wc w5 := by rw [← hw5]; exact hb4.alloc hb4.size _
  have d0 := hx5.cell (i := 0) (by simp)
  have d1 := hx5.cell (i := 1) (by simp)
  have d2 := hx5.cell (i := 2) (by simp)
  simp only [List.getElem_cons_zero, List.getElem_cons_succ] at d0 d1 d2
  have HL := Lib.hid (show liveB g 2 ⟨0, 2⟩ = true by unfold liveB getV; rw [if_pos (by simp), show (⟨0, 2⟩ : CpD).lba = 0 from rfl, HG0.out]; decide)
  have HE5 := Lib.hid (And.intro (HZ.out.2.1.next hb5) (HZ.out.2.2.trans (hb5.mono HZ.out.2.2.size)))
  clear hN hb4 hx5 hb5
  go_wp2_with fail
  refine (live_any wb.heap.size gm _ _ _ g ⟨0, 2⟩ 2 w5 HE5.out.1 (by omega)).mono ?_
  rintro e w6 ⟨rfl, hb6⟩
  rw [HL.out]
  go_wp2_with fail
  go_ret
  exact ⟨rfl, HE5.out.2.trans (hb6.mono HE5.out.2.size)⟩
end Go.Proofs.Ytchhnjadnacniaa.Cm
