/- Contracts of the program's functions, and laws on memory: a part of the proof of TopRoom. -/
import Derived.Test.YthhndleddlmgiaaGreatDoorZQ
import Derived.Test.YthhndleddlmgiaaGreatDoorProg
import Derived.LoopTactic
import Derived.LoopN
import Derived.Lib.Hide
import Derived.Deep.DeepMust
import Derived.Laws.MakeOwn
import Derived.Laws.Entries
import Derived.WalkSpells
import Derived.WalkMore
import Derived.IntWalk
import Derived.Deep.QuietTactic
import Derived.BigQuiet
import Derived.Shelf.Abstract
namespace Go.Proofs.YthhndleddlmgiaaGreatDoor.Tp
set_option maxHeartbeats 8000000
set_option maxRecDepth 100000
set_option linter.unusedSimpArgs false
set_option linter.unusedVariables false
section
open Go.RowKit Go.Maps
theorem rmay_any (w : World) : Calls Tryz.prog 23 #[.agg #[.int .i64 8, .int .i64 96]] w fun e w' => e = .returned (.bool true) ∧ Below w.heap.size w w' := by
 go_enter Tryz.func23, Tryz.ntmps23
 go_wp2
 go_ret
 exact ⟨rfl, (Below.refl _ _).alloc (Nat.le_refl _) _⟩
theorem rsteps_any (w : World) : Calls Tryz.prog 8 #[.agg #[.int .i64 8, .int .i64 96]] w fun e w' => e = .returned (.int .i64 16) ∧ Below w.heap.size w w' := by
 obtain ⟨g1, w1, hzw1, hw1, Bw1, bw1⟩ := alloc_of w 36 [.int .i64 8, .int .i64 96]
 obtain ⟨c0, c1⟩ := Bw1.c2
 have HB := Lib.hid (And.intro Bw1 bw1)
 clear Bw1 bw1
 go_enter Tryz.func8, Tryz.ntmps8
 go_wp2_with fail
 refine (rmay_any _).mono ?_
 rintro e w2 ⟨rfl, hb⟩
 have HE := Lib.hid (HB.out.2.trans (hb.mono HB.out.2.size))
 have B2 := HB.out.1.next hb HB.out.1.lt
 clear c0 c1 hb
 obtain ⟨c0, c1⟩ := B2.c2
 clear B2
 go_wp2_with fail
 go_ret
 exact ⟨rfl, HE.out⟩
structure RmN (s : SS) (g i fl R : Nat) : Prop where
 le : fl ≤ i
 pos : s.pos + 160 * R ≤ 33 * fl
 num : g + fl ≤ 2 * i + 17 * R
theorem RmN.big {s : SS} {g i fl R : Nat} (h : RmN s g i fl R) (hi : i < 150) : g + 18 ≤ 700 := by
 have h1 := h.le; have h2 := h.pos; have h3 := h.num; omega
def RmI (w wr : World) (sb i : Nat) : Prop := ∃ s F g, SchB wr F sb s g ∧ SmS s ∧ (∃ fl R, RmN s g i fl R) ∧ Below w.heap.size w wr ∧ ∀ b, F b → w.heap.size ≤ b
theorem RmI.mk' {w wr w' : World} {sb i g' fl R : Nat} {F : Foot} {s' : SS} (hb : Below w.heap.size w wr) (hF : ∀ b, F b → w.heap.size ≤ b) (hs : SmS s') (hn : RmN s' g' i fl R) (h : SchR wr w' F sb s' g') : RmI w w' sb i := by
 obtain ⟨F', h1, h2, h3, h4⟩ := h
 exact ⟨s', F', g', h1, hs, ⟨fl, R, hn⟩, hb.trans (h2.below hF hb.size), fun b q => (h3 b q).elim (hF b) (Nat.le_trans hb.size)⟩
theorem RmN.one {s s' : SS} {g i fl R : Nat} (h : RmN s g i fl R) (hp : s'.pos ≤ s.pos) : RmN s' (g + 1 + 1) (i + 1) fl R :=
 ⟨Nat.le_succ_of_le h.le, by have := h.pos; omega, by have := h.num; omega⟩
theorem RmN.skip {s : SS} {g i fl R : Nat} (h : RmN s g i fl R) : RmN s g (i + 1) fl R := ⟨Nat.le_succ_of_le h.le, h.pos, by have := h.num; omega⟩
theorem RmN.flush {s : SS} {g i fl R pos' : Nat} {r : Int} {m' : MS} {s' : SS} (h : RmN s g i fl R) (hr : flR s.m s.pos r pos' m') (h9 : r ≠ 9) (e : s'.pos = pos') : RmN s' (g + 1) (i + 1) (fl + 1) R := by
 have hp : pos' ≤ s.pos + 33 := by
  rcases hr with ⟨_, _, _, rfl⟩ | ⟨_, n, L, _, _, h33, ⟨_, _, rfl, _⟩ | ⟨_, h9', _⟩⟩
  · omega
  · omega
  · exact absurd h9' h9
 exact ⟨Nat.succ_le_succ h.le, by have := h.pos; omega, by have := h.num; omega⟩
theorem RmN.full {s : SS} {g i fl R pos' : Nat} {m' : MS} (h : RmN s g i fl R) (hr : flR s.m s.pos 9 pos' m') {s' : SS} (hp : s'.pos ≤ 33) : RmN s' (g + 18) (i + 1) (fl + 1) (R + 1) := by
 have h160 : 160 ≤ s.pos := by
  rcases hr with ⟨_, q, _⟩ | ⟨_, n, L, _, _, h33, ⟨_, q, _⟩ | ⟨h1, _⟩⟩
  · cases q
  · cases q
  · omega
 exact ⟨Nat.succ_le_succ h.le, by have := h.pos; omega, by have := h.num; omega⟩
theorem fl_room {m m' : MS} {r : Int} {pos' : Nat} (h : flR m 0 r pos' m') : (r = 0 ∨ r = 14) ∧ pos' ≤ 33 := by
 rcases h with ⟨_, q, _, rfl⟩ | ⟨_, n, L, _, _, h33, ⟨_, q, rfl, _⟩ | ⟨h1, _⟩⟩
 · exact ⟨.inr q, by omega⟩
 · exact ⟨.inl q, by omega⟩
 · omega
def RkI (w wr : World) (sb g k : Nat) : Prop := ∃ s F, SchB wr F sb s (g + 2 * k) ∧ SmS s ∧ (k = 8 → s.pos = 0) ∧ Below w.heap.size w wr ∧ ∀ b, F b → w.heap.size ≤ b
theorem RkI.zero {w wr w3 : World} {F : Foot} {sb g pos' : Nat} {s : SS} {m' : MS} (hb : Below w.heap.size w wr) (hF : ∀ b, F b → w.heap.size ≤ b) (hs : SmS s) (h : SchR wr w3 F sb { s with m := m', pos := pos', ev := s.ev + 1 } (g + 1)) : RkI w w3 sb (g + 1) 0 := by
 obtain ⟨F', h1, h2, h3, h4⟩ := h
 exact ⟨_, F', h1, fun c hc => hs c hc, fun q => (by cases q), hb.trans (h2.below hF hb.size), fun b q => (h3 b q).elim (hF b) (Nat.le_trans hb.size)⟩
theorem RkI.step {w wr w4 w5 : World} {F F4 : Foot} {sb g k : Nat} {s : SS} (hb : Below w.heap.size w wr) (hF : ∀ b, F b → w.heap.size ≤ b) (hs : SmS s) (h4 : SchB w4 F4 sb { s with pos := 0, ev := s.ev + 1 } (g + 2 * k + 1)) (k4 : Kf F wr w4) (s4 : Sb wr F F4) (h : SchR w4 w5 F4 sb { s with pos := 0, ev := s.ev + 1 + 1 } (g + 2 * k + 1 + 1)) : RkI w w5 sb g (k + 1) := by
 obtain ⟨F', h1, h2, h3, h5⟩ := h
 have hb4 := hb.trans (k4.below hF hb.size)
 have hF4 : ∀ b, F4 b → w.heap.size ≤ b := fun b q => (s4 b q).elim (hF b) (Nat.le_trans hb.size)
 exact ⟨{ s with pos := 0, ev := s.ev + 1 + 1 }, F', by rw [show g + 2 * (k + 1) = g + 2 * k + 1 + 1 by omega]; exact h1, fun c hc => hs c hc, fun _ => rfl, hb4.trans (h2.below hF4 hb4.size), fun b q => (h3 b q).elim (hF4 b) (Nat.le_trans hb4.size)⟩
theorem two_succ {k : Nat} {x : Int} (e : x = ((2 * k : Nat) : Int) + 2) : Value.int .i64 x = .int .i64 ((2 * (k + 1) : Nat) : Int) := by rw [e]; rfl
theorem sub_lt2 {k : Nat} (h : k < 8) {x : Int} (e : x = ((2 * k : Nat) : Int) + 2) : 16 - x.toNat < 16 - (((2 * k : Nat) : Int)).toNat := by omega
theorem rm_full {w wr w9 : World} {F : Foot} {sb g i fl R pos1 pos2 : Nat} {s s9 : SS} {m1 m2 : MS} {r : Int} (hn : RmN s g i fl R) (h9 : flR s.m s.pos 9 pos1 m1) (hb : Below w.heap.size w wr) (hF : ∀ b, F b → w.heap.size ≤ b) (hs : SmS s9) (hr : flR s9.m 0 r pos2 m2) (h : SchR wr w9 F sb { s9 with m := m2, pos := pos2, ev := s9.ev + 1 } (g + 1 + 2 * 8 + 1)) : RmI w w9 sb (i + 1) := by
 have hp := (fl_room hr).2
 exact .mk' (s' := { s9 with m := m2, pos := pos2, ev := s9.ev + 1 }) hb hF (fun c hc => hs c hc) (hn.full h9 (s' := { s9 with m := m2, pos := pos2, ev := s9.ev + 1 }) hp) (by rw [show g + 18 = g + 1 + 2 * 8 + 1 by omega]; exact h)
theorem toproom_any (aw : AwakeTrue) (G : Foot) (A : Option Addr) (n c : Nat) (l : List StepD) (kk : Int) (w : World) (h : IsSteps w G A n c l) (hI : In w G) (hp : Pow w) :
  Calls Tryz.prog 3 #[.slice A n c, .int .i64 kk] w fun e w' => e = .returned (.bool true) ∧ Below w.heap.size w w' := by
 have hsm := small_any G A n c l w h hI
 have H := Lib.hid (And.intro h (And.intro hI (And.intro aw hp)))
 clear h hI aw hp
 go_enter Tryz.func3, Tryz.ntmps3
 go_wp2_with fail
 refine hsm.mono ?_
 rintro e w1 ⟨⟨b, rfl, hb⟩, hb1⟩
 have HB1 := Lib.hid hb1
 clear hsm hb1
 cases b with
 | false =>
   have haw := H.out.2.2.1 w1 (H.out.2.2.2.next HB1.out)
   clear hb
   go_wp2_with fail
   refine haw.mono ?_
   rintro e w2 ⟨rfl, hb2⟩
   have HE := Lib.hid (HB1.out.trans (hb2.mono HB1.out.size))
   clear haw hb2
   go_wp2_with fail
   go_ret
   exact ⟨rfl, HE.out⟩
 | true =>
   obtain ⟨h150, hall⟩ := hb rfl
   have HN := Lib.hid (And.intro h150 (And.intro hall H.out.1.len))
   have hbg := tbegin_any w1
   clear hb hall
   go_wp2_with fail
   refine hbg.mono ?_
   rintro e w2 ⟨sb, rfl, F, hB, hb2, hF⟩
   have HR := Lib.hid (show RmI w w2 sb 0 from ⟨ss0, F, 0, hB, fun c hc o ho => by have : c = clz := List.eq_of_mem_replicate hc; subst this; simp [clz] at ho, ⟨0, 0, Nat.le_refl _, Nat.le_refl _, Nat.le_refl _⟩, HB1.out.trans (hb2.mono HB1.out.size), fun b q => Nat.le_trans HB1.out.size (hF b q)⟩)
   clear hbg hB hb2 hF
   go_wp2_with fail
   go_loopw [7] (fun iv wr => ∃ i : Nat, i ≤ n ∧ iv = .int .i64 (i : Int) ∧ Hid (RmI w wr sb i)) (fun iv _ => n - (intOf iv).toNat)
   case atStart => exact ⟨0, Nat.zero_le _, rfl, HR⟩
   case round =>
    obtain ⟨i, hi, rfl, HY⟩ := hrel
    rcases Nat.lt_or_ge i n with hlt | hge
    · obtain ⟨s, F2, g, hB, hss, ⟨fl, R, hn⟩, hbr, hF2⟩ := HY.out
      have h18 := hn.big (Nat.lt_of_lt_of_le hlt HN.out.1)
      obtain ⟨x, hx⟩ : ∃ x, l[i]'(Nat.lt_of_lt_of_eq hlt HN.out.2.2.symm) = x := ⟨_, rfl⟩
      have hm : x ∈ l := by rw [← hx]; exact List.getElem_mem _
      have hst := H.out.1.ag (G := G) (.of_below hbr)
      obtain ⟨ad, rfl, c0, c1, c2, c3, c4, c5⟩ := six_get hst.rd (Nat.lt_of_lt_of_eq hlt HN.out.2.2.symm) hx
      have n1 : (i : Int) < (n : Int) := by omega
      have n2 : (0 : Int) ≤ (i : Int) := by omega
      have m2 : wrap64 ((i : Int) + 1) = (i : Int) + 1 := by unfold wrap64; omega
      by_cases k3 : x.kind = 3
      · rw [k3] at c0
        have hfl := scFlush hB (by omega)
        have HC := Lib.hid (And.intro hbr (And.intro hF2 (And.intro hlt (And.intro hss (And.intro hn h18)))))
        clear hB hss hbr hF2 hx hm hst hn h18 k3 c1 c2 c3 c4 c5
        go_wp2_with fail
        refine hfl.mono ?_
        rintro e w3 ⟨r, rfl, pos', m', hr, hsr⟩
        clear hfl
        by_cases h9 : r = 9
        · subst h9
          have HK := Lib.hid (RkI.zero HC.out.1 HC.out.2.1 HC.out.2.2.2.1 hsr)
          have H9 := Lib.hid hr
          clear hsr hr c0
          go_wp2_with fail
          go_loopw [9] (fun jv wr2 => ∃ k : Nat, k ≤ 8 ∧ jv = .int .i64 ((2 * k : Nat) : Int) ∧ Hid (RkI w wr2 sb (g + 1) k)) (fun jv _ => 16 - (intOf jv).toNat)
          case atStart => exact ⟨0, Nat.zero_le _, rfl, HK⟩
          case round =>
           obtain ⟨k, hk, rfl, HW⟩ := hrel
           obtain ⟨s3, F3, hB3, hs3, h83, hb3, hF3⟩ := HW.out
           have hle := least_any wr
           have HG := Lib.hid (And.intro hB3 (And.intro hs3 (And.intro h83 (And.intro hb3 hF3))))
           clear hB3 hs3 h83 hb3 hF3
           go_wp2_with fail
           refine hle.mono ?_
           rintro e w4 ⟨rfl, hb4⟩
           have hstp := rsteps_any w4
           have H4 := Lib.hid hb4
           clear hle hb4
           go_wp2_with fail
           refine hstp.mono ?_
           rintro e w5 ⟨rfl, hb5⟩
           have H5 := Lib.hid (H4.out.trans (hb5.mono H4.out.size))
           clear hstp hb5
           have hB5 := HG.out.1.next H5.out
           by_cases hk8 : k < 8
           · have n5 : ((2 * k : Nat) : Int) < 16 := by omega
             have hch := scCheck hB5 (by have := HC.out.2.2.2.2.2; omega)
             have m3 : wrap64 (((2 * k : Nat) : Int) + 2) = ((2 * k : Nat) : Int) + 2 := by unfold wrap64; omega
             clear hB5
             go_wp2_with fail
             refine hch.mono ?_
             rintro e w6 ⟨rfl, F6, h1, h2, h3, h4⟩
             have hcl := scClean h1 (by have := HC.out.2.2.2.2.2; omega)
             have H6 := Lib.hid (And.intro h1 (And.intro h2 h3))
             clear hch h1 h2 h3 h4
             go_wp2_with fail
             refine hcl.mono ?_
             rintro e w7 ⟨⟨rc, rfl⟩, hr7⟩
             have HE := Lib.hid (RkI.step (HG.out.2.2.2.1.trans (H5.out.mono HG.out.2.2.2.1.size)) HG.out.2.2.2.2 HG.out.2.1 H6.out.1 H6.out.2.1 H6.out.2.2 hr7)
             clear hcl hr7
             go_wp2_with fail
             go_roundw
             case rel => exact ⟨k + 1, hk8, two_succ (by first | rfl | exact m3), HE⟩
             case measure => (first | exact sub_lt2 hk8 rfl | (rw [m3]; exact sub_lt2 hk8 rfl))
           · obtain rfl : k = 8 := by omega
             have n5 : ¬ ((2 * 8 : Nat) : Int) < 16 := by omega
             have hfl := scFlush hB5 (by have := HC.out.2.2.2.2.2; omega)
             have hp0 := HG.out.2.2.1 rfl
             rw [hp0] at hfl
             clear hB5 hp0
             go_wp2_with fail
             refine hfl.mono ?_
             rintro e w8 ⟨r8, rfl, pos8, m8, hr8, hsr8⟩
             have hr8' := (fl_room hr8).1
             have HE := Lib.hid (rm_full HC.out.2.2.2.2.1 H9.out (HG.out.2.2.2.1.trans (H5.out.mono HG.out.2.2.2.1.size)) HG.out.2.2.2.2 HG.out.2.1 hr8 hsr8)
             clear hfl hr8 hsr8
             rcases hr8' with rfl | rfl
             all_goals
              go_wp2_with fail
              go_roundw
              case rel => exact ⟨i + 1, HC.out.2.2.1, int_succ (by first | rfl | exact m2), HE⟩
              case measure => (first | exact sub_lt1 (x := (i : Int) + 1) HC.out.2.2.1 rfl | (rw [m2]; exact sub_lt1 (x := (i : Int) + 1) HC.out.2.2.1 rfl))
        · have b9 : (r != 9) = true := bne_iff_ne.2 h9
          have HE := Lib.hid (RmI.mk' (s' := { s with m := m', pos := pos', ev := s.ev + 1 }) HC.out.1 HC.out.2.1 (fun c hc => HC.out.2.2.2.1 c hc) (HC.out.2.2.2.2.1.flush hr h9 (s' := { s with m := m', pos := pos', ev := s.ev + 1 }) rfl) hsr)
          clear hr hsr h9
          go_wp2_with fail
          go_roundw
          case rel => exact ⟨i + 1, HC.out.2.2.1, int_succ (by first | rfl | exact m2), HE⟩
          case measure => (first | exact sub_lt1 (x := (i : Int) + 1) HC.out.2.2.1 rfl | (rw [m2]; exact sub_lt1 (x := (i : Int) + 1) HC.out.2.2.1 rfl))
      · have b3 : (x.kind == 3) = false := beq_eq_false_iff_ne.2 k3
        by_cases k7 : x.kind < 7
        · have t7 : decide (x.kind < 7) = true := decide_eq_true k7
          have hone := one_any hB (by omega) hss x.kind x.client x.N x.pA x.pn x.pc x.tA x.tn x.tc (hst.ops x hm).1 (fun b q r => by have h1 := H.out.2.1 b q; have h2 := hF2 b r; omega) (H.out.2.1.next hbr.size) (HN.out.2.1 x hm).1 (HN.out.2.1 x hm).2
          have HC := Lib.hid (And.intro hbr (And.intro hF2 (And.intro hlt (And.intro hn k3))))
          clear hB hss hbr hF2 hx hm hst hn h18 k3 k7
          go_wp2_with fail
          refine hone.mono ?_
          rintro e w3 ⟨rfl, s', hs', hp', hr'⟩
          have HE := Lib.hid (RmI.mk' HC.out.1 HC.out.2.1 hs' (HC.out.2.2.2.1.one (hp' HC.out.2.2.2.2)) hr')
          clear hone hs' hr' hp' c0 c1 c2 c3 c4 c5
          go_wp2_with fail
          go_roundw
          case rel => exact ⟨i + 1, HC.out.2.2.1, int_succ (by first | rfl | exact m2), HE⟩
          case measure => (first | exact sub_lt1 (x := (i : Int) + 1) HC.out.2.2.1 rfl | (rw [m2]; exact sub_lt1 (x := (i : Int) + 1) HC.out.2.2.1 rfl))
        · have t7 : decide (x.kind < 7) = false := decide_eq_false k7
          have HE := Lib.hid (show RmI w wr sb (i + 1) from ⟨s, F2, g, hB, hss, ⟨fl, R, hn.skip⟩, hbr, hF2⟩)
          have HC := Lib.hid hlt
          clear hB hss hbr hF2 hx hm hst hn h18 k3 k7
          go_wp2_with fail
          go_roundw
          case rel => exact ⟨i + 1, HC.out, int_succ (by first | rfl | exact m2), HE⟩
          case measure => (first | exact sub_lt1 (x := (i : Int) + 1) HC.out rfl | (rw [m2]; exact sub_lt1 (x := (i : Int) + 1) HC.out rfl))
    · obtain rfl : i = n := Nat.le_antisymm hi hge
      obtain ⟨s, F2, g, hB, hss, hn, hbr, hF2⟩ := HY.out
      have haw := H.out.2.2.1 wr (H.out.2.2.2.next hbr)
      have HL := Lib.hid hbr
      clear hB hss hbr hF2 hn
      go_wp2_with fail
      refine haw.mono ?_
      rintro e w9 ⟨rfl, hb9⟩
      have HE := Lib.hid (HL.out.trans (hb9.mono HL.out.size))
      clear haw hb9
      go_wp2_with fail
      go_ret
      exact ⟨rfl, HE.out⟩
end
end Go.Proofs.YthhndleddlmgiaaGreatDoor.Tp
