/- Contracts of the program's functions, and laws on memory: a part of the proof of TopRoom. -/
import Derived.Test.YthhndleddlmgiaaGreatDoorZE
import Derived.Test.YthhndleddlmgiaaGreatDoorProg
import Derived.LoopTactic
import Derived.LoopN
import Derived.Lib.Hide
import Derived.Deep.DeepMust
import Derived.Laws.MakeOwn
import Derived.Laws.Entries
import Derived.WalkSpells
import Derived.WalkMore
import Derived.IntWalk
import Derived.Deep.QuietTactic
import Derived.BigQuiet
import Derived.Shelf.Abstract
namespace Go.Proofs.YthhndleddlmgiaaGreatDoor.Tp
set_option maxHeartbeats 8000000
set_option maxRecDepth 100000
set_option linter.unusedSimpArgs false
set_option linter.unusedVariables false
section
open Go.RowKit Go.Maps
theorem SetX.add {w w' w5 : World} {F : Foot} {gs most : Nat} {v : Value} {xs : List ExD} (h : SetX w F gs most v xs) (hb : Below w.heap.size w w5) (hI : In w F) {B : Nat} {u : Value} {ys : List ExD} (hB : w.heap.size ≤ B) (hu : ExO w5 B u ys) (hl : ys.length ≤ most) (e : w' = w5.setCell ⟨gs, 1, none⟩ u) :
  ∃ F', SetP w' F' gs most ∧ Kf F w w' ∧ Sb w F F' ∧ In w' F' := by
 have hg := h.1.next hb h.1.lt
 have hgs := hg.set 1 u
 rw [← e] at hgs
 have hne : ∀ g, u.ownBlock = some g → w.heap.size ≤ g := fun g q => Nat.le_trans hB (own_at_ge hu q)
 refine ⟨fun b => F b ∨ u.ownBlock = some b, ⟨u, ys, hgs, ?_, hl, .inl h.2.2.2.1, fun g q => .inr q⟩, ?_, fun b q => q.elim .inl (fun r => .inr (hne b r)), fun b q => ?_⟩
 · have := own_set (p := ⟨gs, 1, none⟩) hu (Nat.lt_of_lt_of_le h.1.lt hB) u
   rw [← e] at this
   exact ownsRow_base_a this (Nat.zero_le _)
 · rw [e]; exact ((Kf.refl F w).next hb).set hg (by decide) (.inl h.2.2.2.1) 1 u
 · have hs : w'.heap.size = w5.heap.size := by rw [e]; exact World.size_setCell _ _ _
   rw [hs]
   rcases q with q | q
   · exact Nat.lt_of_lt_of_le (hI b q) hb.size
   · obtain ⟨_, _, hh⟩ := own_at hu q
     exact lt_of hh
theorem add_any (F : Foot) (gs most n c : Nat) (v : Value) (xs ys : List ExD) (A : Option Addr) (w : World) (h : SetX w F gs most v xs) (hm : most ≤ 1000) (hy : IsEx w A n c ys) (hn : n ≤ 1000) (hI : In w F) :
  Calls Tryz.prog 270 #[.pointer (some ⟨gs, 0, none⟩), .slice A n c] w fun e w' => (∃ r : Int, e = .returned (.int .i64 r)) ∧ ∃ F', SetP w' F' gs most ∧ Kf F w w' ∧ Sb w F F' ∧ In w' F' := by
 obtain ⟨vA, vc, rfl, hx⟩ := ExO.is h.2.1
 have hxl := h.2.2.1
 have hal := iall_any A n c ys w hy
 have HX := Lib.hid (And.intro h hI)
 have same : ∀ w', Below w.heap.size w w' → ∃ F', SetP w' F' gs most ∧ Kf F w w' ∧ Sb w F F' ∧ In w' F' := fun w' hb => ⟨F, SetP.ag ⟨_, _, h⟩ (.of_below hb), .of_below hb, .refl _ _, hI.next hb.size⟩
 have HS := Lib.hid same
 have hbx := h.1
 clear h hI same
 go_enter Tryz.func270, Tryz.ntmps270
 go_wp2_with fail
 refine hal.mono ?_
 rintro e w1 ⟨⟨r, rfl⟩, hb1⟩
 cases r with
 | false =>
   go_wp2_with fail
   go_ret
   exact ⟨⟨_, rfl⟩, HS.out _ hb1⟩
 | true =>
   rcases Nat.eq_zero_or_pos n with h0 | h0
   · subst h0
     go_wp2_with fail
     go_ret
     exact ⟨⟨_, rfl⟩, HS.out _ hb1⟩
   · have t0 : ((n : Int) == 0) = false := by simp; omega
     have t0' : decide ((n : Int) = 0) = false := decide_eq_false (by omega)
     have t0n : ¬ ((n : Int) = 0) := by omega
     have hb1g := hbx.next hb1 hbx.lt
     obtain ⟨c0, c1⟩ := hb1g.c2
     obtain ⟨w2, hw2⟩ : ∃ w2, w1.alloc (.cells #[.slice vA xs.length vc, .slice A n c] 393) = w2 := ⟨_, rfl⟩
     have hB2 : Bk w2 w1.heap.size 393 [.slice vA xs.length vc, .slice A n c] := by rw [← hw2]; exact Bk.new _ _ _
     have hb2 : Below w1.heap.size w1 w2 := by rw [← hw2]; exact (Below.refl _ _).alloc (Nat.le_refl _) _
     have hcc := concat_ex (some ⟨w1.heap.size, 0, none⟩) 2 2 [⟨vA, xs.length, vc, xs⟩, ⟨A, n, c, ys⟩] w2 rfl hB2.rd (by
      intro x hx'
      simp at hx'
      rcases hx' with rfl | rfl
      · exact (hx.next hb1).next hb2
      · exact (hy.next hb1).next hb2) (by omega) (by simp; omega)
     have HL := Lib.hid hy.len
     have hb12 := hb1.trans (hb2.mono hb1.size)
     have HB := Lib.hid hb12
     clear hal hB2 hb2 hb1 hb12 hy hx
     go_wp2_with fail
     refine hcc.mono ?_
     rintro e w3 ⟨⟨u3, rfl, hu3⟩, hb3⟩
     obtain ⟨qs, hqs⟩ : ∃ qs, List.flatMap (fun x : RX => x.xs) [⟨vA, xs.length, vc, xs⟩, ⟨A, n, c, ys⟩] = qs := ⟨_, rfl⟩
     rw [hqs] at hu3
     obtain ⟨N, hN⟩ : ∃ N, qs.length = N := ⟨_, rfl⟩
     have hNl : N = xs.length + n := by rw [← hN, ← hqs]; simp [HL.out]
     obtain ⟨uA, uc, rfl, hz⟩ := ExO.is hu3
     rw [hN] at hz ⊢
     have hjn := joined_any uA N uc _ w3 hz (by omega) (by omega)
     clear hqs hNl hN
     have hb3' := HB.out.trans (hb3.mono HB.out.size)
     have HB3 := Lib.hid hb3'
     clear hcc hz hu3 hb3 hb3'
     go_wp2_with fail
     refine hjn.mono ?_
     rintro e w4 ⟨⟨u4, rfl, zs, hzl, hu4⟩, hb4⟩
     obtain ⟨zA, zc, rfl, _⟩ := ExO.is hu4
     have hb4' := HB3.out.trans (hb4.mono HB3.out.size)
     have hb4g := hbx.next hb4' hbx.lt
     have HU := Lib.hid (And.intro hu4 HB3.out.size)
     have HB4 := Lib.hid hb4'
     clear c0 c1 hjn hu4 hb4 hb4' hzl
     obtain ⟨c0, c1⟩ := hb4g.c2
     have f1 := hb4g.free 1
     by_cases hgt : most < zs.length
     · have t1 : decide ((most : Int) < (zs.length : Int)) = true := decide_eq_true (by omega)
       have t1' : (most : Int) < (zs.length : Int) := by omega
       go_wp2_with fail
       go_ret
       exact ⟨⟨_, rfl⟩, HS.out _ HB4.out⟩
     · have t1 : decide ((most : Int) < (zs.length : Int)) = false := decide_eq_false (by omega)
       have t1' : ¬ (most : Int) < (zs.length : Int) := by omega
       have HN := Lib.hid (show zs.length ≤ most by omega)
       clear hgt
       go_wp2_with fail
       go_ret
       exact ⟨⟨_, rfl⟩, HX.out.1.add HB4.out HX.out.2 HU.out.2 HU.out.1 HN.out rfl⟩
theorem count_any (F : Foot) (gs most : Nat) (w : World) (h : SetP w F gs most) (hm : most ≤ 1000) :
  Calls Tryz.prog 363 #[.pointer (some ⟨gs, 0, none⟩)] w fun e w' => (∃ r : Int, e = .returned (.int .i64 r)) ∧ Below w.heap.size w w' := by
 obtain ⟨v, xs, h⟩ := h
 have hx := extents_any F gs most 0 v xs w h hm (Nat.zero_le _)
 have hxl := h.2.2.1
 clear h
 go_enter Tryz.func363, Tryz.ntmps363
 go_wp2_with fail
 refine hx.mono ?_
 rintro e w1 ⟨⟨u, rfl, hu⟩, hb1⟩
 obtain ⟨A, c, rfl, hz⟩ := ExO.is hu
 obtain ⟨n, hn⟩ : ∃ n, xs.length = n := ⟨_, rfl⟩
 rw [hn] at hz ⊢
 have hl := hz.len
 clear hx hu
 go_wp2_with fail
 go_loopw [2, 8] (fun sv iv wr => ∃ (k : Nat) (S : Int), k ≤ n ∧ iv = .int .i64 (k : Int) ∧ sv = .int .i64 S ∧ Below w.heap.size w wr ∧ Below w1.heap.size w1 wr) (fun _ iv _ => n - (intOf iv).toNat)
 case atStart => exact ⟨0, 0, Nat.zero_le _, rfl, rfl, hb1, Below.refl _ _⟩
 case round =>
  obtain ⟨k, S, hk, rfl, rfl, hW, hW1⟩ := hrel
  by_cases hlt : k < n
  · obtain ⟨x, hpx⟩ : ∃ p, xs[k]'(by omega) = p := ⟨_, rfl⟩
    have hmx : x ∈ xs := by rw [← hpx]; exact List.getElem_mem _
    obtain ⟨adx, eAx, hadx, c0, c1⟩ := two_get ex_two (hz.rd.next (Nat.le_refl _) hW1) (k := k) (by omega) (u := .int .i64 x.f) (v := .int .i64 x.l) (by rw [hpx]; rfl)
    subst eAx
    have n0 : (k : Int) < (n : Int) := by omega
    have n1 : (0 : Int) ≤ (k : Int) := by omega
    clear hpx hmx
    obtain ⟨w6, hw6⟩ : ∃ w6, wr.alloc (.cells #[.int .i64 x.f, .int .i64 x.l] 197) = w6 := ⟨_, rfl⟩
    have hB6 : Bk w6 wr.heap.size 197 [.int .i64 x.f, .int .i64 x.l] := by rw [← hw6]; exact Bk.new wr _ _
    have hb6 : Below wr.heap.size wr w6 := by rw [← hw6]; exact (Below.refl _ _).alloc (Nat.le_refl _) _
    obtain ⟨d0, d1⟩ := hB6.c2
    have HW6 := Lib.hid (show Below w.heap.size w w6 ∧ Below w1.heap.size w1 w6 from ⟨hW.trans (hb6.mono hW.size), hW1.trans (hb6.mono hW1.size)⟩)
    clear hB6 hW hW1
    go_wp2_with fail
    go_roundw
    case rel => exact ⟨k + 1, _, by omega, by go_num, rfl, HW6.out.1, HW6.out.2⟩
    case measure => simp [intOf]; omega
  · obtain rfl : k = n := by omega
    have n0 : ¬ (k : Int) < (k : Int) := by omega
    go_wp2_with fail
    go_ret
    exact ⟨⟨_, rfl⟩, hW⟩
theorem meetsc_any (x y : ExD) (g : Nat) (w : World) (h : Bk w g 197 [.int .i64 y.f, .int .i64 y.l]) :
  Calls Tryz.prog 407 #[.agg #[.int .i64 x.f, .int .i64 x.l], .pointer (some ⟨g, 0, none⟩)] w fun e w' => e = .returned (.bool (meetB x y)) ∧ Below w.heap.size w w' := by
 have hc := fun w' => meet_any x y w'
 obtain ⟨w5, hw5⟩ : ∃ w5, w.alloc (.cells #[.int .i64 x.f, .int .i64 x.l] 197) = w5 := ⟨_, rfl⟩
 have hB5 : Bk w5 w.heap.size 197 [.int .i64 x.f, .int .i64 x.l] := by rw [← hw5]; exact Bk.new w _ _
 have hb5 : Below w.heap.size w w5 := by rw [← hw5]; exact (Below.refl _ _).alloc (Nat.le_refl _) _
 obtain ⟨d0, d1⟩ := hB5.c2
 have hy := h.next hb5 h.lt
 obtain ⟨e0, e1⟩ := hy.c2
 clear h hy
 go_enter Tryz.func407, Tryz.ntmps407
 go_wp2_with fail
 refine (hc _).mono ?_
 rintro e w' ⟨rfl, hb⟩
 have HB := Lib.hid (hb5.trans (hb.mono hb5.size))
 clear hc hb
 go_wp2_with fail
 go_ret
 exact ⟨rfl, HB.out⟩
def meetsB (xs : List ExD) (y : ExD) : Bool := mayB y && xs.any (fun x => meetB x y)
theorem meetsB_of {xs : List ExD} {y : ExD} {r : Bool} (hm : mayB y = true) (h : r = true ↔ ∃ x ∈ xs, meetB x y = true) : r = meetsB xs y := by
 unfold meetsB; rw [hm, Bool.true_and, Bool.eq_iff_iff, h, List.any_eq_true]
theorem meets_any (F : Foot) (gs most : Nat) (v : Value) (xs : List ExD) (y : ExD) (w : World) (h : SetX w F gs most v xs) :
  Calls Tryz.prog 398 #[.pointer (some ⟨gs, 0, none⟩), .agg #[.int .i64 y.f, .int .i64 y.l]] w fun e w' => e = .returned (.bool (meetsB xs y)) ∧ Below w.heap.size w w' := by
 obtain ⟨vA, vc, rfl, hx⟩ := ExO.is h.2.1
 have hbx := h.1
 obtain ⟨N, hN⟩ : ∃ N, xs.length = N := ⟨_, rfl⟩
 rw [hN] at hbx hx
 have hm := fun w' => may_any y w'
 clear h hN
 obtain ⟨w5, hw5⟩ : ∃ w5, w.alloc (.cells #[.int .i64 y.f, .int .i64 y.l] 197) = w5 := ⟨_, rfl⟩
 have hB5 : Bk w5 w.heap.size 197 [.int .i64 y.f, .int .i64 y.l] := by rw [← hw5]; exact Bk.new w _ _
 have hb5 : Below w.heap.size w w5 := by rw [← hw5]; exact (Below.refl _ _).alloc (Nat.le_refl _) _
 obtain ⟨d0, d1⟩ := hB5.c2
 have HB5 := Lib.hid (And.intro hB5 hb5)
 clear hB5
 go_enter Tryz.func398, Tryz.ntmps398
 go_wp2_with fail
 refine (hm _).mono ?_
 rintro e w1 ⟨rfl, hb1⟩
 have HB1 := Lib.hid (And.intro (HB5.out.2.trans (hb1.mono HB5.out.2.size)) hb1)
 obtain ⟨mb, hmb⟩ : ∃ b, mayB y = b := ⟨_, rfl⟩
 have HMB := Lib.hid hmb
 rw [hmb]
 have hg1 := hbx.next HB1.out.1 hbx.lt
 clear hm hb1 hb5 hmb d0 d1
 obtain ⟨c0, c1⟩ := hg1.c2
 cases mb with
 | false =>
   have HR := Lib.hid (show false = meetsB xs y by unfold meetsB; rw [HMB.out]; rfl)
   go_wp2_with fail
   go_ret
   exact ⟨ret_bool HR.out, HB1.out.1⟩
 | true =>
   have hc := has_ex vA N vc xs 407 #[.pointer (some ⟨w.heap.size, 0, none⟩)] (fun x => meetB x y) w1 (hx.next HB1.out.1) (enters_of Tryz.func407 (by kernel_rfl) rfl)
    (fun p _ w' hb => meetsc_any p y w.heap.size w' (((HB5.out.1.next HB1.out.2 HB5.out.1.lt)).next hb (Nat.lt_of_lt_of_le HB5.out.1.lt HB1.out.2.size)))
   clear hx
   go_wp2_with fail
   refine hc.mono ?_
   rintro e w2 ⟨⟨r, rfl, hr⟩, hb2⟩
   have HB2 := Lib.hid (And.intro (meetsB_of HMB.out hr) (HB1.out.1.trans (hb2.mono HB1.out.1.size)))
   clear hc hb2 hr
   go_wp2_with fail
   go_ret
   exact ⟨ret_bool HB2.out.1, HB2.out.2⟩
theorem has_any (F : Foot) (gs most : Nat) (v : Value) (xs : List ExD) (x : Int) (w : World) (h : SetX w F gs most v xs) :
  Calls Tryz.prog 384 #[.pointer (some ⟨gs, 0, none⟩), .int .i64 x] w fun e w' => e = .returned (.bool (meetsB xs ⟨x, 1⟩)) ∧ Below w.heap.size w w' := by
 have hc := meets_any F gs most v xs ⟨x, 1⟩ w h
 generalize meetsB xs ⟨x, 1⟩ = rb at hc
 clear h
 go_enter Tryz.func384, Tryz.ntmps384
 go_wp2_with fail
 refine hc.mono ?_
 rintro e w2 ⟨rfl, hb2⟩
 go_wp2_with fail
 go_ret
 exact ⟨rfl, hb2⟩
end
section
open Go.RowKit Go.Maps
theorem zeroI (w : World) : (zeroValue 3).run Tryz.prog w = .ok (.int .i64 0) w := by kernel_rfl
theorem underMII : Tryz.prog.underlying 262 = some (.map 3 3) := Tryz.underlying262
theorem look_int {f : Int → Option Value} (hf : ∀ x v, wf64 x → f x = some v → ∃ j : Int, v = .int .i64 j) {x : Int} (hx : wf64 x) : ∃ j : Int, (f x).getD (.int .i64 0) = .int .i64 j ∧ (f x = none → j = 0) := by
 cases h : f x with
 | none => exact ⟨0, rfl, fun _ => rfl⟩
 | some v => obtain ⟨j, rfl⟩ := hf x v hx h; exact ⟨j, rfl, fun e => by cases e⟩
theorem twice_any (A : Option Addr) (n c : Nat) (ps : List PutD) (w : World) (h : IsPs w A n c ps) (hn : n ≤ 20000) (hw : ∀ p ∈ ps, wf64 p.lba) :
  Calls Tryz.prog 274 #[.slice A n c] w fun e w' => (∃ r, e = .returned (.bool r) ∧ (n ≤ 1 → r = false)) ∧ Below w.heap.size w w' := by
 have hmm := @run_makeMap Tryz.prog
 have hl := h.len
 obtain ⟨w1, hw1⟩ : ∃ w1, w.alloc (.map #[] 0) = w1 := ⟨_, rfl⟩
 have hb1 : Below w.heap.size w w1 := by rw [← hw1]; exact (Below.refl _ _).alloc (Nat.le_refl _) _
 have him : IM w1 Tryz.prog 3 w.heap.size 0 (fun _ => none) := by rw [← hw1]; exact IM.made _ _ _
 have hrd := h.rd
 have HWF := Lib.hid hw
 clear hw h
 go_enter Tryz.func274, Tryz.ntmps274
 go_wp2_with fail
 go_step3
 go_wp2_with fail
 go_step3
 go_wp2_with fail
 go_loopw [9] (fun iv wr => ∃ k s : Nat, k ≤ n ∧ s ≤ k ∧ iv = .int .i64 (k : Int) ∧ Below w.heap.size w wr ∧ ∃ f, Hid (IM wr Tryz.prog 3 w.heap.size s f ∧ (∀ x v, wf64 x → f x = some v → ∃ j : Int, v = .int .i64 j) ∧ (k = 0 → ∀ x, f x = none))) (fun iv _ => n - (intOf iv).toNat)
 case atStart => exact ⟨0, 0, Nat.zero_le _, Nat.le_refl _, rfl, hb1, fun _ => none, him, fun x v _ h => (by cases h), fun _ _ => rfl⟩
 case round =>
  obtain ⟨k, s, hk, hsk, rfl, hW, f, HI⟩ := hrel
  by_cases hlt : k < n
  · obtain ⟨x, hpx⟩ : ∃ p, ps[k]'(by omega) = p := ⟨_, rfl⟩
    have hmx : x ∈ ps := by rw [← hpx]; exact List.getElem_mem _
    obtain ⟨adx, eAx, hadx, c0, c1⟩ := two_get put_two (hrd.next (Nat.le_refl _) hW) (k := k) (by omega) (u := .int .i64 x.lba) (v := .slice x.A x.n x.c) (by rw [hpx]; rfl)
    subst eAx
    have hxw := HWF.out x hmx
    obtain ⟨j, hj, hj0⟩ := look_int HI.out.2.1 hxw
    have n0 : (k : Int) < (n : Int) := by omega
    have n1 : (0 : Int) ≤ (k : Int) := by omega
    clear hpx hmx
    obtain ⟨w6, hw6⟩ : ∃ w6, wr.alloc (.cells #[.int .i64 x.lba, .slice x.A x.n x.c] 50) = w6 := ⟨_, rfl⟩
    have hB6 : Bk w6 wr.heap.size 50 [.int .i64 x.lba, .slice x.A x.n x.c] := by rw [← hw6]; exact Bk.new wr _ _
    have hb6 : Below wr.heap.size wr w6 := by rw [← hw6]; exact (Below.refl _ _).alloc (Nat.le_refl _) _
    obtain ⟨d0, d1⟩ := hB6.c2
    have hI6 := HI.out.1.next hb6
    have hlk := hI6.look lawI underI underMII (zeroI _) hxw
    rw [hj] at hlk
    have HW6 := Lib.hid (And.intro hB6 (And.intro (hW.trans (hb6.mono hW.size)) HI.out.1.lt))
    have HJ := Lib.hid (show k = 0 → j = 0 from fun e => hj0 (HI.out.2.2 e _))
    have HI6 := Lib.hid (And.intro hI6 HI.out.2.1)
    clear hB6 hb6 hW hI6 HI hj hj0
    obtain ⟨V, hV⟩ : ∃ V, wrap64 (j + 1) = V := ⟨_, rfl⟩
    have HV := Lib.hid hV
    by_cases hq : V = 1
    · subst hq
      go_wp2_with (at_mapUpdate; go_must (refine wpList_iupd _ rfl _ _ _ 262 rfl 3 3 lawI underI underMII w.heap.size s f (by rfl) (by exact HI6.out.1) (by omega) x.lba (.int .i64 1) (by rfl) (by exact congrArg (Value.int .i64) HV.out) hxw ?_); intro w7 hI7 hG7; have hB7 : Bk w7 wr.heap.size 50 [.int .i64 x.lba, .slice x.A x.n x.c] := (hG7.block _ HW6.out.1.lt (fun e => by injection e with e; have := HW6.out.2.2; omega)).trans HW6.out.1; have e0 := hB7.cell (i := 0) (by simp); simp only [List.getElem_cons_zero] at e0; have hlk7 := hI7.look lawI underI underMII (zeroI _) hxw; rw [upd_same] at hlk7; simp only [Option.getD_some] at hlk7)
      have HE := Lib.hid (show sized s (f x.lba) ≤ k + 1 ∧ Below w.heap.size w w7 ∧ IM w7 Tryz.prog 3 w.heap.size (sized s (f x.lba)) (upd f x.lba (some (.int .i64 1))) ∧ (∀ y v, wf64 y → upd f x.lba (some (.int .i64 1)) y = some v → ∃ j : Int, v = .int .i64 j) from
       ⟨by unfold sized; split <;> omega, HW6.out.2.1.grown hG7 HW6.out.2.1.size (fun g hg => by injection hg with hg; omega), hI7, fun y v hy hv => by
        unfold upd at hv
        split at hv
        · injection hv with hv; exact ⟨1, hv.symm⟩
        · exact HI6.out.2 y v hy hv⟩)
      clear hI7 hG7 hB7 e0 hlk7
      go_roundw
      case rel => exact ⟨k + 1, _, by omega, HE.out.1, by go_num, HE.out.2.1, _, HE.out.2.2.1, HE.out.2.2.2, fun h => absurd h (by omega)⟩
      case measure => simp [intOf]; omega
    · have t0 : decide (V = 1) = false := decide_eq_false hq
      have t1 : (V == 1) = false := by simp [hq]
      have HQ := Lib.hid (show n ≤ 1 → True = False from fun h1 => by
       have := HJ.out (by omega)
       subst this
       exact absurd (HV.out.symm.trans (by unfold wrap64; omega)) hq)
      go_wp2_with (at_mapUpdate; go_must (refine wpList_iupd _ rfl _ _ _ 262 rfl 3 3 lawI underI underMII w.heap.size s f (by rfl) (by exact HI6.out.1) (by omega) x.lba (.int .i64 V) (by rfl) (by exact congrArg (Value.int .i64) HV.out) hxw ?_); intro w7 hI7 hG7; have hB7 : Bk w7 wr.heap.size 50 [.int .i64 x.lba, .slice x.A x.n x.c] := (hG7.block _ HW6.out.1.lt (fun e => by injection e with e; have := HW6.out.2.2; omega)).trans HW6.out.1; have e0 := hB7.cell (i := 0) (by simp); simp only [List.getElem_cons_zero] at e0; have hlk7 := hI7.look lawI underI underMII (zeroI _) hxw; rw [upd_same] at hlk7; simp only [Option.getD_some] at hlk7)
      have HB := Lib.hid (HW6.out.2.1.grown hG7 HW6.out.2.1.size (fun g hg => by injection hg with hg; omega))
      clear hI7 hG7 hB7 e0 hlk7
      (try simp only [Exit.inBlock, Exit.then, Exit.noGoto_ret])
      go_ret
      exact ⟨⟨_, rfl, fun h1 => by have := HQ.out h1; simp at this⟩, HB.out⟩
  · obtain rfl : k = n := by omega
    have n0 : ¬ (k : Int) < (k : Int) := by omega
    go_wp2_with fail
    (try simp only [Exit.inBlock, Exit.then, Exit.noGoto_ret])
    go_ret
    exact ⟨⟨_, rfl, fun _ => rfl⟩, hW⟩
def rngB (x : PutD) : Bool := decide (x.lba < 0) || decide (258 ≤ x.lba)
def lenB (x : PutD) : Bool := (x.n : Int) != 40
theorem wclo1_any (x : PutD) (gb bb : Nat) (v : Value) (w : World) (hg : Bk w gb 202 [.pointer (some ⟨bb, 0, none⟩)]) (hb : Bk w bb 271 [.int .i64 258, .int .i64 16, v]) :
  Calls Tryz.prog 272 #[.agg #[.int .i64 x.lba, .slice x.A x.n x.c], .pointer (some ⟨gb, 0, none⟩)] w fun e w' => e = .returned (.bool (rngB x)) ∧ Below w.heap.size w w' := by
 obtain ⟨w5, hw5⟩ : ∃ w5, w.alloc (.cells #[.int .i64 x.lba, .slice x.A x.n x.c] 50) = w5 := ⟨_, rfl⟩
 have hB5 : Bk w5 w.heap.size 50 [.int .i64 x.lba, .slice x.A x.n x.c] := by rw [← hw5]; exact Bk.new w _ _
 have hb5 : Below w.heap.size w w5 := by rw [← hw5]; exact (Below.refl _ _).alloc (Nat.le_refl _) _
 obtain ⟨d0, d1⟩ := hB5.c2
 have hg5 := hg.next hb5 hg.lt
 have hb5' := hb.next hb5 hb.lt
 have g0 := hg5.cell (i := 0) (by simp)
 simp only [List.getElem_cons_zero] at g0
 obtain ⟨e0, e1, e2⟩ := hb5'.c3
 clear hg hb hg5 hb5'
 by_cases h0 : x.lba < 0
 · have t0 : decide (x.lba < 0) = true := decide_eq_true h0
   have HR := Lib.hid (show rngB x = true by simp only [rngB, t0, Bool.true_or])
   go_enter Tryz.func272, Tryz.ntmps272
   go_wp2_with fail
   go_quiet (fail)
   go_wp2_with fail
   go_ret
   exact ⟨ret_bool HR.out.symm, hb5.trans (bdrewN (Below.refl _ _) _)⟩
 · have t0 : decide (x.lba < 0) = false := decide_eq_false h0
   have HR := Lib.hid (show rngB x = decide (258 ≤ x.lba) by simp only [rngB, t0, Bool.false_or])
   go_enter Tryz.func272, Tryz.ntmps272
   go_wp2_with fail
   go_quiet (fail)
   go_wp2_with fail
   go_ret
   exact ⟨ret_bool HR.out.symm, hb5.trans (bdrewN (Below.refl _ _) _)⟩
theorem wclo2_any (x : PutD) (w : World) :
  Calls Tryz.prog 273 #[.agg #[.int .i64 x.lba, .slice x.A x.n x.c]] w fun e w' => e = .returned (.bool (lenB x)) ∧ Below w.heap.size w w' := by
 obtain ⟨w5, hw5⟩ : ∃ w5, w.alloc (.cells #[.int .i64 x.lba, .slice x.A x.n x.c] 50) = w5 := ⟨_, rfl⟩
 have hB5 : Bk w5 w.heap.size 50 [.int .i64 x.lba, .slice x.A x.n x.c] := by rw [← hw5]; exact Bk.new w _ _
 have hb5 : Below w.heap.size w w5 := by rw [← hw5]; exact (Below.refl _ _).alloc (Nat.le_refl _) _
 obtain ⟨d0, d1⟩ := hB5.c2
 go_enter Tryz.func273, Tryz.ntmps273
 go_wp2_with fail
 go_ret
 exact ⟨rfl, hb5⟩
def cntN (f : Int → Option Value) (ps : List PutD) (k : Nat) : Nat := ((ps.take k).filter fun p => (f p.lba).isNone).length
theorem cntN_zero (f : Int → Option Value) (ps : List PutD) : cntN f ps 0 = 0 := by simp [cntN]
theorem cntN_step (f : Int → Option Value) (ps : List PutD) {k : Nat} (hk : k < ps.length) : cntN f ps (k + 1) = cntN f ps k + if (f ps[k].lba).isNone then 1 else 0 := by
 unfold cntN
 rw [List.take_succ_eq_append_getElem hk, List.filter_append, List.length_append]
 by_cases h : (f ps[k].lba).isNone = true <;> simp [h]
theorem cntN_le (f : Int → Option Value) (ps : List PutD) (k : Nat) : cntN f ps k ≤ k := by
 unfold cntN
 exact Nat.le_trans (List.length_filter_le _ _) (by rw [List.length_take]; omega)
structure WrX (w wr : World) (mb s : Nat) (f : Int → Option Value) (ps : List PutD) (k : Nat) (sk : Nat) (fk : Int → Option Value) : Prop where
 im : IM wr Tryz.prog 3 mb sk fk
 le : sk ≤ s + cntN f ps k
 more : ∀ x, (f x).isSome = true → (fk x).isSome = true
 from_ : ∀ x, (fk x).isSome = true → (f x).isSome = true ∨ ∃ p ∈ ps, p.lba = x
 val : ∀ x v, wf64 x → fk x = some v → ∃ A c bs, v = .slice A 40 c ∧ IsY wr A 40 c bs
 in_ : ∀ j, (hj : j < ps.length) → j < k → (fk ps[j].lba).isSome = true
 kf : Kf (fun b => b = mb) w wr
theorem WrX.start {w : World} {F : Foot} {bb mb s : Nat} {ks : List Int} {f : Int → Option Value} (h : BufX w F bb mb s ks f) (ps : List PutD) : WrX w w mb s f ps 0 s f :=
 ⟨h.im, by omega, fun _ q => q, fun _ q => .inl q, h.val, fun j _ hj => absurd hj (by omega), .refl _ _⟩
theorem upd_kf {w8 w9 : World} {P : Program} {k : TypeId} {mb s : Nat} {f : Int → Option Value} (h : IM w8 P k mb s f) (hg : w8.grownBy w9 (some mb)) : Kf (fun b => b = mb) w8 w9 := by
 obtain ⟨es, cl, hmb⟩ := h.at_
 exact ⟨hg.os, hg.tape, hg.output, hg.size, fun b ob ho hn => by
  rw [hg.block b (lt_of ho) (fun e => by
   injection e with e
   rcases hn with q | ⟨cs, fr, q⟩
   · exact q e
   · rw [e, hmb] at ho
     injection ho with ho
     rw [q] at ho
     cases ho)]
  exact ho⟩
theorem WrX.put {w wr w8 w9 : World} {mb s : Nat} {f : Int → Option Value} {ps : List PutD} {k sk : Nat} {fk : Int → Option Value} (h : WrX w wr mb s f ps k sk fk) (hk : k < ps.length) {x : PutD} (hx : ps[k] = x) (hb : Below wr.heap.size wr w8) {A : Option Addr} {c : Nat} {bs : List Int} (hy : IsY w8 A 40 c bs)
  (hI : IM w9 Tryz.prog 3 mb (sized sk (fk x.lba)) (upd fk x.lba (some (.slice A 40 c)))) (hg : w8.grownBy w9 (some mb)) : WrX w w9 mb s f ps (k + 1) (sized sk (fk x.lba)) (upd fk x.lba (some (.slice A 40 c))) := by
 have hk9 := upd_kf (h.im.next hb) hg
 have kY : ∀ {A : Option Addr} {n c : Nat} {bs : List Int}, IsY w8 A n c bs → IsY w9 A n c bs := fun y => y.ag (F := fun _ => False) (hk9.ag (fun _ q => q.elim))
 refine ⟨hI, ?_, fun y q => ?_, fun y q => ?_, fun y v hw hv => ?_, fun j hj hjk => ?_, ?_⟩
 · rw [cntN_step f ps hk, hx]
   have := h.le
   unfold sized
   cases hf : fk x.lba with
   | some v => simp; split <;> omega
   | none =>
     have : f x.lba = none := by
      cases hf2 : f x.lba with
      | none => rfl
      | some v => have := h.more x.lba (by rw [hf2]; rfl); rw [hf] at this; cases this
     rw [this]
     simp
     omega
 · by_cases e : y = x.lba
   · subst e; rw [upd_same]; rfl
   · rw [upd_other _ _ e]; exact h.more y q
 · by_cases e : y = x.lba
   · exact .inr ⟨x, by rw [← hx]; exact List.getElem_mem _, e.symm⟩
   · rw [upd_other _ _ e] at q; exact h.from_ y q
 · by_cases e : y = x.lba
   · subst e; rw [upd_same] at hv; injection hv with hv; exact ⟨A, c, bs, hv.symm, kY hy⟩
   · rw [upd_other _ _ e] at hv
     obtain ⟨A2, c2, b2, e2, y2⟩ := h.val y v hw hv
     exact ⟨A2, c2, b2, e2, kY (y2.ag (F := fun _ => True) (.of_below hb))⟩
 · by_cases e : ps[j].lba = x.lba
   · rw [e, upd_same]; rfl
   · rw [upd_other _ _ e]
     refine h.in_ j hj ?_
     rcases Nat.lt_or_ge j k with q | q
     · exact q
     · obtain rfl : j = k := by omega
       exact absurd (by rw [hx]) e
 · exact (h.kf.next hb).trans (G := fun b => b = mb) hk9 (fun b q => .inl q)
theorem keys_of {w : World} {k : TypeId} {P : Program} {b s : Nat} {f : Int → Option Value} (h : IM w P k b s f) (K : Keyed P k) (hk : P.underlying k = some (.int .i64)) : ∃ ks, KeysI s f ks := by
 obtain ⟨D, h⟩ := h
 exact ⟨_, h.sorted K hk (List.Perm.refl _)⟩
theorem WrX.buf {w wr : World} {F : Foot} {bb mb s : Nat} {ks : List Int} {f : Int → Option Value} {ps : List PutD} {n sk : Nat} {fk : Int → Option Value} (h : BufX w F bb mb s ks f) (h2 : WrX w wr mb s f ps n sk fk) (hn : ps.length = n) (hl : s + cntN f ps n ≤ 16) (hr : ∀ p ∈ ps, 0 ≤ p.lba ∧ p.lba < 258) :
  ∃ ks', BufP wr F bb ks' ∧ (0 < n → ks' ≠ []) := by
 obtain ⟨ks', hk⟩ := keys_of h2.im lawI underI
 have hbx : Bk wr bb 271 [.int .i64 258, .int .i64 16, .map (some mb)] := Bk.ag (F := fun b => b = bb) h.bx (h2.kf.ag (fun b q r => by
  obtain ⟨es, cl, hmb⟩ := h.im.at_
  have h1 := h.bx
  unfold Bk at h1
  have q : b = bb := q
  have r : b = mb := r
  subst q
  rw [r, hmb] at h1
  cases h1)) rfl
 refine ⟨ks', ⟨mb, sk, fk, hbx, h2.im, hk, fun x hx => ?_, Nat.le_trans h2.le hl, h2.val, h.f0, h.f1⟩, fun h0 e => ?_⟩
 · have hw := hk.wf x hx
   rcases h2.from_ x ((hk.mem x hw).1 hx) with q | ⟨p, hp, rfl⟩
   · exact h.rng x ((h.keys.mem x hw).2 q)
   · exact hr p hp
 · have h1 := h2.in_ 0 (by omega) h0
   have hp := hr _ (List.getElem_mem (l := ps) (n := 0) (by omega))
   have h3 := (hk.mem _ (wf_of (by omega) (by omega))).2 h1
   rw [e] at h3
   cases h3
theorem byt_y {w w8 : World} {xA yA : Option Addr} {n xc yc : Nat} {xb : List Int} (h : IsY w xA n xc xb) (ho : w8.ownsRow 0 5 1 (.slice yA n yc) n (xb.map (Value.int .u8))) : IsY w8 yA n yc xb := by
 have hl := h.b.len
 obtain ⟨A', c', e, hy⟩ := Byt.isY (w := w8) (B := 0) (v := .slice yA n yc) (bs := xb) ⟨by rw [hl]; exact ho, h.b.wf⟩
 rw [hl] at e hy
 injection e with e1 _ e2
 subst e1 e2
 exact hy
end
section
open Go.RowKit Go.Maps
theorem underMB : Tryz.prog.underlying 163 = some (.map 3 47) := Tryz.underlying163
theorem enW1 : ∀ args w, (callFunc 272 args).run Tryz.prog w = .ok (.enter 272 args) w := enters_of Tryz.func272 (by kernel_rfl) rfl
theorem enW2 : ∀ args w, (callFunc 273 args).run Tryz.prog w = .ok (.enter 273 args) w := enters_of Tryz.func273 (by kernel_rfl) rfl
def wrPost (w : World) (F : Foot) (bb s n : Nat) (ps : List PutD) (r : Int) (w' : World) : Prop := (∃ ks', BufP w' F bb ks' ∧ (s = 0 → n = 1 → (∀ p ∈ ps, 0 ≤ p.lba ∧ p.lba < 258 ∧ p.n = 40) → r = 0 ∧ ks' ≠ [])) ∧ Kf F w w'
theorem wr_no {w w' : World} {F : Foot} {bb mb s n : Nat} {ks : List Int} {f : Int → Option Value} {ps : List PutD} {r : Int} (h : BufX w F bb mb s ks f) (hb : Below w.heap.size w w') (hc : s = 0 → n = 1 → ¬ ∀ p ∈ ps, 0 ≤ p.lba ∧ p.lba < 258 ∧ p.n = 40) : wrPost w F bb s n ps r w' :=
 ⟨⟨ks, ⟨mb, s, f, h.ag (.of_below hb)⟩, fun h1 h2 h3 => absurd h3 (hc h1 h2)⟩, .of_below hb⟩
theorem bwrite_any (F : Foot) (bb mb s n c : Nat) (ks : List Int) (f : Int → Option Value) (A : Option Addr) (ps : List PutD) (w : World) (h : BufX w F bb mb s ks f) (hp : IsPs w A n c ps) (hn : n ≤ 20000) :
  Calls Tryz.prog 229 #[.pointer (some ⟨bb, 0, none⟩), .slice A n c] w fun e w' => ∃ r : Int, e = .returned (.int .i64 r) ∧ wrPost w F bb s n ps r w' := by
 have hl := hp.len
 obtain ⟨w5, hw5⟩ : ∃ w5, w.alloc (.cells #[.pointer (some ⟨bb, 0, none⟩)] 202) = w5 := ⟨_, rfl⟩
 have hB5 : Bk w5 w.heap.size 202 [.pointer (some ⟨bb, 0, none⟩)] := by rw [← hw5]; exact Bk.new w _ _
 have hb5 : Below w.heap.size w w5 := by rw [← hw5]; exact (Below.refl _ _).alloc (Nat.le_refl _) _
 have d0 := hB5.cell (i := 0) (by simp)
 simp only [List.getElem_cons_zero] at d0
 have HX := Lib.hid h
 have HL := Lib.hid h.le
 have HB5 := Lib.hid (And.intro hB5 hb5)
 have hp5 := hp.next hb5
 have HP := Lib.hid hp
 have hlt5 := HB5.out.1.lt
 have c1 := has_gen A n c ps 272 #[.pointer (some ⟨w.heap.size, 0, none⟩)] rngB w5 hp5 enW1 (fun p _ w' hb => wclo1_any p w.heap.size bb (.map (some mb)) w' (hB5.next hb hlt5) ((h.bx.next hb5 h.bx.lt).next hb (Nat.lt_of_lt_of_le h.bx.lt hb5.size)))
 clear h hp hB5 hp5 hlt5
 go_enter Tryz.func229, Tryz.ntmps229
 rcases Nat.eq_zero_or_pos n with h0 | h0
 · subst h0
   go_wp2_with fail
   go_ret
   exact ⟨_, rfl, wr_no HX.out hb5 (fun _ h => by cases h)⟩
 have t0 : ((n : Int) == 0) = false := by simp; omega
 have t0' : decide ((n : Int) = 0) = false := decide_eq_false (by omega)
 have t0n : ¬ ((n : Int) = 0) := by omega
 go_wp2_with fail
 refine c1.mono ?_
 rintro e w1 ⟨⟨r1, rfl, hr1⟩, hb1⟩
 have HB1 := Lib.hid (And.intro (HB5.out.2.trans (hb1.mono HB5.out.2.size)) (HB5.out.1.next hb1 HB5.out.1.lt))
 have HR1 := Lib.hid hr1
 clear c1 hr1 hb1 hb5 d0
 cases r1 with
 | true =>
   go_wp2_with fail
   go_ret
   refine ⟨_, rfl, wr_no HX.out HB1.out.1 (fun _ _ hall => ?_)⟩
   obtain ⟨p, hpm, hpb⟩ := HR1.out.1 (by first | rfl | trivial)
   have := hall p hpm
   simp only [rngB, Bool.or_eq_true, decide_eq_true_eq] at hpb
   omega
 | false =>
 have HG := Lib.hid (show ∀ p ∈ ps, 0 ≤ p.lba ∧ p.lba < 258 from fun p hpm => by
  have h1 : rngB p ≠ true := fun e => by have := HR1.out.2 ⟨p, hpm, e⟩; cases this
  simp only [rngB, ne_eq, Bool.or_eq_true, decide_eq_true_eq, not_or] at h1
  omega)
 have c2 := has_gen A n c ps 273 #[] lenB w1 (HP.out.next HB1.out.1) enW2 (fun p _ w' hb => wclo2_any p w')
 go_wp2_with fail
 refine c2.mono ?_
 rintro e w2 ⟨⟨r2, rfl, hr2⟩, hb2⟩
 have HB2 := Lib.hid (And.intro (HB1.out.1.trans (hb2.mono HB1.out.1.size)) (HB1.out.2.next hb2 HB1.out.2.lt))
 have HR2 := Lib.hid hr2
 clear c2 hr2 hb2
 cases r2 with
 | true =>
   go_wp2_with fail
   go_ret
   refine ⟨_, rfl, wr_no HX.out HB2.out.1 (fun _ _ hall => ?_)⟩
   obtain ⟨p, hpm, hpb⟩ := HR2.out.1 (by first | rfl | trivial)
   have := (hall p hpm).2.2
   simp [lenB, this] at hpb
 | false =>
 have HN4 := Lib.hid (show ∀ p ∈ ps, p.n = 40 from fun p hpm => by
  have h1 : lenB p ≠ true := fun e => by have := HR2.out.2 ⟨p, hpm, e⟩; cases this
  simp [lenB] at h1
  omega)
 have c3 := twice_any A n c ps w2 (HP.out.next HB2.out.1) hn (fun p hpm => wf_of (by have := (HG.out p hpm).1; omega) (by have := (HG.out p hpm).2; omega))
 go_wp2_with fail
 refine c3.mono ?_
 rintro e w3 ⟨⟨r3, rfl, hr3⟩, hb3⟩
 have HB3 := Lib.hid (And.intro (HB2.out.1.trans (hb3.mono HB2.out.1.size)) (HB2.out.2.next hb3 HB2.out.2.lt))
 have HR3 := Lib.hid hr3
 clear c3 hr3 hb3
 cases r3 with
 | true =>
   go_wp2_with fail
   go_ret
   refine ⟨_, rfl, wr_no HX.out HB3.out.1 (fun _ h1 _ => ?_)⟩
   have := HR3.out (by omega)
   cases this
 | false =>
 have hx3 := HX.out.ag (.of_below HB3.out.1)
 have hlen := fun ty => hx3.im.len underMB ty
 have b0 := HB3.out.2.cell (i := 0) (by simp)
 simp only [List.getElem_cons_zero] at b0
 obtain ⟨c0, c1, c2⟩ := hx3.bx.c3
 clear hx3
 go_wp2_with fail
 go_loopw [5, 37] (fun nv iv wr => ∃ k N : Nat, k ≤ n ∧ N ≤ s + k ∧ iv = .int .i64 (k : Int) ∧ nv = .int .i64 (N : Int) ∧ Below w.heap.size w wr ∧ Below w3.heap.size w3 wr ∧ Hid (N = s + cntN f ps k)) (fun _ iv _ => n - (intOf iv).toNat)
 case atStart => exact ⟨0, s, Nat.zero_le _, Nat.le_refl _, rfl, rfl, HB3.out.1, Below.refl _ _, by show _ = _; rw [cntN_zero]; rfl⟩
 case round =>
  obtain ⟨k, N, hk, hN, rfl, rfl, hW, hW3, HC⟩ := hrel
  clear c0 c1 c2 b0 hlen
  by_cases hlt : k < n
  · obtain ⟨x, hpx⟩ : ∃ p, ps[k]'(by omega) = p := ⟨_, rfl⟩
    have hmx : x ∈ ps := by rw [← hpx]; exact List.getElem_mem _
    obtain ⟨adx, eAx, hadx, e0, e1⟩ := two_get put_two (HP.out.rd.next (Nat.le_refl _) hW) (k := k) (by omega) (u := .int .i64 x.lba) (v := .slice x.A x.n x.c) (by rw [hpx]; rfl)
    subst eAx
    have hxw : wf64 x.lba := wf_of (by have := (HG.out x hmx).1; omega) (by have := (HG.out x hmx).2; omega)
    have n0 : (k : Int) < (n : Int) := by omega
    have n1 : (0 : Int) ≤ (k : Int) := by omega
    have HN := Lib.hid (show cntN f ps (k + 1) = cntN f ps k + if (f x.lba).isNone then 1 else 0 by rw [cntN_step f ps (by omega), hpx])
    clear hpx hmx
    obtain ⟨w6, hw6⟩ : ∃ w6, wr.alloc (.cells #[.int .i64 x.lba, .slice x.A x.n x.c] 50) = w6 := ⟨_, rfl⟩
    have hB6 : Bk w6 wr.heap.size 50 [.int .i64 x.lba, .slice x.A x.n x.c] := by rw [← hw6]; exact Bk.new wr _ _
    have hb6 : Below wr.heap.size wr w6 := by rw [← hw6]; exact (Below.refl _ _).alloc (Nat.le_refl _) _
    obtain ⟨d0, d1⟩ := hB6.c2
    have hx6 := (HX.out.ag (.of_below hW)).ag (.of_below hb6)
    have hlk := fun m => (hx6.ag (.of_below (bdrewN (Below.refl _ _) m))).look_ok hxw
    have b6 := (HB3.out.2.next hW3 HB3.out.2.lt).next hb6 (Nat.lt_of_lt_of_le HB3.out.2.lt hW3.size)
    have b0 := b6.cell (i := 0) (by simp)
    simp only [List.getElem_cons_zero] at b0
    obtain ⟨c0, c1, c2⟩ := hx6.bx.c3
    obtain ⟨gv, hgv⟩ : ∃ v, (f x.lba).getD (.slice none 0 0) = v := ⟨_, rfl⟩
    rw [hgv] at hlk
    have HS := Lib.hid (And.intro (hW.trans (hb6.mono hW.size)) (hW3.trans (hb6.mono hW3.size)))
    have wN : wrap64 ((N : Int) + 1) = ((N + 1 : Nat) : Int) := by unfold wrap64; have := HL.out; omega
    clear hB6 hb6 hx6 b6 hgv hW hW3
    cases hf : f x.lba with
    | some u =>
      rw [hf] at hlk HN
      simp only [Option.isSome_some] at hlk
      have HE := Lib.hid (show N = s + cntN f ps (k + 1) by have := HN.out; have := HC.out; simp at *; omega)
      clear hf HN
      go_wp2_with fail
      go_quiet (fail)
      go_wp2_with fail
      go_roundw
      case rel => exact ⟨k + 1, N, by omega, by omega, by go_num, rfl, HS.out.1.trans (bdrewN (Below.refl _ _) _), HS.out.2.trans (bdrewN (Below.refl _ _) _), HE⟩
      case measure => simp [intOf]; omega
    | none =>
      rw [hf] at hlk HN
      simp only [Option.isSome_none] at hlk
      have HE := Lib.hid (show N + 1 = s + cntN f ps (k + 1) by have := HN.out; have := HC.out; simp at *; omega)
      clear hf HN
      go_wp2_with fail
      go_quiet (fail)
      go_wp2_with fail
      go_roundw
      case rel => exact ⟨k + 1, N + 1, by omega, by omega, by go_num, by first | rfl | (congr 1), HS.out.1.trans (bdrewN (Below.refl _ _) _), HS.out.2.trans (bdrewN (Below.refl _ _) _), HE⟩
      case measure => simp [intOf]; omega
  · obtain rfl : k = n := by omega
    have n0 : ¬ (k : Int) < (k : Int) := by omega
    obtain ⟨w4, rfl⟩ : ∃ w4, w4 = wr := ⟨_, rfl⟩
    have hx4 := HX.out.ag (.of_below hW)
    have HX4 := Lib.hid hx4
    have HY := Lib.hid (fun p hpm => (HP.out.y p hpm).ag (F := fun _ => True) (.of_below hW))
    have HNE := Lib.hid (show bb ≠ mb from fun e => by
     obtain ⟨es, cl, hmb⟩ := hx4.im.at_
     have h1 := hx4.bx
     unfold Bk at h1
     rw [e, hmb] at h1
     cases h1)
    have HRd := Lib.hid (show Rd w4 w4.heap.size A (ps.flatMap PutD.cells) ∧ ∀ ad, A = some ad → ad.block ≠ mb from ⟨(HP.out.next hW).rd, fun ad e q => by
     obtain ⟨ad', e', _, hc⟩ := (HP.out.next hW).rd (by rw [flat_len put_two]; omega)
     rw [e] at e'; injection e' with e'; subst e'
     have h1 := hc 0 _ (List.getElem?_eq_getElem (by rw [flat_len put_two]; omega))
     obtain ⟨es, cl, hmb⟩ := hx4.im.at_
     simp only [Addr.add, if_true] at h1
     simp [World.cell?, q, hmb] at h1⟩)
    have HB4 := Lib.hid (And.intro hW (HB3.out.2.next hW3 HB3.out.2.lt))
    have b0 := HB4.out.2.cell (i := 0) (by simp)
    simp only [List.getElem_cons_zero] at b0
    obtain ⟨c0, c1, c2⟩ := hx4.bx.c3
    clear hx4 hW hW3
    by_cases hgt : 16 < N
    · have t1 : decide ((16 : Int) < (N : Int)) = true := decide_eq_true (by omega)
      have t1' : (16 : Int) < (N : Int) := by omega
      have HQ := Lib.hid (show s = 0 → k = 1 → False from fun a b => by omega)
      clear hgt
      go_wp2_with fail
      go_ret
      exact ⟨_, rfl, wr_no HX.out HB4.out.1 (fun a b _ => HQ.out a b)⟩
    · have t1 : decide ((16 : Int) < (N : Int)) = false := decide_eq_false (by omega)
      have t1' : ¬ (16 : Int) < (N : Int) := by omega
      have HN16 := Lib.hid (show s + cntN f ps k ≤ 16 by have := HC.out; omega)
      clear hgt
      go_wp2_with fail
      go_loopw [64] (fun iv wr => ∃ k2 : Nat, k2 ≤ k ∧ iv = .int .i64 (k2 : Int) ∧ ∃ sk fk, Hid (WrX w4 wr mb s f ps k2 sk fk)) (fun iv _ => k - (intOf iv).toNat)
      case atStart => exact ⟨0, Nat.zero_le _, rfl, s, f, WrX.start HX4.out ps⟩
      case round =>
       obtain ⟨k2, hk2, rfl, sk, fk, HW⟩ := hrel
       clear c0 c1 c2 b0 n0
       by_cases hlt : k2 < k
       · have agw : Ag (fun b => b ≠ mb) w4 wr := HW.out.kf.ag (fun b q r => q r)
         obtain ⟨x, hpx⟩ : ∃ p, ps[k2]'(by omega) = p := ⟨_, rfl⟩
         have hmx : x ∈ ps := by rw [← hpx]; exact List.getElem_mem _
         obtain ⟨adx, eAx, hadx, e0, e1⟩ := two_get put_two (Rd.ag HRd.out.1 agw HRd.out.2) (k := k2) (by omega) (u := .int .i64 x.lba) (v := .slice x.A x.n x.c) (by rw [hpx]; rfl)
         subst eAx
         have hxw : wf64 x.lba := wf_of (by have := (HG.out x hmx).1; omega) (by have := (HG.out x hmx).2; omega)
         have hx40 := HN4.out x hmx
         have n0 : (k2 : Int) < (k : Int) := by omega
         have n1 : (0 : Int) ≤ (k2 : Int) := by omega
         have HPX := Lib.hid hpx
         have hxy := (HY.out x hmx).ag (F := fun b => b ≠ mb) agw
         obtain ⟨xl, xA, xn, xc, xb⟩ := x
         simp only at hx40 hxy hxw e0 e1
         subst hx40
         clear hpx hmx
         obtain ⟨w6, hw6⟩ : ∃ w6, wr.alloc (.cells #[.int .i64 xl, .slice xA 40 xc] 50) = w6 := ⟨_, rfl⟩
         have hB6 : Bk w6 wr.heap.size 50 [.int .i64 xl, .slice xA 40 xc] := by rw [← hw6]; exact Bk.new wr _ _
         have hb6 : Below wr.heap.size wr w6 := by rw [← hw6]; exact (Below.refl _ _).alloc (Nat.le_refl _) _
         obtain ⟨d0, d1⟩ := hB6.c2
         have b6 := (Bk.ag (F := fun b => b ≠ mb) HB4.out.2 agw (fun e => by have := HX.out.im.lt; omega)).next hb6 (Nat.lt_of_lt_of_le HB4.out.2.lt agw.size)
         have bx6 := (Bk.ag (F := fun b => b ≠ mb) HX4.out.bx agw HNE.out).next hb6 (Nat.lt_of_lt_of_le HX4.out.bx.lt agw.size)
         have KK := Lib.hid (fun (w' : World) (hS : Below w6.heap.size w6 w') => (show w'.cell? ⟨w.heap.size, 0, none⟩ = some (.pointer (some ⟨bb, 0, none⟩)) ∧ w'.cell? ⟨bb, 2, none⟩ = some (.map (some mb)) ∧ w'.cell? ⟨wr.heap.size, 0, none⟩ = some (.int .i64 xl) ∧ w'.cell? ⟨wr.heap.size, 1, none⟩ = some (.slice xA 40 xc) from
          ⟨(b6.next hS b6.lt).cell (i := 0) (by simp), (bx6.next hS bx6.lt).cell (i := 2) (by simp), (hB6.next hS hB6.lt).cell (i := 0) (by simp), (hB6.next hS hB6.lt).cell (i := 1) (by simp)⟩))
         have HY6 := Lib.hid (And.intro hb6 (hxy.ag (F := fun _ => True) (.of_below hb6)))
         clear hB6 hb6 b6 bx6 hxy agw
         go_wp2_with fail
         have Kq := KK
         refine anyL_start (fun w' => Below w6.heap.size w6 w') 9 (by kernel_rfl) (bdrew (Below.refl _ _)) (fun hHeld => ?_)
         refine kL 0 ?_; refine kL 1 ?_; refine kL 2 ?_; refine kL 3 ?_; refine kL 4 ?_; refine kL 5 ?_; refine kL 6 ?_; refine kL 7 ?_
         refine rL 8 (fun K hK => ?_)
         go_simp
         refine (clone_any xA 40 xc 0 (xb.map (Value.int .u8)) _ (by rw [List.length_map]; exact HY6.out.2.b.len) (HY6.out.2.ag (F := fun _ => False) (.of_below hHeld)).b.rd one_int (by omega) (Nat.zero_le _)).mono ?_
         rintro e w8 ⟨⟨vc, rfl, hvc⟩, hb8⟩
         have hS4 : Below w6.heap.size w6 w8 := hHeld.trans (hb8.mono hHeld.size)
         have HVC := Lib.hid hvc
         obtain ⟨yA, yc, rfl⟩ := own_shape hvc
         clear hvc hb8
         go_simp
         refine hK.out _ _ (fun _ => hS4) ?_
         clear hK K hHeld
         have hHeld := hS4
         try simp only [Act.put, List.setIfInBounds_toArray, List.set_cons_zero, List.set_cons_succ]
         refine rL 9 (fun K hK => ?_)
         refine wp_iupd _ _ _ _ 163 rfl 3 47 lawI underI underMB mb sk fk (by rfl) (by exact HW.out.im.next (HY6.out.1.trans (hHeld.mono HY6.out.1.size))) (by have := HW.out.le; have := HL.out; have := cntN_le f ps k2; omega) xl (.slice yA 40 yc) (by rfl) (by rfl) hxw ?_
         intro w9 hI9 hG9
         have HE := Lib.hid (HW.out.put (by omega) HPX.out (HY6.out.1.trans (hHeld.mono HY6.out.1.size)) (byt_y HY6.out.2 HVC.out) hI9 hG9)
         clear hI9 hG9
         try go_simp
         refine hK.out _ _ (fun h => absurd rfl h) ?_
         clear hK K
         try simp only [Act.put, List.setIfInBounds_toArray, List.set_cons_zero, List.set_cons_succ]
         refine anyL_done (by kernel_rfl) ?_ _
         clear Kq
         go_wp2_with fail
         go_roundw
         case rel => exact ⟨k2 + 1, by omega, by go_num, _, _, HE.out⟩
         case measure => simp [intOf]; omega
       · obtain rfl : k2 = k := by omega
         have n1 : ¬ (k2 : Int) < (k2 : Int) := by omega
         have HE := Lib.hid (WrX.buf HX4.out HW.out hl HN16.out (fun p hpm => HG.out p hpm))
         have HKF := Lib.hid ((Kf.of_below (F := F) HB4.out.1).trans (G := F) (HW.out.kf.mono (fun b q => by rw [q]; exact HX.out.f1)) (fun b q => .inl q))
         go_wp2_with fail
         go_ret
         obtain ⟨ks', h1, h2⟩ := HE.out
         exact ⟨_, rfl, ⟨ks', h1, fun _ _ _ => ⟨rfl, h2 h0⟩⟩, HKF.out⟩
end
section
open Go.RowKit Go.Maps
theorem bufset_any (F : Foot) (bb : Nat) (ks : List Int) (w : World) (h : BufP w F bb ks) :
  Calls Tryz.prog 327 #[.pointer (some ⟨bb, 0, none⟩)] w fun e w' => (∃ gs, e = .returned (.pointer (some ⟨gs, 0, none⟩)) ∧ ∃ F', SetP w' F' gs ks.length ∧ ∀ b, F' b → w.heap.size ≤ b ∧ b < w'.heap.size) ∧ Below w.heap.size w w' := by
 have hkl : ks.length ≤ 16 := by obtain ⟨mb, s, f, h⟩ := h; rw [h.keys.len]; exact h.le
 have hc := puts_any F bb 0 ks w h (Nat.zero_le _)
 clear h
 go_enter Tryz.func327, Tryz.ntmps327
 go_wp2_with fail
 refine hc.mono ?_
 rintro e w1 ⟨⟨v, rfl, ps, hps⟩, hb1⟩
 obtain ⟨A, c, rfl, hp⟩ := hps.is
 obtain ⟨n, hn⟩ : ∃ n, ks.length = n := ⟨_, rfl⟩
 rw [hn] at hp hkl ⊢
 have hl := hp.len
 have hnw := inew_any n w1
 clear hc hps
 go_wp2_with fail
 refine hnw.mono ?_
 rintro e w2 ⟨⟨gs, rfl, hs, hg1, hg2⟩, hb2⟩
 have hb12 := hb1.trans (hb2.mono hb1.size)
 have hp1 := Lib.hid hp
 have HB := Lib.hid (And.intro hb1.size hb2.size)
 clear hnw hp hb1
 go_wp2_with fail
 go_loopw [14] (fun iv wr => ∃ k : Nat, k ≤ n ∧ iv = .int .i64 (k : Int) ∧ Below w.heap.size w wr ∧ Below w1.heap.size w1 wr ∧ ∃ F', Hid (SetP wr F' gs n ∧ ∀ b, F' b → w1.heap.size ≤ b ∧ b < wr.heap.size)) (fun iv _ => n - (intOf iv).toNat)
 case atStart => exact ⟨0, Nat.zero_le _, rfl, hb12, hb2, _, hs, fun b q => by have q : b = gs := q; subst q; exact ⟨hg1, hg2⟩⟩
 case round =>
  clear hs
  obtain ⟨k, hk, rfl, hW, hW1, F', HS⟩ := hrel
  by_cases hlt : k < n
  · obtain ⟨x, hpx⟩ : ∃ p, ps[k]'(by omega) = p := ⟨_, rfl⟩
    have hmx : x ∈ ps := by rw [← hpx]; exact List.getElem_mem _
    obtain ⟨adx, eAx, hadx, e0, e1⟩ := two_get put_two (hp1.out.rd.next (Nat.le_refl _) hW1) (k := k) (by omega) (u := .int .i64 x.lba) (v := .slice x.A x.n x.c) (by rw [hpx]; rfl)
    subst eAx
    have n0 : (k : Int) < (n : Int) := by omega
    have n1 : (0 : Int) ≤ (k : Int) := by omega
    clear hpx hmx
    obtain ⟨w6, hw6⟩ : ∃ w6, wr.alloc (.cells #[.int .i64 x.lba, .slice x.A x.n x.c] 50) = w6 := ⟨_, rfl⟩
    have hB6 : Bk w6 wr.heap.size 50 [.int .i64 x.lba, .slice x.A x.n x.c] := by rw [← hw6]; exact Bk.new wr _ _
    have hb6 : Below wr.heap.size wr w6 := by rw [← hw6]; exact (Below.refl _ _).alloc (Nat.le_refl _) _
    obtain ⟨d0, d1⟩ := hB6.c2
    obtain ⟨w7, hw7⟩ : ∃ w7, w6.alloc (.cells #[.int .i64 x.lba, .int .i64 1] 197) = w7 := ⟨_, rfl⟩
    have hB7 : Bk w7 w6.heap.size 197 [.int .i64 x.lba, .int .i64 1] := by rw [← hw7]; exact Bk.new _ _ _
    have hb7 : Below w6.heap.size w6 w7 := by rw [← hw7]; exact (Below.refl _ _).alloc (Nat.le_refl _) _
    have hb67 := hb6.trans (hb7.mono hb6.size)
    obtain ⟨v, zs, hsx⟩ := HS.out.1.ag (.of_below hb67)
    have hex : IsEx w7 (some ⟨w6.heap.size, 0, none⟩) 1 1 [⟨x.lba, 1⟩] := ⟨rfl, hB7.rd, Nat.le_refl _, by simp [maxLen]⟩
    have hin : In w7 F' := fun b q => Nat.lt_of_lt_of_le (HS.out.2 b q).2 hb67.size
    have had := add_any F' gs n 1 1 v zs [⟨x.lba, 1⟩] (some ⟨w6.heap.size, 0, none⟩) w7 hsx (by omega) hex (by omega) hin
    have HW := Lib.hid (And.intro (hW.trans (hb67.mono hW.size)) (hW1.trans (hb67.mono hW1.size)))
    clear hB6 hB7 hb6 hb7 hb67 hsx hex hin hW hW1
    go_wp2_with fail
    refine had.mono ?_
    rintro e w8 ⟨⟨r, rfl⟩, F2, hs2, hk2, hsb, hin2⟩
    have HE := Lib.hid (show Below w.heap.size w w8 ∧ Below w1.heap.size w1 w8 ∧ SetP w8 F2 gs n ∧ ∀ b, F2 b → w1.heap.size ≤ b ∧ b < w8.heap.size from by
     have hlo : ∀ b, F' b → w1.heap.size ≤ b := fun b q => (HS.out.2 b q).1
     have hk3 := hk2.below hlo (HW.out.2.size)
     exact ⟨HW.out.1.trans (hk3.mono HB.out.1), HW.out.2.trans hk3, hs2, fun b q => ⟨(hsb b q).elim (hlo b) (fun r => Nat.le_trans HW.out.2.size r), hin2 b q⟩⟩)
    clear had hs2 hk2 hsb hin2
    go_wp2_with fail
    go_roundw
    case rel => exact ⟨k + 1, by omega, by go_num, HE.out.1, HE.out.2.1, F2, HE.out.2.2⟩
    case measure => simp [intOf]; omega
  · obtain rfl : k = n := by omega
    have n0 : ¬ (k : Int) < (k : Int) := by omega
    have HX := Lib.hid (And.intro HS.out.1 (fun b q => And.intro (Nat.le_trans HB.out.1 (HS.out.2 b q).1) (HS.out.2 b q).2))
    go_wp2_with fail
    go_ret
    exact ⟨⟨_, rfl, F', HX.out⟩, hW⟩
end
section
open Go.RowKit Go.Maps
structure BookX (w : World) (F : Foot) (kb last s tb : Nat) (f : Int → Option Value) : Prop where
 bx : Bk w kb 264 [.int .i64 16, .int .i64 (last : Int), .map (some tb)]
 im : IM w Tryz.prog 3 tb s f
 val : ∀ x v, wf64 x → f x = some v → ∃ j : Int, v = .int .i64 j
 rng : ∀ x, (f x).isSome = true → 1 ≤ x ∧ x ≤ (last : Int)
 le : s ≤ last
 big : last ≤ 100000
 f0 : F kb
 f1 : F tb
def BookP (w : World) (F : Foot) (kb last s : Nat) : Prop := ∃ tb f, BookX w F kb last s tb f
section
variable {w w' : World} {F : Foot} {kb last s tb : Nat} {f : Int → Option Value}
theorem BookX.ag (h : BookX w F kb last s tb f) (k : Ag F w w') : BookX w' F kb last s tb f := ⟨Bk.ag h.bx k h.f0, h.im.ag k h.f1, h.val, h.rng, h.le, h.big, h.f0, h.f1⟩
theorem BookP.ag (h : BookP w F kb last s) (k : Ag F w w') : BookP w' F kb last s := by obtain ⟨tb, f, h⟩ := h; exact ⟨tb, f, h.ag k⟩
theorem BookX.ne (h : BookX w F kb last s tb f) : kb ≠ tb := fun e => by
 obtain ⟨es, cl, hm⟩ := h.im.at_
 have h1 := h.bx
 unfold Bk at h1
 rw [e, hm] at h1
 cases h1
end
theorem booknew_any  (w : World) :
  Calls Tryz.prog 151 #[.int .i64 16] w fun e w' => (∃ kb, e = .returned (.pointer (some ⟨kb, 0, none⟩)) ∧ BookP w' (fun b => w.heap.size ≤ b ∧ b < w'.heap.size) kb 0 0 ∧ w.heap.size ≤ kb ∧ kb < w'.heap.size) ∧ Below w.heap.size w w' := by
 have hmm := @run_makeMap Tryz.prog
 go_enter Tryz.func151, Tryz.ntmps151
 go_wp2_with fail
 go_ret
 refine ⟨⟨w.heap.size + 1, rfl, ⟨w.heap.size, fun _ => none, ?_, (IM.made w _ _).next ((Below.refl _ _).alloc (Nat.le_refl _) _), (fun x v _ hv => by cases hv), (fun x hx => by cases hx), by omega, by omega, ?_, ?_⟩, by omega, ?_⟩, ((Below.refl _ _).alloc (Nat.le_refl _) _).alloc (by simp) _⟩
 · have := Bk.new (w.alloc (.map #[] 0)) 264 [.int .i64 16, .int .i64 0, .map (some w.heap.size)]
   simpa using this
 · simp
 · simp; omega
 · simp
theorem room_book (F : Foot) (kb last s tb : Nat) (f : Int → Option Value) (w : World) (h : BookX w F kb last s tb f) :
  Calls Tryz.prog 267 #[.pointer (some ⟨kb, 0, none⟩)] w fun e w' => e = .returned (.int .i64 16) ∧ w = w' := by
 obtain ⟨c0, c1, c2⟩ := h.bx.c3
 clear h
 go_enter Tryz.func267, Tryz.ntmps267
 go_wp2_with fail
 go_ret
 exact ⟨rfl, rfl⟩
theorem booklist_any (F : Foot) (kb last s tb : Nat) (f : Int → Option Value) (w : World) (h : BookX w F kb last s tb f) :
  Calls Tryz.prog 295 #[.pointer (some ⟨kb, 0, none⟩)] w fun e w' => (∃ A c, e = .returned (.slice A s c)) ∧ Below w.heap.size w w' := by
 obtain ⟨c0, c1, c2⟩ := h.bx.c3
 have hk := keysI_any tb w
 have hso := sortedI_any tb s f w h.im (by have := h.le; have := h.big; omega)
 clear h
 go_enter Tryz.func295, Tryz.ntmps295
 go_wp2_with fail
 refine hk.mono ?_
 rintro e w1 ⟨rfl, rfl⟩
 go_wp2_with fail
 refine hso.mono ?_
 rintro e w2 ⟨⟨v, ks', rfl, hK, ho⟩, hb2⟩
 obtain ⟨kA, kc, rfl⟩ := own_shape ho
 go_wp2_with fail
 go_ret
 exact ⟨⟨_, _, rfl⟩, hb2⟩
theorem bookcount_any (F : Foot) (kb last s tb : Nat) (f : Int → Option Value) (w : World) (h : BookX w F kb last s tb f) :
  Calls Tryz.prog 247 #[.pointer (some ⟨kb, 0, none⟩)] w fun e w' => e = .returned (.int .i64 (s : Int)) ∧ Below w.heap.size w w' := by
 have hc := booklist_any F kb last s tb f w h
 clear h
 go_enter Tryz.func247, Tryz.ntmps247
 go_wp2_with fail
 refine hc.mono ?_
 rintro e w1 ⟨⟨A, c, rfl⟩, hb⟩
 go_wp2_with fail
 go_ret
 exact ⟨rfl, hb⟩
theorem bookat_any (F : Foot) (kb last s tb : Nat) (f : Int → Option Value) (x : Int) (w : World) (h : BookX w F kb last s tb f) (hx : wf64 x) :
  Calls Tryz.prog 220 #[.pointer (some ⟨kb, 0, none⟩), .int .i64 x] w fun e w' => (∃ j c : Int, e = .returned (.tuple #[.int .i64 j, .int .i64 c]) ∧ ((f x).isSome = true → c = 0) ∧ ((f x).isSome = false → c = 14)) ∧ w = w' := by
 obtain ⟨c0, c1, c2⟩ := h.bx.c3
 obtain ⟨j, hj, _⟩ := look_int h.val hx
 have hlk := h.im.look_ok lawI underI underMII (zeroI _) hx
 rw [hj] at hlk
 obtain ⟨ok, hok⟩ : ∃ b, (f x).isSome = b := ⟨_, rfl⟩
 rw [hok] at hlk ⊢
 clear h hj hok
 cases ok with
 | false =>
   go_enter Tryz.func220, Tryz.ntmps220
   go_wp2_with fail
   go_ret2
   exact ⟨⟨_, _, rfl, (fun e => by cases e), fun _ => rfl⟩, rfl⟩
 | true =>
   go_enter Tryz.func220, Tryz.ntmps220
   go_wp2_with fail
   go_ret2
   exact ⟨⟨_, _, rfl, (fun _ => rfl), fun e => by cases e⟩, rfl⟩
theorem bookclose_any (F : Foot) (kb last s tb : Nat) (f : Int → Option Value) (x : Int) (w : World) (h : BookX w F kb last s tb f) (hx : wf64 x) :
  Calls Tryz.prog 156 #[.pointer (some ⟨kb, 0, none⟩), .int .i64 x] w fun e w' => (∃ r : Int, e = .returned (.int .i64 r)) ∧ (∃ s', s' ≤ s ∧ BookP w' F kb last s') ∧ Kf F w w' := by
 obtain ⟨c0, c1, c2⟩ := h.bx.c3
 have hat := bookat_any F kb last s tb f x w h hx
 have HX := Lib.hid h
 clear h
 cases hok : (f x).isSome with
 | false =>
   go_enter Tryz.func156, Tryz.ntmps156
   go_wp2_with fail
   refine hat.mono ?_
   rintro e w' ⟨⟨j, c, rfl, h0, h1⟩, rfl⟩
   obtain rfl : c = 14 := h1 hok
   clear h0 h1 hat
   go_wp2_with fail
   go_ret
   exact ⟨⟨_, rfl⟩, ⟨s, Nat.le_refl _, tb, f, HX.out⟩, .refl _ _⟩
 | true =>
   go_enter Tryz.func156, Tryz.ntmps156
   go_wp2_with fail
   refine hat.mono ?_
   rintro e w' ⟨⟨j, c, rfl, h0, h1⟩, rfl⟩
   obtain rfl : c = 0 := h0 hok
   clear h0 h1 hat hok
   go_wp2_with (at_delete; go_must (refine wpList_idel _ rfl _ _ 262 3 rfl 3 lawI underI underMII tb s f (by rfl) (by exact HX.out.im) x (by rfl) hx ?_); intro w7 hI7 hG7; have hk7 := Lib.hid (upd_kf HX.out.im hG7); have HI7 := Lib.hid hI7; clear hI7 hG7)
   go_ret
   refine ⟨⟨_, rfl⟩, ⟨_, by split <;> omega, tb, _, ?_, HI7.out, fun y v hy hv => ?_, fun y hy => ?_, ?_, HX.out.big, HX.out.f0, HX.out.f1⟩, hk7.out.mono (fun b q => by rw [q]; exact HX.out.f1)⟩
   · exact Bk.ag (F := fun b => b = kb) HX.out.bx (hk7.out.ag (fun b q r => HX.out.ne (q.symm.trans r))) rfl
   · unfold upd at hv
     split at hv
     · cases hv
     · exact HX.out.val y v hy hv
   · unfold upd at hy
     split at hy
     · cases hy
     · exact HX.out.rng y hy
   · have := HX.out.le
     split <;> omega
theorem booklow_any (F : Foot) (kb last s tb : Nat) (f : Int → Option Value) (now : Int) (w : World) (h : BookX w F kb last s tb f) :
  Calls Tryz.prog 107 #[.pointer (some ⟨kb, 0, none⟩), .int .i64 now] w fun e w' => (∃ r : Int, e = .returned (.int .i64 r)) ∧ Below w.heap.size w w' := by
 obtain ⟨c0, c1, c2⟩ := h.bx.c3
 have HX := Lib.hid h
 clear h
 go_enter Tryz.func107, Tryz.ntmps107
 go_wp2_with (at_range; go_must (refine wpList_irange _ rfl _ 262 rfl 3 3 lawI underMII tb s f (by rfl) (by exact HX.out.im) ?_); intro w1 left hR1 hG1 hs1)
 have HB1 := Lib.hid (show Below w.heap.size w w1 from ⟨hG1.os, hG1.tape, hG1.output, hG1.size, fun b hb => hG1.block b hb (by simp)⟩)
 have HR := Lib.hid hR1
 clear hG1 hs1 hR1
 try go_frame
 go_loopw [1] (fun nv wr => ∃ (x : Int) (left : Lit → Bool) (cnt : Nat), nv = .int .i64 x ∧ IR wr Tryz.prog 3 tb w.heap.size s f left cnt ∧ Below w.heap.size w wr) (fun _ wr => wr.rangeLeft tb w.heap.size)
 case atStart => exact ⟨now, left, s, rfl, HR.out, HB1.out⟩
 case round =>
  obtain ⟨x, left, cnt, rfl, hR, hW⟩ := hrel
  clear c0 c1 c2
  have HRR := Lib.hid (And.intro hR hW)
  clear hR hW
  go_wp2_with (at_next; go_must (refine wpList_inext _ rfl _ rfl 3 lawI underI tb w.heap.size s f left cnt (by rfl) (by exact HRR.out.1) ?_ ?_))
  · go_wp2_with fail
    go_ret
    exact ⟨⟨_, rfl⟩, HRR.out.2⟩
  · intro y c w2 left2 cnt2 hyw hyc hR2 hlt2 hG2 hs2 hen
    obtain ⟨j, rfl⟩ := HX.out.val y c hyw hyc
    have HB2 := Lib.hid (HRR.out.2.grown hG2 HRR.out.2.size (fun g hg => by injection hg with hg; omega))
    have HR2 := Lib.hid (And.intro hR2 hlt2)
    clear hG2 hs2 hR2 hlt2
    go_wp2_with fail
    go_roundw
    case rel => exact ⟨_, left2, cnt2, rfl, HR2.out.1, HB2.out⟩
    case measure => rw [HR2.out.1.left_eq, HRR.out.1.left_eq]; exact HR2.out.2
theorem BookX.opened {w w1 w2 w3 : World} {F : Foot} {kb last s tb : Nat} {f : Int → Option Value} {at' : Int} (h : BookX w F kb last s tb f) (hb : Below w.heap.size w w1) (e2 : w2 = w1.setCell ⟨kb, 1, none⟩ (.int .i64 ((last : Int) + 1))) (hl : last + 1 ≤ 100000)
  (hI : IM w3 Tryz.prog 3 tb (sized s (f ((last : Int) + 1))) (upd f ((last : Int) + 1) (some (.int .i64 at')))) (hg : w2.grownBy w3 (some tb)) : BookX w3 F kb (last + 1) (s + 1) tb (upd f ((last : Int) + 1) (some (.int .i64 at'))) ∧ Kf F w w3 := by
 have h1 := h.ag (.of_below hb)
 have b2 : Bk w2 kb 264 [.int .i64 16, .int .i64 ((last : Int) + 1), .map (some tb)] := by
  rw [e2]; have := h1.bx.set 1 (.int .i64 ((last : Int) + 1)); simpa using this
 have k2 : Kf F w w2 := by rw [e2]; exact ((Kf.refl F w).next hb).set h1.bx (by decide) (.inl h.f0) 1 _
 have i2 : IM w2 Tryz.prog 3 tb s f := by
  refine h1.im.ag (F := fun b => b = tb) ?_ rfl
  rw [e2]
  exact ((Kf.refl (fun b => b = kb) w1).set h1.bx (by decide) (.inl rfl) 1 _).ag (fun b q r => h.ne (r.symm.trans q))
 have k3 := upd_kf i2 hg
 have hn : f ((last : Int) + 1) = none := by
  cases hf : f ((last : Int) + 1) with
  | none => rfl
  | some v => have := h.rng _ (by rw [hf]; rfl); omega
 refine ⟨⟨?_, ?_, fun y v hy hv => ?_, fun y hy => ?_, by have := h.le; omega, hl, h.f0, h.f1⟩, k2.trans (G := F) (k3.mono (fun b q => by rw [q]; exact h.f1)) (fun b q => .inl q)⟩
 · rw [Int.natCast_succ]; exact Bk.ag (F := fun b => b = kb) b2 (k3.ag (fun b q r => h.ne (q.symm.trans r))) rfl
 · have hz : sized s (f ((last : Int) + 1)) = s + 1 := by rw [hn]; rfl
   rw [hz] at hI; exact hI
 · unfold upd at hv
   split at hv
   · injection hv with hv; exact ⟨at', hv.symm⟩
   · exact h.val y v hy hv
 · unfold upd at hy
   split at hy
   · omega
   · have := h.rng y hy; omega
theorem bookopen_any (F : Foot) (kb last s tb : Nat) (f : Int → Option Value) (at' : Int) (w : World) (h : BookX w F kb last s tb f) (ha : 0 ≤ at' ∧ at' ≤ 1000000) (hl : last + 1 ≤ 100000) :
  Calls Tryz.prog 224 #[.pointer (some ⟨kb, 0, none⟩), .int .i64 at'] w fun e w' => (16 ≤ s ∧ e = .returned (.tuple #[.int .i64 0, .int .i64 6]) ∧ Below w.heap.size w w') ∨ (s < 16 ∧ e = .returned (.tuple #[.int .i64 ((last + 1 : Nat) : Int), .int .i64 0]) ∧ BookP w' F kb (last + 1) (s + 1) ∧ Kf F w w') := by
 have hc := bookcount_any F kb last s tb f w h
 have t0 : decide (at' < 0) = false := decide_eq_false (by omega)
 have t1 : decide (1099511627776 < at') = false := decide_eq_false (by omega)
 have t0' : ¬ at' < 0 := by omega
 have t1' : ¬ 1099511627776 < at' := by omega
 have HX := Lib.hid h
 clear h
 go_enter Tryz.func224, Tryz.ntmps224
 go_wp2_with fail
 refine hc.mono ?_
 rintro e w1 ⟨rfl, hb1⟩
 have hx1 := HX.out.ag (.of_below hb1)
 have hr := room_book F kb last s tb f w1 hx1
 have HB1 := Lib.hid (And.intro hb1 hx1)
 clear hc hb1 hx1
 go_wp2_with fail
 refine hr.mono ?_
 rintro e w' ⟨rfl, rfl⟩
 clear hr
 by_cases hs : 16 ≤ s
 · have t2 : decide ((16 : Int) ≤ (s : Int)) = true := decide_eq_true (by omega)
   have t2' : (16 : Int) ≤ (s : Int) := by omega
   go_wp2_with fail
   go_ret2
   exact .inl ⟨hs, rfl, HB1.out.1⟩
 · have t2 : decide ((16 : Int) ≤ (s : Int)) = false := decide_eq_false (by omega)
   have t2' : ¬ (16 : Int) ≤ (s : Int) := by omega
   have w1' : wrap64 ((last : Int) + 1) = (last : Int) + 1 := by unfold wrap64; omega
   have HS := Lib.hid (show s < 16 by omega)
   have HL := Lib.hid hl
   clear hs hl
   obtain ⟨c0, c1, c2⟩ := HB1.out.2.bx.c3
   have f1 := HB1.out.2.bx.free 1
   obtain ⟨w2, hw2⟩ : ∃ w2, w1.setCell ⟨kb, 1, none⟩ (.int .i64 ((last : Int) + 1)) = w2 := ⟨_, rfl⟩
   have b2 : Bk w2 kb 264 [.int .i64 16, .int .i64 ((last : Int) + 1), .map (some tb)] := by
    rw [← hw2]; have := HB1.out.2.bx.set 1 (.int .i64 ((last : Int) + 1)); simpa using this
   have HW2 := Lib.hid hw2
   obtain ⟨e0, e1, e2⟩ := b2.c3
   have i2 : IM w2 Tryz.prog 3 tb s f := by
    refine HB1.out.2.im.ag (F := fun b => b = tb) ?_ rfl
    rw [← hw2]
    exact ((Kf.refl (fun b => b = kb) w1).set HB1.out.2.bx (by decide) (.inl rfl) 1 _).ag (fun b q r => HB1.out.2.ne (r.symm.trans q))
   have HI2 := Lib.hid i2
   have hwf : wf64 ((last : Int) + 1) := wf_of (by omega) (by have := HL.out; omega)
   clear b2 i2
   go_wp2_with fail
   refine anyL_start (Drawn w2) 9 (by kernel_rfl) (by first | exact Drawn.of _ _ | exact Drawn.one _ | exact ⟨1, rfl⟩) (fun hHeld => ?_)
   refine kE 0 ?_; refine kE 1 ?_; refine kE 2 ?_; refine kE 3 ?_; refine kE 4 ?_; refine kE 5 ?_; refine kE 6 ?_; refine kE 7 ?_; refine kE 8 ?_
   refine rL 9 (fun K hK => ?_)
   refine wp_iupd _ _ _ _ 262 rfl 3 3 lawI underI underMII tb s f (by rfl) (by exact HI2.out.ag (F := fun b => b = tb) (.of_below (bdrewN (Below.refl w2.heap.size w2) 1)) rfl) (by have := HX.out.le; have := HL.out; omega) ((last : Int) + 1) (.int .i64 at') (by rfl) (by rfl) hwf ?_
   intro w3 hI3 hG3
   have HI3 := Lib.hid hI3
   have HG3 := Lib.hid (show w2.grownBy w3 (some tb) from ⟨hG3.os, hG3.tape, hG3.output, hG3.size, hG3.block⟩)
   clear hI3 hG3
   try go_simp
   refine hK.out _ _ (fun h => absurd rfl h) ?_
   clear hK K
   try simp only [Act.put, List.setIfInBounds_toArray, List.set_cons_zero, List.set_cons_succ]
   refine anyL_done (by kernel_rfl) ?_ _
   clear c0 c1 c2 e0 e1 e2
   have HE := Lib.hid (HX.out.opened HB1.out.1 HW2.out.symm HL.out HI3.out HG3.out)
   obtain ⟨q0, q1⟩ := HE.out.1.bx.c2
   go_wp2_with fail
   go_ret2
   exact .inr ⟨HS.out, rfl, ⟨_, _, HE.out.1⟩, HE.out.2⟩
end
section
open Go.RowKit Go.Maps
structure VerD where
 t : Int
 A : Option Addr
 c : Nat
 bs : List Int
def VerD.cells (v : VerD) : List Value := [.int .i64 v.t, .slice v.A 40 v.c]
theorem ver_two (p : VerD) : p.cells.length = 2 := rfl
theorem underMV : Tryz.prog.underlying 250 = some (.map 3 256) := Tryz.underlying250
theorem zeroV (w : World) : (zeroValue 256).run Tryz.prog w = .ok (.slice none 0 0) w := by kernel_rfl
def RowV (w : World) (F : Foot) (N : Nat) (v : Value) : Prop := ∃ vs : List VerD, 0 < vs.length ∧ vs.length ≤ N ∧ w.ownsRow 0 258 2 v vs.length (vs.flatMap VerD.cells) ∧ (∀ u ∈ vs, IsY w u.A 40 u.c u.bs) ∧ ∀ g, v.ownBlock = some g → F g
structure ExtX (w : World) (F : Foot) (gm bm s N : Nat) (last : Int) (f : Int → Option Value) : Prop where
 bx : Bk w gm 252 [.int .i64 258, .map (some bm), .int .i64 last]
 im : IM w Tryz.prog 3 bm s f
 row : ∀ x v, f x = some v → RowV w F N v
 dj : ∀ x y v u, x ≠ y → f x = some v → f y = some u → v.ownBlock ≠ u.ownBlock
 rng : ∀ x, (f x).isSome = true → 0 ≤ x ∧ x < 258
 pos : 0 ≤ last
 big : N ≤ 100000
 f0 : F gm
 f1 : F bm
def ExtP (w : World) (F : Foot) (gm N : Nat) (last : Int) : Prop := ∃ bm s f, ExtX w F gm bm s N last f ∧ (last = 0 → ∀ x, f x = none)
section
variable {w w' : World} {F : Foot} {gm bm s N : Nat} {last : Int} {f : Int → Option Value}
theorem RowV.ag {v : Value} (h : RowV w F N v) (k : Ag F w w') : RowV w' F N v := by
 obtain ⟨vs, h1, h2, h3, h4, h5⟩ := h
 exact ⟨vs, h1, h2, own_ag h3 k h5, fun u hu => (h4 u hu).ag k, h5⟩
theorem ExtX.ag (h : ExtX w F gm bm s N last f) (k : Ag F w w') : ExtX w' F gm bm s N last f := ⟨Bk.ag h.bx k h.f0, h.im.ag k h.f1, fun x v e => (h.row x v e).ag k, h.dj, h.rng, h.pos, h.big, h.f0, h.f1⟩
theorem ExtP.ag (h : ExtP w F gm N last) (k : Ag F w w') : ExtP w' F gm N last := by obtain ⟨bm, s, f, h, e⟩ := h; exact ⟨bm, s, f, h.ag k, e⟩
theorem ExtX.mono (h : ExtX w F gm bm s N last f) {M : Nat} (hM : N ≤ M) (hb : M ≤ 100000) : ExtX w F gm bm s M last f :=
 ⟨h.bx, h.im, fun x v e => by obtain ⟨vs, a, b, r⟩ := h.row x v e; exact ⟨vs, a, Nat.le_trans b hM, r⟩, h.dj, h.rng, h.pos, hb, h.f0, h.f1⟩
theorem ExtX.size (h : ExtX w F gm bm s N last f) : s ≤ 258 := by
 obtain ⟨ks, hk⟩ := keys_of h.im lawI underI
 rw [← hk.len]
 exact sorted_len hk.up (fun x hx => h.rng x ((hk.mem x (hk.wf x hx)).1 hx))
theorem ExtX.look (h : ExtX w F gm bm s N last f) {x : Int} (hx : wf64 x) : (Instr.lookup 250 (.map (some bm)) (.int .i64 x) false).run Tryz.prog w = .ok ((f x).getD (.slice none 0 0)) w := h.im.look lawI underI underMV (zeroV w) hx
structure AtX (w : World) (o : Option Value) (N : Nat) (A : Option Addr) (n c : Nat) (vs : List VerD) : Prop where
 val : o.getD (.slice none 0 0) = .slice A n c
 own : w.ownsRow 0 258 2 (.slice A n c) n (vs.flatMap VerD.cells)
 len : vs.length = n
 y : ∀ u ∈ vs, IsY w u.A 40 u.c u.bs
 le : n ≤ N
 pos : o.isSome = true → 0 < n
theorem ExtX.at_ (h : ExtX w F gm bm s N last f) (x : Int) : ∃ A n c vs, AtX w (f x) N A n c vs := by
 cases hf : f x with
 | none => exact ⟨none, 0, 0, [], rfl, ⟨rfl, .inl ⟨rfl, rfl⟩⟩, rfl, by simp, Nat.zero_le _, (fun e => by cases e)⟩
 | some v =>
   obtain ⟨vs, h1, h2, h3, h4, _⟩ := h.row x v hf
   obtain ⟨A, c, rfl⟩ := own_shape h3
   exact ⟨A, vs.length, c, vs, rfl, h3, rfl, h4, h2, fun _ => h1⟩
end
theorem extnew_any  (w : World) :
  Calls Tryz.prog 150 #[.int .i64 258] w fun e w' => (∃ gm, e = .returned (.tuple #[.pointer (some ⟨gm, 0, none⟩), .int .i64 0]) ∧ ExtP w' (fun b => w.heap.size ≤ b ∧ b < w'.heap.size) gm 0 0 ∧ w.heap.size ≤ gm ∧ gm < w'.heap.size) ∧ Below w.heap.size w w' := by
 have hmm := @run_makeMap Tryz.prog
 go_enter Tryz.func150, Tryz.ntmps150
 go_wp2_with fail
 go_ret2
 refine ⟨⟨w.heap.size + 1, rfl, ⟨w.heap.size, 0, fun _ => none, ⟨?_, (IM.made w _ _).next ((Below.refl _ _).alloc (Nat.le_refl _) _), (fun x v hv => by cases hv), (fun x y v u _ hv => by cases hv), (fun x hx => by cases hx), by omega, by omega, ?_, ?_⟩, fun _ _ => rfl⟩, by omega, ?_⟩, ((Below.refl _ _).alloc (Nat.le_refl _) _).alloc (by simp) _⟩
 · have := Bk.new (w.alloc (.map #[] 0)) 252 [.int .i64 258, .map (some w.heap.size), .int .i64 0]
   simpa using this
 · simp
 · simp; omega
 · simp
theorem egone_any (gm : Nat) (v : Value) (last : Int) (w : World) (h : Bk w gm 252 [.int .i64 258, v, .int .i64 last]) :
  Calls Tryz.prog 157 #[.pointer (some ⟨gm, 0, none⟩)] w fun e w' => e = .returned (.bool false) ∧ w = w' := by
 have c0 := h.cell (i := 0) (by simp)
 simp only [List.getElem_cons_zero] at c0
 go_enter Tryz.func157, Tryz.ntmps157
 go_wp2_with fail
 go_ret
 exact ⟨rfl, rfl⟩
theorem eblocks_any (gm : Nat) (v : Value) (last : Int) (w : World) (h : Bk w gm 252 [.int .i64 258, v, .int .i64 last]) :
  Calls Tryz.prog 221 #[.pointer (some ⟨gm, 0, none⟩)] w fun e w' => e = .returned (.int .i64 258) ∧ w = w' := by
 have c0 := h.cell (i := 0) (by simp)
 simp only [List.getElem_cons_zero] at c0
 go_enter Tryz.func221, Tryz.ntmps221
 go_wp2_with fail
 go_ret
 exact ⟨rfl, rfl⟩
theorem eblock_any (gm : Nat) (v : Value) (last x : Int) (w : World) (h : Bk w gm 252 [.int .i64 258, v, .int .i64 last]) (hx : 0 ≤ x ∧ x < 258) :
  Calls Tryz.prog 159 #[.pointer (some ⟨gm, 0, none⟩), .int .i64 x] w fun e w' => e = .returned (.bool true) ∧ w = w' := by
 have hc := eblocks_any gm v last w h
 have t0 : decide (0 ≤ x) = true := decide_eq_true hx.1
 have t1 : decide (x < 258) = true := decide_eq_true hx.2
 have t0' := hx.1
 have t1' := hx.2
 go_enter Tryz.func159, Tryz.ntmps159
 go_wp2_with fail
 refine hc.mono ?_
 rintro e w' ⟨rfl, rfl⟩
 go_wp2_with fail
 go_ret
 exact ⟨rfl, rfl⟩
theorem eat_any (F : Foot) (gm bm s N n c : Nat) (last x a : Int) (f : Int → Option Value) (A : Option Addr) (vs : List VerD) (w : World) (h : ExtX w F gm bm s N last f) (hx : wf64 x) (ha : AtX w (f x) N A n c vs) :
  Calls Tryz.prog 165 #[.pointer (some ⟨gm, 0, none⟩), .int .i64 x, .int .i64 a] w fun e w' => (∃ i : Int, e = .returned (.int .i64 i) ∧ -1 ≤ i ∧ i < (n : Int)) ∧ w = w' := by
 obtain ⟨c0, c1, c2⟩ := h.bx.c3
 have k2 := h.look hx
 rw [ha.val] at k2
 have hMn : n ≤ 100000 := Nat.le_trans ha.le h.big
 have hl := ha.len
 have hrd := rd_of_own ha.own
 clear h ha
 have wk0 : ∀ k : Nat, k ≤ n → wrap64 ((k : Int) - 1) = k - 1 := fun k hk => by unfold wrap64; omega
 have w0 := wk0 n (Nat.le_refl _)
 have W0 := Lib.hid wk0
 clear wk0
 go_enter Tryz.func165, Tryz.ntmps165
 go_wp2_with fail
 go_step3
 go_wp2_with fail
 go_step3
 go_wp2_with fail
 go_loop [8] (fun i => ∃ (k : Nat) (y : Int), k ≤ n ∧ i = .int .i64 y ∧ y = (k : Int) - 1) (fun i => (intOf i + 1).toNat)
 case atStart => exact ⟨n, _, Nat.le_refl _, rfl, by first | exact w0 | rfl⟩
 case round =>
  obtain ⟨k, y, hk, rfl, hy⟩ := hrel
  clear w0
  rcases k with _ | k
  · have t0 : decide (0 ≤ y) = false := decide_eq_false (by omega)
    go_wp2_with fail
    (try simp only [Exit.inBlock, Exit.then, Exit.noGoto_ret])
    go_ret
    exact ⟨⟨_, rfl, by omega, by omega⟩, rfl⟩
  · obtain rfl : y = (k : Int) := by omega
    obtain ⟨v, hvk⟩ : ∃ v, vs[k]'(by omega) = v := ⟨_, rfl⟩
    obtain ⟨ad, rfl, had, e0, _⟩ := two_get ver_two hrd (k := k) (by omega) (u := .int .i64 v.t) (v := .slice v.A 40 v.c) (by rw [hvk]; rfl)
    have n0 : (0 : Int) ≤ (k : Int) := by omega
    have n1 : (k : Int) < (n : Int) := by omega
    have w1 := W0.out k (by omega)
    clear hvk hy
    by_cases hle : v.t ≤ a
    · have t0 : decide (v.t ≤ a) = true := decide_eq_true hle
      clear hle
      go_wp2_with fail
      (try simp only [Exit.inBlock, Exit.then, Exit.noGoto_ret])
      go_ret
      exact ⟨⟨_, rfl, by omega, by omega⟩, rfl⟩
    · have t0 : decide (v.t ≤ a) = false := decide_eq_false hle
      clear hle
      go_wp2_with fail
      go_round
      case rel => exact ⟨k, _, by omega, rfl, by first | exact w1 | rfl⟩
      case measure => first | (rw [w1]; simp [intOf]; done) | (simp [intOf]; omega) | simp [intOf]
theorem byt_of {w w8 : World} {B : Nat} {xA : Option Addr} {n xc : Nat} {xb : List Int} {v : Value} (h : IsY w xA n xc xb) (ho : w8.ownsRow B 5 1 v n (xb.map (Value.int .u8))) : Byt w8 B v xb := ⟨by rw [h.b.len]; exact ho, h.b.wf⟩
theorem made40 (W : World) : ∃ bs : List Int, Byt (W.alloc (.cells (List.replicate 40 (Value.int .u8 0)).toArray 5)) W.heap.size (.slice (some ⟨W.heap.size, 0, none⟩) 40 40) bs ∧ bs.length = 40 := by
 refine ⟨List.replicate 40 0, byt_bk (by simp) (by omega) ?_ (Nat.le_refl _) (fun x hx => by have := List.eq_of_mem_replicate hx; omega), by simp⟩
 rw [List.map_replicate]
 exact Bk.new W 5 (List.replicate 40 (Value.int .u8 0))
theorem eget_any (F : Foot) (gm bm s N : Nat) (last x a : Int) (f : Int → Option Value) (w : World) (h : ExtX w F gm bm s N last f) (hx : 0 ≤ x ∧ x < 258) :
  Calls Tryz.prog 321 #[.pointer (some ⟨gm, 0, none⟩), .int .i64 x, .int .i64 a] w fun e w' => (∃ v, ∃ t : Int, e = .returned (.tuple #[v, .int .i64 t]) ∧ ∃ bs, Byt w' w.heap.size v bs ∧ bs.length = 40) ∧ Below w.heap.size w w' := by
 have hxw : wf64 x := wf_of (by omega) (by omega)
 obtain ⟨A, n, c, vs, ha⟩ := h.at_ x
 have hmk : ∀ W, (Instr.makeSlice 47 (.int .i64 40) (.int .i64 40)).run Tryz.prog W = .ok (.slice (some ⟨W.heap.size, 0, none⟩) 40 40) (W.alloc (.cells (List.replicate 40 (Value.int .u8 0)).toArray 5)) := fun W => run_makeB W 40 (by omega)
 have hbk := eblock_any gm (.map (some bm)) last x w h.bx hx
 have hat := eat_any F gm bm s N n c last x a f A vs w h hxw ha
 have k2 := h.look hxw
 rw [ha.val] at k2
 obtain ⟨c0, c1, c2⟩ := h.bx.c3
 have hMn : n ≤ 100000 := Nat.le_trans ha.le h.big
 have hl := ha.len
 have hrd := rd_of_own ha.own
 have HY := Lib.hid ha.y
 clear h ha
 go_enter Tryz.func321, Tryz.ntmps321
 go_wp2_with fail
 refine hbk.mono ?_
 rintro e w' ⟨rfl, rfl⟩
 clear hbk
 go_wp2_with fail
 refine hat.mono ?_
 rintro e w' ⟨⟨i, rfl, hi0, hi1⟩, rfl⟩
 clear hat
 rcases Int.lt_or_le i 0 with hi | hi
 · have t1 : decide (i < 0) = true := decide_eq_true hi
   have HM := Lib.hid (made40 w)
   go_wp2_with fail
   go_ret2
   obtain ⟨bs, h1, h2⟩ := HM.out
   exact ⟨⟨_, _, rfl, bs, h1, h2⟩, (Below.refl _ _).alloc (Nat.le_refl _) _⟩
 · obtain ⟨k, rfl⟩ : ∃ k : Nat, i = (k : Int) := ⟨i.toNat, by omega⟩
   obtain ⟨v, hvk⟩ : ∃ v, vs[k]'(by omega) = v := ⟨_, rfl⟩
   obtain ⟨ad, rfl, had, e0, e1⟩ := two_get ver_two hrd (k := k) (by omega) (u := .int .i64 v.t) (v := .slice v.A 40 v.c) (by rw [hvk]; rfl)
   have hvy := HY.out v (by rw [← hvk]; exact List.getElem_mem _)
   have t1 : decide ((k : Int) < 0) = false := decide_eq_false (by omega)
   have n0 : (0 : Int) ≤ (k : Int) := by omega
   have n1 : (k : Int) < (n : Int) := by omega
   clear hvk hi hi0 hi1
   obtain ⟨w6, hw6⟩ : ∃ w6, w.alloc (.cells #[.int .i64 v.t, .slice v.A 40 v.c] 258) = w6 := ⟨_, rfl⟩
   have hB6 : Bk w6 w.heap.size 258 [.int .i64 v.t, .slice v.A 40 v.c] := by rw [← hw6]; exact Bk.new w _ _
   have hb6 : Below w.heap.size w w6 := by rw [← hw6]; exact (Below.refl _ _).alloc (Nat.le_refl _) _
   obtain ⟨d0, d1⟩ := hB6.c2
   have HY6 := Lib.hid (And.intro hb6 (hvy.ag (F := fun _ => True) (.of_below hb6)))
   have KK := Lib.hid (fun (w' : World) (hS : Below w6.heap.size w6 w') => (show w'.cell? ⟨w.heap.size, 0, none⟩ = some (.int .i64 v.t) ∧ w'.cell? ⟨w.heap.size, 1, none⟩ = some (.slice v.A 40 v.c) from
    ⟨(hB6.next hS hB6.lt).cell (i := 0) (by simp), (hB6.next hS hB6.lt).cell (i := 1) (by simp)⟩))
   clear hB6 hb6 hvy
   go_wp2_with fail
   have Kq := KK
   refine wp_region_held_drew (S := fun w' => Below w6.heap.size w6 w') (by kernel_rfl) (bdrew (Below.refl _ _)) (fun hHeld => ?_)
   refine kF 0 ?_; refine kF 1 ?_; refine kF 3 ?_; refine kF 4 ?_
   refine rF 2 (fun K hK => ?_)
   go_simp
   refine (clone_any v.A 40 v.c w6.heap.size (v.bs.map (Value.int .u8)) _ (by rw [List.length_map]; exact HY6.out.2.b.len) (HY6.out.2.ag (F := fun _ => False) (.of_below hHeld)).b.rd one_int (by omega) (by first | exact hHeld.size | exact Nat.zero_le _ | exact Nat.le_refl _)).mono ?_
   rintro e w8 ⟨⟨vc, rfl, hvc⟩, hb8⟩
   have hS4 : Below w6.heap.size w6 w8 := hHeld.trans (hb8.mono hHeld.size)
   have HVC := Lib.hid (And.intro (byt_of HY6.out.2 hvc) HY6.out.2.b.len)
   obtain ⟨yA, yc, rfl⟩ := own_shape hvc
   clear hvc hb8
   go_simp
   refine hK.out _ _ (hS4) (fun hHeld2 => ?_)
   clear hK K hHeld
   have hHeld := hHeld2
   clear hHeld2
   try simp only [Act.put, List.setIfInBounds_toArray, List.set_cons_zero, List.set_cons_succ]
   refine kF 5 ?_; refine kF 6 ?_
   refine wpAnyH_done (by kernel_rfl) ?_ _
   clear Kq
   go_wp2_with fail
   go_ret2
   refine ⟨⟨_, _, rfl, v.bs, ?_, HVC.out.2⟩, HY6.out.1.trans (hHeld.mono HY6.out.1.size)⟩
   exact Byt.base HVC.out.1 HY6.out.1.size
end
section
open Go.RowKit Go.Maps
theorem quiet_same {P : Program} {f : FuncId} {args : Array Value} {w : World} {n : Nat} {v : Value} (h : Calls P f args (w.drewN n) fun e w' => e = .returned v ∧ w.drewN n = w') : Calls P f args (w.drewN n) fun e w'' => e = .returned v ∧ ∃ m, w'' = w.drewN m :=
 h.mono fun _ _ ⟨he, hm⟩ => ⟨he, n, hm.symm⟩
def withB (x : ExD) : Bool := decide (0 ≤ x.f) && decide (1 ≤ x.l) && decide (x.l ≤ 258) && decide (x.f ≤ 258 - x.l)
theorem withB_yes {x : ExD} (h : withB x = true) : 0 ≤ x.f ∧ 1 ≤ x.l ∧ x.f + x.l ≤ 258 := by
 simp only [withB, Bool.and_eq_true, decide_eq_true_eq] at h
 omega
theorem ewithin_any (x : ExD) (gm : Nat) (v : Value) (last : Int) (w : World) (h : Bk w gm 252 [.int .i64 258, v, .int .i64 last]) :
  Calls Tryz.prog 320 #[.pointer (some ⟨gm, 0, none⟩), .agg #[.int .i64 x.f, .int .i64 x.l]] w fun e w' => e = .returned (.bool (withB x)) ∧ Below w.heap.size w w' := by
 obtain ⟨w5, hw5⟩ : ∃ w5, w.alloc (.cells #[.int .i64 x.f, .int .i64 x.l] 197) = w5 := ⟨_, rfl⟩
 have hB5 : Bk w5 w.heap.size 197 [.int .i64 x.f, .int .i64 x.l] := by rw [← hw5]; exact Bk.new w _ _
 have hb5 : Below w.heap.size w w5 := by rw [← hw5]; exact (Below.refl _ _).alloc (Nat.le_refl _) _
 obtain ⟨d0, d1⟩ := hB5.c2
 have HB5 := Lib.hid (And.intro (h.next hb5 h.lt) hb5)
 clear h hB5 hb5
 by_cases g0 : 0 ≤ x.f
 rotate_left
 · have t0 : decide (0 ≤ x.f) = false := decide_eq_false g0
   have HR := Lib.hid (show withB x = false by simp only [withB, t0, Bool.false_and, Bool.and_false, Bool.true_and])
   clear g0
   go_enter Tryz.func320, Tryz.ntmps320
   go_wp2_with fail
   go_quiet ((go_at_call 221; exact quiet_same (eblocks_any gm v last _ (by exact HB5.out.1))))
   go_wp2_with fail
   go_ret
   exact ⟨ret_bool HR.out.symm, HB5.out.2.trans (bdrewN (Below.refl _ _) _)⟩
 have t0 : decide (0 ≤ x.f) = true := decide_eq_true g0
 by_cases g1 : 1 ≤ x.l
 rotate_left
 · have t1 : decide (1 ≤ x.l) = false := decide_eq_false g1
   have HR := Lib.hid (show withB x = false by simp only [withB, t0, t1, Bool.false_and, Bool.and_false, Bool.true_and])
   clear g1
   go_enter Tryz.func320, Tryz.ntmps320
   go_wp2_with fail
   go_quiet ((go_at_call 221; exact quiet_same (eblocks_any gm v last _ (by exact HB5.out.1))))
   go_wp2_with fail
   go_ret
   exact ⟨ret_bool HR.out.symm, HB5.out.2.trans (bdrewN (Below.refl _ _) _)⟩
 have t1 : decide (1 ≤ x.l) = true := decide_eq_true g1
 by_cases g2 : x.l ≤ 258
 rotate_left
 · have t2 : decide (x.l ≤ 258) = false := decide_eq_false g2
   have HR := Lib.hid (show withB x = false by simp only [withB, t0, t1, t2, Bool.false_and, Bool.and_false, Bool.true_and])
   clear g2
   go_enter Tryz.func320, Tryz.ntmps320
   go_wp2_with fail
   go_quiet ((go_at_call 221; exact quiet_same (eblocks_any gm v last _ (by exact HB5.out.1))))
   go_wp2_with fail
   go_ret
   exact ⟨ret_bool HR.out.symm, HB5.out.2.trans (bdrewN (Below.refl _ _) _)⟩
 have t2 : decide (x.l ≤ 258) = true := decide_eq_true g2
 by_cases g3 : x.f ≤ 258 - x.l
 rotate_left
 · have t3 : decide (x.f ≤ 258 - x.l) = false := decide_eq_false g3
   have HR := Lib.hid (show withB x = false by simp only [withB, t0, t1, t2, t3, Bool.false_and, Bool.and_false, Bool.true_and])
   clear g3
   go_enter Tryz.func320, Tryz.ntmps320
   go_wp2_with fail
   go_quiet ((go_at_call 221; exact quiet_same (eblocks_any gm v last _ (by exact HB5.out.1))))
   go_wp2_with fail
   go_ret
   exact ⟨ret_bool HR.out.symm, HB5.out.2.trans (bdrewN (Below.refl _ _) _)⟩
 have t3 : decide (x.f ≤ 258 - x.l) = true := decide_eq_true g3
 have HR := Lib.hid (show withB x = true by simp only [withB, t0, t1, t2, t3, Bool.and_true])
 go_enter Tryz.func320, Tryz.ntmps320
 go_wp2_with fail
 go_quiet ((go_at_call 221; exact quiet_same (eblocks_any gm v last _ (by exact HB5.out.1))))
 go_wp2_with fail
 go_ret
 exact ⟨ret_bool HR.out.symm, HB5.out.2.trans (bdrewN (Below.refl _ _) _)⟩
theorem erange_any (F : Foot) (gm bm s N : Nat) (last a : Int) (f : Int → Option Value) (x : ExD) (w : World) (h : ExtX w F gm bm s N last f) :
  Calls Tryz.prog 269 #[.pointer (some ⟨gm, 0, none⟩), .agg #[.int .i64 x.f, .int .i64 x.l], .int .i64 a] w fun e w' => ((withB x = false ∧ e = .returned (.tuple #[.slice none 0 0, .int .i64 2])) ∨ (withB x = true ∧ ∃ v, e = .returned (.tuple #[v, .int .i64 0]) ∧ ∃ bs, Byt w' w.heap.size v bs ∧ (bs.length : Int) = 40 * x.l)) ∧ Below w.heap.size w w' := by
 obtain ⟨i0, hi, hz0, hz1, hz2⟩ := info_parts infoB
 obtain ⟨w5, hw5⟩ : ∃ w5, w.alloc (.cells #[.int .i64 x.f, .int .i64 x.l] 197) = w5 := ⟨_, rfl⟩
 have hB5 : Bk w5 w.heap.size 197 [.int .i64 x.f, .int .i64 x.l] := by rw [← hw5]; exact Bk.new w _ _
 have hb5 : Below w.heap.size w w5 := by rw [← hw5]; exact (Below.refl _ _).alloc (Nat.le_refl _) _
 obtain ⟨d0, d1⟩ := hB5.c2
 have HB5 := Lib.hid (And.intro hB5 hb5)
 have HX := Lib.hid h
 have hwi := ewithin_any x gm (.map (some bm)) last w5 (h.bx.next hb5 h.bx.lt)
 clear h hB5
 go_enter Tryz.func269, Tryz.ntmps269
 go_wp2_with fail
 refine hwi.mono ?_
 rintro e w1 ⟨rfl, hb1⟩
 obtain ⟨ok, hok⟩ : ∃ b, withB x = b := ⟨_, rfl⟩
 have HB1 := Lib.hid (And.intro (HB5.out.2.trans (hb1.mono HB5.out.2.size)) (HB5.out.1.next hb1 HB5.out.1.lt))
 rw [hok]
 clear hwi hb1 hb5 d0 d1
 cases ok with
 | false =>
   go_wp2_with fail
   go_ret2
   exact ⟨.inl ⟨hok, rfl⟩, HB1.out.1⟩
 | true =>
   obtain ⟨h0, h1, h2⟩ := withB_yes hok
   obtain ⟨L, hL⟩ : ∃ L : Nat, x.l = (L : Int) := ⟨x.l.toNat, by omega⟩
   have HK := Lib.hid (And.intro hok hL)
   rw [hL] at h1 h2
   obtain ⟨q0, q1⟩ := HB1.out.2.c2
   rw [hL] at q1 ⊢
   clear hL hok
   go_wp2_with fail
   go_loopw [6, 17] (fun sv iv wr => ∃ k : Nat, k ≤ L ∧ iv = .int .i64 (k : Int) ∧ Below w.heap.size w wr ∧ Below w1.heap.size w1 wr ∧ ∃ bs : List Int, Hid (Byt wr w1.heap.size sv bs ∧ bs.length = 40 * k)) (fun _ iv _ => L - (intOf iv).toNat)
   case atStart => exact ⟨0, Nat.zero_le _, rfl, HB1.out.1, Below.refl _ _, [], ⟨⟨rfl, .inl ⟨rfl, rfl⟩⟩, by simp⟩, rfl⟩
   case round =>
    obtain ⟨k, hk, rfl, hW, hW1, bs, HS⟩ := hrel
    clear q0 q1
    by_cases hlt : k < L
    · have n0 : (k : Int) < (L : Int) := by omega
      have w0 : wrap64 (x.f + (k : Int)) = x.f + (k : Int) := by unfold wrap64; omega
      have hg := eget_any F gm bm s N last (x.f + (k : Int)) a f wr (HX.out.ag (.of_below hW)) (by omega)
      have hbk := HB1.out.2.next hW1 HB1.out.2.lt
      have q0 := hbk.cell (i := 0) (by simp)
      simp only [List.getElem_cons_zero] at q0
      have HW := Lib.hid (And.intro hW hW1)
      clear hW hW1 hbk
      go_wp2_with fail
      refine hg.mono ?_
      rintro e w3 ⟨⟨v, t, rfl, b3, hb3, hl3⟩, hbl⟩
      obtain ⟨A3, c3, rfl, hy3⟩ := hb3.isY
      rw [hl3] at hy3 ⊢
      have HY := Lib.hid (And.intro hy3 (And.intro hl3 hbl))
      have HS3 := Lib.hid (And.intro (HS.out.1.next hbl) HS.out.2)
      have hbl' : bs.length ≤ 40 * 258 := by have := HS.out.2; omega
      clear hg hb3 hl3 hbl hy3 q0
      go_wp2_with (at_builtin; go_must (refine wpList_appM _ rfl _ _ 47 rfl w1.heap.size 5 i0 (.int .u8 0) 1 1 Tryz.underlying47 hi hz0 hz1 hz2 rfl (by omega) _ _ _ (by rfl) (by exact HS3.out.1.1) w3.heap.size A3 40 c3 (b3.map (Value.int .u8)) (by rfl) (by rw [List.length_map, Nat.mul_one]; exact HY.out.1.b.len) (by exact HY.out.1.b.rd) one_int (by omega) (by omega) (by exact Nat.le_trans HW.out.2.size HY.out.2.2.size) ?_); intro v9 w9 hO9 hG9 hn9)
      have HE := Lib.hid (show Below w.heap.size w w9 ∧ Below w1.heap.size w1 w9 ∧ Byt w9 w1.heap.size v9 (bs ++ b3) ∧ (bs ++ b3).length = 40 * (k + 1) from by
       have hlo : ∀ g, u6.ownBlock = some g → w1.heap.size ≤ g := fun g hg => own_at_ge HS3.out.1.1 hg
       refine ⟨(HW.out.1.trans (HY.out.2.2.mono HW.out.1.size)).grown hG9 (Nat.le_trans HW.out.1.size HY.out.2.2.size) (fun g hg => Nat.le_trans HB1.out.1.size (hlo g hg)), (HW.out.2.trans (HY.out.2.2.mono HW.out.2.size)).grown hG9 (Nat.le_trans HW.out.2.size HY.out.2.2.size) hlo, ⟨?_, fun y hy => ?_⟩, ?_⟩
       · rw [List.length_append, HY.out.2.1, List.map_append]; exact hO9
       · rcases List.mem_append.1 hy with q | q
         · exact HS3.out.1.2 y q
         · exact HY.out.1.b.wf y q
       · rw [List.length_append, HS3.out.2, HY.out.2.1]; omega)
      clear hO9 hG9 hn9
      go_roundw
      case rel => exact ⟨k + 1, by omega, by go_num, HE.out.1, HE.out.2.1, _, HE.out.2.2⟩
      case measure => simp [intOf]; omega
    · obtain rfl : k = L := by omega
      have n0 : ¬ (k : Int) < (k : Int) := by omega
      have HE := Lib.hid (And.intro (Byt.base HS.out.1 HB1.out.1.size) HS.out.2)
      go_wp2_with fail
      go_ret2
      exact ⟨.inr ⟨HK.out.1, _, rfl, bs, HE.out.1, by rw [HK.out.2, HE.out.2]; omega⟩, hW⟩
end
section
open Go.RowKit Go.Maps
theorem edump_any (F : Foot) (gm bm s N B : Nat) (last : Int) (f : Int → Option Value) (w : World) (h : ExtX w F gm bm s N last f) (hB : B ≤ w.heap.size) :
  Calls Tryz.prog 164 #[.pointer (some ⟨gm, 0, none⟩)] w fun e w' => (∃ v, e = .returned v ∧ ∃ ks, (∃ ps, PutsOf w' B v ks ps) ∧ ks.length ≤ 258 ∧ (∀ k ∈ ks, 0 ≤ k ∧ k < 258)) ∧ Below w.heap.size w w' := by
 obtain ⟨xi, xz, hxi, hxz, hx5, hx56, hxc⟩ := infoPut
 obtain ⟨c0, c1, c2⟩ := h.bx.c3
 have hgo := egone_any gm _ last w h.bx
 have hk := keysV_any bm w
 have hso := sortedV_any bm s f w h.im (Nat.le_trans h.size (by omega))
 have HX := Lib.hid h
 have HB := Lib.hid hB
 have HSZ := Lib.hid h.size
 clear h hB
 go_enter Tryz.func164, Tryz.ntmps164
 go_wp2_with fail
 refine hgo.mono ?_
 rintro e w' ⟨rfl, rfl⟩
 clear hgo
 go_wp2_with fail
 refine hk.mono ?_
 rintro e w1 ⟨rfl, rfl⟩
 go_wp2_with fail
 refine hso.mono ?_
 rintro e w2 ⟨⟨v, ks', rfl, hK, ho⟩, hb2⟩
 have hl := hK.len
 obtain ⟨kA, kc, rfl⟩ := own_shape ho
 have hR := rd_of_own ho
 have hb2s := Lib.hid hb2.size
 have HKS := Lib.hid hK
 clear ho hk hso hK
 go_wp2_with fail
 go_loopw [2, 15] (fun pv iv wr => ∃ k : Nat, k ≤ s ∧ iv = .int .i64 (k : Int) ∧ Below w.heap.size w wr ∧ Below w2.heap.size w2 wr ∧ ∃ ps, Hid (PutsOf wr w2.heap.size pv (ks'.take k) ps)) (fun _ iv _ => s - (intOf iv).toNat)
 case atStart => exact ⟨0, Nat.zero_le _, rfl, hb2, Below.refl _ _, [], ⟨⟨rfl, .inl ⟨rfl, rfl⟩⟩, rfl, by simp, by simp, by simp⟩⟩
 case round =>
  obtain ⟨k, hk, rfl, hW, hW2, ps, HP⟩ := hrel
  clear c0 c1 c2
  by_cases hlt : k < s
  · obtain ⟨ad, eA, had, ck⟩ := (hR.next (Nat.le_refl _) hW2).get (k := k) (by rw [List.length_map]; omega)
    subst eA
    rw [List.getElem_map] at ck
    obtain ⟨x, hx⟩ : ∃ x, ks'[k]'(by omega) = x := ⟨_, rfl⟩
    rw [hx] at ck
    have hxm : x ∈ ks' := by rw [← hx]; exact List.getElem_mem _
    have hxw := HKS.out.wf x hxm
    have hX := HX.out.ag (.of_below hW)
    have hsome := (HKS.out.mem x hxw).1 hxm
    obtain ⟨rA, m, rc, vs, ha⟩ := hX.at_ x
    have hlk := hX.look hxw
    rw [ha.val] at hlk
    obtain ⟨p, rfl⟩ : ∃ p, m = p + 1 := ⟨m - 1, by have := ha.pos hsome; omega⟩
    have hMn : p + 1 ≤ 100000 := Nat.le_trans ha.le hX.big
    obtain ⟨u, hu⟩ : ∃ u, vs[p]'(by have := ha.len; omega) = u := ⟨_, rfl⟩
    obtain ⟨ad2, rfl, had2, g0, g1⟩ := two_get ver_two (rd_of_own ha.own) (k := p) (by have := ha.len; omega) (u := .int .i64 u.t) (v := .slice u.A 40 u.c) (by rw [hu]; rfl)
    have huy := ha.y u (by rw [← hu]; exact List.getElem_mem _)
    obtain ⟨c0, c1, c2⟩ := hX.bx.c3
    have hc := clone_any u.A 40 u.c wr.heap.size (u.bs.map (Value.int .u8)) wr (by rw [List.length_map]; exact huy.b.len) huy.b.rd one_int (by omega) (Nat.le_refl _)
    have HY := Lib.hid (And.intro huy.b.len huy.b.wf)
    have HT := Lib.hid (show ks'.take (k + 1) = ks'.take k ++ [x] by rw [List.take_succ_eq_append_getElem (by omega), hx])
    have htl : (ks'.take k).length = k := by rw [List.length_take]; omega
    have n0 : (k : Int) < (s : Int) := by omega
    have n1 : (0 : Int) ≤ (k : Int) := by omega
    have n2 : (0 : Int) ≤ (p : Int) := by omega
    have n3 : (p : Int) < (p : Int) + 1 := by omega
    have w0 : wrap64 ((p : Int) + 1 - 1) = (p : Int) := by unfold wrap64; omega
    have hk16 : k ≤ 258 := by have := HSZ.out; omega
    clear hX hx huy hu hxm ha hsome
    go_wp2_with fail
    refine hc.mono ?_
    rintro e w3 ⟨⟨v3, rfl, ho3⟩, hb3⟩
    obtain ⟨yA, yc, rfl⟩ := own_shape ho3
    have HC := Lib.hid (show Byt w3 wr.heap.size (.slice yA 40 yc) u.bs from ⟨by rw [HY.out.1]; exact ho3, HY.out.2⟩)
    have HP3 := Lib.hid (HP.out.next hb3)
    have HS := Lib.hid (And.intro (hW.trans (hb3.mono hW.size)) (And.intro (hW2.trans (hb3.mono hW2.size)) (Nat.le_trans hW2.size hb3.size)))
    clear hc ho3 hb3 c0 c1 c2 HP g0 g1
    obtain ⟨w4, hw4⟩ : ∃ w4, w3.alloc (.cells #[.int .i64 x, .slice yA 40 yc] 50) = w4 := ⟨_, rfl⟩
    have hB4 : Bk w4 w3.heap.size 50 [.int .i64 x, .slice yA 40 yc] := by rw [← hw4]; exact Bk.new _ _ _
    have hb4 : Below w3.heap.size w3 w4 := by rw [← hw4]; exact (Below.refl _ _).alloc (Nat.le_refl _) _
    have HQ4 := Lib.hid (HP3.out.next hb4)
    have HB4 := Lib.hid (And.intro hB4 hb4)
    have hnk : (ks'.take k).length ≤ 1000000 := by omega
    clear hB4 hb4
    go_wp2_with (at_builtin; go_must (refine wpList_appS _ rfl _ _ 43 rfl w2.heap.size 50 xi xz 2 32 Tryz.underlying43 hxi hxz hx5 hx56 hxc (by decide) _ _ _ (by rfl) (by exact HQ4.out.own) _ [.int .i64 x, .slice yA 40 yc] (by rfl) (by exact HB4.out.1) rfl (by intro u hu; simp at hu; rcases hu with rfl | rfl <;> rfl) (by exact hnk) (by decide) (by exact Nat.le_trans HS.out.2.2 HB4.out.2.size) ?_); intro v9 w9 hO9 hG9 hn9)
    have HE := Lib.hid (show PutsOf w9 w2.heap.size v9 (ks'.take (k + 1)) (ps ++ [⟨x, yA, 40, yc, u.bs⟩]) ∧ Below w.heap.size w w9 ∧ Below w2.heap.size w2 w9 from by
     have hyc : IsY w3 yA 40 yc u.bs := by
      obtain ⟨A', c', e, hy⟩ := HC.out.isY
      rw [HY.out.1] at e hy
      injection e with e1 _ e2
      subst e1 e2
      exact hy
     refine ⟨by rw [HT.out]; exact HQ4.out.push (by rw [htl] at hO9 ⊢; exact hO9) hG9 (hyc.ag (F := fun _ => False) (.of_below HB4.out.2)) (fun ad q => Nat.le_trans hW2.size (own_at_ge (g := ad.block) HC.out.1 (by rw [q]; rfl))), ?_, ?_⟩
     · exact (HS.out.1.trans (HB4.out.2.mono HS.out.1.size)).grown hG9 (Nat.le_trans HS.out.1.size HB4.out.2.size) (fun g hg => Nat.le_trans hb2s.out (own_at_ge HQ4.out.own hg))
     · exact (HS.out.2.1.trans (HB4.out.2.mono HS.out.2.1.size)).grown hG9 (Nat.le_trans HS.out.2.1.size HB4.out.2.size) (fun g hg => own_at_ge HQ4.out.own hg))
    go_roundw
    case rel => exact ⟨k + 1, by omega, by go_num, HE.out.2.1, HE.out.2.2, _, HE.out.1⟩
    case measure => simp [intOf]; omega
  · obtain rfl : k = s := by omega
    have n0 : ¬ (k : Int) < (k : Int) := by omega
    have HP2 := Lib.hid (show PutsOf wr w2.heap.size u2 ks' ps from by have := HP.out; rwa [List.take_of_length_le (by omega)] at this)
    have HQ := Lib.hid (show ks'.length ≤ 258 ∧ ∀ y ∈ ks', 0 ≤ y ∧ y < 258 from ⟨by have := HSZ.out; omega, fun y hy => HX.out.rng y ((HKS.out.mem y (HKS.out.wf y hy)).1 hy)⟩)
    go_wp2_with fail
    go_ret
    exact ⟨⟨_, rfl, ks', ⟨ps, HP2.out.base (Nat.le_trans HB.out hb2s.out)⟩, HQ.out.1, HQ.out.2⟩, hW⟩
theorem ewritten_any (F : Foot) (gm bm s N : Nat) (last after : Int) (f : Int → Option Value) (x : ExD) (w : World) (h : ExtX w F gm bm s N last f) :
  Calls Tryz.prog 365 #[.pointer (some ⟨gm, 0, none⟩), .agg #[.int .i64 x.f, .int .i64 x.l], .int .i64 after] w fun e w' => (∃ r, e = .returned (.bool r) ∧ ((∀ y, f y = none) → r = false)) ∧ Below w.heap.size w w' := by
 obtain ⟨w5, hw5⟩ : ∃ w5, w.alloc (.cells #[.int .i64 x.f, .int .i64 x.l] 197) = w5 := ⟨_, rfl⟩
 have hB5 : Bk w5 w.heap.size 197 [.int .i64 x.f, .int .i64 x.l] := by rw [← hw5]; exact Bk.new w _ _
 have hb5 : Below w.heap.size w w5 := by rw [← hw5]; exact (Below.refl _ _).alloc (Nat.le_refl _) _
 obtain ⟨d0, d1⟩ := hB5.c2
 have HB5 := Lib.hid (And.intro hB5 hb5)
 have hx5 := h.ag (.of_below hb5)
 have HX := Lib.hid h
 have HX5 := Lib.hid hx5
 have hgo := egone_any gm _ last w5 hx5.bx
 clear h hx5 hB5
 go_enter Tryz.func365, Tryz.ntmps365
 go_wp2_with fail
 refine hgo.mono ?_
 rintro e w' ⟨rfl, rfl⟩
 clear hgo
 by_cases g0 : x.f < 0
 · have t0 : decide (x.f < 0) = true := decide_eq_true g0
   go_wp2_with fail
   go_ret
   exact ⟨⟨_, rfl, fun _ => rfl⟩, HB5.out.2⟩
 have t0 : decide (x.f < 0) = false := decide_eq_false g0
 by_cases g1 : 1048576 < x.f
 · have t1 : decide (1048576 < x.f) = true := decide_eq_true g1
   go_wp2_with fail
   go_ret
   exact ⟨⟨_, rfl, fun _ => rfl⟩, HB5.out.2⟩
 have t1 : decide (1048576 < x.f) = false := decide_eq_false g1
 by_cases g2 : x.l < 1
 · have t2 : decide (x.l < 1) = true := decide_eq_true g2
   go_wp2_with fail
   go_ret
   exact ⟨⟨_, rfl, fun _ => rfl⟩, HB5.out.2⟩
 have t2 : decide (x.l < 1) = false := decide_eq_false g2
 have w0 : wrap64 (1048577 - x.f) = 1048577 - x.f := by unfold wrap64; omega
 by_cases g3 : 1048577 - x.f < x.l
 · have t3 : decide (1048577 - x.f < x.l) = true := decide_eq_true g3
   go_wp2_with fail
   go_ret
   exact ⟨⟨_, rfl, fun _ => rfl⟩, HB5.out.2⟩
 have t3 : decide (1048577 - x.f < x.l) = false := decide_eq_false g3
 by_cases g4 : 1048576 < x.l
 · have t4 : decide (1048576 < x.l) = true := decide_eq_true g4
   go_wp2_with fail
   go_ret
   exact ⟨⟨_, rfl, fun _ => rfl⟩, HB5.out.2⟩
 have t4 : decide (1048576 < x.l) = false := decide_eq_false g4
 obtain ⟨c0, c1, c2⟩ := HX5.out.bx.c3
 have HG := Lib.hid (show 0 ≤ x.f ∧ x.f ≤ 1048576 ∧ 1 ≤ x.l ∧ x.l ≤ 1048576 from by omega)
 go_wp2_with (at_range; go_must (refine wpList_irange _ rfl _ 250 rfl 3 256 lawI underMV bm s f (by rfl) (by exact HX5.out.im) ?_); intro w1 left hR1 hG1 hs1)
 have hb51 : Below w5.heap.size w5 w1 := ⟨hG1.os, hG1.tape, hG1.output, hG1.size, fun b hb => hG1.block b hb (by simp)⟩
 have HB1 := Lib.hid (And.intro (hb5.trans (hb51.mono hb5.size)) hb51)
 have HR := Lib.hid hR1
 have h5s := Lib.hid hb5.size
 clear hG1 hs1 hR1 hb51 hb5 t0 t1 t2 t3 t4 g0 g1 g2 g3 g4 w0 c0 c1 c2 d0 d1
 try go_frame
 go_loopw [7] (fun _ wr => ∃ (left : Lit → Bool) (cnt : Nat), IR wr Tryz.prog 3 bm w5.heap.size s f left cnt ∧ Below w.heap.size w wr ∧ Below w5.heap.size w5 wr) (fun _ wr => wr.rangeLeft bm w5.heap.size)
 case atStart => exact ⟨left, s, HR.out, HB1.out.1, HB1.out.2⟩
 case round =>
  obtain ⟨left, cnt, hR, hW, hW5⟩ := hrel
  have HRR := Lib.hid (And.intro hR (And.intro hW hW5))
  clear hR hW hW5
  go_wp2_with (at_next; go_must (refine wpList_inext _ rfl _ rfl 3 lawI underI bm w5.heap.size s f left cnt (by rfl) (by exact HRR.out.1) ?_ ?_))
  · go_wp2_with fail
    go_ret
    exact ⟨⟨_, rfl, fun _ => rfl⟩, HRR.out.2.1⟩
  · intro y c w2 left2 cnt2 hyw hyc hR2 hlt2 hG2 hs2 hen
    have hb2 : Below w5.heap.size w5 w2 := HRR.out.2.2.grown hG2 HRR.out.2.2.size (fun g hg => by injection hg with hg; omega)
    have hb2' : Below w.heap.size w w2 := HRR.out.2.1.grown hG2 HRR.out.2.1.size (fun g hg => by injection hg with hg; have := h5s.out; omega)
    obtain ⟨rA, m, rc, vs, ha⟩ := (HX5.out.ag (.of_below hb2)).at_ y
    have hcv := ha.val
    rw [hyc] at hcv
    simp only [Option.getD_some] at hcv
    subst hcv
    obtain ⟨p, rfl⟩ : ∃ p, m = p + 1 := ⟨m - 1, by have := ha.pos (by rw [hyc]; rfl); omega⟩
    have hMn : p + 1 ≤ 100000 := Nat.le_trans ha.le HX.out.big
    obtain ⟨u, hu⟩ : ∃ u, vs[p]'(by have := ha.len; omega) = u := ⟨_, rfl⟩
    obtain ⟨ad2, rfl, had2, g0, g1⟩ := two_get ver_two (rd_of_own ha.own) (k := p) (by have := ha.len; omega) (u := .int .i64 u.t) (v := .slice u.A 40 u.c) (by rw [hu]; rfl)
    have hbx := HB5.out.1.next hb2 HB5.out.1.lt
    obtain ⟨d0, d1⟩ := hbx.c2
    have hyr := HX.out.rng y (by rw [hyc]; rfl)
    have HE := Lib.hid (And.intro hb2' (And.intro hb2 (And.intro hR2 hlt2)))
    have HNE := Lib.hid (show (∀ y, f y = none) → True = False from fun hn => by rw [hn y] at hyc; cases hyc)
    have w0 : wrap64 (y - x.f) = y - x.f := by have := HG.out; unfold wrap64; omega
    have w1' : wrap64 ((p : Int) + 1 - 1) = (p : Int) := by unfold wrap64; omega
    have n2 : (0 : Int) ≤ (p : Int) := by omega
    have n3 : (p : Int) < (p : Int) + 1 := by omega
    clear ha hu hbx hb2 hb2' hG2 hs2 hR2 hlt2 hyc hyr
    by_cases q0 : x.f ≤ y
    rotate_left
    · have t0 : decide (x.f ≤ y) = false := decide_eq_false q0
      go_wp2_with fail
      go_roundw
      case rel => exact ⟨left2, cnt2, HE.out.2.2.1, HE.out.1, HE.out.2.1⟩
      case measure => rw [HE.out.2.2.1.left_eq, HRR.out.1.left_eq]; exact HE.out.2.2.2
    have t0 : decide (x.f ≤ y) = true := decide_eq_true q0
    by_cases q1 : y - x.f < x.l
    rotate_left
    · have t1 : decide (y - x.f < x.l) = false := decide_eq_false q1
      go_wp2_with fail
      go_roundw
      case rel => exact ⟨left2, cnt2, HE.out.2.2.1, HE.out.1, HE.out.2.1⟩
      case measure => rw [HE.out.2.2.1.left_eq, HRR.out.1.left_eq]; exact HE.out.2.2.2
    have t1 : decide (y - x.f < x.l) = true := decide_eq_true q1
    by_cases q2 : after < u.t
    rotate_left
    · have t2 : decide (after < u.t) = false := decide_eq_false q2
      go_wp2_with fail
      go_roundw
      case rel => exact ⟨left2, cnt2, HE.out.2.2.1, HE.out.1, HE.out.2.1⟩
      case measure => rw [HE.out.2.2.1.left_eq, HRR.out.1.left_eq]; exact HE.out.2.2.2
    have t2 : decide (after < u.t) = true := decide_eq_true q2
    go_wp2_with fail
    go_ret
    exact ⟨⟨_, rfl, fun hn => by have := HNE.out hn; simp at this⟩, HE.out.1⟩
end
end Go.Proofs.YthhndleddlmgiaaGreatDoor.Tp
