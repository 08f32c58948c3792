/- Contracts of the program's functions, and laws on memory: a part of the proof of TopRoom. -/
import Derived.Test.YthhndleddlmgiaaGreatDoorZN
import Derived.Test.YthhndleddlmgiaaGreatDoorProg
import Derived.LoopTactic
import Derived.LoopN
import Derived.Lib.Hide
import Derived.Deep.DeepMust
import Derived.Laws.MakeOwn
import Derived.Laws.Entries
import Derived.WalkSpells
import Derived.WalkMore
import Derived.IntWalk
import Derived.Deep.QuietTactic
import Derived.BigQuiet
import Derived.Shelf.Abstract
namespace Go.Proofs.YthhndleddlmgiaaGreatDoor.Tp
set_option maxHeartbeats 8000000
set_option maxRecDepth 100000
set_option linter.unusedSimpArgs false
set_option linter.unusedVariables false
section
open Go.RowKit Go.Maps
def doR (s : SS) (j : Nat) (cl : CLD) (kd oh : Int) (n : Nat) (ps : List PutD) (s' : SS) (ok : Bool) : Prop :=
 (kd = 1 ∧ ok = true ∧ bgR s j cl s') ∨ (kd ≠ 1 ∧ ok = true ∧ s' = s ∧ ((kd = 2 ∨ kd = 3 ∨ kd = 4 ∨ kd = 5) → ∀ i : Nat, oh = (i : Int) → cl.bgs[i]? = none)) ∨
 (∃ (i k : Nat) (b : BG) (t : TX), oh = (i : Int) ∧ cl.bgs[i]? = some k ∧ s.bg[k]? = some b ∧ s.m.txs[k]? = some t ∧ caR s cl.asked k b t kd n ps s' ok)
section
variable {w w5 : World} {g t : Nat} {a0 a1 a2 a3 a4 : Value}
theorem tx_get {F : Foot} {sb g k e : Nat} {s : SS} (h : SchB w F sb s g) (he : s.es[k]? = some e) : ∃ b t, s.bg[k]? = some b ∧ s.m.txs[k]? = some t := by
 obtain ⟨Ft, st, gd, alv, hx⟩ := h.x
 have h1 := hx.len
 have h2 := h.b.len
 have h3 := get_lt he
 exact ⟨_, _, List.getElem?_eq_getElem (by omega), List.getElem?_eq_getElem (by omega)⟩
end
theorem do_end {w : World} {F : Foot} {sb g j : Nat} {s : SS} {cl : CLD} {kd oh : Int} {n : Nat} {ps : List PutD} {w0 : World} {xop xco xh xt : Int} {A : Option Addr} {m c : Nat} {bs : List Int} {ok : Bool} (hy : IsY w A m c bs) (hn : m ≤ 1000000) (h : ∃ s', doR s j cl kd oh n ps s' ok ∧ SchR w0 w F sb s' (g + 1)) :
  ∃ ok', caE w ok' (.returned (.tuple #[.agg #[.int .i64 xop, .int .i64 xco, .int .i64 xh, .int .i64 xt, .slice A m c], .bool ok])) ∧ ∃ s', doR s j cl kd oh n ps s' ok' ∧ SchR w0 w F sb s' (g + 1) :=
 ⟨ok, ⟨_, _, _, _, _, _, _, bs, rfl, hy, hn⟩, h⟩
theorem scDo {w : World} {F : Foot} {sb g : Nat} {s : SS} (h : SchB w F sb s g) (hg : g + 1 ≤ 700) {j : Nat} {cl : CLD} (hj : s.cls[j]? = some cl) (hlt : ∀ (i : Nat) (b : BG), s.bg[i]? = some b → b.fr < s.ev) (kd oh lba len : Int) {A : Option Addr} {n c : Nat} {ps : List PutD} (hask : cl.asked = true → ∃ (i k : Nat) (t : TX), oh = (i : Int) ∧ cl.bgs[i]? = some k ∧ s.m.txs[k]? = some t ∧ t.st ≠ 1) (hp : IsPs w A n c ps) (hn : n ≤ 20000) :
  Calls Tryz.prog 31 #[.pointer (some ⟨sb, 0, none⟩), .pointer (some ⟨sb, 2 + j * 4, none⟩), .agg #[.int .i64 kd, .int .i64 oh, .int .i64 lba, .int .i64 len, .slice A n c]] w fun e w' => ∃ ok, caE w' ok e ∧ ∃ s', doR s j cl kd oh n ps s' ok ∧ SchR w w' F sb s' (g + 1) := by
 obtain ⟨Ft, st, gd, alv, hx⟩ := h.x
 obtain ⟨g5, w1, hzw1, hw1, Bw1, bw1⟩ := alloc_of w 45 [.int .i64 kd, .int .i64 oh, .int .i64 lba, .int .i64 len, .slice A n c]
 obtain ⟨g6, w2, hzw2, hw2, Bw2, bw2⟩ := alloc_of w1 52 [.int .i64 0, .int .i64 0, .int .i64 0, .int .i64 0, .slice none 0 0]
 obtain ⟨r0, r1, r2, r3, r4⟩ := Bw2.c5
 have p0 := Bw2.free 0
 have p1 := Bw2.free 1
 have p2 := Bw2.free 2
 have p3 := Bw2.free 3
 have p4 := Bw2.free 4
 have B52 : Bk w2 g5 45 [.int .i64 kd, .int .i64 oh, .int .i64 lba, .int .i64 len, .slice A n c] := Bw1.next bw2 Bw1.lt
 obtain ⟨d0, d1, d2, d3, d4⟩ := B52.c5
 obtain ⟨w3, hw3⟩ : ∃ w3, W5 w2 g6 (.int .i64 kd) (.int .i64 0) (.int .i64 oh) (.int .i64 0) (.slice none 0 0) = w3 := ⟨_, rfl⟩
 have B63 := bk_set5 Bw2 hw3
 have b13 : Below w.heap.size w w3 := below5 (bw1.trans (bw2.mono bw1.size)) (by rw [← hzw2]; exact bw1.size) hw3
 have B53 : Bk w3 g5 45 [.int .i64 kd, .int .i64 oh, .int .i64 lba, .int .i64 len, .slice A n c] := bk_far5 B52 (Nat.ne_of_lt (by have := Bw1.lt; omega)) hw3
 obtain ⟨o0, o1, o2, o3, o4⟩ := B53.c5
 obtain ⟨x0, x1, x2, x3, x4⟩ := B63.c5
 have y0 := B63.free 0
 have y1 := B63.free 1
 have y2 := B63.free 2
 have y3 := B63.free 3
 have y4 := B63.free 4
 have hg5 : w.heap.size ≤ g5 := Nat.le_of_eq hzw1
 have hg6 : w.heap.size ≤ g6 := by rw [← hzw2]; exact bw1.size
 have h3 := h.next b13
 have hbl : cl.bgs.length ≤ 1000 := Nat.le_trans (h.num cl (List.mem_of_getElem? hj)).2 (Nat.le_trans h.big (by decide))
 have hps := hp.next b13
 obtain ⟨F3, st3, gd3, alv3, hx3⟩ := h3.x
 have H := Lib.hid (And.intro h (And.intro hg (And.intro hj (And.intro hlt (And.intro hask (And.intro hps (And.intro hn (And.intro h3 (And.intro b13 (And.intro hg6 (And.intro B63 B53)))))))))))
 have HB13 := Lib.hid b13
 have HG6 := Lib.hid hg6
 have HB63 := Lib.hid B63
 have hat := cat_any hx3 hj hbl oh
 have hbe := scBegin h3 hg hj kd oh
 have HCall := Lib.hid (fun (k e0 : Nat) (b : BG) (t : TX) (hk : s.es[k]? = some e0) (hb : s.bg[k]? = some b) (ht : s.m.txs[k]? = some t) (ha : cl.asked = true → t.st ≠ 1) (hkd : kd = 2 ∨ kd = 3 ∨ kd = 4 ∨ kd = 5) => scCall h3 hg hj hk hb ht hlt ha kd oh lba len hps hn hkd)
 unfold W5 at hw3
 clear bw1 Bw1 bw2 Bw2 h hg hj hx hlt hask hp hn B63 b13 h3 hps hx3 B52 B53 hbl hg5 hg6
 by_cases k1 : kd = 1
 · subst k1
   clear hat HCall
   go_enter Tryz.func31, Tryz.ntmps31
   go_wp2_with fail
   go_step3
   go_wp2_with fail
   refine hbe.mono ?_
   rintro e w4 ⟨⟨xco, xh, xt, rfl⟩, s', hbg, hsr⟩
   clear hbe
   have B64 : Bk w4 g6 52 [.int .i64 1, .int .i64 0, .int .i64 oh, .int .i64 0, .slice none 0 0] := hsr.bk H.out.1.inn HG6.out HB63.out
   obtain ⟨s0, s1, s2, s3, s4⟩ := B64.c5
   have t0 := B64.free 0
   have t1 := B64.free 1
   have t2 := B64.free 2
   have t3 := B64.free 3
   have t4 := B64.free 4
   obtain ⟨w5, hw5⟩ : ∃ w5, W5 w4 g6 (.int .i64 1) (.int .i64 xco) (.int .i64 xh) (.int .i64 xt) (.slice none 0 0) = w5 := ⟨_, rfl⟩
   have HE := Lib.hid (And.intro (bk_set5 B64 hw5) (show ∃ s', doR s j cl 1 oh n ps s' true ∧ SchR w w5 F sb s' (g + 1) from ⟨s', .inl ⟨rfl, rfl, hbg⟩, hsr.loc HB13.out H.out.1.inn ⟨HG6.out, HB63.out.lt⟩ (Below5A B64 (by decide) hw5)⟩))
   unfold W5 at hw5
   clear B64 hsr hbg
   go_wp2_with fail
   (try simp only [Exit.noGoto, Exit.inBlock, Exit.then, Exit.noGoto_ret])
   refine bodyPost_ret (res_ans2 rfl _ _ _ _ (by rfl) HE.out.1) rfl ?_
   exact do_end (IsY.nil _ 0 (Nat.zero_le _)) (Nat.zero_le _) HE.out.2
 · by_cases k5 : kd = 2 ∨ kd = 3 ∨ kd = 4 ∨ kd = 5
   · clear hbe
     rcases k5 with rfl | rfl | rfl | rfl
     · clear k1
       go_enter Tryz.func31, Tryz.ntmps31
       go_wp2_with fail
       go_step3
       go_wp2_with fail
       refine hat.mono ?_
       rintro e w' ⟨har, rfl⟩
       clear hat
       rcases har with ⟨i, k, x, rfl, hk, hx, rfl⟩ | ⟨e1, rfl⟩
       · obtain ⟨b, t, hb, ht⟩ := tx_get H.out.1 hx
         unfold bptr
         go_wp2_with fail
         go_step3
         go_wp2_with fail
         refine (HCall.out k x b t hx hb ht (fun q => by
          obtain ⟨i', k', t', e1, e2, e3, e4⟩ := H.out.2.2.2.2.1 q
          have ei : i' = i := by omega
          subst ei
          rw [hk] at e2
          injection e2 with e2
          subst e2
          rw [ht] at e3
          injection e3 with e3
          subst e3
          exact e4) (by decide)).mono ?_
         rintro e w4 ⟨ok, ⟨xop, xco, xh, xt, A4, n4, c4, bs4, rfl, hy4, hn4⟩, s', hca, hsr⟩
         have B64 : Bk w4 g6 52 [.int .i64 2, .int .i64 0, .int .i64 (i : Int), .int .i64 0, .slice none 0 0] := hsr.bk H.out.1.inn HG6.out HB63.out
         obtain ⟨s0, s1, s2, s3, s4⟩ := B64.c5
         have t0 := B64.free 0
         have t1 := B64.free 1
         have t2 := B64.free 2
         have t3 := B64.free 3
         have t4 := B64.free 4
         obtain ⟨w5, hw5⟩ : ∃ w5, W5 w4 g6 (.int .i64 xop) (.int .i64 xco) (.int .i64 xh) (.int .i64 xt) (.slice A4 n4 c4) = w5 := ⟨_, rfl⟩
         have HE := Lib.hid (And.intro (bk_set5 B64 hw5) (And.intro (show ∃ s', doR s j cl 2 (i : Int) n ps s' ok ∧ SchR w w5 F sb s' (g + 1) from ⟨s', .inr (.inr ⟨i, k, b, t, rfl, hk, hb, ht, hca⟩), hsr.loc HB13.out H.out.1.inn ⟨HG6.out, HB63.out.lt⟩ (Below5A B64 (by decide) hw5)⟩) (And.intro (hy4.ag ((Below5A B64 (by decide) hw5).ag (F := fun _ => False) (fun b q => q.elim))) hn4)))
         unfold W5 at hw5
         clear B64 hsr hca hy4 hn4
         go_wp2_with fail
         (try simp only [Exit.noGoto, Exit.inBlock, Exit.then, Exit.noGoto_ret])
         refine bodyPost_ret (res_ans2 rfl _ _ _ _ (by rfl) HE.out.1) rfl ?_
         exact do_end HE.out.2.2.1 HE.out.2.2.2 HE.out.2.1
       · have HE1 := Lib.hid e1
         clear e1
         go_wp2_with fail
         go_step3
         obtain ⟨w4, hw4⟩ : ∃ w4, w3.setCell ⟨g6, 1, none⟩ (.int .i64 5) = w4 := ⟨_, rfl⟩
         have B64 : Bk w4 g6 52 [.int .i64 2, .int .i64 5, .int .i64 oh, .int .i64 0, .slice none 0 0] := by rw [← hw4]; exact HB63.out.set 1 _
         obtain ⟨s0, s1, s2, s3, s4⟩ := B64.c5
         have t0 := B64.free 0
         have t1 := B64.free 1
         have t2 := B64.free 2
         have t3 := B64.free 3
         have t4 := B64.free 4
         obtain ⟨w5, hw5⟩ : ∃ w5, W5 w4 g6 (.int .i64 2) (.int .i64 5) (.int .i64 oh) (.int .i64 0) (.slice none 0 0) = w5 := ⟨_, rfl⟩
         have HE := Lib.hid (And.intro (bk_set5 B64 hw5) (SchR.same H.out.1 H.out.2.1 (below5 (below1 HB13.out HG6.out hw4) HG6.out hw5)))
         unfold W5 at hw5
         clear B64
         go_wp2_with fail
         (try simp only [Exit.noGoto, Exit.inBlock, Exit.then, Exit.noGoto_ret])
         refine bodyPost_ret (res_ans2 rfl _ _ _ _ (by rfl) HE.out.1) rfl ?_
         exact do_end (IsY.nil _ 0 (Nat.zero_le _)) (Nat.zero_le _) ⟨s, .inr (.inl ⟨by decide, rfl, rfl, fun _ => HE1.out⟩), HE.out.2⟩
     · clear k1
       go_enter Tryz.func31, Tryz.ntmps31
       go_wp2_with fail
       go_step3
       go_wp2_with fail
       refine hat.mono ?_
       rintro e w' ⟨har, rfl⟩
       clear hat
       rcases har with ⟨i, k, x, rfl, hk, hx, rfl⟩ | ⟨e1, rfl⟩
       · obtain ⟨b, t, hb, ht⟩ := tx_get H.out.1 hx
         unfold bptr
         go_wp2_with fail
         go_step3
         go_wp2_with fail
         refine (HCall.out k x b t hx hb ht (fun q => by
          obtain ⟨i', k', t', e1, e2, e3, e4⟩ := H.out.2.2.2.2.1 q
          have ei : i' = i := by omega
          subst ei
          rw [hk] at e2
          injection e2 with e2
          subst e2
          rw [ht] at e3
          injection e3 with e3
          subst e3
          exact e4) (by decide)).mono ?_
         rintro e w4 ⟨ok, ⟨xop, xco, xh, xt, A4, n4, c4, bs4, rfl, hy4, hn4⟩, s', hca, hsr⟩
         have B64 : Bk w4 g6 52 [.int .i64 3, .int .i64 0, .int .i64 (i : Int), .int .i64 0, .slice none 0 0] := hsr.bk H.out.1.inn HG6.out HB63.out
         obtain ⟨s0, s1, s2, s3, s4⟩ := B64.c5
         have t0 := B64.free 0
         have t1 := B64.free 1
         have t2 := B64.free 2
         have t3 := B64.free 3
         have t4 := B64.free 4
         obtain ⟨w5, hw5⟩ : ∃ w5, W5 w4 g6 (.int .i64 xop) (.int .i64 xco) (.int .i64 xh) (.int .i64 xt) (.slice A4 n4 c4) = w5 := ⟨_, rfl⟩
         have HE := Lib.hid (And.intro (bk_set5 B64 hw5) (And.intro (show ∃ s', doR s j cl 3 (i : Int) n ps s' ok ∧ SchR w w5 F sb s' (g + 1) from ⟨s', .inr (.inr ⟨i, k, b, t, rfl, hk, hb, ht, hca⟩), hsr.loc HB13.out H.out.1.inn ⟨HG6.out, HB63.out.lt⟩ (Below5A B64 (by decide) hw5)⟩) (And.intro (hy4.ag ((Below5A B64 (by decide) hw5).ag (F := fun _ => False) (fun b q => q.elim))) hn4)))
         unfold W5 at hw5
         clear B64 hsr hca hy4 hn4
         go_wp2_with fail
         (try simp only [Exit.noGoto, Exit.inBlock, Exit.then, Exit.noGoto_ret])
         refine bodyPost_ret (res_ans2 rfl _ _ _ _ (by rfl) HE.out.1) rfl ?_
         exact do_end HE.out.2.2.1 HE.out.2.2.2 HE.out.2.1
       · have HE1 := Lib.hid e1
         clear e1
         go_wp2_with fail
         go_step3
         obtain ⟨w4, hw4⟩ : ∃ w4, w3.setCell ⟨g6, 1, none⟩ (.int .i64 5) = w4 := ⟨_, rfl⟩
         have B64 : Bk w4 g6 52 [.int .i64 3, .int .i64 5, .int .i64 oh, .int .i64 0, .slice none 0 0] := by rw [← hw4]; exact HB63.out.set 1 _
         obtain ⟨s0, s1, s2, s3, s4⟩ := B64.c5
         have t0 := B64.free 0
         have t1 := B64.free 1
         have t2 := B64.free 2
         have t3 := B64.free 3
         have t4 := B64.free 4
         obtain ⟨w5, hw5⟩ : ∃ w5, W5 w4 g6 (.int .i64 3) (.int .i64 5) (.int .i64 oh) (.int .i64 0) (.slice none 0 0) = w5 := ⟨_, rfl⟩
         have HE := Lib.hid (And.intro (bk_set5 B64 hw5) (SchR.same H.out.1 H.out.2.1 (below5 (below1 HB13.out HG6.out hw4) HG6.out hw5)))
         unfold W5 at hw5
         clear B64
         go_wp2_with fail
         (try simp only [Exit.noGoto, Exit.inBlock, Exit.then, Exit.noGoto_ret])
         refine bodyPost_ret (res_ans2 rfl _ _ _ _ (by rfl) HE.out.1) rfl ?_
         exact do_end (IsY.nil _ 0 (Nat.zero_le _)) (Nat.zero_le _) ⟨s, .inr (.inl ⟨by decide, rfl, rfl, fun _ => HE1.out⟩), HE.out.2⟩
     · clear k1
       go_enter Tryz.func31, Tryz.ntmps31
       go_wp2_with fail
       go_step3
       go_wp2_with fail
       refine hat.mono ?_
       rintro e w' ⟨har, rfl⟩
       clear hat
       rcases har with ⟨i, k, x, rfl, hk, hx, rfl⟩ | ⟨e1, rfl⟩
       · obtain ⟨b, t, hb, ht⟩ := tx_get H.out.1 hx
         unfold bptr
         go_wp2_with fail
         go_step3
         go_wp2_with fail
         refine (HCall.out k x b t hx hb ht (fun q => by
          obtain ⟨i', k', t', e1, e2, e3, e4⟩ := H.out.2.2.2.2.1 q
          have ei : i' = i := by omega
          subst ei
          rw [hk] at e2
          injection e2 with e2
          subst e2
          rw [ht] at e3
          injection e3 with e3
          subst e3
          exact e4) (by decide)).mono ?_
         rintro e w4 ⟨ok, ⟨xop, xco, xh, xt, A4, n4, c4, bs4, rfl, hy4, hn4⟩, s', hca, hsr⟩
         have B64 : Bk w4 g6 52 [.int .i64 4, .int .i64 0, .int .i64 (i : Int), .int .i64 0, .slice none 0 0] := hsr.bk H.out.1.inn HG6.out HB63.out
         obtain ⟨s0, s1, s2, s3, s4⟩ := B64.c5
         have t0 := B64.free 0
         have t1 := B64.free 1
         have t2 := B64.free 2
         have t3 := B64.free 3
         have t4 := B64.free 4
         obtain ⟨w5, hw5⟩ : ∃ w5, W5 w4 g6 (.int .i64 xop) (.int .i64 xco) (.int .i64 xh) (.int .i64 xt) (.slice A4 n4 c4) = w5 := ⟨_, rfl⟩
         have HE := Lib.hid (And.intro (bk_set5 B64 hw5) (And.intro (show ∃ s', doR s j cl 4 (i : Int) n ps s' ok ∧ SchR w w5 F sb s' (g + 1) from ⟨s', .inr (.inr ⟨i, k, b, t, rfl, hk, hb, ht, hca⟩), hsr.loc HB13.out H.out.1.inn ⟨HG6.out, HB63.out.lt⟩ (Below5A B64 (by decide) hw5)⟩) (And.intro (hy4.ag ((Below5A B64 (by decide) hw5).ag (F := fun _ => False) (fun b q => q.elim))) hn4)))
         unfold W5 at hw5
         clear B64 hsr hca hy4 hn4
         go_wp2_with fail
         (try simp only [Exit.noGoto, Exit.inBlock, Exit.then, Exit.noGoto_ret])
         refine bodyPost_ret (res_ans2 rfl _ _ _ _ (by rfl) HE.out.1) rfl ?_
         exact do_end HE.out.2.2.1 HE.out.2.2.2 HE.out.2.1
       · have HE1 := Lib.hid e1
         clear e1
         go_wp2_with fail
         go_step3
         obtain ⟨w4, hw4⟩ : ∃ w4, w3.setCell ⟨g6, 1, none⟩ (.int .i64 5) = w4 := ⟨_, rfl⟩
         have B64 : Bk w4 g6 52 [.int .i64 4, .int .i64 5, .int .i64 oh, .int .i64 0, .slice none 0 0] := by rw [← hw4]; exact HB63.out.set 1 _
         obtain ⟨s0, s1, s2, s3, s4⟩ := B64.c5
         have t0 := B64.free 0
         have t1 := B64.free 1
         have t2 := B64.free 2
         have t3 := B64.free 3
         have t4 := B64.free 4
         obtain ⟨w5, hw5⟩ : ∃ w5, W5 w4 g6 (.int .i64 4) (.int .i64 5) (.int .i64 oh) (.int .i64 0) (.slice none 0 0) = w5 := ⟨_, rfl⟩
         have HE := Lib.hid (And.intro (bk_set5 B64 hw5) (SchR.same H.out.1 H.out.2.1 (below5 (below1 HB13.out HG6.out hw4) HG6.out hw5)))
         unfold W5 at hw5
         clear B64
         go_wp2_with fail
         (try simp only [Exit.noGoto, Exit.inBlock, Exit.then, Exit.noGoto_ret])
         refine bodyPost_ret (res_ans2 rfl _ _ _ _ (by rfl) HE.out.1) rfl ?_
         exact do_end (IsY.nil _ 0 (Nat.zero_le _)) (Nat.zero_le _) ⟨s, .inr (.inl ⟨by decide, rfl, rfl, fun _ => HE1.out⟩), HE.out.2⟩
     · clear k1
       go_enter Tryz.func31, Tryz.ntmps31
       go_wp2_with fail
       go_step3
       go_wp2_with fail
       refine hat.mono ?_
       rintro e w' ⟨har, rfl⟩
       clear hat
       rcases har with ⟨i, k, x, rfl, hk, hx, rfl⟩ | ⟨e1, rfl⟩
       · obtain ⟨b, t, hb, ht⟩ := tx_get H.out.1 hx
         unfold bptr
         go_wp2_with fail
         go_step3
         go_wp2_with fail
         refine (HCall.out k x b t hx hb ht (fun q => by
          obtain ⟨i', k', t', e1, e2, e3, e4⟩ := H.out.2.2.2.2.1 q
          have ei : i' = i := by omega
          subst ei
          rw [hk] at e2
          injection e2 with e2
          subst e2
          rw [ht] at e3
          injection e3 with e3
          subst e3
          exact e4) (by decide)).mono ?_
         rintro e w4 ⟨ok, ⟨xop, xco, xh, xt, A4, n4, c4, bs4, rfl, hy4, hn4⟩, s', hca, hsr⟩
         have B64 : Bk w4 g6 52 [.int .i64 5, .int .i64 0, .int .i64 (i : Int), .int .i64 0, .slice none 0 0] := hsr.bk H.out.1.inn HG6.out HB63.out
         obtain ⟨s0, s1, s2, s3, s4⟩ := B64.c5
         have t0 := B64.free 0
         have t1 := B64.free 1
         have t2 := B64.free 2
         have t3 := B64.free 3
         have t4 := B64.free 4
         obtain ⟨w5, hw5⟩ : ∃ w5, W5 w4 g6 (.int .i64 xop) (.int .i64 xco) (.int .i64 xh) (.int .i64 xt) (.slice A4 n4 c4) = w5 := ⟨_, rfl⟩
         have HE := Lib.hid (And.intro (bk_set5 B64 hw5) (And.intro (show ∃ s', doR s j cl 5 (i : Int) n ps s' ok ∧ SchR w w5 F sb s' (g + 1) from ⟨s', .inr (.inr ⟨i, k, b, t, rfl, hk, hb, ht, hca⟩), hsr.loc HB13.out H.out.1.inn ⟨HG6.out, HB63.out.lt⟩ (Below5A B64 (by decide) hw5)⟩) (And.intro (hy4.ag ((Below5A B64 (by decide) hw5).ag (F := fun _ => False) (fun b q => q.elim))) hn4)))
         unfold W5 at hw5
         clear B64 hsr hca hy4 hn4
         go_wp2_with fail
         (try simp only [Exit.noGoto, Exit.inBlock, Exit.then, Exit.noGoto_ret])
         refine bodyPost_ret (res_ans2 rfl _ _ _ _ (by rfl) HE.out.1) rfl ?_
         exact do_end HE.out.2.2.1 HE.out.2.2.2 HE.out.2.1
       · have HE1 := Lib.hid e1
         clear e1
         go_wp2_with fail
         go_step3
         obtain ⟨w4, hw4⟩ : ∃ w4, w3.setCell ⟨g6, 1, none⟩ (.int .i64 5) = w4 := ⟨_, rfl⟩
         have B64 : Bk w4 g6 52 [.int .i64 5, .int .i64 5, .int .i64 oh, .int .i64 0, .slice none 0 0] := by rw [← hw4]; exact HB63.out.set 1 _
         obtain ⟨s0, s1, s2, s3, s4⟩ := B64.c5
         have t0 := B64.free 0
         have t1 := B64.free 1
         have t2 := B64.free 2
         have t3 := B64.free 3
         have t4 := B64.free 4
         obtain ⟨w5, hw5⟩ : ∃ w5, W5 w4 g6 (.int .i64 5) (.int .i64 5) (.int .i64 oh) (.int .i64 0) (.slice none 0 0) = w5 := ⟨_, rfl⟩
         have HE := Lib.hid (And.intro (bk_set5 B64 hw5) (SchR.same H.out.1 H.out.2.1 (below5 (below1 HB13.out HG6.out hw4) HG6.out hw5)))
         unfold W5 at hw5
         clear B64
         go_wp2_with fail
         (try simp only [Exit.noGoto, Exit.inBlock, Exit.then, Exit.noGoto_ret])
         refine bodyPost_ret (res_ans2 rfl _ _ _ _ (by rfl) HE.out.1) rfl ?_
         exact do_end (IsY.nil _ 0 (Nat.zero_le _)) (Nat.zero_le _) ⟨s, .inr (.inl ⟨by decide, rfl, rfl, fun _ => HE1.out⟩), HE.out.2⟩
   · have n2 : ¬ kd = 2 := fun q => k5 (.inl q)
     have n3 : ¬ kd = 3 := fun q => k5 (.inr (.inl q))
     have n4 : ¬ kd = 4 := fun q => k5 (.inr (.inr (.inl q)))
     have n5 : ¬ kd = 5 := fun q => k5 (.inr (.inr (.inr q)))
     have HK := Lib.hid (And.intro k1 k5)
     clear hbe HCall k5
     go_enter Tryz.func31, Tryz.ntmps31
     go_wp2_with fail
     go_step3
     go_wp2_with fail
     refine hat.mono ?_
     rintro e w' ⟨har, rfl⟩
     clear hat
     rcases har with ⟨i, k, x, -, -, -, rfl⟩ | ⟨-, rfl⟩
     all_goals
      go_wp2_with fail
      go_step3
      obtain ⟨w4, hw4⟩ : ∃ w4, w3.setCell ⟨g6, 1, none⟩ (.int .i64 1) = w4 := ⟨_, rfl⟩
      have B64 : Bk w4 g6 52 [.int .i64 kd, .int .i64 1, .int .i64 oh, .int .i64 0, .slice none 0 0] := by rw [← hw4]; exact HB63.out.set 1 _
      obtain ⟨s0, s1, s2, s3, s4⟩ := B64.c5
      have t0 := B64.free 0
      have t1 := B64.free 1
      have t2 := B64.free 2
      have t3 := B64.free 3
      have t4 := B64.free 4
      obtain ⟨w5, hw5⟩ : ∃ w5, W5 w4 g6 (.int .i64 kd) (.int .i64 1) (.int .i64 oh) (.int .i64 0) (.slice none 0 0) = w5 := ⟨_, rfl⟩
      have HE := Lib.hid (And.intro (bk_set5 B64 hw5) (SchR.same H.out.1 H.out.2.1 (below5 (below1 HB13.out HG6.out hw4) HG6.out hw5)))
      unfold W5 at hw5
      clear B64
      go_wp2_with fail
      (try simp only [Exit.noGoto, Exit.inBlock, Exit.then, Exit.noGoto_ret])
      refine bodyPost_ret (res_ans2 rfl _ _ _ _ (by rfl) HE.out.1) rfl ?_
      exact do_end (IsY.nil _ 0 (Nat.zero_le _)) (Nat.zero_le _) ⟨s, .inr (.inl ⟨HK.out.1, rfl, rfl, fun q => absurd q HK.out.2⟩), HE.out.2⟩
end
section
open Go.RowKit Go.Maps
def stR (s : SS) (j : Nat) (cl : CLD) (r : Int) (s' : SS) : Prop :=
 (cl.ops = [] ∧ r = 14 ∧ s' = { s with ev := s.ev + 1 }) ∨
 ∃ o l s2 ok cl2, cl.ops = o :: l ∧ doR { s with ev := s.ev + 1 } j cl o.kind o.h o.n o.ps s2 ok ∧ s2.cls[j]? = some cl2 ∧ cl2.bgs = (if o.kind = 1 then cl2.bgs else cl.bgs) ∧
  ((ok = false ∧ r = 16 ∧ s' = { s2 with cls := s2.cls.set j { cl2 with asked := true } }) ∨
   (ok = true ∧ r = 0 ∧ ∃ ov' av', s' = { s2 with cls := s2.cls.set j { cl2 with ov := ov', ops := l, asked := false, av := av', na := cl2.na + 1 } }))
theorem do_cl {s s2 : SS} {j : Nat} {cl : CLD} {kd oh : Int} {n : Nat} {ps : List PutD} {ok : Bool} (hj : s.cls[j]? = some cl) (h : doR s j cl kd oh n ps s2 ok) :
  ∃ cl2, s2.cls[j]? = some cl2 ∧ cl2.ov = cl.ov ∧ cl2.av = cl.av ∧ cl2.asked = cl.asked ∧ cl2.ops = cl.ops ∧ cl2.na = cl.na ∧ cl2.bgs = (if kd = 1 then cl2.bgs else cl.bgs) := by
 have same : s2.cls = s.cls → ∃ cl2, s2.cls[j]? = some cl2 ∧ cl2.ov = cl.ov ∧ cl2.av = cl.av ∧ cl2.asked = cl.asked ∧ cl2.ops = cl.ops ∧ cl2.na = cl.na ∧ cl2.bgs = (if kd = 1 then cl2.bgs else cl.bgs) := fun e => ⟨cl, by rw [e]; exact hj, rfl, rfl, rfl, rfl, rfl, by split <;> rfl⟩
 rcases h with ⟨k1, _, ⟨_, rfl⟩ | ⟨e, bv', rfl⟩⟩ | ⟨_, _, rfl, _⟩ | ⟨i, k, b, t, _, _, _, _, hc⟩
 · exact same rfl
 · refine ⟨{ cl with bv := bv', bgs := cl.bgs ++ [s.es.length] }, by show (s.cls.set j _)[j]? = _; rw [List.getElem?_set, if_pos rfl, if_pos (get_lt hj)], rfl, rfl, rfl, rfl, rfl, ?_⟩
   rw [if_pos k1]
 · exact same rfl
 · rcases hc with ⟨_, _, rfl⟩ | ⟨_, _, r, m', _, rfl⟩ | ⟨_, r, m', t', _, _, ⟨_, _, _, rfl⟩ | ⟨_, _, rfl⟩ | ⟨_, _, rfl⟩⟩ | ⟨_, _, r, m', _, rfl | rfl⟩ <;> exact same rfl
theorem do_wait {s s2 : SS} {j : Nat} {cl : CLD} {kd oh : Int} {n : Nat} {ps : List PutD} (h : doR s j cl kd oh n ps s2 false) :
  s2.cls = s.cls ∧ kd = 4 ∧ ∃ (i k : Nat) (t : TX), oh = (i : Int) ∧ cl.bgs[i]? = some k ∧ s2.m.txs[k]? = some t ∧ t.st ≠ 1 := by
 rcases h with ⟨_, q, _⟩ | ⟨_, q, _⟩ | ⟨i, k, b, t, e1, e2, e3, e4, hc⟩
 · cases q
 · cases q
 · rcases hc with ⟨_, q, _⟩ | ⟨_, q, _⟩ | ⟨k4, r, m', t', _, ht', ⟨_, _, h2, rfl⟩ | ⟨q, _⟩ | ⟨q, _⟩⟩ | ⟨_, q, _⟩
   · cases q
   · cases q
   · exact ⟨rfl, k4, i, k, t', e1, e2, ht', by rw [h2]; decide⟩
   · cases q
   · cases q
   · cases q
section
variable {wb w w' w5 : World} {F0 F : Foot} {Ft : Nat → Foot} {L : List LcD} {sb st gd g pos ev j : Nat} {alv dp : Value} {cls : List CLD} {al es : List Nat} {bg : List BG} {m : MS} {s : SS} {c c' : CLD}
theorem SchX.recd (h : SchX w F Ft sb st dp alv cls al es bg m ev pos g) (hj : cls[j]? = some c) (hx : ClX w (Ft (3 + j)) c' m es) (k6 : Kf (fun b => b = sb) w w') (hb : Bk w' sb 71 (sccells dp st (cls.set j c') alv ev)) :
  ∃ F' Ft', SchX w' F' Ft' sb st dp alv (cls.set j c') al es bg m ev pos g ∧ Kf F w w' ∧ Sb w F F' ∧ In w' F' :=
 h.cld hj (.refl _ _) (.refl _ _) (h.fam.inn _) hx k6 hb
theorem ScX.asks (h : ScX wb w F0 L (ScP sb st gd alv cls al es bg m ev pos g)) (hj : cls[j]? = some c) {o : OpD} {l : List OpD} (ho : c.ops = o :: l) (hk : o.kind = 4) {i k : Nat} {t : TX} (e1 : o.h = (i : Nat)) (e2 : c.bgs[i]? = some k) (e3 : m.txs[k]? = some t) (e4 : t.st ≠ 1) (e : w.setCell ⟨sb, 2 + j * 4 + 3, none⟩ (.bool true) = w') :
  ScX wb w' F0 L (ScP sb st gd alv (cls.set j { c with asked := true }) al es bg m ev pos g) :=
 h.step fun F Ft hp => by
  have hp : SchX w F Ft sb st (bptr gd) alv cls al es bg m ev pos g := hp
  have hb := hp.bx.set (2 + (j * 4 + 3)) (.bool true)
  rw [sc_set (c' := { c with asked := true }) hp.cl8 hj (by decide) rfl] at hb
  exact hp.recd hj ((hp.cl j c hj).asks ho hk e1 e2 e3 e4) (by rw [← e]; exact (Kf.refl (fun b => b = sb) w).set hp.bx (by decide) (.inl rfl) _ _) (by rw [← e]; exact hb)
theorem ScX.tailc (h : ScX wb w F0 L (ScP sb st gd alv cls al es bg m ev pos g)) (hj : cls[j]? = some c) {o : OpD} {l : List OpD} (ho : c.ops = o :: l) {gq off cap : Nat} (hov : c.ov = .slice (some ⟨gq, off, none⟩) (l.length + 1) cap) {ov' : Value} (hov' : ov' = .slice (some ⟨gq, if cap = 1 then off else off + 5, none⟩) l.length (cap - 1)) (e : (w.setCell ⟨sb, 2 + j * 4, none⟩ ov').setCell ⟨sb, 2 + j * 4 + 3, none⟩ (.bool false) = w') :
  ScX wb w' F0 L (ScP sb st gd alv (cls.set j { c with ov := ov', ops := l, asked := false }) al es bg m ev pos g) :=
 h.step fun F Ft hp => by
  have hp : SchX w F Ft sb st (bptr gd) alv cls al es bg m ev pos g := hp
  have hb := hp.bx.set (2 + (j * 4 + 0)) ov'
  rw [sc_set (c' := { c with ov := ov', ops := l }) hp.cl8 hj (by decide) rfl] at hb
  have k1 : Kf (fun b => b = sb) w (w.setCell ⟨sb, 2 + j * 4, none⟩ ov') := (Kf.refl (fun b => b = sb) w).set hp.bx (by decide) (.inl rfl) _ _
  have hb2 := hb.set (2 + (j * 4 + 3)) (.bool false)
  rw [sc_set (cls := cls.set j { c with ov := ov', ops := l }) (c := { c with ov := ov', ops := l }) (c' := { c with ov := ov', ops := l, asked := false }) (by rw [List.length_set]; exact hp.cl8) (by rw [List.getElem?_set, if_pos rfl, if_pos (get_lt hj)]) (by decide) rfl, List.set_set] at hb2
  exact hp.recd hj ((hp.cl j c hj).tail ho hov hov') (by rw [← e]; exact k1.set hb (by decide) (.inl rfl) _ _) (by rw [← e]; exact hb2)
theorem ScX.answ (h : ScX wb w F0 L (ScP sb st gd alv cls al es bg m ev pos g)) (hj : cls[j]? = some c) {av' : Value} {xs ys : List Value} (ha : w.ownsRow 0 52 5 c.av c.na xs) (ho : w5.ownsRow 0 52 5 av' (c.na + 1) ys) (hg : w.grownBy w5 c.av.ownBlock) (hv : av'.ownBlock = c.av.ownBlock ∨ av'.ownBlock = some w.heap.size) (e : w5.setCell ⟨sb, 2 + j * 4 + 2, none⟩ av' = w') :
  ScX wb w' F0 L (ScP sb st gd alv (cls.set j { c with av := av', na := c.na + 1 }) al es bg m ev pos g) :=
 h.step fun F Ft hp => SchX.ansc hp hj ha ho hg hv e.symm
end
section
variable {wb w w' : World} {F0 : Foot} {L : List LcD} {sb st gd g : Nat} {alv : Value} {s : SS}
theorem ScX.evd (h : ScX wb w F0 L (ScP sb st gd alv s.cls s.es s.es s.bg s.m s.ev s.pos g)) (e : w.setCell ⟨sb, 35, none⟩ (.int .i64 ((s.ev : Int) + 1)) = w') : ScX wb w' F0 L (ScP sb st gd alv s.cls s.es s.es s.bg s.m (s.ev + 1) s.pos g) :=
 h.step fun F Ft hp => by
  obtain ⟨h1, h2⟩ := SchX.evd hp e.symm
  exact ⟨F, Ft, h1, h2, .refl _ _, h1.fam.lt⟩
theorem ScX.atB (h : ScX wb w F0 L (ScP sb st gd alv s.cls s.es s.es s.bg s.m s.ev s.pos g)) (hb : GoodB s.m s.bg s.ev) (he : s.ev ≤ g) (hn : ∀ c ∈ s.cls, c.na ≤ g ∧ c.bgs.length ≤ g) :
  ∃ F, SchB w F sb s g ∧ ∀ (w' : World) (s2 : SS) (g2 : Nat), SchR w w' F sb s2 g2 → GoodB s2.m s2.bg s2.ev ∧ s2.ev ≤ g2 ∧ (∀ c ∈ s2.cls, c.na ≤ g2 ∧ c.bgs.length ≤ g2) ∧ ∃ st2 gd2 alv2, ScX wb w' F0 L (ScP sb st2 gd2 alv2 s2.cls s2.es s2.es s2.bg s2.m s2.ev s2.pos g2) := by
 obtain ⟨F, Ft, hp, h1, h2, h3, h4⟩ := h.p
 refine ⟨F, ⟨⟨Ft, st, gd, alv, hp⟩, hb, he, hn⟩, fun w' s2 g2 hr => ?_⟩
 obtain ⟨F', ⟨⟨Ft', st2, gd2, alv2, hx⟩, b1, b2, b3⟩, k1, k2, k3⟩ := hr
 refine ⟨b1, b2, b3, st2, gd2, alv2, ?_⟩
 have h0 : ScX wb w F0 L (fun w2 F2 Ft2 => F2 = F) := ⟨⟨F, Ft, rfl, h1, h2, h3, h4⟩, h.bk, h.ge, h.nd⟩
 refine h0.step fun F2 Ft2 q => ?_
 subst q
 exact ⟨F', Ft', hx, k1, k2, k3⟩
end
theorem num_rec {P : CLD → Prop} {cls : List CLD} {j : Nat} {c' : CLD} (h : ∀ c ∈ cls, P c) (hc : P c') : ∀ c ∈ cls.set j c', P c := fun c hm => by
 rcases List.mem_or_eq_of_mem_set hm with q | rfl
 · exact h c q
 · exact hc
theorem st_fin {w w' : World} {F : Foot} {L : List LcD} {sb st gd g j : Nat} {alv : Value} {s s2 : SS} {cl cl2 : CLD} {o : OpD} {l : List OpD} {ov' av' : Value}
  (X : ScX w w' F L (ScP sb st gd alv (s2.cls.set j { cl2 with ov := ov', ops := l, asked := false, av := av', na := cl2.na + 1 }) s2.es s2.es s2.bg s2.m s2.ev s2.pos (g + 1 + 1))) (b1 : GoodB s2.m s2.bg s2.ev) (b2 : s2.ev ≤ g + 1 + 1) (b3 : ∀ c ∈ s2.cls, c.na ≤ g + 1 + 1 ∧ c.bgs.length ≤ g + 1 + 1) (hj : s2.cls[j]? = some cl2) (ho : cl.ops = o :: l) (hd : doR { s with ev := s.ev + 1 } j cl o.kind o.h o.n o.ps s2 true) (hb : cl2.bgs = (if o.kind = 1 then cl2.bgs else cl.bgs)) (hg : g + 1 + 1 ≤ 700) (hna : cl2.na + 1 ≤ g + 1 + 1) :
  ∃ s', stR s j cl 0 s' ∧ SchR w w' F sb s' (g + 1 + 1) :=
 ⟨{ s2 with cls := s2.cls.set j { cl2 with ov := ov', ops := l, asked := false, av := av', na := cl2.na + 1 } }, .inr ⟨o, l, s2, true, cl2, ho, hd, hj, hb, .inr ⟨rfl, rfl, ov', av', rfl⟩⟩, ScX.fin (s := { s2 with cls := s2.cls.set j { cl2 with ov := ov', ops := l, asked := false, av := av', na := cl2.na + 1 } }) X b1 b2 (num_rec (P := fun c => c.na ≤ g + 1 + 1 ∧ c.bgs.length ≤ g + 1 + 1) b3 ⟨hna, (b3 cl2 (List.mem_of_getElem? hj)).2⟩)⟩
def StS (sb g7 : Nat) (cs vs : List Value) (w : World) : Prop := Bk w sb 71 cs ∧ Bk w g7 52 vs
theorem StS.next {w w' : World} {sb g7 : Nat} {cs vs : List Value} (h : StS sb g7 cs vs w) (hb : Below w.heap.size w w') : StS sb g7 cs vs w' := ⟨h.1.next hb h.1.lt, h.2.next hb h.2.lt⟩
theorem StS.grown {w w' : World} {sb g7 B n : Nat} {cs vs xs : List Value} {v : Value} (h : StS sb g7 cs vs w) (ho : w.ownsRow B 52 5 v n xs) (hG : w.grownBy w' v.ownBlock) (hn : v.ownBlock ≠ some g7) : StS sb g7 cs vs w' :=
 ⟨(hG.block _ h.1.lt (fun e => by
  obtain ⟨_, _, h1⟩ := own_at ho e.symm
  exact absurd (heap_ty h1 h.1) (by decide))).trans h.1, (hG.block _ h.2.lt (fun e => hn e.symm)).trans h.2⟩
theorem ops_cons {w : World} {F : Foot} {c : CLD} {m : MS} {es : List Nat} (h : ClX w F c m es) {o : OpD} {l : List OpD} (ho : c.ops = o :: l) : ∃ gq off cap, c.ov = .slice (some ⟨gq, off, none⟩) (l.length + 1) cap ∧ l.length + 1 ≤ cap ∧
  w.cell? ⟨gq, off, none⟩ = some (.int .i64 o.kind) ∧ w.cell? ⟨gq, off + 1, none⟩ = some (.int .i64 o.h) ∧ w.cell? ⟨gq, off + 2, none⟩ = some (.int .i64 o.lba) ∧ w.cell? ⟨gq, off + 3, none⟩ = some (.int .i64 o.len) ∧ w.cell? ⟨gq, off + 4, none⟩ = some (.slice o.A o.n o.c) := by
 have hops := h.ops
 rw [ho] at hops
 rcases hops.one with ⟨_, q⟩ | ⟨gq, off, cap, cur, hv, _, hc, _, _, hx⟩
 · cases q
 · have at_ : ∀ j u, j < 5 → o.cells[j]? = some u → w.cell? ⟨gq, off + j, none⟩ = some u := fun j u hj hu => hx j u (by rw [show (o :: l).flatMap OpD.cells = o.cells ++ l.flatMap OpD.cells from rfl, List.getElem?_append_left (by rw [op_five]; exact hj)]; exact hu)
   exact ⟨gq, off, cap, hv, hc, at_ 0 _ (by decide) rfl, at_ 1 _ (by decide) rfl, at_ 2 _ (by decide) rfl, at_ 3 _ (by decide) rfl, at_ 4 _ (by decide) rfl⟩
end
section
open Go.RowKit Go.Maps
def stE (r : Int) (e : Ending) : Prop := ∃ av, e = .returned (.tuple #[av, .int .i64 r])
theorem scStep_none {w : World} {F : Foot} {sb g : Nat} {s : SS} (h : SchB w F sb s g) {k : Int} (hk : k < 1 ∨ 8 < k) :
  Calls Tryz.prog 17 #[.pointer (some ⟨sb, 0, none⟩), .int .i64 k] w fun e w' => stE 1 e ∧ Below w.heap.size w w' := by
 obtain ⟨g4, w1, hzw1, hw1, Bw1, bw1⟩ := alloc_of w 52 [.int .i64 0, .int .i64 0, .int .i64 0, .int .i64 0, .slice none 0 0]
 obtain ⟨Ft, st, gd, alv, hx⟩ := (h.next bw1).x
 have hc := sclient_no hx.at_st hk
 obtain ⟨r0, r1, r2, r3, r4⟩ := Bw1.c5
 have p0 := Bw1.free 0
 have p1 := Bw1.free 1
 have p2 := Bw1.free 2
 have p3 := Bw1.free 3
 have p4 := Bw1.free 4
 obtain ⟨w2, hw2⟩ : ∃ w2, W5 w1 g4 (.int .i64 0) (.int .i64 0) (.int .i64 0) (.int .i64 0) (.slice none 0 0) = w2 := ⟨_, rfl⟩
 have HE := Lib.hid (And.intro (bk_set5 Bw1 hw2) (below5 bw1 (Nat.le_of_eq hzw1) hw2))
 unfold W5 at hw2
 clear h hx hk Bw1 bw1
 go_enter Tryz.func17, Tryz.ntmps17
 go_wp2_with fail
 refine hc.mono ?_
 rintro e w' ⟨rfl, rfl⟩
 clear hc
 go_wp2_with fail
 refine bodyPost_ret (res_ans2 rfl _ _ _ _ (by rfl) HE.out.1) rfl ?_
 exact ⟨⟨_, rfl⟩, HE.out.2⟩
theorem scStep {w : World} {F : Foot} {sb g : Nat} {s : SS} (h : SchB w F sb s g) (hg : g + 1 + 1 ≤ 700) {j : Nat} {cl : CLD} (hj : s.cls[j]? = some cl) (hsm : ∀ o ∈ cl.ops, o.n ≤ 20000) :
  Calls Tryz.prog 17 #[.pointer (some ⟨sb, 0, none⟩), .int .i64 ((j : Int) + 1)] w fun e w' => ∃ r, stE r e ∧ ∃ s', stR s j cl r s' ∧ SchR w w' F sb s' (g + 1 + 1) := by
 obtain ⟨xi, xz, hxi, hxz, hx5, hx56, hxc⟩ := infoAnsS
 obtain ⟨Ft, st, gd, alv, hx⟩ := h.x
 have hc8 := h.c8
 obtain ⟨g4, w1, hzw1, hw1, Bw1, bw1⟩ := alloc_of w 52 [.int .i64 0, .int .i64 0, .int .i64 0, .int .i64 0, .slice none 0 0]
 have X1 := (ScX.of hx).push bw1 Bw1 (Nat.le_of_eq hzw1)
 obtain ⟨F1, Ft1, hx1⟩ := X1.sch
 have hc := sclient_yes hx1.at_st (by rw [← hc8]; exact get_lt hj)
 have c35 := hx1.at_ev
 have f35 := hx1.bx.free 35
 have m2 := sc_num (ev := s.ev) (Nat.le_trans h.ev (Nat.le_trans h.big (by decide)))
 obtain ⟨w2, hw2⟩ : ∃ w2, w1.setCell ⟨sb, 35, none⟩ (.int .i64 ((s.ev : Int) + 1)) = w2 := ⟨_, rfl⟩
 have X2 := X1.evd hw2
 obtain ⟨F2, Ft2, hx2⟩ := X2.sch
 obtain ⟨z0, z1, z2, z3⟩ := hx2.cl1 hj
 have hcl2 := hx2.cl j cl hj
 have H := Lib.hid (And.intro h (And.intro hg (And.intro hj (And.intro hsm X2))))
 clear h hg hx hx1 hx2 X1 X2 bw1 Bw1 hc8
 match hops : cl.ops with
 | [] =>
   obtain ⟨oA, oc, hov, -⟩ := hcl2.ops.shape
   rw [hops] at hov
   rw [hov] at z0
   have B4 : Bk w2 g4 52 [.int .i64 0, .int .i64 0, .int .i64 0, .int .i64 0, .slice none 0 0] := H.out.2.2.2.2.bkAt (i := 0) rfl
   obtain ⟨r0, r1, r2, r3, r4⟩ := B4.c5
   have p0 := B4.free 0
   have p1 := B4.free 1
   have p2 := B4.free 2
   have p3 := B4.free 3
   have p4 := B4.free 4
   obtain ⟨w3, hw3⟩ : ∃ w3, W5 w2 g4 (.int .i64 0) (.int .i64 0) (.int .i64 0) (.int .i64 0) (.slice none 0 0) = w3 := ⟨_, rfl⟩
   have X3 := H.out.2.2.2.2.set (i := 0) rfl (Below5A B4 (by decide) hw3) (bk_set5 B4 hw3)
   have HE := Lib.hid (And.intro (bk_set5 B4 hw3) (show SchR w w3 F sb { s with ev := s.ev + 1 } (g + 1 + 1) from SchR.up (ScX.fin (s := { s with ev := s.ev + 1 }) (X3.up (Nat.le_of_succ_le H.out.2.1)) H.out.1.b.next (Nat.succ_le_succ H.out.1.ev) (co_num (s := s) H.out.1)) H.out.2.1))
   have HR := Lib.hid (show stR s j cl 14 { s with ev := s.ev + 1 } from .inl ⟨hops, rfl, rfl⟩)
   unfold W5 at hw3
   clear B4 X3 hcl2 hops hsm z1 z2 z3
   go_enter Tryz.func17, Tryz.ntmps17
   go_wp2_with fail
   refine hc.mono ?_
   rintro e w' ⟨rfl, rfl⟩
   clear hc
   go_wp2_with fail
   refine bodyPost_ret (res_ans2 rfl _ _ _ _ (by rfl) HE.out.1) rfl ?_
   exact ⟨14, ⟨_, rfl⟩, _, HR.out, HE.out.2⟩
 | o :: l =>
   obtain ⟨gq, off, cap, hov, hcap, o0, o1, o2, o3, o4⟩ := ops_cons hcl2 hops
   rw [hov] at z0
   have nu1 : (1 : Int) ≤ (l.length : Int) + 1 := by omega
   have nu2 : (l.length : Int) + 1 ≤ (cap : Int) := by omega
   have nu3 : (1 : Int) ≤ (cap : Int) := by omega
   have nu4 : ¬ ((l.length : Int) + 1 = 0) := by omega
   have nu5 : (0 : Int) < (l.length : Int) + 1 := by omega
   have X2 := (H.out.2.2.2.2).up (Nat.le_of_succ_le H.out.2.1)
   obtain ⟨FB, hB2, hatB⟩ := ScX.atB (s := { s with ev := s.ev + 1 }) X2 H.out.1.b.next (show s.ev + 1 ≤ g + 1 from Nat.succ_le_succ H.out.1.ev) (co_num (s := s) H.out.1)
   have hdo := scDo hB2 H.out.2.1 H.out.2.2.1 (fun i b hb => Nat.lt_succ_of_le (H.out.1.b.ev i b hb).1) o.kind o.h o.lba o.len (A := o.A) (n := o.n) (c := o.c) (ps := o.ps)
    (fun q => by
     obtain ⟨o', l', e1, _, i, k, t, e2, e3, e4, e5⟩ := hcl2.ask q
     rw [hops] at e1
     injection e1 with e1 _
     subst e1
     exact ⟨i, k, t, e2, e3, e4, e5⟩) (hcl2.puts o (by rw [hops]; exact List.mem_cons_self)) (H.out.2.2.2.1 o (by rw [hops]; exact List.mem_cons_self))
   have HA := Lib.hid hatB
   have HO := Lib.hid (And.intro hops hov)
   clear X2 hB2 hatB hcl2 hops hsm hov z1 z2 z3
   go_enter Tryz.func17, Tryz.ntmps17
   go_wp2_with fail
   refine hc.mono ?_
   rintro e w' ⟨rfl, rfl⟩
   clear hc
   go_wp2_with fail
   refine hdo.mono ?_
   rintro e w3 ⟨ok, ⟨xop, xco, xh, xt, A3, n3, k3, bs3, rfl, hy3, hn3⟩, s2, hdr, hsr⟩
   obtain ⟨b1, b2, b3, st2, gd2, alv2, X3⟩ := HA.out w3 s2 _ hsr
   obtain ⟨cl2, hj2, q1, q2, q3, q4, q5, q6⟩ := do_cl (s := { s with ev := s.ev + 1 }) H.out.2.2.1 hdr
   obtain ⟨g7, w4, hzw4, hw4, Bw4, bw4⟩ := alloc_of w3 52 [.int .i64 0, .int .i64 0, .int .i64 0, .int .i64 0, .slice none 0 0]
   have X4 := X3.push bw4 Bw4 (Nat.le_of_eq hzw4)
   obtain ⟨r0, r1, r2, r3, r4⟩ := Bw4.c5
   have p0 := Bw4.free 0
   have p1 := Bw4.free 1
   have p2 := Bw4.free 2
   have p3 := Bw4.free 3
   have p4 := Bw4.free 4
   obtain ⟨w5, hw5⟩ : ∃ w5, W5 w4 g7 (.int .i64 xop) (.int .i64 xco) (.int .i64 xh) (.int .i64 xt) (.slice A3 n3 k3) = w5 := ⟨_, rfl⟩
   have X5 := X4.set (i := 1) rfl (Below5A Bw4 (by decide) hw5) (bk_set5 Bw4 hw5)
   have hy5 := (hy3.ag (F := fun _ => False) (.of_below bw4)).ag ((Below5A Bw4 (by decide) hw5).ag (F := fun _ => False) (fun b q => q.elim))
   obtain ⟨F5, Ft5, hx5⟩ := X5.sch
   obtain ⟨y0, y1, y2, y3⟩ := hx5.cl1 hj2
   rw [q1, HO.out.2] at y0
   have fb := hx5.bx.free (2 + j * 4)
   have fb3 := hx5.bx.free (2 + j * 4 + 3)
   have H5 := Lib.hid (And.intro X5 (And.intro hj2 (And.intro b1 (And.intro b2 (And.intro b3 (And.intro hdr (And.intro hy5 hn3)))))))
   have HQ := Lib.hid (And.intro q1 (And.intro q2 (And.intro q3 (And.intro q4 (And.intro q5 q6)))))
   unfold W5 at hw5
   clear hdo hsr X3 X4 X5 hx5 hj2 b1 b2 b3 hdr hy3 hy5 hn3 Bw4 bw4 q1 q2 q3 q4 q5 q6 z0
   cases ok with
   | false =>
     obtain ⟨_, k4, i, k, t, e1, e2, e3, e4⟩ := do_wait H5.out.2.2.2.2.2.1
     obtain ⟨w6, hw6⟩ : ∃ w6, w5.setCell ⟨sb, 2 + j * 4 + 3, none⟩ (.bool true) = w6 := ⟨_, rfl⟩
     have X6 := H5.out.1.asks H5.out.2.1 (HQ.out.2.2.2.1.trans HO.out.1) k4 e1 (by rw [HQ.out.2.2.2.2.2, if_neg (by rw [k4]; decide)]; exact e2) e3 e4 hw6
     have B4 : Bk w6 g4 52 [.int .i64 0, .int .i64 0, .int .i64 0, .int .i64 0, .slice none 0 0] := X6.bkAt (i := 0) rfl
     obtain ⟨t0, t1, t2, t3, t4⟩ := B4.c5
     have u0 := B4.free 0
     have u1 := B4.free 1
     have u2 := B4.free 2
     have u3 := B4.free 3
     have u4 := B4.free 4
     obtain ⟨w7, hw7⟩ : ∃ w7, W5 w6 g4 (.int .i64 0) (.int .i64 0) (.int .i64 0) (.int .i64 0) (.slice none 0 0) = w7 := ⟨_, rfl⟩
     have X7 := X6.set (i := 0) rfl (Below5A B4 (by decide) hw7) (bk_set5 B4 hw7)
     have HE := Lib.hid (And.intro (bk_set5 B4 hw7) (show SchR w w7 F sb { s2 with cls := s2.cls.set j { cl2 with asked := true } } (g + 1 + 1) from ScX.fin (s := { s2 with cls := s2.cls.set j { cl2 with asked := true } }) X7 H5.out.2.2.1 H5.out.2.2.2.1 (num_rec (P := fun c => c.na ≤ g + 1 + 1 ∧ c.bgs.length ≤ g + 1 + 1) H5.out.2.2.2.2.1 (H5.out.2.2.2.2.1 cl2 (List.mem_of_getElem? H5.out.2.1)))))
     have HR := Lib.hid (show stR s j cl 16 { s2 with cls := s2.cls.set j { cl2 with asked := true } } from .inr ⟨o, l, s2, false, cl2, HO.out.1, H5.out.2.2.2.2.2.1, H5.out.2.1, HQ.out.2.2.2.2.2, .inl ⟨rfl, rfl, rfl⟩⟩)
     unfold W5 at hw7
     clear e1 e2 e3 e4 k4 X6 X7 B4 nu1 nu2 nu3 nu4 nu5
     go_wp2_with fail
     refine bodyPost_ret (res_ans2 rfl _ _ _ _ (by rfl) HE.out.1) rfl ?_
     exact ⟨16, ⟨_, rfl⟩, _, HR.out, HE.out.2⟩
   | true =>
     by_cases hc1 : cap = 1
     · subst hc1
       have HL0 := Lib.hid (show l.length = 0 by omega)
       obtain ⟨w6, hw6⟩ : ∃ w6, (w5.setCell ⟨sb, 2 + j * 4, none⟩ (.slice (some ⟨gq, off, none⟩) 0 (0))).setCell ⟨sb, 2 + j * 4 + 3, none⟩ (.bool false) = w6 := ⟨_, rfl⟩
       have X6 := H5.out.1.tailc H5.out.2.1 (HQ.out.2.2.2.1.trans HO.out.1) (HQ.out.1.trans HO.out.2) (ov' := .slice (some ⟨gq, off, none⟩) 0 (0)) (by first | rw [if_neg hc1] | rw [if_pos rfl, HL0.out]) hw6
       have HJ6 := Lib.hid (show (s2.cls.set j { cl2 with ov := .slice (some ⟨gq, off, none⟩) 0 (0), ops := l, asked := false })[j]? = some { cl2 with ov := .slice (some ⟨gq, off, none⟩) 0 (0), ops := l, asked := false } by rw [List.getElem?_set, if_pos rfl, if_pos (get_lt H5.out.2.1)])
       have HX6 := Lib.hid X6
       obtain ⟨F5, Ft5, hx5⟩ := H5.out.1.sch
       have HY6 := Lib.hid (H5.out.2.2.2.2.2.2.1.ag ((show Kf (fun b => b = sb) w5 w6 by rw [← hw6]; exact ((Kf.refl (fun b => b = sb) w5).set hx5.bx (by decide) (.inl rfl) _ _).set (hx5.bx.set _ _) (by decide) (.inl rfl) _ _).ag (F := fun _ => False) (fun b q => q.elim)))
       clear hx5
       obtain ⟨F6, Ft6, hx6⟩ := X6.sch
       obtain ⟨xs8, ha6⟩ := (hx6.cl j _ HJ6.out).ans
       obtain ⟨aA, ac, hav⟩ := own_shape ha6
       have hav2 : cl2.av = .slice aA cl2.na ac := hav
       have HAV := Lib.hid hav2
       have HR6 := Lib.hid (show w6.ownsRow 0 52 5 (.slice aA cl2.na ac) cl2.na xs8 from hav2 ▸ ha6)
       have B76 : Bk w6 g7 52 [.int .i64 xop, .int .i64 xco, .int .i64 xh, .int .i64 xt, .slice A3 n3 k3] := X6.bkAt (i := 1) rfl
       obtain ⟨cs, ecs⟩ : ∃ cs, sccells (bptr gd2) st2 (s2.cls.set j { cl2 with ov := .slice (some ⟨gq, off, none⟩) 0 (0), ops := l, asked := false }) alv2 s2.ev = cs := ⟨_, rfl⟩
       have HS6 := Lib.hid (show StS sb g7 cs [.int .i64 xop, .int .i64 xco, .int .i64 xh, .int .i64 xt, .slice A3 n3 k3] w6 from ⟨by rw [← ecs]; exact hx6.bx, B76⟩)
       have ecj : cs[2 + (j * 4 + 2)]? = some (.slice aA cl2.na ac) := by rw [← ecs, ← hav2]; exact sc_at hx6.cl8 HJ6.out (by decide) rfl
       have KS := Lib.hid (fun (w' : World) (hS : StS sb g7 cs [.int .i64 xop, .int .i64 xco, .int .i64 xh, .int .i64 xt, .slice A3 n3 k3] w') => And.intro (show w'.cell? ⟨sb, 2 + j * 4 + 2, none⟩ = some (.slice aA cl2.na ac) from Bk.at' hS.1 ecj) (cells_five hS.2))
       have HN := Lib.hid (show cl2.na ≤ 702 from Nat.le_trans (H5.out.2.2.2.2.1 cl2 (List.mem_of_getElem? H5.out.2.1)).1 (Nat.le_trans H.out.2.1 (by decide)))
       clear X6 hx6 ha6 hav hav2 B76 ecs ecj
       go_wp2_with fail
       have Kq := KS
       refine anyM_start (StS sb g7 cs [.int .i64 xop, .int .i64 xco, .int .i64 xh, .int .i64 xt, .slice A3 n3 k3]) [10] (by kernel_rfl) (⟨HS6.out.1.drew, HS6.out.2.drew⟩) (fun hHeld => ?_)
       refine kR 0 ?_; refine kR 1 ?_; refine kR 2 ?_; refine kR 3 ?_
       refine kM 4 ?_; refine kM 5 ?_
       refine rM 6 (fun K hK => ?_)
       obtain ⟨w8, hw8⟩ : ∃ w8, w6.drew.alloc (.cells #[.int .i64 xop, .int .i64 xco, .int .i64 xh, .int .i64 xt, .slice A3 n3 k3] 52) = w8 := ⟨_, rfl⟩
       have hB8 : Bk w8 w6.heap.size 52 [.int .i64 xop, .int .i64 xco, .int .i64 xh, .int .i64 xt, .slice A3 n3 k3] := by rw [← hw8]; exact Bk.new w6.drew _ _
       have hb68 : Below w6.heap.size w6 w8 := by rw [← hw8]; exact (bdrew (Below.refl _ _)).trans ((Below.refl w6.drew.heap.size w6.drew).alloc (Nat.le_refl _) _)
       have hS8 := StS.next HS6.out hb68
       have HY8 := Lib.hid (HY6.out.ag (F := fun _ => False) (.of_below hb68))
       have H8 := Lib.hid (And.intro hB8 (And.intro (HX6.out.next hb68) (own_bel' HR6.out hb68)))
       go_simp
       try rw [hw8]
       clear hB8 hb68
       refine hK.out _ _ (fun _ _ => hS8) ?_
       clear hK K hHeld
       have hHeld := hS8
       try simp only [Act.put, List.setIfInBounds_toArray, List.set_cons_zero, List.set_cons_succ]
       refine rM 7 (fun K hK => ?_)
       refine if_wanted rfl (wp_appM _ _ _ 66 rfl 0 52 xi xz 5 56 Tryz.underlying66 hxi hxz hx5 hx56 hxc (by decide) (.slice aA cl2.na ac) cl2.na xs8 (by rfl) (by exact H8.out.2.2) w8.heap.size (some ⟨w6.heap.size, 0, none⟩) 1 1 [.int .i64 xop, .int .i64 xco, .int .i64 xh, .int .i64 xt, .slice A3 n3 k3] (by rfl) rfl H8.out.1.rd (by intro u hu; simp at hu; rcases hu with rfl | rfl | rfl | rfl | rfl <;> rfl) (Nat.le_trans (Nat.add_le_add_right HN.out 1) (by decide)) (Nat.le_trans (Nat.mul_le_mul_right 56 (Nat.add_le_add_right HN.out 1)) (by decide)) (Nat.zero_le _) ?_)
       intro v9 w9 hO9 hG9 hv9
       obtain ⟨A9, c9, rfl⟩ := own_shape hO9
       obtain ⟨F8, Ft8, hx8⟩ := H8.out.2.1.sch
       have hb9 := own_frz hx8 H8.out.2.2 (by decide) hG9
       have hng : (Value.slice aA cl2.na ac).ownBlock ≠ some g7 := fun q => by
        obtain ⟨Fz, Ftz, hp, _, _, _, h4⟩ := H8.out.2.1.p
        exact h4 _ (List.mem_of_getElem? (i := 1) rfl) ((SchX.fam hp).sub _ _ ((SchX.cl hp j _ HJ6.out).fa g7 (show cl2.av.ownBlock = some g7 from HAV.out.symm ▸ q)))
       have hS9 := StS.grown hHeld H8.out.2.2 hG9 hng
       have z9 : w9.cell? ⟨sb, 2 + j * 4 + 2, none⟩ = some cl2.av := Bk.at' hb9 (sc_at (i := 2) hx8.cl8 HJ6.out (by decide) rfl)
       have fr9 := hb9.free (2 + j * 4 + 2)
       obtain ⟨w10, hw10⟩ : ∃ w10, w9.setCell ⟨sb, 2 + j * 4 + 2, none⟩ (.slice A9 (cl2.na + 1) c9) = w10 := ⟨_, rfl⟩
       have H10 := Lib.hid (ScX.answ H8.out.2.1 HJ6.out (show _ from HAV.out.symm ▸ H8.out.2.2) hO9 (show _ from HAV.out.symm ▸ hG9) (show _ from HAV.out.symm ▸ hv9) hw10)
       have k89 : Kf (fun b => (Value.slice aA cl2.na ac).ownBlock = some b) w8 w9 := (Kf.refl _ w8).grown H8.out.2.2 hG9 (fun g q => .inl ⟨q, by decide⟩)
       have k910 : Kf (fun b => b = sb) w9 w10 := by rw [← hw10]; exact (Kf.refl (fun b => b = sb) w9).set hb9 (by decide) (.inl rfl) _ _
       have HY10 := Lib.hid ((HY8.out.ag (k89.ag (F := fun _ => False) (fun b q => q.elim))).ag (k910.ag (F := fun _ => False) (fun b q => q.elim)))
       clear hO9 hG9 hv9 hx8 hb9 k89 k910 hng
       refine hK.out _ _ (fun _ _ => hS9) ?_
       clear hK K hHeld
       have hHeld := hS9
       try simp only [Act.put, List.setIfInBounds_toArray, List.set_cons_zero, List.set_cons_succ]
       refine kR 8 ?_; refine kR 9 ?_
       refine rM 10 (fun K hK => ?_)
       go_simp
       try rw [hw10]
       refine hK.out _ _ (fun h => absurd (by decide) h) ?_
       clear hK K
       try simp only [Act.put, List.setIfInBounds_toArray, List.set_cons_zero, List.set_cons_succ]
       refine anyM_done (by kernel_rfl) ?_ _
       clear Kq
       have B710 : Bk w10 g7 52 [.int .i64 xop, .int .i64 xco, .int .i64 xh, .int .i64 xt, .slice A3 n3 k3] := H10.out.bkAt (i := 1) rfl
       obtain ⟨d0, d1, d2, d3, d4⟩ := B710.c5
       have hke := kept_any xop xco xh xt A3 n3 k3 bs3 w10 HY10.out H5.out.2.2.2.2.2.2.2
       clear B710
       go_wp2_with fail
       refine hke.mono ?_
       rintro e w11 ⟨⟨A11, c11, rfl⟩, hb11⟩
       have X11 := H10.out.next hb11
       have B411 : Bk w11 g4 52 [.int .i64 0, .int .i64 0, .int .i64 0, .int .i64 0, .slice none 0 0] := X11.bkAt (i := 0) rfl
       obtain ⟨t0, t1, t2, t3, t4⟩ := B411.c5
       have u0 := B411.free 0
       have u1 := B411.free 1
       have u2 := B411.free 2
       have u3 := B411.free 3
       have u4 := B411.free 4
       obtain ⟨w12, hw12⟩ : ∃ w12, W5 w11 g4 (.int .i64 xop) (.int .i64 xco) (.int .i64 xh) (.int .i64 xt) (.slice A11 n3 c11) = w12 := ⟨_, rfl⟩
       have X12 := X11.set (i := 0) rfl (Below5A B411 (by decide) hw12) (bk_set5 B411 hw12)
       rw [List.set_set] at X12
       have HE := Lib.hid (And.intro (bk_set5 B411 hw12) (st_fin X12 H5.out.2.2.1 H5.out.2.2.2.1 H5.out.2.2.2.2.1 H5.out.2.1 HO.out.1 H5.out.2.2.2.2.2.1 HQ.out.2.2.2.2.2 (s := s) H.out.2.1 (by rw [HQ.out.2.2.2.2.1]; exact Nat.le_succ_of_le (Nat.succ_le_succ (H.out.1.num cl (List.mem_of_getElem? H.out.2.2.1)).1))))
       unfold W5 at hw12
       clear hke X11 X12 B411 hb11 d0 d1 d2 d3 d4
       go_wp2_with fail
       refine bodyPost_ret (res_ans2 rfl _ _ _ _ (by rfl) HE.out.1) rfl ?_
       exact ⟨0, ⟨_, rfl⟩, HE.out.2⟩
     · skip
       obtain ⟨w6, hw6⟩ : ∃ w6, (w5.setCell ⟨sb, 2 + j * 4, none⟩ (.slice (some ⟨gq, off + 5, none⟩) l.length (cap - 1))).setCell ⟨sb, 2 + j * 4 + 3, none⟩ (.bool false) = w6 := ⟨_, rfl⟩
       have X6 := H5.out.1.tailc H5.out.2.1 (HQ.out.2.2.2.1.trans HO.out.1) (HQ.out.1.trans HO.out.2) (ov' := .slice (some ⟨gq, off + 5, none⟩) l.length (cap - 1)) (by first | rw [if_neg hc1] | rw [if_pos rfl, HL0.out]) hw6
       have HJ6 := Lib.hid (show (s2.cls.set j { cl2 with ov := .slice (some ⟨gq, off + 5, none⟩) l.length (cap - 1), ops := l, asked := false })[j]? = some { cl2 with ov := .slice (some ⟨gq, off + 5, none⟩) l.length (cap - 1), ops := l, asked := false } by rw [List.getElem?_set, if_pos rfl, if_pos (get_lt H5.out.2.1)])
       have HX6 := Lib.hid X6
       obtain ⟨F5, Ft5, hx5⟩ := H5.out.1.sch
       have HY6 := Lib.hid (H5.out.2.2.2.2.2.2.1.ag ((show Kf (fun b => b = sb) w5 w6 by rw [← hw6]; exact ((Kf.refl (fun b => b = sb) w5).set hx5.bx (by decide) (.inl rfl) _ _).set (hx5.bx.set _ _) (by decide) (.inl rfl) _ _).ag (F := fun _ => False) (fun b q => q.elim)))
       clear hx5
       obtain ⟨F6, Ft6, hx6⟩ := X6.sch
       obtain ⟨xs8, ha6⟩ := (hx6.cl j _ HJ6.out).ans
       obtain ⟨aA, ac, hav⟩ := own_shape ha6
       have hav2 : cl2.av = .slice aA cl2.na ac := hav
       have HAV := Lib.hid hav2
       have HR6 := Lib.hid (show w6.ownsRow 0 52 5 (.slice aA cl2.na ac) cl2.na xs8 from hav2 ▸ ha6)
       have B76 : Bk w6 g7 52 [.int .i64 xop, .int .i64 xco, .int .i64 xh, .int .i64 xt, .slice A3 n3 k3] := X6.bkAt (i := 1) rfl
       obtain ⟨cs, ecs⟩ : ∃ cs, sccells (bptr gd2) st2 (s2.cls.set j { cl2 with ov := .slice (some ⟨gq, off + 5, none⟩) l.length (cap - 1), ops := l, asked := false }) alv2 s2.ev = cs := ⟨_, rfl⟩
       have HS6 := Lib.hid (show StS sb g7 cs [.int .i64 xop, .int .i64 xco, .int .i64 xh, .int .i64 xt, .slice A3 n3 k3] w6 from ⟨by rw [← ecs]; exact hx6.bx, B76⟩)
       have ecj : cs[2 + (j * 4 + 2)]? = some (.slice aA cl2.na ac) := by rw [← ecs, ← hav2]; exact sc_at hx6.cl8 HJ6.out (by decide) rfl
       have KS := Lib.hid (fun (w' : World) (hS : StS sb g7 cs [.int .i64 xop, .int .i64 xco, .int .i64 xh, .int .i64 xt, .slice A3 n3 k3] w') => And.intro (show w'.cell? ⟨sb, 2 + j * 4 + 2, none⟩ = some (.slice aA cl2.na ac) from Bk.at' hS.1 ecj) (cells_five hS.2))
       have HN := Lib.hid (show cl2.na ≤ 702 from Nat.le_trans (H5.out.2.2.2.2.1 cl2 (List.mem_of_getElem? H5.out.2.1)).1 (Nat.le_trans H.out.2.1 (by decide)))
       clear X6 hx6 ha6 hav hav2 B76 ecs ecj
       go_wp2_with fail
       have Kq := KS
       refine anyM_start (StS sb g7 cs [.int .i64 xop, .int .i64 xco, .int .i64 xh, .int .i64 xt, .slice A3 n3 k3]) [10] (by kernel_rfl) (⟨HS6.out.1.drew, HS6.out.2.drew⟩) (fun hHeld => ?_)
       refine kR 0 ?_; refine kR 1 ?_; refine kR 2 ?_; refine kR 3 ?_
       refine kM 4 ?_; refine kM 5 ?_
       refine rM 6 (fun K hK => ?_)
       obtain ⟨w8, hw8⟩ : ∃ w8, w6.drew.alloc (.cells #[.int .i64 xop, .int .i64 xco, .int .i64 xh, .int .i64 xt, .slice A3 n3 k3] 52) = w8 := ⟨_, rfl⟩
       have hB8 : Bk w8 w6.heap.size 52 [.int .i64 xop, .int .i64 xco, .int .i64 xh, .int .i64 xt, .slice A3 n3 k3] := by rw [← hw8]; exact Bk.new w6.drew _ _
       have hb68 : Below w6.heap.size w6 w8 := by rw [← hw8]; exact (bdrew (Below.refl _ _)).trans ((Below.refl w6.drew.heap.size w6.drew).alloc (Nat.le_refl _) _)
       have hS8 := StS.next HS6.out hb68
       have HY8 := Lib.hid (HY6.out.ag (F := fun _ => False) (.of_below hb68))
       have H8 := Lib.hid (And.intro hB8 (And.intro (HX6.out.next hb68) (own_bel' HR6.out hb68)))
       go_simp
       try rw [hw8]
       clear hB8 hb68
       refine hK.out _ _ (fun _ _ => hS8) ?_
       clear hK K hHeld
       have hHeld := hS8
       try simp only [Act.put, List.setIfInBounds_toArray, List.set_cons_zero, List.set_cons_succ]
       refine rM 7 (fun K hK => ?_)
       refine if_wanted rfl (wp_appM _ _ _ 66 rfl 0 52 xi xz 5 56 Tryz.underlying66 hxi hxz hx5 hx56 hxc (by decide) (.slice aA cl2.na ac) cl2.na xs8 (by rfl) (by exact H8.out.2.2) w8.heap.size (some ⟨w6.heap.size, 0, none⟩) 1 1 [.int .i64 xop, .int .i64 xco, .int .i64 xh, .int .i64 xt, .slice A3 n3 k3] (by rfl) rfl H8.out.1.rd (by intro u hu; simp at hu; rcases hu with rfl | rfl | rfl | rfl | rfl <;> rfl) (Nat.le_trans (Nat.add_le_add_right HN.out 1) (by decide)) (Nat.le_trans (Nat.mul_le_mul_right 56 (Nat.add_le_add_right HN.out 1)) (by decide)) (Nat.zero_le _) ?_)
       intro v9 w9 hO9 hG9 hv9
       obtain ⟨A9, c9, rfl⟩ := own_shape hO9
       obtain ⟨F8, Ft8, hx8⟩ := H8.out.2.1.sch
       have hb9 := own_frz hx8 H8.out.2.2 (by decide) hG9
       have hng : (Value.slice aA cl2.na ac).ownBlock ≠ some g7 := fun q => by
        obtain ⟨Fz, Ftz, hp, _, _, _, h4⟩ := H8.out.2.1.p
        exact h4 _ (List.mem_of_getElem? (i := 1) rfl) ((SchX.fam hp).sub _ _ ((SchX.cl hp j _ HJ6.out).fa g7 (show cl2.av.ownBlock = some g7 from HAV.out.symm ▸ q)))
       have hS9 := StS.grown hHeld H8.out.2.2 hG9 hng
       have z9 : w9.cell? ⟨sb, 2 + j * 4 + 2, none⟩ = some cl2.av := Bk.at' hb9 (sc_at (i := 2) hx8.cl8 HJ6.out (by decide) rfl)
       have fr9 := hb9.free (2 + j * 4 + 2)
       obtain ⟨w10, hw10⟩ : ∃ w10, w9.setCell ⟨sb, 2 + j * 4 + 2, none⟩ (.slice A9 (cl2.na + 1) c9) = w10 := ⟨_, rfl⟩
       have H10 := Lib.hid (ScX.answ H8.out.2.1 HJ6.out (show _ from HAV.out.symm ▸ H8.out.2.2) hO9 (show _ from HAV.out.symm ▸ hG9) (show _ from HAV.out.symm ▸ hv9) hw10)
       have k89 : Kf (fun b => (Value.slice aA cl2.na ac).ownBlock = some b) w8 w9 := (Kf.refl _ w8).grown H8.out.2.2 hG9 (fun g q => .inl ⟨q, by decide⟩)
       have k910 : Kf (fun b => b = sb) w9 w10 := by rw [← hw10]; exact (Kf.refl (fun b => b = sb) w9).set hb9 (by decide) (.inl rfl) _ _
       have HY10 := Lib.hid ((HY8.out.ag (k89.ag (F := fun _ => False) (fun b q => q.elim))).ag (k910.ag (F := fun _ => False) (fun b q => q.elim)))
       clear hO9 hG9 hv9 hx8 hb9 k89 k910 hng
       refine hK.out _ _ (fun _ _ => hS9) ?_
       clear hK K hHeld
       have hHeld := hS9
       try simp only [Act.put, List.setIfInBounds_toArray, List.set_cons_zero, List.set_cons_succ]
       refine kR 8 ?_; refine kR 9 ?_
       refine rM 10 (fun K hK => ?_)
       go_simp
       try rw [hw10]
       refine hK.out _ _ (fun h => absurd (by decide) h) ?_
       clear hK K
       try simp only [Act.put, List.setIfInBounds_toArray, List.set_cons_zero, List.set_cons_succ]
       refine anyM_done (by kernel_rfl) ?_ _
       clear Kq
       have B710 : Bk w10 g7 52 [.int .i64 xop, .int .i64 xco, .int .i64 xh, .int .i64 xt, .slice A3 n3 k3] := H10.out.bkAt (i := 1) rfl
       obtain ⟨d0, d1, d2, d3, d4⟩ := B710.c5
       have hke := kept_any xop xco xh xt A3 n3 k3 bs3 w10 HY10.out H5.out.2.2.2.2.2.2.2
       clear B710
       go_wp2_with fail
       refine hke.mono ?_
       rintro e w11 ⟨⟨A11, c11, rfl⟩, hb11⟩
       have X11 := H10.out.next hb11
       have B411 : Bk w11 g4 52 [.int .i64 0, .int .i64 0, .int .i64 0, .int .i64 0, .slice none 0 0] := X11.bkAt (i := 0) rfl
       obtain ⟨t0, t1, t2, t3, t4⟩ := B411.c5
       have u0 := B411.free 0
       have u1 := B411.free 1
       have u2 := B411.free 2
       have u3 := B411.free 3
       have u4 := B411.free 4
       obtain ⟨w12, hw12⟩ : ∃ w12, W5 w11 g4 (.int .i64 xop) (.int .i64 xco) (.int .i64 xh) (.int .i64 xt) (.slice A11 n3 c11) = w12 := ⟨_, rfl⟩
       have X12 := X11.set (i := 0) rfl (Below5A B411 (by decide) hw12) (bk_set5 B411 hw12)
       rw [List.set_set] at X12
       have HE := Lib.hid (And.intro (bk_set5 B411 hw12) (st_fin X12 H5.out.2.2.1 H5.out.2.2.2.1 H5.out.2.2.2.2.1 H5.out.2.1 HO.out.1 H5.out.2.2.2.2.2.1 HQ.out.2.2.2.2.2 (s := s) H.out.2.1 (by rw [HQ.out.2.2.2.2.1]; exact Nat.le_succ_of_le (Nat.succ_le_succ (H.out.1.num cl (List.mem_of_getElem? H.out.2.2.1)).1))))
       unfold W5 at hw12
       clear hke X11 X12 B411 hb11 d0 d1 d2 d3 d4
       go_wp2_with fail
       refine bodyPost_ret (res_ans2 rfl _ _ _ _ (by rfl) HE.out.1) rfl ?_
       exact ⟨0, ⟨_, rfl⟩, HE.out.2⟩
end
section
open Go.RowKit Go.Maps
def clz : CLD := ⟨.slice none 0 0, .slice none 0 0, .slice none 0 0, false, [], [], 0⟩
def ss0 : SS := ⟨List.replicate 8 clz, [], [], ms0, 0, 0⟩
theorem clz_x (w : World) (F : Foot) (m : MS) (es : List Nat) : ClX w F clz m es :=
 ⟨OwnO.nil _ _ _, fun o ho => by simp [clz] at ho, World.ownsRow_nil w _ _ _, ⟨[], World.ownsRow_nil w _ _ _⟩, fun k hk => by simp [clz] at hk, fun q => (by cases q), Nat.zero_le _, fun g q => (by cases q), fun g q => (by cases q), fun g q => (by cases q), fun o ho => by simp [clz] at ho, fun o ho => by simp [clz] at ho⟩
theorem goodB0 : GoodB ms0 [] 0 :=
 ⟨good0, rfl, fun i b e => by simp at e, fun i b t e => by simp at e, fun i k b c t u e => by simp at e⟩
def newC (sb : Nat) (F1 : Foot) : Nat → Foot := fun j => match j with
 | 0 => fun b => b = sb
 | 1 => F1
 | _ => fun _ => False
theorem SchB.made {w5 w' : World} {F1 : Foot} {st gd : Nat} (hs : Sto w5 F1 st 0 ms0 0) (e : w5.alloc (.cells (sccells (bptr gd) st (List.replicate 8 clz) (.slice none 0 0) 0).toArray 71) = w') :
  SchB w' (orF F1 (fun b => b = w5.heap.size)) w5.heap.size ss0 0 := by
 have hb : Below w5.heap.size w5 w' := by rw [← e]; exact (Below.refl _ _).alloc (Nat.le_refl _) _
 have hk : Bk w' w5.heap.size 71 (sccells (bptr gd) st (List.replicate 8 clz) (.slice none 0 0) 0) := by rw [← e]; exact Bk.new w5 _ _
 have hin := hs.inn
 have hlt : In w' (orF F1 (fun b => b = w5.heap.size)) := fun b q => q.elim (fun r => Nat.lt_of_lt_of_le (hin b r) hb.size) (fun r => by have r : b = w5.heap.size := r; rw [r]; exact hk.lt)
 refine ⟨⟨newC w5.heap.size F1, st, gd, .slice none 0 0, ⟨⟨hlt, fun i b q => ?_, fun i j hn b q r => ?_⟩, hk, hs.ag (.of_below hb), World.ownsRow_nil _ _ _ _, fun i x b q => by simp [ss0] at q, fun i j x q => by simp [ss0] at q, rfl, fun j c q => ?_, rfl, rfl, fun b q => (by cases q), fun x q => by simp [ss0] at q⟩⟩, goodB0, Nat.le_refl _, fun c hc => ?_⟩
 · match i with
   | 0 => exact .inr q
   | 1 => exact .inl q
   | n + 2 => exact q.elim
 · match i, j with
   | 0, 0 => exact hn rfl
   | 0, 1 => have q : b = w5.heap.size := q; have := hin b r; omega
   | 1, 0 => have r : b = w5.heap.size := r; have := hin b q; omega
   | 1, 1 => exact hn rfl
   | n + 2, _ => exact q.elim
   | _, n + 2 => exact r.elim
 · have : c = clz := List.eq_of_mem_replicate (List.mem_of_getElem? q)
   subst this
   exact clz_x _ _ _ _
 · have : c = clz := List.eq_of_mem_replicate hc
   subst this
   exact ⟨Nat.le_refl _, Nat.le_refl _⟩
theorem new_below {w w2 w3 w4 : World} {Fd F1 : Foot} {o : Obj} (hb : Below w.heap.size w w2) (hF : ∀ b, Fd b → w.heap.size ≤ b) (hk : Kf Fd w2 w3) (hs : Sb w2 Fd F1) (e : w3.alloc o = w4) : Below w.heap.size w w4 ∧ ∀ b, orF F1 (fun b => b = w3.heap.size) b → w.heap.size ≤ b := by
 have h3 : Below w.heap.size w2 w3 := hk.below hF hb.size
 refine ⟨by rw [← e]; exact (hb.trans h3).alloc (Nat.le_trans hb.size hk.size) _, fun b q => ?_⟩
 rcases q with q | q
 · exact (hs b q).elim (hF b) (fun r => Nat.le_trans hb.size r)
 · have q : b = w3.heap.size := q
   rw [q]; exact Nat.le_trans hb.size hk.size
theorem scNew (w : World) : Calls Tryz.prog 20 #[.agg #[.int .i64 8, .int .i64 96]] w fun e w' => ∃ sb, e = .returned (.tuple #[.pointer (some ⟨sb, 0, none⟩), .int .i64 0]) ∧ ∃ F, SchB w' F sb ss0 0 ∧ Below w.heap.size w w' ∧ ∀ b, F b → w.heap.size ≤ b := by
 obtain ⟨g1, w1, hzw1, hw1, Bw1, bw1⟩ := alloc_of w 36 [.int .i64 8, .int .i64 96]
 obtain ⟨c0, c1⟩ := Bw1.c2
 have hn := dnew_any w1
 have H1 := Lib.hid bw1
 clear bw1 Bw1
 go_enter Tryz.func20, Tryz.ntmps20
 go_wp2_with fail
 refine hn.mono ?_
 rintro e w2 ⟨gd, Fd, rfl, hd, hb2, hF⟩
 have hm := smount_any Fd gd w2 hd (fun b q => (hF b q).2)
 have H2 := Lib.hid (And.intro (H1.out.trans (hb2.mono H1.out.size)) (fun (b : Nat) (q : Fd b) => Nat.le_trans H1.out.size (hF b q).1))
 clear hn hd hb2 hF
 go_wp2_with fail
 refine hm.mono ?_
 rintro e w3 ⟨st, rfl, F1, hs, hk, hsb, hin⟩
 have HE := Lib.hid (And.intro (SchB.made (gd := gd) hs rfl) (new_below (o := .cells (sccells (bptr gd) st (List.replicate 8 clz) (.slice none 0 0) 0).toArray 71) H2.out.1 H2.out.2 hk hsb rfl))
 clear hm hs hk hsb hin
 go_wp2_with fail
 go_ret2
 exact ⟨_, rfl, _, HE.out.1, HE.out.2⟩
theorem scStore {w : World} {F : Foot} {sb g : Nat} {s : SS} (h : SchB w F sb s g) : Calls Tryz.prog 126 #[.pointer (some ⟨sb, 0, none⟩)] w fun e w' => (∃ st Fs, e = .returned (.pointer (some ⟨st, 0, none⟩)) ∧ Sto w Fs st s.pos s.m g) ∧ w = w' := by
 obtain ⟨Ft, st, gd, alv, hx⟩ := h.x
 have c1 := hx.at_st
 have hg := sgone_any c1
 have HS := Lib.hid hx.sto
 clear h hx
 go_enter Tryz.func126, Tryz.ntmps126
 go_wp2_with fail
 refine hg.mono ?_
 rintro e w' ⟨rfl, rfl⟩
 clear hg
 go_wp2_with fail
 go_ret
 exact ⟨⟨st, _, rfl, HS.out⟩, rfl⟩
end
section
open Go.RowKit Go.Maps
theorem infoHi0 : (Tryz.prog.info? 59).map (·.size) = some 7 := by kernel_rfl
theorem res_hist {fn : Func} {p : Tmp} (h : fn.results = #[.cell p 59]) (tmps : Array Value) (w : World) (g : Nat) (cs : List Value) (hp : tmps.getD p undef = .pointer (some ⟨g, 0, none⟩)) (hg : Bk w g 59 cs) (hl : cs.length = 7 := by rfl) :
  (results fn tmps).run Tryz.prog w = .ok (.agg cs.toArray) w :=
 results_cell_row h tmps w g _ _ _ _ hp hg Tryz.underlying59 rfl (by rw [infoHi0]; simp [hl])
abbrev W7 (w : World) (g : Nat) (v0 v1 v2 v3 v4 v5 v6 : Value) : World := ((((((w.setCell ⟨g, 0, none⟩ v0).setCell ⟨g, 1, none⟩ v1).setCell ⟨g, 2, none⟩ v2).setCell ⟨g, 3, none⟩ v3).setCell ⟨g, 4, none⟩ v4).setCell ⟨g, 5, none⟩ v5).setCell ⟨g, 6, none⟩ v6
def HiS (w : World) (g : Nat) (w' : World) : Prop := Below w.heap.size w w' ∧ ∃ c0 c1 c2 c3 c4 c5 c6, Bk w' g 59 [c0, c1, c2, c3, c4, c5, c6]
theorem HiS.next {w w1 w2 : World} {g : Nat} (h : HiS w g w1) (hb : Below w1.heap.size w1 w2) : HiS w g w2 := by
 obtain ⟨h1, c0, c1, c2, c3, c4, c5, c6, hk⟩ := h
 exact ⟨h1.trans (hb.mono h1.size), c0, c1, c2, c3, c4, c5, c6, hk.next hb hk.lt⟩
theorem HiS.drew {w w1 : World} {g : Nat} (h : HiS w g w1) : HiS w g w1.drew := h.next (bdrew (Below.refl _ _))
theorem hi_cells {w w1 : World} {g : Nat} (h : HiS w g w1) : (∃ c, w1.cell? ⟨g, 0, none⟩ = some c) ∧ (∃ c, w1.cell? ⟨g, 1, none⟩ = some c) ∧ (∃ c, w1.cell? ⟨g, 2, none⟩ = some c) ∧ (∃ c, w1.cell? ⟨g, 3, none⟩ = some c) ∧ (∃ c, w1.cell? ⟨g, 4, none⟩ = some c) ∧ (∃ c, w1.cell? ⟨g, 5, none⟩ = some c) ∧ (∃ c, w1.cell? ⟨g, 6, none⟩ = some c) ∧
  w1.frozen? ⟨g, 0, none⟩ = false ∧ w1.frozen? ⟨g, 1, none⟩ = false ∧ w1.frozen? ⟨g, 2, none⟩ = false ∧ w1.frozen? ⟨g, 3, none⟩ = false ∧ w1.frozen? ⟨g, 4, none⟩ = false ∧ w1.frozen? ⟨g, 5, none⟩ = false ∧ w1.frozen? ⟨g, 6, none⟩ = false := by
 obtain ⟨_, c0, c1, c2, c3, c4, c5, c6, hk⟩ := h
 exact ⟨⟨_, hk.cell (i := 0) (by simp)⟩, ⟨_, hk.cell (i := 1) (by simp)⟩, ⟨_, hk.cell (i := 2) (by simp)⟩, ⟨_, hk.cell (i := 3) (by simp)⟩, ⟨_, hk.cell (i := 4) (by simp)⟩, ⟨_, hk.cell (i := 5) (by simp)⟩, ⟨_, hk.cell (i := 6) (by simp)⟩, hk.free 0, hk.free 1, hk.free 2, hk.free 3, hk.free 4, hk.free 5, hk.free 6⟩
theorem hi_store {w w1 w9 : World} {g : Nat} {v0 v1 v2 v3 v4 v5 v6 : Value} (h : HiS w g w1) (hg : w.heap.size ≤ g) (e : W7 w1 g v0 v1 v2 v3 v4 v5 v6 = w9) : HiS w g w9 ∧ Bk w9 g 59 [v0, v1, v2, v3, v4, v5, v6] := by
 obtain ⟨hb, c0, c1, c2, c3, c4, c5, c6, hk⟩ := h
 have h9 : Bk w9 g 59 [v0, v1, v2, v3, v4, v5, v6] := by
  rw [← e]; exact ((((((hk.set 0 v0).set 1 v1).set 2 v2).set 3 v3).set 4 v4).set 5 v5).set 6 v6
 refine ⟨⟨?_, _, _, _, _, _, _, _, h9⟩, h9⟩
 rw [← e]
 exact ((((((hb.setCell (p := ⟨g, 0, none⟩) hg v0).setCell (p := ⟨g, 1, none⟩) hg v1).setCell (p := ⟨g, 2, none⟩) hg v2).setCell (p := ⟨g, 3, none⟩) hg v3).setCell (p := ⟨g, 4, none⟩) hg v4).setCell (p := ⟨g, 5, none⟩) hg v5).setCell (p := ⟨g, 6, none⟩) hg v6
def hiE (t : TX) (fr tt : Int) (e : Ending) : Prop := ∃ (rA : Option Addr) (rn rc : Nat) (pA : Option Addr) (pc : Nat), e = .returned (.agg #[.int .i64 (t.st : Int), .int .i64 (t.at' : Int), .int .i64 (t.time : Int), .int .i64 fr, .int .i64 tt, .slice rA rn rc, .slice pA t.keys.length pc])
theorem mHistory {w : World} {F : Foot} {mb g : Nat} {m : MS} (h : Man w F mb m g) {i : Nat} {t : TX} (ht : m.txs[i]? = some t) : Calls Tryz.prog 59 #[.pointer (some ⟨mb, 0, none⟩), .int .i64 ((i : Int) + 1)] w fun e w' => hiE t 0 0 e ∧ Below w.heap.size w w' := by
 obtain ⟨Ft, gm, kb, am, qv, es, hx⟩ := h.x
 obtain ⟨x, he⟩ := entry hx ht
 obtain ⟨g1, w1, hzw1, hw1, Bw1, bw1⟩ := alloc_of w 59 [.int .i64 0, .int .i64 0, .int .i64 0, .int .i64 0, .int .i64 0, .slice none 0 0, .slice none 0 0]
 have hx1 := hx.next bw1
 have hg := mgone_any mb gm kb am 0 qv m w1 hx1.bx
 obtain ⟨_, _, c2, _⟩ := mcells_at hx1.bx
 have hlk := (hx1.look_ok he (by have := get_lt ht; have := h.txs; have := h.big; omega)).1
 obtain ⟨code, hb⟩ := (hx.tx i t x ht he).bx
 have KH := Lib.hid (fun (w' : World) (hS : HiS w g1 w') => tcells_at (hb.next hS.1 hb.lt))
 have HX := Lib.hid hx
 have HT := Lib.hid (And.intro ht he)
 have HS1 := Lib.hid (show HiS w g1 w1 from ⟨bw1, _, _, _, _, _, _, _, Bw1⟩)
 have HG := Lib.hid (Nat.le_of_eq hzw1)
 clear h hx hx1 ht he hb bw1 Bw1
 go_enter Tryz.func59, Tryz.ntmps59
 go_wp2_with fail
 refine hg.mono ?_
 rintro e w' ⟨rfl, rfl⟩
 clear hg
 go_wp2_with fail
 have Kq := KH
 refine wp_region_held_drew (S := HiS w g1) (by kernel_rfl) (HS1.out.drew) (fun hHeld => ?_)
 refine kF 0 ?_; refine kF 1 ?_; refine kF 2 ?_; refine kF 3 ?_; refine kF 4 ?_; refine kF 5 ?_; refine kF 6 ?_; refine kF 7 ?_; refine kF 8 ?_; refine kF 9 ?_; refine kF 10 ?_; refine kF 11 ?_
 refine kF 12 ?_; refine kF 13 ?_; refine kF 14 ?_; refine kF 15 ?_; refine kF 17 ?_; refine kF 18 ?_; refine kF 19 ?_; refine kF 20 ?_
 refine rF 16 (fun K hK => ?_)
 go_simp
 refine (viewreads_any _ x.vb gm x.bb (16 * g) (t.at' : Int) _ ((HX.out.next hHeld.1).tx i t x HT.out.1 HT.out.2).view).mono ?_
 rintro e w4 ⟨⟨rA, rn, rc, rfl⟩, hb4⟩
 have hS4 := HiS.next hHeld hb4
 clear hb4
 go_simp
 refine hK.out _ _ (hS4) (fun hHeld2 => ?_)
 clear hK K hHeld
 have hHeld := hHeld2
 clear hHeld2
 try simp only [Act.put, List.setIfInBounds_toArray, List.set_cons_zero, List.set_cons_succ]
 refine rF 21 (fun K hK => ?_)
 go_simp
 refine (puts_any _ x.bb 0 t.keys _ ((HX.out.next hHeld.1).tx i t x HT.out.1 HT.out.2).buf (Nat.zero_le _)).mono ?_
 rintro e w5 ⟨⟨v5, rfl, ps, hps⟩, hb5⟩
 obtain ⟨pA, pc, rfl⟩ := own_shape hps.own
 have hS5 := HiS.next hHeld hb5
 clear hps hb5
 go_simp
 refine hK.out _ _ (hS5) (fun hHeld2 => ?_)
 clear hK K hHeld
 have hHeld := hHeld2
 clear hHeld2
 try simp only [Act.put, List.setIfInBounds_toArray, List.set_cons_zero, List.set_cons_succ]
 refine kF 22 ?_
 refine rF 23 (fun K hK => ?_)
 obtain ⟨⟨_, z0⟩, ⟨_, z1⟩, ⟨_, z2⟩, ⟨_, z3⟩, ⟨_, z4⟩, ⟨_, z5⟩, ⟨_, z6⟩, y0, y1, y2, y3, y4, y5, y6⟩ := hi_cells hHeld
 obtain ⟨w9, hw9⟩ : ∃ w9, W7 w5 g1 (.int .i64 (t.st : Int)) (.int .i64 (t.at' : Int)) (.int .i64 (t.time : Int)) (.int .i64 0) (.int .i64 0) (.slice rA rn rc) (.slice pA t.keys.length pc) = w9 := ⟨_, rfl⟩
 have HE := Lib.hid (hi_store hHeld HG.out hw9)
 unfold W7 at hw9
 go_simp
 try rw [hw9]
 refine hK.out _ _ (HE.out.1) (fun hHeld2 => ?_)
 clear hK K hHeld
 have hHeld := hHeld2
 clear hHeld2
 try simp only [Act.put, List.setIfInBounds_toArray, List.set_cons_zero, List.set_cons_succ]
 refine wpAnyH_done (by kernel_rfl) ?_ _
 clear Kq
 go_wp2_with fail
 refine bodyPost_ret (res_hist rfl _ _ _ _ (by rfl) HE.out.2) rfl ?_
 exact ⟨⟨_, _, _, _, _, rfl⟩, HE.out.1.1⟩
theorem sHistory {w : World} {F : Foot} {Ft : Nat → Foot} {sb gd mb gs pos num count g : Nat} {ns : List Nat} {m : MS} (h : StoX w F Ft sb gd mb gs pos num count ns m g) {i : Nat} {t : TX} (ht : m.txs[i]? = some t) : Calls Tryz.prog 34 #[.pointer (some ⟨sb, 0, none⟩), .int .i64 ((i : Int) + 1)] w fun e w' => hiE t 0 0 e ∧ Below w.heap.size w w' := by
 obtain ⟨g1, w1, hzw1, hw1, Bw1, bw1⟩ := alloc_of w 59 [.int .i64 0, .int .i64 0, .int .i64 0, .int .i64 0, .int .i64 0, .slice none 0 0, .slice none 0 0]
 have h1 := h.next bw1
 have hd := stman_any sb gd mb gs pos num w1 h1.bx
 have hm := mHistory h1.man ht
 have HS1 := Lib.hid (show HiS w g1 w1 from ⟨bw1, _, _, _, _, _, _, _, Bw1⟩)
 have HG := Lib.hid (Nat.le_of_eq hzw1)
 clear h h1 bw1 Bw1
 go_enter Tryz.func34, Tryz.ntmps34
 go_wp2_with fail
 refine hd.mono ?_
 rintro e w' ⟨rfl, rfl⟩
 clear hd
 go_wp2_with fail
 refine hm.mono ?_
 rintro e w2 ⟨⟨rA, rn, rc, pA, pc, rfl⟩, hb2⟩
 have hS2 := HS1.out.next hb2
 obtain ⟨⟨_, z0⟩, ⟨_, z1⟩, ⟨_, z2⟩, ⟨_, z3⟩, ⟨_, z4⟩, ⟨_, z5⟩, ⟨_, z6⟩, y0, y1, y2, y3, y4, y5, y6⟩ := hi_cells hS2
 obtain ⟨w9, hw9⟩ : ∃ w9, W7 w2 g1 (.int .i64 (t.st : Int)) (.int .i64 (t.at' : Int)) (.int .i64 (t.time : Int)) (.int .i64 0) (.int .i64 0) (.slice rA rn rc) (.slice pA t.keys.length pc) = w9 := ⟨_, rfl⟩
 have HE := Lib.hid (hi_store hS2 HG.out hw9)
 unfold W7 at hw9
 clear hm hS2 hb2
 go_wp2_with fail
 refine bodyPost_ret (res_hist rfl _ _ _ _ (by rfl) HE.out.2) rfl ?_
 exact ⟨⟨_, _, _, _, _, rfl⟩, HE.out.1.1⟩
end
section
open Go.RowKit Go.Maps
theorem clone_rd (A : Option Addr) (n c : Nat) (xs : List Value) (w : World) (hl : xs.length = n * 3) (h : Rd w w.heap.size A xs) (h1 : ∀ u ∈ xs, u.oneCell' = true) (hn : n ≤ 100000) :
  Calls Tryz.prog 57 #[.slice A n c] w fun e w' => (∃ v, e = .returned v ∧ w'.ownsRow w.heap.size 125 3 v n xs) ∧ Below w.heap.size w w' := by
 obtain ⟨xi, xz, hxi, hxz, hx5, hx56, hxc⟩ := infoRd
 have q : ∀ (w : World) (a : Option Addr) (n c n' c' : Nat), (binOp .eql 57 (.slice a n c) (.slice none n' c')).run Tryz.prog w = .ok (.bool a.isNone) w := fun w a n c n' c' => Lib.run_eql_slice_nil w _ _ a n c n' c' Tryz.underlying57
 cases A with
 | none =>
   have hx : xs = [] := by
    rcases Nat.eq_zero_or_pos xs.length with e | e
    · exact List.length_eq_zero_iff.1 e
    · obtain ⟨_, e, _⟩ := h e; cases e
   subst hx
   have hn0 : n = 0 := by simp at hl; omega
   subst hn0
   clear h hn hl h1
   go_enter Tryz.func57, Tryz.ntmps57
   go_wp2_with fail
   go_ret
   exact ⟨⟨_, rfl, rfl, .inl ⟨rfl, rfl⟩⟩, Below.refl _ _⟩
 | some ad =>
   have HR := Lib.hid (And.intro h h1)
   have HN := Lib.hid hn
   clear h hn h1
   go_enter Tryz.func57, Tryz.ntmps57
   go_wp2_with (at_builtin; go_must (refine wpList_appM _ rfl _ _ 57 rfl w.heap.size 125 xi xz 3 40 Tryz.underlying57 hxi hxz hx5 hx56 hxc (by omega) _ 0 [] (by rfl) (by exact World.ownsRow_lit w #[] 0 (Nat.le_refl _) (by decide) rfl) w.heap.size (some ad) n c xs (by rfl) (by exact hl) (by exact HR.out.1.alloc (Nat.le_refl _) _) HR.out.2 (by have := HN.out; omega) (by have := HN.out; omega) (by simp) ?_); intro v1 w1 hO1 hG1 hv1)
   have HB : Below w.heap.size w w1 := ((Below.refl _ _).alloc (Nat.le_refl _) _).grown hG1 (by simp) (fun g hg => Nat.le_of_eq (Option.some.inj (show some w.heap.size = some g from hg)))
   have HE := Lib.hid (show w1.ownsRow w.heap.size 125 3 v1 n xs from by simpa using hO1)
   clear hO1 hG1 hv1
   go_ret
   exact ⟨⟨v1, rfl, HE.out⟩, HB⟩
def hz7 : List Value := [.int .i64 0, .int .i64 0, .int .i64 0, .int .i64 0, .int .i64 0, .slice none 0 0, .slice none 0 0]
def CpS (w : World) (g1 g2 : Nat) (w' : World) : Prop := Below w.heap.size w w' ∧ Bk w' g1 59 hz7 ∧ Bk w' g2 59 hz7
theorem CpS.next {w w1 w2 : World} {g1 g2 : Nat} (h : CpS w g1 g2 w1) (hb : Below w1.heap.size w1 w2) : CpS w g1 g2 w2 := ⟨h.1.trans (hb.mono h.1.size), h.2.1.next hb h.2.1.lt, h.2.2.next hb h.2.2.lt⟩
theorem bk7_cells {w : World} {g t : Nat} {c0 c1 c2 c3 c4 c5 c6 : Value} (hk : Bk w g t [c0, c1, c2, c3, c4, c5, c6]) : w.cell? ⟨g, 0, none⟩ = some c0 ∧ w.cell? ⟨g, 1, none⟩ = some c1 ∧ w.cell? ⟨g, 2, none⟩ = some c2 ∧ w.cell? ⟨g, 3, none⟩ = some c3 ∧ w.cell? ⟨g, 4, none⟩ = some c4 ∧ w.cell? ⟨g, 5, none⟩ = some c5 ∧ w.cell? ⟨g, 6, none⟩ = some c6 :=
 ⟨hk.cell (i := 0) (by simp), hk.cell (i := 1) (by simp), hk.cell (i := 2) (by simp), hk.cell (i := 3) (by simp), hk.cell (i := 4) (by simp), hk.cell (i := 5) (by simp), hk.cell (i := 6) (by simp)⟩
theorem copied0 (w : World) : Calls Tryz.prog 33 #[.agg #[.int .i64 0, .int .i64 0, .int .i64 0, .int .i64 0, .int .i64 0, .slice none 0 0, .slice none 0 0]] w fun e w' => (∃ rA rc pA pc, e = .returned (.agg #[.int .i64 0, .int .i64 0, .int .i64 0, .int .i64 0, .int .i64 0, .slice rA 0 rc, .slice pA 0 pc])) ∧ Below w.heap.size w w' := by
 obtain ⟨g1, w1, hzw1, hw1, Bw1, bw1⟩ := alloc_of w 59 [.int .i64 0, .int .i64 0, .int .i64 0, .int .i64 0, .int .i64 0, .slice none 0 0, .slice none 0 0]
 obtain ⟨g2, w2, hzw2, hw2, Bw2, bw2⟩ := alloc_of w1 59 [.int .i64 0, .int .i64 0, .int .i64 0, .int .i64 0, .int .i64 0, .slice none 0 0, .slice none 0 0]
 have HS2 := Lib.hid (show CpS w g1 g2 w2 from ⟨bw1.trans (bw2.mono bw1.size), Bw1.next bw2 Bw1.lt, Bw2⟩)
 have HG := Lib.hid (show w.heap.size ≤ g1 ∧ g2 ≠ g1 ∧ w.heap.size ≤ g2 from ⟨Nat.le_of_eq hzw1, Nat.ne_of_gt (by have := Bw1.lt; omega), by rw [← hzw2]; exact bw1.size⟩)
 have HG := Lib.hid (And.intro HG.out.1 HG.out.2.1)
 have HG2 := Lib.hid (show w.heap.size ≤ g2 by rw [← hzw2]; exact bw1.size)
 have KC := Lib.hid (fun (w' : World) (hS : CpS w g1 g2 w') => bk7_cells hS.2.1)
 clear Bw1 bw1 Bw2 bw2
 go_enter Tryz.func33, Tryz.ntmps33
 go_wp2_with fail
 have Kq := KC
 refine anyM_start (CpS w g1 g2) [7, 9] (by kernel_rfl) (CpS.next HS2.out (bdrew (Below.refl _ _))) (fun hHeld => ?_)
 refine kR 0 ?_
 refine kM 1 ?_
 refine kR 3 ?_
 refine kM 4 ?_
 refine rM 2 (fun K hK => ?_)
 go_simp
 refine (clone_rd none 0 0 [] _ rfl (Rd.nil _ _ _) (by simp) (Nat.zero_le _)).mono ?_
 rintro e w3 ⟨⟨v3, rfl, ho3⟩, hb3⟩
 obtain ⟨rA, rc, rfl⟩ := own_shape ho3
 have hS3 := CpS.next hHeld hb3
 clear ho3 hb3
 go_simp
 refine hK.out _ _ (fun _ _ => hS3) ?_
 clear hK K hHeld
 have hHeld := hS3
 try simp only [Act.put, List.setIfInBounds_toArray, List.set_cons_zero, List.set_cons_succ]
 refine kR 6 ?_
 refine rM 5 (fun K hK => ?_)
 go_simp
 refine (clone_put none 0 0 [] _ rfl (Rd.nil _ _ _) (by simp) (Nat.zero_le _)).mono ?_
 rintro e w4 ⟨⟨v4, rfl, ho4⟩, hb4⟩
 obtain ⟨pA, pc, rfl⟩ := own_shape ho4
 have hS4 := CpS.next hHeld hb4
 have B4 : Bk w4 g1 59 [.int .i64 0, .int .i64 0, .int .i64 0, .int .i64 0, .int .i64 0, .slice none 0 0, .slice none 0 0] := hS4.2.1
 have z5 := B4.cell (i := 5) (by simp)
 simp only [List.getElem_cons_zero, List.getElem_cons_succ] at z5
 have y5 := B4.free 5
 obtain ⟨w5, hw5⟩ : ∃ w5, w4.setCell ⟨g1, 5, none⟩ (.slice rA 0 rc) = w5 := ⟨_, rfl⟩
 have B5 : Bk w5 g1 59 [.int .i64 0, .int .i64 0, .int .i64 0, .int .i64 0, .int .i64 0, .slice rA 0 rc, .slice none 0 0] := by rw [← hw5]; exact B4.set 5 _
 have z6 := B5.cell (i := 6) (by simp)
 simp only [List.getElem_cons_zero, List.getElem_cons_succ] at z6
 have y6 := B5.free 6
 obtain ⟨w6, hw6⟩ : ∃ w6, w5.setCell ⟨g1, 6, none⟩ (.slice pA 0 pc) = w6 := ⟨_, rfl⟩
 have H6 := Lib.hid (show Bk w6 g1 59 [.int .i64 0, .int .i64 0, .int .i64 0, .int .i64 0, .int .i64 0, .slice rA 0 rc, .slice pA 0 pc] ∧ Bk w6 g2 59 [.int .i64 0, .int .i64 0, .int .i64 0, .int .i64 0, .int .i64 0, .slice none 0 0, .slice none 0 0] ∧ Below w.heap.size w w6 from
  ⟨by rw [← hw6]; exact B5.set 6 _, by rw [← hw6, ← hw5]; exact (hS4.2.2.far HG.out.2 _).far HG.out.2 _, below1 (below1 hS4.1 HG.out.1 hw5) HG.out.1 hw6⟩)
 clear ho4 hb4 B4 B5
 go_simp
 refine hK.out _ _ (fun _ _ => hS4) ?_
 clear hK K hHeld
 have hHeld := hS4
 try simp only [Act.put, List.setIfInBounds_toArray, List.set_cons_zero, List.set_cons_succ]
 refine rM 7 (fun K hK => ?_)
 go_simp
 try rw [hw5]
 refine hK.out _ _ (fun h => absurd (by decide) h) ?_
 clear hK K
 try simp only [Act.put, List.setIfInBounds_toArray, List.set_cons_zero, List.set_cons_succ]
 refine kR 8 ?_
 refine rM 9 (fun K hK => ?_)
 go_simp
 try rw [hw6]
 refine hK.out _ _ (fun h => absurd (by decide) h) ?_
 clear hK K
 try simp only [Act.put, List.setIfInBounds_toArray, List.set_cons_zero, List.set_cons_succ]
 refine anyM_done (by kernel_rfl) ?_ _
 clear Kq
 obtain ⟨d0, d1, d2, d3, d4, d5, d6⟩ := bk7_cells H6.out.1
 clear z5 z6 y5 y6
 go_wp2_with fail
 go_loopw [16] (fun iv wr => iv = .int .i64 0 ∧ w6 = wr) (fun _ _ => 0)
 case atStart => exact ⟨rfl, rfl⟩
 case round =>
  obtain ⟨rfl, rfl⟩ := hrel
  go_wp2_with fail
  go_loopw [35] (fun iv wr => iv = .int .i64 0 ∧ w6 = wr) (fun _ _ => 0)
  case atStart => exact ⟨rfl, rfl⟩
  case round =>
   obtain ⟨rfl, rfl⟩ := hrel
   obtain ⟨r0, r1, r2, r3, r4, r5, r6⟩ := bk7_cells H6.out.2.1
   have B26 := H6.out.2.1
   have p0 := B26.free 0
   have p1 := B26.free 1
   have p2 := B26.free 2
   have p3 := B26.free 3
   have p4 := B26.free 4
   have p5 := B26.free 5
   have p6 := B26.free 6
   obtain ⟨w9, hw9⟩ : ∃ w9, W7 w6 g2 (.int .i64 0) (.int .i64 0) (.int .i64 0) (.int .i64 0) (.int .i64 0) (.slice rA 0 rc) (.slice pA 0 pc) = w9 := ⟨_, rfl⟩
   have HE := Lib.hid (hi_store (w := w) ⟨H6.out.2.2, _, _, _, _, _, _, _, B26⟩ HG2.out hw9)
   unfold W7 at hw9
   clear B26
   go_wp2_with fail
   refine bodyPost_ret (res_hist rfl _ _ _ _ (by rfl) HE.out.2) rfl ?_
   exact ⟨⟨_, _, _, _, rfl⟩, HE.out.1.1⟩
end
section
open Go.RowKit Go.Maps
theorem infoHist0 : (Tryz.prog.info? 59).map (fun i => (i.size, i.bytes, i.zero.map (·.cells.size))) = some (7, 88, some 7) := by kernel_rfl
theorem infoHist : ∃ i z, Tryz.prog.info? 59 = some i ∧ i.zero = some z ∧ i.size = 7 ∧ i.bytes = 88 ∧ z.cells.size = 7 := by
 have h := infoHist0
 cases hi : Tryz.prog.info? 59 with
 | none => rw [hi] at h; cases h
 | some i =>
   rw [hi] at h
   simp at h
   obtain ⟨h1, h2, z, hz, h3⟩ := h
   exact ⟨i, z, rfl, hz, h1, h2, h3⟩
structure HD where
 t : TX
 b : BG
 rA : Option Addr
 rn : Nat
 rc : Nat
 pA : Option Addr
 pc : Nat
def HD.cells (h : HD) : List Value := [.int .i64 (h.t.st : Int), .int .i64 (h.t.at' : Int), .int .i64 (h.t.time : Int), .int .i64 (h.b.fr : Int), .int .i64 (h.b.til : Int), .slice h.rA h.rn h.rc, .slice h.pA h.t.keys.length h.pc]
theorem hd_seven (h : HD) : h.cells.length = 7 := rfl
structure HiX (w wr : World) (s : SS) (v : Value) (i : Nat) (hs : List HD) : Prop where
 own : wr.ownsRow w.heap.size 59 7 v i (hs.flatMap HD.cells)
 at_ : ∀ (k : Nat) (h : HD), hs[k]? = some h → s.m.txs[k]? = some h.t ∧ s.bg[k]? = some h.b
 bel : Below w.heap.size w wr
theorem HiX.len {w wr : World} {s : SS} {v : Value} {i : Nat} {hs : List HD} (h : HiX w wr s v i hs) : hs.length = i := by
 have := h.own.1
 rw [flat_len hd_seven] at this; omega
theorem HiX.step {w wr w10 w11 : World} {s : SS} {v v' : Value} {i : Nat} {hs : List HD} (h : HiX w wr s v i hs) {x : HD} (ht : s.m.txs[i]? = some x.t) (hb : s.bg[i]? = some x.b) (hO : w11.ownsRow w.heap.size 59 7 v' (i + 1) (hs.flatMap HD.cells ++ x.cells)) (hbl : Below wr.heap.size wr w10) (hG : w10.grownBy w11 v.ownBlock) : HiX w w11 s v' (i + 1) (hs ++ [x]) := by
 have b10 : Below w.heap.size w w10 := h.bel.trans (hbl.mono h.bel.size)
 refine ⟨by rw [List.flatMap_append]; simpa using hO, fun k y hy => ?_, b10.grown hG b10.size (fun g e => own_at_ge h.own e)⟩
 rcases get_app hy with q | ⟨q, rfl⟩
 · exact h.at_ k y q
 · rw [h.len] at q
   subst q
   exact ⟨ht, hb⟩
theorem bcells_at {w : World} {e i : Nat} {b : BG} (h : Bk w e 85 (bcells i b)) : w.cell? ⟨e, 0, none⟩ = some (.int .i64 ((i : Int) + 1)) ∧ w.cell? ⟨e, 1, none⟩ = some (.int .i64 (b.fr : Int)) ∧ w.cell? ⟨e, 2, none⟩ = some (.int .i64 (b.til : Int)) ∧ w.cell? ⟨e, 3, none⟩ = some (.int .i64 0) ∧ w.cell? ⟨e, 4, none⟩ = some (.int .i64 0) ∧ w.cell? ⟨e, 5, none⟩ = some (.int .i64 0) ∧ w.cell? ⟨e, 6, none⟩ = some (.int .i64 0) ∧ w.cell? ⟨e, 7, none⟩ = some (.int .i64 0) ∧ w.cell? ⟨e, 8, none⟩ = some (.slice none 0 0) ∧ w.cell? ⟨e, 9, none⟩ = some (.slice none 0 0) :=
 ⟨h.cell (i := 0) (by simp [bcells]), h.cell (i := 1) (by simp [bcells]), h.cell (i := 2) (by simp [bcells]), h.cell (i := 3) (by simp [bcells]), h.cell (i := 4) (by simp [bcells]), h.cell (i := 5) (by simp [bcells]), h.cell (i := 6) (by simp [bcells]), h.cell (i := 7) (by simp [bcells]), h.cell (i := 8) (by simp [bcells]), h.cell (i := 9) (by simp [bcells])⟩
theorem scHist {w : World} {F : Foot} {sb g : Nat} {s : SS} (h : SchB w F sb s g) : Calls Tryz.prog 18 #[.pointer (some ⟨sb, 0, none⟩)] w fun e w' => ∃ v hs, e = .returned v ∧ HiX w w' s v s.bg.length hs := by
 obtain ⟨xi, xz, hxi, hxz, hx5, hx56, hxc⟩ := infoHist
 obtain ⟨Ft, st, gd, alv, hx⟩ := h.x
 have hg := sgone_any hx.at_st
 have c34 := hx.at_all
 obtain ⟨aA, ac, rfl⟩ := own_shape hx.all
 have hel : s.es.length = s.bg.length := hx.len
 have htl : s.bg.length = s.m.txs.length := h.b.len
 have hsm : s.bg.length ≤ 700 := by rw [htl]; exact Nat.le_trans hx.sto.txs h.big
 rw [hel] at c34
 have HX := Lib.hid hx
 have HH := Lib.hid (And.intro hel (And.intro htl hsm))
 have m1 : ∀ i : Nat, i < s.bg.length → wrap64 ((i : Int) + 1) = (i : Int) + 1 := fun i hi => by unfold wrap64; omega
 have HM := Lib.hid m1
 clear h hx hel htl hsm m1
 go_enter Tryz.func18, Tryz.ntmps18
 go_wp2_with fail
 refine hg.mono ?_
 rintro e w' ⟨rfl, rfl⟩
 clear hg
 go_wp2_with fail
 go_loopw [2, 13] (fun ov iv wr => ∃ i : Nat, i ≤ s.bg.length ∧ iv = .int .i64 (i : Int) ∧ ∃ hs, Hid (HiX w wr s ov i hs)) (fun _ iv _ => s.bg.length - (intOf iv).toNat)
 case atStart => exact ⟨0, Nat.zero_le _, rfl, [], Lib.hid ⟨World.ownsRow_nil w _ _ _, fun k h q => by simp at q, Below.refl _ _⟩⟩
 case round =>
  rename_i ov iv wr
  obtain ⟨i, hi, rfl, hs, HY⟩ := hrel
  clear c34
  obtain ⟨vA, vc, rfl⟩ := own_shape HY.out.own
  rcases Nat.lt_or_ge i s.bg.length with hlt | hge
  · have hxr := HX.out.next HY.out.bel
    obtain ⟨e0, he⟩ : ∃ e0, s.es[i]? = some e0 := ⟨_, List.getElem?_eq_getElem (by rw [HH.out.1]; exact hlt)⟩
    obtain ⟨b, hb⟩ : ∃ b, s.bg[i]? = some b := ⟨_, List.getElem?_eq_getElem hlt⟩
    obtain ⟨t, ht⟩ : ∃ t, s.m.txs[i]? = some t := ⟨_, List.getElem?_eq_getElem (by rw [← HH.out.2.1]; exact hlt)⟩
    obtain ⟨aB, cB, hv⟩ := own_slice hxr.all (by rw [HH.out.1]; omega)
    injection hv with hv1 _ hv3
    subst hv1 hv3
    have ce : wr.cell? ⟨aB, i, none⟩ = some (.pointer (some ⟨e0, 0, none⟩)) := by
     have := hxr.all.cells (g := aB) rfl i (bptr e0) (by rw [List.getElem?_map, he]; rfl)
     rw [Addr.add_lit, Nat.zero_add] at this; exact this
    have hbk := hxr.beg i e0 b he hb
    obtain ⟨b0, b1, b2, b3, b4, b5, b6, b7, b8, b9⟩ := bcells_at hbk
    have n1 : (i : Int) < (s.bg.length : Int) := by omega
    have n2 : (0 : Int) ≤ (i : Int) := by omega
    have m2 := HM.out i hlt
    have hco := copied0 wr
    have HI := Lib.hid (And.intro he (And.intro hb (And.intro hlt (And.intro ht (And.intro hbk hxr)))))
    clear hxr he hb ht hbk hi
    go_wp2_with fail
    refine hco.mono ?_
    rintro e w3 ⟨⟨qA, qc, uA, uc, rfl⟩, hb3⟩
    obtain ⟨g5, w4, hzw4, hw4, Bw4, bw4⟩ := alloc_of w3 59 [.int .i64 0, .int .i64 0, .int .i64 0, .int .i64 0, .int .i64 0, .slice none 0 0, .slice none 0 0]
    obtain ⟨r0, r1, r2, r3, r4, r5, r6⟩ := bk7_cells Bw4
    have p0 := Bw4.free 0
    have p1 := Bw4.free 1
    have p2 := Bw4.free 2
    have p3 := Bw4.free 3
    have p4 := Bw4.free 4
    have p5 := Bw4.free 5
    have p6 := Bw4.free 6
    have HG5 := Lib.hid (show wr.heap.size ≤ g5 by rw [← hzw4]; exact hb3.size)
    obtain ⟨w5, hw5⟩ : ∃ w5, W7 w4 g5 (.int .i64 0) (.int .i64 0) (.int .i64 0) (.int .i64 0) (.int .i64 0) (.slice qA 0 qc) (.slice uA 0 uc) = w5 := ⟨_, rfl⟩
    have HB5 := Lib.hid (by
     have := hi_store (w := wr) ⟨hb3.trans (bw4.mono hb3.size), _, _, _, _, _, _, _, Bw4⟩ HG5.out hw5
     exact And.intro this.1.1 this.2)
    have hx5 := HI.out.2.2.2.2.2.next HB5.out.1
    obtain ⟨Fs, gx, mb, gs, num, count, ns, hst⟩ := hx5.sto
    have HS := Lib.hid hst
    have KK := Lib.hid (fun (w' : World) (hS : Below w5.heap.size w5 w') => And.intro ((hx5.next hS).at_st) (bcells_at ((hx5.next hS).beg i e0 b HI.out.1 HI.out.2.1)))
    obtain ⟨b0, b1, b2, b3, b4, b5, b6, b7, b8, b9⟩ := bcells_at (hx5.beg i e0 b HI.out.1 HI.out.2.1)
    unfold W7 at hw5
    clear hco hb3 bw4 Bw4 hx5 hst
    go_wp2_with fail
    have Kq := KK
    refine anyM_start (fun w' => Below w5.heap.size w5 w') [9] (by kernel_rfl) (bdrew (Below.refl _ _)) (fun hHeld => ?_)
    refine kR 0 ?_; refine kR 1 ?_; refine kR 2 ?_
    refine kM 3 ?_
    refine kR 4 ?_; refine kR 5 ?_; refine kR 6 ?_
    refine kM 7 ?_
    refine rM 8 (fun K hK => ?_)
    go_simp
    refine (sHistory (HS.out.next hHeld) HI.out.2.2.2.1).mono ?_
    rintro e w6 ⟨⟨rA, rn, rc, pA, pc, rfl⟩, hb6⟩
    have hS6 : Below w5.heap.size w5 w6 := hHeld.trans (hb6.mono hHeld.size)
    have B6 := HB5.out.2.next hS6 HB5.out.2.lt
    obtain ⟨z0, z1, z2, z3, z4, z5, z6⟩ := bk7_cells B6
    have y0 := B6.free 0
    have y1 := B6.free 1
    have y2 := B6.free 2
    have y3 := B6.free 3
    have y4 := B6.free 4
    have y5 := B6.free 5
    have y6 := B6.free 6
    obtain ⟨w7, hw7⟩ : ∃ w7, W7 w6 g5 (.int .i64 (t.st : Int)) (.int .i64 (t.at' : Int)) (.int .i64 (t.time : Int)) (.int .i64 0) (.int .i64 0) (.slice rA rn rc) (.slice pA t.keys.length pc) = w7 := ⟨_, rfl⟩
    have H7 := Lib.hid (hi_store (w := wr) ⟨HB5.out.1.trans (hS6.mono HB5.out.1.size), _, _, _, _, _, _, _, B6⟩ HG5.out hw7)
    unfold W7 at hw7
    clear hb6 B6
    go_simp
    refine hK.out _ _ (fun _ _ => hS6) ?_
    clear hK K hHeld
    have hHeld := hS6
    try simp only [Act.put, List.setIfInBounds_toArray, List.set_cons_zero, List.set_cons_succ]
    refine rM 9 (fun K hK => ?_)
    go_simp
    try rw [hw7]
    refine hK.out _ _ (fun h => absurd (by decide) h) ?_
    clear hK K
    try simp only [Act.put, List.setIfInBounds_toArray, List.set_cons_zero, List.set_cons_succ]
    refine anyM_done (by kernel_rfl) ?_ _
    clear Kq
    have hx7 := HI.out.2.2.2.2.2.next H7.out.1.1
    have hS7 : Bk w7 e0 85 (bcells i b) := hx7.beg i e0 b HI.out.1 HI.out.2.1
    have HS7 := Lib.hid hS7
    have KK7 := Lib.hid (fun (w' : World) (hS : Bk w' e0 85 (bcells i b)) => bcells_at hS)
    have hne7 : e0 ≠ g5 := bk_ne hS7 H7.out.2 (by decide)
    obtain ⟨x0, x1, x2, x3, x4, x5, x6⟩ := bk7_cells H7.out.2
    have f3 := H7.out.2.free 3
    obtain ⟨w8, hw8⟩ : ∃ w8, w7.setCell ⟨g5, 3, none⟩ (.int .i64 (b.fr : Int)) = w8 := ⟨_, rfl⟩
    have hS8 : Bk w8 e0 85 (bcells i b) := by rw [← hw8]; exact hS7.far hne7 _
    have B8 : Bk w8 g5 59 [.int .i64 (t.st : Int), .int .i64 (t.at' : Int), .int .i64 (t.time : Int), .int .i64 (b.fr : Int), .int .i64 0, .slice rA rn rc, .slice pA t.keys.length pc] := by rw [← hw8]; exact H7.out.2.set 3 _
    have x84 := (bk7_cells B8).2.2.2.2.1
    have f84 := B8.free 4
    obtain ⟨w9, hw9⟩ : ∃ w9, w8.setCell ⟨g5, 4, none⟩ (.int .i64 (b.til : Int)) = w9 := ⟨_, rfl⟩
    have B9 : Bk w9 g5 59 [.int .i64 (t.st : Int), .int .i64 (t.at' : Int), .int .i64 (t.time : Int), .int .i64 (b.fr : Int), .int .i64 (b.til : Int), .slice rA rn rc, .slice pA t.keys.length pc] := by rw [← hw9]; exact B8.set 4 _
    have H9 := Lib.hid (And.intro (below1 (below1 H7.out.1.1 HG5.out hw8) HG5.out hw9) B9)
    have HS8 := Lib.hid hS8
    clear hS7 hS8 hne7 hx7 z0 z1 z2 z3 z4 z5 z6 y0 y1 y2 y3 y4 y5 y6 B8 B9 b0 b1 b2 b3 b4 b5 b6 b7 b8 b9 r0 r1 r2 r3 r4 r5 r6 p0 p1 p2 p3 p4 p5 p6
    go_wp2_with fail
    have Kq := KK7
    refine anyM_start (fun w' => Bk w' e0 85 (bcells i b)) [11] (by kernel_rfl) (HS7.out.drew) (fun hHeld => ?_)
    refine kR 0 ?_; refine kR 1 ?_; refine kR 2 ?_
    refine kM 3 ?_
    refine kR 4 ?_; refine kR 5 ?_; refine kR 6 ?_
    refine kM 7 ?_
    refine kR 8 ?_
    refine rM 9 (fun K hK => ?_)
    go_simp
    try rw [hw8]
    refine hK.out _ _ (fun _ _ => HS8.out) ?_
    clear hK K hHeld
    have hHeld := HS8.out
    try simp only [Act.put, List.setIfInBounds_toArray, List.set_cons_zero, List.set_cons_succ]
    refine kR 10 ?_
    refine rM 11 (fun K hK => ?_)
    go_simp
    try rw [hw9]
    refine hK.out _ _ (fun h => absurd (by decide) h) ?_
    clear hK K
    try simp only [Act.put, List.setIfInBounds_toArray, List.set_cons_zero, List.set_cons_succ]
    refine anyM_done (by kernel_rfl) ?_ _
    clear Kq
    obtain ⟨d0, d1, d2, d3, d4, d5, d6⟩ := bk7_cells H9.out.2
    obtain ⟨g10, w10, hzw10, hw10, Bw10, bw10⟩ := alloc_of w9 59 [.int .i64 (t.st : Int), .int .i64 (t.at' : Int), .int .i64 (t.time : Int), .int .i64 (b.fr : Int), .int .i64 (b.til : Int), .slice rA rn rc, .slice pA t.keys.length pc]
    have hb10 : Below wr.heap.size wr w10 := H9.out.1.trans (bw10.mono H9.out.1.size)
    have HO := Lib.hid (And.intro (own_bel' HY.out.own hb10) hb10)
    have HB10 := Lib.hid Bw10
    have hn7 : i + 1 ≤ 701 := Nat.le_trans hlt (Nat.le_trans HH.out.2.2 (by decide))
    clear hb10 Bw10 bw10 x0 x1 x2 x3 x4 x5 x6 f3 x84 f84
    go_wp2_with (at_builtin; go_must (refine wpList_appM _ rfl _ _ 55 rfl w.heap.size 59 xi xz 7 88 Tryz.underlying55 hxi hxz hx5 hx56 hxc (by decide) (.slice vA i vc) i (hs.flatMap HD.cells) (by rfl) (by exact HO.out.1) w10.heap.size (some ⟨g10, 0, none⟩) 1 1 [.int .i64 (t.st : Int), .int .i64 (t.at' : Int), .int .i64 (t.time : Int), .int .i64 (b.fr : Int), .int .i64 (b.til : Int), .slice rA rn rc, .slice pA t.keys.length pc] (by rfl) rfl HB10.out.rd (by intro u hu; simp at hu; rcases hu with rfl | rfl | rfl | rfl | rfl | rfl | rfl <;> rfl) (Nat.le_trans hn7 (by decide)) (Nat.le_trans (Nat.mul_le_mul_right 88 hn7) (by decide)) (Nat.le_trans HY.out.bel.size HO.out.2.size) ?_))
    intro v11 w11 hO11 hG11 hv11
    have HE := Lib.hid (HY.out.step (x := ⟨t, b, rA, rn, rc, pA, pc⟩) HI.out.2.2.2.1 HI.out.2.1 hO11 (HO.out.2.trans ((bdrew (Below.refl _ _)).mono HO.out.2.size)) hG11)
    clear hO11 hG11 hv11
    go_wp2_with fail
    go_roundw
    case rel => exact ⟨i + 1, hlt, int_succ (by first | rfl | exact m2), _, HE⟩
    case measure => (try rw [m2]); exact sub_lt1 (x := (i : Int) + 1) hlt rfl
  · obtain rfl : i = s.bg.length := Nat.le_antisymm hi hge
    go_wp2_with fail
    go_ret
    exact ⟨_, hs, rfl, HY.out⟩
end
section
open Go.RowKit Go.Maps
theorem sum_takeT {xs : List Int} {k : Nat} (hk : k < xs.length) : (xs.take (k + 1)).sum = (xs.take k).sum + xs[k] := by
 rw [List.take_succ_eq_append_getElem hk, List.sum_append]; simp
theorem asum_any (m : Int) (A : Option Addr) (n c B : Nat) (xs : List Int) (w : World) (h : Rd w B A (xs.map (Value.int .i64))) (hl : xs.length = n) (hn : n ≤ 1000) (h0 : ∀ x ∈ xs, 0 ≤ x ∧ x ≤ 9223372036854775807) (hm : 0 ≤ m ∧ m ≤ 1099511627776) :
  Calls Tryz.prog 13 #[.int .i64 m, .slice A n c] w fun e w' => (∃ v : Int, e = .returned (.int .i64 v) ∧ 0 ≤ v ∧ v ≤ 1099511627776 ∧ (v = m + xs.sum ∨ v = 1099511627776)) ∧ w = w' := by
 go_enter Tryz.func13, Tryz.ntmps13
 go_wp2_with fail
 go_loop [0, 5] (fun v i => ∃ k : Nat, k ≤ n ∧ i = .int .i64 k ∧ ∃ s : Int, v = .int .i64 s ∧ 0 ≤ s ∧ s ≤ 1099511627776 ∧ Hid (s = m + (xs.take k).sum)) (fun _ i => n - (intOf i).toNat)
 case atStart => exact ⟨0, Nat.zero_le _, rfl, m, rfl, hm.1, hm.2, by show _ = _; simp⟩
 case round =>
  obtain ⟨k, hk, rfl, s, rfl, hs0, hs1, HS⟩ := hrel
  by_cases hlt : k < n
  · obtain ⟨ad, rfl, _, c1⟩ := h.get (k := k) (by rw [List.length_map]; omega)
    rw [List.getElem_map] at c1
    obtain ⟨x, hx⟩ : ∃ x, xs[k]'(by omega) = x := ⟨_, rfl⟩
    rw [hx] at c1
    obtain ⟨x0, x1⟩ := h0 x (by rw [← hx]; exact List.getElem_mem _)
    have HN := Lib.hid (show s + x = m + (xs.take (k + 1)).sum by rw [sum_takeT (by omega), hx]; have := HS.out; omega)
    have n0 : (k : Int) < (n : Int) := by omega
    have n1 : (0 : Int) ≤ (k : Int) := by omega
    have t0 : decide (1099511627776 < s) = false := decide_eq_false (by omega)
    clear hx h0
    by_cases hx2 : 1099511627776 - s < x
    · have t1 : decide (1099511627776 - s < x) = true := decide_eq_true hx2
      clear hx2
      go_wp2_with fail
      go_ret
      exact ⟨⟨1099511627776, rfl, by omega, by omega, .inr rfl⟩, rfl⟩
    · have t1 : decide (1099511627776 - s < x) = false := decide_eq_false hx2
      have hsx : s + x ≤ 1099511627776 := by omega
      clear hx2
      go_wp2_with fail
      go_round
      case rel => exact ⟨k + 1, by omega, by go_num, s + x, rfl, by omega, hsx, HN⟩
      case measure => simp [intOf]; omega
  · obtain rfl : k = n := by omega
    have hS := HS.out
    rw [List.take_of_length_le (by omega)] at hS
    have HS2 := Lib.hid hS
    clear hS
    go_wp2_with fail
    go_ret
    exact ⟨⟨s, rfl, hs0, hs1, .inl HS2.out⟩, rfl⟩
def puR (n : Nat) (ps : List PutD) (v : Int) : Prop := 0 ≤ v ∧ v ≤ 1099511627776 ∧ (v ≤ 20000 → (n : Int) ≤ v ∧ ∀ p ∈ ps, (p.n : Int) ≤ v)
theorem aputs_any (G : Foot) (A : Option Addr) (n c : Nat) (ps : List PutD) (w : World) (h : IsPa w G A n c ps) :
  Calls Tryz.prog 14 #[.slice A n c, .int .i64 20000] w fun e w' => (∃ v : Int, e = .returned (.int .i64 v) ∧ puR n ps v) ∧ Below w.heap.size w w' := by
 have hbig : maxLen ≤ 9223372036854775807 := by decide
 have hnm : n ≤ maxLen := Nat.le_trans h.cap h.big
 have hdm : ∀ p ∈ ps, p.n ≤ maxLen := fun p hp => Nat.le_trans (h.y p hp).b.cap (h.y p hp).b.big
 have HD := Lib.hid (And.intro hdm (And.intro hbig hnm))
 go_enter Tryz.func14, Tryz.ntmps14
 go_wp2_with fail
 refine (asum_any 0 _ 1 1 _ [(n : Int)] _ (by exact (Bk.new w 3 [Value.int .i64 (n : Int)]).rd) (by rfl) (by omega) (by intro x hx; simp at hx; subst hx; omega) (by omega)).mono ?_
 rintro e w' ⟨⟨s, rfl, s0, s1, ss⟩, rfl⟩
 have hs : s ≤ 20000 → (n : Int) ≤ s := fun q => by simp at ss; omega
 have HS0 := Lib.hid hs
 clear ss hs hbig hnm hdm
 have hW0 : Below w.heap.size w (w.alloc (.cells #[Value.int .i64 (n : Int)] 3)) := (Below.refl _ _).alloc (Nat.le_refl _) _
 go_wp2_with fail
 go_loopw [5, 6] (fun v i wr => ∃ k : Nat, k ≤ n ∧ i = .int .i64 k ∧ Hid (Below w.heap.size w wr) ∧ ∃ s : Int, v = .int .i64 s ∧ 0 ≤ s ∧ s ≤ 1099511627776 ∧ Hid (s ≤ 20000 → (n : Int) ≤ s ∧ ∀ p ∈ ps.take k, (p.n : Int) ≤ s)) (fun _ i _ => n - (intOf i).toNat)
 case atStart => exact ⟨0, Nat.zero_le _, rfl, Lib.hid hW0, s, rfl, s0, s1, Lib.hid fun q => ⟨HS0.out q, by simp⟩⟩
 case round =>
  obtain ⟨k, hk, rfl, HW, s, rfl, hs0, hs1, HS⟩ := hrel
  clear hW0
  by_cases hlt : k < n
  · by_cases hst : s ≤ 20000
    · have t0 : decide (s ≤ 20000) = true := decide_eq_true hst
      obtain ⟨p, hp⟩ : ∃ p, ps[k]'(by rw [h.len]; exact hlt) = p := ⟨_, rfl⟩
      obtain ⟨ad, rfl, had, c0, c1⟩ := two_get put_two (h.rd.next (Nat.le_refl _) HW.out) (k := k) (by rw [h.len]; exact hlt) (u := .int .i64 p.lba) (v := .slice p.A p.n p.c) (by rw [hp]; rfl)
      have hpm : p ∈ ps := by rw [← hp]; exact List.getElem_mem _
      have hpn := HD.out.1 p hpm
      have hb := HD.out.2.1
      have hx : (p.n : Int) ≤ 9223372036854775807 := by omega
      have HP := Lib.hid (show ps.take (k + 1) = ps.take k ++ [p] by rw [List.take_succ_eq_append_getElem (by rw [h.len]; exact hlt), hp])
      clear hp hpn hb had hpm
      have n0 : (k : Int) < (n : Int) := by omega
      have n1 : (0 : Int) ≤ (k : Int) := by omega
      have m2 : wrap64 ((k : Int) + 1) = (k : Int) + 1 := by unfold wrap64; have := HD.out.2; omega
      go_wp2_with fail
      refine (asum_any s _ 1 1 _ [(p.n : Int)] _ (by exact (Bk.new wr 3 [Value.int .i64 (p.n : Int)]).rd) (by rfl) (by omega) (by intro x hx; simp at hx; subst hx; omega) (by omega)).mono ?_
      rintro e w' ⟨⟨q, rfl, q0, q1, qs⟩, rfl⟩
      have HQ := Lib.hid (show q ≤ 20000 → (n : Int) ≤ q ∧ ∀ p ∈ ps.take (k + 1), (p.n : Int) ≤ q from fun hq => by
       have e1 : q = s + (p.n : Int) := by
        rcases qs with e | e
        · simp at e; omega
        · omega
       obtain ⟨a1, a2⟩ := HS.out hst
       refine ⟨by omega, fun y hy => ?_⟩
       rw [HP.out] at hy
       rcases List.mem_append.1 hy with r | r
       · have := a2 y r; omega
       · obtain rfl : y = p := by simpa using r
         omega)
      have HW2 := Lib.hid (show Below w.heap.size w (wr.alloc (.cells #[Value.int .i64 (p.n : Int)] 3)) from HW.out.alloc HW.out.size _)
      clear qs
      go_wp2_with fail
      go_roundw
      case rel => exact ⟨k + 1, hlt, int_succ (by first | rfl | exact m2), HW2, q, rfl, q0, q1, HQ⟩
      case measure => (try rw [m2]); exact sub_lt1 (x := (k : Int) + 1) hlt rfl
    · have t0 : decide (s ≤ 20000) = false := decide_eq_false hst
      have n0 : (k : Int) < (n : Int) := by omega
      go_wp2_with fail
      go_ret
      exact ⟨⟨s, rfl, hs0, hs1, fun q => absurd q (by omega)⟩, HW.out⟩
  · obtain rfl : k = n := by omega
    have HF := Lib.hid (show puR k ps s from ⟨hs0, hs1, fun q => by have := HS.out q; rw [List.take_of_length_le (by rw [h.len]; exact Nat.le_refl _)] at this; exact this⟩)
    go_wp2_with fail
    go_ret
    exact ⟨⟨s, rfl, HF.out⟩, HW.out⟩
end
end Go.Proofs.YthhndleddlmgiaaGreatDoor.Tp
