/- Contracts of the program's functions, and laws on memory: a part of the proof of TopRoom. -/
import Derived.Test.YthhndleddlmgiaaGreatDoorZB
import Derived.Test.YthhndleddlmgiaaGreatDoorProg
import Derived.LoopTactic
import Derived.LoopN
import Derived.Lib.Hide
import Derived.Deep.DeepMust
import Derived.Laws.MakeOwn
import Derived.Laws.Entries
import Derived.WalkSpells
import Derived.WalkMore
import Derived.IntWalk
import Derived.Shelf.Abstract
import Derived.Deep.QuietTactic
import Derived.BigQuiet
namespace Go.Proofs.YthhndleddlmgiaaGreatDoor.Tp
set_option maxHeartbeats 8000000
set_option maxRecDepth 100000
set_option linter.unusedSimpArgs false
set_option linter.unusedVariables false
section
open Go.RowKit
theorem Ag.grown {F : Foot} {w w' : World} {B e size n : Nat} {v : Value} {xs : List Value} (ho : w.ownsRow B e size v n xs) (he : e ≠ 5) (hg : w.grownBy w' v.ownBlock) (hF : ∀ g, v.ownBlock = some g → ¬ F g) : Ag F w w' :=
 ⟨hg.size, fun b ob hb hn => by
  rw [hg.block b (lt_of hb) (fun q => by
   rcases hn with r | ⟨cs, fr, rfl⟩
   · exact hF b q.symm r
   · obtain ⟨_, _, hh⟩ := own_at ho q.symm
     rw [hb] at hh
     injection hh with hh
     injection hh with _ hh _
     exact he hh.symm)]
  exact hb⟩
theorem five_get {w : World} {B : Nat} {A : Option Addr} {l : List BD} (h : Rd w B A (l.flatMap BD.cells)) {k : Nat} (hk : k < l.length) {x : BD} (hx : l[k] = x) :
  ∃ ad, A = some ad ∧ ad.block < B ∧ w.cell? (ad.add (k * 5)) = some (.int .i64 x.kind) ∧ w.cell? ⟨(ad.add (k * 5)).block, (ad.add (k * 5)).off + 1, none⟩ = some (.int .i64 0) ∧ w.cell? ⟨(ad.add (k * 5)).block, (ad.add (k * 5)).off + 2, none⟩ = some (.int .i64 x.seq) ∧ w.cell? ⟨(ad.add (k * 5)).block, (ad.add (k * 5)).off + 3, none⟩ = some (.int .i64 x.lba) ∧ w.cell? ⟨(ad.add (k * 5)).block, (ad.add (k * 5)).off + 4, none⟩ = some (.slice x.A x.n x.c) := by
 obtain ⟨ad, e, hb, hc⟩ := h (by rw [flat_len bd_five]; omega)
 have key : ∀ j, j < 5 → ∀ u, x.cells[j]? = some u → w.cell? (ad.add (k * 5 + j)) = some u := fun j hj u hu => hc _ _ (by rw [flat_get bd_five hk hj, hx]; exact hu)
 have h0 := key 0 (by omega) _ rfl
 have h1 := key 1 (by omega) _ rfl
 have h2 := key 2 (by omega) _ rfl
 have h3 := key 3 (by omega) _ rfl
 have h4 := key 4 (by omega) _ rfl
 rw [Nat.add_zero] at h0
 rw [← add_twice] at h1 h2 h3 h4
 exact ⟨ad, e, hb, h0, h1, h2, h3, h4⟩
def zc (k j : Nat) : Nat := min 96 (k - 96 * j)
theorem zc_at (k : Nat) : zc k (k / 96) < 96 := by unfold zc; omega
theorem zc_same (k : Nat) : zc (k + 1) (k / 96) = zc k (k / 96) + 1 := by unfold zc; omega
theorem zc_other {k j : Nat} (h : j ≠ k / 96) : zc (k + 1) j = zc k j := by
 unfold zc
 rcases Nat.lt_or_ge j (k / 96) with q | q
 · omega
 · have : k / 96 + 1 ≤ j := by omega
   omega
theorem div_lt3 {k : Nat} (h : k < 288) : k / 96 < 3 := by omega
theorem wrap_q {q : Nat} (h : q < 3) : wrap64 (q : Int) = (q : Int) ∧ wrap64 (3 + (q : Int)) = 3 + (q : Int) ∧ ((0 + q : Nat) : Int) = (q : Int) ∧ ((3 + q : Nat) : Int) = 3 + (q : Int) := by unfold wrap64; omega
theorem wrap_qk {q : Nat} (h : q < 3) : IntKind.i64.wrap (q : Int) = (q : Int) ∧ IntKind.i64.wrap (3 + (q : Int)) = 3 + (q : Int) := ⟨IntWalk.i64_in _ (by omega), IntWalk.i64_in _ (by omega)⟩
theorem quo96 (k : Nat) : ((k : Int).tdiv 96) = ((k / 96 : Nat) : Int) := by rw [Int.tdiv_eq_ediv_of_nonneg (by omega)]; rfl
structure ZS (fr k : Nat) (ns0 ns : List Nat) : Prop where
 len : ns.length = 8
 at' : ∀ j, j < 3 → ns[fr + j]? = some (zc k j)
 hi : ∀ j, 6 ≤ j → ns[j]? = ns0[j]?
theorem ZS.step {fr k : Nat} {ns0 ns : List Nat} (h : ZS fr k ns0 ns) (hk : k < 288) (hf : fr ≤ 3) : ZS fr (k + 1) ns0 (ns.set (fr + k / 96) (zc k (k / 96) + 1)) := by
 have hq : k / 96 < 3 := by omega
 refine ⟨by rw [List.length_set]; exact h.len, fun j hj => ?_, fun j hj => ?_⟩
 · rw [List.getElem?_set]
   by_cases e : k / 96 = j
   · subst e
     rw [if_pos rfl, if_pos (by rw [h.len]; omega), zc_same]
   · rw [if_neg (by omega), h.at' j hj, zc_other (fun q => e q.symm)]
 · rw [List.getElem?_set, if_neg (by omega)]
   exact h.hi j hj
structure ZE (fr k : Nat) (ns0 ns : List Nat) : Prop where
 len : ns.length = 8
 at' : ∀ j, j < k → ns[fr + j]? = some 0
 hi : ∀ j, 6 ≤ j → ns[j]? = ns0[j]?
theorem ZE.zs {fr : Nat} {ns0 ns : List Nat} (h : ZE fr 3 ns0 ns) : ZS fr 0 ns0 ns := ⟨h.len, fun j hj => by rw [h.at' j hj]; unfold zc; simp, h.hi⟩
theorem ZE.step {fr k : Nat} {ns0 ns : List Nat} (h : ZE fr k ns0 ns) (hk : k < 3) (hf : fr ≤ 3) : ZE fr (k + 1) ns0 (ns.set (fr + k) 0) := by
 refine ⟨by rw [List.length_set]; exact h.len, fun j hj => ?_, fun j hj => ?_⟩
 · rw [List.getElem?_set]
   by_cases e : k = j
   · subst e; rw [if_pos rfl, if_pos (by rw [h.len]; omega)]
   · rw [if_neg (by omega)]; exact h.at' j (by omega)
 · rw [List.getElem?_set, if_neg (by omega)]
   exact h.hi j hj
theorem ZE.skip {fr k : Nat} {ns0 ns : List Nat} (h : ZE fr k ns0 ns) (h0 : ns[fr + k]? = some 0) : ZE fr (k + 1) ns0 ns :=
 ⟨h.len, fun j hj => by
  rcases Nat.lt_or_ge j k with q | q
  · exact h.at' j q
  · have e : j = k := by omega
    rw [e]; exact h0, h.hi⟩
theorem Dev.len {w : World} {F : Foot} {gd : Nat} {ns : List Nat} (h : Dev w F gd ns) : ns.length = 8 := by
 obtain ⟨_, _, _, _, zs, hx, hn⟩ := h
 rw [← hn, List.length_map]; exact hx.zl
theorem write0 (F : Foot) (gd gs count : Nat) (inn : Int) (v : Value) (bt : List Int) (ns : List Nat) (nn : Int) (A : Option Addr) (n c : Nat) (bs : List Int) (w : World) (hd : Dev w F gd ns) (h : SloX w gd gs inn v bt count) (hI : In w F) (hg : ¬ F gs) (hnn : 0 ≤ nn ∧ nn ≤ 1099511627776) (ht : IsY w A n c bs) (hn : n ≤ 11440) :
  Calls Tryz.prog 99 #[.pointer (some ⟨gs, 0, none⟩), .int .i64 0, .int .i64 nn, .slice A n c] w fun e w' => e = .returned (.int .i64 0) ∧ ∃ F' ns', Dev w' F' gd ns' ∧ (∀ j, 6 ≤ j → ns'[j]? = ns[j]?) ∧ Kf F w w' ∧ Sb w F F' ∧ In w' F' := by
 obtain ⟨xi, xz, hxi, hxz, hx5, hx56, hxc⟩ := infoBls
 have hne : ∀ b, (fun b => b = gs) b → ¬ F b := fun b q r => hg (by rw [← q]; exact r)
 have SL := Lib.hid (fun w' (k : Kf F w w') => h.ag (k.ag (F := fun b => b = gs) hne) rfl)
 obtain ⟨c0, c1, c2, c3, c4, c5, c6, c7, c8⟩ := h.bx.c9
 have HA := Lib.hid (And.intro hI (And.intro hg (And.intro hnn (And.intro ht hn))))
 have hlen := hd.len
 clear h hg hnn ht hn hI hne
 go_enter Tryz.func99, Tryz.ntmps99
 go_wp2_with fail
 go_loopw [9] (fun z wr => ∃ (k : Nat) (ns1 : List Nat), k ≤ 3 ∧ z = .int .i64 (k : Int) ∧ ZE 0 k ns ns1 ∧ Dev wr F gd ns1 ∧ Kf F w wr) (fun z _ => 0 + 3 - (intOf z).toNat)
 case atStart => exact ⟨0, ns, by omega, rfl, ⟨hlen, fun j hj => absurd hj (by omega), fun j _ => rfl⟩, hd, Kf.refl F w⟩
 case round =>
  clear c0 c1 c2 c3 c4 c5 c6 c7 c8 hd hlen
  obtain ⟨k, ns1, hk, rfl, hZ, hD, hK⟩ := hrel
  obtain ⟨c0, c1, c2, c3, c4, c5, c6, c7, c8⟩ := (SL.out wr hK).bx.c9
  by_cases hlt : k < 3
  · have n0 : (k : Int) < 3 := by omega
    have eZ : ((0 + k : Nat) : Int) = (k : Int) := by omega
    obtain ⟨q, hq⟩ : ∃ q, ns1[0 + k]? = some q := ⟨_, List.getElem?_eq_getElem (by have := hZ.len; omega)⟩
    have hp := pointerD hD hq
    rw [eZ] at hp
    have hW := Lib.hid (And.intro hZ (And.intro hD (And.intro hK hq)))
    clear hZ hD hK
    go_wp2_with fail
    refine hp.mono ?_
    rintro e w' ⟨rfl, rfl⟩
    clear hp hq
    by_cases hq0 : q = 0
    · subst hq0
      go_wp2_with fail
      go_roundw
      case rel => exact ⟨k + 1, ns1, hlt, by go_num, hW.out.1.skip hW.out.2.2.2, hW.out.2.1, hW.out.2.2.1⟩
      case measure => simp [intOf]; omega
    · have n1 : (0 : Int) < (q : Int) := by omega
      have hr := reset_any F gd ns1 (0 + k) q wr hW.out.2.1 hW.out.2.2.2
      rw [eZ] at hr
      go_wp2_with fail
      refine hr.mono ?_
      rintro e w2 ⟨rfl, hD2, hK2⟩
      have HE := Lib.hid (And.intro hD2 (hW.out.2.2.1.trans hK2 (fun b q => .inl q)))
      clear hD2 hK2 hr
      go_wp2_with fail
      go_roundw
      case rel => exact ⟨k + 1, _, hlt, by go_num, hW.out.1.step hlt (by omega), HE.out.1, HE.out.2⟩
      case measure => simp [intOf]; omega
  · obtain rfl : k = 3 := by omega
    have n0 : ¬ (((3 : Nat) : Int) < 3) := by omega
    obtain ⟨g5, w5, hg5, hw5, hB5, hb5⟩ := alloc_of wr 248 [.int .i64 3, .int .i64 0, .int .i64 nn, .int .i64 0, .slice none 0 0]
    subst hg5
    have hO5 : w5.ownsRow w.heap.size 248 5 (.slice (some ⟨wr.heap.size, 0, none⟩) 1 1) 1 ([(⟨3, nn, 0, none, 0, 0, []⟩ : BD)].flatMap BD.cells) := by
     rw [← hw5]
     exact World.ownsRow_lit wr #[.int .i64 3, .int .i64 0, .int .i64 nn, .int .i64 0, .slice none 0 0] 1 hK.size (by decide) rfl
    have hok : ∀ x ∈ [(⟨3, nn, 0, none, 0, 0, []⟩ : BD)], x.ok w5 := fun x hx => by
     obtain rfl : x = ⟨3, nn, 0, none, 0, 0, []⟩ := by simpa using hx
     exact ⟨show (1 : Int) ≤ 3 ∧ (3 : Int) ≤ 4 by decide, HA.out.2.2.1, show (0 : Int) ≤ 0 ∧ (0 : Int) ≤ 1048576 by decide, IsY.nil w5 0 (Nat.zero_le _), Nat.zero_le _⟩
    have hK5 := hK.next hb5
    have H5 := Lib.hid (And.intro (hD.ag (.of_below hb5)) (And.intro hK5 (And.intro (HA.out.2.2.2.1.ag (hK5.ag (F := fun _ => False) (fun _ q => q.elim))) (And.intro hO5 hok))))
    have HZ := Lib.hid hZ
    have hn := HA.out.2.2.2.2
    clear hZ hD hK hb5 hB5 hK5 hO5 hok hk hlt
    go_wp2_with fail
    clear c0 c1 c2 c3 c4 c5 c6 c7 c8
    go_loopw [13, 14] (fun l av wr => ∃ (m : Nat) (rs : List BD), av = .int .i64 (40 * (m : Int)) ∧ 40 * m < n + 40 ∧ rs.length = m + 1 ∧ wr.ownsRow w.heap.size 248 5 l (m + 1) (rs.flatMap BD.cells) ∧ Hid ((∀ x ∈ rs, x.ok wr) ∧ Dev wr F gd ns1 ∧ Kf F w wr ∧ IsY wr A n c bs)) (fun _ av _ => n + 40 - (intOf av).toNat)
    case atStart => exact ⟨0, _, rfl, by omega, rfl, H5.out.2.2.2.1, Lib.hid ⟨H5.out.2.2.2.2, H5.out.1, H5.out.2.1, H5.out.2.2.1⟩⟩
    case round =>
     obtain ⟨m, rs, rfl, hm, hrl, hO, HW⟩ := hrel
     obtain ⟨lA, lc, rfl⟩ := own_shape hO
     by_cases hlt : 40 * m < n
     · have n1 : 40 * (m : Int) < (n : Int) := by omega
       have n2 : (0 : Int) ≤ 40 * (m : Int) := by omega
       have wk : wrap64 (40 * (m : Int) + 40) = 40 * (m : Int) + 40 := by unfold wrap64; omega
       have hyl := HW.out.2.2.2.b.len
       obtain ⟨ad, hAd, _⟩ := HW.out.2.2.2.b.rd (by rw [List.length_map]; omega)
       subst hAd
       have hcap := HW.out.2.2.2.b.cap
       by_cases hlast : (n : Int) < 40 * (m : Int) + 40
       · skip
         have hL : 40 * m + (n - 40 * m) ≤ n ∧ (n - 40 * m) ≤ 40 := by omega
         have hy := HW.out.2.2.2.sub (i := 40 * m) (j := 40 * m + (n - 40 * m)) (by omega) (by omega) (by omega)
         rw [show 40 * m + (n - 40 * m) - 40 * m = (n - 40 * m) by omega] at hy
         obtain ⟨bd, hbd⟩ : ∃ bd : BD, (⟨1, nn, 0, some (ad.add (40 * m)), (n - 40 * m), c - 40 * m, (bs.drop (40 * m)).take (n - 40 * m)⟩ : BD) = bd := ⟨_, rfl⟩
         obtain ⟨g7, w7, hg7, hw7, hB7, hb7⟩ := alloc_of wr 248 [.int .i64 1, .int .i64 0, .int .i64 nn, .int .i64 0, .slice (some (ad.add (40 * m))) (n - 40 * m) (c - 40 * m)]
         subst hg7
         have hbk : Rd w7 w7.heap.size (some ⟨wr.heap.size, 0, none⟩) (BD.cells bd) := by rw [← hbd]; exact hB7.rd
         have hK7 := HW.out.2.2.1.next hb7
         have hbo : bd.ok wr := by rw [← hbd]; exact ⟨show (1 : Int) ≤ 1 ∧ (1 : Int) ≤ 4 by decide, HA.out.2.2.1, show (0 : Int) ≤ 0 ∧ (0 : Int) ≤ 1048576 by decide, hy, hL.2⟩
         have HI := Lib.hid (And.intro (own_bel' hO hb7) (And.intro hbk hK7.size))
         have HJ := Lib.hid (And.intro hb7 (And.intro hK7 (And.intro hbo hrl)))
         clear hO hrl hyl hy hbd hB7 hb7 hbk hK7 hbo hL
         go_wp2_with (at_builtin; go_must (refine wpList_appM _ rfl _ _ 259 rfl w.heap.size 248 xi xz 5 56 Tryz.underlying259 hxi hxz hx5 hx56 hxc (by omega) _ (m + 1) (rs.flatMap BD.cells) (by rfl) (by exact HI.out.1) w7.heap.size (some ⟨wr.heap.size, 0, none⟩) 1 1 (BD.cells bd) (by rfl) rfl (by exact HI.out.2.1) (by intro u hu; simp [BD.cells] at hu; rcases hu with rfl | rfl | rfl | rfl | rfl <;> rfl) (by omega) (by omega) (by exact HI.out.2.2) ?_); intro v9 w9 hO9 hG9 hn9)
         have hnF : ∀ g, (Value.slice lA (m + 1) lc).ownBlock = some g → ¬ F g := fun g hg hf => by
          have := own_at_ge HI.out.1 hg
          have := HA.out.1 g hf
          omega
         have hAg : Ag F wr w9 := (Ag.of_below HJ.out.1).trans (Ag.grown HI.out.1 (by decide) hG9 hnF)
         have HN := Lib.hid (show (∀ x ∈ rs ++ [bd], x.ok w9) ∧ Dev w9 F gd ns1 ∧ Kf F w w9 ∧ IsY w9 (some ad) n c bs from
          ⟨fun x hx => by
           rcases List.mem_append.1 hx with q | q
           · exact (HW.out.1 x q).ag hAg
           · obtain rfl : x = bd := by simpa using q
             exact HJ.out.2.2.1.ag hAg, HW.out.2.1.ag hAg, HJ.out.2.1.grown HI.out.1 hG9 (fun g hg => .inr (own_at_ge HI.out.1 hg)), HW.out.2.2.2.ag hAg⟩)
         clear hAg hnF hG9 hn9
         go_roundw
         case rel => exact ⟨m + 1, rs ++ [bd], by go_num, by omega, by rw [List.length_append, HJ.out.2.2.2]; rfl, by rw [List.flatMap_append]; simpa using hO9, HN⟩
         case measure => simp [intOf]; omega
       · skip
         have hL : 40 * m + 40 ≤ n ∧ 40 ≤ 40 := by omega
         have hy := HW.out.2.2.2.sub (i := 40 * m) (j := 40 * m + 40) (by omega) (by omega) (by omega)
         rw [show 40 * m + 40 - 40 * m = 40 by omega] at hy
         obtain ⟨bd, hbd⟩ : ∃ bd : BD, (⟨1, nn, 0, some (ad.add (40 * m)), 40, c - 40 * m, (bs.drop (40 * m)).take 40⟩ : BD) = bd := ⟨_, rfl⟩
         obtain ⟨g7, w7, hg7, hw7, hB7, hb7⟩ := alloc_of wr 248 [.int .i64 1, .int .i64 0, .int .i64 nn, .int .i64 0, .slice (some (ad.add (40 * m))) 40 (c - 40 * m)]
         subst hg7
         have hbk : Rd w7 w7.heap.size (some ⟨wr.heap.size, 0, none⟩) (BD.cells bd) := by rw [← hbd]; exact hB7.rd
         have hK7 := HW.out.2.2.1.next hb7
         have hbo : bd.ok wr := by rw [← hbd]; exact ⟨show (1 : Int) ≤ 1 ∧ (1 : Int) ≤ 4 by decide, HA.out.2.2.1, show (0 : Int) ≤ 0 ∧ (0 : Int) ≤ 1048576 by decide, hy, hL.2⟩
         have HI := Lib.hid (And.intro (own_bel' hO hb7) (And.intro hbk hK7.size))
         have HJ := Lib.hid (And.intro hb7 (And.intro hK7 (And.intro hbo hrl)))
         clear hO hrl hyl hy hbd hB7 hb7 hbk hK7 hbo hL
         go_wp2_with (at_builtin; go_must (refine wpList_appM _ rfl _ _ 259 rfl w.heap.size 248 xi xz 5 56 Tryz.underlying259 hxi hxz hx5 hx56 hxc (by omega) _ (m + 1) (rs.flatMap BD.cells) (by rfl) (by exact HI.out.1) w7.heap.size (some ⟨wr.heap.size, 0, none⟩) 1 1 (BD.cells bd) (by rfl) rfl (by exact HI.out.2.1) (by intro u hu; simp [BD.cells] at hu; rcases hu with rfl | rfl | rfl | rfl | rfl <;> rfl) (by omega) (by omega) (by exact HI.out.2.2) ?_); intro v9 w9 hO9 hG9 hn9)
         have hnF : ∀ g, (Value.slice lA (m + 1) lc).ownBlock = some g → ¬ F g := fun g hg hf => by
          have := own_at_ge HI.out.1 hg
          have := HA.out.1 g hf
          omega
         have hAg : Ag F wr w9 := (Ag.of_below HJ.out.1).trans (Ag.grown HI.out.1 (by decide) hG9 hnF)
         have HN := Lib.hid (show (∀ x ∈ rs ++ [bd], x.ok w9) ∧ Dev w9 F gd ns1 ∧ Kf F w w9 ∧ IsY w9 (some ad) n c bs from
          ⟨fun x hx => by
           rcases List.mem_append.1 hx with q | q
           · exact (HW.out.1 x q).ag hAg
           · obtain rfl : x = bd := by simpa using q
             exact HJ.out.2.2.1.ag hAg, HW.out.2.1.ag hAg, HJ.out.2.1.grown HI.out.1 hG9 (fun g hg => .inr (own_at_ge HI.out.1 hg)), HW.out.2.2.2.ag hAg⟩)
         clear hAg hnF hG9 hn9
         go_roundw
         case rel => exact ⟨m + 1, rs ++ [bd], by go_num, by omega, by rw [List.length_append, HJ.out.2.2.2]; rfl, by rw [List.flatMap_append]; simpa using hO9, HN⟩
         case measure => simp [intOf]; omega
     · have n1 : ¬ (40 * (m : Int) < (n : Int)) := by omega
       have hta := tail_any A n c bs wr HW.out.2.2.2 (by omega)
       have wk : wrap64 (m : Int) = (m : Int) := by unfold wrap64; omega
       have HM := Lib.hid (show m ≤ 286 by omega)
       have HO := Lib.hid (And.intro hO hrl)
       clear hO hrl
       go_wp2_with fail
       refine hta.mono ?_
       rintro e w6 ⟨⟨v6, b6, rfl, hY6, l6⟩, hb6⟩
       obtain ⟨A6, e6, rfl, hy6⟩ := hY6.isY
       have L6 := Lib.hid l6
       obtain ⟨bd, hbd⟩ : ∃ bd : BD, (⟨2, nn, (m : Int), A6, b6.length, e6, b6⟩ : BD) = bd := ⟨_, rfl⟩
       obtain ⟨g7, w7, hg7, hw7, hB7, hb7⟩ := alloc_of w6 248 [.int .i64 2, .int .i64 0, .int .i64 nn, .int .i64 (m : Int), .slice A6 b6.length e6]
       subst hg7
       have hb67 := hb6.trans (hb7.mono hb6.size)
       have hbk : Rd w7 w7.heap.size (some ⟨w6.heap.size, 0, none⟩) (BD.cells bd) := by rw [← hbd]; exact hB7.rd
       have hbo : bd.ok w7 := by rw [← hbd]; exact ⟨show (1 : Int) ≤ 2 ∧ (2 : Int) ≤ 4 by decide, HA.out.2.2.1, show (0 : Int) ≤ (m : Int) ∧ (m : Int) ≤ 1048576 by have := HM.out; omega, hy6.ag (F := fun _ => False) (.of_below hb7), show b6.length ≤ 40 by omega⟩
       have hK7 := HW.out.2.2.1.next hb67
       have HI := Lib.hid (And.intro (own_bel' HO.out.1 hb67) (And.intro hbk hK7.size))
       have HJ := Lib.hid (And.intro hb67 (And.intro hK7 (And.intro hbo HO.out.2)))
       clear hbd hb67 hbk hbo hK7 hb6 hb7 hB7 hy6 hY6 l6 hta n1
       go_wp2_with (at_builtin; go_must (refine wpList_appM _ rfl _ _ 259 rfl w.heap.size 248 xi xz 5 56 Tryz.underlying259 hxi hxz hx5 hx56 hxc (by omega) _ (m + 1) (rs.flatMap BD.cells) (by rfl) (by exact HI.out.1) w7.heap.size (some ⟨w6.heap.size, 0, none⟩) 1 1 (BD.cells bd) (by rfl) rfl (by exact HI.out.2.1) (by intro u hu; simp [BD.cells] at hu; rcases hu with rfl | rfl | rfl | rfl | rfl <;> rfl) (by omega) (by omega) (by exact HI.out.2.2) ?_); intro v9 w9 hO9 hG9 hn9; obtain ⟨vA, vc, rfl⟩ := own_shape hO9; obtain ⟨T, hT⟩ : ∃ T, m + 1 + 1 = T := ⟨_, rfl⟩; rw [hT] at hO9 ⊢; have HT := Lib.hid hT; clear hT)
       have hnF : ∀ g, (Value.slice lA (m + 1) lc).ownBlock = some g → ¬ F g := fun g hg hf => by
        have := own_at_ge HI.out.1 hg
        have := HA.out.1 g hf
        omega
       have hA1 : Ag F wr w7 := Ag.of_below HJ.out.1
       have hA2 : Ag F w7 w9 := Ag.grown HI.out.1 (by decide) hG9 hnF
       have hAg := hA1.trans hA2
       have hTl : (rs ++ [bd]).length = T := by rw [List.length_append, HJ.out.2.2.2]; exact HT.out
       have hTb : T ≤ 288 := by have := HM.out; have := HT.out; omega
       have HN := Lib.hid (show (∀ x ∈ rs ++ [bd], x.ok w9) ∧ Dev w9 F gd ns1 ∧ Kf F w w9 ∧ w9.ownsRow w.heap.size 248 5 (.slice vA T vc) T ((rs ++ [bd]).flatMap BD.cells) from
        ⟨fun x hx => by
         rcases List.mem_append.1 hx with q | q
         · exact (HW.out.1 x q).ag hAg
         · obtain rfl : x = bd := by simpa using q
           exact HJ.out.2.2.1.ag hA2, HW.out.2.1.ag hAg, HJ.out.2.1.grown HI.out.1 hG9 (fun g hg => .inr (own_at_ge HI.out.1 hg)), by rw [List.flatMap_append]; simpa using hO9⟩)
       obtain ⟨R, hR⟩ : ∃ R, rs ++ [bd] = R := ⟨_, rfl⟩
       rw [hR] at HN hTl
       clear hAg hA1 hA2 hnF hG9 hn9 hO9 hR HW HO HI HJ
       go_loopw [90] (fun i wr => ∃ (k : Nat) (ns2 : List Nat) (Fk : Foot), k ≤ T ∧ i = .int .i64 (k : Int) ∧ Hid (ZS 0 k ns ns2 ∧ Dev wr Fk gd ns2 ∧ Kf F w9 wr ∧ Sb w9 F Fk ∧ In wr Fk)) (fun i _ => T - (intOf i).toNat)
       case atStart => exact ⟨0, ns1, F, Nat.zero_le _, rfl, Lib.hid ⟨HZ.out.zs, HN.out.2.1, Kf.refl F w9, Sb.refl _ _, HA.out.1.next HN.out.2.2.1.size⟩⟩
       case round =>
        obtain ⟨k, ns2, Fk, hk, rfl, HD⟩ := hrel
        have hgF : ¬ Fk gs := fun q => by
         rcases HD.out.2.2.2.1 gs q with r | r
         · exact HA.out.2.1 r
         · have := (SL.out w9 HN.out.2.2.1).bx.lt
           omega
        have hKw : Kf F w wr := HN.out.2.2.1.trans HD.out.2.2.1 (fun b q => .inl q)
        obtain ⟨c0, c1, c2, c3, c4, c5, c6, c7, c8⟩ := (SL.out wr hKw).bx.c9
        by_cases hlt : k < T
        · obtain ⟨x, hxk⟩ : ∃ x, R[k]'(by omega) = x := ⟨_, rfl⟩
          have hxm : x ∈ R := by rw [← hxk]; exact List.getElem_mem _
          have hdis : Dis (fun b => (Value.slice vA T vc).ownBlock = some b) F := fun b q r => by
           have := own_at_ge HN.out.2.2.2 q
           have := HA.out.1 b r
           omega
          have hrow := own_ag HN.out.2.2.2 (HD.out.2.2.1.ag hdis) (fun g hg => hg)
          obtain ⟨ad, eA, had, d0, d1, d2, d3, d4⟩ := five_get (rd_of_own hrow) (k := k) (by omega) hxk
          have hxo := (HN.out.1 x hxm).ag (HD.out.2.2.1.ag (F := fun _ => False) (fun _ q => q.elim))
          subst eA
          obtain ⟨w10, hw10⟩ : ∃ w10, wr.alloc (.cells #[.int .i64 x.kind, .int .i64 0, .int .i64 x.seq, .int .i64 x.lba, .slice x.A x.n x.c] 248) = w10 := ⟨_, rfl⟩
          have hB10 : Bk w10 wr.heap.size 248 [.int .i64 x.kind, .int .i64 0, .int .i64 x.seq, .int .i64 x.lba, .slice x.A x.n x.c] := by rw [← hw10]; exact Bk.new wr _ _
          have hb10 : Below wr.heap.size wr w10 := by rw [← hw10]; exact (Below.refl _ _).alloc (Nat.le_refl _) _
          obtain ⟨f0, f1, f2, f3, f4⟩ := hB10.c5
          have n1 : (k : Int) < (T : Int) := by omega
          have n2 : (0 : Int) ≤ (k : Int) := by omega
          have hxo10 := hxo.ag (F := fun _ => False) (.of_below hb10)
          have hen := encode_any x.kind 0 x.seq x.lba x.A x.n x.c x.bs w10 hxo10.k ⟨by omega, by omega⟩ hxo10.s hxo10.l hxo10.y.b hxo10.n
          have HX := Lib.hid (And.intro hb10 (And.intro hgF hKw))
          clear hxk hxm hdis hrow hxo hxo10 hB10 hb10 had hgF hKw
          go_wp2_with fail
          refine hen.mono ?_
          rintro e w11 ⟨⟨pv, pb, rfl, hP, lP⟩, hb11⟩
          obtain ⟨pA, pc, rfl, hpy⟩ := hP.isY
          rw [lP] at hpy ⊢
          have hb011 := HX.out.1.trans (hb11.mono HX.out.1.size)
          have hS11 := SL.out w11 (HX.out.2.2.next hb011)
          have HP := Lib.hid (And.intro hpy (And.intro hb011 (HD.out.2.1.ag (.of_below hb011))))
          clear hP lP hpy hb11 hb011 hen d0 d1 d2 d3 d4 f0 f1 f2 f3 f4 c0 c1 c2 c3 c4 c5 c6 c7 c8
          obtain ⟨c0, c1, c2, c3, c4, c5, c6, c7, c8⟩ := hS11.bx.c9
          have q1 : ((k : Int).tdiv 96) = ((k / 96 : Nat) : Int) := quo96 k
          obtain ⟨q, hq⟩ : ∃ q, k / 96 = q := ⟨_, rfl⟩
          rw [hq] at q1
          have HQ := Lib.hid hq
          have hq3 : q < 3 := by rw [← hq]; exact div_lt3 (Nat.lt_of_lt_of_le hlt hTb)
          have w1q := (wrap_q hq3).1
          have w2q := (wrap_q hq3).2.1
          have w3q := (wrap_qk hq3).1
          have w4q := (wrap_qk hq3).2
          have hzi : ns2[0 + q]? = some (zc k q) := HD.out.1.at' q hq3
          have hzc : zc k q < 96 := by rw [← hq]; exact zc_at k
          have happ := append_any Fk gd ns2 (0 + q) (zc k q) pA pc pb w11.drew (HP.out.2.2.ag (.of_below (bdrew (Below.refl _ _)))) hzi hzc (HP.out.1.ag (F := fun _ => False) (.of_below (bdrew (Below.refl _ _)))) (fun b r => Nat.lt_of_lt_of_le (HD.out.2.2.2.2 b r) HP.out.2.1.size)
          rw [(wrap_q hq3).2.2.1] at happ
          have HAP := Lib.hid happ
          have SS := Lib.hid (fun (w' : World) (h : w'.cell? ⟨gs, 0, none⟩ = some (.pointer (some ⟨gd, 0, none⟩)) ∧ w'.cell? ⟨gs, 1, none⟩ = some (.int .i64 0) ∧ w'.cell? ⟨gs, 4, none⟩ = some (.int .i64 96)) => h)
          have HT2 := Lib.hid hk
          clear hS11 hq hzi hzc happ hk
          go_wp2_with fail
          have Kq := SS
          refine wp_region_held_drew (S := fun w' => w'.cell? ⟨gs, 0, none⟩ = some (.pointer (some ⟨gd, 0, none⟩)) ∧ w'.cell? ⟨gs, 1, none⟩ = some (.int .i64 0) ∧ w'.cell? ⟨gs, 4, none⟩ = some (.int .i64 96)) (by kernel_rfl) (⟨c0, c1, c4⟩) (fun hHeld => ?_)
          refine kF 0 ?_; refine kF 1 ?_; refine kF 2 ?_; refine kF 3 ?_; refine kF 4 ?_; refine kF 5 ?_; refine kF 6 ?_; refine kF 7 ?_; refine kF 8 ?_; refine kF 9 ?_; refine kF 10 ?_; refine kF 11 ?_
          refine kF 12 ?_; refine kF 13 ?_; refine kF 14 ?_; refine kF 15 ?_; refine kF 16 ?_; refine kF 17 ?_
          refine rF 18 (fun K hK => ?_)
          go_simp
          refine HAP.out.mono ?_
          rintro e w12 ⟨rfl, F2, hD2, hK2, hS2, hI2⟩
          have hk12 : Kf F w9 w12 := ((HD.out.2.2.1.next HP.out.2.1).drew).trans hK2 HD.out.2.2.2.1
          have hs12 := (SL.out w12 (HN.out.2.2.1.trans hk12 (fun b q => .inl q))).bx
          have hSc : w12.cell? ⟨gs, 0, none⟩ = some (.pointer (some ⟨gd, 0, none⟩)) ∧ w12.cell? ⟨gs, 1, none⟩ = some (.int .i64 0) ∧ w12.cell? ⟨gs, 4, none⟩ = some (.int .i64 96) := ⟨hs12.cell (i := 0) (by simp), hs12.cell (i := 1) (by simp), hs12.cell (i := 4) (by simp)⟩
          have HE := Lib.hid (show ZS 0 (k + 1) ns (ns2.set (0 + q) (zc k q + 1)) ∧ Dev w12 F2 gd (ns2.set (0 + q) (zc k q + 1)) ∧ Kf F w9 w12 ∧ Sb w9 F F2 ∧ In w12 F2 from ⟨by have h := HD.out.1.step (k := k) (Nat.lt_of_lt_of_le hlt hTb) (by decide); rw [HQ.out] at h; exact h, hD2, hk12, Sb.trans HD.out.2.2.2.1 hS2 (Nat.le_trans HD.out.2.2.1.size HP.out.2.1.size), hI2⟩)
          clear hD2 hK2 hS2 hI2 hk12 hs12
          go_simp
          refine hK.out _ _ (hSc) (fun hHeld2 => ?_)
          clear hK K hHeld
          have hHeld := hHeld2
          clear hHeld2
          try simp only [Act.put, List.setIfInBounds_toArray, List.set_cons_zero, List.set_cons_succ]
          refine kF 19 ?_; refine kF 20 ?_; refine kF 21 ?_; refine kF 22 ?_
          refine wpAnyH_done (by kernel_rfl) ?_ _
          clear Kq
          go_wp2_with fail
          go_roundw
          case rel => exact ⟨k + 1, _, F2, hlt, by go_num, HE.out⟩
          case measure => exact meas hlt
        · obtain rfl : k = T := by omega
          have n1 : ¬ ((k : Int) < (k : Int)) := by omega
          have hfl := dflush_any Fk gd ns2 wr HD.out.2.1
          have HE := Lib.hid (And.intro hKw hTb)
          clear hKw hgF hk hlt
          go_wp2_with fail
          refine hfl.mono ?_
          rintro e wz ⟨rfl, hDz, hKz⟩
          have hKwz : Kf F w wz := HE.out.1.trans hKz (fun b q => by
           rcases HD.out.2.2.2.1 b q with r | r
           · exact .inl r
           · exact .inr (Nat.le_trans HN.out.2.2.1.size r))
          have HF := Lib.hid (And.intro hDz (And.intro HD.out.1.hi (And.intro hKwz (And.intro (show Sb w F Fk from fun b q => by
           rcases HD.out.2.2.2.1 b q with r | r
           · exact .inl r
           · exact .inr (Nat.le_trans HN.out.2.2.1.size r)) (HD.out.2.2.2.2.next hKz.size)))))
          clear hDz hKz hKwz hfl
          go_wp2_with fail
          go_ret
          exact ⟨rfl, Fk, ns2, HF.out⟩
theorem write1 (F : Foot) (gd gs count : Nat) (inn : Int) (v : Value) (bt : List Int) (ns : List Nat) (nn : Int) (A : Option Addr) (n c : Nat) (bs : List Int) (w : World) (hd : Dev w F gd ns) (h : SloX w gd gs inn v bt count) (hI : In w F) (hg : ¬ F gs) (hnn : 0 ≤ nn ∧ nn ≤ 1099511627776) (ht : IsY w A n c bs) (hn : n ≤ 11440) :
  Calls Tryz.prog 99 #[.pointer (some ⟨gs, 0, none⟩), .int .i64 1, .int .i64 nn, .slice A n c] w fun e w' => e = .returned (.int .i64 0) ∧ ∃ F' ns', Dev w' F' gd ns' ∧ (∀ j, 6 ≤ j → ns'[j]? = ns[j]?) ∧ Kf F w w' ∧ Sb w F F' ∧ In w' F' := by
 obtain ⟨xi, xz, hxi, hxz, hx5, hx56, hxc⟩ := infoBls
 have hne : ∀ b, (fun b => b = gs) b → ¬ F b := fun b q r => hg (by rw [← q]; exact r)
 have SL := Lib.hid (fun w' (k : Kf F w w') => h.ag (k.ag (F := fun b => b = gs) hne) rfl)
 obtain ⟨c0, c1, c2, c3, c4, c5, c6, c7, c8⟩ := h.bx.c9
 have HA := Lib.hid (And.intro hI (And.intro hg (And.intro hnn (And.intro ht hn))))
 have hlen := hd.len
 clear h hg hnn ht hn hI hne
 go_enter Tryz.func99, Tryz.ntmps99
 go_wp2_with fail
 go_loopw [9] (fun z wr => ∃ (k : Nat) (ns1 : List Nat), k ≤ 3 ∧ z = .int .i64 (3 + (k : Int)) ∧ ZE 3 k ns ns1 ∧ Dev wr F gd ns1 ∧ Kf F w wr) (fun z _ => 3 + 3 - (intOf z).toNat)
 case atStart => exact ⟨0, ns, by omega, rfl, ⟨hlen, fun j hj => absurd hj (by omega), fun j _ => rfl⟩, hd, Kf.refl F w⟩
 case round =>
  clear c0 c1 c2 c3 c4 c5 c6 c7 c8 hd hlen
  obtain ⟨k, ns1, hk, rfl, hZ, hD, hK⟩ := hrel
  obtain ⟨c0, c1, c2, c3, c4, c5, c6, c7, c8⟩ := (SL.out wr hK).bx.c9
  by_cases hlt : k < 3
  · have n0 : (3 + (k : Int)) < 6 := by omega
    have eZ : ((3 + k : Nat) : Int) = (3 + (k : Int)) := by omega
    obtain ⟨q, hq⟩ : ∃ q, ns1[3 + k]? = some q := ⟨_, List.getElem?_eq_getElem (by have := hZ.len; omega)⟩
    have hp := pointerD hD hq
    rw [eZ] at hp
    have hW := Lib.hid (And.intro hZ (And.intro hD (And.intro hK hq)))
    clear hZ hD hK
    go_wp2_with fail
    refine hp.mono ?_
    rintro e w' ⟨rfl, rfl⟩
    clear hp hq
    by_cases hq0 : q = 0
    · subst hq0
      go_wp2_with fail
      go_roundw
      case rel => exact ⟨k + 1, ns1, hlt, by go_num, hW.out.1.skip hW.out.2.2.2, hW.out.2.1, hW.out.2.2.1⟩
      case measure => simp [intOf]; omega
    · have n1 : (0 : Int) < (q : Int) := by omega
      have hr := reset_any F gd ns1 (3 + k) q wr hW.out.2.1 hW.out.2.2.2
      rw [eZ] at hr
      go_wp2_with fail
      refine hr.mono ?_
      rintro e w2 ⟨rfl, hD2, hK2⟩
      have HE := Lib.hid (And.intro hD2 (hW.out.2.2.1.trans hK2 (fun b q => .inl q)))
      clear hD2 hK2 hr
      go_wp2_with fail
      go_roundw
      case rel => exact ⟨k + 1, _, hlt, by go_num, hW.out.1.step hlt (by omega), HE.out.1, HE.out.2⟩
      case measure => simp [intOf]; omega
  · obtain rfl : k = 3 := by omega
    have n0 : ¬ ((3 + ((3 : Nat) : Int)) < 6) := by omega
    obtain ⟨g5, w5, hg5, hw5, hB5, hb5⟩ := alloc_of wr 248 [.int .i64 3, .int .i64 0, .int .i64 nn, .int .i64 0, .slice none 0 0]
    subst hg5
    have hO5 : w5.ownsRow w.heap.size 248 5 (.slice (some ⟨wr.heap.size, 0, none⟩) 1 1) 1 ([(⟨3, nn, 0, none, 0, 0, []⟩ : BD)].flatMap BD.cells) := by
     rw [← hw5]
     exact World.ownsRow_lit wr #[.int .i64 3, .int .i64 0, .int .i64 nn, .int .i64 0, .slice none 0 0] 1 hK.size (by decide) rfl
    have hok : ∀ x ∈ [(⟨3, nn, 0, none, 0, 0, []⟩ : BD)], x.ok w5 := fun x hx => by
     obtain rfl : x = ⟨3, nn, 0, none, 0, 0, []⟩ := by simpa using hx
     exact ⟨show (1 : Int) ≤ 3 ∧ (3 : Int) ≤ 4 by decide, HA.out.2.2.1, show (0 : Int) ≤ 0 ∧ (0 : Int) ≤ 1048576 by decide, IsY.nil w5 0 (Nat.zero_le _), Nat.zero_le _⟩
    have hK5 := hK.next hb5
    have H5 := Lib.hid (And.intro (hD.ag (.of_below hb5)) (And.intro hK5 (And.intro (HA.out.2.2.2.1.ag (hK5.ag (F := fun _ => False) (fun _ q => q.elim))) (And.intro hO5 hok))))
    have HZ := Lib.hid hZ
    have hn := HA.out.2.2.2.2
    clear hZ hD hK hb5 hB5 hK5 hO5 hok hk hlt
    go_wp2_with fail
    clear c0 c1 c2 c3 c4 c5 c6 c7 c8
    go_loopw [13, 14] (fun l av wr => ∃ (m : Nat) (rs : List BD), av = .int .i64 (40 * (m : Int)) ∧ 40 * m < n + 40 ∧ rs.length = m + 1 ∧ wr.ownsRow w.heap.size 248 5 l (m + 1) (rs.flatMap BD.cells) ∧ Hid ((∀ x ∈ rs, x.ok wr) ∧ Dev wr F gd ns1 ∧ Kf F w wr ∧ IsY wr A n c bs)) (fun _ av _ => n + 40 - (intOf av).toNat)
    case atStart => exact ⟨0, _, rfl, by omega, rfl, H5.out.2.2.2.1, Lib.hid ⟨H5.out.2.2.2.2, H5.out.1, H5.out.2.1, H5.out.2.2.1⟩⟩
    case round =>
     obtain ⟨m, rs, rfl, hm, hrl, hO, HW⟩ := hrel
     obtain ⟨lA, lc, rfl⟩ := own_shape hO
     by_cases hlt : 40 * m < n
     · have n1 : 40 * (m : Int) < (n : Int) := by omega
       have n2 : (0 : Int) ≤ 40 * (m : Int) := by omega
       have wk : wrap64 (40 * (m : Int) + 40) = 40 * (m : Int) + 40 := by unfold wrap64; omega
       have hyl := HW.out.2.2.2.b.len
       obtain ⟨ad, hAd, _⟩ := HW.out.2.2.2.b.rd (by rw [List.length_map]; omega)
       subst hAd
       have hcap := HW.out.2.2.2.b.cap
       by_cases hlast : (n : Int) < 40 * (m : Int) + 40
       · skip
         have hL : 40 * m + (n - 40 * m) ≤ n ∧ (n - 40 * m) ≤ 40 := by omega
         have hy := HW.out.2.2.2.sub (i := 40 * m) (j := 40 * m + (n - 40 * m)) (by omega) (by omega) (by omega)
         rw [show 40 * m + (n - 40 * m) - 40 * m = (n - 40 * m) by omega] at hy
         obtain ⟨bd, hbd⟩ : ∃ bd : BD, (⟨1, nn, 0, some (ad.add (40 * m)), (n - 40 * m), c - 40 * m, (bs.drop (40 * m)).take (n - 40 * m)⟩ : BD) = bd := ⟨_, rfl⟩
         obtain ⟨g7, w7, hg7, hw7, hB7, hb7⟩ := alloc_of wr 248 [.int .i64 1, .int .i64 0, .int .i64 nn, .int .i64 0, .slice (some (ad.add (40 * m))) (n - 40 * m) (c - 40 * m)]
         subst hg7
         have hbk : Rd w7 w7.heap.size (some ⟨wr.heap.size, 0, none⟩) (BD.cells bd) := by rw [← hbd]; exact hB7.rd
         have hK7 := HW.out.2.2.1.next hb7
         have hbo : bd.ok wr := by rw [← hbd]; exact ⟨show (1 : Int) ≤ 1 ∧ (1 : Int) ≤ 4 by decide, HA.out.2.2.1, show (0 : Int) ≤ 0 ∧ (0 : Int) ≤ 1048576 by decide, hy, hL.2⟩
         have HI := Lib.hid (And.intro (own_bel' hO hb7) (And.intro hbk hK7.size))
         have HJ := Lib.hid (And.intro hb7 (And.intro hK7 (And.intro hbo hrl)))
         clear hO hrl hyl hy hbd hB7 hb7 hbk hK7 hbo hL
         go_wp2_with (at_builtin; go_must (refine wpList_appM _ rfl _ _ 259 rfl w.heap.size 248 xi xz 5 56 Tryz.underlying259 hxi hxz hx5 hx56 hxc (by omega) _ (m + 1) (rs.flatMap BD.cells) (by rfl) (by exact HI.out.1) w7.heap.size (some ⟨wr.heap.size, 0, none⟩) 1 1 (BD.cells bd) (by rfl) rfl (by exact HI.out.2.1) (by intro u hu; simp [BD.cells] at hu; rcases hu with rfl | rfl | rfl | rfl | rfl <;> rfl) (by omega) (by omega) (by exact HI.out.2.2) ?_); intro v9 w9 hO9 hG9 hn9)
         have hnF : ∀ g, (Value.slice lA (m + 1) lc).ownBlock = some g → ¬ F g := fun g hg hf => by
          have := own_at_ge HI.out.1 hg
          have := HA.out.1 g hf
          omega
         have hAg : Ag F wr w9 := (Ag.of_below HJ.out.1).trans (Ag.grown HI.out.1 (by decide) hG9 hnF)
         have HN := Lib.hid (show (∀ x ∈ rs ++ [bd], x.ok w9) ∧ Dev w9 F gd ns1 ∧ Kf F w w9 ∧ IsY w9 (some ad) n c bs from
          ⟨fun x hx => by
           rcases List.mem_append.1 hx with q | q
           · exact (HW.out.1 x q).ag hAg
           · obtain rfl : x = bd := by simpa using q
             exact HJ.out.2.2.1.ag hAg, HW.out.2.1.ag hAg, HJ.out.2.1.grown HI.out.1 hG9 (fun g hg => .inr (own_at_ge HI.out.1 hg)), HW.out.2.2.2.ag hAg⟩)
         clear hAg hnF hG9 hn9
         go_roundw
         case rel => exact ⟨m + 1, rs ++ [bd], by go_num, by omega, by rw [List.length_append, HJ.out.2.2.2]; rfl, by rw [List.flatMap_append]; simpa using hO9, HN⟩
         case measure => simp [intOf]; omega
       · skip
         have hL : 40 * m + 40 ≤ n ∧ 40 ≤ 40 := by omega
         have hy := HW.out.2.2.2.sub (i := 40 * m) (j := 40 * m + 40) (by omega) (by omega) (by omega)
         rw [show 40 * m + 40 - 40 * m = 40 by omega] at hy
         obtain ⟨bd, hbd⟩ : ∃ bd : BD, (⟨1, nn, 0, some (ad.add (40 * m)), 40, c - 40 * m, (bs.drop (40 * m)).take 40⟩ : BD) = bd := ⟨_, rfl⟩
         obtain ⟨g7, w7, hg7, hw7, hB7, hb7⟩ := alloc_of wr 248 [.int .i64 1, .int .i64 0, .int .i64 nn, .int .i64 0, .slice (some (ad.add (40 * m))) 40 (c - 40 * m)]
         subst hg7
         have hbk : Rd w7 w7.heap.size (some ⟨wr.heap.size, 0, none⟩) (BD.cells bd) := by rw [← hbd]; exact hB7.rd
         have hK7 := HW.out.2.2.1.next hb7
         have hbo : bd.ok wr := by rw [← hbd]; exact ⟨show (1 : Int) ≤ 1 ∧ (1 : Int) ≤ 4 by decide, HA.out.2.2.1, show (0 : Int) ≤ 0 ∧ (0 : Int) ≤ 1048576 by decide, hy, hL.2⟩
         have HI := Lib.hid (And.intro (own_bel' hO hb7) (And.intro hbk hK7.size))
         have HJ := Lib.hid (And.intro hb7 (And.intro hK7 (And.intro hbo hrl)))
         clear hO hrl hyl hy hbd hB7 hb7 hbk hK7 hbo hL
         go_wp2_with (at_builtin; go_must (refine wpList_appM _ rfl _ _ 259 rfl w.heap.size 248 xi xz 5 56 Tryz.underlying259 hxi hxz hx5 hx56 hxc (by omega) _ (m + 1) (rs.flatMap BD.cells) (by rfl) (by exact HI.out.1) w7.heap.size (some ⟨wr.heap.size, 0, none⟩) 1 1 (BD.cells bd) (by rfl) rfl (by exact HI.out.2.1) (by intro u hu; simp [BD.cells] at hu; rcases hu with rfl | rfl | rfl | rfl | rfl <;> rfl) (by omega) (by omega) (by exact HI.out.2.2) ?_); intro v9 w9 hO9 hG9 hn9)
         have hnF : ∀ g, (Value.slice lA (m + 1) lc).ownBlock = some g → ¬ F g := fun g hg hf => by
          have := own_at_ge HI.out.1 hg
          have := HA.out.1 g hf
          omega
         have hAg : Ag F wr w9 := (Ag.of_below HJ.out.1).trans (Ag.grown HI.out.1 (by decide) hG9 hnF)
         have HN := Lib.hid (show (∀ x ∈ rs ++ [bd], x.ok w9) ∧ Dev w9 F gd ns1 ∧ Kf F w w9 ∧ IsY w9 (some ad) n c bs from
          ⟨fun x hx => by
           rcases List.mem_append.1 hx with q | q
           · exact (HW.out.1 x q).ag hAg
           · obtain rfl : x = bd := by simpa using q
             exact HJ.out.2.2.1.ag hAg, HW.out.2.1.ag hAg, HJ.out.2.1.grown HI.out.1 hG9 (fun g hg => .inr (own_at_ge HI.out.1 hg)), HW.out.2.2.2.ag hAg⟩)
         clear hAg hnF hG9 hn9
         go_roundw
         case rel => exact ⟨m + 1, rs ++ [bd], by go_num, by omega, by rw [List.length_append, HJ.out.2.2.2]; rfl, by rw [List.flatMap_append]; simpa using hO9, HN⟩
         case measure => simp [intOf]; omega
     · have n1 : ¬ (40 * (m : Int) < (n : Int)) := by omega
       have hta := tail_any A n c bs wr HW.out.2.2.2 (by omega)
       have wk : wrap64 (m : Int) = (m : Int) := by unfold wrap64; omega
       have HM := Lib.hid (show m ≤ 286 by omega)
       have HO := Lib.hid (And.intro hO hrl)
       clear hO hrl
       go_wp2_with fail
       refine hta.mono ?_
       rintro e w6 ⟨⟨v6, b6, rfl, hY6, l6⟩, hb6⟩
       obtain ⟨A6, e6, rfl, hy6⟩ := hY6.isY
       have L6 := Lib.hid l6
       obtain ⟨bd, hbd⟩ : ∃ bd : BD, (⟨2, nn, (m : Int), A6, b6.length, e6, b6⟩ : BD) = bd := ⟨_, rfl⟩
       obtain ⟨g7, w7, hg7, hw7, hB7, hb7⟩ := alloc_of w6 248 [.int .i64 2, .int .i64 0, .int .i64 nn, .int .i64 (m : Int), .slice A6 b6.length e6]
       subst hg7
       have hb67 := hb6.trans (hb7.mono hb6.size)
       have hbk : Rd w7 w7.heap.size (some ⟨w6.heap.size, 0, none⟩) (BD.cells bd) := by rw [← hbd]; exact hB7.rd
       have hbo : bd.ok w7 := by rw [← hbd]; exact ⟨show (1 : Int) ≤ 2 ∧ (2 : Int) ≤ 4 by decide, HA.out.2.2.1, show (0 : Int) ≤ (m : Int) ∧ (m : Int) ≤ 1048576 by have := HM.out; omega, hy6.ag (F := fun _ => False) (.of_below hb7), show b6.length ≤ 40 by omega⟩
       have hK7 := HW.out.2.2.1.next hb67
       have HI := Lib.hid (And.intro (own_bel' HO.out.1 hb67) (And.intro hbk hK7.size))
       have HJ := Lib.hid (And.intro hb67 (And.intro hK7 (And.intro hbo HO.out.2)))
       clear hbd hb67 hbk hbo hK7 hb6 hb7 hB7 hy6 hY6 l6 hta n1
       go_wp2_with (at_builtin; go_must (refine wpList_appM _ rfl _ _ 259 rfl w.heap.size 248 xi xz 5 56 Tryz.underlying259 hxi hxz hx5 hx56 hxc (by omega) _ (m + 1) (rs.flatMap BD.cells) (by rfl) (by exact HI.out.1) w7.heap.size (some ⟨w6.heap.size, 0, none⟩) 1 1 (BD.cells bd) (by rfl) rfl (by exact HI.out.2.1) (by intro u hu; simp [BD.cells] at hu; rcases hu with rfl | rfl | rfl | rfl | rfl <;> rfl) (by omega) (by omega) (by exact HI.out.2.2) ?_); intro v9 w9 hO9 hG9 hn9; obtain ⟨vA, vc, rfl⟩ := own_shape hO9; obtain ⟨T, hT⟩ : ∃ T, m + 1 + 1 = T := ⟨_, rfl⟩; rw [hT] at hO9 ⊢; have HT := Lib.hid hT; clear hT)
       have hnF : ∀ g, (Value.slice lA (m + 1) lc).ownBlock = some g → ¬ F g := fun g hg hf => by
        have := own_at_ge HI.out.1 hg
        have := HA.out.1 g hf
        omega
       have hA1 : Ag F wr w7 := Ag.of_below HJ.out.1
       have hA2 : Ag F w7 w9 := Ag.grown HI.out.1 (by decide) hG9 hnF
       have hAg := hA1.trans hA2
       have hTl : (rs ++ [bd]).length = T := by rw [List.length_append, HJ.out.2.2.2]; exact HT.out
       have hTb : T ≤ 288 := by have := HM.out; have := HT.out; omega
       have HN := Lib.hid (show (∀ x ∈ rs ++ [bd], x.ok w9) ∧ Dev w9 F gd ns1 ∧ Kf F w w9 ∧ w9.ownsRow w.heap.size 248 5 (.slice vA T vc) T ((rs ++ [bd]).flatMap BD.cells) from
        ⟨fun x hx => by
         rcases List.mem_append.1 hx with q | q
         · exact (HW.out.1 x q).ag hAg
         · obtain rfl : x = bd := by simpa using q
           exact HJ.out.2.2.1.ag hA2, HW.out.2.1.ag hAg, HJ.out.2.1.grown HI.out.1 hG9 (fun g hg => .inr (own_at_ge HI.out.1 hg)), by rw [List.flatMap_append]; simpa using hO9⟩)
       obtain ⟨R, hR⟩ : ∃ R, rs ++ [bd] = R := ⟨_, rfl⟩
       rw [hR] at HN hTl
       clear hAg hA1 hA2 hnF hG9 hn9 hO9 hR HW HO HI HJ
       go_loopw [90] (fun i wr => ∃ (k : Nat) (ns2 : List Nat) (Fk : Foot), k ≤ T ∧ i = .int .i64 (k : Int) ∧ Hid (ZS 3 k ns ns2 ∧ Dev wr Fk gd ns2 ∧ Kf F w9 wr ∧ Sb w9 F Fk ∧ In wr Fk)) (fun i _ => T - (intOf i).toNat)
       case atStart => exact ⟨0, ns1, F, Nat.zero_le _, rfl, Lib.hid ⟨HZ.out.zs, HN.out.2.1, Kf.refl F w9, Sb.refl _ _, HA.out.1.next HN.out.2.2.1.size⟩⟩
       case round =>
        obtain ⟨k, ns2, Fk, hk, rfl, HD⟩ := hrel
        have hgF : ¬ Fk gs := fun q => by
         rcases HD.out.2.2.2.1 gs q with r | r
         · exact HA.out.2.1 r
         · have := (SL.out w9 HN.out.2.2.1).bx.lt
           omega
        have hKw : Kf F w wr := HN.out.2.2.1.trans HD.out.2.2.1 (fun b q => .inl q)
        obtain ⟨c0, c1, c2, c3, c4, c5, c6, c7, c8⟩ := (SL.out wr hKw).bx.c9
        by_cases hlt : k < T
        · obtain ⟨x, hxk⟩ : ∃ x, R[k]'(by omega) = x := ⟨_, rfl⟩
          have hxm : x ∈ R := by rw [← hxk]; exact List.getElem_mem _
          have hdis : Dis (fun b => (Value.slice vA T vc).ownBlock = some b) F := fun b q r => by
           have := own_at_ge HN.out.2.2.2 q
           have := HA.out.1 b r
           omega
          have hrow := own_ag HN.out.2.2.2 (HD.out.2.2.1.ag hdis) (fun g hg => hg)
          obtain ⟨ad, eA, had, d0, d1, d2, d3, d4⟩ := five_get (rd_of_own hrow) (k := k) (by omega) hxk
          have hxo := (HN.out.1 x hxm).ag (HD.out.2.2.1.ag (F := fun _ => False) (fun _ q => q.elim))
          subst eA
          obtain ⟨w10, hw10⟩ : ∃ w10, wr.alloc (.cells #[.int .i64 x.kind, .int .i64 0, .int .i64 x.seq, .int .i64 x.lba, .slice x.A x.n x.c] 248) = w10 := ⟨_, rfl⟩
          have hB10 : Bk w10 wr.heap.size 248 [.int .i64 x.kind, .int .i64 0, .int .i64 x.seq, .int .i64 x.lba, .slice x.A x.n x.c] := by rw [← hw10]; exact Bk.new wr _ _
          have hb10 : Below wr.heap.size wr w10 := by rw [← hw10]; exact (Below.refl _ _).alloc (Nat.le_refl _) _
          obtain ⟨f0, f1, f2, f3, f4⟩ := hB10.c5
          have n1 : (k : Int) < (T : Int) := by omega
          have n2 : (0 : Int) ≤ (k : Int) := by omega
          have hxo10 := hxo.ag (F := fun _ => False) (.of_below hb10)
          have hen := encode_any x.kind 0 x.seq x.lba x.A x.n x.c x.bs w10 hxo10.k ⟨by omega, by omega⟩ hxo10.s hxo10.l hxo10.y.b hxo10.n
          have HX := Lib.hid (And.intro hb10 (And.intro hgF hKw))
          clear hxk hxm hdis hrow hxo hxo10 hB10 hb10 had hgF hKw
          go_wp2_with fail
          refine hen.mono ?_
          rintro e w11 ⟨⟨pv, pb, rfl, hP, lP⟩, hb11⟩
          obtain ⟨pA, pc, rfl, hpy⟩ := hP.isY
          rw [lP] at hpy ⊢
          have hb011 := HX.out.1.trans (hb11.mono HX.out.1.size)
          have hS11 := SL.out w11 (HX.out.2.2.next hb011)
          have HP := Lib.hid (And.intro hpy (And.intro hb011 (HD.out.2.1.ag (.of_below hb011))))
          clear hP lP hpy hb11 hb011 hen d0 d1 d2 d3 d4 f0 f1 f2 f3 f4 c0 c1 c2 c3 c4 c5 c6 c7 c8
          obtain ⟨c0, c1, c2, c3, c4, c5, c6, c7, c8⟩ := hS11.bx.c9
          have q1 : ((k : Int).tdiv 96) = ((k / 96 : Nat) : Int) := quo96 k
          obtain ⟨q, hq⟩ : ∃ q, k / 96 = q := ⟨_, rfl⟩
          rw [hq] at q1
          have HQ := Lib.hid hq
          have hq3 : q < 3 := by rw [← hq]; exact div_lt3 (Nat.lt_of_lt_of_le hlt hTb)
          have w1q := (wrap_q hq3).1
          have w2q := (wrap_q hq3).2.1
          have w3q := (wrap_qk hq3).1
          have w4q := (wrap_qk hq3).2
          have hzi : ns2[3 + q]? = some (zc k q) := HD.out.1.at' q hq3
          have hzc : zc k q < 96 := by rw [← hq]; exact zc_at k
          have happ := append_any Fk gd ns2 (3 + q) (zc k q) pA pc pb w11.drew (HP.out.2.2.ag (.of_below (bdrew (Below.refl _ _)))) hzi hzc (HP.out.1.ag (F := fun _ => False) (.of_below (bdrew (Below.refl _ _)))) (fun b r => Nat.lt_of_lt_of_le (HD.out.2.2.2.2 b r) HP.out.2.1.size)
          rw [(wrap_q hq3).2.2.2] at happ
          have HAP := Lib.hid happ
          have SS := Lib.hid (fun (w' : World) (h : w'.cell? ⟨gs, 0, none⟩ = some (.pointer (some ⟨gd, 0, none⟩)) ∧ w'.cell? ⟨gs, 2, none⟩ = some (.int .i64 3) ∧ w'.cell? ⟨gs, 4, none⟩ = some (.int .i64 96)) => h)
          have HT2 := Lib.hid hk
          clear hS11 hq hzi hzc happ hk
          go_wp2_with fail
          have Kq := SS
          refine wp_region_held_drew (S := fun w' => w'.cell? ⟨gs, 0, none⟩ = some (.pointer (some ⟨gd, 0, none⟩)) ∧ w'.cell? ⟨gs, 2, none⟩ = some (.int .i64 3) ∧ w'.cell? ⟨gs, 4, none⟩ = some (.int .i64 96)) (by kernel_rfl) (⟨c0, c2, c4⟩) (fun hHeld => ?_)
          refine kF 0 ?_; refine kF 1 ?_; refine kF 2 ?_; refine kF 3 ?_; refine kF 4 ?_; refine kF 5 ?_; refine kF 6 ?_; refine kF 7 ?_; refine kF 8 ?_; refine kF 9 ?_; refine kF 10 ?_; refine kF 11 ?_
          refine kF 12 ?_; refine kF 13 ?_; refine kF 14 ?_; refine kF 15 ?_; refine kF 16 ?_; refine kF 17 ?_
          refine rF 18 (fun K hK => ?_)
          go_simp
          refine HAP.out.mono ?_
          rintro e w12 ⟨rfl, F2, hD2, hK2, hS2, hI2⟩
          have hk12 : Kf F w9 w12 := ((HD.out.2.2.1.next HP.out.2.1).drew).trans hK2 HD.out.2.2.2.1
          have hs12 := (SL.out w12 (HN.out.2.2.1.trans hk12 (fun b q => .inl q))).bx
          have hSc : w12.cell? ⟨gs, 0, none⟩ = some (.pointer (some ⟨gd, 0, none⟩)) ∧ w12.cell? ⟨gs, 2, none⟩ = some (.int .i64 3) ∧ w12.cell? ⟨gs, 4, none⟩ = some (.int .i64 96) := ⟨hs12.cell (i := 0) (by simp), hs12.cell (i := 2) (by simp), hs12.cell (i := 4) (by simp)⟩
          have HE := Lib.hid (show ZS 3 (k + 1) ns (ns2.set (3 + q) (zc k q + 1)) ∧ Dev w12 F2 gd (ns2.set (3 + q) (zc k q + 1)) ∧ Kf F w9 w12 ∧ Sb w9 F F2 ∧ In w12 F2 from ⟨by have h := HD.out.1.step (k := k) (Nat.lt_of_lt_of_le hlt hTb) (by decide); rw [HQ.out] at h; exact h, hD2, hk12, Sb.trans HD.out.2.2.2.1 hS2 (Nat.le_trans HD.out.2.2.1.size HP.out.2.1.size), hI2⟩)
          clear hD2 hK2 hS2 hI2 hk12 hs12
          go_simp
          refine hK.out _ _ (hSc) (fun hHeld2 => ?_)
          clear hK K hHeld
          have hHeld := hHeld2
          clear hHeld2
          try simp only [Act.put, List.setIfInBounds_toArray, List.set_cons_zero, List.set_cons_succ]
          refine kF 19 ?_; refine kF 20 ?_; refine kF 21 ?_; refine kF 22 ?_
          refine wpAnyH_done (by kernel_rfl) ?_ _
          clear Kq
          go_wp2_with fail
          go_roundw
          case rel => exact ⟨k + 1, _, F2, hlt, by go_num, HE.out⟩
          case measure => exact meas hlt
        · obtain rfl : k = T := by omega
          have n1 : ¬ ((k : Int) < (k : Int)) := by omega
          have hfl := dflush_any Fk gd ns2 wr HD.out.2.1
          have HE := Lib.hid (And.intro hKw hTb)
          clear hKw hgF hk hlt
          go_wp2_with fail
          refine hfl.mono ?_
          rintro e wz ⟨rfl, hDz, hKz⟩
          have hKwz : Kf F w wz := HE.out.1.trans hKz (fun b q => by
           rcases HD.out.2.2.2.1 b q with r | r
           · exact .inl r
           · exact .inr (Nat.le_trans HN.out.2.2.1.size r))
          have HF := Lib.hid (And.intro hDz (And.intro HD.out.1.hi (And.intro hKwz (And.intro (show Sb w F Fk from fun b q => by
           rcases HD.out.2.2.2.1 b q with r | r
           · exact .inl r
           · exact .inr (Nat.le_trans HN.out.2.2.1.size r)) (HD.out.2.2.2.2.next hKz.size)))))
          clear hDz hKz hKwz hfl
          go_wp2_with fail
          go_ret
          exact ⟨rfl, Fk, ns2, HF.out⟩
end
section
open Go.RowKit
def slCells (gd : Nat) (inn : Int) (v : Value) (count : Int) : List Value := [.pointer (some ⟨gd, 0, none⟩), .int .i64 0, .int .i64 3, .int .i64 6, .int .i64 96, .int .i64 inn, v, .int .i64 count, .bool false]
theorem save0 (F : Foot) (gd gs count : Nat) (v : Value) (bt : List Int) (ns : List Nat) (A : Option Addr) (n c : Nat) (bs : List Int) (w : World) (hd : Dev w F gd ns) (h : SloX w gd gs 0 v bt count) (hI : In w F) (hg : ¬ F gs) (hc : count ≤ 1000000) (ht : IsY w A n c bs) (hn : n ≤ 11440) :
  Calls Tryz.prog 45 #[.pointer (some ⟨gs, 0, none⟩), .slice A n c] w fun e w' => e = .returned (.int .i64 0) ∧ ∃ F' ns' v' bs', Dev w' F' gd ns' ∧ SloX w' gd gs 1 v' bs' (count + 1) ∧ (∀ j, 6 ≤ j → ns'[j]? = ns[j]?) ∧ Kf (fun b => F b ∨ b = gs) w w' ∧ Sb w F F' ∧ In w' F' := by
 have hne : ∀ b, (fun b => b = gs) b → ¬ F b := fun b q r => hg (by rw [← q]; exact r)
 have hro := room_any gd gs count 0 v bt w h
 have hde := sdead_any gd gs count 0 v bt (w.drewN 1) (h.ag (F := fun b => b = gs) (.of_below (bdrewN (Below.refl _ _) 1)) rfl)
 have t0 : decide (11440 < (n : Int)) = false := decide_eq_false (by omega)
 have hw1 : Below w.heap.size w (w.drewN 1) := bdrewN (Below.refl _ _) 1
 go_enter Tryz.func45, Tryz.ntmps45
 go_wp2_with fail
 refine hro.mono ?_
 rintro e w1 ⟨rfl, q, rfl⟩
 obtain ⟨w1, hw1⟩ : ∃ w1, w.drewN q = w1 := ⟨_, rfl⟩
 have hb1 : Below w.heap.size w w1 := by rw [← hw1]; exact bdrewN (Below.refl _ _) q
 rw [hw1]
 have hx1 : SloX w1 gd gs 0 v bt count := h.ag (F := fun b => b = gs) (.of_below hb1) rfl
 have hd1 := hd.ag (.of_below hb1)
 have ht1 := ht.ag (F := fun _ => False) (.of_below hb1)
 have hde1 := sdead_any gd gs count 0 v bt w1 hx1
 clear hde hro hw1
 go_wp2_with fail
 refine hde1.mono ?_
 rintro e w' ⟨rfl, rfl⟩
 obtain ⟨wd, hwd⟩ : ∃ wd, w1.drew = wd := ⟨_, rfl⟩
 have hbd : Below w1.heap.size w1 wd := by rw [← hwd]; exact bdrew (Below.refl _ _)
 have hId : In wd F := fun b r => Nat.lt_of_lt_of_le (hI b r) (Nat.le_trans hb1.size hbd.size)
 have hxd : SloX wd gd gs 0 v bt count := hx1.ag (F := fun b => b = gs) (.of_below hbd) rfl
 have hwr := write1 F gd gs count 0 v bt ns ((count + 1 : Nat) : Int) A n c bs wd (hd1.ag (.of_below hbd)) hxd hId hg ⟨by omega, by omega⟩ (ht1.ag (F := fun _ => False) (.of_below hbd)) hn
 rw [show ((count + 1 : Nat) : Int) = (count : Int) + 1 by omega] at hwr
 have HWR := Lib.hid hwr
 have HSX := Lib.hid (fun w' (k : Kf F wd w') => (show w'.cell? ⟨gs, 5, none⟩ = some (.int .i64 0) ∧ w'.cell? ⟨gs, 7, none⟩ = some (.int .i64 (count : Int)) from
  ⟨(hxd.ag (k.ag (F := fun b => b = gs) hne) rfl).bx.cell (i := 5) (by simp), (hxd.ag (k.ag (F := fun b => b = gs) hne) rfl).bx.cell (i := 7) (by simp)⟩))
 have HSX2 := Lib.hid (fun w' (k : Kf F wd w') => hxd.ag (k.ag (F := fun b => b = gs) hne) rfl)
 have SS := Lib.hid (fun (w' : World) (h : w'.cell? ⟨gs, 5, none⟩ = some (.int .i64 0) ∧ w'.cell? ⟨gs, 7, none⟩ = some (.int .i64 (count : Int))) => h)
 have wc : wrap64 ((count : Int) + 1) = (count : Int) + 1 := by unfold wrap64; omega
 have wc2 : IntKind.i64.wrap ((count : Int) + 1) = (count : Int) + 1 := IntWalk.i64_in _ (by omega)
 have c5 := hxd.bx.cell (i := 5) (by simp)
 have c7 := hxd.bx.cell (i := 7) (by simp)
 simp only [List.getElem_cons_zero, List.getElem_cons_succ] at c5 c7
 have HT1 := Lib.hid ht1
 have wi : IntKind.i64.wrap 1 = 1 := rfl
 have hgl := Lib.hid (show gs < wd.heap.size from hxd.bx.lt)
 have HB := Lib.hid (And.intro hb1 hbd)
 clear hwr hxd hId hx1 hd1 ht1 hde1 hbd hb1 h hd ht
 go_wp2_with fail
 have Kq := SS
 refine wp_region_held_drew (S := fun w' => w'.cell? ⟨gs, 5, none⟩ = some (.int .i64 0) ∧ w'.cell? ⟨gs, 7, none⟩ = some (.int .i64 (count : Int))) (by kernel_rfl) (by rw [hwd]; exact ⟨c5, c7⟩) (fun hHeld => ?_)
 refine kF 0 ?_; refine kF 1 ?_; refine kF 2 ?_; refine kF 3 ?_; refine kF 4 ?_; refine kF 5 ?_; refine kF 6 ?_; refine kF 7 ?_; refine kF 8 ?_; refine kF 9 ?_; refine kF 10 ?_; refine kF 11 ?_
 refine rF 12 (fun K hK => ?_)
 go_simp
 refine HWR.out.mono ?_
 rintro e w2 ⟨rfl, F2, ns2, hD2, hi2, hK2, hS2, hI2⟩
 have HE2 := Lib.hid (And.intro hD2 (And.intro hi2 (And.intro hK2 (And.intro hS2 hI2))))
 have hSc := HSX.out w2 hK2
 clear hD2 hi2 hK2 hS2 hI2
 go_simp
 refine hK.out _ _ (hSc) (fun hHeld2 => ?_)
 clear hK K hHeld
 have hHeld := hHeld2
 clear hHeld2
 try simp only [Act.put, List.setIfInBounds_toArray, List.set_cons_zero, List.set_cons_succ]
 refine kF 13 ?_
 refine wpAnyH_done (by kernel_rfl) ?_ _
 clear Kq
 go_wp2_with fail
 have hx2 := HSX2.out w2 HE2.out.2.2.1
 have HB2 := Lib.hid (show Bk w2 gs 186 (slCells gd 0 v (count : Int)) from hx2.bx)
 have S9 := Lib.hid (fun w' (h : Below w2.heap.size w2 w' ∧ Bk w' gs 186 (slCells gd 0 v (count : Int))) => (show w'.cell? ⟨gs, 5, none⟩ = some (.int .i64 0) ∧ w'.cell? ⟨gs, 7, none⟩ = some (.int .i64 (count : Int)) from ⟨h.2.cell (i := 5) (by simp [slCells]), h.2.cell (i := 7) (by simp [slCells])⟩))
 have HTX := Lib.hid (HT1.out.ag (F := fun _ => False) (((Kf.of_below (F := F) HB.out.2).trans HE2.out.2.2.1 (fun b q => .inl q)).ag (fun _ q => q.elim)))
 have HG := Lib.hid (show ¬ F2 gs from fun r => by
  rcases HE2.out.2.2.2.1 gs r with e | e
  · exact hg e
  · have := hgl.out
    omega)
 clear hx2 c5 c7
 have Kq := S9
 refine anyM_start (fun w' => Below w2.heap.size w2 w' ∧ Bk w' gs 186 (slCells gd 0 v (count : Int))) [15, 16, 17, 18, 19, 20, 21, 22, 23] (by kernel_rfl) (⟨bdrew (Below.refl _ _), HB2.out⟩) (fun hHeld => ?_)
 refine kR 0 ?_; refine kR 1 ?_; refine kR 2 ?_; refine kR 3 ?_; refine kR 4 ?_; refine kR 5 ?_
 refine kM 6 ?_
 refine kR 7 ?_; refine kR 8 ?_; refine kR 10 ?_; refine kR 11 ?_; refine kR 12 ?_
 refine kM 13 ?_
 refine kR 14 ?_
 refine rM 9 (fun K hK => ?_)
 go_simp
 refine (clone_any A n c 0 (bs.map (Value.int .u8)) _ (by rw [List.length_map]; exact HTX.out.b.len) (HTX.out.ag (F := fun _ => False) (.of_below (bdrew (Below.refl _ _)))).b.rd one_int (by omega) (Nat.zero_le _)).mono ?_
 rintro e w4 ⟨⟨vc, rfl, hvc⟩, hb4⟩
 have hS4 := And.intro (hHeld.1.trans (hb4.mono hHeld.1.size)) (hHeld.2.next hb4 hHeld.2.lt)
 have HVC := Lib.hid hvc
 obtain ⟨xA, xc, rfl⟩ := own_shape hvc
 clear hvc hb4
 go_simp
 refine hK.out _ _ (fun _ _ => hS4) ?_
 clear hK K hHeld
 have hHeld := hS4
 try simp only [Act.put, List.setIfInBounds_toArray, List.set_cons_zero, List.set_cons_succ]
 refine rM 15 (fun K hK => ?_)
 go_simp
 refine hK.out _ _ (fun h => absurd (by decide) h) ?_
 clear hK K
 try simp only [Act.put, List.setIfInBounds_toArray, List.set_cons_zero, List.set_cons_succ]
 refine rM 16 (fun K hK => ?_)
 go_simp
 refine hK.out _ _ (fun h => absurd (by decide) h) ?_
 clear hK K
 try simp only [Act.put, List.setIfInBounds_toArray, List.set_cons_zero, List.set_cons_succ]
 refine rM 17 (fun K hK => ?_)
 have e5 := hHeld.2.cell (i := 5) (by simp [slCells])
 have f5 := hHeld.2.free 5
 simp only [slCells, List.getElem_cons_zero, List.getElem_cons_succ] at e5
 go_simp
 refine hK.out _ _ (fun h => absurd (by decide) h) ?_
 clear hK K
 try simp only [Act.put, List.setIfInBounds_toArray, List.set_cons_zero, List.set_cons_succ]
 refine rM 18 (fun K hK => ?_)
 go_simp
 refine hK.out _ _ (fun h => absurd (by decide) h) ?_
 clear hK K
 try simp only [Act.put, List.setIfInBounds_toArray, List.set_cons_zero, List.set_cons_succ]
 refine rM 19 (fun K hK => ?_)
 go_simp
 refine hK.out _ _ (fun h => absurd (by decide) h) ?_
 clear hK K
 try simp only [Act.put, List.setIfInBounds_toArray, List.set_cons_zero, List.set_cons_succ]
 refine rM 20 (fun K hK => ?_)
 have b5 := hHeld.2.set 5 (.int .i64 1)
 have e6 := b5.cell (i := 6) (by simp [slCells])
 have f6 := b5.free 6
 have g6 := hHeld.2.cell (i := 6) (by simp [slCells])
 have h6 := hHeld.2.free 6
 simp only [slCells, List.getElem_cons_zero, List.getElem_cons_succ] at g6
 simp only [slCells, List.set_cons_zero, List.set_cons_succ, List.getElem_cons_zero, List.getElem_cons_succ] at e6
 go_simp
 refine hK.out _ _ (fun h => absurd (by decide) h) ?_
 clear hK K
 try simp only [Act.put, List.setIfInBounds_toArray, List.set_cons_zero, List.set_cons_succ]
 refine rM 21 (fun K hK => ?_)
 go_simp
 refine hK.out _ _ (fun h => absurd (by decide) h) ?_
 clear hK K
 try simp only [Act.put, List.setIfInBounds_toArray, List.set_cons_zero, List.set_cons_succ]
 refine rM 22 (fun K hK => ?_)
 go_simp
 refine hK.out _ _ (fun h => absurd (by decide) h) ?_
 clear hK K
 try simp only [Act.put, List.setIfInBounds_toArray, List.set_cons_zero, List.set_cons_succ]
 refine rM 23 (fun K hK => ?_)
 have b6 := b5.set 6 (.slice xA n xc)
 have e7 := b6.cell (i := 7) (by simp [slCells])
 have f7 := b6.free 7
 have g7 := hHeld.2.cell (i := 7) (by simp [slCells])
 have h7 := hHeld.2.free 7
 simp only [slCells, List.getElem_cons_zero, List.getElem_cons_succ] at g7
 simp only [slCells, List.set_cons_zero, List.set_cons_succ, List.getElem_cons_zero, List.getElem_cons_succ] at e7
 go_simp
 refine hK.out _ _ (fun h => absurd (by decide) h) ?_
 clear hK K
 try simp only [Act.put, List.setIfInBounds_toArray, List.set_cons_zero, List.set_cons_succ]
 refine anyM_done (by kernel_rfl) ?_ _
 clear Kq
 obtain ⟨w7, hw7⟩ : ∃ w7, ((w4.setCell ⟨gs, 5, none⟩ (.int .i64 1)).setCell ⟨gs, 6, none⟩ (.slice xA n xc)).setCell ⟨gs, 7, none⟩ (.int .i64 ((count : Int) + 1)) = w7 := ⟨_, rfl⟩
 have hb7 : Bk w7 gs 186 (slCells gd 1 (.slice xA n xc) ((count : Int) + 1)) := by
  rw [← hw7]
  have := b6.set 7 (.int .i64 ((count : Int) + 1))
  simpa [slCells] using this
 have hk7 : Kf (fun b => b = gs) w2 w7 := by
  rw [← hw7]
  exact ((((Kf.of_below (F := fun b => b = gs) hHeld.1).set hHeld.2 (by decide) (.inl rfl) 5 _).set b5 (by decide) (.inl rfl) 6 _).set b6 (by decide) (.inl rfl) 7 _)
 have hA7 : Ag F2 w2 w7 := hk7.ag (fun b q r => HG.out (by rw [← show b = gs from r]; exact q))
 have hby : Byt w4 0 (.slice xA n xc) bs := ⟨by have := HVC.out; rw [← HTX.out.b.len] at this ⊢; exact this, HTX.out.b.wf⟩
 have hk47 : Kf (fun b => b = gs) w4 w7 := by
  rw [← hw7]
  exact ((((Kf.refl (fun b => b = gs) w4).set hHeld.2 (by decide) (.inl rfl) 5 _).set b5 (by decide) (.inl rfl) 6 _).set b6 (by decide) (.inl rfl) 7 _)
 have hx7 : SloX w7 gd gs 1 (.slice xA n xc) bs (count + 1) := ⟨by have := hb7; unfold slCells at this; rw [show ((count + 1 : Nat) : Int) = (count : Int) + 1 by omega]; exact this, hby.ag (hk47.ag (F := fun _ => False) (fun _ q => q.elim)), by right; rfl, by rw [HTX.out.b.len]; omega⟩
 have hK : Kf (fun b => F b ∨ b = gs) w w7 := ((((Kf.of_below (F := fun b => F b ∨ b = gs) HB.out.1).next HB.out.2).trans HE2.out.2.2.1 (fun b q => .inl (.inl q))).trans hk7 (fun b q => .inl (.inr q)))
 have HE := Lib.hid (And.intro (HE2.out.1.ag hA7) (And.intro hx7 (And.intro HE2.out.2.1 (And.intro hK (And.intro (show Sb w F F2 from fun b q => by
  rcases HE2.out.2.2.2.1 b q with r | r
  · exact .inl r
  · exact .inr (Nat.le_trans HB.out.1.size (Nat.le_trans HB.out.2.size r))) (HE2.out.2.2.2.2.next hk7.size))))))
 clear hb7 hk7 hA7 hby hk47 hx7 hK b5 b6
 go_wp2_with fail
 go_ret
 rw [hw7]
 exact ⟨rfl, F2, ns2, _, _, HE.out⟩
theorem save1 (F : Foot) (gd gs count : Nat) (v : Value) (bt : List Int) (ns : List Nat) (A : Option Addr) (n c : Nat) (bs : List Int) (w : World) (hd : Dev w F gd ns) (h : SloX w gd gs 1 v bt count) (hI : In w F) (hg : ¬ F gs) (hc : count ≤ 1000000) (ht : IsY w A n c bs) (hn : n ≤ 11440) :
  Calls Tryz.prog 45 #[.pointer (some ⟨gs, 0, none⟩), .slice A n c] w fun e w' => e = .returned (.int .i64 0) ∧ ∃ F' ns' v' bs', Dev w' F' gd ns' ∧ SloX w' gd gs 0 v' bs' (count + 1) ∧ (∀ j, 6 ≤ j → ns'[j]? = ns[j]?) ∧ Kf (fun b => F b ∨ b = gs) w w' ∧ Sb w F F' ∧ In w' F' := by
 have hne : ∀ b, (fun b => b = gs) b → ¬ F b := fun b q r => hg (by rw [← q]; exact r)
 have hro := room_any gd gs count 1 v bt w h
 have hde := sdead_any gd gs count 1 v bt (w.drewN 1) (h.ag (F := fun b => b = gs) (.of_below (bdrewN (Below.refl _ _) 1)) rfl)
 have t0 : decide (11440 < (n : Int)) = false := decide_eq_false (by omega)
 have hw1 : Below w.heap.size w (w.drewN 1) := bdrewN (Below.refl _ _) 1
 go_enter Tryz.func45, Tryz.ntmps45
 go_wp2_with fail
 refine hro.mono ?_
 rintro e w1 ⟨rfl, q, rfl⟩
 obtain ⟨w1, hw1⟩ : ∃ w1, w.drewN q = w1 := ⟨_, rfl⟩
 have hb1 : Below w.heap.size w w1 := by rw [← hw1]; exact bdrewN (Below.refl _ _) q
 rw [hw1]
 have hx1 : SloX w1 gd gs 1 v bt count := h.ag (F := fun b => b = gs) (.of_below hb1) rfl
 have hd1 := hd.ag (.of_below hb1)
 have ht1 := ht.ag (F := fun _ => False) (.of_below hb1)
 have hde1 := sdead_any gd gs count 1 v bt w1 hx1
 clear hde hro hw1
 go_wp2_with fail
 refine hde1.mono ?_
 rintro e w' ⟨rfl, rfl⟩
 obtain ⟨wd, hwd⟩ : ∃ wd, w1.drew = wd := ⟨_, rfl⟩
 have hbd : Below w1.heap.size w1 wd := by rw [← hwd]; exact bdrew (Below.refl _ _)
 have hId : In wd F := fun b r => Nat.lt_of_lt_of_le (hI b r) (Nat.le_trans hb1.size hbd.size)
 have hxd : SloX wd gd gs 1 v bt count := hx1.ag (F := fun b => b = gs) (.of_below hbd) rfl
 have hwr := write0 F gd gs count 1 v bt ns ((count + 1 : Nat) : Int) A n c bs wd (hd1.ag (.of_below hbd)) hxd hId hg ⟨by omega, by omega⟩ (ht1.ag (F := fun _ => False) (.of_below hbd)) hn
 rw [show ((count + 1 : Nat) : Int) = (count : Int) + 1 by omega] at hwr
 have HWR := Lib.hid hwr
 have HSX := Lib.hid (fun w' (k : Kf F wd w') => (show w'.cell? ⟨gs, 5, none⟩ = some (.int .i64 1) ∧ w'.cell? ⟨gs, 7, none⟩ = some (.int .i64 (count : Int)) from
  ⟨(hxd.ag (k.ag (F := fun b => b = gs) hne) rfl).bx.cell (i := 5) (by simp), (hxd.ag (k.ag (F := fun b => b = gs) hne) rfl).bx.cell (i := 7) (by simp)⟩))
 have HSX2 := Lib.hid (fun w' (k : Kf F wd w') => hxd.ag (k.ag (F := fun b => b = gs) hne) rfl)
 have SS := Lib.hid (fun (w' : World) (h : w'.cell? ⟨gs, 5, none⟩ = some (.int .i64 1) ∧ w'.cell? ⟨gs, 7, none⟩ = some (.int .i64 (count : Int))) => h)
 have wc : wrap64 ((count : Int) + 1) = (count : Int) + 1 := by unfold wrap64; omega
 have wc2 : IntKind.i64.wrap ((count : Int) + 1) = (count : Int) + 1 := IntWalk.i64_in _ (by omega)
 have c5 := hxd.bx.cell (i := 5) (by simp)
 have c7 := hxd.bx.cell (i := 7) (by simp)
 simp only [List.getElem_cons_zero, List.getElem_cons_succ] at c5 c7
 have HT1 := Lib.hid ht1
 have wi : IntKind.i64.wrap 0 = 0 := rfl
 have hgl := Lib.hid (show gs < wd.heap.size from hxd.bx.lt)
 have HB := Lib.hid (And.intro hb1 hbd)
 clear hwr hxd hId hx1 hd1 ht1 hde1 hbd hb1 h hd ht
 go_wp2_with fail
 have Kq := SS
 refine wp_region_held_drew (S := fun w' => w'.cell? ⟨gs, 5, none⟩ = some (.int .i64 1) ∧ w'.cell? ⟨gs, 7, none⟩ = some (.int .i64 (count : Int))) (by kernel_rfl) (by rw [hwd]; exact ⟨c5, c7⟩) (fun hHeld => ?_)
 refine kF 0 ?_; refine kF 1 ?_; refine kF 2 ?_; refine kF 3 ?_; refine kF 4 ?_; refine kF 5 ?_; refine kF 6 ?_; refine kF 7 ?_; refine kF 8 ?_; refine kF 9 ?_; refine kF 10 ?_; refine kF 11 ?_
 refine rF 12 (fun K hK => ?_)
 go_simp
 refine HWR.out.mono ?_
 rintro e w2 ⟨rfl, F2, ns2, hD2, hi2, hK2, hS2, hI2⟩
 have HE2 := Lib.hid (And.intro hD2 (And.intro hi2 (And.intro hK2 (And.intro hS2 hI2))))
 have hSc := HSX.out w2 hK2
 clear hD2 hi2 hK2 hS2 hI2
 go_simp
 refine hK.out _ _ (hSc) (fun hHeld2 => ?_)
 clear hK K hHeld
 have hHeld := hHeld2
 clear hHeld2
 try simp only [Act.put, List.setIfInBounds_toArray, List.set_cons_zero, List.set_cons_succ]
 refine kF 13 ?_
 refine wpAnyH_done (by kernel_rfl) ?_ _
 clear Kq
 go_wp2_with fail
 have hx2 := HSX2.out w2 HE2.out.2.2.1
 have HB2 := Lib.hid (show Bk w2 gs 186 (slCells gd 1 v (count : Int)) from hx2.bx)
 have S9 := Lib.hid (fun w' (h : Below w2.heap.size w2 w' ∧ Bk w' gs 186 (slCells gd 1 v (count : Int))) => (show w'.cell? ⟨gs, 5, none⟩ = some (.int .i64 1) ∧ w'.cell? ⟨gs, 7, none⟩ = some (.int .i64 (count : Int)) from ⟨h.2.cell (i := 5) (by simp [slCells]), h.2.cell (i := 7) (by simp [slCells])⟩))
 have HTX := Lib.hid (HT1.out.ag (F := fun _ => False) (((Kf.of_below (F := F) HB.out.2).trans HE2.out.2.2.1 (fun b q => .inl q)).ag (fun _ q => q.elim)))
 have HG := Lib.hid (show ¬ F2 gs from fun r => by
  rcases HE2.out.2.2.2.1 gs r with e | e
  · exact hg e
  · have := hgl.out
    omega)
 clear hx2 c5 c7
 have Kq := S9
 refine anyM_start (fun w' => Below w2.heap.size w2 w' ∧ Bk w' gs 186 (slCells gd 1 v (count : Int))) [15, 16, 17, 18, 19, 20, 21, 22, 23] (by kernel_rfl) (⟨bdrew (Below.refl _ _), HB2.out⟩) (fun hHeld => ?_)
 refine kR 0 ?_; refine kR 1 ?_; refine kR 2 ?_; refine kR 3 ?_; refine kR 4 ?_; refine kR 5 ?_
 refine kM 6 ?_
 refine kR 7 ?_; refine kR 8 ?_; refine kR 10 ?_; refine kR 11 ?_; refine kR 12 ?_
 refine kM 13 ?_
 refine kR 14 ?_
 refine rM 9 (fun K hK => ?_)
 go_simp
 refine (clone_any A n c 0 (bs.map (Value.int .u8)) _ (by rw [List.length_map]; exact HTX.out.b.len) (HTX.out.ag (F := fun _ => False) (.of_below (bdrew (Below.refl _ _)))).b.rd one_int (by omega) (Nat.zero_le _)).mono ?_
 rintro e w4 ⟨⟨vc, rfl, hvc⟩, hb4⟩
 have hS4 := And.intro (hHeld.1.trans (hb4.mono hHeld.1.size)) (hHeld.2.next hb4 hHeld.2.lt)
 have HVC := Lib.hid hvc
 obtain ⟨xA, xc, rfl⟩ := own_shape hvc
 clear hvc hb4
 go_simp
 refine hK.out _ _ (fun _ _ => hS4) ?_
 clear hK K hHeld
 have hHeld := hS4
 try simp only [Act.put, List.setIfInBounds_toArray, List.set_cons_zero, List.set_cons_succ]
 refine rM 15 (fun K hK => ?_)
 go_simp
 refine hK.out _ _ (fun h => absurd (by decide) h) ?_
 clear hK K
 try simp only [Act.put, List.setIfInBounds_toArray, List.set_cons_zero, List.set_cons_succ]
 refine rM 16 (fun K hK => ?_)
 go_simp
 refine hK.out _ _ (fun h => absurd (by decide) h) ?_
 clear hK K
 try simp only [Act.put, List.setIfInBounds_toArray, List.set_cons_zero, List.set_cons_succ]
 refine rM 17 (fun K hK => ?_)
 have e5 := hHeld.2.cell (i := 5) (by simp [slCells])
 have f5 := hHeld.2.free 5
 simp only [slCells, List.getElem_cons_zero, List.getElem_cons_succ] at e5
 go_simp
 refine hK.out _ _ (fun h => absurd (by decide) h) ?_
 clear hK K
 try simp only [Act.put, List.setIfInBounds_toArray, List.set_cons_zero, List.set_cons_succ]
 refine rM 18 (fun K hK => ?_)
 go_simp
 refine hK.out _ _ (fun h => absurd (by decide) h) ?_
 clear hK K
 try simp only [Act.put, List.setIfInBounds_toArray, List.set_cons_zero, List.set_cons_succ]
 refine rM 19 (fun K hK => ?_)
 go_simp
 refine hK.out _ _ (fun h => absurd (by decide) h) ?_
 clear hK K
 try simp only [Act.put, List.setIfInBounds_toArray, List.set_cons_zero, List.set_cons_succ]
 refine rM 20 (fun K hK => ?_)
 have b5 := hHeld.2.set 5 (.int .i64 0)
 have e6 := b5.cell (i := 6) (by simp [slCells])
 have f6 := b5.free 6
 have g6 := hHeld.2.cell (i := 6) (by simp [slCells])
 have h6 := hHeld.2.free 6
 simp only [slCells, List.getElem_cons_zero, List.getElem_cons_succ] at g6
 simp only [slCells, List.set_cons_zero, List.set_cons_succ, List.getElem_cons_zero, List.getElem_cons_succ] at e6
 go_simp
 refine hK.out _ _ (fun h => absurd (by decide) h) ?_
 clear hK K
 try simp only [Act.put, List.setIfInBounds_toArray, List.set_cons_zero, List.set_cons_succ]
 refine rM 21 (fun K hK => ?_)
 go_simp
 refine hK.out _ _ (fun h => absurd (by decide) h) ?_
 clear hK K
 try simp only [Act.put, List.setIfInBounds_toArray, List.set_cons_zero, List.set_cons_succ]
 refine rM 22 (fun K hK => ?_)
 go_simp
 refine hK.out _ _ (fun h => absurd (by decide) h) ?_
 clear hK K
 try simp only [Act.put, List.setIfInBounds_toArray, List.set_cons_zero, List.set_cons_succ]
 refine rM 23 (fun K hK => ?_)
 have b6 := b5.set 6 (.slice xA n xc)
 have e7 := b6.cell (i := 7) (by simp [slCells])
 have f7 := b6.free 7
 have g7 := hHeld.2.cell (i := 7) (by simp [slCells])
 have h7 := hHeld.2.free 7
 simp only [slCells, List.getElem_cons_zero, List.getElem_cons_succ] at g7
 simp only [slCells, List.set_cons_zero, List.set_cons_succ, List.getElem_cons_zero, List.getElem_cons_succ] at e7
 go_simp
 refine hK.out _ _ (fun h => absurd (by decide) h) ?_
 clear hK K
 try simp only [Act.put, List.setIfInBounds_toArray, List.set_cons_zero, List.set_cons_succ]
 refine anyM_done (by kernel_rfl) ?_ _
 clear Kq
 obtain ⟨w7, hw7⟩ : ∃ w7, ((w4.setCell ⟨gs, 5, none⟩ (.int .i64 0)).setCell ⟨gs, 6, none⟩ (.slice xA n xc)).setCell ⟨gs, 7, none⟩ (.int .i64 ((count : Int) + 1)) = w7 := ⟨_, rfl⟩
 have hb7 : Bk w7 gs 186 (slCells gd 0 (.slice xA n xc) ((count : Int) + 1)) := by
  rw [← hw7]
  have := b6.set 7 (.int .i64 ((count : Int) + 1))
  simpa [slCells] using this
 have hk7 : Kf (fun b => b = gs) w2 w7 := by
  rw [← hw7]
  exact ((((Kf.of_below (F := fun b => b = gs) hHeld.1).set hHeld.2 (by decide) (.inl rfl) 5 _).set b5 (by decide) (.inl rfl) 6 _).set b6 (by decide) (.inl rfl) 7 _)
 have hA7 : Ag F2 w2 w7 := hk7.ag (fun b q r => HG.out (by rw [← show b = gs from r]; exact q))
 have hby : Byt w4 0 (.slice xA n xc) bs := ⟨by have := HVC.out; rw [← HTX.out.b.len] at this ⊢; exact this, HTX.out.b.wf⟩
 have hk47 : Kf (fun b => b = gs) w4 w7 := by
  rw [← hw7]
  exact ((((Kf.refl (fun b => b = gs) w4).set hHeld.2 (by decide) (.inl rfl) 5 _).set b5 (by decide) (.inl rfl) 6 _).set b6 (by decide) (.inl rfl) 7 _)
 have hx7 : SloX w7 gd gs 0 (.slice xA n xc) bs (count + 1) := ⟨by have := hb7; unfold slCells at this; rw [show ((count + 1 : Nat) : Int) = (count : Int) + 1 by omega]; exact this, hby.ag (hk47.ag (F := fun _ => False) (fun _ q => q.elim)), by left; rfl, by rw [HTX.out.b.len]; omega⟩
 have hK : Kf (fun b => F b ∨ b = gs) w w7 := ((((Kf.of_below (F := fun b => F b ∨ b = gs) HB.out.1).next HB.out.2).trans HE2.out.2.2.1 (fun b q => .inl (.inl q))).trans hk7 (fun b q => .inl (.inr q)))
 have HE := Lib.hid (And.intro (HE2.out.1.ag hA7) (And.intro hx7 (And.intro HE2.out.2.1 (And.intro hK (And.intro (show Sb w F F2 from fun b q => by
  rcases HE2.out.2.2.2.1 b q with r | r
  · exact .inl r
  · exact .inr (Nat.le_trans HB.out.1.size (Nat.le_trans HB.out.2.size r))) (HE2.out.2.2.2.2.next hk7.size))))))
 clear hb7 hk7 hA7 hby hk47 hx7 hK b5 b6
 go_wp2_with fail
 go_ret
 rw [hw7]
 exact ⟨rfl, F2, ns2, _, _, HE.out⟩
end
section
open Go.RowKit
structure PutD where
 lba : Int
 A : Option Addr
 n : Nat
 c : Nat
 bs : List Int
def PutD.cells (x : PutD) : List Value := [.int .i64 x.lba, .slice x.A x.n x.c]
theorem put_two (p : PutD) : p.cells.length = 2 := rfl
theorem Rd.agn {w w' : World} {G : Foot} {A : Option Addr} {xs : List Value} (h : Rd w w.heap.size A xs) (k : Ag G w w') (hG : ∀ ad, A = some ad → 0 < xs.length → G ad.block) : Rd w' w'.heap.size A xs := fun hn => by
 obtain ⟨ad, e, hb, hc⟩ := h hn
 refine ⟨ad, e, Nat.lt_of_lt_of_le hb k.size, fun j u hu => ?_⟩
 have h1 := hc j u hu
 have ho : w.heap[ad.block]? = some w.heap[ad.block] := Array.getElem?_eq_getElem hb
 rw [World.cell?_of_block (w := w) (w' := w') (by rw [add_block, ho, k.keep _ _ ho (.inl (hG ad e hn))])]
 exact h1
theorem Rd.ag {w w' : World} {G : Foot} {A : Option Addr} {xs : List Value} (h : Rd w w.heap.size A xs) (k : Ag G w w') (hG : ∀ ad, A = some ad → G ad.block) : Rd w' w'.heap.size A xs := Rd.agn h k fun a e _ => hG a e
structure IsPs (w : World) (A : Option Addr) (n c : Nat) (ps : List PutD) : Prop where
 len : ps.length = n
 rd : Rd w w.heap.size A (ps.flatMap PutD.cells)
 y : ∀ p ∈ ps, IsY w p.A p.n p.c p.bs
 cap : n ≤ c
 big : c ≤ maxLen
theorem IsPs.agn {w w' : World} {G : Foot} {A : Option Addr} {n c : Nat} {ps : List PutD} (h : IsPs w A n c ps) (k : Ag G w w') (hG : ∀ ad, A = some ad → 0 < n → G ad.block) : IsPs w' A n c ps :=
 ⟨h.len, Rd.agn h.rd k (fun ad e q => hG ad e (by rw [flat_len put_two, h.len] at q; omega)), fun p hp => (h.y p hp).ag k, h.cap, h.big⟩
theorem IsPs.ag {w w' : World} {G : Foot} {A : Option Addr} {n c : Nat} {ps : List PutD} (h : IsPs w A n c ps) (k : Ag G w w') (hG : ∀ ad, A = some ad → G ad.block) : IsPs w' A n c ps := h.agn k fun a e _ => hG a e
theorem IsPs.next {w w' : World} {A : Option Addr} {n c : Nat} {ps : List PutD} (h : IsPs w A n c ps) (hb : Below w.heap.size w w') : IsPs w' A n c ps := h.ag (.of_below (F := fun _ => True) hb) (fun _ _ => trivial)
theorem IsPs.nil (w : World) : IsPs w none 0 0 [] := ⟨rfl, Rd.nil _ _ _, by simp, Nat.le_refl _, by simp [maxLen]⟩
structure TxD where
 time : Int
 A : Option Addr
 n : Nat
 c : Nat
 ps : List PutD
def TxD.cells (x : TxD) : List Value := [.int .i64 x.time, .slice x.A x.n x.c]
theorem tx_two (p : TxD) : p.cells.length = 2 := rfl
structure IsTs (w : World) (A : Option Addr) (n c : Nat) (ts : List TxD) : Prop where
 len : ts.length = n
 rd : Rd w w.heap.size A (ts.flatMap TxD.cells)
 y : ∀ t ∈ ts, IsPs w t.A t.n t.c t.ps
 cap : n ≤ c
 big : c ≤ maxLen
theorem IsTs.next {w w' : World} {A : Option Addr} {n c : Nat} {ts : List TxD} (h : IsTs w A n c ts) (hb : Below w.heap.size w w') : IsTs w' A n c ts :=
 ⟨h.len, Rd.ag h.rd (.of_below (F := fun _ => True) hb) (fun _ _ => trivial), fun t ht => (h.y t ht).next hb, h.cap, h.big⟩
def PredP (w : World) (g : Nat) (lb : Array Value) (b : PutD → Bool) (ps : List PutD) : Prop := ∀ p ∈ ps, ∀ w', Below w.heap.size w w' → Calls Tryz.prog g (#[.agg #[.int .i64 p.lba, .slice p.A p.n p.c]] ++ lb) w' fun e w'' => e = .returned (.bool (b p)) ∧ Below w'.heap.size w' w''
theorem index_gen (A : Option Addr) (n c : Nat) (ps : List PutD) (g : Nat) (lb : Array Value) (b : PutD → Bool) (w : World) (h : IsPs w A n c ps) (eg : ∀ args w, (callFunc g args).run Tryz.prog w = .ok (.enter g args) w) (hp : PredP w g lb b ps) :
  Calls Tryz.prog 222 #[.slice A n c, .func (.func g) #[] lb] w fun e w' => (∃ r : Int, e = .returned (.int .i64 r) ∧ -1 ≤ r ∧ (0 ≤ r ↔ ∃ p ∈ ps, b p = true)) ∧ Below w.heap.size w w' := by
 have hl := h.len
 have hnn := Nat.le_trans h.cap h.big
 have hbig : maxLen ≤ 9223372036854775807 := by decide
 go_enter Tryz.func222, Tryz.ntmps222
 go_wp2_with fail
 go_loopw [5, 8] (fun s5 i wr => ∃ k : Nat, k ≤ n ∧ i = .int .i64 k ∧ Below w.heap.size w wr ∧ Hid (∀ j, (hj : j < ps.length) → j < k → b ps[j] = false)) (fun _ i _ => n - (intOf i).toNat)
 case atStart => exact ⟨0, Nat.zero_le _, rfl, Below.refl _ _, fun j hj h => absurd h (by omega)⟩
 case round =>
  obtain ⟨k, hk, rfl, hW, HU⟩ := hrel
  by_cases hlt : k < n
  · obtain ⟨p, hpk⟩ : ∃ p, ps[k]'(by omega) = p := ⟨_, rfl⟩
    have hpm : p ∈ ps := by rw [← hpk]; exact List.getElem_mem _
    obtain ⟨ad, rfl, had, c0, c1⟩ := two_get put_two (h.rd.next (Nat.le_refl _) hW) (k := k) (by omega) (u := .int .i64 p.lba) (v := .slice p.A p.n p.c) (by rw [hpk]; rfl)
    have n0 : (k : Int) < (n : Int) := by omega
    have n1 : (0 : Int) ≤ (k : Int) := by omega
    have hcall := hp p hpm wr hW
    have HP := Lib.hid hpk
    clear hpk
    cases hq : b p with
    | false =>
      rw [hq] at hcall
      have HN := Lib.hid (show ∀ j, (hj : j < ps.length) → j < k + 1 → b ps[j] = false from fun j hj hjk => by
       rcases Nat.lt_or_ge j k with g | g
       · exact HU.out j hj g
       · obtain rfl : j = k := by omega
         rw [HP.out]; exact hq)
      clear HU hq
      go_wp2_with (go_at_fn g; refine hcall.mono ?_; rintro e w' ⟨rfl, hb⟩)
      have hW2 := hW.trans (hb.mono hW.size)
      go_roundw
      case rel => exact ⟨k + 1, by omega, by go_num, hW2, HN⟩
      case measure => simp [intOf]; omega
    | true =>
      rw [hq] at hcall
      have HN := Lib.hid (show ∃ p ∈ ps, b p = true from ⟨p, hpm, hq⟩)
      clear HU hq
      go_wp2_with (go_at_fn g; refine hcall.mono ?_; rintro e w' ⟨rfl, hb⟩)
      have hW2 := hW.trans (hb.mono hW.size)
      go_ret
      exact ⟨⟨k, rfl, by omega, fun _ => HN.out, fun _ => by omega⟩, hW2⟩
  · have HN := Lib.hid (show ¬ ∃ p ∈ ps, b p = true from fun ⟨p, hp, h4⟩ => by
     obtain ⟨i, hi, rfl⟩ := List.getElem_of_mem hp
     rw [HU.out i hi (by omega)] at h4; cases h4)
    clear HU
    have n0 : ¬ (k : Int) < (n : Int) := by omega
    go_wp2_with fail
    go_ret
    exact ⟨⟨-1, rfl, by omega, fun h => absurd h (by decide), fun h => absurd h HN.out⟩, hW⟩
theorem has_gen (A : Option Addr) (n c : Nat) (ps : List PutD) (g : Nat) (lb : Array Value) (b : PutD → Bool) (w : World) (h : IsPs w A n c ps) (eg : ∀ args w, (callFunc g args).run Tryz.prog w = .ok (.enter g args) w) (hp : PredP w g lb b ps) :
  Calls Tryz.prog 160 #[.slice A n c, .func (.func g) #[] lb] w fun e w' => (∃ r : Bool, e = .returned (.bool r) ∧ (r = true ↔ ∃ p ∈ ps, b p = true)) ∧ Below w.heap.size w w' := by
 have hix := index_gen A n c ps g lb b w h eg hp
 clear hp
 go_enter Tryz.func160, Tryz.ntmps160
 go_wp2_with fail
 refine hix.mono ?_
 rintro e w' ⟨⟨r, rfl, h1, hr⟩, hb⟩
 have HR := Lib.hid hr
 clear hr
 by_cases h0 : 0 ≤ r
 · have t0 : decide (0 ≤ r) = true := decide_eq_true h0
   have HN := Lib.hid (HR.out.1 h0)
   go_wp2_with fail
   go_ret
   exact ⟨⟨true, rfl, fun _ => HN.out, fun _ => rfl⟩, hb⟩
 · have t0 : decide (0 ≤ r) = false := decide_eq_false h0
   have HN := Lib.hid (fun q => h0 (HR.out.2 q))
   go_wp2_with fail
   go_ret
   exact ⟨⟨false, rfl, fun q => (by cases q), fun q => absurd q HN.out⟩, hb⟩
structure OkT (t : TxD) : Prop where
 time : 1 ≤ t.time ∧ t.time ≤ 1000
 n : 1 ≤ t.n ∧ t.n ≤ 16
 up : ∀ j, (hj : j + 1 < t.ps.length) → t.ps[j].lba < t.ps[j + 1].lba
 ps : ∀ p ∈ t.ps, 0 ≤ p.lba ∧ p.lba < 258 ∧ p.n = 40
structure OkB (num : Int) (ts : List TxD) : Prop where
 num : 1 ≤ num ∧ num ≤ 1000
 len : 1 ≤ ts.length ∧ ts.length ≤ 8
 up : ∀ j, (hj : j + 1 < ts.length) → ts[j].time < ts[j + 1].time
 tx : ∀ t ∈ ts, OkT t
 sum : (ts.map (·.n)).sum ≤ 32
theorem nsum_take {ts : List TxD} {k : Nat} (hk : k < ts.length) : ((ts.take (k + 1)).map (·.n)).sum = ((ts.take k).map (·.n)).sum + ts[k].n := by
 rw [List.take_succ_eq_append_getElem hk, List.map_append, List.sum_append]; simp
theorem form_any (A : Option Addr) (n c : Nat) (ts : List TxD) (w : World) (h : IsTs w A n c ts) (h16 : ∀ t ∈ ts, t.n ≤ 16) :
  Calls Tryz.prog 90 #[.slice A n c] w fun e w' => (∃ k : Nat, e = .returned (.int .i64 k) ∧ k ≤ n ∧ k ≤ 8 ∧ ((ts.take k).map (·.n)).sum ≤ 32 ∧ (0 < n → 0 < k)) ∧ Below w.heap.size w w' := by
 have hl := h.len
 go_enter Tryz.func90, Tryz.ntmps90
 go_wp2_with fail
 go_loopw [2, 3, 8] (fun nv pv i wr => ∃ k P : Nat, k ≤ n ∧ k ≤ 8 ∧ i = .int .i64 k ∧ nv = .int .i64 k ∧ pv = .int .i64 P ∧ P ≤ 32 ∧ Below w.heap.size w wr ∧ Hid (((ts.take k).map (·.n)).sum = P)) (fun _ _ i _ => n - (intOf i).toNat)
 case atStart => exact ⟨0, 0, Nat.zero_le _, by omega, rfl, rfl, rfl, by omega, Below.refl _ _, by show _ = _; simp⟩
 case round =>
  obtain ⟨k, P, hk, hk8, rfl, rfl, rfl, hP, hW, HS⟩ := hrel
  by_cases hlt : k < n
  · obtain ⟨t, hpt⟩ : ∃ p, ts[k]'(by omega) = p := ⟨_, rfl⟩
    have hmt : t ∈ ts := by rw [← hpt]; exact List.getElem_mem _
    obtain ⟨adt, eAt, hadt, c0, c1⟩ := two_get tx_two (h.rd.next (Nat.le_refl _) hW) (k := k) (by omega) (u := .int .i64 t.time) (v := .slice t.A t.n t.c) (by rw [hpt]; rfl)
    have ht16 := h16 t hmt
    have HT := Lib.hid hpt
    have n0 : (k : Int) < (n : Int) := by omega
    have n1 : (0 : Int) ≤ (k : Int) := by omega
    subst eAt
    clear hpt hmt
    obtain ⟨w5, hw5⟩ : ∃ w5, wr.alloc (.cells #[.int .i64 t.time, .slice t.A t.n t.c] 182) = w5 := ⟨_, rfl⟩
    have hB5 : Bk w5 wr.heap.size 182 [.int .i64 t.time, .slice t.A t.n t.c] := by rw [← hw5]; exact Bk.new wr _ _
    have hW5 : Below w.heap.size w w5 := by rw [← hw5]; exact hW.alloc hW.size _
    have d1 := hB5.cell (i := 1) (by simp)
    simp only [List.getElem_cons_zero, List.getElem_cons_succ] at d1
    clear hB5
    have BRK := Lib.hid (show (∃ j : Nat, Value.int .i64 (k : Int) = .int .i64 (j : Int) ∧ j ≤ n ∧ j ≤ 8 ∧ ((ts.take j).map (·.n)).sum ≤ 32) from ⟨k, rfl, hk, hk8, by rw [HS.out]; exact hP⟩)
    by_cases h8 : k = 8
    · have t0 : decide ((8 : Int) ≤ (k : Int)) = true := decide_eq_true (by omega)
      have HZ := Lib.hid (show 0 < k by omega)
      clear h8
      go_wp2_with fail
      go_ret
      exact ⟨⟨k, rfl, hk, hk8, by rw [HS.out]; exact hP, fun _ => HZ.out⟩, hW5⟩
    · have t0 : decide ((8 : Int) ≤ (k : Int)) = false := decide_eq_false (by omega)
      by_cases hb : 0 < k ∧ 32 - (P : Int) < (t.n : Int)
      · have t1 : decide ((0 : Int) < (k : Int)) = true := decide_eq_true (by omega)
        have t2 : decide (32 - (P : Int) < (t.n : Int)) = true := decide_eq_true hb.2
        have t3 : (0 : Int) < (k : Int) := by omega
        have wk : wrap64 (32 - (P : Int)) = 32 - (P : Int) := by unfold wrap64; omega
        have HZ := Lib.hid hb.1
        clear hb h8
        go_wp2_with fail
        go_ret
        exact ⟨⟨k, rfl, hk, hk8, by rw [HS.out]; exact hP, fun _ => HZ.out⟩, hW5⟩
      · have wk : wrap64 (32 - (P : Int)) = 32 - (P : Int) := by unfold wrap64; omega
        have wp : wrap64 ((P : Int) + (t.n : Int)) = ((P + t.n : Nat) : Int) := by unfold wrap64; omega
        have hPn : P + t.n ≤ 32 := by
         rcases Nat.eq_zero_or_pos k with e | e
         · subst e
           have := HS.out
           simp at this
           omega
         · omega
        have HN := Lib.hid (show ((ts.take (k + 1)).map (·.n)).sum = P + t.n by rw [nsum_take (by omega), HS.out, HT.out])
        have t2 : decide (32 - (P : Int) < (t.n : Int)) = false := decide_eq_false (by omega)
        clear hb
        rcases Nat.eq_zero_or_pos k with e | e
        · have t1 : decide ((0 : Int) < (k : Int)) = false := decide_eq_false (by omega)
          have t3 : ¬ (0 : Int) < (k : Int) := by omega
          clear e
          go_wp2_with fail
          go_roundw
          case rel => exact ⟨k + 1, P + t.n, by omega, by omega, by go_num, by go_num, by first | rfl | (congr 1), hPn, hW5, HN⟩
          case measure => simp [intOf]; omega
        · have t1 : decide ((0 : Int) < (k : Int)) = true := decide_eq_true (by omega)
          have t3 : (0 : Int) < (k : Int) := by omega
          go_wp2_with fail
          go_roundw
          case rel => exact ⟨k + 1, P + t.n, by omega, by omega, by go_num, by go_num, by first | rfl | (congr 1), hPn, hW5, HN⟩
          case measure => simp [intOf]; omega
  · obtain rfl : k = n := by omega
    have n0 : ¬ (k : Int) < (k : Int) := by omega
    go_wp2_with fail
    go_ret
    exact ⟨⟨k, rfl, hk, hk8, by first | (rw [HS.out]; exact hP) | (rw [← List.map_take, HS.out]; exact hP), fun h => h⟩, hW⟩
end
section
open Go.RowKit
theorem bput_yes (lba : Int) (A : Option Addr) (n c : Nat) (w : World) (h : 0 ≤ lba ∧ lba < 258 ∧ n = 40) :
  Calls Tryz.prog 216 #[.agg #[.int .i64 lba, .slice A n c]] w fun e w' => e = .returned (.bool true) ∧ Below w.heap.size w w' := by
 obtain ⟨h0, h1, rfl⟩ := h
 have t1 : decide (lba ≤ 1048576) = true := decide_eq_true (by omega)
 have t2 : decide (0 ≤ lba) = true := decide_eq_true h0
 have h2 : lba ≤ 1048576 := by omega
 obtain ⟨w5, hw5⟩ : ∃ w5, w.alloc (.cells #[.int .i64 lba, .slice A 40 c] 50) = w5 := ⟨_, rfl⟩
 have hB5 : Bk w5 w.heap.size 50 [.int .i64 lba, .slice A 40 c] := by rw [← hw5]; exact Bk.new w _ _
 have hb5 : Below w.heap.size w w5 := by rw [← hw5]; exact (Below.refl _ _).alloc (Nat.le_refl _) _
 obtain ⟨d0, d1⟩ := hB5.c2
 go_enter Tryz.func216, Tryz.ntmps216
 go_wp2_with fail
 go_ret
 exact ⟨rfl, hb5⟩
theorem bclo_yes (lba : Int) (A : Option Addr) (n c : Nat) (w : World) (h : 0 ≤ lba ∧ lba < 258 ∧ n = 40) :
  Calls Tryz.prog 215 #[.agg #[.int .i64 lba, .slice A n c]] w fun e w' => e = .returned (.bool false) ∧ Below w.heap.size w w' := by
 have hp := fun w' => bput_yes lba A n c w' h
 obtain ⟨w5, hw5⟩ : ∃ w5, w.alloc (.cells #[.int .i64 lba, .slice A n c] 50) = w5 := ⟨_, rfl⟩
 have hB5 : Bk w5 w.heap.size 50 [.int .i64 lba, .slice A n c] := by rw [← hw5]; exact Bk.new w _ _
 have hb5 : Below w.heap.size w w5 := by rw [← hw5]; exact (Below.refl _ _).alloc (Nat.le_refl _) _
 obtain ⟨d0, d1⟩ := hB5.c2
 clear h
 go_enter Tryz.func215, Tryz.ntmps215
 go_wp2_with fail
 refine (hp _).mono ?_
 rintro e w' ⟨rfl, hb⟩
 have hb6 := hb5.trans (hb.mono hb5.size)
 clear hp hb
 go_wp2_with fail
 go_ret
 exact ⟨rfl, hb6⟩
theorem bblocks_any (num : Int) (A : Option Addr) (n c S : Nat) (ts : List TxD) (w : World) (h : IsTs w A n c ts) (hs : (ts.map (·.n)).sum ≤ 32) (hS : 1 + (ts.map (·.n)).sum = S) :
  Calls Tryz.prog 214 #[.agg #[.int .i64 num, .slice A n c]] w fun e w' => e = .returned (.int .i64 (S : Int)) ∧ Below w.heap.size w w' := by
 have hl := h.len
 obtain ⟨w5, hw5⟩ : ∃ w5, w.alloc (.cells #[.int .i64 num, .slice A n c] 101) = w5 := ⟨_, rfl⟩
 have hB5 : Bk w5 w.heap.size 101 [.int .i64 num, .slice A n c] := by rw [← hw5]; exact Bk.new w _ _
 have hb5 : Below w.heap.size w w5 := by rw [← hw5]; exact (Below.refl _ _).alloc (Nat.le_refl _) _
 obtain ⟨d0, d1⟩ := hB5.c2
 have h5 := h.next hb5
 have tk : ∀ k, ((ts.take k).map (·.n)).sum ≤ (ts.map (·.n)).sum := fun k => by
  conv => rhs; rw [← List.take_append_drop k ts, List.map_append, List.sum_append]
  omega
 have HK := Lib.hid (And.intro tk hs)
 have HSS := Lib.hid hS
 have hnn := Nat.le_trans h.cap h.big
 have hbig : maxLen ≤ 9223372036854775807 := by decide
 clear h tk hs hB5 hS
 go_enter Tryz.func214, Tryz.ntmps214
 go_wp2_with fail
 go_loopw [3, 9] (fun pv i wr => ∃ k P : Nat, k ≤ n ∧ i = .int .i64 k ∧ pv = .int .i64 P ∧ P ≤ 33 ∧ Below w.heap.size w wr ∧ Below w5.heap.size w5 wr ∧ Hid (1 + ((ts.take k).map (·.n)).sum = P)) (fun _ i _ => n - (intOf i).toNat)
 case atStart => exact ⟨0, 1, Nat.zero_le _, rfl, rfl, by omega, hb5, Below.refl _ _, by show _ = _; simp⟩
 case round =>
  obtain ⟨k, P, hk, rfl, rfl, hP, hW, hW5, HS⟩ := hrel
  clear d0 d1
  by_cases hlt : k < n
  · obtain ⟨t, hpt⟩ : ∃ p, ts[k]'(by omega) = p := ⟨_, rfl⟩
    have hmt : t ∈ ts := by rw [← hpt]; exact List.getElem_mem _
    obtain ⟨adt, eAt, hadt, c0, c1⟩ := two_get tx_two (h5.rd.next (Nat.le_refl _) hW5) (k := k) (by omega) (u := .int .i64 t.time) (v := .slice t.A t.n t.c) (by rw [hpt]; rfl)
    have HT := Lib.hid hpt
    have n0 : (k : Int) < (n : Int) := by omega
    have n1 : (0 : Int) ≤ (k : Int) := by omega
    subst eAt
    have hPn : P + t.n ≤ 33 := by
     have h1 := HK.out.1 (k + 1)
     rw [nsum_take (by omega), HT.out] at h1
     have := HS.out
     have := HK.out.2
     omega
    have wp : wrap64 ((P : Int) + (t.n : Int)) = ((P + t.n : Nat) : Int) := by unfold wrap64; omega
    have HN := Lib.hid (show 1 + ((ts.take (k + 1)).map (·.n)).sum = P + t.n by rw [nsum_take (by omega), HT.out]; have := HS.out; omega)
    clear hpt hmt
    obtain ⟨w6, hw6⟩ : ∃ w6, wr.alloc (.cells #[.int .i64 t.time, .slice t.A t.n t.c] 182) = w6 := ⟨_, rfl⟩
    have hB6 : Bk w6 wr.heap.size 182 [.int .i64 t.time, .slice t.A t.n t.c] := by rw [← hw6]; exact Bk.new wr _ _
    have hb6 : Below wr.heap.size wr w6 := by rw [← hw6]; exact (Below.refl _ _).alloc (Nat.le_refl _) _
    obtain ⟨d0, d1⟩ := hB6.c2
    have hW2 := hW.trans (hb6.mono hW.size)
    have hW3 := hW5.trans (hb6.mono hW5.size)
    clear hB6
    go_wp2_with fail
    go_roundw
    case rel => exact ⟨k + 1, P + t.n, by omega, by go_num, by first | rfl | (congr 1), hPn, hW2, hW3, HN⟩
    case measure => simp [intOf]; omega
  · obtain rfl : k = n := by omega
    have n0 : ¬ (k : Int) < (k : Int) := by omega
    have hE := HS.out
    rw [List.take_of_length_le (by omega)] at hE
    obtain rfl : P = S := hE.symm.trans HSS.out
    clear hE
    go_wp2_with fail
    go_ret
    exact ⟨rfl, hW⟩
theorem order_yes (A : Option Addr) (n c : Nat) (ts : List TxD) (w : World) (h : IsTs w A n c ts) (hok : ∀ t ∈ ts, OkT t) (hup : ∀ j, (hj : j + 1 < ts.length) → ts[j].time < ts[j + 1].time) :
  Calls Tryz.prog 213 #[.slice A n c] w fun e w' => e = .returned (.bool true) ∧ Below w.heap.size w w' := by
 have hl := h.len
 have HU := Lib.hid hup
 have HO := Lib.hid hok
 have hnn := Nat.le_trans h.cap h.big
 have hbig : maxLen ≤ 9223372036854775807 := by decide
 clear hup hok
 go_enter Tryz.func213, Tryz.ntmps213
 go_wp2_with fail
 go_loopw [3, 9] (fun lv i wr => ∃ (k : Nat) (L : Int), k ≤ n ∧ i = .int .i64 k ∧ lv = .int .i64 L ∧ Below w.heap.size w wr ∧ Hid (∀ (hk : k < ts.length), L < ts[k].time)) (fun _ i _ => n - (intOf i).toNat)
 case atStart => exact ⟨0, 0, Nat.zero_le _, rfl, rfl, Below.refl _ _, fun hk => by have := (HO.out _ (List.getElem_mem hk)).time.1; omega⟩
 case round =>
  obtain ⟨k, L, hk, rfl, rfl, hW, HL⟩ := hrel
  by_cases hlt : k < n
  · obtain ⟨t, hpt⟩ : ∃ p, ts[k]'(by omega) = p := ⟨_, rfl⟩
    have hmt : t ∈ ts := by rw [← hpt]; exact List.getElem_mem _
    obtain ⟨adt, eAt, hadt, c0, c1⟩ := two_get tx_two (h.rd.next (Nat.le_refl _) hW) (k := k) (by omega) (u := .int .i64 t.time) (v := .slice t.A t.n t.c) (by rw [hpt]; rfl)
    have ho := HO.out t hmt
    have hLt : L < t.time := by rw [← hpt]; exact HL.out (by omega)
    have HT := Lib.hid (show ∀ (hk : k + 1 < ts.length), t.time < ts[k + 1].time from fun hk1 => by rw [← hpt]; exact HU.out k hk1)
    have hps := (h.y t hmt).next hW
    have n0 : (k : Int) < (n : Int) := by omega
    have n1 : (0 : Int) ≤ (k : Int) := by omega
    have t0 : decide (t.time ≤ L) = false := decide_eq_false (by omega)
    have ht1 := ho.time
    have t1 : decide (1099511627776 < t.time) = false := decide_eq_false (by omega)
    have t2 : decide ((t.n : Int) = 0) = false := decide_eq_false (by have := ho.n; omega)
    have t3 : ((t.n : Int) == 0) = false := by have := ho.n; simp; omega
    have hn1 := ho.n
    have ht0 : t.n ≠ 0 := by omega
    subst eAt
    clear hpt hmt HL
    obtain ⟨w6, hw6⟩ : ∃ w6, wr.alloc (.cells #[.int .i64 t.time, .slice t.A t.n t.c] 182) = w6 := ⟨_, rfl⟩
    have hB6 : Bk w6 wr.heap.size 182 [.int .i64 t.time, .slice t.A t.n t.c] := by rw [← hw6]; exact Bk.new wr _ _
    have hb6 : Below wr.heap.size wr w6 := by rw [← hw6]; exact (Below.refl _ _).alloc (Nat.le_refl _) _
    obtain ⟨d0, d1⟩ := hB6.c2
    have hW2 := hW.trans (hb6.mono hW.size)
    have hps6 := hps.next hb6
    have HP6 := Lib.hid hps6
    have HX := Lib.hid (And.intro ho.up hps.len)
    have HTL := Lib.hid (And.intro ht1 hLt)
    clear hB6 hps hps6 ho ht1 hLt
    go_wp2_with fail
    clear c0 c1
    go_loopw [6] (fun iv wr => ∃ j q : Nat, j + 1 ≤ t.n ∧ iv = .int .i64 ((j : Int) + 1) ∧ wr = w6.drewN q) (fun iv _ => t.n - (intOf iv).toNat)
    case atStart => exact ⟨0, 0, hn1.1, rfl, rfl⟩
    case round =>
     obtain ⟨j, q, hj, rfl, rfl⟩ := hrel
     by_cases hjl : j + 1 < t.n
     · obtain ⟨x, hx⟩ : ∃ p, t.ps[j]'(by have := HX.out.2; omega) = p := ⟨_, rfl⟩
       obtain ⟨y, hy⟩ : ∃ p, t.ps[j + 1]'(by have := HX.out.2; omega) = p := ⟨_, rfl⟩
       obtain ⟨ad, eA, had, e0, _⟩ := two_get put_two HP6.out.rd (k := j) (by have := HX.out.2; omega) (u := .int .i64 x.lba) (v := .slice x.A x.n x.c) (by rw [hx]; rfl)
       have e1 : w6.cell? (ad.add ((j + 1) * 2)) = some (.int .i64 y.lba) := by
        obtain ⟨ad2, e, _, cc, _⟩ := two_get put_two HP6.out.rd (k := j + 1) (by have := HX.out.2; omega) (u := .int .i64 y.lba) (v := .slice y.A y.n y.c) (by rw [hy]; rfl)
        rw [eA] at e
        injection e with e; subst e
        exact cc
       have hxy : x.lba < y.lba := by rw [← hx, ← hy]; exact HX.out.1 j (by have := HX.out.2; omega)
       have t4 : decide (y.lba ≤ x.lba) = false := decide_eq_false (by omega)
       have n2 : (j : Int) + 1 < (t.n : Int) := by omega
       have n3 : (0 : Int) ≤ (j : Int) := by omega
       have n4 : (j : Int) < (t.n : Int) := by omega
       have n5 : (0 : Int) ≤ (j : Int) + 1 := by omega
       have wj : IntKind.i64.wrap (j : Int) = j := IntWalk.i64_in _ (by have := hn1; omega)
       have wj1 : IntKind.i64.wrap ((j : Int) + 1) = j + 1 := IntWalk.i64_in _ (by have := hn1; omega)
       rw [eA] at d1
       clear hx hy eA
       go_wp2_with fail
       go_quiet (fail)
       go_wp2_with fail
       go_roundw
       case rel => exact ⟨j + 1, _, by omega, by go_num, by first | rfl | (simp only [World.drewN_drewN]; rfl)⟩
       case measure => simp [intOf]; omega
     · have hjn : j + 1 = t.n := by omega
       have n2 : ¬ ((j : Int) + 1 < (t.n : Int)) := by omega
       go_wp2_with fail
       go_roundw
       case rel => exact ⟨k + 1, t.time, by omega, by go_num, rfl, hW2.trans (bdrewN (Below.refl _ _) q), HT⟩
       case measure => simp [intOf]; omega
  · obtain rfl : k = n := by omega
    have n0 : ¬ (k : Int) < (k : Int) := by omega
    go_wp2_with fail
    go_ret
    exact ⟨rfl, hW⟩
end
section
def loopIn : Code → Option Code
 | .loop c => some c
 | .seq a b => match loopIn a with
   | some c => some c
   | none => loopIn b
 | .block _ c => loopIn c
 | .scope c => loopIn c
 | .cond _ a b => match loopIn a with
   | some c => some c
   | none => loopIn b
 | _ => none
noncomputable def loopOf (f : Func) : Code := (f.body.bind loopIn).getD .skip
theorem int_succ {k : Nat} {x : Int} (e : x = (k : Int) + 1) : Value.int .i64 x = .int .i64 ((k + 1 : Nat) : Int) := by rw [e]; rfl
theorem sub_lt1 {n k : Nat} (h : k < n) {x : Int} (e : x = (k : Int) + 1) : n - x.toNat < n - (k : Int).toNat := by omega
end
end Go.Proofs.YthhndleddlmgiaaGreatDoor.Tp
