/- Contracts of the program's functions, and laws on memory: a part of the proof of TopReal. -/
import Derived.Test.YtbafckoeekcmpaaGreatDoorZP
import Derived.Test.YtbafckoeekcmpaaGreatDoorProg
import Derived.LoopTactic
import Derived.LoopN
import Derived.Lib.Hide
import Derived.Deep.DeepMust
import Derived.Laws.MakeOwn
import Derived.Laws.Entries
import Derived.WalkSpells
import Derived.WalkMore
import Derived.IntWalk
import Derived.Deep.QuietTactic
import Derived.BigQuiet
import Derived.Shelf.Abstract
import Derived.Deep.Slices
import Derived.DataReads
import Derived.ChangeSlices
namespace Go.Proofs.YtbafckoeekcmpaaGreatDoor.Tp
set_option maxHeartbeats 8000000
set_option maxRecDepth 100000
set_option linter.unusedSimpArgs false
set_option linter.unusedVariables false
section
open Go.RowKit Go.Maps
abbrev sStats : ByteArray := ⟨#[108, 97, 115, 116, 32, 48, 32, 111, 112, 101, 110, 32, 48, 32, 113, 117, 101, 117, 101, 32, 48, 32, 98, 108, 111, 99, 107, 115, 32, 50, 53, 56]⟩
abbrev s0 : ByteArray := ⟨#[48]⟩
abbrev lWords : List ByteArray := [⟨#[108, 97, 115, 116]⟩, s0, ⟨#[111, 112, 101, 110]⟩, s0, ⟨#[113, 117, 101, 117, 101]⟩, s0, ⟨#[98, 108, 111, 99, 107, 115]⟩, ⟨#[50, 53, 56]⟩]
theorem words_join : Lib.join (lWords.map (·.data.toList)) sSp.data.toList = sStats.data.toList := by first | rfl | decide
theorem words_at {w : World} {bk : Nat} (h : Bk w bk 9 (lWords.map Value.string)) : ∀ (j : Nat) x, lWords[j]? = some x → w.cell? ⟨bk, 0 + j, none⟩ = some (.string x) := fun j x hx => by
 have hl : j < lWords.length := (List.getElem?_eq_some_iff.1 hx).1
 have := h.cell (i := j) (by rw [List.length_map]; exact hl)
 rw [Nat.zero_add, this, List.getElem_map, (List.getElem?_eq_some_iff.1 hx).2]
section
open Go.Lib
theorem wp_appStr {P : Program} (w : World) {o : Oper} {a : Act} {K : Act → World → Prop} {Q : Exit → Act → World → Prop} (sl x : Operand) (t u : TypeId)
  (ho : o.op = .call { callee := .builtin .append, args := #[sl, x], argTypes := #[t, u] })
  (base : Nat) (e : TypeId) (i : TypeInfo) (ht : P.underlying t = some (.slice e)) (hu : P.underlying u = some .string) (hi : P.info? e = some i) (hz : i.zero = some (.int .u8 0))
  (hsize : i.size = 1) (hby : i.bytes = 1)
  (v : Value) (n : Nat) (xs : List Value) (hs : a.eval sl = v) (hown : w.ownsRow base e 1 v n xs) (s : ByteArray) (hx : a.eval x = .string s)
  (h63 : n + s.size ≤ maxLen) (hbytes : n + s.size ≤ 140737488355328) (hbase : base ≤ w.heap.size)
  (h : ∀ v' w', w'.ownsRow base e 1 v' (n + s.size) (xs ++ strCells s) → w.grownBy w' v.ownBlock → K (a.put o.dst v') w') : o.wp P a w K Q := by
 obtain ⟨v', w', hr, h2, h3, h4⟩ := run_append_own_string (P := P) w base t u o.type e i ht hu hi hz hsize hby v n xs hown s h63 hbytes hbase
 unfold Oper.wp execOp
 simp only [ho, resolve, invoke, builtin, Sem.run_bind, Sem.run_pure, Result.andThen_ok, List.map_toArray, List.map_cons, List.map_nil, hs, hx, hr]
 exact h v' w' h2 h3
end
theorem say_end {w w6 w9 : World} {sh sb : Nat} {yA : Option Addr} {yc : Nat} {v9 : Value} (h1 : Bk w6 sh 86 [.pointer (some ⟨sb, 0, none⟩), .slice yA 32 yc]) (h2 : w6.ownsRow w.heap.size 5 1 (.slice yA 32 yc) 32 (Lib.strCells sStats)) (hl : sh < w.heap.size) (hb : Below sh w w6)
  (hO : w9.ownsRow w.heap.size 5 1 v9 (32 + 1) (Lib.strCells sStats ++ [.int .u8 10])) (hG : (w6.alloc (.cells #[.int .u8 10] 5)).grownBy w9 (Value.slice yA 32 yc).ownBlock) :
  Bk (w9.setCell ⟨sh, 1, none⟩ v9) sh 86 [.pointer (some ⟨sb, 0, none⟩), v9] ∧ (w9.setCell ⟨sh, 1, none⟩ v9).ownsRow w.heap.size 5 1 v9 33 (Lib.strCells sStats ++ [.int .u8 10]) ∧ Below sh w (w9.setCell ⟨sh, 1, none⟩ v9) ∧ w9.cell? ⟨sh, 1, none⟩ = some (.slice yA 32 yc) ∧ w9.frozen? ⟨sh, 1, none⟩ = false := by
 have hA : Below w6.heap.size w6 (w6.alloc (.cells #[.int .u8 10] 5)) := (Below.refl _ _).alloc (Nat.le_refl _) _
 have bA := h1.next hA h1.lt
 have ge : ∀ g, (Value.slice yA 32 yc).ownBlock = some g → w.heap.size ≤ g := fun g e => own_at_ge h2 e
 have B9 : Bk w9 sh 86 [.pointer (some ⟨sb, 0, none⟩), .slice yA 32 yc] := (hG.block _ bA.lt (fun e => by have := ge _ e.symm; omega)).trans bA
 have b9 : Below sh w w9 := (hb.trans (hA.mono (Nat.le_trans (Nat.le_of_lt hl) hb.size))).grown hG (Nat.le_of_lt (Nat.lt_of_lt_of_le hl (Nat.le_trans hb.size hA.size))) (fun g e => Nat.le_trans (Nat.le_of_lt hl) (ge g e))
 exact ⟨B9.set 1 _, own_set hO hl _, b9.setCell (p := ⟨sh, 1, none⟩) (Nat.le_refl _) _, B9.cell (i := 1) (by simp), B9.free 1⟩
section
theorem say_any {w : World} {sh sb bk c : Nat} (hB : Bk w sh 86 [.pointer (some ⟨sb, 0, none⟩), .slice none 0 0]) (hR : Bk w bk 9 (lWords.map Value.string)) (hc : 8 ≤ c) :
  Calls Tryz.prog 34 #[.pointer (some ⟨sh, 0, none⟩), .slice (some ⟨bk, 0, none⟩) 8 c] w fun e w' => e = .returned (.tuple #[]) ∧ ∃ v, Bk w' sh 86 [.pointer (some ⟨sb, 0, none⟩), v] ∧ w'.ownsRow w.heap.size 5 1 v 33 (Lib.strCells sStats ++ [.int .u8 10]) ∧ Below sh w w' := by
 obtain ⟨xi, hxi, hxz, hx5, hx56⟩ := info_parts infoB
 obtain ⟨xi7, xz7, hxi7, hxz7, hx57, hx567, hxc7⟩ : ∃ i z, Tryz.prog.info? 5 = some i ∧ i.zero = some z ∧ i.size = 1 ∧ i.bytes = 1 ∧ z.cells.size = 1 := ⟨xi, _, hxi, hxz, hx5, hx56, rfl⟩
 have HL := Lib.hid hB.lt
 have HR := Lib.hid hR
 have HC := Lib.hid hc
 have KK := Lib.hid (fun (w' : World) (hS : Bk w' sh 86 [.pointer (some ⟨sb, 0, none⟩), .slice none 0 0] ∧ Below w.heap.size w w') => (show w'.cell? ⟨sh, 1, none⟩ = some (.slice none 0 0) from hS.1.cell (i := 1) (by simp)))
 go_enter Tryz.func34, Tryz.ntmps34
 go_wp2_with fail
 have Kq := KK
 refine anyL_start (fun w' => Bk w' sh 86 [.pointer (some ⟨sb, 0, none⟩), .slice none 0 0] ∧ Below w.heap.size w w') 10 (by kernel_rfl) (⟨hB.drew, bdrew (Below.refl _ _)⟩) (fun hHeld => ?_)
 refine kL 0 ?_; refine kL 1 ?_; refine kL 2 ?_; refine kL 3 ?_; refine kL 4 ?_; refine kL 5 ?_
 refine rL 6 (fun K hK => ?_)
 go_simp
 refine (Tryz.strings_Join bk 0 c lWords sSp _ (words_at (HR.out.next hHeld.2 HR.out.lt)) (HR.out.next hHeld.2 HR.out.lt).lt (by decide) HC.out (by rw [words_join]; decide)).mono ?_
 rintro e w4 ⟨rfl, hb4⟩
 rw [words_join]
 have hS4 : Bk w4 sh 86 [.pointer (some ⟨sb, 0, none⟩), .slice none 0 0] ∧ Below w.heap.size w w4 := ⟨(hHeld.1.next hb4 hHeld.1.lt), hHeld.2.trans (hb4.mono hHeld.2.size)⟩
 clear hb4
 go_simp
 refine hK.out _ _ (fun _ => hS4) ?_
 clear hK K hHeld
 have hHeld := hS4
 try simp only [Act.put, List.setIfInBounds_toArray, List.set_cons_zero, List.set_cons_succ]
 refine rL 7 (fun K hK => ?_)
 refine if_wanted rfl (wp_appStr w4 _ _ 45 9 rfl w.heap.size 5 xi Tryz.underlying45 Tryz.underlying9 hxi hxz hx5 hx56 (.slice none 0 0) 0 [] (by rfl) ⟨rfl, .inl ⟨rfl, rfl⟩⟩ sStats (by rfl) (by decide) (by decide) hS4.2.size ?_)
 intro v5 w5 hO5 hG5
 have hS5 : Bk w5 sh 86 [.pointer (some ⟨sb, 0, none⟩), .slice none 0 0] ∧ Below w.heap.size w w5 := ⟨(hG5.block _ hS4.1.lt (fun e => by cases e)).trans hS4.1, hS4.2.grown hG5 hS4.2.size (fun g e => by cases e)⟩
 obtain ⟨yA, yc, rfl⟩ := own_shape hO5
 have HO := Lib.hid hO5
 clear hO5 hG5
 refine hK.out _ _ (fun _ => hS5) ?_
 clear hK K hHeld
 have hHeld := hS5
 try simp only [Act.put, List.setIfInBounds_toArray, List.set_cons_zero, List.set_cons_succ]
 refine rL 8 (fun K hK => ?_)
 go_simp
 refine hK.out _ _ (fun _ => hS5) ?_
 clear hK K hHeld
 have hHeld := hS5
 try simp only [Act.put, List.setIfInBounds_toArray, List.set_cons_zero, List.set_cons_succ]
 refine rL 9 (fun K hK => ?_)
 go_simp
 refine hK.out _ _ (fun _ => hS5) ?_
 clear hK K hHeld
 have hHeld := hS5
 try simp only [Act.put, List.setIfInBounds_toArray, List.set_cons_zero, List.set_cons_succ]
 refine rL 10 (fun K hK => ?_)
 have z1 := hHeld.1.cell (i := 1) (by simp)
 simp only [List.getElem_cons_zero, List.getElem_cons_succ] at z1
 have y1 := hHeld.1.free 1
 obtain ⟨w6, hw6⟩ : ∃ w6, w5.setCell ⟨sh, 1, none⟩ (.slice yA 32 yc) = w6 := ⟨_, rfl⟩
 have B6 : Bk w6 sh 86 [.pointer (some ⟨sb, 0, none⟩), .slice yA 32 yc] := by rw [← hw6]; exact hHeld.1.set 1 _
 have O6 : w6.ownsRow w.heap.size 5 1 (.slice yA 32 yc) 32 (Lib.strCells sStats) := by rw [← hw6]; exact own_set HO.out HL.out _
 have b6 : Below sh w w6 := by rw [← hw6]; exact (hHeld.2.mono (Nat.le_of_lt HL.out)).setCell (p := ⟨sh, 1, none⟩) (Nat.le_refl _) _
 have z6 := B6.cell (i := 1) (by simp)
 simp only [List.getElem_cons_zero, List.getElem_cons_succ] at z6
 have HE6 := Lib.hid (And.intro B6 (And.intro O6 b6))
 clear B6 O6 b6
 go_simp
 try rw [hw6]
 refine hK.out _ _ (fun h => absurd rfl h) ?_
 clear hK K
 try simp only [Act.put, List.setIfInBounds_toArray, List.set_cons_zero, List.set_cons_succ]
 refine anyL_done (by kernel_rfl) ?_ _
 clear Kq
 clear z1 y1 hS4 hS5 hB hR hc
 go_wp2_with (at_builtin; go_must (refine wpList_appS _ rfl _ _ 45 rfl w.heap.size 5 xi7 xz7 1 1 Tryz.underlying45 hxi7 hxz7 hx57 hx567 hxc7 (by decide) _ _ _ (by rfl) (by exact own_bel' HE6.out.2.1 ((Below.refl _ _).alloc (Nat.le_refl _) _)) _ [.int .u8 10] (by rfl) (by exact Bk.new _ _ _) rfl (by intro u hu; simp at hu; rcases hu with rfl <;> rfl) (by omega) (by decide) (by exact Nat.le_trans HE6.out.2.2.size (by simp)) ?_); intro v9 w9 hO9 hG9 hn9; obtain ⟨A9, c9, rfl⟩ := own_shape hO9; have HE := Lib.hid (say_end HE6.out.1 HE6.out.2.1 HL.out HE6.out.2.2 hO9 hG9); have z9 := HE.out.2.2.2.1; have y9 := HE.out.2.2.2.2; clear hO9 hG9 hn9)
 go_end0
 exact ⟨rfl, _, HE.out.1, HE.out.2.1, HE.out.2.2.1⟩
end
end
section
open Go.RowKit Go.Maps
theorem dec0 : (Lib.decDigits 0).toArray = #[48] := by rw [Lib.decDigits, dif_pos (by decide)]; rfl
theorem ito258 : (Lib.itoa 258).toArray = #[50, 53, 56] := by
 have h : Lib.itoa 258 = Lib.decDigits 258 := by unfold Lib.itoa; rw [if_neg (by decide)]; rfl
 rw [h, Lib.decDigits, dif_neg (by decide), show 258 / 10 = 25 from rfl, Lib.decDigits, dif_neg (by decide), show 25 / 10 = 2 from rfl, Lib.decDigits, dif_pos (by decide)]
 rfl
theorem itoa_0 (w : World) : Calls Tryz.prog 110 #[.int .i64 0] w fun e w' => e = .returned (.string s0) ∧ w = w' := (Tryz.strconv_Itoa_small 0 (by decide) w).mono fun e w' h => ⟨by rw [h.1, dec0], h.2.symm⟩
theorem itoa_258 (w : World) (hp : Pow w) : Calls Tryz.prog 110 #[.int .i64 258] w fun e w' => e = .returned (.string ⟨#[50, 53, 56]⟩) ∧ Below w.heap.size w w' := (Tryz.strconv_Itoa 258 (by decide) (by decide) w hp).mono fun e w' h => ⟨by rw [h.1, ito258], by
 obtain ⟨k, os, rfl⟩ := h.2
 exact Lib.below_grow _ _ (Nat.le_refl _) k os⟩
section
theorem bare_any {w : World} {F : Foot} {sh sb : Nat} (hS : SchB w F sb ss0 0) (hp : Pow w) (hB : Bk w sh 86 [.pointer (some ⟨sb, 0, none⟩), .slice none 0 0]) :
  Calls Tryz.prog 63 #[.pointer (some ⟨sh, 0, none⟩), .string sStat] w fun e w' => e = .returned (.bool true) ∧ ∃ v, Bk w' sh 86 [.pointer (some ⟨sb, 0, none⟩), v] ∧ (∃ B, w'.ownsRow B 5 1 v 33 (Lib.strCells sStats ++ [.int .u8 10])) ∧ Below sh w w' := by
 have hst := scStore hS
 obtain ⟨c0, c1⟩ := hB.c2
 have HB := Lib.hid (And.intro hB hp)
 clear hS hp hB
 go_enter Tryz.func63, Tryz.ntmps63
 go_wp2_with fail
 refine hst.mono ?_
 rintro e w' ⟨⟨st, Fs, rfl, Ft, gd, mb, gs, num, count, ns, hx⟩, rfl⟩
 have hla := sLast hx
 have HX := Lib.hid hx
 clear hst hx
 go_wp2_with fail
 refine hla.mono ?_
 rintro e w' ⟨rfl, rfl⟩
 clear hla
 have e0 : ((ss0.m.last : Nat) : Int) = 0 := rfl
 rw [e0]
 clear e0
 go_wp2_with fail
 refine (itoa_0 _).mono ?_
 rintro e w' ⟨rfl, rfl⟩
 have hop := sOpen HX.out
 go_wp2_with fail
 refine hop.mono ?_
 rintro e w2 ⟨⟨k, rfl, hk⟩, hb2⟩
 obtain rfl : k = 0 := hk rfl
 clear hop hk
 go_wp2_with fail
 refine (itoa_0 _).mono ?_
 rintro e w' ⟨rfl, rfl⟩
 have hqu := sQueue (HX.out.next hb2)
 go_wp2_with fail
 refine hqu.mono ?_
 rintro e w' ⟨rfl, rfl⟩
 clear hqu
 have e0 : ((ss0.m.queue.length : Nat) : Int) = 0 := rfl
 rw [e0]
 clear e0
 go_wp2_with fail
 refine (itoa_0 _).mono ?_
 rintro e w' ⟨rfl, rfl⟩
 have hbl := sBlocks (HX.out.next hb2)
 go_wp2_with fail
 refine hbl.mono ?_
 rintro e w3 ⟨rfl, hb3⟩
 have hb13 := hb2.trans (hb3.mono hb2.size)
 have hito := itoa_258 _ (HB.out.2.next hb13)
 clear hbl
 go_wp2_with fail
 refine hito.mono ?_
 rintro e w4 ⟨rfl, hb4⟩
 have hb14 := hb13.trans (hb4.mono hb13.size)
 obtain ⟨bk, w5, hzw5, hw5, Bw5, bw5⟩ := alloc_of w4 9 [.string ⟨#[108, 97, 115, 116]⟩, .string s0, .string ⟨#[111, 112, 101, 110]⟩, .string s0, .string ⟨#[113, 117, 101, 117, 101]⟩, .string s0, .string ⟨#[98, 108, 111, 99, 107, 115]⟩, .string ⟨#[50, 53, 56]⟩]
 have hb15 := hb14.trans (bw5.mono hb14.size)
 have hsay := say_any (HB.out.1.next hb15 HB.out.1.lt) (by exact Bw5) (Nat.le_refl 8)
 have H5 := Lib.hid (And.intro hb15 HB.out.1.lt)
 clear hito hb13 hb14 hb4 hb3 hb2 bw5 hb15
 go_wp2_with fail
 refine hsay.mono ?_
 rintro e w6 ⟨rfl, v, h1, h2, h3⟩
 have HE := Lib.hid (And.intro h1 (And.intro h2 ((H5.out.1.mono (Nat.le_of_lt H5.out.2)).trans h3)))
 clear hsay h1 h2 h3
 go_wp2_with fail
 go_ret
 exact ⟨rfl, v, HE.out.1, ⟨_, HE.out.2.1⟩, HE.out.2.2⟩
end
end
section
open Go.RowKit Go.Maps
section
theorem cut_stat (w : World) : Calls Tryz.prog 32 #[.string sStatNl, .string sNl] w fun e w' => e = .returned (.tuple #[.string sStat, .string ⟨#[]⟩, .bool true]) ∧ Below w.heap.size w w' := by
 go_enter Tryz.func32, Tryz.ntmps32
 go_wp2_with fail
 refine (slcut_stat w).mono ?_
 rintro e w' ⟨rfl, hb⟩
 go_wp2_with fail
 go_ret3
 exact ⟨rfl, hb⟩
theorem split1_stat (w : World) : Calls Tryz.prog 59 #[.string sStat, .string sSp] w fun e w' => e = .returned (.slice (some ⟨w.heap.size, 0, none⟩) 1 1) ∧ Bk w' w.heap.size 9 [.string sStat] ∧ Below w.heap.size w w' := by
 go_enter Tryz.func59, Tryz.ntmps59
 go_wp2_with fail
 refine (split_stat w).mono ?_
 rintro e w' ⟨rfl, h1, h2⟩
 go_wp2_with fail
 go_ret
 exact ⟨rfl, h1, h2⟩
def AnsR (w : World) (v : Value) : Prop := ∃ B, w.ownsRow B 5 1 v 33 (Lib.strCells sStats ++ [.int .u8 10])
theorem line_any {w : World} {F : Foot} {sh sb : Nat} (hS : SchB w F sb ss0 0) (hp : Pow w) (hB : Bk w sh 86 [.pointer (some ⟨sb, 0, none⟩), .slice none 0 0]) :
  Calls Tryz.prog 33 #[.pointer (some ⟨sh, 0, none⟩), .string sStat] w fun e w' => e = .returned (.bool true) ∧ ∃ v, Bk w' sh 86 [.pointer (some ⟨sb, 0, none⟩), v] ∧ AnsR w' v ∧ Below sh w w' := by
 have HS := Lib.hid (And.intro hS (And.intro hp hB))
 clear hS hp hB
 go_enter Tryz.func33, Tryz.ntmps33
 go_wp2_with fail
 refine (cutp_stat w).mono ?_
 rintro e w' ⟨rfl, rfl⟩
 go_wp2_with fail
 refine (split1_stat w).mono ?_
 rintro e w2 ⟨rfl, h1, h2⟩
 obtain ⟨gl, hgl⟩ : ∃ gl, w.heap.size = gl := ⟨_, rfl⟩
 rw [hgl] at h1
 rw [hgl]
 have c0 := h1.cell (i := 0) (by simp)
 simp only [List.getElem_cons_zero] at c0
 have hba := bare_any (HS.out.1.next h2) (HS.out.2.1.next h2) (HS.out.2.2.next h2 HS.out.2.2.lt)
 have H2 := Lib.hid (h2.mono (Nat.le_of_lt HS.out.2.2.lt))
 clear h1 h2
 go_wp2_with fail
 refine (numbers_none _ _ _).mono ?_
 rintro e w' ⟨rfl, rfl⟩
 go_wp2_with fail
 refine hba.mono ?_
 rintro e w6 ⟨rfl, v, k1, k2, k3⟩
 have HE := Lib.hid (show ∃ v, Bk w6 sh 86 [.pointer (some ⟨sb, 0, none⟩), v] ∧ AnsR w6 v ∧ Below sh w w6 from ⟨v, k1, k2, H2.out.trans k3⟩)
 clear hba k1 k2 k3
 go_wp2_with fail
 go_ret
 exact ⟨rfl, HE.out⟩
end
def lAns : List UInt8 := [108, 97, 115, 116, 32, 48, 32, 111, 112, 101, 110, 32, 48, 32, 113, 117, 101, 117, 101, 32, 48, 32, 98, 108, 111, 99, 107, 115, 32, 50, 53, 56, 10]
theorem ans_cells : Lib.strCells sStats ++ [Value.int .u8 10] = lAns.map fun b => Value.int .u8 (b.toNat : Int) := by first | rfl | decide
theorem ans_conv {w : World} {v : Value} (h : AnsR w v) : ∃ g c, v = .slice (some ⟨g, 0, none⟩) 33 c ∧ (convert 45 9 v).run Tryz.prog w = .ok (.string ⟨lAns.toArray⟩) w := by
 obtain ⟨B, ho⟩ := h
 obtain ⟨g, c, rfl, -, -⟩ := ho.form (by decide)
 refine ⟨g, c, rfl, ?_⟩
 exact run_convert_bytes_back w 45 9 5 ⟨g, 0, none⟩ c lAns Tryz.underlying45 Tryz.underlying5 Tryz.underlying9 (fun j hj => ho.cells (g := g) rfl j _ (by rw [ans_cells, List.getElem?_map, List.getElem?_eq_getElem hj]; rfl))
def plM (v : Value) : Nat := match v with
 | .string s => s.size
 | _ => 0
def PlI (w w4 : World) (sh sb : Nat) (tv : Value) (wr : World) : Prop := (tv = .string sStatNl ∧ w4 = wr) ∨ (tv = .string ⟨#[]⟩ ∧ ∃ v, Bk wr sh 86 [.pointer (some ⟨sb, 0, none⟩), v] ∧ AnsR wr v ∧ Below w.heap.size w wr)
section
theorem play_any (w : World) (hp : Pow w) : Calls Tryz.prog 15 #[.string sStatNl] w fun e w' => e = .returned (.string ⟨lAns.toArray⟩) ∧ Below w.heap.size w w' := by
 obtain ⟨sh, w1, hzw1, hw1, Bw1, bw1⟩ := alloc_of w 86 [.pointer none, .slice none 0 0]
 obtain ⟨c0, c1⟩ := Bw1.c2
 have q0 := Bw1.free 0
 have q1 := Bw1.free 1
 have hn := scNew w1
 have H1 := Lib.hid (And.intro hp (And.intro Bw1 (And.intro bw1 (Nat.le_of_eq hzw1))))
 clear hp bw1 Bw1
 go_enter Tryz.func15, Tryz.ntmps15
 go_wp2_with fail
 go_step3
 go_wp2_with fail
 refine hn.mono ?_
 rintro e w2 ⟨sb, rfl, F, hB, hb2, hF⟩
 have B2 := H1.out.2.1.next hb2 H1.out.2.1.lt
 obtain ⟨e0, e1⟩ := B2.c2
 have g0 := B2.free 0
 have g1 := B2.free 1
 obtain ⟨w3, hw3⟩ : ∃ w3, w2.setCell ⟨sh, 0, none⟩ (.pointer (some ⟨sb, 0, none⟩)) = w3 := ⟨_, rfl⟩
 have H3 := Lib.hid (show SchB w3 F sb ss0 0 ∧ Pow w3 ∧ Bk w3 sh 86 [.pointer (some ⟨sb, 0, none⟩), .slice none 0 0] ∧ Below w.heap.size w w3 from by
  have b2 : Below w.heap.size w w2 := H1.out.2.2.1.trans (hb2.mono H1.out.2.2.1.size)
  have hsl : sh < w1.heap.size := H1.out.2.1.lt
  have b3 : Below w.heap.size w w3 := by rw [← hw3]; exact b2.setCell (p := ⟨sh, 0, none⟩) (Nat.le_of_eq hzw1) _
  exact ⟨hB.ag (by rw [← hw3]; exact ((Kf.refl (fun b => b = sh) w2).set B2 (by decide) (.inl rfl) 0 _).ag (fun b q r => by have := hF b q; have r : b = sh := r; omega)), H1.out.1.next b3, by rw [← hw3]; exact B2.set 0 _, b3⟩)
 clear hn hB hb2 hF B2
 have hct := Tryz.strings_Count_one sStatNl 10 w3
 have hv : Lib.countByte sStatNl.data.toList 10 = 1 := by decide
 rw [hv] at hct
 clear hv
 go_wp2_with fail
 refine hct.mono ?_
 rintro e w4 ⟨rfl, rfl⟩
 clear hct e0 e1 g0 g1 c0 c1 q0 q1 hw3 hw1 H1
 go_wp2_with fail
 go_step3
 go_wp2_with fail
 go_loopw [0] (fun tv wr => Hid (PlI w w4 sh sb tv wr)) (fun tv _ => plM tv)
 case atStart => exact Lib.hid (.inl ⟨rfl, rfl⟩)
 case round =>
  rcases hrel.out with ⟨rfl, rfl⟩ | ⟨rfl, HY⟩
  · go_wp2_with fail
    refine (cut_stat _).mono ?_
    rintro e w5 ⟨rfl, hb5⟩
    have hli := line_any (H3.out.1.next hb5) (H3.out.2.1.next hb5) (H3.out.2.2.1.next hb5 H3.out.2.2.1.lt)
    have H5 := Lib.hid (H3.out.2.2.2.trans (hb5.mono H3.out.2.2.2.size))
    clear hb5
    go_wp2_with fail
    refine hli.mono ?_
    rintro e w6 ⟨rfl, v, k1, k2, k3⟩
    have HE := Lib.hid (show ∃ v, Bk w6 sh 86 [.pointer (some ⟨sb, 0, none⟩), v] ∧ AnsR w6 v ∧ Below w.heap.size w w6 from ⟨v, k1, k2, H5.out.trans (k3.mono (Nat.le_of_eq hzw1))⟩)
    clear hli k1 k2 k3
    go_wp2_with fail
    go_roundw
    case rel => exact ⟨_, _, _, _, _, _, _, _, _, _, _, _, _, _, _, _, _, _, _, _, _, _, _, _, _, _, _, Lib.hid (.inr ⟨rfl, HE.out⟩), rfl⟩
    case measure => show (0 : Nat) < 5; decide
  · obtain ⟨v, k1, k2, k3⟩ := HY
    obtain ⟨gv, cv, rfl, hcv⟩ := ans_conv k2
    obtain ⟨d0, d1⟩ := k1.c2
    have HE := Lib.hid k3
    clear k1 k2 k3 hrel
    go_wp2_with fail
    rw [Exit.noGoto_ret]
    go_ret
    exact ⟨rfl, HE.out⟩
end
end
section
open Go.RowKit Go.Maps
section
open Go.ChangeShapes Go.WideShapes Go.Deep
variable {P : Program} {H : Type} {enc : TypeId × Value → H} {w : World} {base : Nat} {spare : Nat → Bool} {held : Bool}
theorem slice_cs {α : Type} (f : α → List Value) {k : Nat} (hk : 0 < k) (hs : ∀ x, (f x).length = k) {t e : TypeId} (ht : P.underlying t = some (.slice e)) (hc : P.cellsOf e = k) (Pr : α → Prop)
  (each : ∀ (fuel : Nat) (cs : List Value) (x : DataW H × List MemPlace), DataW.trod enc P w base spare held fuel e cs = some x → cs.length = k → ∃ a, f a = cs ∧ Pr a)
  {fuel : Nat} {cs : List Value} {x : DataW H × List MemPlace} (h : DataW.trod enc P w base spare held fuel t cs = some x) :
  ∃ A n c, ∃ l : List α, cs = [.slice A n c] ∧ l.length = n ∧ Rd w w.heap.size A (l.flatMap f) ∧ (∀ a ∈ l, Pr a) ∧ n ≤ c ∧ c ≤ maxLen ∧ ∀ ad, A = some ad → 0 < n → ad.block < w.heap.size := by
 have lt := DataW.trod_lt _ _ _ _ h
 rcases open_slice ht h with ⟨hcs, _⟩ | ⟨a, len, cap, m, n', D, Pl, hcs, hb, hl, hm, hmm, hx, hi⟩
 · exact ⟨none, 0, 0, [], hcs, rfl, Rd.nil _ _ _, by simp, Nat.le_refl _, by simp [maxLen], fun _ e => by cases e⟩
 · have hlm : len ≤ m := by rw [hmm]; split <;> omega
   obtain ⟨l, hlen, hp⟩ := list_of len (fun i (p : α) => (∀ j, j < k → w.cell? (a.add (i * k + j)) = (f p)[j]?) ∧ Pr p) fun i hin => by
    obtain ⟨cs', hcc, htr⟩ := hi i (by omega)
    rw [hc] at hcc
    obtain ⟨_, hcl, hat⟩ := World.cells?_some hcc
    obtain ⟨p, rfl, hp⟩ := each _ _ _ htr hcl
    exact ⟨p, fun j hj => by rw [← add_twice]; exact hat j hj, hp⟩
   have hblk : 0 < len → a.block < w.heap.size := fun hn => by
    have hx2 := (Prod.mk.inj hx).2
    exact lt (MemPlace.cell a.block (a.off + 0)) (by rw [hx2, hc]; exact List.mem_append_left _ (List.mem_map.2 ⟨0, by simp; exact Nat.mul_pos (by omega) hk, rfl⟩))
   refine ⟨some a, len, cap, l, hcs, hlen, fun hn => ⟨a, rfl, hblk ?_, fun j u hu => ?_⟩, fun p h => ?_, hl, hm, fun ad e hn => by injection e with e; subst e; exact hblk hn⟩
   · rw [flat_len hs] at hn
     rw [← hlen]; exact Nat.pos_of_mul_pos_right hn
   · have hjl : j < l.length * k := by
      obtain ⟨hj, _⟩ := List.getElem?_eq_some_iff.1 hu
      rwa [flat_len hs] at hj
     have hq : j / k < l.length := Nat.div_lt_of_lt_mul (by rw [Nat.mul_comm]; exact hjl)
     have hr := flat_get hs hq (j := j % k) (Nat.mod_lt _ hk)
     have he : j / k * k + j % k = j := by rw [Nat.mul_comm]; exact Nat.div_add_mod j k
     have hcell := (hp (j / k) hq).1 (j % k) (Nat.mod_lt _ hk)
     rw [he] at hr hcell
     rw [hcell, ← hr, hu]
   · obtain ⟨i, hi', rfl⟩ := List.getElem_of_mem h
     exact (hp i hi').2
end
end
section
open Go.RowKit Go.Maps
section
open Go.ChangeShapes Go.WideShapes Go.Deep
variable {H : Type} {enc : TypeId × Value → H} {w : World} {base : Nat} {spare : Nat → Bool} {held : Bool}
theorem flat_one (f : Int → Value) (l : List Int) : l.flatMap (fun z => [f z]) = l.map f := by
 induction l with
 | nil => rfl
 | cons a r ih => simp [ih]
theorem wf_u8 {z : Int} (h : (Lit.int .u8 z).wf = true) : 0 ≤ z ∧ z < 256 := by
 have e1 : IntKind.u8.min = 0 := rfl
 have e2 : IntKind.u8.max = 255 := rfl
 simp [Lit.wf, e1, e2] at h
 omega
theorem ya_cs {fuel : Nat} {cs : List Value} {x : DataW H × List MemPlace} (h : DataW.trod enc Tryz.prog w base spare held fuel 45 cs = some x) :
  ∃ A n c bs, cs = [.slice A n c] ∧ IsYa w (fun b => b < w.heap.size) A n c bs := by
 obtain ⟨A, n, c, l, e, hl, hr, hp, h1, h2, h3⟩ := slice_cs (fun z : Int => [Value.int .u8 z]) (by decide) (fun _ => rfl) Tryz.underlying45 (by kernel_rfl) (fun z => 0 ≤ z ∧ z < 256) (fun fuel cs x htr hcl => by
  obtain ⟨z0, e0, _, w0⟩ := DataW.trod_int Tryz.underlying5 htr
  exact ⟨z0, e0.symm, wf_u8 w0⟩) h
 rw [flat_one] at hr
 exact ⟨A, n, c, l, e, ⟨hl, hr, hp, h1, h2⟩, fun ad q hn => ⟨_, Array.getElem?_eq_getElem (h3 ad q hn), .inl (h3 ad q hn)⟩⟩
theorem ints_le {fuel : Nat} {cs : List Value} {x : DataW H × List MemPlace} (h : DataW.trod enc Tryz.prog w base spare held fuel 30 cs = some x) :
  ∃ A n c, cs = [.slice A n c] ∧ n ≤ maxLen := by
 obtain ⟨A, n, c, l, e, hl, hr, hp, h1, h2, h3⟩ := slice_cs (fun z : Int => [Value.int .i64 z]) (by decide) (fun _ => rfl) Tryz.underlying30 (by kernel_rfl) (fun z => True) (fun fuel cs x htr hcl => by
  obtain ⟨z0, e0, _, w0⟩ := DataW.trod_int Tryz.underlying3 htr
  exact ⟨z0, e0.symm, trivial⟩) h
 exact ⟨A, n, c, e, Nat.le_trans h1 h2⟩
theorem pa_cs {fuel : Nat} {cs : List Value} {x : DataW H × List MemPlace} (h : DataW.trod enc Tryz.prog w base spare held fuel 36 cs = some x) :
  ∃ A n c ps, cs = [.slice A n c] ∧ IsPa w (fun b => b < w.heap.size) A n c ps ∧ ∀ ad, A = some ad → 0 < n → ad.block < w.heap.size := by
 obtain ⟨A, n, c, l, e, hl, hr, hp, h1, h2, h3⟩ := slice_cs PutD.cells (by decide) put_two Tryz.underlying36 (by kernel_rfl) (fun p => IsYa w (fun b => b < w.heap.size) p.A p.n p.c p.bs) (fun fuel cs x htr hcl => by
  match cs, hcl with
  | [v0, v1], _ =>
    obtain ⟨ys, n', _, _, _, hyl, hf2⟩ := DataW.trod_struct Tryz.underlying48 htr
    have hyl2 : ys.length = 2 := by rw [hyl]; rfl
    have f0 := hf2 0 _ rfl
    rw [List.getElem?_eq_getElem (show 0 < ys.length by omega)] at f0
    obtain ⟨z0, e0, _, _⟩ := DataW.trod_int Tryz.underlying3 f0
    have e0' : [v0] = [Value.int .i64 z0] := by
     rw [← e0]; show [v0] = (([v0, v1] : List Value).drop 0).take (Tryz.prog.cellsOf 3); rw [show Tryz.prog.cellsOf 3 = 1 by kernel_rfl]; rfl
    injection e0' with e0'
    have f1 := hf2 1 _ rfl
    rw [List.getElem?_eq_getElem (show 1 < ys.length by omega)] at f1
    obtain ⟨A1, n1, c1, l1, e1, hy1⟩ := ya_cs f1
    have e1' : [v1] = [Value.slice A1 n1 c1] := by
     rw [← e1]; show [v1] = (([v0, v1] : List Value).drop 1).take (Tryz.prog.cellsOf 45); rw [show Tryz.prog.cellsOf 45 = 1 by kernel_rfl]; rfl
    injection e1' with e1'
    subst e0' e1'
    exact ⟨⟨z0, A1, n1, c1, l1⟩, rfl, hy1⟩) h
 exact ⟨A, n, c, l, e, ⟨hl, hr, hp, h1, h2⟩, h3⟩
theorem ops_cs {fuel : Nat} {cs : List Value} {x : DataW H × List MemPlace} (h : DataW.trod enc Tryz.prog w base spare held fuel 29 cs = some x) :
  ∃ A n c os, cs = [.slice A n c] ∧ IsOps w (fun b => b < w.heap.size) A n c os := by
 obtain ⟨A, n, c, l, e, hl, hr, hp, h1, h2, h3⟩ := slice_cs OpD.cells (by decide) op_five Tryz.underlying29 (by kernel_rfl) (fun o => IsPa w (fun b => b < w.heap.size) o.A o.n o.c o.ps ∧ ∀ ad, o.A = some ad → 0 < o.n → ad.block < w.heap.size) (fun fuel cs x htr hcl => by
  match cs, hcl with
  | [v0, v1, v2, v3, v4], _ =>
    obtain ⟨ys, n', _, _, _, hyl, hf2⟩ := DataW.trod_struct Tryz.underlying42 htr
    have hyl2 : ys.length = 5 := by rw [hyl]; rfl
    have f0 := hf2 0 _ rfl
    rw [List.getElem?_eq_getElem (show 0 < ys.length by omega)] at f0
    obtain ⟨z0, e0, _, _⟩ := DataW.trod_int Tryz.underlying3 f0
    have e0' : [v0] = [Value.int .i64 z0] := by
     rw [← e0]; show [v0] = (([v0, v1, v2, v3, v4] : List Value).drop 0).take (Tryz.prog.cellsOf 3); rw [show Tryz.prog.cellsOf 3 = 1 by kernel_rfl]; rfl
    injection e0' with e0'
    have f1 := hf2 1 _ rfl
    rw [List.getElem?_eq_getElem (show 1 < ys.length by omega)] at f1
    obtain ⟨z1, e1, _, _⟩ := DataW.trod_int Tryz.underlying3 f1
    have e1' : [v1] = [Value.int .i64 z1] := by
     rw [← e1]; show [v1] = (([v0, v1, v2, v3, v4] : List Value).drop 1).take (Tryz.prog.cellsOf 3); rw [show Tryz.prog.cellsOf 3 = 1 by kernel_rfl]; rfl
    injection e1' with e1'
    have f2 := hf2 2 _ rfl
    rw [List.getElem?_eq_getElem (show 2 < ys.length by omega)] at f2
    obtain ⟨z2, e2, _, _⟩ := DataW.trod_int Tryz.underlying3 f2
    have e2' : [v2] = [Value.int .i64 z2] := by
     rw [← e2]; show [v2] = (([v0, v1, v2, v3, v4] : List Value).drop 2).take (Tryz.prog.cellsOf 3); rw [show Tryz.prog.cellsOf 3 = 1 by kernel_rfl]; rfl
    injection e2' with e2'
    have f3 := hf2 3 _ rfl
    rw [List.getElem?_eq_getElem (show 3 < ys.length by omega)] at f3
    obtain ⟨z3, e3, _, _⟩ := DataW.trod_int Tryz.underlying3 f3
    have e3' : [v3] = [Value.int .i64 z3] := by
     rw [← e3]; show [v3] = (([v0, v1, v2, v3, v4] : List Value).drop 3).take (Tryz.prog.cellsOf 3); rw [show Tryz.prog.cellsOf 3 = 1 by kernel_rfl]; rfl
    injection e3' with e3'
    have f4 := hf2 4 _ rfl
    rw [List.getElem?_eq_getElem (show 4 < ys.length by omega)] at f4
    obtain ⟨A4, n4, c4, l4, e4, hy4, hg4⟩ := pa_cs f4
    have e4' : [v4] = [Value.slice A4 n4 c4] := by
     rw [← e4]; show [v4] = (([v0, v1, v2, v3, v4] : List Value).drop 4).take (Tryz.prog.cellsOf 36); rw [show Tryz.prog.cellsOf 36 = 1 by kernel_rfl]; rfl
    injection e4' with e4'
    subst e0' e1' e2' e3' e4'
    exact ⟨⟨z0, z1, z2, z3, A4, n4, c4, l4⟩, rfl, hy4, hg4⟩) h
 exact ⟨A, n, c, l, e, hl, hr, fun o ho => (hp o ho).1, h1, h2, h3, fun o ho => (hp o ho).2⟩
theorem steps_cs {fuel : Nat} {cs : List Value} {x : DataW H × List MemPlace} (h : DataW.trod enc Tryz.prog w base spare held fuel 22 cs = some x) :
  ∃ A n c l, cs = [.slice A n c] ∧ IsSteps w (fun b => b < w.heap.size) A n c l := by
 obtain ⟨A, n, c, l, e, hl, hr, hp, h1, h2, h3⟩ := slice_cs StepD.cells (by decide) step_six Tryz.underlying22 (by kernel_rfl) (fun x => IsOps w (fun b => b < w.heap.size) x.A x.n x.c x.os ∧ x.pn ≤ maxLen ∧ x.tn ≤ maxLen) (fun fuel cs x htr hcl => by
  match cs, hcl with
  | [v0, v1, v2, v3, v4, v5], _ =>
    obtain ⟨ys, n', _, _, _, hyl, hf2⟩ := DataW.trod_struct Tryz.underlying32 htr
    have hyl2 : ys.length = 6 := by rw [hyl]; rfl
    have f0 := hf2 0 _ rfl
    rw [List.getElem?_eq_getElem (show 0 < ys.length by omega)] at f0
    obtain ⟨z0, e0, _, _⟩ := DataW.trod_int Tryz.underlying3 f0
    have e0' : [v0] = [Value.int .i64 z0] := by
     rw [← e0]; show [v0] = (([v0, v1, v2, v3, v4, v5] : List Value).drop 0).take (Tryz.prog.cellsOf 3); rw [show Tryz.prog.cellsOf 3 = 1 by kernel_rfl]; rfl
    injection e0' with e0'
    have f1 := hf2 1 _ rfl
    rw [List.getElem?_eq_getElem (show 1 < ys.length by omega)] at f1
    obtain ⟨z1, e1, _, _⟩ := DataW.trod_int Tryz.underlying3 f1
    have e1' : [v1] = [Value.int .i64 z1] := by
     rw [← e1]; show [v1] = (([v0, v1, v2, v3, v4, v5] : List Value).drop 1).take (Tryz.prog.cellsOf 3); rw [show Tryz.prog.cellsOf 3 = 1 by kernel_rfl]; rfl
    injection e1' with e1'
    have f2 := hf2 2 _ rfl
    rw [List.getElem?_eq_getElem (show 2 < ys.length by omega)] at f2
    obtain ⟨A2, n2, c2, l2, e2, hy2⟩ := ops_cs f2
    have e2' : [v2] = [Value.slice A2 n2 c2] := by
     rw [← e2]; show [v2] = (([v0, v1, v2, v3, v4, v5] : List Value).drop 2).take (Tryz.prog.cellsOf 29); rw [show Tryz.prog.cellsOf 29 = 1 by kernel_rfl]; rfl
    injection e2' with e2'
    have f3 := hf2 3 _ rfl
    rw [List.getElem?_eq_getElem (show 3 < ys.length by omega)] at f3
    obtain ⟨z3, e3, _, _⟩ := DataW.trod_int Tryz.underlying3 f3
    have e3' : [v3] = [Value.int .i64 z3] := by
     rw [← e3]; show [v3] = (([v0, v1, v2, v3, v4, v5] : List Value).drop 3).take (Tryz.prog.cellsOf 3); rw [show Tryz.prog.cellsOf 3 = 1 by kernel_rfl]; rfl
    injection e3' with e3'
    have f4 := hf2 4 _ rfl
    rw [List.getElem?_eq_getElem (show 4 < ys.length by omega)] at f4
    obtain ⟨A4, n4, c4, e4, hy4⟩ := ints_le f4
    have e4' : [v4] = [Value.slice A4 n4 c4] := by
     rw [← e4]; show [v4] = (([v0, v1, v2, v3, v4, v5] : List Value).drop 4).take (Tryz.prog.cellsOf 30); rw [show Tryz.prog.cellsOf 30 = 1 by kernel_rfl]; rfl
    injection e4' with e4'
    have f5 := hf2 5 _ rfl
    rw [List.getElem?_eq_getElem (show 5 < ys.length by omega)] at f5
    obtain ⟨A5, n5, c5, e5, hy5⟩ := ints_le f5
    have e5' : [v5] = [Value.slice A5 n5 c5] := by
     rw [← e5]; show [v5] = (([v0, v1, v2, v3, v4, v5] : List Value).drop 5).take (Tryz.prog.cellsOf 30); rw [show Tryz.prog.cellsOf 30 = 1 by kernel_rfl]; rfl
    injection e5' with e5'
    subst e0' e1' e2' e3' e4' e5'
    exact ⟨⟨z0, z1, A2, n2, c2, l2, z3, A4, n4, c4, A5, n5, c5⟩, rfl, hy2, hy4, hy5⟩) h
 exact ⟨A, n, c, l, e, hl, hr, hp, h1, h2, h3⟩
theorem open_steps {A : Option Addr} {n c : Nat} {d : DataW H} {ps : List MemPlace} (h : DataW.Trod enc Tryz.prog w base spare held 22 (.slice A n c) d ps) : ∃ l, IsSteps w (fun b => b < w.heap.size) A n c l := by
 obtain ⟨fuel, hf⟩ := h
 obtain ⟨A', n', c', l, e, hl⟩ := steps_cs hf
 simp [Value.cells] at e
 obtain ⟨rfl, rfl, rfl⟩ := e
 exact ⟨l, hl⟩
end
end
end Go.Proofs.YtbafckoeekcmpaaGreatDoor.Tp
