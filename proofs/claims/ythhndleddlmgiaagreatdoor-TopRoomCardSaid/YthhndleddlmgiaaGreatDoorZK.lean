/- Contracts of the program's functions, and laws on memory: a part of the proof of TopRoom. -/
import Derived.Test.YthhndleddlmgiaaGreatDoorZJ
import Derived.Test.YthhndleddlmgiaaGreatDoorProg
import Derived.LoopTactic
import Derived.LoopN
import Derived.Lib.Hide
import Derived.Deep.DeepMust
import Derived.Laws.MakeOwn
import Derived.Laws.Entries
import Derived.WalkSpells
import Derived.WalkMore
import Derived.IntWalk
import Derived.Deep.QuietTactic
import Derived.BigQuiet
import Derived.Shelf.Abstract
namespace Go.Proofs.YthhndleddlmgiaaGreatDoor.Tp
set_option maxHeartbeats 8000000
set_option maxRecDepth 100000
set_option linter.unusedSimpArgs false
set_option linter.unusedVariables false
section
open Go.RowKit Go.Maps
structure DnH (w w5 : World) (F : Foot) (Ft : Nat → Foot) (mb gm kb am n q qc hc tc : Nat) (qA hA tA : Option Addr) (m : MS) (es : List TE) (N R : Nat) (ts : List TxD) : Prop where
 man : ManX w F Ft mb gm kb am (.slice qA q qc) n m es N R
 good : GoodM m
 hl : es.length ≤ 100000
 hql : m.queue.length ≤ 100000
 hn : n ≤ m.queue.length
 hN : N + 16 * n ≤ 100000
 hR : R ≤ 100000
 hq : m.queue.length = q
 row : w5.ownsRow w.heap.size 3 1 (.slice hA n hc) n ((m.queue.map qcell).take n)
 wl : WaitL w w5 m (.slice tA q tc) ts q
def DNI (w5 : World) (F : Foot) (mb gm kb am n q qc hc tc : Nat) (qA hA tA : Option Addr) (m : MS) (es : List TE) (N R : Nat) (code : Int) (ok : Bool) (c2 c3 c4 c8 c9 c10 c11 c12 c13 c14 c15 c16 c17 c18 c19 c20 c21 c22 c23 c24 c25 c26 c27 c28 c29 c30 c31 c32 c67 c68 c69 c70 c71 c72 c73 c74 c75 c76 c77 c78 c79 c80 c81 c82 c83 c84 c85 c86 c87 c88 c89 c90 c91 : Value) (a : Act) (wr : World) : Prop :=
 ∃ u6 u7 u35 u36 u37 u38 u39 u40 u41 u42 u43 u44 u45 u46 u47 u48 u49 u50 u51 u52 u53 u54 u55 u56 u57 u58 u59 u60 u61 u62 u63 u64 u65 u66 : Value, (∃ k : Nat, k ≤ n ∧ u35 = .int .i64 (k : Int) ∧ DoL w5 wr F mb gm kb am (.slice qA q qc) n m es N R ok k) ∧ a = ⟨#[.pointer (some ⟨mb, 0, none⟩), .int .i64 code, c2, c3, c4, .slice tA n tc, u6, u7, c8, c9, c10, c11, c12, c13, c14, c15, c16, c17, c18, c19, c20, c21, c22, c23, c24, c25, c26, c27, c28, c29, c30, c31, c32, .slice hA n hc, .int .i64 (n : Int), u35, u36, u37, u38, u39, u40, u41, u42, u43, u44, u45, u46, u47, u48, u49, u50, u51, u52, u53, u54, u55, u56, u57, u58, u59, u60, u61, u62, u63, u64, u65, u66, c67, c68, c69, c70, c71, c72, c73, c74, c75, c76, c77, c78, c79, c80, c81, c82, c83, c84, c85, c86, c87, c88, c89, c90, c91], []⟩
theorem DNI.mk {w5 wr : World} {F : Foot} {mb gm kb am n q qc hc tc : Nat} {qA hA tA : Option Addr} {m : MS} {es : List TE} {N R : Nat} {code : Int} {ok : Bool} {c2 c3 c4 c8 c9 c10 c11 c12 c13 c14 c15 c16 c17 c18 c19 c20 c21 c22 c23 c24 c25 c26 c27 c28 c29 c30 c31 c32 c67 c68 c69 c70 c71 c72 c73 c74 c75 c76 c77 c78 c79 c80 c81 c82 c83 c84 c85 c86 c87 c88 c89 c90 c91 : Value} {u6 u7 u35 u36 u37 u38 u39 u40 u41 u42 u43 u44 u45 u46 u47 u48 u49 u50 u51 u52 u53 u54 u55 u56 u57 u58 u59 u60 u61 u62 u63 u64 u65 u66 : Value} (h : ∃ k : Nat, k ≤ n ∧ u35 = .int .i64 (k : Int) ∧ DoL w5 wr F mb gm kb am (.slice qA q qc) n m es N R ok k) : DNI w5 F mb gm kb am n q qc hc tc qA hA tA m es N R code ok c2 c3 c4 c8 c9 c10 c11 c12 c13 c14 c15 c16 c17 c18 c19 c20 c21 c22 c23 c24 c25 c26 c27 c28 c29 c30 c31 c32 c67 c68 c69 c70 c71 c72 c73 c74 c75 c76 c77 c78 c79 c80 c81 c82 c83 c84 c85 c86 c87 c88 c89 c90 c91 ⟨#[.pointer (some ⟨mb, 0, none⟩), .int .i64 code, c2, c3, c4, .slice tA n tc, u6, u7, c8, c9, c10, c11, c12, c13, c14, c15, c16, c17, c18, c19, c20, c21, c22, c23, c24, c25, c26, c27, c28, c29, c30, c31, c32, .slice hA n hc, .int .i64 (n : Int), u35, u36, u37, u38, u39, u40, u41, u42, u43, u44, u45, u46, u47, u48, u49, u50, u51, u52, u53, u54, u55, u56, u57, u58, u59, u60, u61, u62, u63, u64, u65, u66, c67, c68, c69, c70, c71, c72, c73, c74, c75, c76, c77, c78, c79, c80, c81, c82, c83, c84, c85, c86, c87, c88, c89, c90, c91], []⟩ wr := ⟨u6, u7, u35, u36, u37, u38, u39, u40, u41, u42, u43, u44, u45, u46, u47, u48, u49, u50, u51, u52, u53, u54, u55, u56, u57, u58, u59, u60, u61, u62, u63, u64, u65, u66, h, rfl⟩
def dmu (n : Nat) (a : Act) (_ : World) : Nat := n - (intOf (a.tmps.getD 35 undef)).toNat
theorem dmu_eq {n mb hc tc : Nat} {hA tA : Option Addr} {code : Int} {w : World} {x : Int} {c2 c3 c4 c8 c9 c10 c11 c12 c13 c14 c15 c16 c17 c18 c19 c20 c21 c22 c23 c24 c25 c26 c27 c28 c29 c30 c31 c32 c67 c68 c69 c70 c71 c72 c73 c74 c75 c76 c77 c78 c79 c80 c81 c82 c83 c84 c85 c86 c87 c88 c89 c90 c91 u6 u7 u36 u37 u38 u39 u40 u41 u42 u43 u44 u45 u46 u47 u48 u49 u50 u51 u52 u53 u54 u55 u56 u57 u58 u59 u60 u61 u62 u63 u64 u65 u66 : Value} : dmu n ⟨#[.pointer (some ⟨mb, 0, none⟩), .int .i64 code, c2, c3, c4, .slice tA n tc, u6, u7, c8, c9, c10, c11, c12, c13, c14, c15, c16, c17, c18, c19, c20, c21, c22, c23, c24, c25, c26, c27, c28, c29, c30, c31, c32, .slice hA n hc, .int .i64 (n : Int), .int .i64 x, u36, u37, u38, u39, u40, u41, u42, u43, u44, u45, u46, u47, u48, u49, u50, u51, u52, u53, u54, u55, u56, u57, u58, u59, u60, u61, u62, u63, u64, u65, u66, c67, c68, c69, c70, c71, c72, c73, c74, c75, c76, c77, c78, c79, c80, c81, c82, c83, c84, c85, c86, c87, c88, c89, c90, c91], []⟩ w = n - x.toNat := rfl
theorem dn_no (w w5 : World) (F : Foot) (Ft : Nat → Foot) (mb gm kb am n q qc hc tc : Nat) (qA hA tA : Option Addr) (m : MS) (es : List TE) (N R : Nat) (ts : List TxD) (code : Int) (wr : World) (k : Nat) (c2 c3 c4 c8 c9 c10 c11 c12 c13 c14 c15 c16 c17 c18 c19 c20 c21 c22 c23 c24 c25 c26 c27 c28 c29 c30 c31 c32 c67 c68 c69 c70 c71 c72 c73 c74 c75 c76 c77 c78 c79 c80 c81 c82 c83 c84 c85 c86 c87 c88 c89 c90 c91 u6 u7 u36 u37 u38 u39 u40 u41 u42 u43 u44 u45 u46 u47 u48 u49 u50 u51 u52 u53 u54 u55 u56 u57 u58 u59 u60 u61 u62 u63 u64 u65 u66 : Value) (Q0 : Exit → Act → World → Prop) (H : DnH w w5 F Ft mb gm kb am n q qc hc tc qA hA tA m es N R ts) (hcd : ¬ code = 0) (hE : DoL w5 wr F mb gm kb am (.slice qA q qc) n m es N R false k) (hlt : k < n) :
  Code.wp Tryz.prog (loopOf Tryz.f44) (Exit.then (fun a' w'' => DNI w5 F mb gm kb am n q qc hc tc qA hA tA m es N R code false c2 c3 c4 c8 c9 c10 c11 c12 c13 c14 c15 c16 c17 c18 c19 c20 c21 c22 c23 c24 c25 c26 c27 c28 c29 c30 c31 c32 c67 c68 c69 c70 c71 c72 c73 c74 c75 c76 c77 c78 c79 c80 c81 c82 c83 c84 c85 c86 c87 c88 c89 c90 c91 a' w'' ∧ dmu n a' w'' < dmu n ⟨#[.pointer (some ⟨mb, 0, none⟩), .int .i64 code, c2, c3, c4, .slice tA n tc, u6, u7, c8, c9, c10, c11, c12, c13, c14, c15, c16, c17, c18, c19, c20, c21, c22, c23, c24, c25, c26, c27, c28, c29, c30, c31, c32, .slice hA n hc, .int .i64 (n : Int), .int .i64 (k : Int), u36, u37, u38, u39, u40, u41, u42, u43, u44, u45, u46, u47, u48, u49, u50, u51, u52, u53, u54, u55, u56, u57, u58, u59, u60, u61, u62, u63, u64, u65, u66, c67, c68, c69, c70, c71, c72, c73, c74, c75, c76, c77, c78, c79, c80, c81, c82, c83, c84, c85, c86, c87, c88, c89, c90, c91], []⟩ wr) Q0) ⟨#[.pointer (some ⟨mb, 0, none⟩), .int .i64 code, c2, c3, c4, .slice tA n tc, u6, u7, c8, c9, c10, c11, c12, c13, c14, c15, c16, c17, c18, c19, c20, c21, c22, c23, c24, c25, c26, c27, c28, c29, c30, c31, c32, .slice hA n hc, .int .i64 (n : Int), .int .i64 (k : Int), u36, u37, u38, u39, u40, u41, u42, u43, u44, u45, u46, u47, u48, u49, u50, u51, u52, u53, u54, u55, u56, u57, u58, u59, u60, u61, u62, u63, u64, u65, u66, c67, c68, c69, c70, c71, c72, c73, c74, c75, c76, c77, c78, c79, c80, c81, c82, c83, c84, c85, c86, c87, c88, c89, c90, c91], []⟩ wr := by
 obtain ⟨i, t, Fk, Ftk, y, adh, h1, h2, h3, h4, h5, h6, h7, h8, h9, rfl, ch2⟩ := done_round H.man H.good H.hl H.hn hlt H.row hE
 obtain ⟨n1, n2, m2⟩ := round_num hlt (Nat.le_trans H.hn H.hql)
 have he := mend_any Fk Ftk mb gm kb am (.slice qA q qc) n (doneK m false k) es (N + 16 * k) R i 4 4 code t y wr h3 h6 h8 h9 rfl
 rw [if_pos rfl] at he
 have H := Lib.hid H
 have HK := Lib.hid (And.intro hlt (And.intro h1 (And.intro h2 (And.intro h5 h4))))
 have n3 : (code == 0) = false := by simpa using hcd
 have n4 : (code != 0) = true := by simpa using hcd
 clear h1 h2 h3 h4 h5 h6 h7 h8 h9 hlt hcd hE
 conv => arg 2; whnf
 go_wp2_with fail
 refine he.mono ?_
 rintro e w6 ⟨rfl, hm6, hk6⟩
 have HE2 := Lib.hid (DoL.no H.out.good HK.out.2.1 HK.out.2.2.1 HK.out.2.2.2.1 HK.out.2.2.2.2 hm6 hk6 (done_num H.out.hN HK.out.1).1 H.out.hR)
 clear he hm6 hk6 n1 n2 ch2
 go_wp2_with fail
 refine ⟨?_, ?_⟩
 · refine DNI.mk ?_
   exact ⟨k + 1, HK.out.1, int_succ (by first | rfl | exact m2), HE2.out⟩
 · rw [dmu_eq, dmu_eq]
   exact sub_lt1 HK.out.1 (by first | rfl | exact m2)
theorem dn_yes (w w5 : World) (F : Foot) (Ft : Nat → Foot) (mb gm kb am n q qc hc tc : Nat) (qA hA tA : Option Addr) (m : MS) (es : List TE) (N R : Nat) (ts : List TxD) (code : Int) (wr : World) (k : Nat) (c2 c3 c4 c8 c9 c10 c11 c12 c13 c14 c15 c16 c17 c18 c19 c20 c21 c22 c23 c24 c25 c26 c27 c28 c29 c30 c31 c32 c67 c68 c69 c70 c71 c72 c73 c74 c75 c76 c77 c78 c79 c80 c81 c82 c83 c84 c85 c86 c87 c88 c89 c90 c91 u6 u7 u36 u37 u38 u39 u40 u41 u42 u43 u44 u45 u46 u47 u48 u49 u50 u51 u52 u53 u54 u55 u56 u57 u58 u59 u60 u61 u62 u63 u64 u65 u66 : Value) (Q0 : Exit → Act → World → Prop) (hpan : ∀ c a d v w, Q0 (.panic c) (Act.put a d v) w → Q0 (.panic c) a w) (H : DnH w w5 F Ft mb gm kb am n q qc hc tc qA hA tA m es N R ts) (hcd : code = 0) (hE : DoL w5 wr F mb gm kb am (.slice qA q qc) n m es N R true k) (hlt : k < n) :
  Code.wp Tryz.prog (loopOf Tryz.f44) (Exit.then (fun a' w'' => DNI w5 F mb gm kb am n q qc hc tc qA hA tA m es N R code true c2 c3 c4 c8 c9 c10 c11 c12 c13 c14 c15 c16 c17 c18 c19 c20 c21 c22 c23 c24 c25 c26 c27 c28 c29 c30 c31 c32 c67 c68 c69 c70 c71 c72 c73 c74 c75 c76 c77 c78 c79 c80 c81 c82 c83 c84 c85 c86 c87 c88 c89 c90 c91 a' w'' ∧ dmu n a' w'' < dmu n ⟨#[.pointer (some ⟨mb, 0, none⟩), .int .i64 code, c2, c3, c4, .slice tA n tc, u6, u7, c8, c9, c10, c11, c12, c13, c14, c15, c16, c17, c18, c19, c20, c21, c22, c23, c24, c25, c26, c27, c28, c29, c30, c31, c32, .slice hA n hc, .int .i64 (n : Int), .int .i64 (k : Int), u36, u37, u38, u39, u40, u41, u42, u43, u44, u45, u46, u47, u48, u49, u50, u51, u52, u53, u54, u55, u56, u57, u58, u59, u60, u61, u62, u63, u64, u65, u66, c67, c68, c69, c70, c71, c72, c73, c74, c75, c76, c77, c78, c79, c80, c81, c82, c83, c84, c85, c86, c87, c88, c89, c90, c91], []⟩ wr) Q0) ⟨#[.pointer (some ⟨mb, 0, none⟩), .int .i64 code, c2, c3, c4, .slice tA n tc, u6, u7, c8, c9, c10, c11, c12, c13, c14, c15, c16, c17, c18, c19, c20, c21, c22, c23, c24, c25, c26, c27, c28, c29, c30, c31, c32, .slice hA n hc, .int .i64 (n : Int), .int .i64 (k : Int), u36, u37, u38, u39, u40, u41, u42, u43, u44, u45, u46, u47, u48, u49, u50, u51, u52, u53, u54, u55, u56, u57, u58, u59, u60, u61, u62, u63, u64, u65, u66, c67, c68, c69, c70, c71, c72, c73, c74, c75, c76, c77, c78, c79, c80, c81, c82, c83, c84, c85, c86, c87, c88, c89, c90, c91], []⟩ wr := by
 subst hcd
 obtain ⟨i, t, Fk, Ftk, y, adh, h1, h2, h3, h4, h5, h6, h7, h8, h9, rfl, ch2⟩ := done_round H.man H.good H.hl H.hn hlt H.row hE
 obtain ⟨n1, n2, m2⟩ := round_num hlt (Nat.le_trans H.hn H.hql)
 obtain ⟨x, adt, rfl, e0, e1, hadt, x1, x2, x3, x4⟩ := done_tx H.man H.good H.hq H.hn hlt H.wl h5 h3 h4 h1 h2
 have H := Lib.hid H
 have HK := Lib.hid (And.intro hlt (And.intro h1 (And.intro h2 (And.intro h3 (And.intro h4 (And.intro h5 (And.intro h6 (And.intro h7 (And.intro h8 h9)))))))))
 have KD := Lib.hid (fun (w' : World) (hS : Below wr.heap.size wr w') => And.intro (mcells_at (h3.next hS).bx).1 (And.intro ((hS.cell (p := adt.add (k * 2)) (by rw [add_block]; exact hadt)).trans e0) ((hS.cell (p := ⟨(adt.add (k * 2)).block, (adt.add (k * 2)).off + 1, none⟩) (by show (adt.add (k * 2)).block < _; rw [add_block]; exact hadt)).trans e1)))
 have HM := Lib.hid (And.intro x1 (And.intro x2 (And.intro x3 x4)))
 clear h1 h2 h3 h4 h5 h6 h7 h8 h9 hlt hE x1 x2 x3 x4 hadt
 conv => arg 2; whnf
 go_wp2_with fail
 have Kq := KD
 refine anyM_start (fun w' => Below wr.heap.size wr w') [8] (by kernel_rfl) (bdrew (Below.refl _ _)) (fun hHeld => ?_)
 refine kR 0 ?_; refine kR 1 ?_; refine kR 2 ?_; refine kR 4 ?_; refine kR 5 ?_; refine kR 6 ?_
 refine kM 3 ?_; refine kM 7 ?_
 refine rM 8 (fun K hK => ?_)
 go_simp
 have hmk2 := HK.out.2.2.2.1.next hHeld
 obtain ⟨el, hel, _⟩ := hmk2.ext
 refine (apply_any (Ftk 1) gm (N + 16 * k) x.n x.c el (t.time : Int) x.A x.ps _ hel (hmk2.fam.inn 1) (done_num H.out.hN HK.out.1).2 (HM.out.1.next hHeld) HM.out.2.1 HM.out.2.2.1).mono ?_
 rintro e w7 ⟨⟨r, rfl⟩, G, el2, hG, hk7, hsb7, hin7⟩
 have H7 := Lib.hid (And.intro hmk2 (And.intro hG (And.intro hk7 (And.intro hsb7 (And.intro hin7 hHeld)))))
 clear hmk2 hel hG hk7 hsb7 hin7
 go_simp
 refine hK.out _ _ (fun h => absurd (by decide) h) ?_
 clear hK K
 try simp only [Act.put, List.setIfInBounds_toArray, List.set_cons_zero, List.set_cons_succ]
 refine anyM_done (by kernel_rfl) ?_ _
 clear Kq
 clear e0 e1
 obtain ⟨w8, hw8⟩ : ∃ w8, w7.setCell ⟨mb, 7, none⟩ (.int .i64 (t.time : Int)) = w8 := ⟨_, rfl⟩
 obtain ⟨b7, Fe, Fte, t1, t2, t3, he⟩ := done_taken H7.out.1 H7.out.2.2.2.2.2 H7.out.2.1 H7.out.2.2.1 H7.out.2.2.2.1 H7.out.2.2.2.2.1 HK.out.2.2.2.2.2.2.2.1 hw8 HK.out.2.2.2.2.2.2.1 HK.out.2.2.2.2.2.2.2.2.1 HK.out.2.2.2.2.2.2.2.2.2
 have c70 := (mcells_at b7).2.2.2.2.2.2.2.1
 have f70 := b7.free 7
 have e7 := HM.out.2.2.2 _ w7 H7.out.2.2.2.2.2 H7.out.2.2.1
 have HT := Lib.hid (And.intro t2 t3)
 clear b7 t1 t2 t3
 go_wp2_with fail
 refine he.mono ?_
 rintro e w9 ⟨rfl, hm9, hk9⟩
 have HE2 := Lib.hid (DoL.yes H.out.good HK.out.2.1 HK.out.2.2.1 HK.out.2.2.2.2.2.1 HK.out.2.2.2.2.1 HT.out.1 HT.out.2 hm9 hk9)
 clear he hm9 hk9 n1 n2 ch2
 go_wp2_with fail
 refine ⟨?_, ?_⟩
 · refine DNI.mk ?_
   exact ⟨k + 1, HK.out.1, int_succ (by first | rfl | exact m2), HE2.out⟩
 · rw [dmu_eq, dmu_eq]
   exact sub_lt1 HK.out.1 (by first | rfl | exact m2)
theorem dn_end (mb n k hc tc : Nat) (hA tA : Option Addr) (code : Int) (w'' : World) (c2 c3 c4 c8 c9 c10 c11 c12 c13 c14 c15 c16 c17 c18 c19 c20 c21 c22 c23 c24 c25 c26 c27 c28 c29 c30 c31 c32 c67 c68 c69 c70 c71 c72 c73 c74 c75 c76 c77 c78 c79 c80 c81 c82 c83 c84 c85 c86 c87 c88 c89 c90 c91 u6 u7 u36 u37 u38 u39 u40 u41 u42 u43 u44 u45 u46 u47 u48 u49 u50 u51 u52 u53 u54 u55 u56 u57 u58 u59 u60 u61 u62 u63 u64 u65 u66 : Value) (Q : Exit → Act → World → Prop) (hk : k = n) (h : ∀ u6 u7 u35 u36 u37 u38 u39 u40 u41 u42 u43 u44 u45 u46 u47 u48 u49 u50 u51 u52 u53 u54 u55 u56 u57 u58 u59 u60 u61 u62 u63 u64 u65 u66 : Value, Q (.exit 0) ⟨#[.pointer (some ⟨mb, 0, none⟩), .int .i64 code, c2, c3, c4, .slice tA n tc, u6, u7, c8, c9, c10, c11, c12, c13, c14, c15, c16, c17, c18, c19, c20, c21, c22, c23, c24, c25, c26, c27, c28, c29, c30, c31, c32, .slice hA n hc, .int .i64 (n : Int), u35, u36, u37, u38, u39, u40, u41, u42, u43, u44, u45, u46, u47, u48, u49, u50, u51, u52, u53, u54, u55, u56, u57, u58, u59, u60, u61, u62, u63, u64, u65, u66, c67, c68, c69, c70, c71, c72, c73, c74, c75, c76, c77, c78, c79, c80, c81, c82, c83, c84, c85, c86, c87, c88, c89, c90, c91], []⟩ w'') :
  Code.wp Tryz.prog (loopOf Tryz.f44) Q ⟨#[.pointer (some ⟨mb, 0, none⟩), .int .i64 code, c2, c3, c4, .slice tA n tc, u6, u7, c8, c9, c10, c11, c12, c13, c14, c15, c16, c17, c18, c19, c20, c21, c22, c23, c24, c25, c26, c27, c28, c29, c30, c31, c32, .slice hA n hc, .int .i64 (n : Int), .int .i64 (k : Int), u36, u37, u38, u39, u40, u41, u42, u43, u44, u45, u46, u47, u48, u49, u50, u51, u52, u53, u54, u55, u56, u57, u58, u59, u60, u61, u62, u63, u64, u65, u66, c67, c68, c69, c70, c71, c72, c73, c74, c75, c76, c77, c78, c79, c80, c81, c82, c83, c84, c85, c86, c87, c88, c89, c90, c91], []⟩ w'' := by
 subst hk
 have n0 : ¬ (k : Int) < (k : Int) := Int.lt_irrefl _
 conv => arg 2; whnf
 go_wp2_with fail
 exact h _ _ _ _ _ _ _ _ _ _ _ _ _ _ _ _ _ _ _ _ _ _ _ _ _ _ _ _ _ _ _ _ _ _
theorem dn_loop (w w5 : World) (F : Foot) (Ft : Nat → Foot) (mb gm kb am n q qc hc tc : Nat) (qA hA tA : Option Addr) (m : MS) (es : List TE) (N R : Nat) (ts : List TxD) (code : Int) (ok : Bool) (wr : World) (c2 c3 c4 c8 c9 c10 c11 c12 c13 c14 c15 c16 c17 c18 c19 c20 c21 c22 c23 c24 c25 c26 c27 c28 c29 c30 c31 c32 c67 c68 c69 c70 c71 c72 c73 c74 c75 c76 c77 c78 c79 c80 c81 c82 c83 c84 c85 c86 c87 c88 c89 c90 c91 u6 u7 u35 u36 u37 u38 u39 u40 u41 u42 u43 u44 u45 u46 u47 u48 u49 u50 u51 u52 u53 u54 u55 u56 u57 u58 u59 u60 u61 u62 u63 u64 u65 u66 : Value) (Q0 : Exit → Act → World → Prop) (hpan : ∀ c a d v w, Q0 (.panic c) (Act.put a d v) w → Q0 (.panic c) a w)
  (H : DnH w w5 F Ft mb gm kb am n q qc hc tc qA hA tA m es N R ts) (hok : ok = decide (code = 0)) (h0 : ∃ k : Nat, k ≤ n ∧ u35 = .int .i64 (k : Int) ∧ DoL w5 wr F mb gm kb am (.slice qA q qc) n m es N R ok k)
  (hexit : ∀ (u6 u7 u35 u36 u37 u38 u39 u40 u41 u42 u43 u44 u45 u46 u47 u48 u49 u50 u51 u52 u53 u54 u55 u56 u57 u58 u59 u60 u61 u62 u63 u64 u65 u66 : Value) (w' : World), DoL w5 w' F mb gm kb am (.slice qA q qc) n m es N R ok n → Q0 (.exit 0) ⟨#[.pointer (some ⟨mb, 0, none⟩), .int .i64 code, c2, c3, c4, .slice tA n tc, u6, u7, c8, c9, c10, c11, c12, c13, c14, c15, c16, c17, c18, c19, c20, c21, c22, c23, c24, c25, c26, c27, c28, c29, c30, c31, c32, .slice hA n hc, .int .i64 (n : Int), u35, u36, u37, u38, u39, u40, u41, u42, u43, u44, u45, u46, u47, u48, u49, u50, u51, u52, u53, u54, u55, u56, u57, u58, u59, u60, u61, u62, u63, u64, u65, u66, c67, c68, c69, c70, c71, c72, c73, c74, c75, c76, c77, c78, c79, c80, c81, c82, c83, c84, c85, c86, c87, c88, c89, c90, c91], []⟩ w') :
  Code.wp Tryz.prog (Code.loop (loopOf Tryz.f44)) Q0 ⟨#[.pointer (some ⟨mb, 0, none⟩), .int .i64 code, c2, c3, c4, .slice tA n tc, u6, u7, c8, c9, c10, c11, c12, c13, c14, c15, c16, c17, c18, c19, c20, c21, c22, c23, c24, c25, c26, c27, c28, c29, c30, c31, c32, .slice hA n hc, .int .i64 (n : Int), u35, u36, u37, u38, u39, u40, u41, u42, u43, u44, u45, u46, u47, u48, u49, u50, u51, u52, u53, u54, u55, u56, u57, u58, u59, u60, u61, u62, u63, u64, u65, u66, c67, c68, c69, c70, c71, c72, c73, c74, c75, c76, c77, c78, c79, c80, c81, c82, c83, c84, c85, c86, c87, c88, c89, c90, c91], []⟩ wr := by
 refine wp_loop (DNI w5 F mb gm kb am n q qc hc tc qA hA tA m es N R code ok c2 c3 c4 c8 c9 c10 c11 c12 c13 c14 c15 c16 c17 c18 c19 c20 c21 c22 c23 c24 c25 c26 c27 c28 c29 c30 c31 c32 c67 c68 c69 c70 c71 c72 c73 c74 c75 c76 c77 c78 c79 c80 c81 c82 c83 c84 c85 c86 c87 c88 c89 c90 c91) (dmu n) (DNI.mk h0) (fun a w'' hI => ?_)
 unfold DNI at hI
 obtain ⟨v6, hI⟩ := hI
 obtain ⟨v7, hI⟩ := hI
 obtain ⟨v35, hI⟩ := hI
 obtain ⟨v36, hI⟩ := hI
 obtain ⟨v37, hI⟩ := hI
 obtain ⟨v38, hI⟩ := hI
 obtain ⟨v39, hI⟩ := hI
 obtain ⟨v40, hI⟩ := hI
 obtain ⟨v41, hI⟩ := hI
 obtain ⟨v42, hI⟩ := hI
 obtain ⟨v43, hI⟩ := hI
 obtain ⟨v44, hI⟩ := hI
 obtain ⟨v45, hI⟩ := hI
 obtain ⟨v46, hI⟩ := hI
 obtain ⟨v47, hI⟩ := hI
 obtain ⟨v48, hI⟩ := hI
 obtain ⟨v49, hI⟩ := hI
 obtain ⟨v50, hI⟩ := hI
 obtain ⟨v51, hI⟩ := hI
 obtain ⟨v52, hI⟩ := hI
 obtain ⟨v53, hI⟩ := hI
 obtain ⟨v54, hI⟩ := hI
 obtain ⟨v55, hI⟩ := hI
 obtain ⟨v56, hI⟩ := hI
 obtain ⟨v57, hI⟩ := hI
 obtain ⟨v58, hI⟩ := hI
 obtain ⟨v59, hI⟩ := hI
 obtain ⟨v60, hI⟩ := hI
 obtain ⟨v61, hI⟩ := hI
 obtain ⟨v62, hI⟩ := hI
 obtain ⟨v63, hI⟩ := hI
 obtain ⟨v64, hI⟩ := hI
 obtain ⟨v65, hI⟩ := hI
 obtain ⟨v66, hI⟩ := hI
 obtain ⟨⟨k, hk, e35, hW⟩, rfl⟩ := hI
 subst e35
 rcases Nat.lt_or_ge k n with hlt | hge
 · cases ok with
   | false => exact dn_no w w5 F Ft mb gm kb am n q qc hc tc qA hA tA m es N R ts code w'' k _ _ _ _ _ _ _ _ _ _ _ _ _ _ _ _ _ _ _ _ _ _ _ _ _ _ _ _ _ _ _ _ _ _ _ _ _ _ _ _ _ _ _ _ _ _ _ _ _ _ _ _ _ _ _ _ _ _ _ _ _ _ _ _ _ _ _ _ _ _ _ _ _ _ _ _ _ _ _ _ _ _ _ _ _ _ Q0 H (fun e => by subst e; exact absurd hok (by decide)) hW hlt
   | true => exact dn_yes w w5 F Ft mb gm kb am n q qc hc tc qA hA tA m es N R ts code w'' k _ _ _ _ _ _ _ _ _ _ _ _ _ _ _ _ _ _ _ _ _ _ _ _ _ _ _ _ _ _ _ _ _ _ _ _ _ _ _ _ _ _ _ _ _ _ _ _ _ _ _ _ _ _ _ _ _ _ _ _ _ _ _ _ _ _ _ _ _ _ _ _ _ _ _ _ _ _ _ _ _ _ _ _ _ _ Q0 hpan H (of_decide_eq_true hok.symm) hW hlt
 · have e : k = n := Nat.le_antisymm hk hge
   subst e
   exact dn_end mb k k hc tc hA tA code w'' _ _ _ _ _ _ _ _ _ _ _ _ _ _ _ _ _ _ _ _ _ _ _ _ _ _ _ _ _ _ _ _ _ _ _ _ _ _ _ _ _ _ _ _ _ _ _ _ _ _ _ _ _ _ _ _ _ _ _ _ _ _ _ _ _ _ _ _ _ _ _ _ _ _ _ _ _ _ _ _ _ _ _ _ _ _ _ rfl (fun u6 u7 u35 u36 u37 u38 u39 u40 u41 u42 u43 u44 u45 u46 u47 u48 u49 u50 u51 u52 u53 u54 u55 u56 u57 u58 u59 u60 u61 u62 u63 u64 u65 u66 => hexit u6 u7 u35 u36 u37 u38 u39 u40 u41 u42 u43 u44 u45 u46 u47 u48 u49 u50 u51 u52 u53 u54 u55 u56 u57 u58 u59 u60 u61 u62 u63 u64 u65 u66 w'' hW)
end
section
open Go.RowKit Go.Maps
theorem mdone_any (F : Foot) (Ft : Nat → Foot) (mb gm kb am : Nat) (qv : Value) (n : Nat) (m : MS) (es : List TE) (N R : Nat) (code : Int) (ok : Bool) (w : World) (h : ManX w F Ft mb gm kb am qv n m es N R) (good : GoodM m) (hl : es.length ≤ 100000) (hql : m.queue.length ≤ 100000) (hn : 0 < n ∧ n ≤ m.queue.length) (hN : N + 16 * n ≤ 100000) (hR : R ≤ 100000) (hok : ok = decide (code = 0)) :
  Calls Tryz.prog 44 #[.pointer (some ⟨mb, 0, none⟩), .int .i64 code] w fun e w' => e = .returned (.int .i64 0) ∧ doOut w w' F mb gm kb am (doneM m ok n) es (N + 16 * n) R := by
 have hg := mgone_any mb gm kb am n qv m w h.bx
 obtain ⟨qA, qc, hqv⟩ := own_shape h.own
 subst hqv
 obtain ⟨q, hq⟩ : ∃ q, m.queue.length = q := ⟨_, rfl⟩
 have n0 : ((n : Int) == 0) = false := by
  have : ¬ (n : Int) = 0 := by omega
  simpa using this
 have hcap := own_caps h.own
 have p1 : (0 : Int) ≤ (n : Int) := by omega
 have p4 : (n : Int) ≤ (qc : Int) := by omega
 have p5 : (n : Int) ≤ (q : Int) := by omega
 have KK := Lib.hid (fun (w' : World) (hS : Bk w' mb 172 (mcells gm kb am (.slice qA m.queue.length qc) n m)) => And.intro (mcells_at hS).2.2.2.1 (mcells_at hS).2.2.2.2.1)
 have HQ := Lib.hid hq
 rw [hq] at KK
 have c4 := (KK.out _ (by rw [← hq]; exact h.bx)).2
 have HX := Lib.hid h
 have HG := Lib.hid (And.intro good (And.intro (fun i (hi : i ∈ m.queue) => show ∃ t, m.txs[i]? = some t from by obtain ⟨t, ht, _⟩ := good.que i hi; exact ⟨t, ht⟩) (And.intro hl (And.intro hql (And.intro hn (And.intro hN (And.intro hR hcap)))))))
 rw [hq] at HX
 clear h good hl hql hn hN hR hq hcap
 go_enter Tryz.func44, Tryz.ntmps44
 go_wp2_with fail
 refine hg.mono ?_
 rintro e w' ⟨rfl, rfl⟩
 clear hg
 go_wp2_with fail
 have Kq := KK
 refine wp_region_held_drew (S := fun w' => Bk w' mb 172 (mcells gm kb am (.slice qA q qc) n m)) (by kernel_rfl) (HX.out.bx.drew) (fun hHeld => ?_)
 refine kF 0 ?_; refine kF 2 ?_; refine kF 3 ?_; refine kF 4 ?_; refine kF 5 ?_
 refine rF 1 (fun K hK => ?_)
 go_simp
 refine (waiting_any F Ft mb gm kb am (.slice qA q qc) n m es N R _ (HX.out.next (bdrew (Below.refl w.heap.size w))) HG.out.2.1 HG.out.2.2.1 HG.out.2.2.2.1).mono ?_
 rintro e w1 ⟨⟨v1, ts, rfl, hwl⟩, hb1⟩
 rw [HQ.out] at hwl
 obtain ⟨tA, tc, rfl⟩ := own_shape hwl.own
 have hB1 : Below w.heap.size w w1 := (bdrew (Below.refl _ _)).trans hb1
 have hS1 := (HX.out.next hB1).bx
 have p2 : (n : Int) ≤ (tc : Int) := by have := (own_caps hwl.own).1; have := HG.out.2.2.2.2.1; have := HQ.out; omega
 have H1 := Lib.hid (And.intro (show WaitL w w1 m (.slice tA q tc) ts q from ⟨hwl.own, hwl.y, hwl.at_, hwl.len⟩) hB1)
 clear hwl hb1 hB1
 go_simp
 refine hK.out _ _ (hS1) (fun hHeld2 => ?_)
 clear hK K hHeld
 have hHeld := hHeld2
 clear hHeld2
 try simp only [Act.put, List.setIfInBounds_toArray, List.set_cons_zero, List.set_cons_succ]
 refine kF 6 ?_; refine kF 7 ?_
 refine wpAnyH_done (by kernel_rfl) ?_ _
 clear Kq
 clear c4
 go_wp2_with fail
 have Kq := KK
 refine wp_region_held_drew (S := fun w' => Bk w' mb 172 (mcells gm kb am (.slice qA q qc) n m)) (by kernel_rfl) (hS1.drew) (fun hHeld => ?_)
 refine kF 0 ?_; refine kF 1 ?_; refine kF 2 ?_; refine kF 3 ?_; refine kF 4 ?_; refine kF 5 ?_; refine kF 6 ?_; refine kF 7 ?_; refine kF 8 ?_; refine kF 11 ?_
 refine rF 9 (fun K hK => ?_)
 go_simp
 refine (clone_int qA n qc ((m.queue.map qcell).take n) _ (by rw [List.length_take, List.length_map, HQ.out, Nat.mul_one]; have := HG.out.2.2.2.2.1; have := HQ.out; omega) ((rd_of_own (own_len HQ.out (HX.out.next (H1.out.2.trans ((bdrew (Below.refl _ _)).mono H1.out.2.size))).own)).take n) (by intro u hu; obtain ⟨i, _, rfl⟩ := List.mem_map.1 (List.mem_of_mem_take hu); rfl) (Nat.le_trans HG.out.2.2.2.2.1.2 HG.out.2.2.2.1)).mono ?_
 rintro e w5 ⟨⟨v5, rfl, ho5⟩, hb5⟩
 obtain ⟨hA, hc, rfl⟩ := own_shape ho5
 have hB5 : Below w.heap.size w w5 := H1.out.2.trans (((bdrew (Below.refl _ _)).trans hb5).mono H1.out.2.size)
 have hS5 := (HX.out.next hB5).bx
 have H5 := Lib.hid (And.intro (And.intro (ownsRow_base_a ho5 H1.out.2.size) (H1.out.1.next ((bdrew (Below.refl _ _)).trans hb5))) hB5)
 clear ho5 hb5 hB5
 go_simp
 refine hK.out _ _ (hS5) (fun hHeld2 => ?_)
 clear hK K hHeld
 have hHeld := hHeld2
 clear hHeld2
 try simp only [Act.put, List.setIfInBounds_toArray, List.set_cons_zero, List.set_cons_succ]
 refine kF 10 ?_
 refine wpAnyH_done (by kernel_rfl) ?_ _
 clear Kq
 clear hS1 hS5
 go_wp2_with fail
 have HD5 := Lib.hid (show DnH w w5 F Ft mb gm kb am n q qc hc tc qA hA tA m es N R ts from ⟨HX.out, HG.out.1, HG.out.2.2.1, HG.out.2.2.2.1, HG.out.2.2.2.2.1.2, HG.out.2.2.2.2.2.1, HG.out.2.2.2.2.2.2.1, HQ.out, H5.out.1.1, H5.out.1.2⟩)
 have HHO := Lib.hid hok
 clear hok p1 p2 n0
 refine dn_loop w w5 F Ft mb gm kb am n q qc hc tc qA hA tA m es N R ts code ok w5 _ _ _ _ _ _ _ _ _ _ _ _ _ _ _ _ _ _ _ _ _ _ _ _ _ _ _ _ _ _ _ _ _ _ _ _ _ _ _ _ _ _ _ _ _ _ _ _ _ _ _ _ _ _ _ _ _ _ _ _ _ _ _ _ _ _ _ _ _ _ _ _ _ _ _ _ _ _ _ _ _ _ _ _ _ _ _ _ (fun _ _ d _ _ h => by cases d <;> exact h) HD5.out HHO.out ⟨0, Nat.zero_le _, rfl, ⟨F, Ft, HX.out.next H5.out.2, fun b q => .inl q, (HX.out.next H5.out.2).fam.lt⟩, Kf.refl _ _⟩ ?_
 intro u6 u7 u35 u36 u37 u38 u39 u40 u41 u42 u43 u44 u45 u46 u47 u48 u49 u50 u51 u52 u53 u54 u55 u56 u57 u58 u59 u60 u61 u62 u63 u64 u65 u66 wr hE
 have hok := HHO.out
 obtain ⟨⟨Fk, Ftk, hmk, hsb, hin⟩, hkf⟩ := hE
 cases ok with
 | false =>
   have hcd : ¬ code = 0 := fun e => by subst e; exact absurd hok (by decide)
   have n3 : (code == 0) = false := by simpa using hcd
   have HD := Lib.hid (And.intro hmk (And.intro hkf (And.intro hsb (And.intro (doneM_no HG.out.1 HG.out.2.2.2.2.1.2) (show (doneM m false n).queue.length = q - n by rw [doneM_no HG.out.1 HG.out.2.2.2.2.1.2]; show (m.queue.drop n).length = _; rw [List.length_drop, HQ.out])))))
   have HC := Lib.hid (done_rest (m := m) hmk rfl HQ.out HG.out.2.2.2.2.1.2 HG.out.2.2.2.1 HG.out.2.2.2.2.2.2.2.1)
   have c3w := (mcells_at hmk.bx).2.2.2.1
   have c4w := (mcells_at hmk.bx).2.2.2.2.1
   clear hmk hsb hin hkf hcd hok
   go_wp2_with fail
   refine wp_region_held_drew (S := fun _ => True) (by kernel_rfl) trivial (fun hHeld => ?_)
   refine wpAnyH_take (i := 0) (v := ?vd1_0) (by simp only [List.getElem?_toArray, List.getElem?_cons_succ, List.getElem?_cons_zero]; rfl) (by kernel_rfl) (by kernel_rfl) (by kernel_rfl) (by exact fun _ _ _ h => h) (Or.inl ⟨by rfl, ?hd1_0⟩) hHeld ?_
   case hd1_0 => (intro w' _; go_simp <;> with_reducible rfl)
   try simp only [Act.put, List.setIfInBounds_toArray, List.set_cons_zero, List.set_cons_succ]
   refine wpAnyH_take (i := 1) (v := ?vd2_1) (by simp only [List.getElem?_toArray, List.getElem?_cons_succ, List.getElem?_cons_zero]; rfl) (by kernel_rfl) (by kernel_rfl) (by kernel_rfl) (by exact fun _ _ _ h => h) (Or.inl ⟨by rfl, ?hd2_1⟩) hHeld ?_
   case hd2_1 => (intro w' _; go_simp <;> with_reducible rfl)
   try simp only [Act.put, List.setIfInBounds_toArray, List.set_cons_zero, List.set_cons_succ]
   refine wpAnyH_take (i := 2) (v := ?vd3_2) (by simp only [List.getElem?_toArray, List.getElem?_cons_succ, List.getElem?_cons_zero]; rfl) (by kernel_rfl) (by kernel_rfl) (by kernel_rfl) (by exact fun _ _ _ h => h) (Or.inl ⟨by rfl, ?hd3_2⟩) hHeld ?_
   case hd3_2 => (intro w' _; go_simp <;> with_reducible rfl)
   try simp only [Act.put, List.setIfInBounds_toArray, List.set_cons_zero, List.set_cons_succ]
   refine wpAnyH_take (i := 3) (v := ?vd4_3) (by simp only [List.getElem?_toArray, List.getElem?_cons_succ, List.getElem?_cons_zero]; rfl) (by kernel_rfl) (by kernel_rfl) (by kernel_rfl) (by exact fun _ _ _ h => h) (Or.inl ⟨by rfl, ?hd4_3⟩) hHeld ?_
   case hd4_3 => (intro w' _; go_simp <;> with_reducible rfl)
   try simp only [Act.put, List.setIfInBounds_toArray, List.set_cons_zero, List.set_cons_succ]
   refine wpAnyH_take (i := 5) (v := ?vd5_5) (by simp only [List.getElem?_toArray, List.getElem?_cons_succ, List.getElem?_cons_zero]; rfl) (by kernel_rfl) (by kernel_rfl) (by kernel_rfl) (by exact fun _ _ _ h => h) (Or.inl ⟨by rfl, ?hd5_5⟩) hHeld ?_
   case hd5_5 => (intro w' _; go_simp <;> with_reducible rfl)
   try simp only [Act.put, List.setIfInBounds_toArray, List.set_cons_zero, List.set_cons_succ]
   refine wpAnyH_take (i := 6) (v := ?vd6_6) (by simp only [List.getElem?_toArray, List.getElem?_cons_succ, List.getElem?_cons_zero]; rfl) (by kernel_rfl) (by kernel_rfl) (by kernel_rfl) (by exact fun _ _ _ h => h) (Or.inl ⟨by rfl, ?hd6_6⟩) hHeld ?_
   case hd6_6 => (intro w' _; go_simp <;> with_reducible rfl)
   try simp only [Act.put, List.setIfInBounds_toArray, List.set_cons_zero, List.set_cons_succ]
   refine wpAnyH_take (i := 7) (v := ?vd7_7) (by simp only [List.getElem?_toArray, List.getElem?_cons_succ, List.getElem?_cons_zero]; rfl) (by kernel_rfl) (by kernel_rfl) (by kernel_rfl) (by exact fun _ _ _ h => h) (Or.inl ⟨by rfl, ?hd7_7⟩) hHeld ?_
   case hd7_7 => (intro w' _; go_simp <;> with_reducible rfl)
   try simp only [Act.put, List.setIfInBounds_toArray, List.set_cons_zero, List.set_cons_succ]
   refine wpAnyH_ready (rs := [4, 8]) (by kernel_rfl) (by simp) ?_
   refine AllReadyH.cons (by simp only [List.getElem?_toArray, List.getElem?_cons_succ, List.getElem?_cons_zero]; rfl) (fun K hK => ?_) (AllReadyH.cons (by simp only [List.getElem?_toArray, List.getElem?_cons_succ, List.getElem?_cons_zero]; rfl) (fun K hK => ?_) AllReadyH.nil)
   · skip
     go_simp
     refine hK.out _ _ trivial (fun hHeld2 => ?_)
     clear hK K hHeld
     have hHeld := hHeld2
     clear hHeld2
     try simp only [Act.put, List.setIfInBounds_toArray, List.set_cons_zero, List.set_cons_succ]
     refine wpAnyH_ready (rs := [8]) (by kernel_rfl) (by simp) ?_
     refine AllReadyH.cons (by simp only [List.getElem?_toArray, List.getElem?_cons_succ, List.getElem?_cons_zero]; rfl) (fun K hK => ?_) AllReadyH.nil
     go_simp
     refine hK.out _ _ trivial (fun hHeld2 => ?_)
     clear hK K hHeld
     have hHeld := hHeld2
     clear hHeld2
     try simp only [Act.put, List.setIfInBounds_toArray, List.set_cons_zero, List.set_cons_succ]
     refine wpAnyH_take (i := 9) (v := ?vd8_9) (by simp only [List.getElem?_toArray, List.getElem?_cons_succ, List.getElem?_cons_zero]; rfl) (by kernel_rfl) (by kernel_rfl) (by kernel_rfl) (by exact fun _ _ _ h => h) (Or.inl ⟨by rfl, ?hd8_9⟩) hHeld ?_
     case hd8_9 => (intro w' _; go_simp <;> with_reducible rfl)
     try simp only [Act.put, List.setIfInBounds_toArray, List.set_cons_zero, List.set_cons_succ]
     refine wpAnyH_ready (rs := [10]) (by kernel_rfl) (by simp) ?_
     refine AllReadyH.cons (by simp only [List.getElem?_toArray, List.getElem?_cons_succ, List.getElem?_cons_zero]; rfl) (fun K hK => ?_) AllReadyH.nil
     go_simp
     refine (clone_int _ _ _ _ _ HC.out.1 HC.out.2.1 HC.out.2.2.1 HC.out.2.2.2).mono ?_
     rintro e w9 ⟨⟨v9, rfl, ho9⟩, hb9⟩
     obtain ⟨A9, c9, rfl⟩ := own_shape ho9
     have hB9 := (HD.out.1.bx.drew).next hb9 HD.out.1.bx.lt
     have f93 := hB9.free 3
     have z93 := (mcells_at hB9).2.2.2.1
     obtain ⟨w10, hw10⟩ : ∃ w10, w9.setCell ⟨mb, 3, none⟩ (.slice A9 (q - n) c9) = w10 := ⟨_, rfl⟩
     have HQ := Lib.hid (And.intro ho9 (And.intro hb9 (And.intro hB9 hw10)))
     clear ho9 hb9 hB9
     go_simp
     refine hK.out _ _ trivial (fun hHeld2 => ?_)
     clear hK K hHeld
     have hHeld := hHeld2
     clear hHeld2
     try simp only [Act.put, List.setIfInBounds_toArray, List.set_cons_zero, List.set_cons_succ]
     refine wpAnyH_take (i := 11) (v := ?vd9_11) (by simp only [List.getElem?_toArray, List.getElem?_cons_succ, List.getElem?_cons_zero]; rfl) (by kernel_rfl) (by kernel_rfl) (by kernel_rfl) (by exact fun _ _ _ h => h) (Or.inl ⟨by rfl, ?hd9_11⟩) hHeld ?_
     case hd9_11 => (intro w' _; go_simp <;> with_reducible rfl)
     try simp only [Act.put, List.setIfInBounds_toArray, List.set_cons_zero, List.set_cons_succ]
     refine wpAnyH_take (i := 12) (v := ?vd10_12) (by simp only [List.getElem?_toArray, List.getElem?_cons_succ, List.getElem?_cons_zero]; rfl) (by kernel_rfl) (by kernel_rfl) (by kernel_rfl) (by exact fun _ _ _ h => h) (Or.inl ⟨by rfl, ?hd10_12⟩) hHeld ?_
     case hd10_12 => (intro w' _; go_simp <;> with_reducible rfl)
     try simp only [Act.put, List.setIfInBounds_toArray, List.set_cons_zero, List.set_cons_succ]
     refine wpAnyH_ready (rs := [13]) (by kernel_rfl) (by simp) ?_
     refine AllReadyH.cons (by simp only [List.getElem?_toArray, List.getElem?_cons_succ, List.getElem?_cons_zero]; rfl) (fun K hK => ?_) AllReadyH.nil
     go_simp
     try rw [hw10]
     refine hK.out _ _ trivial (fun hHeld2 => ?_)
     clear hK K hHeld
     have hHeld := hHeld2
     clear hHeld2
     try simp only [Act.put, List.setIfInBounds_toArray, List.set_cons_zero, List.set_cons_succ]
     refine wpAnyH_done (by kernel_rfl) ?_ _
     have HE := Lib.hid (done_end HD.out.1 HD.out.2 HQ.out.1 HQ.out.2.1 HQ.out.2.2.1 HQ.out.2.2.2)
     have f4 := HE.out.2.1.free 4
     have z4 := (mcells_at HE.out.2.1).2.2.2.2.1
     clear f93 hw10
     go_wp2_with fail
     all_goals (go_ret; exact ⟨rfl, done_out H5.out.2 (HE.out.1 _ rfl)⟩)
   · skip
     go_simp
     refine hK.out _ _ trivial (fun hHeld2 => ?_)
     clear hK K hHeld
     have hHeld := hHeld2
     clear hHeld2
     try simp only [Act.put, List.setIfInBounds_toArray, List.set_cons_zero, List.set_cons_succ]
     refine wpAnyH_ready (rs := [4]) (by kernel_rfl) (by simp) ?_
     refine AllReadyH.cons (by simp only [List.getElem?_toArray, List.getElem?_cons_succ, List.getElem?_cons_zero]; rfl) (fun K hK => ?_) AllReadyH.nil
     go_simp
     refine hK.out _ _ trivial (fun hHeld2 => ?_)
     clear hK K hHeld
     have hHeld := hHeld2
     clear hHeld2
     try simp only [Act.put, List.setIfInBounds_toArray, List.set_cons_zero, List.set_cons_succ]
     refine wpAnyH_take (i := 9) (v := ?vd11_9) (by simp only [List.getElem?_toArray, List.getElem?_cons_succ, List.getElem?_cons_zero]; rfl) (by kernel_rfl) (by kernel_rfl) (by kernel_rfl) (by exact fun _ _ _ h => h) (Or.inl ⟨by rfl, ?hd11_9⟩) hHeld ?_
     case hd11_9 => (intro w' _; go_simp <;> with_reducible rfl)
     try simp only [Act.put, List.setIfInBounds_toArray, List.set_cons_zero, List.set_cons_succ]
     refine wpAnyH_ready (rs := [10]) (by kernel_rfl) (by simp) ?_
     refine AllReadyH.cons (by simp only [List.getElem?_toArray, List.getElem?_cons_succ, List.getElem?_cons_zero]; rfl) (fun K hK => ?_) AllReadyH.nil
     go_simp
     refine (clone_int _ _ _ _ _ HC.out.1 HC.out.2.1 HC.out.2.2.1 HC.out.2.2.2).mono ?_
     rintro e w9 ⟨⟨v9, rfl, ho9⟩, hb9⟩
     obtain ⟨A9, c9, rfl⟩ := own_shape ho9
     have hB9 := (HD.out.1.bx.drew).next hb9 HD.out.1.bx.lt
     have f93 := hB9.free 3
     have z93 := (mcells_at hB9).2.2.2.1
     obtain ⟨w10, hw10⟩ : ∃ w10, w9.setCell ⟨mb, 3, none⟩ (.slice A9 (q - n) c9) = w10 := ⟨_, rfl⟩
     have HQ := Lib.hid (And.intro ho9 (And.intro hb9 (And.intro hB9 hw10)))
     clear ho9 hb9 hB9
     go_simp
     refine hK.out _ _ trivial (fun hHeld2 => ?_)
     clear hK K hHeld
     have hHeld := hHeld2
     clear hHeld2
     try simp only [Act.put, List.setIfInBounds_toArray, List.set_cons_zero, List.set_cons_succ]
     refine wpAnyH_take (i := 11) (v := ?vd12_11) (by simp only [List.getElem?_toArray, List.getElem?_cons_succ, List.getElem?_cons_zero]; rfl) (by kernel_rfl) (by kernel_rfl) (by kernel_rfl) (by exact fun _ _ _ h => h) (Or.inl ⟨by rfl, ?hd12_11⟩) hHeld ?_
     case hd12_11 => (intro w' _; go_simp <;> with_reducible rfl)
     try simp only [Act.put, List.setIfInBounds_toArray, List.set_cons_zero, List.set_cons_succ]
     refine wpAnyH_take (i := 12) (v := ?vd13_12) (by simp only [List.getElem?_toArray, List.getElem?_cons_succ, List.getElem?_cons_zero]; rfl) (by kernel_rfl) (by kernel_rfl) (by kernel_rfl) (by exact fun _ _ _ h => h) (Or.inl ⟨by rfl, ?hd13_12⟩) hHeld ?_
     case hd13_12 => (intro w' _; go_simp <;> with_reducible rfl)
     try simp only [Act.put, List.setIfInBounds_toArray, List.set_cons_zero, List.set_cons_succ]
     refine wpAnyH_ready (rs := [13]) (by kernel_rfl) (by simp) ?_
     refine AllReadyH.cons (by simp only [List.getElem?_toArray, List.getElem?_cons_succ, List.getElem?_cons_zero]; rfl) (fun K hK => ?_) AllReadyH.nil
     go_simp
     try rw [hw10]
     refine hK.out _ _ trivial (fun hHeld2 => ?_)
     clear hK K hHeld
     have hHeld := hHeld2
     clear hHeld2
     try simp only [Act.put, List.setIfInBounds_toArray, List.set_cons_zero, List.set_cons_succ]
     refine wpAnyH_done (by kernel_rfl) ?_ _
     have HE := Lib.hid (done_end HD.out.1 HD.out.2 HQ.out.1 HQ.out.2.1 HQ.out.2.2.1 HQ.out.2.2.2)
     have f4 := HE.out.2.1.free 4
     have z4 := (mcells_at HE.out.2.1).2.2.2.2.1
     clear f93 hw10
     go_wp2_with fail
     all_goals (go_ret; exact ⟨rfl, done_out H5.out.2 (HE.out.1 _ rfl)⟩)
 | true =>
   have hcd : code = 0 := of_decide_eq_true hok.symm
   subst hcd
   clear hok
   obtain ⟨w6, hw6⟩ : ∃ w6, wr.setCell ⟨mb, 5, none⟩ (.int .i64 ((m.num : Int) + 1)) = w6 := ⟨_, rfl⟩
   obtain ⟨c5, f5, g6, k6⟩ := done_inc hmk hw6
   have m5 : wrap64 ((m.num : Int) + 1) = (m.num : Int) + 1 := wrap_succ (Nat.le_trans HG.out.1.cap.2 (by decide))
   have m6 : IntKind.i64.wrap ((m.num : Int) + 1) = (m.num : Int) + 1 := wrap_succ2 (Nat.le_trans HG.out.1.cap.2 (by decide))
   have HD := Lib.hid (And.intro g6 (And.intro (hkf.trans k6 hsb) (And.intro hsb (And.intro (doneM_yes HG.out.1 HG.out.2.2.2.2.1.2) (show (doneM m true n).queue.length = q - n by rw [doneM_yes HG.out.1 HG.out.2.2.2.2.1.2]; show (m.queue.drop n).length = _; rw [List.length_drop, HQ.out])))))
   have HC := Lib.hid (done_rest (m := m) g6 rfl HQ.out HG.out.2.2.2.2.1.2 HG.out.2.2.2.1 HG.out.2.2.2.2.2.2.2.1)
   have c3w := (mcells_at g6.bx).2.2.2.1
   have c4w := (mcells_at g6.bx).2.2.2.2.1
   clear hmk hsb hin hkf g6 k6
   go_wp2_with fail
   refine wp_region_held_drew (S := fun _ => True) (by kernel_rfl) trivial (fun hHeld => ?_)
   refine wpAnyH_take (i := 0) (v := ?vd1_0) (by simp only [List.getElem?_toArray, List.getElem?_cons_succ, List.getElem?_cons_zero]; rfl) (by kernel_rfl) (by kernel_rfl) (by kernel_rfl) (by exact fun _ _ _ h => h) (Or.inl ⟨by rfl, ?hd1_0⟩) hHeld ?_
   case hd1_0 => (intro w' _; go_simp <;> with_reducible rfl)
   try simp only [Act.put, List.setIfInBounds_toArray, List.set_cons_zero, List.set_cons_succ]
   refine wpAnyH_take (i := 1) (v := ?vd2_1) (by simp only [List.getElem?_toArray, List.getElem?_cons_succ, List.getElem?_cons_zero]; rfl) (by kernel_rfl) (by kernel_rfl) (by kernel_rfl) (by exact fun _ _ _ h => h) (Or.inl ⟨by rfl, ?hd2_1⟩) hHeld ?_
   case hd2_1 => (intro w' _; go_simp <;> with_reducible rfl)
   try simp only [Act.put, List.setIfInBounds_toArray, List.set_cons_zero, List.set_cons_succ]
   refine wpAnyH_take (i := 2) (v := ?vd3_2) (by simp only [List.getElem?_toArray, List.getElem?_cons_succ, List.getElem?_cons_zero]; rfl) (by kernel_rfl) (by kernel_rfl) (by kernel_rfl) (by exact fun _ _ _ h => h) (Or.inl ⟨by rfl, ?hd3_2⟩) hHeld ?_
   case hd3_2 => (intro w' _; go_simp <;> with_reducible rfl)
   try simp only [Act.put, List.setIfInBounds_toArray, List.set_cons_zero, List.set_cons_succ]
   refine wpAnyH_take (i := 3) (v := ?vd4_3) (by simp only [List.getElem?_toArray, List.getElem?_cons_succ, List.getElem?_cons_zero]; rfl) (by kernel_rfl) (by kernel_rfl) (by kernel_rfl) (by exact fun _ _ _ h => h) (Or.inl ⟨by rfl, ?hd4_3⟩) hHeld ?_
   case hd4_3 => (intro w' _; go_simp <;> with_reducible rfl)
   try simp only [Act.put, List.setIfInBounds_toArray, List.set_cons_zero, List.set_cons_succ]
   refine wpAnyH_take (i := 5) (v := ?vd5_5) (by simp only [List.getElem?_toArray, List.getElem?_cons_succ, List.getElem?_cons_zero]; rfl) (by kernel_rfl) (by kernel_rfl) (by kernel_rfl) (by exact fun _ _ _ h => h) (Or.inl ⟨by rfl, ?hd5_5⟩) hHeld ?_
   case hd5_5 => (intro w' _; go_simp <;> with_reducible rfl)
   try simp only [Act.put, List.setIfInBounds_toArray, List.set_cons_zero, List.set_cons_succ]
   refine wpAnyH_take (i := 6) (v := ?vd6_6) (by simp only [List.getElem?_toArray, List.getElem?_cons_succ, List.getElem?_cons_zero]; rfl) (by kernel_rfl) (by kernel_rfl) (by kernel_rfl) (by exact fun _ _ _ h => h) (Or.inl ⟨by rfl, ?hd6_6⟩) hHeld ?_
   case hd6_6 => (intro w' _; go_simp <;> with_reducible rfl)
   try simp only [Act.put, List.setIfInBounds_toArray, List.set_cons_zero, List.set_cons_succ]
   refine wpAnyH_take (i := 7) (v := ?vd7_7) (by simp only [List.getElem?_toArray, List.getElem?_cons_succ, List.getElem?_cons_zero]; rfl) (by kernel_rfl) (by kernel_rfl) (by kernel_rfl) (by exact fun _ _ _ h => h) (Or.inl ⟨by rfl, ?hd7_7⟩) hHeld ?_
   case hd7_7 => (intro w' _; go_simp <;> with_reducible rfl)
   try simp only [Act.put, List.setIfInBounds_toArray, List.set_cons_zero, List.set_cons_succ]
   refine wpAnyH_ready (rs := [4, 8]) (by kernel_rfl) (by simp) ?_
   refine AllReadyH.cons (by simp only [List.getElem?_toArray, List.getElem?_cons_succ, List.getElem?_cons_zero]; rfl) (fun K hK => ?_) (AllReadyH.cons (by simp only [List.getElem?_toArray, List.getElem?_cons_succ, List.getElem?_cons_zero]; rfl) (fun K hK => ?_) AllReadyH.nil)
   · skip
     go_simp
     refine hK.out _ _ trivial (fun hHeld2 => ?_)
     clear hK K hHeld
     have hHeld := hHeld2
     clear hHeld2
     try simp only [Act.put, List.setIfInBounds_toArray, List.set_cons_zero, List.set_cons_succ]
     refine wpAnyH_ready (rs := [8]) (by kernel_rfl) (by simp) ?_
     refine AllReadyH.cons (by simp only [List.getElem?_toArray, List.getElem?_cons_succ, List.getElem?_cons_zero]; rfl) (fun K hK => ?_) AllReadyH.nil
     go_simp
     refine hK.out _ _ trivial (fun hHeld2 => ?_)
     clear hK K hHeld
     have hHeld := hHeld2
     clear hHeld2
     try simp only [Act.put, List.setIfInBounds_toArray, List.set_cons_zero, List.set_cons_succ]
     refine wpAnyH_take (i := 9) (v := ?vd8_9) (by simp only [List.getElem?_toArray, List.getElem?_cons_succ, List.getElem?_cons_zero]; rfl) (by kernel_rfl) (by kernel_rfl) (by kernel_rfl) (by exact fun _ _ _ h => h) (Or.inl ⟨by rfl, ?hd8_9⟩) hHeld ?_
     case hd8_9 => (intro w' _; go_simp <;> with_reducible rfl)
     try simp only [Act.put, List.setIfInBounds_toArray, List.set_cons_zero, List.set_cons_succ]
     refine wpAnyH_ready (rs := [10]) (by kernel_rfl) (by simp) ?_
     refine AllReadyH.cons (by simp only [List.getElem?_toArray, List.getElem?_cons_succ, List.getElem?_cons_zero]; rfl) (fun K hK => ?_) AllReadyH.nil
     go_simp
     refine (clone_int _ _ _ _ _ HC.out.1 HC.out.2.1 HC.out.2.2.1 HC.out.2.2.2).mono ?_
     rintro e w9 ⟨⟨v9, rfl, ho9⟩, hb9⟩
     obtain ⟨A9, c9, rfl⟩ := own_shape ho9
     have hB9 := (HD.out.1.bx.drew).next hb9 HD.out.1.bx.lt
     have f93 := hB9.free 3
     have z93 := (mcells_at hB9).2.2.2.1
     obtain ⟨w10, hw10⟩ : ∃ w10, w9.setCell ⟨mb, 3, none⟩ (.slice A9 (q - n) c9) = w10 := ⟨_, rfl⟩
     have HQ := Lib.hid (And.intro ho9 (And.intro hb9 (And.intro hB9 hw10)))
     clear ho9 hb9 hB9
     go_simp
     refine hK.out _ _ trivial (fun hHeld2 => ?_)
     clear hK K hHeld
     have hHeld := hHeld2
     clear hHeld2
     try simp only [Act.put, List.setIfInBounds_toArray, List.set_cons_zero, List.set_cons_succ]
     refine wpAnyH_take (i := 11) (v := ?vd9_11) (by simp only [List.getElem?_toArray, List.getElem?_cons_succ, List.getElem?_cons_zero]; rfl) (by kernel_rfl) (by kernel_rfl) (by kernel_rfl) (by exact fun _ _ _ h => h) (Or.inl ⟨by rfl, ?hd9_11⟩) hHeld ?_
     case hd9_11 => (intro w' _; go_simp <;> with_reducible rfl)
     try simp only [Act.put, List.setIfInBounds_toArray, List.set_cons_zero, List.set_cons_succ]
     refine wpAnyH_take (i := 12) (v := ?vd10_12) (by simp only [List.getElem?_toArray, List.getElem?_cons_succ, List.getElem?_cons_zero]; rfl) (by kernel_rfl) (by kernel_rfl) (by kernel_rfl) (by exact fun _ _ _ h => h) (Or.inl ⟨by rfl, ?hd10_12⟩) hHeld ?_
     case hd10_12 => (intro w' _; go_simp <;> with_reducible rfl)
     try simp only [Act.put, List.setIfInBounds_toArray, List.set_cons_zero, List.set_cons_succ]
     refine wpAnyH_ready (rs := [13]) (by kernel_rfl) (by simp) ?_
     refine AllReadyH.cons (by simp only [List.getElem?_toArray, List.getElem?_cons_succ, List.getElem?_cons_zero]; rfl) (fun K hK => ?_) AllReadyH.nil
     go_simp
     try rw [hw10]
     refine hK.out _ _ trivial (fun hHeld2 => ?_)
     clear hK K hHeld
     have hHeld := hHeld2
     clear hHeld2
     try simp only [Act.put, List.setIfInBounds_toArray, List.set_cons_zero, List.set_cons_succ]
     refine wpAnyH_done (by kernel_rfl) ?_ _
     have HE := Lib.hid (done_end HD.out.1 HD.out.2 HQ.out.1 HQ.out.2.1 HQ.out.2.2.1 HQ.out.2.2.2)
     have f4 := HE.out.2.1.free 4
     have z4 := (mcells_at HE.out.2.1).2.2.2.2.1
     clear f93 hw10
     go_wp2_with fail
     all_goals (go_ret; exact ⟨rfl, done_out H5.out.2 (HE.out.1 _ rfl)⟩)
   · skip
     go_simp
     refine hK.out _ _ trivial (fun hHeld2 => ?_)
     clear hK K hHeld
     have hHeld := hHeld2
     clear hHeld2
     try simp only [Act.put, List.setIfInBounds_toArray, List.set_cons_zero, List.set_cons_succ]
     refine wpAnyH_ready (rs := [4]) (by kernel_rfl) (by simp) ?_
     refine AllReadyH.cons (by simp only [List.getElem?_toArray, List.getElem?_cons_succ, List.getElem?_cons_zero]; rfl) (fun K hK => ?_) AllReadyH.nil
     go_simp
     refine hK.out _ _ trivial (fun hHeld2 => ?_)
     clear hK K hHeld
     have hHeld := hHeld2
     clear hHeld2
     try simp only [Act.put, List.setIfInBounds_toArray, List.set_cons_zero, List.set_cons_succ]
     refine wpAnyH_take (i := 9) (v := ?vd11_9) (by simp only [List.getElem?_toArray, List.getElem?_cons_succ, List.getElem?_cons_zero]; rfl) (by kernel_rfl) (by kernel_rfl) (by kernel_rfl) (by exact fun _ _ _ h => h) (Or.inl ⟨by rfl, ?hd11_9⟩) hHeld ?_
     case hd11_9 => (intro w' _; go_simp <;> with_reducible rfl)
     try simp only [Act.put, List.setIfInBounds_toArray, List.set_cons_zero, List.set_cons_succ]
     refine wpAnyH_ready (rs := [10]) (by kernel_rfl) (by simp) ?_
     refine AllReadyH.cons (by simp only [List.getElem?_toArray, List.getElem?_cons_succ, List.getElem?_cons_zero]; rfl) (fun K hK => ?_) AllReadyH.nil
     go_simp
     refine (clone_int _ _ _ _ _ HC.out.1 HC.out.2.1 HC.out.2.2.1 HC.out.2.2.2).mono ?_
     rintro e w9 ⟨⟨v9, rfl, ho9⟩, hb9⟩
     obtain ⟨A9, c9, rfl⟩ := own_shape ho9
     have hB9 := (HD.out.1.bx.drew).next hb9 HD.out.1.bx.lt
     have f93 := hB9.free 3
     have z93 := (mcells_at hB9).2.2.2.1
     obtain ⟨w10, hw10⟩ : ∃ w10, w9.setCell ⟨mb, 3, none⟩ (.slice A9 (q - n) c9) = w10 := ⟨_, rfl⟩
     have HQ := Lib.hid (And.intro ho9 (And.intro hb9 (And.intro hB9 hw10)))
     clear ho9 hb9 hB9
     go_simp
     refine hK.out _ _ trivial (fun hHeld2 => ?_)
     clear hK K hHeld
     have hHeld := hHeld2
     clear hHeld2
     try simp only [Act.put, List.setIfInBounds_toArray, List.set_cons_zero, List.set_cons_succ]
     refine wpAnyH_take (i := 11) (v := ?vd12_11) (by simp only [List.getElem?_toArray, List.getElem?_cons_succ, List.getElem?_cons_zero]; rfl) (by kernel_rfl) (by kernel_rfl) (by kernel_rfl) (by exact fun _ _ _ h => h) (Or.inl ⟨by rfl, ?hd12_11⟩) hHeld ?_
     case hd12_11 => (intro w' _; go_simp <;> with_reducible rfl)
     try simp only [Act.put, List.setIfInBounds_toArray, List.set_cons_zero, List.set_cons_succ]
     refine wpAnyH_take (i := 12) (v := ?vd13_12) (by simp only [List.getElem?_toArray, List.getElem?_cons_succ, List.getElem?_cons_zero]; rfl) (by kernel_rfl) (by kernel_rfl) (by kernel_rfl) (by exact fun _ _ _ h => h) (Or.inl ⟨by rfl, ?hd13_12⟩) hHeld ?_
     case hd13_12 => (intro w' _; go_simp <;> with_reducible rfl)
     try simp only [Act.put, List.setIfInBounds_toArray, List.set_cons_zero, List.set_cons_succ]
     refine wpAnyH_ready (rs := [13]) (by kernel_rfl) (by simp) ?_
     refine AllReadyH.cons (by simp only [List.getElem?_toArray, List.getElem?_cons_succ, List.getElem?_cons_zero]; rfl) (fun K hK => ?_) AllReadyH.nil
     go_simp
     try rw [hw10]
     refine hK.out _ _ trivial (fun hHeld2 => ?_)
     clear hK K hHeld
     have hHeld := hHeld2
     clear hHeld2
     try simp only [Act.put, List.setIfInBounds_toArray, List.set_cons_zero, List.set_cons_succ]
     refine wpAnyH_done (by kernel_rfl) ?_ _
     have HE := Lib.hid (done_end HD.out.1 HD.out.2 HQ.out.1 HQ.out.2.1 HQ.out.2.2.1 HQ.out.2.2.2)
     have f4 := HE.out.2.1.free 4
     have z4 := (mcells_at HE.out.2.1).2.2.2.2.1
     clear f93 hw10
     go_wp2_with fail
     all_goals (go_ret; exact ⟨rfl, done_out H5.out.2 (HE.out.1 _ rfl)⟩)
end
section
open Go.RowKit Go.Maps
structure BR where
 A : Option Addr
 c : Nat
 bs : List Int
def BR.cell (x : BR) : Value := .slice x.A 64 x.c
structure RowY (w : World) (B : Nat) (v : Value) (xs : List BR) : Prop where
 own : w.ownsRow B 47 1 v xs.length (xs.map BR.cell)
 y : ∀ x ∈ xs, IsY w x.A 64 x.c x.bs
structure EnX (w wr : World) (ov bv : Value) (xs : List BR) (bs : List Int) : Prop where
 bel : Below w.heap.size w wr
 row : RowY wr w.heap.size ov xs
 body : Byt wr w.heap.size bv bs
 away : ∀ x ∈ xs, ∀ ad, x.A = some ad → bv.ownBlock ≠ some ad.block
section
variable {w wr w' w9 : World} {ov bv v' : Value} {xs : List BR} {bs : List Int}
theorem EnX.next (h : EnX w wr ov bv xs bs) (hb : Below wr.heap.size wr w') : EnX w w' ov bv xs bs :=
 ⟨h.bel.trans (hb.mono h.bel.size), ⟨own_bel' h.row.own hb, fun x hx => (h.row.y x hx).ag (F := fun _ => True) (.of_below hb)⟩, h.body.next hb, h.away⟩
theorem EnX.out (h : EnX w wr ov bv xs bs) (hb : Below wr.heap.size wr w9) {u : Value} {ys : List Int} (hu : Byt w9 wr.heap.size u ys) (hl : ys.length = 64) {A : Option Addr} {c : Nat} (he : u = .slice A 64 c) (hO : w'.ownsRow w.heap.size 47 1 v' (xs.length + 1) (xs.map BR.cell ++ [.slice A 64 c])) (hG : w9.grownBy w' ov.ownBlock) :
  EnX w w' v' bv (xs ++ [⟨A, c, ys⟩]) bs := by
 have h9 := h.next hb
 have ag : Ag (fun _ => False) w9 w' := Ag.grown h9.row.own (by decide) hG (fun _ _ q => q)
 have hbel : Below w.heap.size w w' := h9.bel.grown hG h9.bel.size (fun g e => own_at_ge h9.row.own e)
 refine ⟨hbel, ⟨?_, fun x hx => ?_⟩, h9.body.ag ag, fun x hx ad q => ?_⟩
 · rw [List.length_append, List.map_append]; exact hO
 · rcases List.mem_append.1 hx with s | s
   · exact (h9.row.y x s).ag ag
   · obtain rfl : x = _ := by simpa using s
     obtain ⟨A', c', e, hy⟩ := hu.isY
     rw [he, hl] at e
     injection e with e1 e2 e3
     subst e1 e3
     rw [hl] at hy
     exact hy.ag ag
 · rcases List.mem_append.1 hx with s | s
   · exact h.away x s ad q
   · obtain rfl : x = _ := by simpa using s
     intro e
     have q : A = some ad := q
     have h1 := own_at_ge (g := ad.block) hu.1 (by rw [he, q]; rfl)
     obtain ⟨_, _, hh⟩ := own_at h.body.1 e
     have := lt_of hh
     omega
theorem EnX.more (h : EnX w wr ov bv xs bs) (hb : Below wr.heap.size wr w9) {ys : List Int} (hO : w'.ownsRow w.heap.size 5 1 v' (bs.length + ys.length) (bs.map (Value.int .u8) ++ ys.map (Value.int .u8))) (hw : ∀ x ∈ ys, 0 ≤ x ∧ x < 256) (hG : w9.grownBy w' bv.ownBlock) (hv : v'.ownBlock = bv.ownBlock ∨ v'.ownBlock = some w9.heap.size) :
  EnX w w' ov v' xs (bs ++ ys) := by
 have h9 := h.next hb
 have hbel : Below w.heap.size w w' := h9.bel.grown hG h9.bel.size (fun g e => own_at_ge h9.body.1 e)
 have hne : ∀ g, bv.ownBlock = some g → ov.ownBlock ≠ some g := fun g e => own_ne_own h9.body.1 h9.row.own (by decide) e
 have ky : ∀ x ∈ xs, IsY w' x.A 64 x.c x.bs := fun x hx => by
  cases hg : bv.ownBlock with
  | none => rw [hg] at hG; exact (h9.row.y x hx).ag (F := fun _ => True) ⟨hG.size, fun b ob hb' _ => (hG.block b (lt_of hb') (fun q => by cases q)).trans hb'⟩
  | some g => rw [hg] at hG; exact (h9.row.y x hx).but hG (fun ad q e => h9.away x hx ad q (by rw [hg, e]))
 have ko : w'.ownsRow w.heap.size 47 1 ov xs.length (xs.map BR.cell) := by
  cases hg : bv.ownBlock with
  | none => rw [hg] at hG; exact own_ag (F := fun _ => True) h9.row.own ⟨hG.size, fun b ob hb' _ => (hG.block b (lt_of hb') (fun q => by cases q)).trans hb'⟩ (fun _ _ => trivial)
  | some g => rw [hg] at hG; exact own_but h9.row.own hG (fun g' e q => hne g hg (q ▸ e))
 refine ⟨hbel, ⟨ko, ky⟩, ⟨?_, fun x hx => ?_⟩, fun x hx ad q e => ?_⟩
 · rw [List.length_append, List.map_append]; exact hO
 · rcases List.mem_append.1 hx with s | s
   · exact h.body.2 x s
   · exact hw x s
 · rcases hv with s | s
   · exact h.away x hx ad q (s.symm.trans e)
   · rw [s] at e
     injection e with e
     obtain ⟨ob, ho, _⟩ := (h9.row.y x hx).y ad q (by decide)
     have := lt_of ho
     omega
end
theorem nsum_step {ts : List TxD} {k : Nat} (hk : k < ts.length) {x : TxD} (hx : ts[k] = x) : ((ts.take (k + 1)).map (·.n)).sum = ((ts.take k).map (·.n)).sum + x.n := by rw [nsum_take hk, hx]
theorem nsum_le (ts : List TxD) (k : Nat) : ((ts.take k).map (·.n)).sum ≤ (ts.map (·.n)).sum := by
 induction ts generalizing k with
 | nil => simp
 | cons x ts ih => cases k with
   | zero => simp
   | succ k => simp only [List.take_succ_cons, List.map_cons, List.sum_cons]; have := ih k; omega
theorem infoRB0 : (Tryz.prog.info? 47).map (fun i => (i.size, i.bytes, i.zero.map (·.cells.size))) = some (1, 24, some 1) := by kernel_rfl
theorem infoRB : ∃ i z, Tryz.prog.info? 47 = some i ∧ i.zero = some z ∧ i.size = 1 ∧ i.bytes = 24 ∧ z.cells.size = 1 := by
 have h := infoRB0
 cases hi : Tryz.prog.info? 47 with
 | none => rw [hi] at h; cases h
 | some i =>
   rw [hi] at h
   simp at h
   obtain ⟨h1, h2, z, hz, h3⟩ := h
   exact ⟨i, z, rfl, hz, h1, h2, h3⟩
theorem u8_one (x : Int) : ∀ z ∈ [IntKind.u8.wrap x], 0 ≤ z ∧ z < 256 := by
 intro z hz
 simp at hz
 subst hz; exact u8_wrap _
theorem byt_more {w w' : World} {B C : Nat} {v v' : Value} {bs : List Int} {x : Int} (h : Byt w C v bs) (_ : C ≤ C) (hO : w'.ownsRow B 5 1 v' (bs.length + 1) (bs.map (Value.int .u8) ++ [.int .u8 (IntKind.u8.wrap x)])) : Byt w' B v' (bs ++ [IntKind.u8.wrap x]) ∧ (bs ++ [IntKind.u8.wrap x]).length = bs.length + 1 :=
 ⟨⟨by rw [List.length_append, List.map_append]; exact hO, fun z hz => (List.mem_append.1 hz).elim (h.2 z) (u8_one x z)⟩, by simp⟩
theorem RowY.base {w : World} {B C : Nat} {v : Value} {xs : List BR} (h : RowY w C v xs) (hB : B ≤ C) : RowY w B v xs := ⟨ownsRow_base_a h.own hB, h.y⟩
def loopsIn : Code → List Code
 | .loop c => [c]
 | .seq a b => loopsIn a ++ loopsIn b
 | .block _ c => loopsIn c
 | .scope c => loopsIn c
 | .cond _ a b => loopsIn a ++ loopsIn b
 | _ => []
noncomputable def loopAt (f : Func) (i : Nat) : Code := ((f.body.map loopsIn).getD []).getD i .skip
noncomputable def loopAt2 (f : Func) (i j : Nat) : Code := (loopsIn (loopAt f i)).getD j .skip
theorem en_num {k n : Nat} (h : k < n) (hn : n ≤ 100) : (k : Int) < (n : Int) ∧ (0 : Int) ≤ (k : Int) ∧ wrap64 ((k : Int) + 1) = (k : Int) + 1 := ⟨by omega, by omega, by unfold wrap64; omega⟩
theorem own_len' {w : World} {B e s n q : Nat} {v : Value} {xs : List Value} (e' : n = q) (h : w.ownsRow B e s v n xs) : w.ownsRow B e s v q xs := e' ▸ h
end
section
open Go.RowKit Go.Maps
theorem cells_two {w : World} {g t : Nat} {a b : Value} (h : Bk w g t [a, b]) : w.cell? ⟨g, 0, none⟩ = some a ∧ w.cell? ⟨g, 1, none⟩ = some b := ⟨h.cell (i := 0) (by simp), h.cell (i := 1) (by simp)⟩
theorem en_seq {num : Int} (h : 1 ≤ num ∧ num ≤ 1000) : 0 ≤ num ∧ num ≤ 1099511627776 := by omega
theorem en_lba {x : Int} (h1 : 0 ≤ x) (h2 : x < 258) : 0 ≤ x ∧ x ≤ 1048576 := by omega
theorem en_y {a S j xn : Nat} (h : a = S + j) (hS : S ≤ 32) (hlt : j < xn) (hx : xn ≤ 16) : a ≤ 1000000 := by omega
def EII (w6 : World) (g gx xn xc : Nat) (xA : Option Addr) (ep T : Int) (bs : List Int) (S : Nat) (c0 c3 c5 c6 c7 c8 c9 c11 c15 c16 c17 c18 c19 c20 c21 c22 c23 c24 c25 c26 c27 c28 c29 c30 c31 c32 c33 c34 c35 c36 c37 c38 c39 c40 c41 c42 c43 c44 c45 c46 c47 c48 c49 c50 c51 c52 c53 c77 c78 c79 c80 c81 c82 c83 c84 c85 c86 c87 c88 c89 c90 c91 c92 c93 c94 c95 c96 c97 c98 c99 c100 c101 c102 c103 c104 c105 c106 c107 c108 c109 c110 c111 c112 c113 c114 c115 c116 c117 c118 c119 c120 c121 : Value) (a : Act) (wr : World) : Prop :=
 ∃ u4 u12 u13 u14 u56 u57 u58 u59 u60 u61 u62 u63 u64 u65 u66 u67 u68 u69 u70 u71 u72 u73 u74 u75 u76 : Value, (∃ (j : Nat) (ys : List BR), j ≤ xn ∧ u56 = .int .i64 (j : Int) ∧ Bk wr gx 182 [.int .i64 T, .slice xA xn xc] ∧ EnX w6 wr u4 c7 ys bs ∧ ys.length = S + j) ∧ a = ⟨#[c0, .int .i64 ep, .pointer (some ⟨g, 0, none⟩), c3, u4, c5, c6, c7, c8, c9, .pointer (some ⟨gx, 0, none⟩), c11, u12, u13, u14, c15, c16, c17, c18, c19, c20, c21, c22, c23, c24, c25, c26, c27, c28, c29, c30, c31, c32, c33, c34, c35, c36, c37, c38, c39, c40, c41, c42, c43, c44, c45, c46, c47, c48, c49, c50, c51, c52, c53, .slice xA xn xc, .int .i64 (xn : Int), u56, u57, u58, u59, u60, u61, u62, u63, u64, u65, u66, u67, u68, u69, u70, u71, u72, u73, u74, u75, u76, c77, c78, c79, c80, c81, c82, c83, c84, c85, c86, c87, c88, c89, c90, c91, c92, c93, c94, c95, c96, c97, c98, c99, c100, c101, c102, c103, c104, c105, c106, c107, c108, c109, c110, c111, c112, c113, c114, c115, c116, c117, c118, c119, c120, c121], []⟩
theorem EII.mk {w6 wr : World} {g gx xn xc : Nat} {xA : Option Addr} {ep T : Int} {bs : List Int} {S : Nat} {c0 c3 c5 c6 c7 c8 c9 c11 c15 c16 c17 c18 c19 c20 c21 c22 c23 c24 c25 c26 c27 c28 c29 c30 c31 c32 c33 c34 c35 c36 c37 c38 c39 c40 c41 c42 c43 c44 c45 c46 c47 c48 c49 c50 c51 c52 c53 c77 c78 c79 c80 c81 c82 c83 c84 c85 c86 c87 c88 c89 c90 c91 c92 c93 c94 c95 c96 c97 c98 c99 c100 c101 c102 c103 c104 c105 c106 c107 c108 c109 c110 c111 c112 c113 c114 c115 c116 c117 c118 c119 c120 c121 : Value} {u4 u12 u13 u14 u56 u57 u58 u59 u60 u61 u62 u63 u64 u65 u66 u67 u68 u69 u70 u71 u72 u73 u74 u75 u76 : Value} (h : ∃ (j : Nat) (ys : List BR), j ≤ xn ∧ u56 = .int .i64 (j : Int) ∧ Bk wr gx 182 [.int .i64 T, .slice xA xn xc] ∧ EnX w6 wr u4 c7 ys bs ∧ ys.length = S + j) : EII w6 g gx xn xc xA ep T bs S c0 c3 c5 c6 c7 c8 c9 c11 c15 c16 c17 c18 c19 c20 c21 c22 c23 c24 c25 c26 c27 c28 c29 c30 c31 c32 c33 c34 c35 c36 c37 c38 c39 c40 c41 c42 c43 c44 c45 c46 c47 c48 c49 c50 c51 c52 c53 c77 c78 c79 c80 c81 c82 c83 c84 c85 c86 c87 c88 c89 c90 c91 c92 c93 c94 c95 c96 c97 c98 c99 c100 c101 c102 c103 c104 c105 c106 c107 c108 c109 c110 c111 c112 c113 c114 c115 c116 c117 c118 c119 c120 c121 ⟨#[c0, .int .i64 ep, .pointer (some ⟨g, 0, none⟩), c3, u4, c5, c6, c7, c8, c9, .pointer (some ⟨gx, 0, none⟩), c11, u12, u13, u14, c15, c16, c17, c18, c19, c20, c21, c22, c23, c24, c25, c26, c27, c28, c29, c30, c31, c32, c33, c34, c35, c36, c37, c38, c39, c40, c41, c42, c43, c44, c45, c46, c47, c48, c49, c50, c51, c52, c53, .slice xA xn xc, .int .i64 (xn : Int), u56, u57, u58, u59, u60, u61, u62, u63, u64, u65, u66, u67, u68, u69, u70, u71, u72, u73, u74, u75, u76, c77, c78, c79, c80, c81, c82, c83, c84, c85, c86, c87, c88, c89, c90, c91, c92, c93, c94, c95, c96, c97, c98, c99, c100, c101, c102, c103, c104, c105, c106, c107, c108, c109, c110, c111, c112, c113, c114, c115, c116, c117, c118, c119, c120, c121], []⟩ wr := ⟨u4, u12, u13, u14, u56, u57, u58, u59, u60, u61, u62, u63, u64, u65, u66, u67, u68, u69, u70, u71, u72, u73, u74, u75, u76, h, rfl⟩
def eimu (n : Nat) (a : Act) (_ : World) : Nat := n - (intOf (a.tmps.getD 56 undef)).toNat
theorem eimu_eq {xn g gx xc : Nat} {xA : Option Addr} {ep : Int} {w : World} {x : Int} {c0 c3 c5 c6 c7 c8 c9 c11 c15 c16 c17 c18 c19 c20 c21 c22 c23 c24 c25 c26 c27 c28 c29 c30 c31 c32 c33 c34 c35 c36 c37 c38 c39 c40 c41 c42 c43 c44 c45 c46 c47 c48 c49 c50 c51 c52 c53 c77 c78 c79 c80 c81 c82 c83 c84 c85 c86 c87 c88 c89 c90 c91 c92 c93 c94 c95 c96 c97 c98 c99 c100 c101 c102 c103 c104 c105 c106 c107 c108 c109 c110 c111 c112 c113 c114 c115 c116 c117 c118 c119 c120 c121 u4 u12 u13 u14 u57 u58 u59 u60 u61 u62 u63 u64 u65 u66 u67 u68 u69 u70 u71 u72 u73 u74 u75 u76 : Value} : eimu xn ⟨#[c0, .int .i64 ep, .pointer (some ⟨g, 0, none⟩), c3, u4, c5, c6, c7, c8, c9, .pointer (some ⟨gx, 0, none⟩), c11, u12, u13, u14, c15, c16, c17, c18, c19, c20, c21, c22, c23, c24, c25, c26, c27, c28, c29, c30, c31, c32, c33, c34, c35, c36, c37, c38, c39, c40, c41, c42, c43, c44, c45, c46, c47, c48, c49, c50, c51, c52, c53, .slice xA xn xc, .int .i64 (xn : Int), .int .i64 x, u57, u58, u59, u60, u61, u62, u63, u64, u65, u66, u67, u68, u69, u70, u71, u72, u73, u74, u75, u76, c77, c78, c79, c80, c81, c82, c83, c84, c85, c86, c87, c88, c89, c90, c91, c92, c93, c94, c95, c96, c97, c98, c99, c100, c101, c102, c103, c104, c105, c106, c107, c108, c109, c110, c111, c112, c113, c114, c115, c116, c117, c118, c119, c120, c121], []⟩ w = xn - x.toNat := rfl
theorem ei_round (w6 wr : World) (g gx xn xc c : Nat) (A xA : Option Addr) (n : Nat) (ep num T : Int) (bs : List Int) (S j : Nat) (ps : List PutD) (ys : List BR) (c0 c3 c5 c6 c7 c8 c9 c11 c15 c16 c17 c18 c19 c20 c21 c22 c23 c24 c25 c26 c27 c28 c29 c30 c31 c32 c33 c34 c35 c36 c37 c38 c39 c40 c41 c42 c43 c44 c45 c46 c47 c48 c49 c50 c51 c52 c53 c77 c78 c79 c80 c81 c82 c83 c84 c85 c86 c87 c88 c89 c90 c91 c92 c93 c94 c95 c96 c97 c98 c99 c100 c101 c102 c103 c104 c105 c106 c107 c108 c109 c110 c111 c112 c113 c114 c115 c116 c117 c118 c119 c120 c121 u4 u12 u13 u14 u57 u58 u59 u60 u61 u62 u63 u64 u65 u66 u67 u68 u69 u70 u71 u72 u73 u74 u75 u76 : Value) (Q0 : Exit → Act → World → Prop)
  (hB : Bk w6 g 101 [.int .i64 num, .slice A n c]) (hps : IsPs w6 xA xn xc ps) (hpo : ∀ p ∈ ps, 0 ≤ p.lba ∧ p.lba < 258 ∧ p.n = 40) (hnum : 1 ≤ num ∧ num ≤ 1000) (hep : 0 ≤ ep ∧ ep ≤ 4294967295) (hx16 : xn ≤ 16) (hS : S ≤ 32)
  (hT : Bk wr gx 182 [.int .i64 T, .slice xA xn xc]) (hE : EnX w6 wr u4 c7 ys bs) (hl : ys.length = S + j) (hlt : j < xn) :
  Code.wp Tryz.prog (loopAt2 Tryz.f91 0 0) (Exit.then (fun a' w'' => EII w6 g gx xn xc xA ep T bs S c0 c3 c5 c6 c7 c8 c9 c11 c15 c16 c17 c18 c19 c20 c21 c22 c23 c24 c25 c26 c27 c28 c29 c30 c31 c32 c33 c34 c35 c36 c37 c38 c39 c40 c41 c42 c43 c44 c45 c46 c47 c48 c49 c50 c51 c52 c53 c77 c78 c79 c80 c81 c82 c83 c84 c85 c86 c87 c88 c89 c90 c91 c92 c93 c94 c95 c96 c97 c98 c99 c100 c101 c102 c103 c104 c105 c106 c107 c108 c109 c110 c111 c112 c113 c114 c115 c116 c117 c118 c119 c120 c121 a' w'' ∧ eimu xn a' w'' < eimu xn ⟨#[c0, .int .i64 ep, .pointer (some ⟨g, 0, none⟩), c3, u4, c5, c6, c7, c8, c9, .pointer (some ⟨gx, 0, none⟩), c11, u12, u13, u14, c15, c16, c17, c18, c19, c20, c21, c22, c23, c24, c25, c26, c27, c28, c29, c30, c31, c32, c33, c34, c35, c36, c37, c38, c39, c40, c41, c42, c43, c44, c45, c46, c47, c48, c49, c50, c51, c52, c53, .slice xA xn xc, .int .i64 (xn : Int), .int .i64 (j : Int), u57, u58, u59, u60, u61, u62, u63, u64, u65, u66, u67, u68, u69, u70, u71, u72, u73, u74, u75, u76, c77, c78, c79, c80, c81, c82, c83, c84, c85, c86, c87, c88, c89, c90, c91, c92, c93, c94, c95, c96, c97, c98, c99, c100, c101, c102, c103, c104, c105, c106, c107, c108, c109, c110, c111, c112, c113, c114, c115, c116, c117, c118, c119, c120, c121], []⟩ wr) Q0) ⟨#[c0, .int .i64 ep, .pointer (some ⟨g, 0, none⟩), c3, u4, c5, c6, c7, c8, c9, .pointer (some ⟨gx, 0, none⟩), c11, u12, u13, u14, c15, c16, c17, c18, c19, c20, c21, c22, c23, c24, c25, c26, c27, c28, c29, c30, c31, c32, c33, c34, c35, c36, c37, c38, c39, c40, c41, c42, c43, c44, c45, c46, c47, c48, c49, c50, c51, c52, c53, .slice xA xn xc, .int .i64 (xn : Int), .int .i64 (j : Int), u57, u58, u59, u60, u61, u62, u63, u64, u65, u66, u67, u68, u69, u70, u71, u72, u73, u74, u75, u76, c77, c78, c79, c80, c81, c82, c83, c84, c85, c86, c87, c88, c89, c90, c91, c92, c93, c94, c95, c96, c97, c98, c99, c100, c101, c102, c103, c104, c105, c106, c107, c108, c109, c110, c111, c112, c113, c114, c115, c116, c117, c118, c119, c120, c121], []⟩ wr := by
 obtain ⟨xi, xz, hxi, hxz, hx5, hx56, hxc⟩ := infoRB
 have hpr := hps.next hE.bel
 obtain ⟨x, hx⟩ : ∃ p, ps[j]'(by have := hps.len; omega) = p := ⟨_, rfl⟩
 have hmx : x ∈ ps := by rw [← hx]; exact List.getElem_mem _
 obtain ⟨h1, h2, h40⟩ := hpo x hmx
 obtain ⟨adx, eAx, hadx, e0, e1⟩ := two_get put_two hpr.rd (k := j) (by have := hps.len; omega) (u := .int .i64 x.lba) (v := .slice x.A x.n x.c) (by rw [hx]; rfl)
 subst eAx
 rw [h40] at e1
 obtain ⟨wB, hwB⟩ : ∃ wB, wr.alloc (.cells #[.int .i64 x.lba, .slice x.A 40 x.c] 50) = wB := ⟨_, rfl⟩
 have hBB : Bk wB wr.heap.size 50 [.int .i64 x.lba, .slice x.A 40 x.c] := by rw [← hwB]; exact Bk.new wr _ _
 have hbB : Below wr.heap.size wr wB := by rw [← hwB]; exact (Below.refl _ _).alloc (Nat.le_refl _) _
 obtain ⟨d0, d1⟩ := hBB.c2
 obtain ⟨q0, _⟩ := cells_two (hB.next (hE.bel.trans (hbB.mono hE.bel.size)) hB.lt)
 have hxy := (hpr.y x hmx).ag (F := fun _ => True) (.of_below hbB)
 rw [h40] at hxy
 have hen := encode_any 1 ep num x.lba x.A 40 x.c x.bs wB (by decide) hep (en_seq hnum) (en_lba h1 h2) hxy.b (Nat.le_refl _)
 obtain ⟨n1, n2, m2⟩ := en_num hlt (by omega)
 obtain ⟨vA, vc, rfl⟩ := own_shape hE.row.own
 have hy5 := en_y hl hS hlt hx16
 have HE := Lib.hid (And.intro hE (And.intro hl (And.intro hlt (And.intro hbB hT))))
 clear hB hps hpo hnum hep hT hE hl hlt hpr hx hmx h1 h2 h40 hadx hBB hbB hxy hx16 hS
 conv => arg 2; whnf
 go_wp2_with fail
 refine hen.mono ?_
 rintro e wC ⟨⟨v, b2, rfl, hby, hl64⟩, hbC⟩
 obtain ⟨zA, zc, rfl⟩ := own_shape (own_len' hl64 hby.1)
 obtain ⟨wD, hwD⟩ : ∃ wD, wC.alloc (.cells #[.slice zA 64 zc] 47) = wD := ⟨_, rfl⟩
 have hBD : Bk wD wC.heap.size 47 [.slice zA 64 zc] := by rw [← hwD]; exact Bk.new wC _ _
 have hbD : Below wC.heap.size wC wD := by rw [← hwD]; exact (Below.refl _ _).alloc (Nat.le_refl _) _
 have hrD : Below wr.heap.size wr wD := (HE.out.2.2.2.1.trans (hbC.mono HE.out.2.2.2.1.size)).trans (hbD.mono (Nat.le_trans HE.out.2.2.2.1.size hbC.size))
 have HD := Lib.hid (And.intro hBD (And.intro hrD (And.intro ((hby.next hbD).base HE.out.2.2.2.1.size) (And.intro hl64 (HE.out.1.next hrD)))))
 clear hen hby hl64 hbC hBD hbD hrD
 go_wp2_with (at_builtin; go_must (refine wpList_appS _ rfl _ _ 144 rfl w6.heap.size 47 xi xz 1 24 Tryz.underlying144 hxi hxz hx5 hx56 hxc (by decide) _ _ _ (by rfl) (by exact HD.out.2.2.2.2.row.own) _ [.slice zA 64 zc] (by rfl) (by exact HD.out.1) rfl (by intro u hu; simp at hu; rcases hu with rfl <;> rfl) (by exact hy5) (by decide) (by exact HD.out.2.2.2.2.bel.size) ?_); intro v9 w9 hO9 hG9 hv9; obtain ⟨sA, sc, rfl⟩ := own_shape hO9)
 have hG9' : wD.grownBy w9 (Value.slice vA ys.length vc).ownBlock := hG9
 have hTD := HE.out.2.2.2.2.next HD.out.2.1 HE.out.2.2.2.2.lt
 have HZ := Lib.hid (And.intro (EnX.out HE.out.1 HD.out.2.1 HD.out.2.2.1 HD.out.2.2.2.1 rfl hO9 hG9') (bk_but' hTD hG9' (own_ne_bk HD.out.2.2.2.2.row.own hTD (by decide))))
 clear hO9 hG9 hG9' hv9 hTD e0 e1 d0 d1 q0
 go_wp2_with fail
 refine ⟨?_, ?_⟩
 · refine EII.mk ?_
   exact ⟨j + 1, _, HE.out.2.2.1, int_succ (by first | rfl | exact m2), HZ.out.2, HZ.out.1, by rw [List.length_append, HE.out.2.1]; rfl⟩
 · rw [eimu_eq, eimu_eq]
   exact sub_lt1 HE.out.2.2.1 (by first | rfl | exact m2)
end
section
open Go.RowKit Go.Maps
theorem ei_end (g gx xn xc j : Nat) (xA : Option Addr) (ep : Int) (w'' : World) (c0 c3 c5 c6 c7 c8 c9 c11 c15 c16 c17 c18 c19 c20 c21 c22 c23 c24 c25 c26 c27 c28 c29 c30 c31 c32 c33 c34 c35 c36 c37 c38 c39 c40 c41 c42 c43 c44 c45 c46 c47 c48 c49 c50 c51 c52 c53 c77 c78 c79 c80 c81 c82 c83 c84 c85 c86 c87 c88 c89 c90 c91 c92 c93 c94 c95 c96 c97 c98 c99 c100 c101 c102 c103 c104 c105 c106 c107 c108 c109 c110 c111 c112 c113 c114 c115 c116 c117 c118 c119 c120 c121 u4 u12 u13 u14 u57 u58 u59 u60 u61 u62 u63 u64 u65 u66 u67 u68 u69 u70 u71 u72 u73 u74 u75 u76 : Value) (Q : Exit → Act → World → Prop) (hk : j = xn) (h : ∀ u57 : Value, Q (.exit 2) ⟨#[c0, .int .i64 ep, .pointer (some ⟨g, 0, none⟩), c3, u4, c5, c6, c7, c8, c9, .pointer (some ⟨gx, 0, none⟩), c11, u12, u13, u14, c15, c16, c17, c18, c19, c20, c21, c22, c23, c24, c25, c26, c27, c28, c29, c30, c31, c32, c33, c34, c35, c36, c37, c38, c39, c40, c41, c42, c43, c44, c45, c46, c47, c48, c49, c50, c51, c52, c53, .slice xA xn xc, .int .i64 (xn : Int), .int .i64 (j : Int), u57, u58, u59, u60, u61, u62, u63, u64, u65, u66, u67, u68, u69, u70, u71, u72, u73, u74, u75, u76, c77, c78, c79, c80, c81, c82, c83, c84, c85, c86, c87, c88, c89, c90, c91, c92, c93, c94, c95, c96, c97, c98, c99, c100, c101, c102, c103, c104, c105, c106, c107, c108, c109, c110, c111, c112, c113, c114, c115, c116, c117, c118, c119, c120, c121], []⟩ w'') :
  Code.wp Tryz.prog (loopAt2 Tryz.f91 0 0) Q ⟨#[c0, .int .i64 ep, .pointer (some ⟨g, 0, none⟩), c3, u4, c5, c6, c7, c8, c9, .pointer (some ⟨gx, 0, none⟩), c11, u12, u13, u14, c15, c16, c17, c18, c19, c20, c21, c22, c23, c24, c25, c26, c27, c28, c29, c30, c31, c32, c33, c34, c35, c36, c37, c38, c39, c40, c41, c42, c43, c44, c45, c46, c47, c48, c49, c50, c51, c52, c53, .slice xA xn xc, .int .i64 (xn : Int), .int .i64 (j : Int), u57, u58, u59, u60, u61, u62, u63, u64, u65, u66, u67, u68, u69, u70, u71, u72, u73, u74, u75, u76, c77, c78, c79, c80, c81, c82, c83, c84, c85, c86, c87, c88, c89, c90, c91, c92, c93, c94, c95, c96, c97, c98, c99, c100, c101, c102, c103, c104, c105, c106, c107, c108, c109, c110, c111, c112, c113, c114, c115, c116, c117, c118, c119, c120, c121], []⟩ w'' := by
 subst hk
 have n0 : ¬ (j : Int) < (j : Int) := Int.lt_irrefl _
 conv => arg 2; whnf
 go_wp2_with fail
 exact h _
theorem ei_loop (w6 wr : World) (g gx xn xc c : Nat) (A xA : Option Addr) (n : Nat) (ep num T : Int) (bs : List Int) (S : Nat) (ps : List PutD) (c0 c3 c5 c6 c7 c8 c9 c11 c15 c16 c17 c18 c19 c20 c21 c22 c23 c24 c25 c26 c27 c28 c29 c30 c31 c32 c33 c34 c35 c36 c37 c38 c39 c40 c41 c42 c43 c44 c45 c46 c47 c48 c49 c50 c51 c52 c53 c77 c78 c79 c80 c81 c82 c83 c84 c85 c86 c87 c88 c89 c90 c91 c92 c93 c94 c95 c96 c97 c98 c99 c100 c101 c102 c103 c104 c105 c106 c107 c108 c109 c110 c111 c112 c113 c114 c115 c116 c117 c118 c119 c120 c121 u4 u12 u13 u14 u56 u57 u58 u59 u60 u61 u62 u63 u64 u65 u66 u67 u68 u69 u70 u71 u72 u73 u74 u75 u76 : Value) (Q0 : Exit → Act → World → Prop)
  (hB : Bk w6 g 101 [.int .i64 num, .slice A n c]) (hps : IsPs w6 xA xn xc ps) (hpo : ∀ p ∈ ps, 0 ≤ p.lba ∧ p.lba < 258 ∧ p.n = 40) (hnum : 1 ≤ num ∧ num ≤ 1000) (hep : 0 ≤ ep ∧ ep ≤ 4294967295) (hx16 : xn ≤ 16) (hS : S ≤ 32)
  (h0 : ∃ (j : Nat) (ys : List BR), j ≤ xn ∧ u56 = .int .i64 (j : Int) ∧ Bk wr gx 182 [.int .i64 T, .slice xA xn xc] ∧ EnX w6 wr u4 c7 ys bs ∧ ys.length = S + j)
  (hexit : ∀ (u4 u12 u13 u14 u56 u57 u58 u59 u60 u61 u62 u63 u64 u65 u66 u67 u68 u69 u70 u71 u72 u73 u74 u75 u76 : Value) (w' : World), (∃ ys : List BR, Bk w' gx 182 [.int .i64 T, .slice xA xn xc] ∧ EnX w6 w' u4 c7 ys bs ∧ ys.length = S + xn) → Q0 (.exit 2) ⟨#[c0, .int .i64 ep, .pointer (some ⟨g, 0, none⟩), c3, u4, c5, c6, c7, c8, c9, .pointer (some ⟨gx, 0, none⟩), c11, u12, u13, u14, c15, c16, c17, c18, c19, c20, c21, c22, c23, c24, c25, c26, c27, c28, c29, c30, c31, c32, c33, c34, c35, c36, c37, c38, c39, c40, c41, c42, c43, c44, c45, c46, c47, c48, c49, c50, c51, c52, c53, .slice xA xn xc, .int .i64 (xn : Int), u56, u57, u58, u59, u60, u61, u62, u63, u64, u65, u66, u67, u68, u69, u70, u71, u72, u73, u74, u75, u76, c77, c78, c79, c80, c81, c82, c83, c84, c85, c86, c87, c88, c89, c90, c91, c92, c93, c94, c95, c96, c97, c98, c99, c100, c101, c102, c103, c104, c105, c106, c107, c108, c109, c110, c111, c112, c113, c114, c115, c116, c117, c118, c119, c120, c121], []⟩ w') :
  Code.wp Tryz.prog (Code.loop (loopAt2 Tryz.f91 0 0)) Q0 ⟨#[c0, .int .i64 ep, .pointer (some ⟨g, 0, none⟩), c3, u4, c5, c6, c7, c8, c9, .pointer (some ⟨gx, 0, none⟩), c11, u12, u13, u14, c15, c16, c17, c18, c19, c20, c21, c22, c23, c24, c25, c26, c27, c28, c29, c30, c31, c32, c33, c34, c35, c36, c37, c38, c39, c40, c41, c42, c43, c44, c45, c46, c47, c48, c49, c50, c51, c52, c53, .slice xA xn xc, .int .i64 (xn : Int), u56, u57, u58, u59, u60, u61, u62, u63, u64, u65, u66, u67, u68, u69, u70, u71, u72, u73, u74, u75, u76, c77, c78, c79, c80, c81, c82, c83, c84, c85, c86, c87, c88, c89, c90, c91, c92, c93, c94, c95, c96, c97, c98, c99, c100, c101, c102, c103, c104, c105, c106, c107, c108, c109, c110, c111, c112, c113, c114, c115, c116, c117, c118, c119, c120, c121], []⟩ wr := by
 refine wp_loop (EII w6 g gx xn xc xA ep T bs S c0 c3 c5 c6 c7 c8 c9 c11 c15 c16 c17 c18 c19 c20 c21 c22 c23 c24 c25 c26 c27 c28 c29 c30 c31 c32 c33 c34 c35 c36 c37 c38 c39 c40 c41 c42 c43 c44 c45 c46 c47 c48 c49 c50 c51 c52 c53 c77 c78 c79 c80 c81 c82 c83 c84 c85 c86 c87 c88 c89 c90 c91 c92 c93 c94 c95 c96 c97 c98 c99 c100 c101 c102 c103 c104 c105 c106 c107 c108 c109 c110 c111 c112 c113 c114 c115 c116 c117 c118 c119 c120 c121) (eimu xn) (EII.mk h0) (fun a w'' hI => ?_)
 unfold EII at hI
 obtain ⟨v4, hI⟩ := hI
 obtain ⟨v12, hI⟩ := hI
 obtain ⟨v13, hI⟩ := hI
 obtain ⟨v14, hI⟩ := hI
 obtain ⟨v56, hI⟩ := hI
 obtain ⟨v57, hI⟩ := hI
 obtain ⟨v58, hI⟩ := hI
 obtain ⟨v59, hI⟩ := hI
 obtain ⟨v60, hI⟩ := hI
 obtain ⟨v61, hI⟩ := hI
 obtain ⟨v62, hI⟩ := hI
 obtain ⟨v63, hI⟩ := hI
 obtain ⟨v64, hI⟩ := hI
 obtain ⟨v65, hI⟩ := hI
 obtain ⟨v66, hI⟩ := hI
 obtain ⟨v67, hI⟩ := hI
 obtain ⟨v68, hI⟩ := hI
 obtain ⟨v69, hI⟩ := hI
 obtain ⟨v70, hI⟩ := hI
 obtain ⟨v71, hI⟩ := hI
 obtain ⟨v72, hI⟩ := hI
 obtain ⟨v73, hI⟩ := hI
 obtain ⟨v74, hI⟩ := hI
 obtain ⟨v75, hI⟩ := hI
 obtain ⟨v76, hI⟩ := hI
 obtain ⟨⟨j, ys, hj, e56, hT, hE, hl⟩, rfl⟩ := hI
 subst e56
 rcases Nat.lt_or_ge j xn with hlt | hge
 · exact ei_round w6 w'' g gx xn xc c A xA n ep num T bs S j ps ys _ _ _ _ _ _ _ _ _ _ _ _ _ _ _ _ _ _ _ _ _ _ _ _ _ _ _ _ _ _ _ _ _ _ _ _ _ _ _ _ _ _ _ _ _ _ _ _ _ _ _ _ _ _ _ _ _ _ _ _ _ _ _ _ _ _ _ _ _ _ _ _ _ _ _ _ _ _ _ _ _ _ _ _ _ _ _ _ _ _ _ _ _ _ _ _ _ _ _ _ _ _ _ _ _ _ _ _ _ _ _ _ _ _ _ _ Q0 hB hps hpo hnum hep hx16 hS hT hE hl hlt
 · have e : j = xn := Nat.le_antisymm hj hge
   subst e
   exact ei_end g gx j xc j xA ep w'' _ _ _ _ _ _ _ _ _ _ _ _ _ _ _ _ _ _ _ _ _ _ _ _ _ _ _ _ _ _ _ _ _ _ _ _ _ _ _ _ _ _ _ _ _ _ _ _ _ _ _ _ _ _ _ _ _ _ _ _ _ _ _ _ _ _ _ _ _ _ _ _ _ _ _ _ _ _ _ _ _ _ _ _ _ _ _ _ _ _ _ _ _ _ _ _ _ _ _ _ _ _ _ _ _ _ _ _ _ _ _ _ _ _ _ _ _ rfl (fun _ => hexit _ _ _ _ _ _ _ _ _ _ _ _ _ _ _ _ _ _ _ _ _ _ _ _ _ w'' ⟨ys, hT, hE, hl⟩)
def EOI (w6 : World) (g n c : Nat) (ad : Addr) (ep : Int) (ts : List TxD) (c0 c3 c5 c6 c9 c11 c16 c17 c18 c19 c20 c21 c22 c23 c24 c25 c26 c27 c28 c29 c30 c31 c32 c33 c34 c35 c36 c37 c38 c39 c40 c41 c42 c43 c44 c45 c46 c92 c93 c94 c95 c96 c97 c98 c99 c100 c101 c102 c103 c104 c105 c106 c107 c108 c109 c110 c111 c112 c113 c114 c115 c116 c117 c118 c119 c120 c121 : Value) (a : Act) (wr : World) : Prop :=
 ∃ u4 u7 u8 u10 u12 u13 u14 u15 u49 u50 u51 u52 u53 u54 u55 u56 u57 u58 u59 u60 u61 u62 u63 u64 u65 u66 u67 u68 u69 u70 u71 u72 u73 u74 u75 u76 u77 u78 u79 u80 u81 u82 u83 u84 u85 u86 u87 u88 u89 u90 u91 : Value, (∃ (k : Nat) (lt : Int) (xs : List BR) (bs : List Int), k ≤ n ∧ u49 = .int .i64 (k : Int) ∧ u8 = .int .i64 lt ∧ EnX w6 wr u4 u7 xs bs ∧ xs.length = ((ts.take k).map (·.n)).sum ∧ bs.length = 9 + 2 * k) ∧ a = ⟨#[c0, .int .i64 ep, .pointer (some ⟨g, 0, none⟩), c3, u4, c5, c6, u7, u8, c9, u10, c11, u12, u13, u14, u15, c16, c17, c18, c19, c20, c21, c22, c23, c24, c25, c26, c27, c28, c29, c30, c31, c32, c33, c34, c35, c36, c37, c38, c39, c40, c41, c42, c43, c44, c45, c46, .slice (some ad) n c, .int .i64 (n : Int), u49, u50, u51, u52, u53, u54, u55, u56, u57, u58, u59, u60, u61, u62, u63, u64, u65, u66, u67, u68, u69, u70, u71, u72, u73, u74, u75, u76, u77, u78, u79, u80, u81, u82, u83, u84, u85, u86, u87, u88, u89, u90, u91, c92, c93, c94, c95, c96, c97, c98, c99, c100, c101, c102, c103, c104, c105, c106, c107, c108, c109, c110, c111, c112, c113, c114, c115, c116, c117, c118, c119, c120, c121], []⟩
theorem EOI.mk {w6 wr : World} {g n c : Nat} {ad : Addr} {ep : Int} {ts : List TxD} {c0 c3 c5 c6 c9 c11 c16 c17 c18 c19 c20 c21 c22 c23 c24 c25 c26 c27 c28 c29 c30 c31 c32 c33 c34 c35 c36 c37 c38 c39 c40 c41 c42 c43 c44 c45 c46 c92 c93 c94 c95 c96 c97 c98 c99 c100 c101 c102 c103 c104 c105 c106 c107 c108 c109 c110 c111 c112 c113 c114 c115 c116 c117 c118 c119 c120 c121 : Value} {u4 u7 u8 u10 u12 u13 u14 u15 u49 u50 u51 u52 u53 u54 u55 u56 u57 u58 u59 u60 u61 u62 u63 u64 u65 u66 u67 u68 u69 u70 u71 u72 u73 u74 u75 u76 u77 u78 u79 u80 u81 u82 u83 u84 u85 u86 u87 u88 u89 u90 u91 : Value} (h : ∃ (k : Nat) (lt : Int) (xs : List BR) (bs : List Int), k ≤ n ∧ u49 = .int .i64 (k : Int) ∧ u8 = .int .i64 lt ∧ EnX w6 wr u4 u7 xs bs ∧ xs.length = ((ts.take k).map (·.n)).sum ∧ bs.length = 9 + 2 * k) : EOI w6 g n c ad ep ts c0 c3 c5 c6 c9 c11 c16 c17 c18 c19 c20 c21 c22 c23 c24 c25 c26 c27 c28 c29 c30 c31 c32 c33 c34 c35 c36 c37 c38 c39 c40 c41 c42 c43 c44 c45 c46 c92 c93 c94 c95 c96 c97 c98 c99 c100 c101 c102 c103 c104 c105 c106 c107 c108 c109 c110 c111 c112 c113 c114 c115 c116 c117 c118 c119 c120 c121 ⟨#[c0, .int .i64 ep, .pointer (some ⟨g, 0, none⟩), c3, u4, c5, c6, u7, u8, c9, u10, c11, u12, u13, u14, u15, c16, c17, c18, c19, c20, c21, c22, c23, c24, c25, c26, c27, c28, c29, c30, c31, c32, c33, c34, c35, c36, c37, c38, c39, c40, c41, c42, c43, c44, c45, c46, .slice (some ad) n c, .int .i64 (n : Int), u49, u50, u51, u52, u53, u54, u55, u56, u57, u58, u59, u60, u61, u62, u63, u64, u65, u66, u67, u68, u69, u70, u71, u72, u73, u74, u75, u76, u77, u78, u79, u80, u81, u82, u83, u84, u85, u86, u87, u88, u89, u90, u91, c92, c93, c94, c95, c96, c97, c98, c99, c100, c101, c102, c103, c104, c105, c106, c107, c108, c109, c110, c111, c112, c113, c114, c115, c116, c117, c118, c119, c120, c121], []⟩ wr := ⟨u4, u7, u8, u10, u12, u13, u14, u15, u49, u50, u51, u52, u53, u54, u55, u56, u57, u58, u59, u60, u61, u62, u63, u64, u65, u66, u67, u68, u69, u70, u71, u72, u73, u74, u75, u76, u77, u78, u79, u80, u81, u82, u83, u84, u85, u86, u87, u88, u89, u90, u91, h, rfl⟩
def eomu (n : Nat) (a : Act) (_ : World) : Nat := n - (intOf (a.tmps.getD 49 undef)).toNat
theorem eomu_eq {n g c : Nat} {ad : Addr} {ep : Int} {w : World} {x : Int} {c0 c3 c5 c6 c9 c11 c16 c17 c18 c19 c20 c21 c22 c23 c24 c25 c26 c27 c28 c29 c30 c31 c32 c33 c34 c35 c36 c37 c38 c39 c40 c41 c42 c43 c44 c45 c46 c92 c93 c94 c95 c96 c97 c98 c99 c100 c101 c102 c103 c104 c105 c106 c107 c108 c109 c110 c111 c112 c113 c114 c115 c116 c117 c118 c119 c120 c121 u4 u7 u8 u10 u12 u13 u14 u15 u50 u51 u52 u53 u54 u55 u56 u57 u58 u59 u60 u61 u62 u63 u64 u65 u66 u67 u68 u69 u70 u71 u72 u73 u74 u75 u76 u77 u78 u79 u80 u81 u82 u83 u84 u85 u86 u87 u88 u89 u90 u91 : Value} : eomu n ⟨#[c0, .int .i64 ep, .pointer (some ⟨g, 0, none⟩), c3, u4, c5, c6, u7, u8, c9, u10, c11, u12, u13, u14, u15, c16, c17, c18, c19, c20, c21, c22, c23, c24, c25, c26, c27, c28, c29, c30, c31, c32, c33, c34, c35, c36, c37, c38, c39, c40, c41, c42, c43, c44, c45, c46, .slice (some ad) n c, .int .i64 (n : Int), .int .i64 x, u50, u51, u52, u53, u54, u55, u56, u57, u58, u59, u60, u61, u62, u63, u64, u65, u66, u67, u68, u69, u70, u71, u72, u73, u74, u75, u76, u77, u78, u79, u80, u81, u82, u83, u84, u85, u86, u87, u88, u89, u90, u91, c92, c93, c94, c95, c96, c97, c98, c99, c100, c101, c102, c103, c104, c105, c106, c107, c108, c109, c110, c111, c112, c113, c114, c115, c116, c117, c118, c119, c120, c121], []⟩ w = n - x.toNat := rfl
theorem eo_tx {w6 wr : World} {ad : Addr} {n c k : Nat} {ts : List TxD} {num : Int} (hT : IsTs w6 (some ad) n c ts) (hok : OkB num ts) (hb : Below w6.heap.size w6 wr) (hlt : k < n) : ∃ x : TxD, wr.cell? (ad.add (k * 2)) = some (.int .i64 x.time) ∧ wr.cell? ⟨(ad.add (k * 2)).block, (ad.add (k * 2)).off + 1, none⟩ = some (.slice x.A x.n x.c) ∧ IsPs w6 x.A x.n x.c x.ps ∧ (∀ p ∈ x.ps, 0 ≤ p.lba ∧ p.lba < 258 ∧ p.n = 40) ∧ x.n ≤ 16 ∧ ((ts.take (k + 1)).map (·.n)).sum = ((ts.take k).map (·.n)).sum + x.n ∧ ((ts.take k).map (·.n)).sum ≤ 32 := by
 have hl := hT.len
 obtain ⟨x, hx⟩ : ∃ x, ts[k]'(by omega) = x := ⟨_, rfl⟩
 have hm : x ∈ ts := by rw [← hx]; exact List.getElem_mem _
 obtain ⟨ad', e, _, e0, e1⟩ := two_get tx_two (hT.next hb).rd (k := k) (by omega) (u := .int .i64 x.time) (v := .slice x.A x.n x.c) (by rw [hx]; rfl)
 injection e with e; subst e
 exact ⟨x, e0, e1, hT.y x hm, (hok.tx x hm).ps, (hok.tx x hm).n.2, nsum_step (by omega) hx, Nat.le_trans (nsum_le ts k) hok.sum⟩
theorem en_b1 {a k n : Nat} (e : a = 9 + 2 * k) (h : k < n) (hn : n ≤ 8) : a + 2 ≤ 1000000000 := by omega
theorem en_b2 {a k n : Nat} (e : a = 9 + 2 * k) (h : k < n) (hn : n ≤ 8) : (a + 2) * 1 ≤ 1000000000000 := by omega
theorem en_two (d : Int) : ∀ x ∈ [d % 256, d / 256 % 256], 0 ≤ x ∧ x < 256 := by
 intro x hx
 simp at hx
 rcases hx with rfl | rfl <;> constructor <;> omega
theorem eo_round (w6 wr : World) (g n c k : Nat) (ad : Addr) (ep num lt : Int) (ts : List TxD) (xs : List BR) (bs : List Int) (c0 c3 c5 c6 c9 c11 c16 c17 c18 c19 c20 c21 c22 c23 c24 c25 c26 c27 c28 c29 c30 c31 c32 c33 c34 c35 c36 c37 c38 c39 c40 c41 c42 c43 c44 c45 c46 c92 c93 c94 c95 c96 c97 c98 c99 c100 c101 c102 c103 c104 c105 c106 c107 c108 c109 c110 c111 c112 c113 c114 c115 c116 c117 c118 c119 c120 c121 u4 u7 u10 u12 u13 u14 u15 u50 u51 u52 u53 u54 u55 u56 u57 u58 u59 u60 u61 u62 u63 u64 u65 u66 u67 u68 u69 u70 u71 u72 u73 u74 u75 u76 u77 u78 u79 u80 u81 u82 u83 u84 u85 u86 u87 u88 u89 u90 u91 : Value) (Q0 : Exit → Act → World → Prop)
  (hB : Bk w6 g 101 [.int .i64 num, .slice (some ad) n c]) (hT : IsTs w6 (some ad) n c ts) (hok : OkB num ts) (hep : 0 ≤ ep ∧ ep ≤ 4294967295) (hn : n ≤ 8)
  (hE : EnX w6 wr u4 u7 xs bs) (hl : xs.length = ((ts.take k).map (·.n)).sum) (hbl : bs.length = 9 + 2 * k) (hlt : k < n) :
  Code.wp Tryz.prog (loopAt Tryz.f91 0) (Exit.then (fun a' w'' => EOI w6 g n c ad ep ts c0 c3 c5 c6 c9 c11 c16 c17 c18 c19 c20 c21 c22 c23 c24 c25 c26 c27 c28 c29 c30 c31 c32 c33 c34 c35 c36 c37 c38 c39 c40 c41 c42 c43 c44 c45 c46 c92 c93 c94 c95 c96 c97 c98 c99 c100 c101 c102 c103 c104 c105 c106 c107 c108 c109 c110 c111 c112 c113 c114 c115 c116 c117 c118 c119 c120 c121 a' w'' ∧ eomu n a' w'' < eomu n ⟨#[c0, .int .i64 ep, .pointer (some ⟨g, 0, none⟩), c3, u4, c5, c6, u7, .int .i64 lt, c9, u10, c11, u12, u13, u14, u15, c16, c17, c18, c19, c20, c21, c22, c23, c24, c25, c26, c27, c28, c29, c30, c31, c32, c33, c34, c35, c36, c37, c38, c39, c40, c41, c42, c43, c44, c45, c46, .slice (some ad) n c, .int .i64 (n : Int), .int .i64 (k : Int), u50, u51, u52, u53, u54, u55, u56, u57, u58, u59, u60, u61, u62, u63, u64, u65, u66, u67, u68, u69, u70, u71, u72, u73, u74, u75, u76, u77, u78, u79, u80, u81, u82, u83, u84, u85, u86, u87, u88, u89, u90, u91, c92, c93, c94, c95, c96, c97, c98, c99, c100, c101, c102, c103, c104, c105, c106, c107, c108, c109, c110, c111, c112, c113, c114, c115, c116, c117, c118, c119, c120, c121], []⟩ wr) Q0) ⟨#[c0, .int .i64 ep, .pointer (some ⟨g, 0, none⟩), c3, u4, c5, c6, u7, .int .i64 lt, c9, u10, c11, u12, u13, u14, u15, c16, c17, c18, c19, c20, c21, c22, c23, c24, c25, c26, c27, c28, c29, c30, c31, c32, c33, c34, c35, c36, c37, c38, c39, c40, c41, c42, c43, c44, c45, c46, .slice (some ad) n c, .int .i64 (n : Int), .int .i64 (k : Int), u50, u51, u52, u53, u54, u55, u56, u57, u58, u59, u60, u61, u62, u63, u64, u65, u66, u67, u68, u69, u70, u71, u72, u73, u74, u75, u76, u77, u78, u79, u80, u81, u82, u83, u84, u85, u86, u87, u88, u89, u90, u91, c92, c93, c94, c95, c96, c97, c98, c99, c100, c101, c102, c103, c104, c105, c106, c107, c108, c109, c110, c111, c112, c113, c114, c115, c116, c117, c118, c119, c120, c121], []⟩ wr := by
 obtain ⟨i0, hi, hz0, hz1, hz2⟩ := info_parts infoB
 obtain ⟨x, e0, e1, hps, hpo, hx16, hsum, hS⟩ := eo_tx hT hok hE.bel hlt
 obtain ⟨n1, n2, m2⟩ := en_num hlt (by omega)
 obtain ⟨wA, hwA⟩ : ∃ wA, wr.alloc (.cells #[.int .i64 x.time, .slice x.A x.n x.c] 182) = wA := ⟨_, rfl⟩
 have hBA : Bk wA wr.heap.size 182 [.int .i64 x.time, .slice x.A x.n x.c] := by rw [← hwA]; exact Bk.new wr _ _
 have hbA : Below wr.heap.size wr wA := by rw [← hwA]; exact (Below.refl _ _).alloc (Nat.le_refl _) _
 obtain ⟨d0, d1⟩ := hBA.c2
 have H := Lib.hid (And.intro hB (And.intro hps (And.intro hpo (And.intro hok.num (And.intro hep (And.intro hx16 (And.intro hS (And.intro hsum (And.intro hl (And.intro hbl (And.intro hlt (And.intro (hE.next hbA) hBA))))))))))))
 have HN := Lib.hid hn
 obtain ⟨T, hT2⟩ : ∃ T, x.time = T := ⟨_, rfl⟩
 obtain ⟨xn, hxn⟩ : ∃ xn, x.n = xn := ⟨_, rfl⟩
 rw [hT2] at e0 d0
 rw [hxn] at e1 d1
 rw [hT2, hxn] at H
 rw [hT2, hxn] at hwA
 clear hB hT hok hep hn hE hl hbl hlt hps hpo hx16 hsum hS hBA hbA hT2 hxn
 conv => arg 2; whnf
 go_wp2_with fail
 refine ei_loop w6 wA g wr.heap.size xn x.c c (some ad) x.A n ep num T bs ((ts.take k).map (·.n)).sum x.ps _ _ _ _ _ _ _ _ _ _ _ _ _ _ _ _ _ _ _ _ _ _ _ _ _ _ _ _ _ _ _ _ _ _ _ _ _ _ _ _ _ _ _ _ _ _ _ _ _ _ _ _ _ _ _ _ _ _ _ _ _ _ _ _ _ _ _ _ _ _ _ _ _ _ _ _ _ _ _ _ _ _ _ _ _ _ _ _ _ _ _ _ _ _ _ _ _ _ _ _ _ _ _ _ _ _ _ _ _ _ _ _ _ _ _ _ _ _ H.out.1 H.out.2.1 H.out.2.2.1 H.out.2.2.2.1 H.out.2.2.2.2.1 H.out.2.2.2.2.2.1 H.out.2.2.2.2.2.2.1 ⟨0, xs, Nat.zero_le _, rfl, H.out.2.2.2.2.2.2.2.2.2.2.2.2, H.out.2.2.2.2.2.2.2.2.2.2.2.1, H.out.2.2.2.2.2.2.2.2.1⟩ ?_
 intro v4 v12 v13 v14 v56 v57 v58 v59 v60 v61 v62 v63 v64 v65 v66 v67 v68 v69 v70 v71 v72 v73 v74 v75 v76 wr2 hX
 obtain ⟨ys, hT2, hE2, hl2⟩ := hX
 obtain ⟨q0, _⟩ := cells_two hT2
 obtain ⟨bA, bc, rfl⟩ := own_shape hE2.body.1
 obtain ⟨oA, oc, rfl⟩ := own_shape hE2.row.own
 obtain ⟨d, hd⟩ : ∃ d, wrap64 (T - lt) = d := ⟨_, rfl⟩
 obtain ⟨wB, hwB⟩ : ∃ wB, wr2.alloc (.cells #[.int .u8 (d % 256), .int .u8 (d / 256 % 256)] 5) = wB := ⟨_, rfl⟩
 have hBB : Bk wB wr2.heap.size 5 [.int .u8 (d % 256), .int .u8 (d / 256 % 256)] := by rw [← hwB]; exact Bk.new wr2 _ _
 have hbB : Below wr2.heap.size wr2 wB := by rw [← hwB]; exact (Below.refl _ _).alloc (Nat.le_refl _) _
 have HZ := Lib.hid (And.intro hE2 (And.intro hl2 (And.intro hBB (And.intro hbB (hE2.next hbB)))))
 clear hT2 hE2 hl2 e0 e1 d0 d1 hBB hbB
 go_wp2_with (at_builtin; go_must (refine wpList_appM _ rfl _ _ 47 rfl w6.heap.size 5 i0 (.int .u8 0) 1 1 Tryz.underlying47 hi hz0 hz1 hz2 rfl (by decide) _ _ _ (by rfl) (by exact HZ.out.2.2.2.2.body.1) _ _ 2 2 [.int .u8 (d % 256), .int .u8 (d / 256 % 256)] (by rfl) (by rfl) (by exact (HZ.out.2.2.1).rd) (by intro u hu; simp at hu; rcases hu with rfl | rfl <;> rfl) (by exact en_b1 H.out.2.2.2.2.2.2.2.2.2.1 H.out.2.2.2.2.2.2.2.2.2.2.1 HN.out) (by exact en_b2 H.out.2.2.2.2.2.2.2.2.2.1 H.out.2.2.2.2.2.2.2.2.2.2.1 HN.out) (by exact HZ.out.2.2.2.2.bel.size) ?_); intro v9 w9 hO9 hG9 hv9; obtain ⟨sA, sc, rfl⟩ := own_shape hO9)
 have HY := Lib.hid (EnX.more HZ.out.1 HZ.out.2.2.2.1 (ys := [d % 256, d / 256 % 256]) hO9 (en_two d) hG9 hv9)
 clear hO9 hG9 hv9
 go_wp2_with fail
 refine ⟨?_, ?_⟩
 · refine EOI.mk ?_
   exact ⟨k + 1, T, ys, _, H.out.2.2.2.2.2.2.2.2.2.2.1, int_succ (by first | rfl | exact m2), rfl, HY.out, by rw [HZ.out.2.1]; exact H.out.2.2.2.2.2.2.2.1.symm, by rw [List.length_append, H.out.2.2.2.2.2.2.2.2.2.1]; rfl⟩
 · rw [eomu_eq, eomu_eq]
   exact sub_lt1 H.out.2.2.2.2.2.2.2.2.2.2.1 (by first | rfl | exact m2)
end
end Go.Proofs.YthhndleddlmgiaaGreatDoor.Tp
