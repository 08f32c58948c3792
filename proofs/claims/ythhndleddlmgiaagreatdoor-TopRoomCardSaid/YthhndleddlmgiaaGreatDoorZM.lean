/- Contracts of the program's functions, and laws on memory: a part of the proof of TopRoom. -/
import Derived.Test.YthhndleddlmgiaaGreatDoorZL
import Derived.Test.YthhndleddlmgiaaGreatDoorProg
import Derived.LoopTactic
import Derived.LoopN
import Derived.Lib.Hide
import Derived.Deep.DeepMust
import Derived.Laws.MakeOwn
import Derived.Laws.Entries
import Derived.WalkSpells
import Derived.WalkMore
import Derived.IntWalk
import Derived.Deep.QuietTactic
import Derived.BigQuiet
import Derived.Shelf.Abstract
namespace Go.Proofs.YthhndleddlmgiaaGreatDoor.Tp
set_option maxHeartbeats 8000000
set_option maxRecDepth 100000
set_option linter.unusedSimpArgs false
set_option linter.unusedVariables false
section
open Go.RowKit Go.Maps
theorem save_any (F : Foot) (gd gs count : Nat) (inn : Int) (v : Value) (bt : List Int) (ns : List Nat) (A : Option Addr) (n c : Nat) (bs : List Int) (w : World) (hd : Dev w F gd ns) (h : SloX w gd gs inn v bt count) (hI : In w F) (hg : ¬ F gs) (hc : count ≤ 1000000) (ht : IsY w A n c bs) (hn : n ≤ 11440) :
  Calls Tryz.prog 45 #[.pointer (some ⟨gs, 0, none⟩), .slice A n c] w fun e w' => e = .returned (.int .i64 0) ∧ ∃ F' ns' inn' v' bs', Dev w' F' gd ns' ∧ SloX w' gd gs inn' v' bs' (count + 1) ∧ (∀ j, 6 ≤ j → ns'[j]? = ns[j]?) ∧ Kf (fun b => F b ∨ b = gs) w w' ∧ Sb w F F' ∧ In w' F' := by
 rcases h.two with rfl | rfl
 · refine (save0 F gd gs count v bt ns A n c bs w hd h hI hg hc ht hn).mono ?_
   rintro e w' ⟨h1, F', ns', v', bs', h2⟩
   exact ⟨h1, F', ns', 1, v', bs', h2⟩
 · refine (save1 F gd gs count v bt ns A n c bs w hd h hI hg hc ht hn).mono ?_
   rintro e w' ⟨h1, F', ns', v', bs', h2⟩
   exact ⟨h1, F', ns', 0, v', bs', h2⟩
structure EmX (w5 wr : World) (F2 : Foot) (gd z : Nat) : Prop where
 dev : ∃ Fi nsi a b, Dev wr Fi gd nsi ∧ nsi[6]? = some a ∧ nsi[7]? = some b ∧ (7 ≤ z → a = 0) ∧ (8 ≤ z → b = 0) ∧ Sb w5 F2 Fi ∧ In wr Fi
 kf : Kf F2 w5 wr
structure CpH (w5 : World) (F2 : Foot) (sb gd mb gs pos num : Nat) : Prop where
 bx : Bk w5 sb 108 (stcells gd mb gs pos num)
 f2 : ¬ F2 sb
def CPI (w5 : World) (F2 : Foot) (sb gd : Nat) (c1 c2 c7 c8 c9 c10 c11 c12 c13 c14 c15 c16 c17 c18 c19 c20 c51 c52 c53 c54 c55 c56 c57 c58 c59 c60 c61 : Value) (a : Act) (wr : World) : Prop :=
 ∃ u3 u4 u5 u6 u21 u22 u23 u24 u25 u26 u27 u28 u29 u30 u31 u32 u33 u34 u35 u36 u37 u38 u39 u40 u41 u42 u43 u44 u45 u46 u47 u48 u49 u50 : Value, (∃ z : Nat, 6 ≤ z ∧ z ≤ 8 ∧ u3 = .int .i64 0 ∧ u4 = .int .i64 (z : Int) ∧ EmX w5 wr F2 gd z) ∧ a = ⟨#[.pointer (some ⟨sb, 0, none⟩), c1, c2, u3, u4, u5, u6, c7, c8, c9, c10, c11, c12, c13, c14, c15, c16, c17, c18, c19, c20, u21, u22, u23, u24, u25, u26, u27, u28, u29, u30, u31, u32, u33, u34, u35, u36, u37, u38, u39, u40, u41, u42, u43, u44, u45, u46, u47, u48, u49, u50, c51, c52, c53, c54, c55, c56, c57, c58, c59, c60, c61], []⟩
theorem CPI.mk {w5 wr : World} {F2 : Foot} {sb gd : Nat} {c1 c2 c7 c8 c9 c10 c11 c12 c13 c14 c15 c16 c17 c18 c19 c20 c51 c52 c53 c54 c55 c56 c57 c58 c59 c60 c61 : Value} {u3 u4 u5 u6 u21 u22 u23 u24 u25 u26 u27 u28 u29 u30 u31 u32 u33 u34 u35 u36 u37 u38 u39 u40 u41 u42 u43 u44 u45 u46 u47 u48 u49 u50 : Value} (h : ∃ z : Nat, 6 ≤ z ∧ z ≤ 8 ∧ u3 = .int .i64 0 ∧ u4 = .int .i64 (z : Int) ∧ EmX w5 wr F2 gd z) : CPI w5 F2 sb gd c1 c2 c7 c8 c9 c10 c11 c12 c13 c14 c15 c16 c17 c18 c19 c20 c51 c52 c53 c54 c55 c56 c57 c58 c59 c60 c61 ⟨#[.pointer (some ⟨sb, 0, none⟩), c1, c2, u3, u4, u5, u6, c7, c8, c9, c10, c11, c12, c13, c14, c15, c16, c17, c18, c19, c20, u21, u22, u23, u24, u25, u26, u27, u28, u29, u30, u31, u32, u33, u34, u35, u36, u37, u38, u39, u40, u41, u42, u43, u44, u45, u46, u47, u48, u49, u50, c51, c52, c53, c54, c55, c56, c57, c58, c59, c60, c61], []⟩ wr := ⟨u3, u4, u5, u6, u21, u22, u23, u24, u25, u26, u27, u28, u29, u30, u31, u32, u33, u34, u35, u36, u37, u38, u39, u40, u41, u42, u43, u44, u45, u46, u47, u48, u49, u50, h, rfl⟩
def cpmu (n : Nat) (a : Act) (_ : World) : Nat := n - (intOf (a.tmps.getD 4 undef)).toNat
theorem cpmu_eq {sb : Nat} {w : World} {x : Int} {c1 c2 c7 c8 c9 c10 c11 c12 c13 c14 c15 c16 c17 c18 c19 c20 c51 c52 c53 c54 c55 c56 c57 c58 c59 c60 c61 u5 u6 u21 u22 u23 u24 u25 u26 u27 u28 u29 u30 u31 u32 u33 u34 u35 u36 u37 u38 u39 u40 u41 u42 u43 u44 u45 u46 u47 u48 u49 u50 : Value} : cpmu 8 ⟨#[.pointer (some ⟨sb, 0, none⟩), c1, c2, .int .i64 0, .int .i64 x, u5, u6, c7, c8, c9, c10, c11, c12, c13, c14, c15, c16, c17, c18, c19, c20, u21, u22, u23, u24, u25, u26, u27, u28, u29, u30, u31, u32, u33, u34, u35, u36, u37, u38, u39, u40, u41, u42, u43, u44, u45, u46, u47, u48, u49, u50, c51, c52, c53, c54, c55, c56, c57, c58, c59, c60, c61], []⟩ w = 8 - x.toNat := rfl
theorem cp_num {z : Nat} (h : z < 8) : (z : Int) ≤ 7 ∧ wrap64 ((z : Int) + 1) = (z : Int) + 1 := ⟨by omega, by unfold wrap64; omega⟩
theorem cp_get {w5 wr : World} {F2 : Foot} {sb gd mb gs pos num z : Nat} (H : CpH w5 F2 sb gd mb gs pos num) (hx : EmX w5 wr F2 gd z) (h6 : 6 ≤ z) (h8 : z < 8) : ∃ (Fi : Foot) (nsi : List Nat) (k : Nat), Dev wr Fi gd nsi ∧ nsi[z]? = some k ∧ Sb w5 F2 Fi ∧ In wr Fi ∧ Bk wr sb 108 (stcells gd mb gs pos num) ∧ ¬ Fi sb ∧
  (k = 0 → EmX w5 wr F2 gd (z + 1)) ∧ ∀ w', Dev w' Fi gd (nsi.set z 0) → Kf Fi wr w' → EmX w5 w' F2 gd (z + 1) := by
 obtain ⟨⟨Fi, nsi, a, b, hd, ha, hb, h7, h8', hsb, hin⟩, hkf⟩ := hx
 have hbx : Bk wr sb 108 (stcells gd mb gs pos num) := Bk.ag (F := fun b => b = sb) H.bx (hkf.ag (fun b q r => H.f2 (by have q : b = sb := q; exact q ▸ r))) rfl
 have hnf : ¬ Fi sb := fun q => (hsb sb q).elim H.f2 (fun r => by have := H.bx.lt; omega)
 have l6 := get_lt ha
 have l7 := get_lt hb
 rcases (by omega : z = 6 ∨ z = 7) with rfl | rfl
 · refine ⟨Fi, nsi, a, hd, ha, hsb, hin, hbx, hnf, fun e => ⟨⟨Fi, nsi, a, b, hd, ha, hb, fun _ => e, fun q => by omega, hsb, hin⟩, hkf⟩, fun w' hd' k' => ⟨⟨Fi, _, 0, b, hd', by rw [List.getElem?_set, if_pos rfl, if_pos l6], by rw [List.getElem?_set, if_neg (by decide)]; exact hb, fun _ => rfl, fun q => by omega, hsb, fun b q => Nat.lt_of_lt_of_le (hin b q) k'.size⟩, hkf.trans k' hsb⟩⟩
 · refine ⟨Fi, nsi, b, hd, hb, hsb, hin, hbx, hnf, fun e => ⟨⟨Fi, nsi, a, b, hd, ha, hb, fun _ => h7 (Nat.le_refl _), fun _ => e, hsb, hin⟩, hkf⟩, fun w' hd' k' => ⟨⟨Fi, _, a, 0, hd', by rw [List.getElem?_set, if_neg (by decide)]; exact ha, by rw [List.getElem?_set, if_pos rfl, if_pos l7], fun _ => h7 (Nat.le_refl _), fun _ => rfl, hsb, fun b q => Nat.lt_of_lt_of_le (hin b q) k'.size⟩, hkf.trans k' hsb⟩⟩
theorem cp_round (w5 wr : World) (F2 : Foot) (sb gd mb gs pos num z : Nat) (c1 c2 c7 c8 c9 c10 c11 c12 c13 c14 c15 c16 c17 c18 c19 c20 c51 c52 c53 c54 c55 c56 c57 c58 c59 c60 c61 u5 u6 u21 u22 u23 u24 u25 u26 u27 u28 u29 u30 u31 u32 u33 u34 u35 u36 u37 u38 u39 u40 u41 u42 u43 u44 u45 u46 u47 u48 u49 u50 : Value) (Q0 : Exit → Act → World → Prop) (H : CpH w5 F2 sb gd mb gs pos num) (hx : EmX w5 wr F2 gd z) (h6 : 6 ≤ z) (h8 : z < 8) :
  Code.wp Tryz.prog (loopOf Tryz.f24) (Exit.then (fun a' w'' => CPI w5 F2 sb gd c1 c2 c7 c8 c9 c10 c11 c12 c13 c14 c15 c16 c17 c18 c19 c20 c51 c52 c53 c54 c55 c56 c57 c58 c59 c60 c61 a' w'' ∧ cpmu 8 a' w'' < cpmu 8 ⟨#[.pointer (some ⟨sb, 0, none⟩), c1, c2, .int .i64 0, .int .i64 (z : Int), u5, u6, c7, c8, c9, c10, c11, c12, c13, c14, c15, c16, c17, c18, c19, c20, u21, u22, u23, u24, u25, u26, u27, u28, u29, u30, u31, u32, u33, u34, u35, u36, u37, u38, u39, u40, u41, u42, u43, u44, u45, u46, u47, u48, u49, u50, c51, c52, c53, c54, c55, c56, c57, c58, c59, c60, c61], []⟩ wr) Q0) ⟨#[.pointer (some ⟨sb, 0, none⟩), c1, c2, .int .i64 0, .int .i64 (z : Int), u5, u6, c7, c8, c9, c10, c11, c12, c13, c14, c15, c16, c17, c18, c19, c20, u21, u22, u23, u24, u25, u26, u27, u28, u29, u30, u31, u32, u33, u34, u35, u36, u37, u38, u39, u40, u41, u42, u43, u44, u45, u46, u47, u48, u49, u50, c51, c52, c53, c54, c55, c56, c57, c58, c59, c60, c61], []⟩ wr := by
 obtain ⟨Fi, nsi, k, hd, hk, hsb, hin, hbx, hnf, he0, heK⟩ := cp_get H hx h6 h8
 obtain ⟨n1, m2⟩ := cp_num h8
 obtain ⟨c0, c3, c4, _⟩ := stcells_at hbx
 have hpo := pointerD hd hk
 have hre := reset_any Fi gd nsi z k wr hd hk
 have HK := Lib.hid (And.intro h6 (And.intro h8 (And.intro he0 heK)))
 clear hx h6 h8 he0 heK hd hk hsb hin hbx hnf
 rcases Nat.eq_zero_or_pos k with hk0 | hk0
 · subst hk0
   clear hre
   conv => arg 2; whnf
   go_wp2_with fail
   refine hpo.mono ?_
   rintro e w' ⟨rfl, rfl⟩
   clear hpo
   go_wp2_with fail
   refine ⟨?_, ?_⟩
   · refine CPI.mk ?_
     exact ⟨z + 1, Nat.le_succ_of_le HK.out.1, HK.out.2.1, rfl, int_succ (by first | rfl | exact m2), HK.out.2.2.1 (by trivial)⟩
   · rw [cpmu_eq, cpmu_eq]
     exact sub_lt1 HK.out.2.1 (by first | rfl | exact m2)
 · have n2 : (0 : Int) < (k : Int) := by omega
   have n3 : 0 < k := hk0
   conv => arg 2; whnf
   go_wp2_with fail
   refine hpo.mono ?_
   rintro e w' ⟨rfl, rfl⟩
   clear hpo
   go_wp2_with fail
   refine hre.mono ?_
   rintro e w7 ⟨rfl, hd7, hk7⟩
   have HE := Lib.hid (HK.out.2.2.2 w7 hd7 hk7)
   clear hre hd7 hk7
   go_wp2_with fail
   refine ⟨?_, ?_⟩
   · refine CPI.mk ?_
     exact ⟨z + 1, Nat.le_succ_of_le HK.out.1, HK.out.2.1, rfl, int_succ (by first | rfl | exact m2), HE.out⟩
   · rw [cpmu_eq, cpmu_eq]
     exact sub_lt1 HK.out.2.1 (by first | rfl | exact m2)
end
section
open Go.RowKit Go.Maps
theorem cp_end (w5 : World) (F2 : Foot) (sb gd mb gs pos num z : Nat) (w'' : World) (c1 c2 c7 c8 c9 c10 c11 c12 c13 c14 c15 c16 c17 c18 c19 c20 c51 c52 c53 c54 c55 c56 c57 c58 c59 c60 c61 u5 u6 u21 u22 u23 u24 u25 u26 u27 u28 u29 u30 u31 u32 u33 u34 u35 u36 u37 u38 u39 u40 u41 u42 u43 u44 u45 u46 u47 u48 u49 u50 : Value) (Q : Exit → Act → World → Prop) (hk : z = 8) (hbx : Bk w'' sb 108 (stcells gd mb gs pos num)) (h : ∀ u5 u6 u21 u22 u23 u24 u25 u26 u27 u28 u29 u30 u31 u32 u33 u34 u35 u36 u37 u38 u39 u40 u41 u42 u43 u44 u45 u46 u47 u48 u49 u50 : Value, Q (.exit 0) ⟨#[.pointer (some ⟨sb, 0, none⟩), c1, c2, .int .i64 0, .int .i64 (z : Int), u5, u6, c7, c8, c9, c10, c11, c12, c13, c14, c15, c16, c17, c18, c19, c20, u21, u22, u23, u24, u25, u26, u27, u28, u29, u30, u31, u32, u33, u34, u35, u36, u37, u38, u39, u40, u41, u42, u43, u44, u45, u46, u47, u48, u49, u50, c51, c52, c53, c54, c55, c56, c57, c58, c59, c60, c61], []⟩ w'') :
  Code.wp Tryz.prog (loopOf Tryz.f24) Q ⟨#[.pointer (some ⟨sb, 0, none⟩), c1, c2, .int .i64 0, .int .i64 (z : Int), u5, u6, c7, c8, c9, c10, c11, c12, c13, c14, c15, c16, c17, c18, c19, c20, u21, u22, u23, u24, u25, u26, u27, u28, u29, u30, u31, u32, u33, u34, u35, u36, u37, u38, u39, u40, u41, u42, u43, u44, u45, u46, u47, u48, u49, u50, c51, c52, c53, c54, c55, c56, c57, c58, c59, c60, c61], []⟩ w'' := by
 subst hk
 obtain ⟨c0, c3, c4, _⟩ := stcells_at hbx
 clear hbx
 conv => arg 2; whnf
 go_wp2_with fail
 exact h _ _ _ _ _ _ _ _ _ _ _ _ _ _ _ _ _ _ _ _ _ _ _ _ _ _ _ _ _ _ _ _
theorem cp_loop (w5 wr : World) (F2 : Foot) (sb gd mb gs pos num : Nat) (c1 c2 c7 c8 c9 c10 c11 c12 c13 c14 c15 c16 c17 c18 c19 c20 c51 c52 c53 c54 c55 c56 c57 c58 c59 c60 c61 u3 u4 u5 u6 u21 u22 u23 u24 u25 u26 u27 u28 u29 u30 u31 u32 u33 u34 u35 u36 u37 u38 u39 u40 u41 u42 u43 u44 u45 u46 u47 u48 u49 u50 : Value) (Q0 : Exit → Act → World → Prop) (H : CpH w5 F2 sb gd mb gs pos num) (h0 : ∃ z : Nat, 6 ≤ z ∧ z ≤ 8 ∧ u3 = .int .i64 0 ∧ u4 = .int .i64 (z : Int) ∧ EmX w5 wr F2 gd z)
  (hexit : ∀ (u5 u6 u21 u22 u23 u24 u25 u26 u27 u28 u29 u30 u31 u32 u33 u34 u35 u36 u37 u38 u39 u40 u41 u42 u43 u44 u45 u46 u47 u48 u49 u50 : Value) (w' : World), EmX w5 w' F2 gd 8 → Q0 (.exit 0) ⟨#[.pointer (some ⟨sb, 0, none⟩), c1, c2, .int .i64 0, .int .i64 ((8 : Nat) : Int), u5, u6, c7, c8, c9, c10, c11, c12, c13, c14, c15, c16, c17, c18, c19, c20, u21, u22, u23, u24, u25, u26, u27, u28, u29, u30, u31, u32, u33, u34, u35, u36, u37, u38, u39, u40, u41, u42, u43, u44, u45, u46, u47, u48, u49, u50, c51, c52, c53, c54, c55, c56, c57, c58, c59, c60, c61], []⟩ w') :
  Code.wp Tryz.prog (Code.loop (loopOf Tryz.f24)) Q0 ⟨#[.pointer (some ⟨sb, 0, none⟩), c1, c2, u3, u4, u5, u6, c7, c8, c9, c10, c11, c12, c13, c14, c15, c16, c17, c18, c19, c20, u21, u22, u23, u24, u25, u26, u27, u28, u29, u30, u31, u32, u33, u34, u35, u36, u37, u38, u39, u40, u41, u42, u43, u44, u45, u46, u47, u48, u49, u50, c51, c52, c53, c54, c55, c56, c57, c58, c59, c60, c61], []⟩ wr := by
 refine wp_loop (CPI w5 F2 sb gd c1 c2 c7 c8 c9 c10 c11 c12 c13 c14 c15 c16 c17 c18 c19 c20 c51 c52 c53 c54 c55 c56 c57 c58 c59 c60 c61) (cpmu 8) (CPI.mk h0) (fun a w'' hI => ?_)
 unfold CPI at hI
 obtain ⟨v3, hI⟩ := hI
 obtain ⟨v4, hI⟩ := hI
 obtain ⟨v5, hI⟩ := hI
 obtain ⟨v6, hI⟩ := hI
 obtain ⟨v21, hI⟩ := hI
 obtain ⟨v22, hI⟩ := hI
 obtain ⟨v23, hI⟩ := hI
 obtain ⟨v24, hI⟩ := hI
 obtain ⟨v25, hI⟩ := hI
 obtain ⟨v26, hI⟩ := hI
 obtain ⟨v27, hI⟩ := hI
 obtain ⟨v28, hI⟩ := hI
 obtain ⟨v29, hI⟩ := hI
 obtain ⟨v30, hI⟩ := hI
 obtain ⟨v31, hI⟩ := hI
 obtain ⟨v32, hI⟩ := hI
 obtain ⟨v33, hI⟩ := hI
 obtain ⟨v34, hI⟩ := hI
 obtain ⟨v35, hI⟩ := hI
 obtain ⟨v36, hI⟩ := hI
 obtain ⟨v37, hI⟩ := hI
 obtain ⟨v38, hI⟩ := hI
 obtain ⟨v39, hI⟩ := hI
 obtain ⟨v40, hI⟩ := hI
 obtain ⟨v41, hI⟩ := hI
 obtain ⟨v42, hI⟩ := hI
 obtain ⟨v43, hI⟩ := hI
 obtain ⟨v44, hI⟩ := hI
 obtain ⟨v45, hI⟩ := hI
 obtain ⟨v46, hI⟩ := hI
 obtain ⟨v47, hI⟩ := hI
 obtain ⟨v48, hI⟩ := hI
 obtain ⟨v49, hI⟩ := hI
 obtain ⟨v50, hI⟩ := hI
 obtain ⟨⟨z, h6, h8, e3, e4, hx⟩, rfl⟩ := hI
 subst e3 e4
 rcases Nat.lt_or_ge z 8 with hlt | hge
 · exact cp_round w5 w'' F2 sb gd mb gs pos num z _ _ _ _ _ _ _ _ _ _ _ _ _ _ _ _ _ _ _ _ _ _ _ _ _ _ _ _ _ _ _ _ _ _ _ _ _ _ _ _ _ _ _ _ _ _ _ _ _ _ _ _ _ _ _ _ _ _ _ Q0 H hx h6 hlt
 · have e : z = 8 := Nat.le_antisymm h8 hge
   subst e
   have hbx : Bk w'' sb 108 (stcells gd mb gs pos num) := Bk.ag (F := fun b => b = sb) H.bx (hx.kf.ag (fun b q r => H.f2 (by have q : b = sb := q; exact q ▸ r))) rfl
   exact cp_end w5 F2 sb gd mb gs pos num 8 w'' _ _ _ _ _ _ _ _ _ _ _ _ _ _ _ _ _ _ _ _ _ _ _ _ _ _ _ _ _ _ _ _ _ _ _ _ _ _ _ _ _ _ _ _ _ _ _ _ _ _ _ _ _ _ _ _ _ _ _ _ rfl hbx (fun _ _ _ _ _ _ _ _ _ _ _ _ _ _ _ _ _ _ _ _ _ _ _ _ _ _ _ _ _ _ _ _ => hexit _ _ _ _ _ _ _ _ _ _ _ _ _ _ _ _ _ _ _ _ _ _ _ _ _ _ _ _ _ _ _ _ w'' hx)
theorem cp_cnt {count g : Nat} (h : count ≤ g) (hg : g ≤ 700) : count ≤ 1000000 := by omega
theorem cp_nsb {w : World} {F : Foot} {Ft : Nat → Foot} {sb gd mb gs pos num count g : Nat} {ns : List Nat} {m : MS} (h : StoX w F Ft sb gd mb gs pos num count ns m g) : ¬ (Ft 2 sb ∨ sb = gs) := fun q => q.elim (fun r => h.fam.dis 2 0 (by decide) sb r h.f0) (fun r => h.fam.dis 3 0 (by decide) sb (by rw [r]; exact h.f3) h.f0)
theorem cp_fin {w w1 w2 w7 w9 : World} {F G : Foot} {Ft : Nat → Foot} {sb gd mb gs pos num count g : Nat} {ns : List Nat} {m : MS} {inn2 : Int} {v2 : Value} {bs2 : List Int} (h : StoX w F Ft sb gd mb gs pos num count ns m g) (hg : g + 1 ≤ 700) (hb : Below w.heap.size w w1) (hs2 : SloX w2 gd gs inn2 v2 bs2 (count + 1)) (hk2 : Kf (fun b => Ft 2 b ∨ b = gs) w1 w2) (hsb2 : Sb w1 (Ft 2) G) (hin2 : In w2 G) (hx : EmX w2 w7 G gd 8) (k9 : Kf (fun b => b = sb) w7 w9) (hb9 : Bk w9 sb 108 (stcells gd mb gs 0 0)) : StoR w w9 F sb 0 m (g + 1) := by
 obtain ⟨⟨Fi, nsi, a, b, hd, ha, hb', h7, h8, hsb, hin⟩, hkf⟩ := hx
 obtain rfl := h7 (by decide)
 obtain rfl := h8 (by decide)
 have hz : w.heap.size ≤ w2.heap.size := Nat.le_trans hb.size hk2.size
 have hGw : Sb w (Ft 2) G := fun b q => (hsb2 b q).imp id (Nat.le_trans hb.size)
 have hFw : Sb w (Ft 2) Fi := fun b q => (hsb b q).elim (hGw b) (fun r => .inr (Nat.le_trans hz r))
 have k27 : Kf (fun b => Ft 2 b ∨ b = gs) w w7 := ((Kf.of_below (F := fun b => Ft 2 b ∨ b = gs) hb).trans (G := fun b => Ft 2 b ∨ b = gs) hk2 (fun b q => .inl q)).trans (G := G) hkf (fun b q => (hGw b q).imp .inl id)
 have ngs : ¬ G gs := fun q => (hGw gs q).elim (fun r => h.fam.dis 2 3 (by decide) gs r h.f3) (fun r => by have := h.fam.inn 3 gs h.f3; omega)
 have hs7 := hs2.ag (F := fun b => b = gs) (hkf.ag (fun b q r => ngs (by have q : b = gs := q; exact q ▸ r))) rfl
 obtain ⟨F', Ft', g1, g2⟩ := (h.up hg).devd (pos' := 0) (num' := 0) (count' := count + 1) k27 hFw hin hd ⟨_, _, _, hs7⟩ k9 hb9 ha hb' (Nat.zero_le _) (Nat.zero_le _) (Nat.succ_le_succ h.cnt)
 exact ⟨F', ⟨Ft', gd, mb, gs, 0, count + 1, nsi, g1⟩, g2⟩
theorem sCheckpoint {w : World} {F : Foot} {Ft : Nat → Foot} {sb gd mb gs pos num count g : Nat} {ns : List Nat} {m : MS} (h : StoX w F Ft sb gd mb gs pos num count ns m g) (hg : g + 1 ≤ 700) :
  Calls Tryz.prog 24 #[.pointer (some ⟨sb, 0, none⟩)] w fun e w' => e = .returned (.int .i64 0) ∧ StoR w w' F sb 0 m (g + 1) := by
 have hdd := stdead_any sb gd mb gs pos num w h.bx
 have KK := Lib.hid (fun (w' : World) (hS : Bk w' sb 108 (stcells gd mb gs pos num)) => And.intro (stcells_at hS).2.2.2.2.1 (stcells_at hS).2.1)
 have H := Lib.hid (And.intro h hg)
 clear h hg
 go_enter Tryz.func24, Tryz.ntmps24
 go_wp2_with fail
 refine hdd.mono ?_
 rintro e w' ⟨rfl, rfl⟩
 clear hdd
 go_wp2_with fail
 have Kq := KK
 refine wp_region_held_drew (S := fun w' => Bk w' sb 108 (stcells gd mb gs pos num)) (by kernel_rfl) (H.out.1.bx.drew) (fun hHeld => ?_)
 refine kF 0 ?_; refine kF 1 ?_; refine kF 2 ?_; refine kF 3 ?_; refine kF 4 ?_
 refine rF 5 (fun K hK => ?_)
 go_simp
 refine (text_any F Ft sb gd mb gs pos num count g ns m _ (H.out.1.next (bdrew (Below.refl w.heap.size w)))).mono ?_
 rintro e w1 ⟨⟨v1, b1, rfl, hby, hbl⟩, hb1⟩
 obtain ⟨tA, tc, e1, hy⟩ := hby.isY
 subst e1
 have hb01 : Below w.heap.size w w1 := (bdrew (Below.refl _ _)).trans hb1
 have H1 := Lib.hid (And.intro hb01 (And.intro hy hbl))
 have hS1 := (H.out.1.next hb01).bx
 clear hby hbl hb1 hb01 hy
 go_simp
 refine hK.out _ _ (hS1) (fun hHeld2 => ?_)
 clear hK K hHeld
 have hHeld := hHeld2
 clear hHeld2
 try simp only [Act.put, List.setIfInBounds_toArray, List.set_cons_zero, List.set_cons_succ]
 refine rF 6 (fun K hK => ?_)
 go_simp
 have h1 := H.out.1.next H1.out.1
 obtain ⟨inn, v, bt, hsl⟩ := h1.slo
 refine (save_any (Ft 2) gd gs count inn v bt ns tA b1.length tc b1 _ h1.dev hsl (h1.fam.inn 2) (fun q => h1.fam.dis 2 3 (by decide) gs q h1.f3) (cp_cnt h1.cnt h1.man.big) H1.out.2.1 (Nat.le_trans H1.out.2.2 (by decide))).mono ?_
 rintro e w2 ⟨rfl, G, ns2, inn2, v2, bs2, hd2, hs2, hj2, hk2, hsb2, hin2⟩
 have H2 := Lib.hid (And.intro h1 (And.intro hd2 (And.intro hs2 (And.intro hj2 (And.intro hk2 (And.intro hsb2 hin2))))))
 have hS2 : Bk w2 sb 108 (stcells gd mb gs pos num) := Bk.ag (F := fun b => b = sb) h1.bx (hk2.ag (fun b q r => cp_nsb h1 (by have q : b = sb := q; exact q ▸ r))) rfl
 clear h1 hsl hd2 hs2 hj2 hk2 hsb2 hin2
 go_simp
 refine hK.out _ _ (hS2) (fun hHeld2 => ?_)
 clear hK K hHeld
 have hHeld := hHeld2
 clear hHeld2
 try simp only [Act.put, List.setIfInBounds_toArray, List.set_cons_zero, List.set_cons_succ]
 refine kF 7 ?_
 refine wpAnyH_done (by kernel_rfl) ?_ _
 clear Kq
 obtain ⟨_, c3, _⟩ := stcells_at hS2
 have HS2 := Lib.hid hS2
 clear hS2
 go_wp2_with fail
 have hnG : ¬ G sb := fun q => (H2.out.2.2.2.2.2.1 sb q).elim (fun r => H.out.1.fam.dis 2 0 (by decide) sb r H.out.1.f0) (fun r => by have h1 := H.out.1.fam.inn 0 sb H.out.1.f0; have h2 := H1.out.1.size; omega)
 refine cp_loop w2 w2 G sb gd mb gs pos num _ _ _ _ _ _ _ _ _ _ _ _ _ _ _ _ _ _ _ _ _ _ _ _ _ _ _ _ _ _ _ _ _ _ _ _ _ _ _ _ _ _ _ _ _ _ _ _ _ _ _ _ _ _ _ _ _ _ _ _ _ _ ⟨HS2.out, hnG⟩ ⟨6, Nat.le_refl _, by decide, rfl, rfl, ⟨⟨G, ns2, zc pos 0, zc pos 1, H2.out.2.1, (H2.out.2.2.2.1 6 (Nat.le_refl _)).trans H.out.1.z6, (H2.out.2.2.2.1 7 (by decide)).trans H.out.1.z7, fun q => absurd q (by decide), fun q => absurd q (by decide), fun b q => .inl q, H2.out.2.2.2.2.2.2⟩, Kf.refl _ _⟩⟩ ?_
 intro u5 u6 u21 u22 u23 u24 u25 u26 u27 u28 u29 u30 u31 u32 u33 u34 u35 u36 u37 u38 u39 u40 u41 u42 u43 u44 u45 u46 u47 u48 u49 u50 w7 hx
 have hb7 : Bk w7 sb 108 (stcells gd mb gs pos num) := Bk.ag (F := fun b => b = sb) HS2.out (hx.kf.ag (fun b q r => hnG (by have q : b = sb := q; exact q ▸ r))) rfl
 obtain ⟨_, _, _, _, _, c7, _, _⟩ := stcells_at hb7
 have f7 := hb7.free 7
 obtain ⟨w8, hw8⟩ : ∃ w8, w7.setCell ⟨sb, 7, none⟩ (.int .i64 0) = w8 := ⟨_, rfl⟩
 have hb8 : Bk w8 sb 108 (stcells gd mb gs 0 num) := by rw [← hw8]; exact hb7.set 7 (.int .i64 0)
 obtain ⟨_, _, _, _, _, _, c88, _⟩ := stcells_at hb8
 have f8 := hb8.free 8
 obtain ⟨w9, hw9⟩ : ∃ w9, w8.setCell ⟨sb, 8, none⟩ (.int .i64 0) = w9 := ⟨_, rfl⟩
 have hb9 : Bk w9 sb 108 (stcells gd mb gs 0 0) := by rw [← hw9]; exact hb8.set 8 (.int .i64 0)
 have k9 : Kf (fun b => b = sb) w7 w9 := by rw [← hw9, ← hw8]; exact ((Kf.refl (fun b => b = sb) w7).set hb7 (by decide) (.inl rfl) 7 _).set (by rw [hw8]; exact hb8) (by decide) (.inl rfl) 8 _
 have HE := Lib.hid (cp_fin H.out.1 H.out.2 H1.out.1 H2.out.2.2.1 H2.out.2.2.2.2.1 H2.out.2.2.2.2.2.1 H2.out.2.2.2.2.2.2 hx k9 hb9)
 clear hx hnG hb7 hb8 hb9 k9 c3
 go_wp2_with fail
 go_ret
 exact ⟨rfl, HE.out⟩
end
section
open Go.RowKit Go.Maps
theorem cap258 (w : World) : Calls Tryz.prog 85 #[.agg #[.int .i64 8, .int .i64 96]] w fun e w' => e = .returned (.int .i64 258) ∧ Below w.heap.size w w' := by
 have h := Go.Proofs.YthhndleddlmgiaaGreatDoor.Sp.cap_yes 8 96 w (by decide)
 rw [show ((40 * (3 * 8 / 8 * 96 - 2) - 64) / 44 : Int) = 258 by decide] at h
 exact h
theorem sBlocks {w : World} {F : Foot} {Ft : Nat → Foot} {sb gd mb gs pos num count g : Nat} {ns : List Nat} {m : MS} (h : StoX w F Ft sb gd mb gs pos num count ns m g) :
  Calls Tryz.prog 132 #[.pointer (some ⟨sb, 0, none⟩)] w fun e w' => e = .returned (.int .i64 258) ∧ Below w.heap.size w w' := by
 obtain ⟨c0, _⟩ := stcells_at h.bx
 have hgeo := geoD h.dev
 clear h
 go_enter Tryz.func132, Tryz.ntmps132
 go_wp2_with fail
 refine hgeo.mono ?_
 rintro e w1 ⟨rfl, hb1⟩
 have hc := cap258 w1
 have H1 := Lib.hid hb1
 clear hgeo hb1 c0
 go_wp2_with fail
 refine hc.mono ?_
 rintro e w2 ⟨rfl, hb2⟩
 have H2 := Lib.hid (H1.out.trans (hb2.mono H1.out.size))
 clear hc hb2
 go_wp2_with fail
 go_ret
 exact ⟨rfl, H2.out⟩
end
section
open Go.RowKit Go.Maps
theorem parse0 (A : Option Addr) (c : Nat) (w : World) : Calls Tryz.prog 79 #[.slice A 0 c] w fun e w' => (∃ gs b, e = .returned (.tuple #[.pointer (some ⟨gs, 0, none⟩), .bool true]) ∧ Bk w' gs 165 [.int .i64 0, .map (some b)] ∧ IM w' Tryz.prog 3 b 0 (fun _ => none) ∧ w.heap.size ≤ gs ∧ w.heap.size ≤ b) ∧ Below w.heap.size w w' := by
 have hmm := @run_makeMap Tryz.prog
 go_enter Tryz.func79, Tryz.ntmps79
 go_wp2_with fail
 go_ret2
 refine ⟨⟨w.heap.size + 1, w.heap.size, rfl, ?_, (IM.made w _ _).next ((Below.refl _ _).alloc (Nat.le_refl _) _), by omega, by omega⟩, ((Below.refl _ _).alloc (Nat.le_refl _) _).alloc (by simp) _⟩
 have := Bk.new (w.alloc (.map #[] 0)) 165 [.int .i64 0, .map (some w.heap.size)]
 simpa using this
end
section
open Go.RowKit Go.Maps
theorem stputs0 (gs b : Nat) (w : World) (hb : Bk w gs 165 [.int .i64 0, .map (some b)]) (hm : IM w Tryz.prog 3 b 0 (fun _ => none)) : Calls Tryz.prog 87 #[.pointer (some ⟨gs, 0, none⟩)] w fun e w' => e = .returned (.slice none 0 0) ∧ Below w.heap.size w w' := by
 obtain ⟨c0, c1⟩ := cells_two hb
 have hk := keysB_any b w
 have hso := sortedB_any b 0 (fun _ => none) w hm (Nat.zero_le _)
 clear hb hm
 go_enter Tryz.func87, Tryz.ntmps87
 go_wp2_with fail
 refine hk.mono ?_
 rintro e w1 ⟨rfl, rfl⟩
 clear hk
 go_wp2_with fail
 refine hso.mono ?_
 rintro e w2 ⟨⟨v, ks, rfl, hK, ho⟩, hb2⟩
 obtain ⟨kA, kc, rfl⟩ := own_shape ho
 have HB := Lib.hid hb2
 clear hso hK ho hb2 c0 c1
 go_wp2_with fail
 go_loopw [2, 12] (fun pv iv wr => pv = .slice none 0 0 ∧ iv = .int .i64 0 ∧ Hid (Below w.heap.size w wr)) (fun _ _ _ => 0)
 case atStart => exact ⟨rfl, rfl, HB.out⟩
 case round =>
  obtain ⟨rfl, rfl, HW⟩ := hrel
  go_wp2_with fail
  go_ret
  exact ⟨rfl, HW.out⟩
end
section
open Go.RowKit Go.Maps
theorem slog0 (F : Foot) (sb gd : Nat) (ns : List Nat) (w : World) (hd : Dev w F gd ns) (h6 : ns[6]? = some 0) (h7 : ns[7]? = some 0)
  (hc : ∀ w', Below w.heap.size w w' → w'.cell? ⟨sb, 0, none⟩ = some (.pointer (some ⟨gd, 0, none⟩)) ∧ w'.cell? ⟨sb, 3, none⟩ = some (.int .i64 6) ∧ w'.cell? ⟨sb, 4, none⟩ = some (.int .i64 7)) :
  Calls Tryz.prog 80 #[.pointer (some ⟨sb, 0, none⟩)] w fun e w' => e = .returned (.tuple #[.slice none 0 0, .slice none 0 0]) ∧ Below w.heap.size w w' := by
 obtain ⟨c0, c3, c4⟩ := hc w (Below.refl _ _)
 have hgeo := geoD hd
 have HC := Lib.hid hc
 have HP := Lib.hid (fun (z : Nat) (hz : z = 6 ∨ z = 7) (w' : World) (hb : Below w.heap.size w w') => pointerD (hd.ag (.of_below hb)) (i := z) (k := 0) (by rcases hz with rfl | rfl <;> assumption))
 clear hd h6 h7 hc
 go_enter Tryz.func80, Tryz.ntmps80
 go_wp2_with fail
 refine hgeo.mono ?_
 rintro e w1 ⟨rfl, hb1⟩
 have hgs := geo_size w1
 have HB := Lib.hid hb1
 clear hgeo c0 c3 c4
 obtain ⟨c0, c3, c4⟩ := HC.out w1 hb1
 clear hb1
 go_wp2_with fail
 go_loopw [2, 3, 5, 6] (fun ov bv gv zv wr => ov = .slice none 0 0 ∧ bv = .slice none 0 0 ∧ (∃ b, gv = .bool b) ∧ ∃ z : Nat, 6 ≤ z ∧ z ≤ 8 ∧ zv = .int .i64 (z : Int) ∧ Hid (Below w.heap.size w wr)) (fun _ _ _ zv _ => 8 - (intOf zv).toNat)
 case atStart => exact ⟨rfl, rfl, ⟨false, rfl⟩, 6, Nat.le_refl _, by decide, rfl, HB.out⟩
 case round =>
  obtain ⟨rfl, rfl, ⟨b, rfl⟩, z, hz6, hz8, rfl, HW⟩ := hrel
  clear c0 c3 c4
  obtain ⟨c0, c3, c4⟩ := HC.out wr HW.out
  rcases Nat.lt_or_ge z 8 with hlt | hge
  · obtain ⟨n1, m2⟩ := cp_num hlt
    have hp := HP.out z (by omega) wr HW.out
    have HK := Lib.hid (And.intro hz6 hlt)
    clear hz6 hz8 hlt
    go_wp2_with fail
    go_step3
    go_wp2_with fail
    refine hp.mono ?_
    rintro e w' ⟨rfl, rfl⟩
    clear hp
    go_wp2_with fail
    go_step3
    go_wp2_with fail
    go_loopw [2, 3, 42] (fun ov2 bv2 iv wr2 => ov2 = .slice none 0 0 ∧ bv2 = .slice none 0 0 ∧ iv = .int .i64 0 ∧ wr = wr2) (fun _ _ _ _ => 0)
    case atStart => exact ⟨rfl, rfl, rfl, rfl⟩
    case round =>
     obtain ⟨rfl, rfl, rfl, rfl⟩ := hrel
     cases b with
     | true =>
       go_wp2_with fail
       (try simp only [Exit.noGoto, Exit.inBlock, Exit.then])
       (try go_wp2_with fail)
       go_roundw
       case rel => exact ⟨rfl, rfl, ⟨_, rfl⟩, z + 1, Nat.le_succ_of_le HK.out.1, HK.out.2, int_succ (by first | rfl | exact m2), HW.out⟩
       case measure => exact sub_lt1 (x := (z : Int) + 1) HK.out.2 rfl
     | false =>
       go_wp2_with fail
       (try simp only [Exit.noGoto, Exit.inBlock, Exit.then])
       (try go_wp2_with fail)
       go_roundw
       case rel => exact ⟨rfl, rfl, ⟨_, rfl⟩, z + 1, Nat.le_succ_of_le HK.out.1, HK.out.2, int_succ (by first | rfl | exact m2), HW.out⟩
       case measure => exact sub_lt1 (x := (z : Int) + 1) HK.out.2 rfl
  · obtain rfl : z = 8 := Nat.le_antisymm hz8 hge
    go_wp2_with fail
    go_ret2
    exact ⟨rfl, HW.out⟩
end
section
open Go.RowKit Go.Maps
theorem sreplay0 (sb gd gs ts count : Nat) (inn : Int) (v : Value) (bs : List Int) (w : World) (hs : SloX w gd gs inn v bs count)
  (hc : ∀ w', Below w.heap.size w w' → w'.cell? ⟨sb, 6, none⟩ = some (.pointer (some ⟨gs, 0, none⟩)) ∧ w'.cell? ⟨sb, 7, none⟩ = some (.int .i64 0)) :
  Calls Tryz.prog 83 #[.pointer (some ⟨sb, 0, none⟩), .pointer (some ⟨ts, 0, none⟩), .slice none 0 0] w fun e w' => e = .returned (.bool false) ∧ Below w.heap.size w w' := by
 obtain ⟨c6, c7⟩ := hc w (Below.refl _ _)
 have hlo := load_any gd gs count inn v bs w hs
 have HC := Lib.hid hc
 clear hc hs
 go_enter Tryz.func83, Tryz.ntmps83
 go_wp2_with fail
 go_step3
 go_wp2_with fail
 refine hlo.mono ?_
 rintro e w1 ⟨⟨u, rfl, _⟩, hb1⟩
 have HB := Lib.hid hb1
 clear hlo c6 c7
 obtain ⟨c6, c7⟩ := HC.out w1 hb1
 clear hb1
 go_wp2_with fail
 go_step3
 go_wp2_with fail
 go_loopw [6] (fun tv wr => tv = .bool false ∧ Hid (Below w.heap.size w wr)) (fun _ _ => 0)
 case atStart => exact ⟨rfl, HB.out⟩
 case round =>
  obtain ⟨rfl, HW⟩ := hrel
  clear c6 c7
  obtain ⟨c6, c7⟩ := HC.out wr HW.out
  go_wp2_with fail
  (try simp only [Exit.noGoto, Exit.inBlock, Exit.then])
  (try go_wp2_with fail)
  go_ret
  exact ⟨rfl, HW.out⟩
end
section
open Go.RowKit Go.Maps
theorem own_putC {w : World} {B e s n c g k : Nat} {xs : List Value} {u : Value} (h : w.ownsRow B e s (.slice (some ⟨g, 0, none⟩) n c) n xs) :
  (w.setCell ⟨g, k, none⟩ u).ownsRow B e s (.slice (some ⟨g, 0, none⟩) n c) n (xs.set k u) := by
 refine ⟨by rw [List.length_set]; exact h.1, ?_⟩
 rcases h.2 with ⟨h0, _⟩ | ⟨g', cap, cur, hv, hB, hh, h1, h2, h3, h4⟩
 · cases h0
 · injection hv with hA _ hc
   injection hA with hA
   injection hA with hA
   subst hA hc
   refine .inr ⟨g, c, cur.setIfInBounds k u, rfl, hB, ?_, h1, h2, by simp [h3], ?_⟩
   · have hlt := lt_of hh
     have hg : w.heap[g] = .cells cur e (0, 0) := by rw [Array.getElem?_eq_getElem hlt] at hh; exact Option.some.inj hh
     simp [World.setCell, hlt, Array.getElem_modify, hg]
   · rw [Array.toList_setIfInBounds, List.take_set, h4]
theorem own_bk {w : World} {B e s n c g : Nat} {xs : List Value} (h : w.ownsRow B e s (.slice (some ⟨g, 0, none⟩) n c) n xs) : B ≤ g ∧ ∃ cs, Bk w g e cs := by
 rcases h.2 with ⟨h0, _⟩ | ⟨g', cap, cur, hv, hB, hh, _⟩
 · cases h0
 · injection hv with hA _ hc
   injection hA with hA
   injection hA with hA
   subst hA
   exact ⟨hB, cur.toList, by unfold Bk; rw [hh]⟩
section
variable {P : Program} {w : World}
theorem wp_appO {o : Oper} {a : Act} {K : Act → World → Prop} {Q : Exit → Act → World → Prop} (s x : Operand) (t : TypeId)
  (ho : o.op = .call { callee := .builtin .append, args := #[s, x], argTypes := #[t, t] })
  (e : TypeId) (i : TypeInfo) (z : Value) (size bytes : Nat) (ht : P.underlying t = some (.slice e)) (hi : P.info? e = some i) (hz : i.zero = some z)
  (hsize : i.size = size) (hby : i.bytes = bytes) (hzs : z.cells.size = size) (hs0 : 0 < size)
  (v : Value) (n : Nat) (xs : List Value) (hs : a.eval s = v) (hown : OwnO w e size v n xs)
  (ad : Addr) (m c : Nat) (news : List Value) (hx : a.eval x = .slice (some ad) m c) (hl : news.length = m * size) (hnews : ∀ j u, news[j]? = some u → w.cell? (ad.add j) = some u) (h1 : ∀ u ∈ news, u.oneCell' = true)
  (h63 : n + m ≤ 1000000) (hbytes : bytes ≤ 1000)
  (h : ∀ v' w', OwnO w' e size v' (n + m) (xs ++ news) → w.grownBy w' v.ownBlock → (v'.ownBlock = v.ownBlock ∨ ∀ g, v'.ownBlock = some g → w.heap.size ≤ g) → K (a.put o.dst v') w') : o.wp P a w K Q := by
 obtain ⟨v', w', hrun, h2, h3, h4⟩ := run_appO (P := P) (w := w) t o.type e i z size bytes ht hi hz hsize hby hzs hs0 v n xs hown ad m c news hl hnews h1 h63 hbytes
 unfold Oper.wp execOp
 simp only [ho, resolve, invoke, builtin, Sem.run_bind, Sem.run_pure, Result.andThen_ok, List.map_toArray, List.map_cons, List.map_nil, hs, hx, hrun]
 exact h v' w' h2 h3 h4
end
theorem five_getC {α : Type} {f : α → List Value} (hs : ∀ x, (f x).length = 5) {w : World} {B : Nat} {A : Option Addr} {l : List α} (h : Rd w B A (l.flatMap f)) {k : Nat} (hk : k < l.length) {u0 u1 u2 u3 u4 : Value} (hf : f l[k] = [u0, u1, u2, u3, u4]) :
  ∃ ad, A = some ad ∧ ad.block < B ∧ w.cell? (ad.add (k * 5)) = some u0 ∧ w.cell? ⟨(ad.add (k * 5)).block, (ad.add (k * 5)).off + 1, none⟩ = some u1 ∧ w.cell? ⟨(ad.add (k * 5)).block, (ad.add (k * 5)).off + 2, none⟩ = some u2 ∧ w.cell? ⟨(ad.add (k * 5)).block, (ad.add (k * 5)).off + 3, none⟩ = some u3 ∧ w.cell? ⟨(ad.add (k * 5)).block, (ad.add (k * 5)).off + 4, none⟩ = some u4 := by
 obtain ⟨ad, e, hb, hc⟩ := h (by rw [flat_len hs]; omega)
 have hx : ∀ j u, j < 5 → (f l[k])[j]? = some u → w.cell? (ad.add (k * 5 + j)) = some u := fun j u hj hu => hc (k * 5 + j) u (by rw [flat_get hs hk hj]; exact hu)
 have h0 := hx 0 u0 (by decide) (by rw [hf]; rfl)
 have h1 := hx 1 u1 (by decide) (by rw [hf]; rfl)
 have h2 := hx 2 u2 (by decide) (by rw [hf]; rfl)
 have h3 := hx 3 u3 (by decide) (by rw [hf]; rfl)
 have h4 := hx 4 u4 (by decide) (by rw [hf]; rfl)
 rw [Nat.add_zero] at h0
 rw [← add_twice] at h1 h2 h3 h4
 exact ⟨ad, e, hb, h0, h1, h2, h3, h4⟩
end
section
open Go.RowKit Go.Maps
def newS (sb gs : Nat) (Fm F : Foot) : Nat → Foot := fun j => match j with
 | 0 => fun b => b = sb
 | 1 => Fm
 | 2 => F
 | 3 => fun b => b = gs
 | _ => fun _ => False
theorem StoX.made {w w' : World} {F Fm : Foot} {sb gd mb gs : Nat} (hI : In w F) (hsb : w.heap.size ≤ sb) (hgs : sb < gs) (hFm : ∀ b, Fm b → gs < b) (bx : Bk w' sb 108 (stcells gd mb gs 0 0)) (man : Man w' Fm mb ms0 0) (dev : Dev w' F gd (List.replicate 8 0)) (slo : Slo w' (fun b => b = gs) gd gs 0) (hgl : gs < w'.heap.size) (hz : w.heap.size ≤ w'.heap.size) :
  ∃ F', Sto w' F' sb 0 ms0 0 ∧ Sb w F F' ∧ In w' F' := by
 have hin := man.inn
 have hi : ∀ {i b : Nat}, newS sb gs Fm F i b → (i = 0 ∧ b = sb) ∨ (i = 1 ∧ gs < b ∧ b < w'.heap.size) ∨ (i = 2 ∧ F b ∧ b < w.heap.size) ∨ (i = 3 ∧ b = gs) := fun {i b} q => by
  match i with
  | 0 => exact .inl ⟨rfl, q⟩
  | 1 => exact .inr (.inl ⟨rfl, hFm b q, hin b q⟩)
  | 2 => exact .inr (.inr (.inl ⟨rfl, q, hI b q⟩))
  | 3 => exact .inr (.inr (.inr ⟨rfl, q⟩))
  | n + 4 => exact q.elim
 have hlt : In w' (fun b => F b ∨ (w.heap.size ≤ b ∧ b < w'.heap.size)) := fun b q => q.elim (fun r => Nat.lt_of_lt_of_le (hI b r) hz) (fun r => r.2)
 have hbl := bx.lt
 refine ⟨fun b => F b ∨ (w.heap.size ≤ b ∧ b < w'.heap.size), ⟨newS sb gs Fm F, gd, mb, gs, 0, 0, List.replicate 8 0, ⟨⟨hlt, fun i b q => ?_, fun i j hn b q r => ?_⟩, bx, man, dev, slo.2, rfl, rfl, rfl, rfl, Nat.zero_le _, Nat.le_refl _, Nat.le_refl _⟩⟩, fun b q => q.imp id (fun r => r.1), hlt⟩
 · rcases hi q with ⟨_, h⟩ | ⟨_, h, h2⟩ | ⟨_, h, _⟩ | ⟨_, h⟩
   · exact .inr ⟨by omega, by omega⟩
   · exact .inr ⟨by omega, h2⟩
   · exact .inl h
   · exact .inr ⟨by omega, by omega⟩
 · rcases hi q with h1 | h1 | ⟨h0, _, h1⟩ | h1 <;> rcases hi r with h2 | h2 | ⟨h3, _, h2⟩ | h2 <;> omega
def stc0 (gd : Nat) (mv sv : Value) : List Value := [.pointer (some ⟨gd, 0, none⟩), .int .i64 0, .int .i64 3, .int .i64 6, .int .i64 7, mv, sv, .int .i64 0, .int .i64 0, .bool false]
theorem stc0_at {w : World} {sb gd : Nat} {mv sv : Value} (h : Bk w sb 108 (stc0 gd mv sv)) :
  w.cell? ⟨sb, 0, none⟩ = some (.pointer (some ⟨gd, 0, none⟩)) ∧ w.cell? ⟨sb, 3, none⟩ = some (.int .i64 6) ∧ w.cell? ⟨sb, 4, none⟩ = some (.int .i64 7) ∧ w.cell? ⟨sb, 5, none⟩ = some mv ∧ w.cell? ⟨sb, 6, none⟩ = some sv ∧ w.cell? ⟨sb, 7, none⟩ = some (.int .i64 0) :=
 ⟨h.cell (i := 0) (by simp [stc0]), h.cell (i := 3) (by simp [stc0]), h.cell (i := 4) (by simp [stc0]), h.cell (i := 5) (by simp [stc0]), h.cell (i := 6) (by simp [stc0]), h.cell (i := 7) (by simp [stc0])⟩
theorem split8 (w : World) : Calls Tryz.prog 75 #[.agg #[.int .i64 8, .int .i64 96]] w fun e w' => e = .returned (.tuple #[.agg #[.int .i64 0, .int .i64 3, .int .i64 6, .int .i64 7], .int .i64 0]) ∧ Below w.heap.size w w' := by
 have h := Go.Proofs.YthhndleddlmgiaaGreatDoor.Sp.split_yes 8 96 w (by decide)
 rw [show (3 * 8 / 8 : Int) = 3 by decide, show (2 * 3 : Int) = 6 by decide, show (8 - 1 : Int) = 7 by decide] at h
 exact h
end
section
open Go.RowKit Go.Maps
theorem mount_made {w13 w14 : World} {sb gd mb gs : Nat} (e : w13.setCell ⟨sb, 5, none⟩ (.pointer (some ⟨mb, 0, none⟩)) = w14) (h : Bk w13 sb 108 (stc0 gd (.pointer none) (.pointer (some ⟨gs, 0, none⟩)))) : Bk w14 sb 108 (stcells gd mb gs 0 0) ∧ Kf (fun b => b = sb) w13 w14 := by
 rw [← e]
 exact ⟨h.set 5 _, (Kf.refl (fun b => b = sb) w13).set h (by decide) (.inl rfl) 5 _⟩
theorem smount_any (F : Foot) (gd : Nat) (w : World) (hd : Dev w F gd (List.replicate 8 0)) (hI : In w F) :
  Calls Tryz.prog 40 #[.pointer (some ⟨gd, 0, none⟩)] w fun e w' => ∃ sb, e = .returned (.tuple #[.pointer (some ⟨sb, 0, none⟩), .int .i64 0]) ∧ ∃ F', Sto w' F' sb 0 ms0 0 ∧ Kf F w w' ∧ Sb w F F' ∧ In w' F' := by
 have hg := geoD hd
 go_enter Tryz.func40, Tryz.ntmps40
 go_wp2_with fail
 refine hg.mono ?_
 rintro e w1 ⟨rfl, hb1⟩
 clear hg
 have hs := split8 w1
 go_wp2_with fail
 refine hs.mono ?_
 rintro e w2 ⟨rfl, hb2⟩
 clear hs
 obtain ⟨g3, w3, hg3, hw3, hB3, hb3⟩ := alloc_of w2 104 [.int .i64 0, .int .i64 3, .int .i64 6, .int .i64 7]
 subst hg3
 obtain ⟨c0, c1, c2, c3⟩ := hB3.c4
 obtain ⟨sb, w4, hg4, hw4, hB4, hb4⟩ := alloc_of w3 108 [.pointer (some ⟨gd, 0, none⟩), .int .i64 0, .int .i64 3, .int .i64 6, .int .i64 7, .pointer none, .pointer none, .int .i64 0, .int .i64 0, .bool false]
 have hb14 : Below w.heap.size w w4 := hb1.trans ((hb2.trans ((hb3.trans (hb4.mono hb3.size)).mono hb2.size)).mono hb1.size)
 have hsb : w.heap.size ≤ sb := by rw [← hg4]; exact (hb1.trans ((hb2.trans (hb3.mono hb2.size)).mono hb1.size)).size
 have hB3' := hB3.next hb4 hB3.lt
 obtain ⟨z0, z1, z2, z3⟩ := hB3'.c4
 have ho := sopen_any F gd w4 (hd.ag (.of_below hb14)) (hI.next hb14.size)
 have hB4' : Bk w4 sb 108 (stc0 gd (.pointer none) (.pointer none)) := hB4
 have H4 := Lib.hid (And.intro hb14 (And.intro hsb (And.intro hB4' (And.intro hI hd))))
 clear hb1 hb2 hb3 hb4 hB3 hB3' hB4 hB4' hb14 hsb hd hI
 go_wp2_with fail
 refine ho.mono ?_
 rintro e w5 ⟨gs, rfl, hd5, hs5, hz5, hl5, hk5⟩
 clear ho z0 z1 z2 z3 c0 c1 c2 c3
 have hsF : ¬ F sb := fun q => by have := H4.out.2.2.2.1 sb q; have := H4.out.2.1; omega
 have hb5 : Bk w5 sb 108 (stc0 gd (.pointer none) (.pointer none)) := Bk.ag (F := fun b => b = sb) H4.out.2.2.1 (hk5.ag (fun b q r => hsF (by have q : b = sb := q; exact q ▸ r))) rfl
 have f6 := hb5.free 6
 have c6 := (stc0_at hb5).2.2.2.2.1
 obtain ⟨w6, hw6⟩ : ∃ w6, w5.setCell ⟨sb, 6, none⟩ (.pointer (some ⟨gs, 0, none⟩)) = w6 := ⟨_, rfl⟩
 have hb6 : Bk w6 sb 108 (stc0 gd (.pointer none) (.pointer (some ⟨gs, 0, none⟩))) := by rw [← hw6]; exact hb5.set 6 _
 have hsg : sb < gs := by have := H4.out.2.2.1.lt; omega
 have k56 : Kf (fun b => b = sb) w5 w6 := by rw [← hw6]; exact (Kf.refl (fun b => b = sb) w5).set hb5 (by decide) (.inl rfl) 6 _
 have hs6 := hs5.ag (F := fun b => b = gs) (k56.ag (fun b q r => by have q : b = gs := q; have r : b = sb := r; omega)) rfl
 have hd6 := hd5.ag (F := F) (k56.ag (fun b q r => hsF (by have r : b = sb := r; exact r ▸ q)))
 have hk46 : Kf (fun b => F b ∨ b = sb) w4 w6 := (hk5.mono (G := fun b => F b ∨ b = sb) (fun b q => .inl q)).trans (G := fun b => F b ∨ b = sb) (k56.mono (fun b q => .inr q)) (fun b q => .inl q)
 have hl := load_any gd gs 0 1 _ [] w6 hs6
 have H6 := Lib.hid (And.intro hb6 (And.intro hs6 (And.intro hd6 (And.intro hsg (And.intro hk46 (Nat.lt_of_lt_of_le hl5 k56.size))))))
 obtain ⟨x0, _, _, _, x6, x7⟩ := stc0_at hb6
 clear hb5 hb6 hs5 hs6 hd5 hd6 hz5 hl5 hk5 k56 hk46 hsF hsg
 go_wp2_with fail
 refine hl.mono ?_
 rintro e w7 ⟨⟨u, rfl, hy⟩, hb7⟩
 obtain ⟨uA, uc, rfl⟩ := own_shape hy.1
 have hp := parse0 uA uc w7
 clear hl hy x0 x6 x7
 go_wp2_with fail
 refine hp.mono ?_
 rintro e w8 ⟨⟨ts, tb, rfl, ht8, hm8, hz8, hz8'⟩, hb8⟩
 have hb68 : Below w6.heap.size w6 w8 := hb7.trans (hb8.mono hb7.size)
 clear hp hb8
 have KK := Lib.hid (fun (w' : World) (hS : Below w8.heap.size w8 w') => stc0_at (H6.out.1.next (hb68.trans (hS.mono hb68.size)) H6.out.1.lt))
 have hlo := slog0 F sb gd (List.replicate 8 0) w8 (H6.out.2.2.1.ag (.of_below hb68)) rfl rfl (fun w' hS => ⟨(KK.out w' hS).1, (KK.out w' hS).2.1, (KK.out w' hS).2.2.1⟩)
 have H8 := Lib.hid (And.intro ht8 (And.intro hm8 (And.intro hb68 (Nat.le_trans hb7.size hz8'))))
 clear ht8 hm8 hb68 hz8 hz8' hb7
 go_wp2_with fail
 refine hlo.mono ?_
 rintro e w9 ⟨rfl, hb9⟩
 clear hlo
 go_wp2_with fail
 refine (has_nil _ _).mono ?_
 rintro e w' ⟨rfl, rfl⟩
 go_wp2_with fail
 refine (has_nil _ _).mono ?_
 rintro e w' ⟨rfl, rfl⟩
 have hre := sreplay0 sb gd gs ts 0 1 _ [] w9 (H6.out.2.1.ag (F := fun b => b = gs) (.of_below (H8.out.2.2.1.trans (hb9.mono H8.out.2.2.1.size))) rfl) (fun w' hS => by
  have hq := stc0_at (H6.out.1.next (H8.out.2.2.1.trans ((hb9.trans (hS.mono hb9.size)).mono H8.out.2.2.1.size)) H6.out.1.lt)
  exact ⟨hq.2.2.2.2.1, hq.2.2.2.2.2⟩)
 go_wp2_with fail
 refine hre.mono ?_
 rintro e w10 ⟨rfl, hb10⟩
 have hb8A : Below w8.heap.size w8 w10 := hb9.trans (hb10.mono hb9.size)
 have hb6A : Below w6.heap.size w6 w10 := H8.out.2.2.1.trans (hb8A.mono H8.out.2.2.1.size)
 have HA := Lib.hid (And.intro hb8A hb6A)
 clear hre hb9 hb10 hb8A hb6A
 go_wp2_with fail
 have KM := Lib.hid (fun (w' : World) (hS : Below w10.heap.size w10 w') => cells_two ((H8.out.1.next HA.out.1 H8.out.1.lt).next hS (Nat.lt_of_lt_of_le H8.out.1.lt HA.out.1.size)))
 have Kq := KM
 refine anyM_start (fun w' => Below w10.heap.size w10 w') [14] (by kernel_rfl) (bdrew (Below.refl _ _)) (fun hHeld => ?_)
 refine kR 0 ?_; refine kR 1 ?_; refine kR 4 ?_; refine kR 5 ?_; refine kR 6 ?_
 refine kM 7 ?_
 refine rM 2 (fun K hK => ?_)
 go_simp
 refine (geoD (H6.out.2.2.1.ag (.of_below (HA.out.2.trans (hHeld.mono HA.out.2.size))))).mono ?_
 rintro e w11 ⟨rfl, hb11⟩
 have hS11 : Below w10.heap.size w10 w11 := hHeld.trans (hb11.mono hHeld.size)
 clear hb11
 go_simp
 refine hK.out _ _ (fun _ _ => hS11) ?_
 clear hK K hHeld
 have hHeld := hS11
 try simp only [Act.put, List.setIfInBounds_toArray, List.set_cons_zero, List.set_cons_succ]
 refine rM 3 (fun K hK => ?_)
 go_simp
 refine (cap258 _).mono ?_
 rintro e w12 ⟨rfl, hb12⟩
 have hS12 : Below w10.heap.size w10 w12 := hHeld.trans (hb12.mono hHeld.size)
 clear hb12
 go_simp
 refine hK.out _ _ (fun _ _ => hS12) ?_
 clear hK K hHeld
 have hHeld := hS12
 try simp only [Act.put, List.setIfInBounds_toArray, List.set_cons_zero, List.set_cons_succ]
 refine rM 8 (fun K hK => ?_)
 go_simp
 refine (mnew_any _).mono ?_
 rintro e w13 ⟨⟨mb, rfl, Fm, hm, hF⟩, hb13⟩
 have hS13 : Below w10.heap.size w10 w13 := hHeld.trans (hb13.mono hHeld.size)
 have HM := Lib.hid (And.intro hm (And.intro (fun (b : Nat) (q : Fm b) => Nat.le_trans hHeld.size (hF b q).1) hS13))
 have hb13' : Bk w13 sb 108 (stc0 gd (.pointer none) (.pointer (some ⟨gs, 0, none⟩))) := H6.out.1.next (HA.out.2.trans (hS13.mono HA.out.2.size)) H6.out.1.lt
 have x5 := (stc0_at hb13').2.2.2.1
 have f5 := hb13'.free 5
 obtain ⟨w14, hw14⟩ : ∃ w14, w13.setCell ⟨sb, 5, none⟩ (.pointer (some ⟨mb, 0, none⟩)) = w14 := ⟨_, rfl⟩
 have H14 := Lib.hid (mount_made hw14 hb13')
 clear hm hF hb13 hb13'
 go_simp
 refine hK.out _ _ (fun _ _ => hS13) ?_
 clear hK K hHeld
 have hHeld := hS13
 try simp only [Act.put, List.setIfInBounds_toArray, List.set_cons_zero, List.set_cons_succ]
 refine kR 9 ?_; refine kR 10 ?_; refine kR 11 ?_; refine kR 12 ?_; refine kR 13 ?_
 refine rM 14 (fun K hK => ?_)
 go_simp
 try rw [hw14]
 refine hK.out _ _ (fun h => absurd (by decide) h) ?_
 clear hK K
 try simp only [Act.put, List.setIfInBounds_toArray, List.set_cons_zero, List.set_cons_succ]
 refine kR 15 ?_
 refine anyM_done (by kernel_rfl) ?_ _
 clear Kq
 have a14 : Ag (fun b => b ≠ sb) w13 w14 := H14.out.2.ag (fun b q r => q r)
 have hsg := H6.out.2.2.2.1
 have hgl := H6.out.2.2.2.2.2
 have z6 := H8.out.2.2.1.size
 have z8 := HA.out.1.size
 have b613 : Below w6.heap.size w6 w13 := HA.out.2.trans (HM.out.2.2.mono HA.out.2.size)
 have b813 : Below w8.heap.size w8 w13 := HA.out.1.trans (HM.out.2.2.mono HA.out.1.size)
 have HT := Lib.hid (show Bk w14 ts 165 [.int .i64 0, .map (some tb)] ∧ IM w14 Tryz.prog 3 tb 0 (fun _ => none) from
  ⟨Bk.ag (F := fun b => b ≠ sb) (H8.out.1.next b813 H8.out.1.lt) a14 (bk_ne (H8.out.1.next b813 H8.out.1.lt) (H6.out.1.next b613 H6.out.1.lt) (by decide)), (H8.out.2.1.next b813).ag a14 (by have h1 := H8.out.2.2.2; have h2 := H6.out.1.lt; omega)⟩)
 have HT2 := Lib.hid (show Man w14 Fm mb ms0 0 from HM.out.1.ag (a14.mono (fun b q => by have := HM.out.2.1 b q; omega)))
 have H15 := Lib.hid (show Dev w14 F gd (List.replicate 8 0) ∧ SloX w14 gd gs 1 (.slice none 0 0) [] 0 from
  ⟨(H6.out.2.2.1.ag (.of_below b613)).ag (a14.mono (fun b q => by have h1 := H4.out.2.2.2.1 b q; have h2 := H4.out.2.1; omega)), (H6.out.2.1.ag (F := fun b => b = gs) (.of_below b613) rfl).ag (F := fun b => b = gs) (a14.mono (fun b q => by have q : b = gs := q; omega)) rfl⟩)
 obtain ⟨_, _, _, y5, _⟩ := stcells_at H14.out.1
 go_wp2_with fail
 have KN := Lib.hid (fun (w' : World) (hS : Below w14.heap.size w14 w') => (stcells_at (H14.out.1.next hS H14.out.1.lt)).2.2.2.1)
 have Kq := KN
 refine wp_region_held_drew (S := fun w' => Below w14.heap.size w14 w') (by kernel_rfl) (bdrew (Below.refl _ _)) (fun hHeld => ?_)
 refine kF 0 ?_; refine kF 1 ?_; refine kF 2 ?_; refine kF 3 ?_; refine kF 4 ?_
 refine rF 5 (fun K hK => ?_)
 go_simp
 refine (stputs0 ts tb _ (HT.out.1.next hHeld HT.out.1.lt) (HT.out.2.next hHeld)).mono ?_
 rintro e w15 ⟨rfl, hb15⟩
 have hS15 : Below w14.heap.size w14 w15 := hHeld.trans (hb15.mono hHeld.size)
 clear hb15
 go_simp
 refine hK.out _ _ (hS15) (fun hHeld2 => ?_)
 clear hK K hHeld
 have hHeld := hHeld2
 clear hHeld2
 try simp only [Act.put, List.setIfInBounds_toArray, List.set_cons_zero, List.set_cons_succ]
 refine rF 6 (fun K hK => ?_)
 go_simp
 refine (mload_any Fm mb 0 _ (HT2.out.next hHeld)).mono ?_
 rintro e w' ⟨rfl, rfl⟩
 go_simp
 refine hK.out _ _ (hHeld) (fun hHeld2 => ?_)
 clear hK K hHeld
 have hHeld := hHeld2
 clear hHeld2
 try simp only [Act.put, List.setIfInBounds_toArray, List.set_cons_zero, List.set_cons_succ]
 refine kF 7 ?_
 refine wpAnyH_done (by kernel_rfl) ?_ _
 clear Kq
 have HS15 := Lib.hid hS15
 clear hS15
 have HE := Lib.hid (by
  have hb15 := HS15.out
  obtain ⟨F', e1, e2, e3⟩ := StoX.made (w := w) (w' := w15) H4.out.2.2.2.1 H4.out.2.1 hsg (fun b q => by have := HM.out.2.1 b q; omega) (H14.out.1.next hb15 H14.out.1.lt) (HT2.out.next hb15) (H15.out.1.ag (.of_below hb15)) ⟨rfl, 1, _, _, H15.out.2.ag (F := fun b => b = gs) (.of_below hb15) rfl⟩ (by have := hb15.size; have := H14.out.2.size; have := b613.size; omega) (by have := hb15.size; have := H14.out.2.size; have := b613.size; have := H6.out.2.2.2.2.1.size; have := H4.out.1.size; omega)
  have kk : Kf (fun b => F b ∨ b = sb) w4 w15 := ((H6.out.2.2.2.2.1.next b613).trans (G := fun b => F b ∨ b = sb) (H14.out.2.mono (fun b q => .inr q)) (fun b q => .inl q)).next hb15
  exact (show ∃ F', Sto w15 F' sb 0 ms0 0 ∧ Kf F w w15 ∧ Sb w F F' ∧ In w15 F' from ⟨F', e1, (Kf.of_below (F := F) H4.out.1).trans kk (fun b q => q.imp id (fun e => by rw [e]; exact H4.out.2.1)), e2, e3⟩))
 clear a14 hsg hgl z6 z8 b613 b813
 go_wp2_with fail
 go_ret2
 exact ⟨sb, rfl, HE.out⟩
end
section
open Go.RowKit Go.Maps
structure SS where
 cls : List CLD
 es : List Nat
 bg : List BG
 m : MS
 ev : Nat
 pos : Nat
structure SchB (w : World) (F : Foot) (sb : Nat) (s : SS) (g : Nat) : Prop where
 x : ∃ Ft st gd alv, SchX w F Ft sb st (bptr gd) alv s.cls s.es s.es s.bg s.m s.ev s.pos g
 b : GoodB s.m s.bg s.ev
 ev : s.ev ≤ g
 num : ∀ c ∈ s.cls, c.na ≤ g ∧ c.bgs.length ≤ g
def SchR (w w' : World) (F : Foot) (sb : Nat) (s : SS) (g : Nat) : Prop := ∃ F', SchB w' F' sb s g ∧ Kf F w w' ∧ Sb w F F' ∧ In w' F'
section
variable {w w' : World} {F F' : Foot} {Ft : Nat → Foot} {sb st g pos ev : Nat} {dp alv : Value} {cls : List CLD} {al es : List Nat} {bg : List BG} {m : MS} {s : SS}
theorem Sto.inn (h : Sto w F sb pos m g) : In w F := by
 obtain ⟨Ft, gd, mb, gs, num, count, ns, h⟩ := h
 exact h.fam.lt
theorem Sto.big (h : Sto w F sb pos m g) : g ≤ 700 := by
 obtain ⟨Ft, gd, mb, gs, num, count, ns, h⟩ := h
 exact h.man.big
theorem Sto.good (h : Sto w F sb pos m g) : GoodM m := by
 obtain ⟨Ft, gd, mb, gs, num, count, ns, h⟩ := h
 exact h.man.good
theorem Sto.txs (h : Sto w F sb pos m g) : m.txs.length ≤ g := by
 obtain ⟨Ft, gd, mb, gs, num, count, ns, h⟩ := h
 exact h.man.txs
theorem Sto.giv (h : Sto w F sb pos m g) : m.given ≤ g := by
 obtain ⟨Ft, gd, mb, gs, num, count, ns, h⟩ := h
 exact h.man.giv
theorem Sto.num (h : Sto w F sb pos m g) : m.num ≤ g := by
 obtain ⟨Ft, gd, mb, gs, num, count, ns, h⟩ := h
 exact h.man.num
theorem SchX.up (h : SchX w F Ft sb st dp alv cls al es bg m ev pos g) (hg : g + 1 ≤ 700) : SchX w F Ft sb st dp alv cls al es bg m ev pos (g + 1) :=
 ⟨h.fam, h.bx, h.sto.up hg, h.all, h.beg, h.nd, h.cl8, h.cl, h.len, h.f0, h.f1, h.f2⟩
theorem SchB.big (h : SchB w F sb s g) : g ≤ 700 := by
 obtain ⟨Ft, st, gd, alv, hx⟩ := h.x
 exact hx.sto.big
theorem SchB.inn (h : SchB w F sb s g) : In w F := by
 obtain ⟨Ft, st, gd, alv, hx⟩ := h.x
 exact hx.fam.lt
theorem SchB.inF (h : SchB w F sb s g) : F sb := by
 obtain ⟨Ft, st, gd, alv, hx⟩ := h.x
 exact hx.inF
theorem SchB.c8 (h : SchB w F sb s g) : s.cls.length = 8 := by
 obtain ⟨Ft, st, gd, alv, hx⟩ := h.x
 exact hx.cl8
theorem SchB.next (h : SchB w F sb s g) (k : Below w.heap.size w w') : SchB w' F sb s g := by
 obtain ⟨Ft, st, gd, alv, hx⟩ := h.x
 exact ⟨⟨Ft, st, gd, alv, hx.next k⟩, h.b, h.ev, h.num⟩
theorem SchB.up (h : SchB w F sb s g) (hg : g + 1 ≤ 700) : SchB w F sb s (g + 1) := by
 obtain ⟨Ft, st, gd, alv, hx⟩ := h.x
 exact ⟨⟨Ft, st, gd, alv, hx.up hg⟩, h.b, Nat.le_succ_of_le h.ev, fun c hc => ⟨Nat.le_succ_of_le (h.num c hc).1, Nat.le_succ_of_le (h.num c hc).2⟩⟩
theorem SchR.same (h : SchB w F sb s g) (hg : g + 1 ≤ 700) (hb : Below w.heap.size w w') : SchR w w' F sb s (g + 1) :=
 ⟨F, (h.up hg).next hb, .of_below hb, fun b q => .inl q, h.inn.next hb.size⟩
theorem SchR.same0 (h : SchB w F sb s g) (hb : Below w.heap.size w w') : SchR w w' F sb s g :=
 ⟨F, h.next hb, .of_below hb, fun b q => .inl q, h.inn.next hb.size⟩
theorem SchR.trans {w1 : World} {s1 : SS} {g1 : Nat} (h : SchR w w1 F sb s1 g1) (k : ∀ F1, SchB w1 F1 sb s1 g1 → SchR w1 w' F1 sb s g) : SchR w w' F sb s g := by
 obtain ⟨F1, h1, h2, h3, h4⟩ := h
 obtain ⟨F2, k1, k2, k3, k4⟩ := k F1 h1
 exact ⟨F2, k1, h2.trans k2 h3, Sb.trans h3 k3 h2.size, k4⟩
theorem SchR.pre {w5 : World} (hb : Below w.heap.size w w5) (h : SchR w5 w' F sb s g) : SchR w w' F sb s g := by
 obtain ⟨F', h1, h2, h3, h4⟩ := h
 exact ⟨F', h1, (Kf.of_below (F := F) hb).trans h2 (fun b q => .inl q), fun b q => (h3 b q).imp id (Nat.le_trans hb.size), h4⟩
theorem SchR.post {w5 : World} (h : SchR w w5 F sb s g) (hb : Below w5.heap.size w5 w') : SchR w w' F sb s g := by
 obtain ⟨F', h1, h2, h3, h4⟩ := h
 exact ⟨F', h1.next hb, h2.next hb, h3, h4.next hb.size⟩
theorem SchR.up (h : SchR w w' F sb s g) (hg : g + 1 ≤ 700) : SchR w w' F sb s (g + 1) := by
 obtain ⟨F', h1, h2⟩ := h
 exact ⟨F', h1.up hg, h2⟩
theorem SchX.at_st (h : SchX w F Ft sb st dp alv cls al es bg m ev pos g) : w.cell? ⟨sb, 1, none⟩ = some (.pointer (some ⟨st, 0, none⟩)) := Bk.at' h.bx (i := 1) rfl
theorem SchX.at_ev (h : SchX w F Ft sb st dp alv cls al es bg m ev pos g) : w.cell? ⟨sb, 35, none⟩ = some (.int .i64 (ev : Int)) := Bk.at' h.bx (sc_ev h.cl8)
theorem SchX.at_all (h : SchX w F Ft sb st dp alv cls al es bg m ev pos g) : w.cell? ⟨sb, 34, none⟩ = some alv := Bk.at' h.bx (sc_all h.cl8)
theorem SchX.at_cl (h : SchX w F Ft sb st dp alv cls al es bg m ev pos g) {j : Nat} {c : CLD} (hj : cls[j]? = some c) :
  w.cell? ⟨sb, 2 + (j * 4 + 0), none⟩ = some c.ov ∧ w.cell? ⟨sb, 2 + (j * 4 + 1), none⟩ = some c.bv ∧ w.cell? ⟨sb, 2 + (j * 4 + 2), none⟩ = some c.av ∧ w.cell? ⟨sb, 2 + (j * 4 + 3), none⟩ = some (.bool c.asked) :=
 ⟨Bk.at' h.bx (sc_at h.cl8 hj (by decide) rfl), Bk.at' h.bx (sc_at h.cl8 hj (by decide) rfl), Bk.at' h.bx (sc_at h.cl8 hj (by decide) rfl), Bk.at' h.bx (sc_at h.cl8 hj (by decide) rfl)⟩
theorem SchX.evd (h : SchX w F Ft sb st dp alv cls al es bg m ev pos g) (e : w' = w.setCell ⟨sb, 35, none⟩ (.int .i64 ((ev + 1 : Nat) : Int))) : SchX w' F Ft sb st dp alv cls al es bg m (ev + 1) pos g ∧ Kf F w w' := by
 have k : Kf (fun b => b = sb) w w' := by rw [e]; exact (Kf.refl (fun b => b = sb) w).set h.bx (by decide) (.inl rfl) _ _
 have hb := h.bx.set 35 (.int .i64 ((ev + 1 : Nat) : Int))
 rw [sc_setEv h.cl8] at hb
 exact h.block k (by rw [e]; exact hb) h.cl8 h.cl
theorem SchX.storeR (h : SchX w F Ft sb st dp alv cls al es bg m ev pos g) {pos' : Nat} {m' : MS} (hr : StoR w w' (Ft 1) st pos' m' (g + 1)) (he : Ext m m') :
  ∃ F' Ft', SchX w' F' Ft' sb st dp alv cls al es bg m' ev pos' (g + 1) ∧ Kf F w w' ∧ Sb w F F' ∧ In w' F' := by
 obtain ⟨F', Ft', h1, h2, h3, h4, _⟩ := h.stod hr he
 exact ⟨F', Ft', h1, h2, h3, h4⟩
end
theorem sc_num {ev : Nat} (h : ev ≤ 1000) : wrap64 ((ev : Int) + 1) = (ev : Int) + 1 := by unfold wrap64; omega
section
variable {w w' w1 : World} {F F' : Foot} {Ft : Nat → Foot} {sb st g gd pos' : Nat} {alv : Value} {s : SS} {m' : MS}
theorem sch_sto (h : SchB w F sb s g) (hx : SchX w F Ft sb st (bptr gd) alv s.cls s.es s.es s.bg s.m s.ev s.pos g) (e : w1 = w.setCell ⟨sb, 35, none⟩ (.int .i64 ((s.ev : Int) + 1))) (hr : StoR w1 w' (Ft 1) st pos' m' (g + 1)) (hm : GoodM m') (he : Ext s.m m') (hl : m'.txs.length = s.m.txs.length) : SchR w w' F sb { s with m := m', pos := pos', ev := s.ev + 1 } (g + 1) := by
 obtain ⟨hx1, k1⟩ := hx.evd e
 obtain ⟨F', Ft', h1, h2, h3, h4⟩ := hx1.storeR hr he
 exact ⟨F', ⟨⟨Ft', st, gd, alv, h1⟩, h.b.next.ext hm he hl, Nat.succ_le_succ h.ev, fun c hc => ⟨Nat.le_succ_of_le (h.num c hc).1, Nat.le_succ_of_le (h.num c hc).2⟩⟩, k1.trans h2 (fun b q => .inl q), fun b q => (h3 b q).imp id (Nat.le_trans k1.size), h4⟩
theorem sch_sto0 (h : SchB w F sb s g) (hx : SchX w F Ft sb st (bptr gd) alv s.cls s.es s.es s.bg s.m s.ev s.pos g) (hr : StoR w w' (Ft 1) st pos' m' (g + 1)) (hm : GoodM m') (he : Ext s.m m') (hl : m'.txs.length = s.m.txs.length) : SchR w w' F sb { s with m := m', pos := pos' } (g + 1) := by
 obtain ⟨F', Ft', h1, h2, h3, h4⟩ := hx.storeR hr he
 exact ⟨F', ⟨⟨Ft', st, gd, alv, h1⟩, h.b.ext hm he hl, Nat.le_succ_of_le h.ev, fun c hc => ⟨Nat.le_succ_of_le (h.num c hc).1, Nat.le_succ_of_le (h.num c hc).2⟩⟩, h2, h3, h4⟩
end
end
section
open Go.RowKit Go.Maps
theorem sgone_any {w : World} {sb st : Nat} (c1 : w.cell? ⟨sb, 1, none⟩ = some (.pointer (some ⟨st, 0, none⟩))) :
  Calls Tryz.prog 21 #[.pointer (some ⟨sb, 0, none⟩)] w fun e w' => e = .returned (.bool false) ∧ w = w' := by
 go_enter Tryz.func21, Tryz.ntmps21
 go_wp2_with fail
 go_ret
 exact ⟨rfl, rfl⟩
theorem sclient_yes {w : World} {sb st j : Nat} (c1 : w.cell? ⟨sb, 1, none⟩ = some (.pointer (some ⟨st, 0, none⟩))) (hj : j < 8) :
  Calls Tryz.prog 28 #[.pointer (some ⟨sb, 0, none⟩), .int .i64 ((j : Int) + 1)] w fun e w' => e = .returned (.pointer (some ⟨sb, 2 + j * 4, none⟩)) ∧ w = w' := by
 have hg := sgone_any c1
 have n1 : ¬ ((j : Int) + 1 < 1) := by omega
 have n2 : ¬ ((8 : Int) < (j : Int) + 1) := by omega
 have n3 : wrap64 ((j : Int) + 1 - 1) = (j : Int) := by unfold wrap64; omega
 have n4 : (0 : Int) ≤ (j : Int) := by omega
 have n5 : (j : Int) < 8 := by omega
 go_enter Tryz.func28, Tryz.ntmps28
 go_wp2_with fail
 refine hg.mono ?_
 rintro e w' ⟨rfl, rfl⟩
 clear hg
 go_wp2_with fail
 go_ret
 exact ⟨rfl, rfl⟩
theorem sclient_no {w : World} {sb st : Nat} {k : Int} (c1 : w.cell? ⟨sb, 1, none⟩ = some (.pointer (some ⟨st, 0, none⟩))) (hk : k < 1 ∨ 8 < k) :
  Calls Tryz.prog 28 #[.pointer (some ⟨sb, 0, none⟩), .int .i64 k] w fun e w' => e = .returned (.pointer none) ∧ w = w' := by
 have hg := sgone_any c1
 have h1 : (decide (k < 1)) = true ∨ ((decide (k < 1)) = false ∧ (decide (8 < k)) = true) := by
  rcases hk with h | h
  · exact .inl (decide_eq_true h)
  · exact .inr ⟨decide_eq_false (by omega), decide_eq_true h⟩
 clear hk
 rcases h1 with h1 | ⟨h1, h2⟩
 · skip
   go_enter Tryz.func28, Tryz.ntmps28
   go_wp2_with fail
   refine hg.mono ?_
   rintro e w' ⟨rfl, rfl⟩
   clear hg
   go_wp2_with fail
   go_ret
   exact ⟨rfl, rfl⟩
 · skip
   go_enter Tryz.func28, Tryz.ntmps28
   go_wp2_with fail
   refine hg.mono ?_
   rintro e w' ⟨rfl, rfl⟩
   clear hg
   go_wp2_with fail
   go_ret
   exact ⟨rfl, rfl⟩
theorem scFlush {w : World} {F : Foot} {sb g : Nat} {s : SS} (h : SchB w F sb s g) (hg : g + 1 ≤ 700) :
  Calls Tryz.prog 7 #[.pointer (some ⟨sb, 0, none⟩)] w fun e w' => ∃ r : Int, e = .returned (.int .i64 r) ∧ ∃ pos' m', flR s.m s.pos r pos' m' ∧ SchR w w' F sb { s with m := m', pos := pos', ev := s.ev + 1 } (g + 1) := by
 obtain ⟨Ft, st, gd, alv, hx⟩ := h.x
 have c1 := hx.at_st
 have hgo := sgone_any c1
 have c35 := hx.at_ev
 have f35 := hx.bx.free 35
 have m2 := sc_num (ev := s.ev) (by have := h.ev; have := h.big; omega)
 obtain ⟨w1, hw1⟩ : ∃ w1, w.setCell ⟨sb, 35, none⟩ (.int .i64 ((s.ev : Int) + 1)) = w1 := ⟨_, rfl⟩
 obtain ⟨hx1, hk1⟩ := hx.evd (w' := w1) hw1.symm
 have d1 := hx1.at_st
 obtain ⟨Fs, gx, mb, gs, num, count, ns, hs⟩ := hx1.sto
 have hc := sFlush hs hg
 have H := Lib.hid (And.intro h (And.intro hg hx))
 clear hs h hg hx hx1 hk1
 go_enter Tryz.func7, Tryz.ntmps7
 go_wp2_with fail
 refine hgo.mono ?_
 rintro e w' ⟨rfl, rfl⟩
 clear hgo
 go_wp2_with fail
 refine hc.mono ?_
 rintro e w2 ⟨r, rfl, pos', m', hf, hr⟩
 have HR := Lib.hid (by obtain ⟨g1, g2, g3, _⟩ := fl_good H.out.1.b.gm (by have := H.out.2.2.sto.num; have := H.out.2.1; omega) hf; exact And.intro hf (sch_sto H.out.1 H.out.2.2 hw1.symm hr g1 g2 g3))
 clear hf hr
 clear hc
 go_wp2_with fail
 go_ret
 exact ⟨r, rfl, pos', m', HR.out⟩
theorem scCheck {w : World} {F : Foot} {sb g : Nat} {s : SS} (h : SchB w F sb s g) (hg : g + 1 ≤ 700) :
  Calls Tryz.prog 10 #[.pointer (some ⟨sb, 0, none⟩)] w fun e w' => e = .returned (.int .i64 0) ∧ SchR w w' F sb { s with pos := 0, ev := s.ev + 1 } (g + 1) := by
 obtain ⟨Ft, st, gd, alv, hx⟩ := h.x
 have c1 := hx.at_st
 have hgo := sgone_any c1
 have c35 := hx.at_ev
 have f35 := hx.bx.free 35
 have m2 := sc_num (ev := s.ev) (by have := h.ev; have := h.big; omega)
 obtain ⟨w1, hw1⟩ : ∃ w1, w.setCell ⟨sb, 35, none⟩ (.int .i64 ((s.ev : Int) + 1)) = w1 := ⟨_, rfl⟩
 obtain ⟨hx1, hk1⟩ := hx.evd (w' := w1) hw1.symm
 have d1 := hx1.at_st
 obtain ⟨Fs, gx, mb, gs, num, count, ns, hs⟩ := hx1.sto
 have hc := sCheckpoint hs hg
 have H := Lib.hid (And.intro h (And.intro hg hx))
 clear hs h hg hx hx1 hk1
 go_enter Tryz.func10, Tryz.ntmps10
 go_wp2_with fail
 refine hgo.mono ?_
 rintro e w' ⟨rfl, rfl⟩
 clear hgo
 go_wp2_with fail
 refine hc.mono ?_
 rintro e w2 ⟨rfl, hr⟩
 have HR := Lib.hid (sch_sto H.out.1 H.out.2.2 hw1.symm hr H.out.1.b.gm (Ext.refl _) rfl)
 clear hr
 clear hc
 go_wp2_with fail
 go_ret
 exact ⟨rfl, HR.out⟩
theorem scClean {w : World} {F : Foot} {sb g : Nat} {s : SS} (h : SchB w F sb s g) (hg : g + 1 ≤ 700) :
  Calls Tryz.prog 11 #[.pointer (some ⟨sb, 0, none⟩)] w fun e w' => (∃ r : Int, e = .returned (.int .i64 r)) ∧ SchR w w' F sb { s with ev := s.ev + 1 } (g + 1) := by
 obtain ⟨Ft, st, gd, alv, hx⟩ := h.x
 have c1 := hx.at_st
 have hgo := sgone_any c1
 have c35 := hx.at_ev
 have f35 := hx.bx.free 35
 have m2 := sc_num (ev := s.ev) (by have := h.ev; have := h.big; omega)
 obtain ⟨w1, hw1⟩ : ∃ w1, w.setCell ⟨sb, 35, none⟩ (.int .i64 ((s.ev : Int) + 1)) = w1 := ⟨_, rfl⟩
 obtain ⟨hx1, hk1⟩ := hx.evd (w' := w1) hw1.symm
 have d1 := hx1.at_st
 obtain ⟨Fs, gx, mb, gs, num, count, ns, hs⟩ := hx1.sto
 have hc := sClean hs hg
 have H := Lib.hid (And.intro h (And.intro hg hx))
 clear hs h hg hx hx1 hk1
 go_enter Tryz.func11, Tryz.ntmps11
 go_wp2_with fail
 refine hgo.mono ?_
 rintro e w' ⟨rfl, rfl⟩
 clear hgo
 go_wp2_with fail
 refine hc.mono ?_
 rintro e w2 ⟨⟨r, rfl⟩, hr⟩
 have HR := Lib.hid (sch_sto H.out.1 H.out.2.2 hw1.symm hr H.out.1.b.gm (Ext.refl _) rfl)
 clear hr
 clear hc
 go_wp2_with fail
 go_ret
 exact ⟨⟨r, rfl⟩, HR.out⟩
theorem scReadOnly {w : World} {F : Foot} {sb g : Nat} {s : SS} (h : SchB w F sb s g) (hg : g + 1 ≤ 700) (yes : Bool) :
  Calls Tryz.prog 27 #[.pointer (some ⟨sb, 0, none⟩), .bool yes] w fun e w' => e = .returned (.tuple #[]) ∧ SchR w w' F sb { s with m := { s.m with read := yes } } (g + 1) := by
 obtain ⟨Ft, st, gd, alv, hx⟩ := h.x
 have c1 := hx.at_st
 have hgo := sgone_any c1
 obtain ⟨Fs, gx, mb, gs, num, count, ns, hs⟩ := hx.sto
 have hc := sReadOnly hs hg yes
 have H := Lib.hid (And.intro h (And.intro hg hx))
 clear hs h hg hx
 go_enter Tryz.func27, Tryz.ntmps27
 go_wp2_with fail
 refine hgo.mono ?_
 rintro e w' ⟨rfl, rfl⟩
 clear hgo
 go_wp2_with fail
 refine hc.mono ?_
 rintro e w2 ⟨rfl, hr⟩
 have HR := Lib.hid (by obtain ⟨g1, g2⟩ := H.out.1.b.gm.readonly yes; exact sch_sto0 H.out.1 H.out.2.2 hr g1 g2 rfl)
 clear hr
 clear hc
 go_wp2_with fail
 go_end0
 exact ⟨rfl, HR.out⟩
end
section
open Go.RowKit Go.Maps
theorem infoAns0 : (Tryz.prog.info? 52).map (·.size) = some 5 := by kernel_rfl
theorem infoOp0 : (Tryz.prog.info? 45).map (·.size) = some 5 := by kernel_rfl
theorem res_ans {fn : Func} {p : Tmp} (h : fn.results = #[.cell p 52]) (tmps : Array Value) (w : World) (g : Nat) (cs : List Value) (hp : tmps.getD p undef = .pointer (some ⟨g, 0, none⟩)) (hg : Bk w g 52 cs) (hl : cs.length = 5 := by rfl) :
  (results fn tmps).run Tryz.prog w = .ok (.agg cs.toArray) w :=
 results_cell_row h tmps w g _ _ _ _ hp hg Tryz.underlying52 rfl (by rw [infoAns0]; simp [hl])
theorem res_op {fn : Func} {p : Tmp} (h : fn.results = #[.cell p 45]) (tmps : Array Value) (w : World) (g : Nat) (cs : List Value) (hp : tmps.getD p undef = .pointer (some ⟨g, 0, none⟩)) (hg : Bk w g 45 cs) (hl : cs.length = 5 := by rfl) :
  (results fn tmps).run Tryz.prog w = .ok (.agg cs.toArray) w :=
 results_cell_row h tmps w g _ _ _ _ hp hg Tryz.underlying45 rfl (by rw [infoOp0]; simp [hl])
theorem res_ans2 {fn : Func} {p u : Tmp} (h : fn.results = #[.cell p 52, .tmp u]) (tmps : Array Value) (w : World) (g : Nat) (cs : List Value) (hp : tmps.getD p undef = .pointer (some ⟨g, 0, none⟩)) (hg : Bk w g 52 cs) (hl : cs.length = 5 := by rfl) :
  (results fn tmps).run Tryz.prog w = .ok (.tuple #[.agg cs.toArray, tmps.getD u undef]) w := by
 rw [results_cell_tmp h, hp]
 simp [asAddr, run_loadVar_row w g 52 52 cs.toArray (0, 0) _ hg Tryz.underlying52 rfl (by rw [infoAns0]; simp [hl]), Result.andThen]
section
variable {w w9 a : World} {g g' t t' : Nat} {a0 a1 a2 a3 a4 v0 v1 v2 v3 v4 : Value} {cs : List Value} {B : Nat}
abbrev W5 (w : World) (g : Nat) (v0 v1 v2 v3 v4 : Value) : World := ((((w.setCell ⟨g, 0, none⟩ v0).setCell ⟨g, 1, none⟩ v1).setCell ⟨g, 2, none⟩ v2).setCell ⟨g, 3, none⟩ v3).setCell ⟨g, 4, none⟩ v4
theorem bk_set5 (h : Bk w g t [a0, a1, a2, a3, a4]) (e : W5 w g v0 v1 v2 v3 v4 = w9) : Bk w9 g t [v0, v1, v2, v3, v4] := by
 rw [← e]; exact ((((h.set 0 v0).set 1 v1).set 2 v2).set 3 v3).set 4 v4
theorem bk_far5 (h : Bk w g' t' cs) (hn : g' ≠ g) (e : W5 w g v0 v1 v2 v3 v4 = w9) : Bk w9 g' t' cs := by
 rw [← e]; exact ((((h.far (p := ⟨g, 0, none⟩) hn v0).far (p := ⟨g, 1, none⟩) hn v1).far (p := ⟨g, 2, none⟩) hn v2).far (p := ⟨g, 3, none⟩) hn v3).far (p := ⟨g, 4, none⟩) hn v4
theorem below5 (h : Below B a w) (hB : B ≤ g) (e : W5 w g v0 v1 v2 v3 v4 = w9) : Below B a w9 := by
 rw [← e]; exact ((((h.setCell (p := ⟨g, 0, none⟩) hB v0).setCell (p := ⟨g, 1, none⟩) hB v1).setCell (p := ⟨g, 2, none⟩) hB v2).setCell (p := ⟨g, 3, none⟩) hB v3).setCell (p := ⟨g, 4, none⟩) hB v4
theorem below1 {i : Nat} (h : Below B a w) (hB : B ≤ g) (e : w.setCell ⟨g, i, none⟩ v0 = w9) : Below B a w9 := by
 rw [← e]; exact h.setCell (p := ⟨g, i, none⟩) hB v0
end
theorem kept_any (op code h time : Int) (A : Option Addr) (n c : Nat) (bs : List Int) (w : World) (hy : IsY w A n c bs) (hn : n ≤ 1000000) :
  Calls Tryz.prog 32 #[.agg #[.int .i64 op, .int .i64 code, .int .i64 h, .int .i64 time, .slice A n c]] w fun e w' => (∃ A' c', e = .returned (.agg #[.int .i64 op, .int .i64 code, .int .i64 h, .int .i64 time, .slice A' n c'])) ∧ Below w.heap.size w w' := by
 obtain ⟨g1, w1, hzw1, hw1, Bw1, bw1⟩ := alloc_of w 52 [.int .i64 op, .int .i64 code, .int .i64 h, .int .i64 time, .slice A n c]
 obtain ⟨g2, w2, hzw2, hw2, Bw2, bw2⟩ := alloc_of w1 52 [.int .i64 0, .int .i64 0, .int .i64 0, .int .i64 0, .slice none 0 0]
 have B12 := Bw1.next bw2 Bw1.lt
 obtain ⟨c0, c1, c2, c3, c4⟩ := B12.c5
 have b02 : Below w.heap.size w w2 := bw1.trans (bw2.mono bw1.size)
 have hy2 := hy.ag (F := fun _ => False) (.of_below b02)
 have hcl := clone_any A n c w2.heap.size (bs.map (Value.int .u8)) w2 (by rw [List.length_map]; exact hy2.b.len) hy2.b.rd one_int hn (Nat.le_refl _)
 have hlt : g1 < g2 := by have := Bw1.lt; omega
 have HB := Lib.hid (And.intro b02 (And.intro B12 (And.intro Bw2 (And.intro (Nat.le_of_eq hzw1) hlt))))
 clear hy hy2 Bw1 bw1 Bw2 bw2 B12 b02 hlt
 go_enter Tryz.func32, Tryz.ntmps32
 go_wp2_with fail
 refine hcl.mono ?_
 rintro e w3 ⟨⟨v3, rfl, ho3⟩, hb3⟩
 obtain ⟨A3, k3, rfl⟩ := own_shape ho3
 clear hcl ho3 c0 c1 c2 c3 c4
 have B13 := HB.out.2.1.next hb3 HB.out.2.1.lt
 have B23 := HB.out.2.2.1.next hb3 HB.out.2.2.1.lt
 have f4 := B13.free 4
 have c4 := B13.cell (i := 4) (by simp)
 obtain ⟨w4, hw4⟩ : ∃ w4, w3.setCell ⟨g1, 4, none⟩ (.slice A3 n k3) = w4 := ⟨_, rfl⟩
 have B14 : Bk w4 g1 52 [.int .i64 op, .int .i64 code, .int .i64 h, .int .i64 time, .slice A3 n k3] := by rw [← hw4]; exact B13.set 4 _
 have B24 : Bk w4 g2 52 [.int .i64 0, .int .i64 0, .int .i64 0, .int .i64 0, .slice none 0 0] := by rw [← hw4]; exact B23.far (by have := HB.out.2.2.2.2; exact Nat.ne_of_gt this) _
 obtain ⟨d0, d1, d2, d3, d4⟩ := B14.c5
 obtain ⟨r0, r1, r2, r3, r4⟩ := B24.c5
 have q0 := B24.free 0
 have q1 := B24.free 1
 have q2 := B24.free 2
 have q3 := B24.free 3
 have q4 := B24.free 4
 obtain ⟨w5, hw5⟩ : ∃ w5, W5 w4 g2 (.int .i64 op) (.int .i64 code) (.int .i64 h) (.int .i64 time) (.slice A3 n k3) = w5 := ⟨_, rfl⟩
 have HR := Lib.hid (And.intro (bk_set5 B24 hw5) (below5 (below1 (HB.out.1.trans (hb3.mono HB.out.1.size)) HB.out.2.2.2.1 hw4) (Nat.le_trans HB.out.2.2.2.1 (Nat.le_of_lt HB.out.2.2.2.2)) hw5))
 unfold W5 at hw5
 clear B13 B23 B14 B24 hb3
 go_wp2_with fail
 refine bodyPost_ret (res_ans rfl _ _ _ _ (by rfl) HR.out.1) rfl ?_
 exact ⟨⟨_, _, rfl⟩, HR.out.2⟩
theorem SchX.cl1 {w : World} {F : Foot} {Ft : Nat → Foot} {sb st : Nat} {dp alv : Value} {cls : List CLD} {al es : List Nat} {bg : List BG} {m : MS} {ev pos g : Nat} (h : SchX w F Ft sb st dp alv cls al es bg m ev pos g) {j : Nat} {c : CLD} (hj : cls[j]? = some c) :
  w.cell? ⟨sb, 2 + j * 4, none⟩ = some c.ov ∧ w.cell? ⟨sb, 2 + j * 4 + 1, none⟩ = some c.bv ∧ w.cell? ⟨sb, 2 + j * 4 + 2, none⟩ = some c.av ∧ w.cell? ⟨sb, 2 + j * 4 + 3, none⟩ = some (.bool c.asked) := h.at_cl hj
theorem SchX.beg1 {w : World} {F : Foot} {Ft : Nat → Foot} {sb st : Nat} {dp alv : Value} {cls : List CLD} {al es : List Nat} {bg : List BG} {m : MS} {ev pos g : Nat} (h : SchX w F Ft sb st dp alv cls al es bg m ev pos g) {j i k : Nat} {c : CLD} (hj : cls[j]? = some c) (hk : c.bgs[i]? = some k) :
  ∃ gq cq e b, c.bv = .slice (some ⟨gq, 0, none⟩) c.bgs.length cq ∧ es[k]? = some e ∧ bg[k]? = some b ∧ w.cell? ⟨gq, i, none⟩ = some (bptr e) ∧ Bk w e 85 (bcells k b) := by
 have hc := h.cl j c hj
 have hi := get_lt hk
 have hkl := hc.bin k (List.mem_of_getElem? hk)
 obtain ⟨gq, cq, hv⟩ := own_slice hc.beg (by omega)
 have hb := h.len
 obtain ⟨e, he⟩ : ∃ e, es[k]? = some e := ⟨_, List.getElem?_eq_getElem hkl⟩
 obtain ⟨b, hbk⟩ : ∃ b, bg[k]? = some b := ⟨_, List.getElem?_eq_getElem (by omega)⟩
 refine ⟨gq, cq, e, b, hv, he, hbk, ?_, h.beg k e b he hbk⟩
 have hcs := hc.beg.cells (g := gq) (by rw [hv]; rfl) i (bptr e) (by rw [List.getElem?_map, hk]; simp [List.getD_eq_getElem?_getD, he])
 rw [Addr.add_lit, Nat.zero_add] at hcs; exact hcs
def atR (c : CLD) (es : List Nat) (h : Int) (e : Ending) : Prop := (∃ i k x : Nat, h = (i : Int) ∧ c.bgs[i]? = some k ∧ es[k]? = some x ∧ e = .returned (bptr x)) ∨ ((∀ i : Nat, h = (i : Int) → c.bgs[i]? = none) ∧ e = .returned (.pointer none))
theorem cat_any {w : World} {F : Foot} {Ft : Nat → Foot} {sb st : Nat} {dp alv : Value} {cls : List CLD} {al es : List Nat} {bg : List BG} {m : MS} {ev pos g : Nat} (h : SchX w F Ft sb st dp alv cls al es bg m ev pos g) {j : Nat} {c : CLD} (hj : cls[j]? = some c) (hl : c.bgs.length ≤ 1000) (x : Int) :
  Calls Tryz.prog 55 #[.pointer (some ⟨sb, 2 + j * 4, none⟩), .int .i64 x] w fun e w' => atR c es x e ∧ w = w' := by
 obtain ⟨c0, c1, c2, c3⟩ := h.cl1 hj
 obtain ⟨bA, bc, hbv⟩ := own_shape (h.cl j c hj).beg
 rw [hbv] at c1
 by_cases h0 : x < 0
 · have n0 : decide (x < 0) = true := decide_eq_true h0
   have HN := Lib.hid (show ∀ i : Nat, x = (i : Int) → c.bgs[i]? = none from fun i e => by omega)
   clear h0 h
   go_enter Tryz.func55, Tryz.ntmps55
   go_wp2_with fail
   go_ret
   exact ⟨.inr ⟨HN.out, rfl⟩, rfl⟩
 · obtain ⟨i, rfl⟩ : ∃ i : Nat, x = (i : Int) := ⟨x.toNat, by omega⟩
   clear h0
   rcases Nat.lt_or_ge i c.bgs.length with hlt | hge
   · obtain ⟨k, hk⟩ : ∃ k, c.bgs[i]? = some k := ⟨_, List.getElem?_eq_getElem hlt⟩
     obtain ⟨gq, cq, e, b, hv, he, hbk, ce, hB⟩ := h.beg1 hj hk
     rw [hbv] at hv
     injection hv with hv1 _ hv3
     subst hv1 hv3
     have z0 : w.cell? ⟨e, 0, none⟩ = some (.int .i64 ((k : Int) + 1)) := hB.cell (i := 0) (by simp [bcells])
     have n1 : ¬ ((c.bgs.length : Int) ≤ (i : Int)) := by omega
     have n2 : ¬ ((i : Int) < 0) := by omega
     have n3 : (0 : Int) ≤ (i : Int) := by omega
     have n4 : (i : Int) < (c.bgs.length : Int) := by omega
     have n5 : ¬ ((k : Int) + 1 = 0) := by omega
     have HN := Lib.hid (show atR c es (i : Int) (.returned (bptr e)) from .inl ⟨i, k, e, rfl, hk, he, rfl⟩)
     unfold bptr at ce
     clear hB hbk h he hk
     go_enter Tryz.func55, Tryz.ntmps55
     go_wp2_with fail
     go_ret
     exact ⟨HN.out, rfl⟩
   · have n1 : (c.bgs.length : Int) ≤ (i : Int) := by omega
     have n2 : ¬ ((i : Int) < 0) := by omega
     have HN := Lib.hid (show ∀ i' : Nat, (i : Int) = (i' : Int) → c.bgs[i']? = none from fun i' e => by rw [List.getElem?_eq_none]; omega)
     clear h
     go_enter Tryz.func55, Tryz.ntmps55
     go_wp2_with fail
     go_ret
     exact ⟨.inr ⟨HN.out, rfl⟩, rfl⟩
end
section
open Go.RowKit Go.Maps
theorem clone_put (A : Option Addr) (n c : Nat) (xs : List Value) (w : World) (hl : xs.length = n * 2) (h : Rd w w.heap.size A xs) (h1 : ∀ u ∈ xs, u.oneCell' = true) (hn : n ≤ 100000) :
  Calls Tryz.prog 51 #[.slice A n c] w fun e w' => (∃ v, e = .returned v ∧ w'.ownsRow w.heap.size 50 2 v n xs) ∧ Below w.heap.size w w' := by
 obtain ⟨xi, xz, hxi, hxz, hx5, hx56, hxc⟩ := infoPut
 have q : ∀ (w : World) (a : Option Addr) (n c n' c' : Nat), (binOp .eql 43 (.slice a n c) (.slice none n' c')).run Tryz.prog w = .ok (.bool a.isNone) w := fun w a n c n' c' => Lib.run_eql_slice_nil w _ _ a n c n' c' Tryz.underlying43
 cases A with
 | none =>
   have hx : xs = [] := by
    rcases Nat.eq_zero_or_pos xs.length with e | e
    · exact List.length_eq_zero_iff.1 e
    · obtain ⟨_, e, _⟩ := h e; cases e
   subst hx
   have hn0 : n = 0 := by simp at hl; omega
   subst hn0
   clear h hn hl h1
   go_enter Tryz.func51, Tryz.ntmps51
   go_wp2_with fail
   go_ret
   exact ⟨⟨_, rfl, rfl, .inl ⟨rfl, rfl⟩⟩, Below.refl _ _⟩
 | some ad =>
   have HR := Lib.hid (And.intro h h1)
   have HN := Lib.hid hn
   clear h hn h1
   go_enter Tryz.func51, Tryz.ntmps51
   go_wp2_with (at_builtin; go_must (refine wpList_appM _ rfl _ _ 43 rfl w.heap.size 50 xi xz 2 32 Tryz.underlying43 hxi hxz hx5 hx56 hxc (by omega) _ 0 [] (by rfl) (by exact World.ownsRow_lit w #[] 0 (Nat.le_refl _) (by decide) rfl) w.heap.size (some ad) n c xs (by rfl) (by exact hl) (by exact HR.out.1.alloc (Nat.le_refl _) _) HR.out.2 (by have := HN.out; omega) (by have := HN.out; omega) (by simp) ?_); intro v1 w1 hO1 hG1 hv1)
   have HB : Below w.heap.size w w1 := ((Below.refl _ _).alloc (Nat.le_refl _) _).grown hG1 (by simp) (fun g hg => Nat.le_of_eq (Option.some.inj (show some w.heap.size = some g from hg)))
   have HE := Lib.hid (show w1.ownsRow w.heap.size 50 2 v1 n xs from by simpa using hO1)
   clear hO1 hG1 hv1
   go_ret
   exact ⟨⟨v1, rfl, HE.out⟩, HB⟩
def sameP (ps ps' : List PutD) : Prop := ps'.map (fun p => (p.lba, p.n)) = ps.map (fun p => (p.lba, p.n))
structure IsYa (w : World) (G : Foot) (A : Option Addr) (n c : Nat) (bs : List Int) : Prop where
 b : IsB w A n c bs
 y : ∀ ad, A = some ad → 0 < n → ∃ ob, w.heap[ad.block]? = some ob ∧ (G ad.block ∨ Dat ob)
section
variable {w w' : World} {G G' : Foot} {A : Option Addr} {n c : Nat} {bs : List Int} {ps : List PutD}
theorem IsYa.ag (h : IsYa w G A n c bs) (k : Ag G w w') : IsYa w' G A n c bs := by
 refine ⟨⟨h.b.len, fun hl => ?_, h.b.wf, h.b.cap, h.b.big⟩, fun ad e hn => ?_⟩
 · obtain ⟨ad, e, hb, hc⟩ := h.b.rd hl
   refine ⟨ad, e, Nat.lt_of_lt_of_le hb k.size, fun j u hu => ?_⟩
   obtain ⟨ob, ho, hd⟩ := h.y ad e (by have := h.b.len; rw [List.length_map] at hl; omega)
   have := hc j u hu
   rw [World.cell?_of_block (w := w) (w' := w') (by rw [add_block, ho, k.keep _ _ ho hd])]
   exact this
 · obtain ⟨ob, ho, hd⟩ := h.y ad e hn
   exact ⟨ob, k.keep _ _ ho hd, hd⟩
theorem IsYa.mono (h : IsYa w G A n c bs) (hs : ∀ b, G b → G' b) : IsYa w G' A n c bs := ⟨h.b, fun ad e hn => by
 obtain ⟨ob, ho, hd⟩ := h.y ad e hn
 exact ⟨ob, ho, hd.imp (hs _) id⟩⟩
theorem IsYa.low (h : IsYa w G A n c bs) : IsYa w (fun b => b < w.heap.size) A n c bs := ⟨h.b, fun ad e hn => by
 obtain ⟨ob, ho, hd⟩ := h.y ad e hn
 exact ⟨ob, ho, .inl (lt_of ho)⟩⟩
theorem IsYa.isY (h : IsYa w G A n c bs) (hn : ∀ b, ¬ G b) : IsY w A n c bs := ⟨h.b, fun ad e q => by
 obtain ⟨ob, ho, hd⟩ := h.y ad e q
 exact ⟨ob, ho, hd.elim (fun r => (hn _ r).elim) id⟩⟩
theorem IsY.a (h : IsY w A n c bs) (G : Foot) : IsYa w G A n c bs := ⟨h.b, fun ad e q => by
 obtain ⟨ob, ho, hd⟩ := h.y ad e q
 exact ⟨ob, ho, .inr hd⟩⟩
theorem byt_ya {w8 : World} {yA : Option Addr} {yc : Nat} (h : IsYa w G A n c bs) (ho : w8.ownsRow 0 5 1 (.slice yA n yc) n (bs.map (Value.int .u8))) : IsY w8 yA n yc bs := by
 have hl := h.b.len
 obtain ⟨A', c', e, hy⟩ := Byt.isY (w := w8) (B := 0) (v := .slice yA n yc) (bs := bs) ⟨by rw [hl]; exact ho, h.b.wf⟩
 rw [hl] at e hy
 injection e with e1 _ e2
 subst e1 e2
 exact hy
structure IsPa (w : World) (G : Foot) (A : Option Addr) (n c : Nat) (ps : List PutD) : Prop where
 len : ps.length = n
 rd : Rd w w.heap.size A (ps.flatMap PutD.cells)
 y : ∀ p ∈ ps, IsYa w G p.A p.n p.c p.bs
 cap : n ≤ c
 big : c ≤ maxLen
theorem IsPa.agn (h : IsPa w G A n c ps) (k : Ag G w w') (hG : ∀ ad, A = some ad → 0 < n → G ad.block) : IsPa w' G A n c ps :=
 ⟨h.len, Rd.agn h.rd k (fun ad e q => hG ad e (by rw [flat_len put_two, h.len] at q; omega)), fun p hp => (h.y p hp).ag k, h.cap, h.big⟩
theorem IsPa.next (h : IsPa w G A n c ps) (hb : Below w.heap.size w w') : IsPa w' G A n c ps :=
 ⟨h.len, Rd.ag h.rd (.of_below (F := fun _ => True) hb) (fun _ _ => trivial), fun p hp => (h.y p hp).ag (.of_below hb), h.cap, h.big⟩
theorem IsPs.a (h : IsPs w A n c ps) (G : Foot) : IsPa w G A n c ps := ⟨h.len, h.rd, fun p hp => (h.y p hp).a G, h.cap, h.big⟩
end
structure OwX (w wr : World) (B g1 : Nat) (kd h lba len : Int) (v : Value) (n i : Nat) (ps ps' : List PutD) : Prop where
 own : wr.ownsRow B 50 2 v n (ps'.flatMap PutD.cells)
 y : ∀ j p, ps'[j]? = some p → IsYa wr (fun b => i ≤ j ∧ b < w.heap.size) p.A p.n p.c p.bs
 same : sameP ps ps'
 bx : Bk wr g1 45 [.int .i64 kd, .int .i64 h, .int .i64 lba, .int .i64 len, v]
 bel : Below w.heap.size w wr
 ge : w.heap.size ≤ B
section
variable {w wr w9 w10 : World} {B g1 : Nat} {kd h lba len : Int} {v : Value} {n m : Nat} {ps ps' : List PutD}
theorem OwX.next (x : OwX w wr B g1 kd h lba len v n m ps ps') (hb : Below wr.heap.size wr w9) : OwX w w9 B g1 kd h lba len v n m ps ps' :=
 ⟨own_bel' x.own hb, fun j p hp => (x.y j p hp).ag (.of_below hb), x.same, x.bx.next hb x.bx.lt, x.bel.trans (hb.mono x.bel.size), x.ge⟩
theorem OwX.le (x : OwX w wr B g1 kd h lba len v n m ps ps') : ps'.length = n := by
 have := x.own.1
 rw [flat_len put_two] at this; omega
theorem OwX.at_ (x : OwX w wr B g1 kd h lba len v n m ps ps') {i : Nat} {p : PutD} (hp : ps'[i]? = some p) : ∃ gq c, v = .slice (some ⟨gq, 0, none⟩) n c ∧ wr.cell? ⟨gq, i * 2 + 1, none⟩ = some (.slice p.A p.n p.c) := by
 have hi := get_lt hp
 have hl := x.le
 have hrd := x.own
 obtain ⟨A, c, rfl⟩ := own_shape hrd
 obtain ⟨gq, cap, hv, _, _⟩ := hrd.form (by omega)
 injection hv with hA _ hc
 subst hA hc
 refine ⟨gq, c, rfl, ?_⟩
 have h1 := hrd.cells (g := gq) rfl (i * 2 + 1) (.slice p.A p.n p.c) (by
  rw [flat_get put_two hi (by decide)]
  rw [List.getElem?_eq_getElem hi] at hp
  rw [Option.some.inj hp]; rfl)
 rw [Addr.add_lit, Nat.zero_add] at h1
 exact h1
theorem OwX.at2 {gq c : Nat} (x : OwX w wr B g1 kd h lba len (.slice (some ⟨gq, 0, none⟩) n c) n m ps ps') {i : Nat} {p : PutD} (hp : ps'[i]? = some p) : wr.cell? ⟨gq, i * 2 + 1, none⟩ = some (.slice p.A p.n p.c) := by
 obtain ⟨gq', c', hv, h⟩ := x.at_ hp
 injection hv with hA _ hc
 injection hA with hA
 injection hA with hA
 subst hA
 exact h
theorem OwX.step {i : Nat} (x : OwX w wr B g1 kd h lba len v n i ps ps') {gq c : Nat} {p : PutD} (hp : ps'[i]? = some p) (hv : v = .slice (some ⟨gq, 0, none⟩) n c) (hb : Below wr.heap.size wr w9) {A9 : Option Addr} {c9 : Nat} (hy : IsY w9 A9 p.n c9 p.bs) (e : w9.setCell ⟨gq, i * 2 + 1, none⟩ (.slice A9 p.n c9) = w10) :
  OwX w w10 B g1 kd h lba len v n (i + 1) ps (ps'.set i ⟨p.lba, A9, p.n, c9, p.bs⟩) := by
 have x9 := x.next hb
 have hi := get_lt hp
 have ho := x9.own
 rw [hv] at ho
 obtain ⟨hBg, cs, hbk⟩ := own_bk ho
 have e' := e
 have k : Kf (fun b => b = gq) w9 w10 := by rw [← e']; exact (Kf.refl (fun b => b = gq) w9).set hbk (by decide) (.inl rfl) _ _
 have ag : Ag (fun _ => False) w9 w10 := k.ag (fun b q => q.elim)
 have hne : g1 ≠ gq := bk_ne x9.bx hbk (by decide)
 refine ⟨?_, fun j q hq => ?_, ?_, Bk.ag (F := fun b => b = g1) x9.bx (k.ag (fun b q r => hne (q.symm.trans r))) rfl, ?_, x.ge⟩
 · rw [hv, ← e', ← cflat_set (f := PutD.cells) (n := 2) (i := 1) put_two (by decide) ps' i hi (a' := ⟨p.lba, A9, p.n, c9, p.bs⟩) (u := .slice A9 p.n c9) (by rw [List.getElem?_eq_getElem hi] at hp; rw [Option.some.inj hp]; rfl)]
   exact own_putC ho
 · by_cases hji : i = j
   · subst hji
     rw [List.getElem?_set_self hi] at hq
     injection hq with hq
     subst hq
     exact (hy.ag ag).a _
   · rw [List.getElem?_set_ne hji] at hq
     exact ((x9.y j q hq).ag (k.ag (fun b q' r => by have h1 := x.ge; have h2 : b = gq := r; have h3 := q'.2; omega))).mono (fun b q' => ⟨by have := q'.1; omega, q'.2⟩)
 · unfold sameP
   rw [List.map_set]
   show (ps'.map _).set i (p.lba, p.n) = _
   rw [← x.same]
   apply List.ext_getElem?
   intro j
   rw [List.getElem?_set]
   split
   · rename_i ej; subst ej
     split
     · rw [List.getElem?_map, hp]; rfl
     · rename_i hn; rw [List.length_map] at hn; omega
   · rfl
 · rw [← e']; exact x9.bel.setCell (p := ⟨gq, i * 2 + 1, none⟩) (Nat.le_trans x.ge hBg) _
end
structure OwnR (w w' : World) (n : Nat) (ps : List PutD) (A' : Option Addr) (c' : Nat) (ps' : List PutD) : Prop where
 is : IsPs w' A' n c' ps'
 same : sameP ps ps'
 new : ∀ ad, A' = some ad → w.heap.size ≤ ad.block ∧ ∃ cs fr, w'.heap[ad.block]? = some (.cells cs 50 fr)
theorem OwX.out {w wr : World} {B g1 : Nat} {kd h lba len : Int} {A' : Option Addr} {n c' : Nat} {ps ps' : List PutD} (x : OwX w wr B g1 kd h lba len (.slice A' n c') n n ps ps') : OwnR w wr n ps A' c' ps' :=
 ⟨⟨x.le, rd_of_own x.own, fun p hp => by
   obtain ⟨j, hj, e⟩ := List.getElem_of_mem hp
   exact (x.y j p (by rw [List.getElem?_eq_getElem hj, e])).isY (fun b q => by have := x.le; omega), (own_caps x.own).1, (own_caps x.own).2⟩, x.same, fun ad e => by
  subst e
  have := own_at_ge (g := ad.block) x.own rfl
  exact ⟨Nat.le_trans x.ge this, own_at x.own rfl⟩⟩
theorem OwnR.next {w w' w9 : World} {n : Nat} {ps : List PutD} {A' : Option Addr} {c' : Nat} {ps' : List PutD} (h : OwnR w w' n ps A' c' ps') (hb : Below w'.heap.size w' w9) : OwnR w w9 n ps A' c' ps' :=
 ⟨h.is.next hb, h.same, fun ad e => by
  obtain ⟨h1, cs, fr, h2⟩ := h.new ad e
  exact ⟨h1, cs, fr, (hb.block _ (lt_of h2)).trans h2⟩⟩
theorem Below5A {w w9 : World} {g2 t : Nat} {a0 a1 a2 a3 a4 v0 v1 v2 v3 v4 : Value} (h : Bk w g2 t [a0, a1, a2, a3, a4]) (ht : t ≠ 5) (e : W5 w g2 v0 v1 v2 v3 v4 = w9) : Kf (fun b => b = g2) w w9 := by
 rw [← e]
 exact (((((Kf.refl (fun b => b = g2) w).set h ht (.inl rfl) 0 v0).set (h.set 0 v0) ht (.inl rfl) 1 v1).set ((h.set 0 v0).set 1 v1) ht (.inl rfl) 2 v2).set (((h.set 0 v0).set 1 v1).set 2 v2) ht (.inl rfl) 3 v3).set ((((h.set 0 v0).set 1 v1).set 2 v2).set 3 v3) ht (.inl rfl) 4 v4
theorem OwnR.ag {w w' w9 : World} {n : Nat} {ps : List PutD} {A' : Option Addr} {c' : Nat} {ps' : List PutD} {G : Foot} (h : OwnR w w' n ps A' c' ps') (k : Kf G w' w9) (hG : ∀ ad, A' = some ad → ¬ G ad.block) : OwnR w w9 n ps A' c' ps' :=
 ⟨h.is.ag (G := fun b => ¬ G b) (k.ag (fun b q r => q r)) hG, h.same, fun ad e => by
  obtain ⟨h1, cs, fr, h2⟩ := h.new ad e
  exact ⟨h1, cs, fr, k.keep _ _ h2 (.inl (hG ad e))⟩⟩
theorem own_fin {w wr w9 : World} {B g1 g2 : Nat} {kd h lba len : Int} {A' : Option Addr} {n c' : Nat} {ps ps' : List PutD} {a0 a1 a2 a3 a4 v0 v1 v2 v3 v4 : Value} (x : OwX w wr B g1 kd h lba len (.slice A' n c') n n ps ps') (hb : Bk wr g2 45 [a0, a1, a2, a3, a4]) (hg : w.heap.size ≤ g2) (e : W5 wr g2 v0 v1 v2 v3 v4 = w9) : OwnR w w9 n ps A' c' ps' ∧ Below w.heap.size w w9 :=
 ⟨x.out.ag (Below5A hb (by decide) e) (fun ad q r => own_ne_bk x.own hb (by decide) (by rw [q]; exact congrArg some r)), below5 x.bel hg e⟩
theorem sameP_n {ps ps' : List PutD} (h : sameP ps ps') {b : Nat} (hb : ∀ p ∈ ps, p.n ≤ b) : ∀ p ∈ ps', p.n ≤ b := fun p hp => by
 have h1 : (p.lba, p.n) ∈ ps'.map (fun p => (p.lba, p.n)) := List.mem_map.2 ⟨p, hp, rfl⟩
 rw [show ps'.map (fun p => (p.lba, p.n)) = ps.map (fun p => (p.lba, p.n)) from h] at h1
 obtain ⟨q, hq, e⟩ := List.mem_map.1 h1
 injection e with _ e
 rw [← e]; exact hb q hq
theorem own_any (kd h lba len : Int) (G : Foot) (A : Option Addr) (n c : Nat) (ps : List PutD) (w : World) (hp : IsPa w G A n c ps) (hn : n ≤ 20000) (hq : ∀ p ∈ ps, p.n ≤ 20000) :
  Calls Tryz.prog 29 #[.agg #[.int .i64 kd, .int .i64 h, .int .i64 lba, .int .i64 len, .slice A n c]] w fun e w' => (∃ A' c' ps', e = .returned (.agg #[.int .i64 kd, .int .i64 h, .int .i64 lba, .int .i64 len, .slice A' n c']) ∧ OwnR w w' n ps A' c' ps') ∧ Below w.heap.size w w' := by
 obtain ⟨g1, w1, hzw1, hw1, Bw1, bw1⟩ := alloc_of w 45 [.int .i64 kd, .int .i64 h, .int .i64 lba, .int .i64 len, .slice A n c]
 obtain ⟨g2, w2, hzw2, hw2, Bw2, bw2⟩ := alloc_of w1 45 [.int .i64 0, .int .i64 0, .int .i64 0, .int .i64 0, .slice none 0 0]
 have B12 := Bw1.next bw2 Bw1.lt
 obtain ⟨c0, c1, c2, c3, c4⟩ := B12.c5
 have b02 : Below w.heap.size w w2 := bw1.trans (bw2.mono bw1.size)
 have hp2 := hp.next b02
 have hcl := clone_put A n c (ps.flatMap PutD.cells) w2 (by rw [flat_len put_two, hp.len]) hp2.rd (by intro u hu; obtain ⟨p, _, hu⟩ := List.mem_flatMap.1 hu; simp [PutD.cells] at hu; rcases hu with rfl | rfl <;> rfl) (by omega)
 have hlt : g1 < g2 := by have := Bw1.lt; omega
 have HB := Lib.hid (And.intro b02 (And.intro B12 (And.intro Bw2 (And.intro (Nat.le_of_eq hzw1) (And.intro hlt (And.intro (show ∀ p ∈ ps, IsYa w2 (fun b => b < w.heap.size) p.A p.n p.c p.bs from fun p hm => (hp.y p hm).low.ag (.of_below b02)) (And.intro hn hq)))))))
 clear hp hp2 Bw1 bw1 Bw2 bw2 B12 b02 hlt hn hq
 go_enter Tryz.func29, Tryz.ntmps29
 go_wp2_with fail
 refine hcl.mono ?_
 rintro e w3 ⟨⟨v3, rfl, ho3⟩, hb3⟩
 obtain ⟨A3, k3, rfl⟩ := own_shape ho3
 clear hcl c0 c1 c2 c3 c4
 have B13 := HB.out.2.1.next hb3 HB.out.2.1.lt
 have B23 := HB.out.2.2.1.next hb3 HB.out.2.2.1.lt
 have f4 := B13.free 4
 have c4 := B13.cell (i := 4) (by simp)
 obtain ⟨w4, hw4⟩ : ∃ w4, w3.setCell ⟨g1, 4, none⟩ (.slice A3 n k3) = w4 := ⟨_, rfl⟩
 have B14 : Bk w4 g1 45 [.int .i64 kd, .int .i64 h, .int .i64 lba, .int .i64 len, .slice A3 n k3] := by rw [← hw4]; exact B13.set 4 _
 have B24 : Bk w4 g2 45 [.int .i64 0, .int .i64 0, .int .i64 0, .int .i64 0, .slice none 0 0] := by rw [← hw4]; exact B23.far (Nat.ne_of_gt HB.out.2.2.2.2.1) _
 have b14 : Below w.heap.size w w4 := below1 (HB.out.1.trans (hb3.mono HB.out.1.size)) HB.out.2.2.2.1 hw4
 have k34 : Ag (fun b => b ≠ g1) w3 w4 := by rw [← hw4]; exact ((Kf.refl (fun b => b = g1) w3).set B13 (by decide) (.inl rfl) 4 _).ag (fun b q r => q r)
 have HX4 := Lib.hid (show OwX w w4 w2.heap.size g1 kd h lba len (.slice A3 n k3) n 0 ps ps from
  ⟨own_ag ho3 k34 (fun g q => by have := own_at_ge ho3 q; have := HB.out.2.1.lt; omega), fun j p hp => (((HB.out.2.2.2.2.2.1 p (List.mem_of_getElem? hp)).ag (.of_below hb3)).ag (k34.mono (fun b q => by have h1 := HB.out.2.2.2.1; have h2 : b < w.heap.size := q; show b ≠ g1; omega))).mono (fun b q => ⟨Nat.zero_le _, q⟩), rfl, B14, b14, HB.out.1.size⟩)
 have HG := Lib.hid (show Bk w4 g2 45 [.int .i64 0, .int .i64 0, .int .i64 0, .int .i64 0, .slice none 0 0] from B24)
 clear ho3 hb3 B13 B23 B24 b14 k34
 obtain ⟨d0, d1, d2, d3, d4⟩ := B14.c5
 clear B14
 go_wp2_with fail
 go_loopw [11] (fun iv wr => ∃ i : Nat, i ≤ n ∧ iv = .int .i64 (i : Int) ∧ ∃ ps', Hid (OwX w wr w2.heap.size g1 kd h lba len (.slice A3 n k3) n i ps ps' ∧ Bk wr g2 45 [.int .i64 0, .int .i64 0, .int .i64 0, .int .i64 0, .slice none 0 0])) (fun iv _ => n - (intOf iv).toNat)
 case atStart => exact ⟨0, Nat.zero_le _, rfl, ps, Lib.hid ⟨HX4.out, HG.out⟩⟩
 case round =>
  obtain ⟨i, hi, rfl, ps', HY⟩ := hrel
  have HX := Lib.hid HY.out.1
  clear d0 d1 d2 d3 d4
  have HBX := HX.out.bx
  obtain ⟨d0, d1, d2, d3, d4⟩ := HBX.c5
  clear HBX
  rcases Nat.lt_or_ge i n with hlt | hge
  · obtain ⟨p, hp⟩ : ∃ p, ps'[i]? = some p := ⟨_, List.getElem?_eq_getElem (by rw [HX.out.le]; exact hlt)⟩
    obtain ⟨gq, cq, hv, ce⟩ := HX.out.at_ hp
    injection hv with hA _ hc
    subst hA hc
    have HY2 := Lib.hid (And.intro (HX.out.y i p hp) (sameP_n HX.out.same HB.out.2.2.2.2.2.2.2 p (List.mem_of_getElem? hp)))
    have n1 : (i : Int) < (n : Int) := by omega
    have n2 : (0 : Int) ≤ (i : Int) := by omega
    have m2 : wrap64 ((i : Int) + 1) = (i : Int) + 1 := by unfold wrap64; have := HB.out.2.2.2.2.2.2.1; omega
    have HP := Lib.hid (And.intro hp hlt)
    have KK := Lib.hid (fun (w' : World) (hS : Below wr.heap.size wr w') => And.intro ((HX.out.bx.next hS HX.out.bx.lt).cell (i := 4) (by simp)) ((HX.out.next hS).at2 HP.out.1))
    clear hp hlt hi
    go_wp2_with fail
    have Kq := KK
    refine anyM_start (fun w' => Below wr.heap.size wr w') [12] (by kernel_rfl) (bdrew (Below.refl _ _)) (fun hHeld => ?_)
    refine kM 0 ?_; refine kM 1 ?_; refine kM 2 ?_; refine kM 3 ?_; refine kM 4 ?_; refine kM 5 ?_; refine kM 6 ?_; refine kM 7 ?_; refine kM 8 ?_
    refine rM 9 (fun K hK => ?_)
    go_simp
    refine (clone_any p.A p.n p.c wr.heap.size (p.bs.map (Value.int .u8)) _ (by rw [List.length_map]; exact HY2.out.1.b.len) (HY2.out.1.ag (.of_below hHeld)).b.rd one_int (by have := HY2.out.2; omega) hHeld.size).mono ?_
    rintro e w8 ⟨⟨vc, rfl, hvc⟩, hb8⟩
    have hS8 : Below wr.heap.size wr w8 := hHeld.trans (hb8.mono hHeld.size)
    obtain ⟨yA, yc, rfl⟩ := own_shape hvc
    have HVC := Lib.hid (And.intro (byt_ya HY2.out.1 (ownsRow_base_a hvc (Nat.zero_le _))) hS8)
    clear hvc hb8
    obtain ⟨w10, hw10⟩ : ∃ w10, w8.setCell ⟨gq, i * 2 + 1, none⟩ (.slice yA p.n yc) = w10 := ⟨_, rfl⟩
    have x8 := (HX.out.next hS8).at2 HP.out.1
    have fr8 : w8.frozen? ⟨gq, i * 2 + 1, none⟩ = false := by obtain ⟨_, cs, hb⟩ := own_bk (HX.out.next hS8).own; exact hb.free (i * 2 + 1)
    have H10 := Lib.hid (HX.out.step HP.out.1 rfl HVC.out.2 HVC.out.1 hw10)
    go_simp
    refine hK.out _ _ (fun _ _ => hS8) ?_
    clear hK K hHeld
    have hHeld := hS8
    try simp only [Act.put, List.setIfInBounds_toArray, List.set_cons_zero, List.set_cons_succ]
    refine kR 10 ?_; refine kR 11 ?_
    refine rM 12 (fun K hK => ?_)
    go_simp
    try rw [hw10]
    refine hK.out _ _ (fun h => absurd (by decide) h) ?_
    clear hK K
    try simp only [Act.put, List.setIfInBounds_toArray, List.set_cons_zero, List.set_cons_succ]
    refine anyM_done (by kernel_rfl) ?_ _
    clear Kq
    have hg2 : Bk w10 g2 45 [.int .i64 0, .int .i64 0, .int .i64 0, .int .i64 0, .slice none 0 0] := by
     rw [← hw10]
     exact (HY.out.2.next HVC.out.2 HY.out.2.lt).far (fun (q : g2 = gq) => by have h1 := own_at_ge (g := gq) HX.out.own rfl; have h2 := HB.out.2.2.1.lt; omega) _
    go_wp2_with fail
    go_roundw
    case rel => exact ⟨i + 1, HP.out.2, int_succ (by first | rfl | exact m2), _, Lib.hid ⟨H10.out, hg2⟩⟩
    case measure => (try rw [m2]); exact sub_lt1 (x := (i : Int) + 1) HP.out.2 rfl
  · obtain rfl : i = n := Nat.le_antisymm hi hge
    have B24 := HY.out.2
    obtain ⟨r0, r1, r2, r3, r4⟩ := B24.c5
    have q0 := B24.free 0
    have q1 := B24.free 1
    have q2 := B24.free 2
    have q3 := B24.free 3
    have q4 := B24.free 4
    obtain ⟨w9, hw9⟩ : ∃ w9, W5 wr g2 (.int .i64 kd) (.int .i64 h) (.int .i64 lba) (.int .i64 len) (.slice A3 i k3) = w9 := ⟨_, rfl⟩
    have HR := Lib.hid (And.intro (bk_set5 B24 hw9) (own_fin HX.out B24 (Nat.le_trans HB.out.2.2.2.1 (Nat.le_of_lt HB.out.2.2.2.2.1)) hw9))
    unfold W5 at hw9
    clear B24
    go_wp2_with fail
    refine bodyPost_ret (res_op rfl _ _ _ _ (by rfl) HR.out.1) rfl ?_
    exact ⟨⟨A3, k3, ps', rfl, HR.out.2.1⟩, HR.out.2.2⟩
end
end Go.Proofs.YthhndleddlmgiaaGreatDoor.Tp
