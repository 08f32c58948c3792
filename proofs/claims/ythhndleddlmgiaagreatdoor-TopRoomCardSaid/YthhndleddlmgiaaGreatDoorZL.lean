/- Contracts of the program's functions, and laws on memory: a part of the proof of TopRoom. -/
import Derived.Test.YthhndleddlmgiaaGreatDoorZK
import Derived.Test.YthhndleddlmgiaaGreatDoorProg
import Derived.LoopTactic
import Derived.LoopN
import Derived.Lib.Hide
import Derived.Deep.DeepMust
import Derived.Laws.MakeOwn
import Derived.Laws.Entries
import Derived.WalkSpells
import Derived.WalkMore
import Derived.IntWalk
import Derived.Deep.QuietTactic
import Derived.BigQuiet
import Derived.Shelf.Abstract
namespace Go.Proofs.YthhndleddlmgiaaGreatDoor.Tp
set_option maxHeartbeats 8000000
set_option maxRecDepth 100000
set_option linter.unusedSimpArgs false
set_option linter.unusedVariables false
section
open Go.RowKit Go.Maps
theorem eo_end (g n c k : Nat) (ad : Addr) (ep : Int) (w'' : World) (c0 c3 c5 c6 c9 c11 c16 c17 c18 c19 c20 c21 c22 c23 c24 c25 c26 c27 c28 c29 c30 c31 c32 c33 c34 c35 c36 c37 c38 c39 c40 c41 c42 c43 c44 c45 c46 c92 c93 c94 c95 c96 c97 c98 c99 c100 c101 c102 c103 c104 c105 c106 c107 c108 c109 c110 c111 c112 c113 c114 c115 c116 c117 c118 c119 c120 c121 u4 u7 u8 u10 u12 u13 u14 u15 u50 u51 u52 u53 u54 u55 u56 u57 u58 u59 u60 u61 u62 u63 u64 u65 u66 u67 u68 u69 u70 u71 u72 u73 u74 u75 u76 u77 u78 u79 u80 u81 u82 u83 u84 u85 u86 u87 u88 u89 u90 u91 : Value) (Q : Exit → Act → World → Prop) (hk : k = n) (h : ∀ u50 : Value, Q (.exit 0) ⟨#[c0, .int .i64 ep, .pointer (some ⟨g, 0, none⟩), c3, u4, c5, c6, u7, u8, c9, u10, c11, u12, u13, u14, u15, c16, c17, c18, c19, c20, c21, c22, c23, c24, c25, c26, c27, c28, c29, c30, c31, c32, c33, c34, c35, c36, c37, c38, c39, c40, c41, c42, c43, c44, c45, c46, .slice (some ad) n c, .int .i64 (n : Int), .int .i64 (k : Int), u50, u51, u52, u53, u54, u55, u56, u57, u58, u59, u60, u61, u62, u63, u64, u65, u66, u67, u68, u69, u70, u71, u72, u73, u74, u75, u76, u77, u78, u79, u80, u81, u82, u83, u84, u85, u86, u87, u88, u89, u90, u91, c92, c93, c94, c95, c96, c97, c98, c99, c100, c101, c102, c103, c104, c105, c106, c107, c108, c109, c110, c111, c112, c113, c114, c115, c116, c117, c118, c119, c120, c121], []⟩ w'') :
  Code.wp Tryz.prog (loopAt Tryz.f91 0) Q ⟨#[c0, .int .i64 ep, .pointer (some ⟨g, 0, none⟩), c3, u4, c5, c6, u7, u8, c9, u10, c11, u12, u13, u14, u15, c16, c17, c18, c19, c20, c21, c22, c23, c24, c25, c26, c27, c28, c29, c30, c31, c32, c33, c34, c35, c36, c37, c38, c39, c40, c41, c42, c43, c44, c45, c46, .slice (some ad) n c, .int .i64 (n : Int), .int .i64 (k : Int), u50, u51, u52, u53, u54, u55, u56, u57, u58, u59, u60, u61, u62, u63, u64, u65, u66, u67, u68, u69, u70, u71, u72, u73, u74, u75, u76, u77, u78, u79, u80, u81, u82, u83, u84, u85, u86, u87, u88, u89, u90, u91, c92, c93, c94, c95, c96, c97, c98, c99, c100, c101, c102, c103, c104, c105, c106, c107, c108, c109, c110, c111, c112, c113, c114, c115, c116, c117, c118, c119, c120, c121], []⟩ w'' := by
 subst hk
 have n0 : ¬ (k : Int) < (k : Int) := Int.lt_irrefl _
 conv => arg 2; whnf
 go_wp2_with fail
 exact h _
theorem eo_loop (w6 wr : World) (g n c : Nat) (ad : Addr) (ep num : Int) (ts : List TxD) (c0 c3 c5 c6 c9 c11 c16 c17 c18 c19 c20 c21 c22 c23 c24 c25 c26 c27 c28 c29 c30 c31 c32 c33 c34 c35 c36 c37 c38 c39 c40 c41 c42 c43 c44 c45 c46 c92 c93 c94 c95 c96 c97 c98 c99 c100 c101 c102 c103 c104 c105 c106 c107 c108 c109 c110 c111 c112 c113 c114 c115 c116 c117 c118 c119 c120 c121 u4 u7 u8 u10 u12 u13 u14 u15 u49 u50 u51 u52 u53 u54 u55 u56 u57 u58 u59 u60 u61 u62 u63 u64 u65 u66 u67 u68 u69 u70 u71 u72 u73 u74 u75 u76 u77 u78 u79 u80 u81 u82 u83 u84 u85 u86 u87 u88 u89 u90 u91 : Value) (Q0 : Exit → Act → World → Prop)
  (hB : Bk w6 g 101 [.int .i64 num, .slice (some ad) n c]) (hT : IsTs w6 (some ad) n c ts) (hok : OkB num ts) (hep : 0 ≤ ep ∧ ep ≤ 4294967295) (hn : n ≤ 8)
  (h0 : ∃ (k : Nat) (lt : Int) (xs : List BR) (bs : List Int), k ≤ n ∧ u49 = .int .i64 (k : Int) ∧ u8 = .int .i64 lt ∧ EnX w6 wr u4 u7 xs bs ∧ xs.length = ((ts.take k).map (·.n)).sum ∧ bs.length = 9 + 2 * k)
  (hexit : ∀ (u4 u7 u8 u10 u12 u13 u14 u15 u49 u50 u51 u52 u53 u54 u55 u56 u57 u58 u59 u60 u61 u62 u63 u64 u65 u66 u67 u68 u69 u70 u71 u72 u73 u74 u75 u76 u77 u78 u79 u80 u81 u82 u83 u84 u85 u86 u87 u88 u89 u90 u91 : Value) (w' : World), (∃ (xs : List BR) (bs : List Int), EnX w6 w' u4 u7 xs bs ∧ xs.length = ((ts.take n).map (·.n)).sum ∧ bs.length = 9 + 2 * n) → Q0 (.exit 0) ⟨#[c0, .int .i64 ep, .pointer (some ⟨g, 0, none⟩), c3, u4, c5, c6, u7, u8, c9, u10, c11, u12, u13, u14, u15, c16, c17, c18, c19, c20, c21, c22, c23, c24, c25, c26, c27, c28, c29, c30, c31, c32, c33, c34, c35, c36, c37, c38, c39, c40, c41, c42, c43, c44, c45, c46, .slice (some ad) n c, .int .i64 (n : Int), u49, u50, u51, u52, u53, u54, u55, u56, u57, u58, u59, u60, u61, u62, u63, u64, u65, u66, u67, u68, u69, u70, u71, u72, u73, u74, u75, u76, u77, u78, u79, u80, u81, u82, u83, u84, u85, u86, u87, u88, u89, u90, u91, c92, c93, c94, c95, c96, c97, c98, c99, c100, c101, c102, c103, c104, c105, c106, c107, c108, c109, c110, c111, c112, c113, c114, c115, c116, c117, c118, c119, c120, c121], []⟩ w') :
  Code.wp Tryz.prog (Code.loop (loopAt Tryz.f91 0)) Q0 ⟨#[c0, .int .i64 ep, .pointer (some ⟨g, 0, none⟩), c3, u4, c5, c6, u7, u8, c9, u10, c11, u12, u13, u14, u15, c16, c17, c18, c19, c20, c21, c22, c23, c24, c25, c26, c27, c28, c29, c30, c31, c32, c33, c34, c35, c36, c37, c38, c39, c40, c41, c42, c43, c44, c45, c46, .slice (some ad) n c, .int .i64 (n : Int), u49, u50, u51, u52, u53, u54, u55, u56, u57, u58, u59, u60, u61, u62, u63, u64, u65, u66, u67, u68, u69, u70, u71, u72, u73, u74, u75, u76, u77, u78, u79, u80, u81, u82, u83, u84, u85, u86, u87, u88, u89, u90, u91, c92, c93, c94, c95, c96, c97, c98, c99, c100, c101, c102, c103, c104, c105, c106, c107, c108, c109, c110, c111, c112, c113, c114, c115, c116, c117, c118, c119, c120, c121], []⟩ wr := by
 refine wp_loop (EOI w6 g n c ad ep ts c0 c3 c5 c6 c9 c11 c16 c17 c18 c19 c20 c21 c22 c23 c24 c25 c26 c27 c28 c29 c30 c31 c32 c33 c34 c35 c36 c37 c38 c39 c40 c41 c42 c43 c44 c45 c46 c92 c93 c94 c95 c96 c97 c98 c99 c100 c101 c102 c103 c104 c105 c106 c107 c108 c109 c110 c111 c112 c113 c114 c115 c116 c117 c118 c119 c120 c121) (eomu n) (EOI.mk h0) (fun a w'' hI => ?_)
 unfold EOI at hI
 obtain ⟨v4, hI⟩ := hI
 obtain ⟨v7, hI⟩ := hI
 obtain ⟨v8, hI⟩ := hI
 obtain ⟨v10, hI⟩ := hI
 obtain ⟨v12, hI⟩ := hI
 obtain ⟨v13, hI⟩ := hI
 obtain ⟨v14, hI⟩ := hI
 obtain ⟨v15, hI⟩ := hI
 obtain ⟨v49, hI⟩ := hI
 obtain ⟨v50, hI⟩ := hI
 obtain ⟨v51, hI⟩ := hI
 obtain ⟨v52, hI⟩ := hI
 obtain ⟨v53, hI⟩ := hI
 obtain ⟨v54, hI⟩ := hI
 obtain ⟨v55, hI⟩ := hI
 obtain ⟨v56, hI⟩ := hI
 obtain ⟨v57, hI⟩ := hI
 obtain ⟨v58, hI⟩ := hI
 obtain ⟨v59, hI⟩ := hI
 obtain ⟨v60, hI⟩ := hI
 obtain ⟨v61, hI⟩ := hI
 obtain ⟨v62, hI⟩ := hI
 obtain ⟨v63, hI⟩ := hI
 obtain ⟨v64, hI⟩ := hI
 obtain ⟨v65, hI⟩ := hI
 obtain ⟨v66, hI⟩ := hI
 obtain ⟨v67, hI⟩ := hI
 obtain ⟨v68, hI⟩ := hI
 obtain ⟨v69, hI⟩ := hI
 obtain ⟨v70, hI⟩ := hI
 obtain ⟨v71, hI⟩ := hI
 obtain ⟨v72, hI⟩ := hI
 obtain ⟨v73, hI⟩ := hI
 obtain ⟨v74, hI⟩ := hI
 obtain ⟨v75, hI⟩ := hI
 obtain ⟨v76, hI⟩ := hI
 obtain ⟨v77, hI⟩ := hI
 obtain ⟨v78, hI⟩ := hI
 obtain ⟨v79, hI⟩ := hI
 obtain ⟨v80, hI⟩ := hI
 obtain ⟨v81, hI⟩ := hI
 obtain ⟨v82, hI⟩ := hI
 obtain ⟨v83, hI⟩ := hI
 obtain ⟨v84, hI⟩ := hI
 obtain ⟨v85, hI⟩ := hI
 obtain ⟨v86, hI⟩ := hI
 obtain ⟨v87, hI⟩ := hI
 obtain ⟨v88, hI⟩ := hI
 obtain ⟨v89, hI⟩ := hI
 obtain ⟨v90, hI⟩ := hI
 obtain ⟨v91, hI⟩ := hI
 obtain ⟨⟨k, lt, xs, bs, hk, e49, e8, hE, hl, hbl⟩, rfl⟩ := hI
 subst e49 e8
 rcases Nat.lt_or_ge k n with hlt | hge
 · exact eo_round w6 w'' g n c k ad ep num lt ts xs bs _ _ _ _ _ _ _ _ _ _ _ _ _ _ _ _ _ _ _ _ _ _ _ _ _ _ _ _ _ _ _ _ _ _ _ _ _ _ _ _ _ _ _ _ _ _ _ _ _ _ _ _ _ _ _ _ _ _ _ _ _ _ _ _ _ _ _ _ _ _ _ _ _ _ _ _ _ _ _ _ _ _ _ _ _ _ _ _ _ _ _ _ _ _ _ _ _ _ _ _ _ _ _ _ _ _ _ _ _ _ _ _ _ _ _ _ Q0 hB hT hok hep hn hE hl hbl hlt
 · have e : k = n := Nat.le_antisymm hk hge
   subst e
   exact eo_end g k c k ad ep w'' _ _ _ _ _ _ _ _ _ _ _ _ _ _ _ _ _ _ _ _ _ _ _ _ _ _ _ _ _ _ _ _ _ _ _ _ _ _ _ _ _ _ _ _ _ _ _ _ _ _ _ _ _ _ _ _ _ _ _ _ _ _ _ _ _ _ _ _ _ _ _ _ _ _ _ _ _ _ _ _ _ _ _ _ _ _ _ _ _ _ _ _ _ _ _ _ _ _ _ _ _ _ _ _ _ _ _ _ _ _ _ _ _ _ _ _ _ _ rfl (fun _ => hexit _ _ _ _ _ _ _ _ _ _ _ _ _ _ _ _ _ _ _ _ _ _ _ _ _ _ _ _ _ _ _ _ _ _ _ _ _ _ _ _ _ _ _ _ _ _ _ _ _ _ _ w'' ⟨xs, bs, hE, hl, hbl⟩)
def ELI (w6 : World) (n c : Nat) (ad : Addr) (xs : List BR) (c0 c1 c2 c3 c4 c5 c6 c8 c9 c10 c11 c12 c13 c14 c15 c16 c18 c19 c20 c21 c22 c23 c24 c25 c26 c27 c28 c29 c30 c31 c32 c33 c34 c35 c36 c37 c38 c39 c40 c41 c42 c43 c44 c45 c46 c47 c48 c49 c50 c51 c52 c53 c54 c55 c56 c57 c58 c59 c60 c61 c62 c63 c64 c65 c66 c67 c68 c69 c70 c71 c72 c73 c74 c75 c76 c77 c78 c79 c80 c81 c82 c83 c84 c85 c86 c87 c88 c89 c90 c91 c92 c107 c108 c109 c110 c111 c112 c113 c114 c115 c116 c117 c118 c119 c120 c121 : Value) (a : Act) (wr : World) : Prop :=
 ∃ u7 u17 u95 u96 u97 u98 u99 u100 u101 u102 u103 u104 u105 u106 : Value, (∃ (k : Nat) (bs : List Int), k ≤ n ∧ u95 = .int .i64 (k : Int) ∧ EnX w6 wr c4 u7 xs bs ∧ bs.length = 9 + 2 * n + k) ∧ a = ⟨#[c0, c1, c2, c3, c4, c5, c6, u7, c8, c9, c10, c11, c12, c13, c14, c15, c16, u17, c18, c19, c20, c21, c22, c23, c24, c25, c26, c27, c28, c29, c30, c31, c32, c33, c34, c35, c36, c37, c38, c39, c40, c41, c42, c43, c44, c45, c46, c47, c48, c49, c50, c51, c52, c53, c54, c55, c56, c57, c58, c59, c60, c61, c62, c63, c64, c65, c66, c67, c68, c69, c70, c71, c72, c73, c74, c75, c76, c77, c78, c79, c80, c81, c82, c83, c84, c85, c86, c87, c88, c89, c90, c91, c92, .slice (some ad) n c, .int .i64 (n : Int), u95, u96, u97, u98, u99, u100, u101, u102, u103, u104, u105, u106, c107, c108, c109, c110, c111, c112, c113, c114, c115, c116, c117, c118, c119, c120, c121], []⟩
theorem ELI.mk {w6 wr : World} {n c : Nat} {ad : Addr} {xs : List BR} {c0 c1 c2 c3 c4 c5 c6 c8 c9 c10 c11 c12 c13 c14 c15 c16 c18 c19 c20 c21 c22 c23 c24 c25 c26 c27 c28 c29 c30 c31 c32 c33 c34 c35 c36 c37 c38 c39 c40 c41 c42 c43 c44 c45 c46 c47 c48 c49 c50 c51 c52 c53 c54 c55 c56 c57 c58 c59 c60 c61 c62 c63 c64 c65 c66 c67 c68 c69 c70 c71 c72 c73 c74 c75 c76 c77 c78 c79 c80 c81 c82 c83 c84 c85 c86 c87 c88 c89 c90 c91 c92 c107 c108 c109 c110 c111 c112 c113 c114 c115 c116 c117 c118 c119 c120 c121 : Value} {u7 u17 u95 u96 u97 u98 u99 u100 u101 u102 u103 u104 u105 u106 : Value} (h : ∃ (k : Nat) (bs : List Int), k ≤ n ∧ u95 = .int .i64 (k : Int) ∧ EnX w6 wr c4 u7 xs bs ∧ bs.length = 9 + 2 * n + k) : ELI w6 n c ad xs c0 c1 c2 c3 c4 c5 c6 c8 c9 c10 c11 c12 c13 c14 c15 c16 c18 c19 c20 c21 c22 c23 c24 c25 c26 c27 c28 c29 c30 c31 c32 c33 c34 c35 c36 c37 c38 c39 c40 c41 c42 c43 c44 c45 c46 c47 c48 c49 c50 c51 c52 c53 c54 c55 c56 c57 c58 c59 c60 c61 c62 c63 c64 c65 c66 c67 c68 c69 c70 c71 c72 c73 c74 c75 c76 c77 c78 c79 c80 c81 c82 c83 c84 c85 c86 c87 c88 c89 c90 c91 c92 c107 c108 c109 c110 c111 c112 c113 c114 c115 c116 c117 c118 c119 c120 c121 ⟨#[c0, c1, c2, c3, c4, c5, c6, u7, c8, c9, c10, c11, c12, c13, c14, c15, c16, u17, c18, c19, c20, c21, c22, c23, c24, c25, c26, c27, c28, c29, c30, c31, c32, c33, c34, c35, c36, c37, c38, c39, c40, c41, c42, c43, c44, c45, c46, c47, c48, c49, c50, c51, c52, c53, c54, c55, c56, c57, c58, c59, c60, c61, c62, c63, c64, c65, c66, c67, c68, c69, c70, c71, c72, c73, c74, c75, c76, c77, c78, c79, c80, c81, c82, c83, c84, c85, c86, c87, c88, c89, c90, c91, c92, .slice (some ad) n c, .int .i64 (n : Int), u95, u96, u97, u98, u99, u100, u101, u102, u103, u104, u105, u106, c107, c108, c109, c110, c111, c112, c113, c114, c115, c116, c117, c118, c119, c120, c121], []⟩ wr := ⟨u7, u17, u95, u96, u97, u98, u99, u100, u101, u102, u103, u104, u105, u106, h, rfl⟩
def elmu (n : Nat) (a : Act) (_ : World) : Nat := n - (intOf (a.tmps.getD 95 undef)).toNat
theorem elmu_eq {n c : Nat} {ad : Addr} {w : World} {x : Int} {c0 c1 c2 c3 c4 c5 c6 c8 c9 c10 c11 c12 c13 c14 c15 c16 c18 c19 c20 c21 c22 c23 c24 c25 c26 c27 c28 c29 c30 c31 c32 c33 c34 c35 c36 c37 c38 c39 c40 c41 c42 c43 c44 c45 c46 c47 c48 c49 c50 c51 c52 c53 c54 c55 c56 c57 c58 c59 c60 c61 c62 c63 c64 c65 c66 c67 c68 c69 c70 c71 c72 c73 c74 c75 c76 c77 c78 c79 c80 c81 c82 c83 c84 c85 c86 c87 c88 c89 c90 c91 c92 c107 c108 c109 c110 c111 c112 c113 c114 c115 c116 c117 c118 c119 c120 c121 u7 u17 u96 u97 u98 u99 u100 u101 u102 u103 u104 u105 u106 : Value} : elmu n ⟨#[c0, c1, c2, c3, c4, c5, c6, u7, c8, c9, c10, c11, c12, c13, c14, c15, c16, u17, c18, c19, c20, c21, c22, c23, c24, c25, c26, c27, c28, c29, c30, c31, c32, c33, c34, c35, c36, c37, c38, c39, c40, c41, c42, c43, c44, c45, c46, c47, c48, c49, c50, c51, c52, c53, c54, c55, c56, c57, c58, c59, c60, c61, c62, c63, c64, c65, c66, c67, c68, c69, c70, c71, c72, c73, c74, c75, c76, c77, c78, c79, c80, c81, c82, c83, c84, c85, c86, c87, c88, c89, c90, c91, c92, .slice (some ad) n c, .int .i64 (n : Int), .int .i64 x, u96, u97, u98, u99, u100, u101, u102, u103, u104, u105, u106, c107, c108, c109, c110, c111, c112, c113, c114, c115, c116, c117, c118, c119, c120, c121], []⟩ w = n - x.toNat := rfl
theorem en_c1 {a k n : Nat} (e : a = 9 + 2 * n + k) (h : k < n) (hn : n ≤ 8) : a + 1 ≤ 1000000000 := by omega
theorem en_c2 {a k n : Nat} (e : a = 9 + 2 * n + k) (h : k < n) (hn : n ≤ 8) : (a + 1) * 1 ≤ 1000000000000 := by omega
theorem en_one (d : Int) : ∀ x ∈ [d % 256], 0 ≤ x ∧ x < 256 := by
 intro x hx
 simp at hx
 subst hx; constructor <;> omega
theorem el_round (w6 wr : World) (n c k : Nat) (ad : Addr) (num : Int) (ts : List TxD) (xs : List BR) (bs : List Int) (c0 c1 c2 c3 c4 c5 c6 c8 c9 c10 c11 c12 c13 c14 c15 c16 c18 c19 c20 c21 c22 c23 c24 c25 c26 c27 c28 c29 c30 c31 c32 c33 c34 c35 c36 c37 c38 c39 c40 c41 c42 c43 c44 c45 c46 c47 c48 c49 c50 c51 c52 c53 c54 c55 c56 c57 c58 c59 c60 c61 c62 c63 c64 c65 c66 c67 c68 c69 c70 c71 c72 c73 c74 c75 c76 c77 c78 c79 c80 c81 c82 c83 c84 c85 c86 c87 c88 c89 c90 c91 c92 c107 c108 c109 c110 c111 c112 c113 c114 c115 c116 c117 c118 c119 c120 c121 u7 u17 u96 u97 u98 u99 u100 u101 u102 u103 u104 u105 u106 : Value) (Q0 : Exit → Act → World → Prop)
  (hT : IsTs w6 (some ad) n c ts) (hok : OkB num ts) (hn : n ≤ 8) (hE : EnX w6 wr c4 u7 xs bs) (hbl : bs.length = 9 + 2 * n + k) (hlt : k < n) :
  Code.wp Tryz.prog (loopAt Tryz.f91 1) (Exit.then (fun a' w'' => ELI w6 n c ad xs c0 c1 c2 c3 c4 c5 c6 c8 c9 c10 c11 c12 c13 c14 c15 c16 c18 c19 c20 c21 c22 c23 c24 c25 c26 c27 c28 c29 c30 c31 c32 c33 c34 c35 c36 c37 c38 c39 c40 c41 c42 c43 c44 c45 c46 c47 c48 c49 c50 c51 c52 c53 c54 c55 c56 c57 c58 c59 c60 c61 c62 c63 c64 c65 c66 c67 c68 c69 c70 c71 c72 c73 c74 c75 c76 c77 c78 c79 c80 c81 c82 c83 c84 c85 c86 c87 c88 c89 c90 c91 c92 c107 c108 c109 c110 c111 c112 c113 c114 c115 c116 c117 c118 c119 c120 c121 a' w'' ∧ elmu n a' w'' < elmu n ⟨#[c0, c1, c2, c3, c4, c5, c6, u7, c8, c9, c10, c11, c12, c13, c14, c15, c16, u17, c18, c19, c20, c21, c22, c23, c24, c25, c26, c27, c28, c29, c30, c31, c32, c33, c34, c35, c36, c37, c38, c39, c40, c41, c42, c43, c44, c45, c46, c47, c48, c49, c50, c51, c52, c53, c54, c55, c56, c57, c58, c59, c60, c61, c62, c63, c64, c65, c66, c67, c68, c69, c70, c71, c72, c73, c74, c75, c76, c77, c78, c79, c80, c81, c82, c83, c84, c85, c86, c87, c88, c89, c90, c91, c92, .slice (some ad) n c, .int .i64 (n : Int), .int .i64 (k : Int), u96, u97, u98, u99, u100, u101, u102, u103, u104, u105, u106, c107, c108, c109, c110, c111, c112, c113, c114, c115, c116, c117, c118, c119, c120, c121], []⟩ wr) Q0) ⟨#[c0, c1, c2, c3, c4, c5, c6, u7, c8, c9, c10, c11, c12, c13, c14, c15, c16, u17, c18, c19, c20, c21, c22, c23, c24, c25, c26, c27, c28, c29, c30, c31, c32, c33, c34, c35, c36, c37, c38, c39, c40, c41, c42, c43, c44, c45, c46, c47, c48, c49, c50, c51, c52, c53, c54, c55, c56, c57, c58, c59, c60, c61, c62, c63, c64, c65, c66, c67, c68, c69, c70, c71, c72, c73, c74, c75, c76, c77, c78, c79, c80, c81, c82, c83, c84, c85, c86, c87, c88, c89, c90, c91, c92, .slice (some ad) n c, .int .i64 (n : Int), .int .i64 (k : Int), u96, u97, u98, u99, u100, u101, u102, u103, u104, u105, u106, c107, c108, c109, c110, c111, c112, c113, c114, c115, c116, c117, c118, c119, c120, c121], []⟩ wr := by
 obtain ⟨i0, hi, hz0, hz1, hz2⟩ := info_parts infoB
 obtain ⟨x, e0, e1, _, _, hx16, _, _⟩ := eo_tx hT hok hE.bel hlt
 obtain ⟨n1, n2, m2⟩ := en_num hlt (Nat.le_trans hn (by decide))
 obtain ⟨bA, bc, rfl⟩ := own_shape hE.body.1
 obtain ⟨wA, hwA⟩ : ∃ wA, wr.alloc (.cells #[.int .i64 x.time, .slice x.A x.n x.c] 182) = wA := ⟨_, rfl⟩
 have hBA : Bk wA wr.heap.size 182 [.int .i64 x.time, .slice x.A x.n x.c] := by rw [← hwA]; exact Bk.new wr _ _
 have hbA : Below wr.heap.size wr wA := by rw [← hwA]; exact (Below.refl _ _).alloc (Nat.le_refl _) _
 obtain ⟨d0, d1⟩ := hBA.c2
 obtain ⟨wB, hwB⟩ : ∃ wB, wA.alloc (.cells #[.int .u8 ((x.n : Int) % 256)] 5) = wB := ⟨_, rfl⟩
 have hBB : Bk wB wA.heap.size 5 [.int .u8 ((x.n : Int) % 256)] := by rw [← hwB]; exact Bk.new wA _ _
 have hbB : Below wr.heap.size wr wB := by rw [← hwB]; exact hbA.alloc hbA.size _
 have hu8 : IntKind.u8.wrap (x.n : Int) = (x.n : Int) % 256 := rfl
 have H := Lib.hid (And.intro hbl (And.intro hlt (And.intro hn (And.intro hE (And.intro hBB (And.intro hbB (hE.next hbB)))))))
 clear hT hok hn hE hbl hlt hBA hbA hBB hbB hx16
 conv => arg 2; whnf
 go_wp2_with (at_builtin; go_must (refine wpList_appM _ rfl _ _ 47 rfl w6.heap.size 5 i0 (.int .u8 0) 1 1 Tryz.underlying47 hi hz0 hz1 hz2 rfl (by decide) _ _ _ (by rfl) (by exact H.out.2.2.2.2.2.2.body.1) _ _ 1 1 [.int .u8 ((x.n : Int) % 256)] (by rfl) (by rfl) (by exact (H.out.2.2.2.2.1).rd) (by intro u hu; simp at hu; rcases hu with rfl <;> rfl) (by exact en_c1 H.out.1 H.out.2.1 H.out.2.2.1) (by exact en_c2 H.out.1 H.out.2.1 H.out.2.2.1) (by exact H.out.2.2.2.2.2.2.bel.size) ?_); intro v9 w9 hO9 hG9 hv9; obtain ⟨sA, sc, rfl⟩ := own_shape hO9)
 have HY := Lib.hid (EnX.more H.out.2.2.2.1 H.out.2.2.2.2.2.1 (ys := [(x.n : Int) % 256]) hO9 (en_one _) hG9 hv9)
 clear hO9 hG9 hv9
 go_wp2_with fail
 refine ⟨?_, ?_⟩
 · refine ELI.mk ?_
   exact ⟨k + 1, _, H.out.2.1, int_succ (by first | rfl | exact m2), HY.out, by rw [List.length_append, H.out.1]; rfl⟩
 · rw [elmu_eq, elmu_eq]
   exact sub_lt1 H.out.2.1 (by first | rfl | exact m2)
theorem el_end (n c k : Nat) (ad : Addr) (w'' : World) (c0 c1 c2 c3 c4 c5 c6 c8 c9 c10 c11 c12 c13 c14 c15 c16 c18 c19 c20 c21 c22 c23 c24 c25 c26 c27 c28 c29 c30 c31 c32 c33 c34 c35 c36 c37 c38 c39 c40 c41 c42 c43 c44 c45 c46 c47 c48 c49 c50 c51 c52 c53 c54 c55 c56 c57 c58 c59 c60 c61 c62 c63 c64 c65 c66 c67 c68 c69 c70 c71 c72 c73 c74 c75 c76 c77 c78 c79 c80 c81 c82 c83 c84 c85 c86 c87 c88 c89 c90 c91 c92 c107 c108 c109 c110 c111 c112 c113 c114 c115 c116 c117 c118 c119 c120 c121 u7 u17 u96 u97 u98 u99 u100 u101 u102 u103 u104 u105 u106 : Value) (Q : Exit → Act → World → Prop) (hk : k = n) (h : ∀ u96 : Value, Q (.exit 4) ⟨#[c0, c1, c2, c3, c4, c5, c6, u7, c8, c9, c10, c11, c12, c13, c14, c15, c16, u17, c18, c19, c20, c21, c22, c23, c24, c25, c26, c27, c28, c29, c30, c31, c32, c33, c34, c35, c36, c37, c38, c39, c40, c41, c42, c43, c44, c45, c46, c47, c48, c49, c50, c51, c52, c53, c54, c55, c56, c57, c58, c59, c60, c61, c62, c63, c64, c65, c66, c67, c68, c69, c70, c71, c72, c73, c74, c75, c76, c77, c78, c79, c80, c81, c82, c83, c84, c85, c86, c87, c88, c89, c90, c91, c92, .slice (some ad) n c, .int .i64 (n : Int), .int .i64 (k : Int), u96, u97, u98, u99, u100, u101, u102, u103, u104, u105, u106, c107, c108, c109, c110, c111, c112, c113, c114, c115, c116, c117, c118, c119, c120, c121], []⟩ w'') :
  Code.wp Tryz.prog (loopAt Tryz.f91 1) Q ⟨#[c0, c1, c2, c3, c4, c5, c6, u7, c8, c9, c10, c11, c12, c13, c14, c15, c16, u17, c18, c19, c20, c21, c22, c23, c24, c25, c26, c27, c28, c29, c30, c31, c32, c33, c34, c35, c36, c37, c38, c39, c40, c41, c42, c43, c44, c45, c46, c47, c48, c49, c50, c51, c52, c53, c54, c55, c56, c57, c58, c59, c60, c61, c62, c63, c64, c65, c66, c67, c68, c69, c70, c71, c72, c73, c74, c75, c76, c77, c78, c79, c80, c81, c82, c83, c84, c85, c86, c87, c88, c89, c90, c91, c92, .slice (some ad) n c, .int .i64 (n : Int), .int .i64 (k : Int), u96, u97, u98, u99, u100, u101, u102, u103, u104, u105, u106, c107, c108, c109, c110, c111, c112, c113, c114, c115, c116, c117, c118, c119, c120, c121], []⟩ w'' := by
 subst hk
 have n0 : ¬ (k : Int) < (k : Int) := Int.lt_irrefl _
 conv => arg 2; whnf
 go_wp2_with fail
 exact h _
theorem el_loop (w6 wr : World) (n c : Nat) (ad : Addr) (num : Int) (ts : List TxD) (xs : List BR) (c0 c1 c2 c3 c4 c5 c6 c8 c9 c10 c11 c12 c13 c14 c15 c16 c18 c19 c20 c21 c22 c23 c24 c25 c26 c27 c28 c29 c30 c31 c32 c33 c34 c35 c36 c37 c38 c39 c40 c41 c42 c43 c44 c45 c46 c47 c48 c49 c50 c51 c52 c53 c54 c55 c56 c57 c58 c59 c60 c61 c62 c63 c64 c65 c66 c67 c68 c69 c70 c71 c72 c73 c74 c75 c76 c77 c78 c79 c80 c81 c82 c83 c84 c85 c86 c87 c88 c89 c90 c91 c92 c107 c108 c109 c110 c111 c112 c113 c114 c115 c116 c117 c118 c119 c120 c121 u7 u17 u95 u96 u97 u98 u99 u100 u101 u102 u103 u104 u105 u106 : Value) (Q0 : Exit → Act → World → Prop)
  (hT : IsTs w6 (some ad) n c ts) (hok : OkB num ts) (hn : n ≤ 8) (h0 : ∃ (k : Nat) (bs : List Int), k ≤ n ∧ u95 = .int .i64 (k : Int) ∧ EnX w6 wr c4 u7 xs bs ∧ bs.length = 9 + 2 * n + k)
  (hexit : ∀ (u7 u17 u95 u96 u97 u98 u99 u100 u101 u102 u103 u104 u105 u106 : Value) (w' : World), (∃ bs : List Int, EnX w6 w' c4 u7 xs bs ∧ bs.length = 9 + 2 * n + n) → Q0 (.exit 4) ⟨#[c0, c1, c2, c3, c4, c5, c6, u7, c8, c9, c10, c11, c12, c13, c14, c15, c16, u17, c18, c19, c20, c21, c22, c23, c24, c25, c26, c27, c28, c29, c30, c31, c32, c33, c34, c35, c36, c37, c38, c39, c40, c41, c42, c43, c44, c45, c46, c47, c48, c49, c50, c51, c52, c53, c54, c55, c56, c57, c58, c59, c60, c61, c62, c63, c64, c65, c66, c67, c68, c69, c70, c71, c72, c73, c74, c75, c76, c77, c78, c79, c80, c81, c82, c83, c84, c85, c86, c87, c88, c89, c90, c91, c92, .slice (some ad) n c, .int .i64 (n : Int), u95, u96, u97, u98, u99, u100, u101, u102, u103, u104, u105, u106, c107, c108, c109, c110, c111, c112, c113, c114, c115, c116, c117, c118, c119, c120, c121], []⟩ w') :
  Code.wp Tryz.prog (Code.loop (loopAt Tryz.f91 1)) Q0 ⟨#[c0, c1, c2, c3, c4, c5, c6, u7, c8, c9, c10, c11, c12, c13, c14, c15, c16, u17, c18, c19, c20, c21, c22, c23, c24, c25, c26, c27, c28, c29, c30, c31, c32, c33, c34, c35, c36, c37, c38, c39, c40, c41, c42, c43, c44, c45, c46, c47, c48, c49, c50, c51, c52, c53, c54, c55, c56, c57, c58, c59, c60, c61, c62, c63, c64, c65, c66, c67, c68, c69, c70, c71, c72, c73, c74, c75, c76, c77, c78, c79, c80, c81, c82, c83, c84, c85, c86, c87, c88, c89, c90, c91, c92, .slice (some ad) n c, .int .i64 (n : Int), u95, u96, u97, u98, u99, u100, u101, u102, u103, u104, u105, u106, c107, c108, c109, c110, c111, c112, c113, c114, c115, c116, c117, c118, c119, c120, c121], []⟩ wr := by
 refine wp_loop (ELI w6 n c ad xs c0 c1 c2 c3 c4 c5 c6 c8 c9 c10 c11 c12 c13 c14 c15 c16 c18 c19 c20 c21 c22 c23 c24 c25 c26 c27 c28 c29 c30 c31 c32 c33 c34 c35 c36 c37 c38 c39 c40 c41 c42 c43 c44 c45 c46 c47 c48 c49 c50 c51 c52 c53 c54 c55 c56 c57 c58 c59 c60 c61 c62 c63 c64 c65 c66 c67 c68 c69 c70 c71 c72 c73 c74 c75 c76 c77 c78 c79 c80 c81 c82 c83 c84 c85 c86 c87 c88 c89 c90 c91 c92 c107 c108 c109 c110 c111 c112 c113 c114 c115 c116 c117 c118 c119 c120 c121) (elmu n) (ELI.mk h0) (fun a w'' hI => ?_)
 unfold ELI at hI
 obtain ⟨v7, hI⟩ := hI
 obtain ⟨v17, hI⟩ := hI
 obtain ⟨v95, hI⟩ := hI
 obtain ⟨v96, hI⟩ := hI
 obtain ⟨v97, hI⟩ := hI
 obtain ⟨v98, hI⟩ := hI
 obtain ⟨v99, hI⟩ := hI
 obtain ⟨v100, hI⟩ := hI
 obtain ⟨v101, hI⟩ := hI
 obtain ⟨v102, hI⟩ := hI
 obtain ⟨v103, hI⟩ := hI
 obtain ⟨v104, hI⟩ := hI
 obtain ⟨v105, hI⟩ := hI
 obtain ⟨v106, hI⟩ := hI
 obtain ⟨⟨k, bs, hk, e95, hE, hbl⟩, rfl⟩ := hI
 subst e95
 rcases Nat.lt_or_ge k n with hlt | hge
 · exact el_round w6 w'' n c k ad num ts xs bs _ _ _ _ _ _ _ _ _ _ _ _ _ _ _ _ _ _ _ _ _ _ _ _ _ _ _ _ _ _ _ _ _ _ _ _ _ _ _ _ _ _ _ _ _ _ _ _ _ _ _ _ _ _ _ _ _ _ _ _ _ _ _ _ _ _ _ _ _ _ _ _ _ _ _ _ _ _ _ _ _ _ _ _ _ _ _ _ _ _ _ _ _ _ _ _ _ _ _ _ _ _ _ _ _ _ _ _ _ _ _ _ _ _ _ _ _ _ _ Q0 hT hok hn hE hbl hlt
 · have e : k = n := Nat.le_antisymm hk hge
   subst e
   exact el_end k c k ad w'' _ _ _ _ _ _ _ _ _ _ _ _ _ _ _ _ _ _ _ _ _ _ _ _ _ _ _ _ _ _ _ _ _ _ _ _ _ _ _ _ _ _ _ _ _ _ _ _ _ _ _ _ _ _ _ _ _ _ _ _ _ _ _ _ _ _ _ _ _ _ _ _ _ _ _ _ _ _ _ _ _ _ _ _ _ _ _ _ _ _ _ _ _ _ _ _ _ _ _ _ _ _ _ _ _ _ _ _ _ _ _ _ _ _ _ _ _ _ _ _ rfl (fun _ => hexit _ _ _ _ _ _ _ _ _ _ _ _ _ _ w'' ⟨bs, hE, hbl⟩)
end
section
open Go.RowKit Go.Maps
theorem en_lba2 {a : Nat} (h : a ≤ 32) : 0 ≤ (a : Int) ∧ (a : Int) ≤ 1048576 := by omega
theorem en_b40 {a n : Nat} (h : a = 9 + 2 * n + n) (hn : n ≤ 8) : a ≤ 40 := by omega
theorem en_m {a : Nat} (h : a ≤ 32) : a ≤ 1000000 := by omega
theorem bencode_yes (num ep : Int) (A : Option Addr) (n c : Nat) (ts : List TxD) (w : World) (h : IsTs w A n c ts) (hok : OkB num ts) (hep : 0 ≤ ep ∧ ep ≤ 4294967295) :
  Calls Tryz.prog 91 #[.agg #[.int .i64 num, .slice A n c], .int .i64 ep] w fun e w' => (∃ v xs, e = .returned (.tuple #[v, .int .i64 0]) ∧ RowY w' w.heap.size v xs ∧ xs.length = 1 + (ts.map (·.n)).sum) ∧ Below w.heap.size w w' := by
 obtain ⟨i0, hi, hz0, hz1, hz2⟩ := info_parts infoB
 obtain ⟨xi, xz, hxi, hxz, hx5, hx56, hxc⟩ := infoRB
 have hl := h.len
 have hn8 : 1 ≤ n ∧ n ≤ 8 := by rw [← hl]; exact hok.len
 obtain ⟨w5, hw5⟩ : ∃ w5, w.alloc (.cells #[.int .i64 num, .slice A n c] 101) = w5 := ⟨_, rfl⟩
 have hB5 : Bk w5 w.heap.size 101 [.int .i64 num, .slice A n c] := by rw [← hw5]; exact Bk.new w _ _
 have hb5 : Below w.heap.size w w5 := by rw [← hw5]; exact (Below.refl _ _).alloc (Nat.le_refl _) _
 obtain ⟨d0, d1⟩ := hB5.c2
 have h5 := h.next hb5
 have hck := bcheck_yes num A n c ts w5 h5 hok
 have t1 : decide (ep < 0) = false := decide_eq_false (by omega)
 have t2 : decide (4294967295 < ep) = false := decide_eq_false (by omega)
 have HX := Lib.hid (And.intro h5 (And.intro hok hl))
 have HB5 := Lib.hid (And.intro hB5 hb5)
 have HN := Lib.hid (And.intro hn8 hep)
 clear h h5 hok hB5 hb5 hl hep
 go_enter Tryz.func91, Tryz.ntmps91
 go_wp2_with fail
 refine hck.mono ?_
 rintro e w6 ⟨rfl, hb6⟩
 have hB6 := HB5.out.1.next hb6 HB5.out.1.lt
 have HB6 := Lib.hid (And.intro (HB5.out.2.trans (hb6.mono HB5.out.2.size)) (And.intro hB6 (HX.out.1.next hb6)))
 have KB := Lib.hid (fun (w' : World) (hS : Below w6.heap.size w6 w') => And.intro ((hB6.next hS hB6.lt).cell (i := 0) (by simp)) ((hB6.next hS hB6.lt).cell (i := 1) (by simp)))
 clear hck hb6 d0 d1
 obtain ⟨d0, d1⟩ := hB6.c2
 clear hB6
 obtain ⟨x0, hx0⟩ : ∃ x, ts[0]'(by have := HX.out.2.2; omega) = x := ⟨_, rfl⟩
 obtain ⟨ad0, eA, had0, e0, e1⟩ := two_get tx_two HB6.out.2.2.rd (k := 0) (by have := HX.out.2.2; omega) (u := .int .i64 x0.time) (v := .slice x0.A x0.n x0.c) (by rw [hx0]; rfl)
 rw [Nat.zero_mul] at e0 e1
 simp only [Addr.add, if_true] at e0 e1
 subst eA
 clear e1 hx0
 have hn1 : (0 : Int) < (n : Int) := by omega
 have hn2 : 0 < n := by omega
 go_wp2_with fail
 go_cut [7] from 36 to 44 (fun v wx => ∃ bs', Byt wx w6.heap.size v bs' ∧ bs'.length = 9 ∧ Below w6.heap.size w6 wx)
 case first =>
  refine wp_region_held_drew (S := fun w' => Below w6.heap.size w6 w') (by kernel_rfl) (bdrew (Below.refl _ _)) (fun hHeld => ?_)
  obtain ⟨wd, hwd⟩ : ∃ wd, w6.drew = wd := ⟨_, rfl⟩
  rw [hwd] at hHeld ⊢
  clear hwd
  refine wpAnyH_take (i := 0) (v := ?vq1_0) (by simp only [List.getElem?_toArray, List.getElem?_cons_succ, List.getElem?_cons_zero]; rfl) (by kernel_rfl) (by kernel_rfl) (by kernel_rfl) (by exact fun _ _ _ h => h) (Or.inl ⟨by rfl, ?hq1_0⟩) hHeld ?_
  case hq1_0 => (intro w' hSw; have k0 := KB.out w' hSw; obtain ⟨k0, k1⟩ := k0; go_simp <;> with_reducible rfl)
  try simp only [Act.put, List.setIfInBounds_toArray, List.set_cons_zero, List.set_cons_succ]
  refine wpAnyH_take (i := 1) (v := ?vq2_1) (by simp only [List.getElem?_toArray, List.getElem?_cons_succ, List.getElem?_cons_zero]; rfl) (by kernel_rfl) (by kernel_rfl) (by kernel_rfl) (by exact fun _ _ _ h => h) (Or.inl ⟨by rfl, ?hq2_1⟩) hHeld ?_
  case hq2_1 => (intro w' hSw; have k0 := KB.out w' hSw; obtain ⟨k0, k1⟩ := k0; go_simp <;> with_reducible rfl)
  try simp only [Act.put, List.setIfInBounds_toArray, List.set_cons_zero, List.set_cons_succ]
  refine wpAnyH_take (i := 3) (v := ?vq3_3) (by simp only [List.getElem?_toArray, List.getElem?_cons_succ, List.getElem?_cons_zero]; rfl) (by kernel_rfl) (by kernel_rfl) (by kernel_rfl) (by exact fun _ _ _ h => h) (Or.inl ⟨by rfl, ?hq3_3⟩) hHeld ?_
  case hq3_3 => (intro w' hSw; have k0 := KB.out w' hSw; obtain ⟨k0, k1⟩ := k0; go_simp <;> with_reducible rfl)
  try simp only [Act.put, List.setIfInBounds_toArray, List.set_cons_zero, List.set_cons_succ]
  refine wpAnyH_take (i := 4) (v := ?vq4_4) (by simp only [List.getElem?_toArray, List.getElem?_cons_succ, List.getElem?_cons_zero]; rfl) (by kernel_rfl) (by kernel_rfl) (by kernel_rfl) (by exact fun _ _ _ h => h) (Or.inl ⟨by rfl, ?hq4_4⟩) hHeld ?_
  case hq4_4 => (intro w' hSw; have k0 := KB.out w' hSw; obtain ⟨k0, k1⟩ := k0; go_simp <;> with_reducible rfl)
  try simp only [Act.put, List.setIfInBounds_toArray, List.set_cons_zero, List.set_cons_succ]
  refine wpAnyH_take (i := 5) (v := ?vq5_5) (by simp only [List.getElem?_toArray, List.getElem?_cons_succ, List.getElem?_cons_zero]; rfl) (by kernel_rfl) (by kernel_rfl) (by kernel_rfl) (by exact fun _ _ _ h => h) (Or.inl ⟨by rfl, ?hq5_5⟩) hHeld ?_
  case hq5_5 => (intro w' hSw; have k0 := KB.out w' hSw; obtain ⟨k0, k1⟩ := k0; go_simp <;> with_reducible rfl)
  try simp only [Act.put, List.setIfInBounds_toArray, List.set_cons_zero, List.set_cons_succ]
  refine wpAnyH_take (i := 6) (v := ?vq6_6) (by simp only [List.getElem?_toArray, List.getElem?_cons_succ, List.getElem?_cons_zero]; rfl) (by kernel_rfl) (by kernel_rfl) (by kernel_rfl) (by exact fun _ _ _ h => h) (Or.inl ⟨by rfl, ?hq6_6⟩) hHeld ?_
  case hq6_6 => (intro w' hSw; have k0 := KB.out w' hSw; obtain ⟨k0, k1⟩ := k0; go_simp <;> with_reducible rfl)
  try simp only [Act.put, List.setIfInBounds_toArray, List.set_cons_zero, List.set_cons_succ]
  refine wpAnyH_ready (rs := [2, 7]) (by kernel_rfl) (by simp) ?_
  refine AllReadyH.cons (by simp only [List.getElem?_toArray, List.getElem?_cons_succ, List.getElem?_cons_zero]; rfl) (fun K hK => ?_) (AllReadyH.cons (by simp only [List.getElem?_toArray, List.getElem?_cons_succ, List.getElem?_cons_zero]; rfl) (fun K hK => ?_) AllReadyH.nil)
  · skip
    have hHeld0 := Lib.hid hHeld.size
    go_simp
    refine (put64_any _ _).mono ?_
    rintro e w8 ⟨⟨u8, b8, rfl, hY8, l8⟩, hb'⟩
    obtain ⟨A8, c8, rfl⟩ := own_shape hY8.1
    have L8 := Lib.hid l8
    clear l8
    have hS' := hHeld.trans (hb'.mono hHeld.size)
    go_simp
    clear hb'
    refine hK.out _ _ (hS') (fun hHeld2 => ?_)
    clear hK K hHeld
    have hHeld := hHeld2
    clear hHeld2
    try simp only [Act.put, List.setIfInBounds_toArray, List.set_cons_zero, List.set_cons_succ]
    clear hS'
    refine wpAnyH_ready (rs := [7]) (by kernel_rfl) (by simp) ?_
    refine AllReadyH.cons (by simp only [List.getElem?_toArray, List.getElem?_cons_succ, List.getElem?_cons_zero]; rfl) (fun K hK => ?_) AllReadyH.nil
    go_simp
    obtain ⟨g7, wA, hg7, hwA, hB7, hb'⟩ := alloc_name hHeld 5 [.int .u8 (IntKind.u8.wrap (n : Int))]
    rw [hwA]
    clear hwA
    try simp only [World.size_drew] at hg7
    have hS' := hHeld.trans (hb'.mono hHeld.size)
    try rw [hg7]
    clear hg7
    replace hY8 := hY8.next hb'
    clear hb'
    refine hK.out _ _ (hS') (fun hHeld2 => ?_)
    clear hK K hHeld
    have hHeld := hHeld2
    clear hHeld2
    try simp only [Act.put, List.setIfInBounds_toArray, List.set_cons_zero, List.set_cons_succ]
    clear hS'
    refine wpAnyH_ready (rs := [8]) (by kernel_rfl) (by simp) ?_
    refine AllReadyH.cons (by simp only [List.getElem?_toArray, List.getElem?_cons_succ, List.getElem?_cons_zero]; rfl) (fun K hK => ?_) AllReadyH.nil
    refine if_wanted rfl (wp_appM _ _ _ 47 rfl w6.heap.size 5 i0 (.int .u8 0) 1 1 Tryz.underlying47 hi hz0 hz1 hz2 rfl (by decide) (.slice A8 b8.length c8) b8.length (b8.map (Value.int .u8)) (by rfl) (ownsRow_base_a hY8.1 (by first | exact hHeld0.out | exact Nat.le_refl _)) _ (some ⟨g7, 0, none⟩) 1 1 [.int .u8 (IntKind.u8.wrap (n : Int))] (by rfl) rfl hB7.rd (by intro u hu; simp at hu; rcases hu with rfl <;> rfl) (by rw [L8.out]; decide) (by rw [L8.out]; decide) hHeld.size ?_)
    intro v10 w10 hO10 hG10 hv10
    have hS' := hHeld.grown hG10 hHeld.size (fun g e => Nat.le_trans hHeld0.out (own_at_ge hY8.1 e))
    have hby := byt_more hY8 (Nat.le_refl _) hO10
    refine hK.out _ _ (hS') (fun hHeld2 => ?_)
    clear hK K hHeld
    have hHeld := hHeld2
    clear hHeld2
    try simp only [Act.put, List.setIfInBounds_toArray, List.set_cons_zero, List.set_cons_succ]
    refine wpAnyH_take (i := 9) (v := ?vq7_9) (by simp only [List.getElem?_toArray, List.getElem?_cons_succ, List.getElem?_cons_zero]; rfl) (by kernel_rfl) (by kernel_rfl) (by kernel_rfl) (by exact fun _ _ _ h => h) (Or.inl ⟨by rfl, ?hq7_9⟩) hHeld ?_
    case hq7_9 => (intro w' hSw; have k0 := KB.out w' hSw; obtain ⟨k0, k1⟩ := k0; go_simp <;> with_reducible rfl)
    try simp only [Act.put, List.setIfInBounds_toArray, List.set_cons_zero, List.set_cons_succ]
    refine wpAnyH_done (by kernel_rfl) ?_ _
    go_wp2_with fail
    go_meet
    exact ⟨_, hby.1, by rw [hby.2, L8.out], hHeld⟩
  · skip
    go_simp
    obtain ⟨g7, wA, hg7, hwA, hB7, hb'⟩ := alloc_name hHeld 5 [.int .u8 (IntKind.u8.wrap (n : Int))]
    rw [hwA]
    clear hwA
    try simp only [World.size_drew] at hg7
    have hS' := hHeld.trans (hb'.mono hHeld.size)
    try rw [hg7]
    clear hg7
    clear hb'
    refine hK.out _ _ (hS') (fun hHeld2 => ?_)
    clear hK K hHeld
    have hHeld := hHeld2
    clear hHeld2
    try simp only [Act.put, List.setIfInBounds_toArray, List.set_cons_zero, List.set_cons_succ]
    clear hS'
    refine wpAnyH_ready (rs := [2]) (by kernel_rfl) (by simp) ?_
    refine AllReadyH.cons (by simp only [List.getElem?_toArray, List.getElem?_cons_succ, List.getElem?_cons_zero]; rfl) (fun K hK => ?_) AllReadyH.nil
    have hHeld0 := Lib.hid hHeld.size
    go_simp
    refine (put64_any _ _).mono ?_
    rintro e w8 ⟨⟨u8, b8, rfl, hY8, l8⟩, hb'⟩
    obtain ⟨A8, c8, rfl⟩ := own_shape hY8.1
    have L8 := Lib.hid l8
    clear l8
    have hS' := hHeld.trans (hb'.mono hHeld.size)
    go_simp
    replace hB7 := hB7.next hb' hB7.lt
    clear hb'
    refine hK.out _ _ (hS') (fun hHeld2 => ?_)
    clear hK K hHeld
    have hHeld := hHeld2
    clear hHeld2
    try simp only [Act.put, List.setIfInBounds_toArray, List.set_cons_zero, List.set_cons_succ]
    clear hS'
    refine wpAnyH_ready (rs := [8]) (by kernel_rfl) (by simp) ?_
    refine AllReadyH.cons (by simp only [List.getElem?_toArray, List.getElem?_cons_succ, List.getElem?_cons_zero]; rfl) (fun K hK => ?_) AllReadyH.nil
    refine if_wanted rfl (wp_appM _ _ _ 47 rfl w6.heap.size 5 i0 (.int .u8 0) 1 1 Tryz.underlying47 hi hz0 hz1 hz2 rfl (by decide) (.slice A8 b8.length c8) b8.length (b8.map (Value.int .u8)) (by rfl) (ownsRow_base_a hY8.1 (by first | exact hHeld0.out | exact Nat.le_refl _)) _ (some ⟨g7, 0, none⟩) 1 1 [.int .u8 (IntKind.u8.wrap (n : Int))] (by rfl) rfl hB7.rd (by intro u hu; simp at hu; rcases hu with rfl <;> rfl) (by rw [L8.out]; decide) (by rw [L8.out]; decide) hHeld.size ?_)
    intro v10 w10 hO10 hG10 hv10
    have hS' := hHeld.grown hG10 hHeld.size (fun g e => Nat.le_trans hHeld0.out (own_at_ge hY8.1 e))
    have hby := byt_more hY8 (Nat.le_refl _) hO10
    refine hK.out _ _ (hS') (fun hHeld2 => ?_)
    clear hK K hHeld
    have hHeld := hHeld2
    clear hHeld2
    try simp only [Act.put, List.setIfInBounds_toArray, List.set_cons_zero, List.set_cons_succ]
    refine wpAnyH_take (i := 9) (v := ?vq8_9) (by simp only [List.getElem?_toArray, List.getElem?_cons_succ, List.getElem?_cons_zero]; rfl) (by kernel_rfl) (by kernel_rfl) (by kernel_rfl) (by exact fun _ _ _ h => h) (Or.inl ⟨by rfl, ?hq8_9⟩) hHeld ?_
    case hq8_9 => (intro w' hSw; have k0 := KB.out w' hSw; obtain ⟨k0, k1⟩ := k0; go_simp <;> with_reducible rfl)
    try simp only [Act.put, List.setIfInBounds_toArray, List.set_cons_zero, List.set_cons_succ]
    refine wpAnyH_done (by kernel_rfl) ?_ _
    go_wp2_with fail
    go_meet
    exact ⟨_, hby.1, by rw [hby.2, L8.out], hHeld⟩
 case rest =>
  obtain ⟨b0, hby, hbl, hbx⟩ := hcut
  obtain ⟨c7A, c7c, rfl⟩ := own_shape hby.1
  have HY0 := Lib.hid (And.intro (show EnX w6 wc (.slice none 0 0) (.slice c7A b0.length c7c) [] b0 from ⟨hbx, ⟨⟨rfl, .inl ⟨rfl, rfl⟩⟩, by simp⟩, hby, by simp⟩) hbl)
  clear d0 d1
  obtain ⟨d0, d1⟩ := KB.out wc hbx
  simp only [List.getElem_cons_zero, List.getElem_cons_succ] at d0 d1
  clear e0 had0 hby hbl hbx hn1 hn2 t1 t2
  go_wp2_with fail
  refine eo_loop w6 wc w.heap.size n c ad0 ep num ts _ _ _ _ _ _ _ _ _ _ _ _ _ _ _ _ _ _ _ _ _ _ _ _ _ _ _ _ _ _ _ _ _ _ _ _ _ _ _ _ _ _ _ _ _ _ _ _ _ _ _ _ _ _ _ _ _ _ _ _ _ _ _ _ _ _ _ _ _ _ _ _ _ _ _ _ _ _ _ _ _ _ _ _ _ _ _ _ _ _ _ _ _ _ _ _ _ _ _ _ _ _ _ _ _ _ _ _ _ _ _ _ _ _ _ _ _ _ _ HB6.out.2.1 HB6.out.2.2 HX.out.2.1 HN.out.2 HN.out.1.2 ⟨0, x0.time, [], b0, Nat.zero_le _, rfl, rfl, HY0.out.1, by simp, HY0.out.2⟩ ?_
  intro u4 u7 u8 u10 u12 u13 u14 u15 u49 u50 u51 u52 u53 u54 u55 u56 u57 u58 u59 u60 u61 u62 u63 u64 u65 u66 u67 u68 u69 u70 u71 u72 u73 u74 u75 u76 u77 u78 u79 u80 u81 u82 u83 u84 u85 u86 u87 u88 u89 u90 u91 wr hX
  obtain ⟨xs, bs, hE, hl, hb⟩ := hX
  clear d0 d1
  obtain ⟨d0, d1⟩ := KB.out wr hE.bel
  simp only [List.getElem_cons_zero, List.getElem_cons_succ] at d0 d1
  obtain ⟨oA, oc, rfl⟩ := own_shape hE.row.own
  have hx32 : xs.length ≤ 32 := by rw [hl]; exact Nat.le_trans (nsum_le ts n) HX.out.2.1.sum
  have HE := Lib.hid (And.intro hE (And.intro hl (And.intro hb hx32)))
  clear hE hl hb hx32
  go_wp2_with fail
  refine el_loop w6 wr n c ad0 num ts xs _ _ _ _ _ _ _ _ _ _ _ _ _ _ _ _ _ _ _ _ _ _ _ _ _ _ _ _ _ _ _ _ _ _ _ _ _ _ _ _ _ _ _ _ _ _ _ _ _ _ _ _ _ _ _ _ _ _ _ _ _ _ _ _ _ _ _ _ _ _ _ _ _ _ _ _ _ _ _ _ _ _ _ _ _ _ _ _ _ _ _ _ _ _ _ _ _ _ _ _ _ _ _ _ _ _ _ _ _ _ _ _ _ _ _ _ _ _ _ _ _ HB6.out.2.2 HX.out.2.1 HN.out.1.2 ⟨0, bs, Nat.zero_le _, rfl, HE.out.1, HE.out.2.2.1⟩ ?_
  intro v7 v17 v95 v96 v97 v98 v99 v100 v101 v102 v103 v104 v105 v106 w3 hX3
  obtain ⟨bs3, hE3, hb3⟩ := hX3
  clear d0 d1
  obtain ⟨d0, d1⟩ := KB.out w3 hE3.bel
  simp only [List.getElem_cons_zero, List.getElem_cons_succ] at d0 d1
  obtain ⟨bA, bc, e7, hib⟩ := hE3.body.isB
  subst e7
  have hen := encode_any 2 ep num (xs.length : Int) bA bs3.length bc bs3 w3 (by decide) HN.out.2 (en_seq HX.out.2.1.num) (en_lba2 HE.out.2.2.2) hib (en_b40 hb3 HN.out.1.2)
  have H3 := Lib.hid (And.intro hE3 hb3)
  clear hE3 hb3 hib
  go_wp2_with fail
  refine hen.mono ?_
  rintro e wC ⟨⟨v, b2, rfl, hby, hl64⟩, hbC⟩
  obtain ⟨zA, zc, rfl⟩ := own_shape (own_len' hl64 hby.1)
  obtain ⟨wD, hwD⟩ : ∃ wD, wC.alloc (.cells #[.slice zA 64 zc] 47) = wD := ⟨_, rfl⟩
  have hBD : Bk wD wC.heap.size 47 [.slice zA 64 zc] := by rw [← hwD]; exact Bk.new wC _ _
  have hbD : Below wC.heap.size wC wD := by rw [← hwD]; exact (Below.refl _ _).alloc (Nat.le_refl _) _
  have hrD : Below w3.heap.size w3 wD := hbC.trans (hbD.mono hbC.size)
  have HD := Lib.hid (And.intro hBD (And.intro hrD (And.intro (hby.next hbD) (And.intro hl64 (H3.out.1.next hrD)))))
  have hy5 := en_m HE.out.2.2.2
  clear hen hby hl64 hbC hBD hbD hrD d0 d1
  go_wp2_with (at_builtin; go_must (refine wpList_appS _ rfl _ _ 144 rfl w6.heap.size 47 xi xz 1 24 Tryz.underlying144 hxi hxz hx5 hx56 hxc (by decide) _ _ _ (by rfl) (by exact HD.out.2.2.2.2.row.own) _ [.slice zA 64 zc] (by rfl) (by exact HD.out.1) rfl (by intro u hu; simp at hu; rcases hu with rfl <;> rfl) (by exact hy5) (by decide) (by exact HD.out.2.2.2.2.bel.size) ?_); intro v9 w9 hO9 hG9 hv9; obtain ⟨sA, sc, rfl⟩ := own_shape hO9)
  have HZ := Lib.hid (EnX.out H3.out.1 HD.out.2.1 HD.out.2.2.1 HD.out.2.2.2.1 rfl hO9 hG9)
  clear hO9 hG9 hv9
  go_wp2_with fail
  go_ret2
  refine ⟨⟨_, _, rfl, HZ.out.row.base HB6.out.1.size, ?_⟩, HB6.out.1.trans (HZ.out.bel.mono HB6.out.1.size)⟩
  rw [List.length_append, HE.out.2.1, List.take_of_length_le (by rw [HX.out.2.2]; exact Nat.le_refl _)]
  exact Nat.add_comm _ _
end
section
open Go.RowKit Go.Maps
theorem yt_but {w w' : World} {o : Option Nat} {A : Option Addr} {n c : Nat} {bs : List Int} (h : IsY w A n c bs) (hG : w.grownBy w' o) (ha : ∀ ad, A = some ad → o ≠ some ad.block) : IsY w' A n c bs := by
 cases o with
 | none => exact h.ag (F := fun _ => True) ⟨hG.size, fun b ob hb _ => (hG.block b (lt_of hb) (fun q => by cases q)).trans hb⟩
 | some g => exact h.but hG (fun ad q e => ha ad q (by rw [e]))
theorem row_but {w w' : World} {o : Option Nat} {B e s n : Nat} {v : Value} {xs : List Value} (h : w.ownsRow B e s v n xs) (hG : w.grownBy w' o) (ha : ∀ g, o = some g → v.ownBlock ≠ some g) : w'.ownsRow B e s v n xs := by
 cases o with
 | none => exact own_ag (F := fun _ => True) h ⟨hG.size, fun b ob hb _ => (hG.block b (lt_of hb) (fun q => by cases q)).trans hb⟩ (fun _ _ => trivial)
 | some g => exact own_but h hG (fun g' e q => ha g rfl (q ▸ e))
structure TxtL (w wr : World) (bv : Value) (bs : List Int) (B : Nat) (v : Value) (ks : List Int) (ps : List PutD) : Prop where
 bel : Below w.heap.size w wr
 body : Byt wr w.heap.size bv bs
 puts : PutsOf wr B v ks ps
 away : ∀ p ∈ ps, ∀ ad, p.A = some ad → bv.ownBlock ≠ some ad.block
section
variable {w wr w9 w' : World} {bv v' : Value} {bs : List Int} {B : Nat} {v : Value} {ks : List Int} {ps : List PutD}
theorem TxtL.next (h : TxtL w wr bv bs B v ks ps) (hb : Below wr.heap.size wr w') : TxtL w w' bv bs B v ks ps :=
 ⟨h.bel.trans (hb.mono h.bel.size), h.body.next hb, h.puts.next hb, h.away⟩
theorem TxtL.more (h9 : TxtL w w9 bv bs B v ks ps) {ys : List Int} (hO : w'.ownsRow w.heap.size 5 1 v' (bs.length + ys.length) (bs.map (Value.int .u8) ++ ys.map (Value.int .u8))) (hw : ∀ x ∈ ys, 0 ≤ x ∧ x < 256) (hG : w9.grownBy w' bv.ownBlock) (hv : v'.ownBlock = bv.ownBlock ∨ v'.ownBlock = some w9.heap.size) :
  TxtL w w' v' (bs ++ ys) B v ks ps := by
 refine ⟨h9.bel.grown hG h9.bel.size (fun g e => own_at_ge h9.body.1 e), ⟨?_, fun x hx => ?_⟩, ⟨row_but h9.puts.own hG (fun g e => own_ne_own h9.body.1 h9.puts.own (by decide) e), h9.puts.lba, h9.puts.n40, fun p hp => yt_but (h9.puts.y p hp) hG (h9.away p hp), h9.puts.new⟩, fun p hp ad q e => ?_⟩
 · rw [List.length_append, List.map_append]; exact hO
 · rcases List.mem_append.1 hx with s | s
   · exact h9.body.2 x s
   · exact hw x s
 · rcases hv with s | s
   · exact h9.away p hp ad q (s.symm.trans e)
   · rw [s] at e
     injection e with e
     obtain ⟨ob, ho, _⟩ := (h9.puts.y p hp).y ad q (by rw [h9.puts.n40 p hp]; decide)
     have := lt_of ho
     omega
end
theorem txt_len {w : World} {B : Nat} {v : Value} {ks : List Int} {ps : List PutD} (h : PutsOf w B v ks ps) {x : PutD} (hx : x ∈ ps) (h40 : x.n = 40) : x.bs.length = 40 := by
 have := (h.y x hx).b.len
 omega
theorem txt_rd {w : World} {B : Nat} {v : Value} {ks : List Int} {ps : List PutD} (h : PutsOf w B v ks ps) {x : PutD} (hx : x ∈ ps) : Rd w w.heap.size x.A (x.bs.map (Value.int .u8)) := (h.y x hx).b.rd
theorem tx_n1 {a b : Nat} (h : a ≤ 11360) (e : b = 4) : a + b ≤ 1000000000 := by omega
theorem tx_n2 {a b : Nat} (h : a ≤ 11360) (e : b = 4) : (a + b) * 1 ≤ 1000000000000 := by omega
theorem tx_n3 {a b : Nat} (h : a ≤ 11360) (e : b = 4) : a + b + 40 ≤ 1000000000 := by omega
theorem tx_n4 {a b : Nat} (h : a ≤ 11360) (e : b = 4) : (a + b + 40) * 1 ≤ 1000000000000 := by omega
theorem text_step {n k : Nat} (h : k < n) (hn : n ≤ 258) {L : Nat} (hL : L = 8 + 44 * k) : L + 4 + 40 = 8 + 44 * (k + 1) ∧ L ≤ 11360 := by omega
theorem text_any (F : Foot) (Ft : Nat → Foot) (sb gd mb gs pos num count g : Nat) (ns : List Nat) (m : MS) (w : World) (h : StoX w F Ft sb gd mb gs pos num count ns m g) :
  Calls Tryz.prog 46 #[.pointer (some ⟨sb, 0, none⟩)] w fun e w' => (∃ v bs, e = .returned v ∧ Byt w' w.heap.size v bs ∧ bs.length ≤ 11360) ∧ Below w.heap.size w w' := by
 obtain ⟨i0, hi, hz0, hz1, hz2⟩ := info_parts infoB
 obtain ⟨_, _, _, c5, _⟩ := stcells_at h.bx
 have hl := mLast h.man
 have HX := Lib.hid h
 clear h
 go_enter Tryz.func46, Tryz.ntmps46
 go_wp2_with fail
 refine hl.mono ?_
 rintro e w' ⟨rfl, rfl⟩
 clear hl
 go_wp2_with fail
 refine (put64_any _ _).mono ?_
 rintro e w1 ⟨⟨u1, b1, rfl, hY1, l1⟩, hb1⟩
 clear c5
 have hX1 := HX.out.next hb1
 obtain ⟨_, _, _, c5, _⟩ := stcells_at hX1.bx
 have hd := mdump_any _ mb g w1.heap.size m w1 hX1.man (Nat.le_refl _)
 have HY1 := Lib.hid (And.intro hY1 (And.intro l1 hb1))
 obtain ⟨u1A, u1c, rfl⟩ := own_shape hY1.1
 clear hX1 hY1 l1 hb1
 go_wp2_with fail
 refine hd.mono ?_
 rintro e w2 ⟨⟨v2, rfl, ks, ⟨ps, hps⟩, hk1, hk2⟩, hb2⟩
 obtain ⟨kA, kc, rfl⟩ := own_shape hps.own
 have HT := Lib.hid (show TxtL w w2 (.slice u1A b1.length u1c) b1 w1.heap.size (.slice kA ks.length kc) ks ps from ⟨HY1.out.2.2.trans (hb2.mono HY1.out.2.2.size), HY1.out.1.next hb2, hps, fun p hp ad q e => by
  have h1 := hps.new p hp ad q
  obtain ⟨_, _, hh⟩ := own_at HY1.out.1.1 e
  have := lt_of hh
  omega⟩)
 obtain ⟨n, hn⟩ : ∃ n, ks.length = n := ⟨_, rfl⟩
 have HK := Lib.hid (And.intro hk1 hn)
 have hpl := hps.len
 rw [hn] at HT hpl ⊢
 clear hd hps hk1 hk2 c5 hb2 hn
 go_wp2_with fail
 go_loopw [3, 19] (fun bv iv wr => ∃ (k : Nat) (bs : List Int), k ≤ n ∧ iv = .int .i64 (k : Int) ∧ Hid (TxtL w wr bv bs w1.heap.size (.slice kA n kc) ks ps ∧ bs.length = 8 + 44 * k)) (fun _ iv _ => n - (intOf iv).toNat)
 case atStart => exact ⟨0, b1, Nat.zero_le _, rfl, HT.out, by rw [HY1.out.2.1]⟩
 case round =>
  obtain ⟨k, bs, hk, rfl, HE⟩ := hrel
  by_cases hlt : k < n
  · obtain ⟨x, hx⟩ : ∃ x, ps[k]'(by omega) = x := ⟨_, rfl⟩
    have hmx : x ∈ ps := by rw [← hx]; exact List.getElem_mem _
    have hx40 := HE.out.1.puts.n40 x hmx
    obtain ⟨adk, eAk, hadk, e0, e1⟩ := two_get (l := ps) put_two (rd_of_own (own_len' HK.out.2 HE.out.1.puts.own)) (k := k) (by omega) (u := .int .i64 x.lba) (v := .slice x.A x.n x.c) (by rw [hx]; rfl)
    subst eAk
    rw [hx40] at e1
    have n1 : (k : Int) < (n : Int) := by omega
    have n2 : (0 : Int) ≤ (k : Int) := by omega
    have m2 : wrap64 ((k : Int) + 1) = (k : Int) + 1 := by have := HK.out.1; have := HK.out.2; unfold wrap64; omega
    obtain ⟨wA, hwA⟩ : ∃ wA, wr.alloc (.cells #[.int .i64 x.lba, .slice x.A 40 x.c] 50) = wA := ⟨_, rfl⟩
    have hBA : Bk wA wr.heap.size 50 [.int .i64 x.lba, .slice x.A 40 x.c] := by rw [← hwA]; exact Bk.new wr _ _
    have hbA : Below wr.heap.size wr wA := by rw [← hwA]; exact (Below.refl _ _).alloc (Nat.le_refl _) _
    obtain ⟨d0, d1⟩ := hBA.c2
    have HM := Lib.hid (And.intro hmx (And.intro hx40 (And.intro hlt (text_step hlt (by have := HK.out.1; have := HK.out.2; omega) HE.out.2))))
    have HA := Lib.hid (And.intro hBA hbA)
    have KK := Lib.hid (fun (w' : World) (hS : Bk w' wr.heap.size 50 [.int .i64 x.lba, .slice x.A 40 x.c]) => And.intro (hS.cell (i := 0) (by simp)) (hS.cell (i := 1) (by simp)))
    simp only [List.getElem_cons_zero, List.getElem_cons_succ] at KK
    obtain ⟨bA, bc, rfl⟩ := own_shape HE.out.1.body.1
    clear hx hmx hx40 hBA hbA d0 d1
    go_wp2_with fail
    have Kq := KK
    refine wp_region_held_drew (S := fun w' => Bk w' wr.heap.size 50 [.int .i64 x.lba, .slice x.A 40 x.c]) (by kernel_rfl) (HA.out.1.drew) (fun hHeld => ?_)
    refine kF 0 ?_; refine kF 1 ?_; refine kF 2 ?_; refine kF 3 ?_; refine kF 6 ?_; refine kF 7 ?_
    refine rF 4 (fun K hK => ?_)
    go_simp
    refine (put32_any _ _).mono ?_
    rintro e w4 ⟨⟨u4, b4, rfl, hY4, l4⟩, hb4⟩
    obtain ⟨A4, c4, rfl⟩ := own_shape hY4.1
    have hbd : Below wr.heap.size wr w4 := (HA.out.2.trans ((bdrew (Below.refl _ _)).mono HA.out.2.size)).trans (hb4.mono HA.out.2.size)
    have hS4 : Bk w4 wr.heap.size 50 [.int .i64 x.lba, .slice x.A 40 x.c] := hHeld.next hb4 hHeld.lt
    have H4 := Lib.hid (And.intro (HE.out.1.next hbd) (And.intro hY4 l4))
    clear hbd hY4 l4 hb4
    go_simp
    refine hK.out _ _ (hS4) (fun hHeld2 => ?_)
    clear hK K hHeld
    have hHeld := hHeld2
    clear hHeld2
    try simp only [Act.put, List.setIfInBounds_toArray, List.set_cons_zero, List.set_cons_succ]
    refine rF 5 (fun K hK => ?_)
    refine if_wanted rfl (wp_appM w4 _ _ 47 rfl w.heap.size 5 i0 (.int .u8 0) 1 1 Tryz.underlying47 hi hz0 hz1 hz2 rfl (by decide) (.slice bA bs.length bc) bs.length (bs.map (Value.int .u8)) (by rfl) H4.out.1.body.1 _ A4 b4.length c4 (b4.map (Value.int .u8)) (by rfl) (by rw [List.length_map, Nat.mul_one]) (rd_of_own H4.out.2.1.1) one_int (tx_n1 HM.out.2.2.2.2 H4.out.2.2) (tx_n2 HM.out.2.2.2.2 H4.out.2.2) H4.out.1.bel.size ?_)
    intro v5 w5 hO5 hG5 hv5
    have H5 := Lib.hid (H4.out.1.more hO5 H4.out.2.1.2 hG5 hv5)
    have hS5 : Bk w5 wr.heap.size 50 [.int .i64 x.lba, .slice x.A 40 x.c] := bk_but' hS4 hG5 (own_ne_bk H4.out.1.body.1 hS4 (by decide))
    obtain ⟨A5, c5, rfl⟩ := own_shape hO5
    have HO5 := Lib.hid hO5
    clear hO5 hG5 hv5
    refine hK.out _ _ (hS5) (fun hHeld2 => ?_)
    clear hK K hHeld
    have hHeld := hHeld2
    clear hHeld2
    try simp only [Act.put, List.setIfInBounds_toArray, List.set_cons_zero, List.set_cons_succ]
    refine rF 8 (fun K hK => ?_)
    refine if_wanted rfl (wp_appM w5 _ _ 47 rfl w.heap.size 5 i0 (.int .u8 0) 1 1 Tryz.underlying47 hi hz0 hz1 hz2 rfl (by decide) (.slice A5 (bs.length + b4.length) c5) (bs.length + b4.length) (bs.map (Value.int .u8) ++ b4.map (Value.int .u8)) (by rfl) HO5.out _ x.A 40 x.c (x.bs.map (Value.int .u8)) (by rfl) (by rw [List.length_map, Nat.mul_one, txt_len H5.out.puts HM.out.1 HM.out.2.1]) (txt_rd H5.out.puts HM.out.1) one_int (tx_n3 HM.out.2.2.2.2 H4.out.2.2) (tx_n4 HM.out.2.2.2.2 H4.out.2.2) H5.out.bel.size ?_)
    intro v8 w8 hO8 hG8 hv8
    have HZ := Lib.hid (And.intro (H5.out.more (by rw [List.length_append, List.map_append, txt_len H5.out.puts HM.out.1 HM.out.2.1]; exact hO8) (H5.out.puts.y x HM.out.1).b.wf hG8 hv8) (show ((bs ++ b4) ++ x.bs).length = 8 + 44 * (k + 1) by rw [List.length_append, List.length_append, H4.out.2.2, txt_len H5.out.puts HM.out.1 HM.out.2.1]; exact HM.out.2.2.2.1))
    have hS8 : Bk w8 wr.heap.size 50 [.int .i64 x.lba, .slice x.A 40 x.c] := bk_but' hS5 hG8 (own_ne_bk HO5.out hS5 (by decide))
    obtain ⟨A8, c8, rfl⟩ := own_shape hO8
    clear hO8 hG8 hv8
    refine hK.out _ _ (hS8) (fun hHeld2 => ?_)
    clear hK K hHeld
    have hHeld := hHeld2
    clear hHeld2
    try simp only [Act.put, List.setIfInBounds_toArray, List.set_cons_zero, List.set_cons_succ]
    refine kF 9 ?_
    refine wpAnyH_done (by kernel_rfl) ?_ _
    clear Kq
    clear e0 e1
    go_wp2_with fail
    go_roundw
    case rel => exact ⟨k + 1, _, HM.out.2.2.1, int_succ (by first | rfl | exact m2), HZ.out⟩
    case measure => (rw [m2]; exact sub_lt1 (x := (k : Int) + 1) HM.out.2.2.1 rfl)
  · obtain rfl : k = n := by omega
    have n1 : ¬ (k : Int) < (k : Int) := by omega
    obtain ⟨oA, oc, rfl⟩ := own_shape HE.out.1.body.1
    go_wp2_with fail
    go_ret
    exact ⟨⟨_, rfl, bs, HE.out.1.body, by have := HE.out.2; have := HK.out.1; have := HK.out.2; omega⟩, HE.out.1.bel⟩
end
section
open Go.RowKit Go.Maps
theorem lg_step {ns : List Nat} {p : Nat} (h6 : ns[6]? = some (zc p 0)) (h7 : ns[7]? = some (zc p 1)) (hp : p < 192) : ns[6 + p / 96]? = some (zc p (p / 96)) ∧ zc p (p / 96) < 96 ∧ (ns.set (6 + p / 96) (zc p (p / 96) + 1))[6]? = some (zc (p + 1) 0) ∧ (ns.set (6 + p / 96) (zc p (p / 96) + 1))[7]? = some (zc (p + 1) 1) := by
 have l6 := get_lt h6
 have l7 := get_lt h7
 have hq : p / 96 = 0 ∨ p / 96 = 1 := by omega
 refine ⟨?_, zc_at p, ?_, ?_⟩
 · rcases hq with e | e <;> rw [e] <;> assumption
 · rw [List.getElem?_set]
   rcases hq with e | e
   · have hs := zc_same p
     rw [e] at hs ⊢
     rw [if_pos rfl, if_pos l6, hs]
   · rw [e, if_neg (by decide), h6, zc_other (by omega)]
 · rw [List.getElem?_set]
   rcases hq with e | e
   · rw [e, if_neg (by decide), h7, zc_other (by omega)]
   · have hs := zc_same p
     rw [e] at hs ⊢
     rw [if_pos rfl, if_pos l7, hs]
theorem lg_num {pos i q : Nat} (h : pos + i < 192) (hq : q = (pos + i) / 96) : wrap64 ((pos : Int) + (i : Int)) = (pos : Int) + (i : Int) ∧ ((pos : Int) + (i : Int)).tdiv 96 = (q : Int) ∧ wrap64 (q : Int) = (q : Int) ∧ wrap64 (6 + (q : Int)) = 6 + (q : Int) ∧ IntKind.i64.wrap ((pos : Int) + (i : Int)) = (pos : Int) + (i : Int) ∧ IntKind.i64.wrap (q : Int) = (q : Int) ∧ IntKind.i64.wrap (6 + (q : Int)) = 6 + (q : Int) := by
 have h2 : ((pos : Int) + (i : Int)).tdiv 96 = (q : Int) := by rw [hq, ← quo96]; rfl
 exact ⟨by unfold wrap64; omega, h2, by unfold wrap64; omega, by unfold wrap64; omega, IntWalk.i64_in _ (by omega), IntWalk.i64_in _ (by omega), IntWalk.i64_in _ (by omega)⟩
structure LogX (w5 wr : World) (F2 : Foot) (sb gd mb gs pos num i : Nat) : Prop where
 dev : ∃ Fi nsi, Dev wr Fi gd nsi ∧ nsi[6]? = some (zc (pos + i) 0) ∧ nsi[7]? = some (zc (pos + i) 1) ∧ Sb w5 F2 Fi ∧ In wr Fi
 kf : Kf F2 w5 wr
def WLI (w5 : World) (F2 : Foot) (sb gd mb gs pos num L lc : Nat) (lA : Option Addr) (c1 c2 c3 c4 c5 c6 c7 c8 c14 c15 c16 c17 c18 c19 c20 c21 c22 c23 c24 c25 c26 c27 c28 c29 c30 c31 c32 c33 c34 c35 c36 c37 c38 c39 c40 c41 c42 c43 c44 c45 c46 c47 c48 c49 c50 c51 c52 c53 c54 c55 c56 c57 c58 c59 c60 c61 c62 c63 c64 c65 c99 c100 c101 c102 c103 c104 c105 c106 c107 c108 c109 c110 c111 c112 c113 c114 c115 c116 c117 c118 c119 c120 : Value) (a : Act) (wr : World) : Prop :=
 ∃ u10 u11 u12 u13 u68 u69 u70 u71 u72 u73 u74 u75 u76 u77 u78 u79 u80 u81 u82 u83 u84 u85 u86 u87 u88 u89 u90 u91 u92 u93 u94 u95 u96 u97 u98 : Value, (∃ i : Nat, i ≤ L ∧ u68 = .int .i64 (i : Int) ∧ LogX w5 wr F2 sb gd mb gs pos num i) ∧ a = ⟨#[.pointer (some ⟨sb, 0, none⟩), c1, c2, c3, c4, c5, c6, c7, c8, .int .i64 96, u10, u11, u12, u13, c14, c15, c16, c17, c18, c19, c20, c21, c22, c23, c24, c25, c26, c27, c28, c29, c30, c31, c32, c33, c34, c35, c36, c37, c38, c39, c40, c41, c42, c43, c44, c45, c46, c47, c48, c49, c50, c51, c52, c53, c54, c55, c56, c57, c58, c59, c60, c61, c62, c63, c64, c65, .slice lA L lc, .int .i64 (L : Int), u68, u69, u70, u71, u72, u73, u74, u75, u76, u77, u78, u79, u80, u81, u82, u83, u84, u85, u86, u87, u88, u89, u90, u91, u92, u93, u94, u95, u96, u97, u98, c99, c100, c101, c102, c103, c104, c105, c106, c107, c108, c109, c110, c111, c112, c113, c114, c115, c116, c117, c118, c119, c120], []⟩
theorem WLI.mk {w5 wr : World} {F2 : Foot} {sb gd mb gs pos num L lc : Nat} {lA : Option Addr} {c1 c2 c3 c4 c5 c6 c7 c8 c14 c15 c16 c17 c18 c19 c20 c21 c22 c23 c24 c25 c26 c27 c28 c29 c30 c31 c32 c33 c34 c35 c36 c37 c38 c39 c40 c41 c42 c43 c44 c45 c46 c47 c48 c49 c50 c51 c52 c53 c54 c55 c56 c57 c58 c59 c60 c61 c62 c63 c64 c65 c99 c100 c101 c102 c103 c104 c105 c106 c107 c108 c109 c110 c111 c112 c113 c114 c115 c116 c117 c118 c119 c120 : Value} {u10 u11 u12 u13 u68 u69 u70 u71 u72 u73 u74 u75 u76 u77 u78 u79 u80 u81 u82 u83 u84 u85 u86 u87 u88 u89 u90 u91 u92 u93 u94 u95 u96 u97 u98 : Value} (h : ∃ i : Nat, i ≤ L ∧ u68 = .int .i64 (i : Int) ∧ LogX w5 wr F2 sb gd mb gs pos num i) : WLI w5 F2 sb gd mb gs pos num L lc lA c1 c2 c3 c4 c5 c6 c7 c8 c14 c15 c16 c17 c18 c19 c20 c21 c22 c23 c24 c25 c26 c27 c28 c29 c30 c31 c32 c33 c34 c35 c36 c37 c38 c39 c40 c41 c42 c43 c44 c45 c46 c47 c48 c49 c50 c51 c52 c53 c54 c55 c56 c57 c58 c59 c60 c61 c62 c63 c64 c65 c99 c100 c101 c102 c103 c104 c105 c106 c107 c108 c109 c110 c111 c112 c113 c114 c115 c116 c117 c118 c119 c120 ⟨#[.pointer (some ⟨sb, 0, none⟩), c1, c2, c3, c4, c5, c6, c7, c8, .int .i64 96, u10, u11, u12, u13, c14, c15, c16, c17, c18, c19, c20, c21, c22, c23, c24, c25, c26, c27, c28, c29, c30, c31, c32, c33, c34, c35, c36, c37, c38, c39, c40, c41, c42, c43, c44, c45, c46, c47, c48, c49, c50, c51, c52, c53, c54, c55, c56, c57, c58, c59, c60, c61, c62, c63, c64, c65, .slice lA L lc, .int .i64 (L : Int), u68, u69, u70, u71, u72, u73, u74, u75, u76, u77, u78, u79, u80, u81, u82, u83, u84, u85, u86, u87, u88, u89, u90, u91, u92, u93, u94, u95, u96, u97, u98, c99, c100, c101, c102, c103, c104, c105, c106, c107, c108, c109, c110, c111, c112, c113, c114, c115, c116, c117, c118, c119, c120], []⟩ wr := ⟨u10, u11, u12, u13, u68, u69, u70, u71, u72, u73, u74, u75, u76, u77, u78, u79, u80, u81, u82, u83, u84, u85, u86, u87, u88, u89, u90, u91, u92, u93, u94, u95, u96, u97, u98, h, rfl⟩
def wlmu (n : Nat) (a : Act) (_ : World) : Nat := n - (intOf (a.tmps.getD 68 undef)).toNat
theorem wlmu_eq {L sb lc : Nat} {lA : Option Addr} {w : World} {x : Int} {c1 c2 c3 c4 c5 c6 c7 c8 c14 c15 c16 c17 c18 c19 c20 c21 c22 c23 c24 c25 c26 c27 c28 c29 c30 c31 c32 c33 c34 c35 c36 c37 c38 c39 c40 c41 c42 c43 c44 c45 c46 c47 c48 c49 c50 c51 c52 c53 c54 c55 c56 c57 c58 c59 c60 c61 c62 c63 c64 c65 c99 c100 c101 c102 c103 c104 c105 c106 c107 c108 c109 c110 c111 c112 c113 c114 c115 c116 c117 c118 c119 c120 u10 u11 u12 u13 u69 u70 u71 u72 u73 u74 u75 u76 u77 u78 u79 u80 u81 u82 u83 u84 u85 u86 u87 u88 u89 u90 u91 u92 u93 u94 u95 u96 u97 u98 : Value} : wlmu L ⟨#[.pointer (some ⟨sb, 0, none⟩), c1, c2, c3, c4, c5, c6, c7, c8, .int .i64 96, u10, u11, u12, u13, c14, c15, c16, c17, c18, c19, c20, c21, c22, c23, c24, c25, c26, c27, c28, c29, c30, c31, c32, c33, c34, c35, c36, c37, c38, c39, c40, c41, c42, c43, c44, c45, c46, c47, c48, c49, c50, c51, c52, c53, c54, c55, c56, c57, c58, c59, c60, c61, c62, c63, c64, c65, .slice lA L lc, .int .i64 (L : Int), .int .i64 x, u69, u70, u71, u72, u73, u74, u75, u76, u77, u78, u79, u80, u81, u82, u83, u84, u85, u86, u87, u88, u89, u90, u91, u92, u93, u94, u95, u96, u97, u98, c99, c100, c101, c102, c103, c104, c105, c106, c107, c108, c109, c110, c111, c112, c113, c114, c115, c116, c117, c118, c119, c120], []⟩ w = L - x.toNat := rfl
structure WlH (w5 : World) (F2 : Foot) (sb gd mb gs pos num L lc : Nat) (lA : Option Addr) (xs : List BR) : Prop where
 bx : Bk w5 sb 108 (stcells gd mb gs pos num)
 row : ∃ B, RowY w5 B (.slice lA L lc) xs ∧ ∀ b, F2 b → b < B
 len : xs.length = L
 f2 : ¬ F2 sb
 fit : pos + L ≤ 192
 l33 : L ≤ 33
theorem wl_get {w5 wr : World} {F2 : Foot} {sb gd mb gs pos num L lc i : Nat} {lA : Option Addr} {xs : List BR} (H : WlH w5 F2 sb gd mb gs pos num L lc lA xs) (hx : LogX w5 wr F2 sb gd mb gs pos num i) (hlt : i < L) :
  ∃ (Fi : Foot) (nsi : List Nat) (ad : Addr) (x : BR), lA = some ad ∧ wr.cell? (ad.add i) = some (.slice x.A 64 x.c) ∧ IsY wr x.A 64 x.c x.bs ∧ Dev wr Fi gd nsi ∧ In wr Fi ∧ Sb w5 F2 Fi ∧ Bk wr sb 108 (stcells gd mb gs pos num) ∧ ¬ Fi sb ∧ (nsi[6 + (pos + i) / 96]? = some (zc (pos + i) ((pos + i) / 96)) ∧ zc (pos + i) ((pos + i) / 96) < 96 ∧ (nsi.set (6 + (pos + i) / 96) (zc (pos + i) ((pos + i) / 96) + 1))[6]? = some (zc (pos + i + 1) 0) ∧ (nsi.set (6 + (pos + i) / 96) (zc (pos + i) ((pos + i) / 96) + 1))[7]? = some (zc (pos + i + 1) 1)) ∧ Kf F2 w5 wr := by
 obtain ⟨⟨Fi, nsi, hd, z6, z7, hsb, hin⟩, hkf⟩ := hx
 obtain ⟨B, hrow, hB⟩ := H.row
 have ho := own_ag (F := fun b => B ≤ b) hrow.own (hkf.ag (fun b q r => by have := hB b r; omega)) (fun g q => own_at_ge hrow.own q)
 have hil : i < xs.length := by rw [H.len]; exact hlt
 obtain ⟨ad, eA, _, hc⟩ := (rd_of_own (own_len' H.len ho)).get (k := i) (by rw [List.length_map]; exact hil)
 rw [List.getElem_map] at hc
 exact ⟨Fi, nsi, ad, xs[i], eA, hc, (hrow.y _ (List.getElem_mem hil)).ag (F := fun _ => False) (hkf.ag (fun _ q => q.elim)), hd, hin, hsb, Bk.ag (F := fun b => b = sb) H.bx (hkf.ag (fun b q r => H.f2 (by have q : b = sb := q; exact q ▸ r))) rfl, fun q => (hsb sb q).elim H.f2 (fun r => by have := H.bx.lt; omega), lg_step z6 z7 (by have := H.fit; omega), hkf⟩
theorem wl_round (w5 wr : World) (F2 : Foot) (sb gd mb gs pos num L lc i : Nat) (lA : Option Addr) (xs : List BR) (c1 c2 c3 c4 c5 c6 c7 c8 c14 c15 c16 c17 c18 c19 c20 c21 c22 c23 c24 c25 c26 c27 c28 c29 c30 c31 c32 c33 c34 c35 c36 c37 c38 c39 c40 c41 c42 c43 c44 c45 c46 c47 c48 c49 c50 c51 c52 c53 c54 c55 c56 c57 c58 c59 c60 c61 c62 c63 c64 c65 c99 c100 c101 c102 c103 c104 c105 c106 c107 c108 c109 c110 c111 c112 c113 c114 c115 c116 c117 c118 c119 c120 u10 u11 u12 u13 u69 u70 u71 u72 u73 u74 u75 u76 u77 u78 u79 u80 u81 u82 u83 u84 u85 u86 u87 u88 u89 u90 u91 u92 u93 u94 u95 u96 u97 u98 : Value) (Q0 : Exit → Act → World → Prop) (hpan : ∀ c a d v w, Q0 (.panic c) (Act.put a d v) w → Q0 (.panic c) a w)
  (H : WlH w5 F2 sb gd mb gs pos num L lc lA xs) (hx : LogX w5 wr F2 sb gd mb gs pos num i) (hlt : i < L) :
  Code.wp Tryz.prog (loopOf Tryz.f43) (Exit.then (fun a' w'' => WLI w5 F2 sb gd mb gs pos num L lc lA c1 c2 c3 c4 c5 c6 c7 c8 c14 c15 c16 c17 c18 c19 c20 c21 c22 c23 c24 c25 c26 c27 c28 c29 c30 c31 c32 c33 c34 c35 c36 c37 c38 c39 c40 c41 c42 c43 c44 c45 c46 c47 c48 c49 c50 c51 c52 c53 c54 c55 c56 c57 c58 c59 c60 c61 c62 c63 c64 c65 c99 c100 c101 c102 c103 c104 c105 c106 c107 c108 c109 c110 c111 c112 c113 c114 c115 c116 c117 c118 c119 c120 a' w'' ∧ wlmu L a' w'' < wlmu L ⟨#[.pointer (some ⟨sb, 0, none⟩), c1, c2, c3, c4, c5, c6, c7, c8, .int .i64 96, u10, u11, u12, u13, c14, c15, c16, c17, c18, c19, c20, c21, c22, c23, c24, c25, c26, c27, c28, c29, c30, c31, c32, c33, c34, c35, c36, c37, c38, c39, c40, c41, c42, c43, c44, c45, c46, c47, c48, c49, c50, c51, c52, c53, c54, c55, c56, c57, c58, c59, c60, c61, c62, c63, c64, c65, .slice lA L lc, .int .i64 (L : Int), .int .i64 (i : Int), u69, u70, u71, u72, u73, u74, u75, u76, u77, u78, u79, u80, u81, u82, u83, u84, u85, u86, u87, u88, u89, u90, u91, u92, u93, u94, u95, u96, u97, u98, c99, c100, c101, c102, c103, c104, c105, c106, c107, c108, c109, c110, c111, c112, c113, c114, c115, c116, c117, c118, c119, c120], []⟩ wr) Q0) ⟨#[.pointer (some ⟨sb, 0, none⟩), c1, c2, c3, c4, c5, c6, c7, c8, .int .i64 96, u10, u11, u12, u13, c14, c15, c16, c17, c18, c19, c20, c21, c22, c23, c24, c25, c26, c27, c28, c29, c30, c31, c32, c33, c34, c35, c36, c37, c38, c39, c40, c41, c42, c43, c44, c45, c46, c47, c48, c49, c50, c51, c52, c53, c54, c55, c56, c57, c58, c59, c60, c61, c62, c63, c64, c65, .slice lA L lc, .int .i64 (L : Int), .int .i64 (i : Int), u69, u70, u71, u72, u73, u74, u75, u76, u77, u78, u79, u80, u81, u82, u83, u84, u85, u86, u87, u88, u89, u90, u91, u92, u93, u94, u95, u96, u97, u98, c99, c100, c101, c102, c103, c104, c105, c106, c107, c108, c109, c110, c111, c112, c113, c114, c115, c116, c117, c118, c119, c120], []⟩ wr := by
 obtain ⟨Fi, nsi, ad, x, rfl, e0, hy, hd, hin, hsb, hbx, hnf, hz, hkf⟩ := wl_get H hx hlt
 obtain ⟨n1, n2, m2⟩ := en_num hlt (Nat.le_trans H.l33 (by decide))
 obtain ⟨q, hq⟩ : ∃ q, q = (pos + i) / 96 := ⟨_, rfl⟩
 obtain ⟨a1, a2, a3, a4, a5, a6, a7⟩ := lg_num (show pos + i < 192 by have := H.fit; omega) hq
 rw [← hq] at hz
 clear hq
 obtain ⟨xA, xc, xb⟩ := x
 simp only at e0 hy
 have KK := Lib.hid (fun (w' : World) (hS : Bk w' sb 108 (stcells gd mb gs pos num)) => And.intro (stcells_at hS).1 (And.intro (stcells_at hS).2.1 (stcells_at hS).2.2.2.2.2.1))
 have H := Lib.hid (And.intro hz (And.intro hbx (And.intro hd (And.intro hin (And.intro hy (And.intro hnf (And.intro hlt (And.intro hkf hsb))))))))
 clear hx hlt hy hd hin hsb hnf hz hkf
 conv => arg 2; whnf
 go_wp2_with fail
 have Kq := KK
 refine wp_region_held_drew (S := fun w' => Bk w' sb 108 (stcells gd mb gs pos num)) (by kernel_rfl) (H.out.2.1.drew) (fun hHeld => ?_)
 refine kF 0 ?_; refine kF 1 ?_; refine kF 2 ?_; refine kF 3 ?_; refine kF 4 ?_; refine kF 5 ?_; refine kF 6 ?_; refine kF 7 ?_; refine kF 8 ?_; refine kF 9 ?_; refine kF 10 ?_; refine kF 11 ?_
 refine kF 12 ?_; refine kF 13 ?_; refine kF 14 ?_; refine kF 15 ?_; refine kF 16 ?_; refine kF 17 ?_; refine kF 18 ?_
 refine rF 19 (fun K hK => ?_)
 go_simp
 have happ := append_any Fi gd nsi (6 + q) (zc (pos + i) q) xA xc xb wr.drew (H.out.2.2.1.ag (.of_below (bdrew (Below.refl _ _)))) H.out.1.1 H.out.1.2.1 (H.out.2.2.2.2.1.ag (F := fun _ => False) (.of_below (bdrew (Below.refl _ _)))) H.out.2.2.2.1
 rw [show ((6 + q : Nat) : Int) = 6 + (q : Int) from rfl] at happ
 refine happ.mono ?_
 rintro e w7 ⟨rfl, G, hG, hk7, hsb7, hin7⟩
 have H7 := Lib.hid (And.intro hG (And.intro ((Kf.of_below (F := Fi) (bdrew (Below.refl _ _))).trans hk7 (fun b q => .inl q)) (And.intro hsb7 hin7)))
 have hS7 : Bk w7 sb 108 (stcells gd mb gs pos num) := Bk.ag (F := fun b => b = sb) H.out.2.1 (H7.out.2.1.ag (fun b q r => H.out.2.2.2.2.2.1 (by have q : b = sb := q; exact q ▸ r))) rfl
 clear happ hG hk7 hsb7 hin7
 go_simp
 refine hK.out _ _ (hS7) (fun hHeld2 => ?_)
 clear hK K hHeld
 have hHeld := hHeld2
 clear hHeld2
 try simp only [Act.put, List.setIfInBounds_toArray, List.set_cons_zero, List.set_cons_succ]
 refine kF 20 ?_; refine kF 21 ?_; refine kF 22 ?_; refine kF 23 ?_; refine kF 24 ?_
 refine wpAnyH_done (by kernel_rfl) ?_ _
 clear Kq
 have HE := Lib.hid (show LogX w5 w7 F2 sb gd mb gs pos num (i + 1) from ⟨⟨G, _, H7.out.1, H.out.1.2.2.1, H.out.1.2.2.2, fun b r => (H7.out.2.2.1 b r).elim (H.out.2.2.2.2.2.2.2.2 b) (fun s => .inr (Nat.le_trans H.out.2.2.2.2.2.2.2.1.size s)), H7.out.2.2.2⟩, H.out.2.2.2.2.2.2.2.1.trans H7.out.2.1 H.out.2.2.2.2.2.2.2.2⟩)
 clear e0 n1 n2 a1 a2 a3 a4 a5 a6 a7
 go_wp2_with fail
 refine ⟨?_, ?_⟩
 · refine WLI.mk ?_
   exact ⟨i + 1, H.out.2.2.2.2.2.2.1, int_succ (by first | rfl | exact m2), HE.out⟩
 · rw [wlmu_eq, wlmu_eq]
   exact sub_lt1 H.out.2.2.2.2.2.2.1 (by first | rfl | exact m2)
end
section
open Go.RowKit Go.Maps
theorem wl_end (sb L lc i : Nat) (lA : Option Addr) (w'' : World) (c1 c2 c3 c4 c5 c6 c7 c8 c14 c15 c16 c17 c18 c19 c20 c21 c22 c23 c24 c25 c26 c27 c28 c29 c30 c31 c32 c33 c34 c35 c36 c37 c38 c39 c40 c41 c42 c43 c44 c45 c46 c47 c48 c49 c50 c51 c52 c53 c54 c55 c56 c57 c58 c59 c60 c61 c62 c63 c64 c65 c99 c100 c101 c102 c103 c104 c105 c106 c107 c108 c109 c110 c111 c112 c113 c114 c115 c116 c117 c118 c119 c120 u10 u11 u12 u13 u69 u70 u71 u72 u73 u74 u75 u76 u77 u78 u79 u80 u81 u82 u83 u84 u85 u86 u87 u88 u89 u90 u91 u92 u93 u94 u95 u96 u97 u98 : Value) (Q : Exit → Act → World → Prop) (hk : i = L) (h : ∀ u69 : Value, Q (.exit 0) ⟨#[.pointer (some ⟨sb, 0, none⟩), c1, c2, c3, c4, c5, c6, c7, c8, .int .i64 96, u10, u11, u12, u13, c14, c15, c16, c17, c18, c19, c20, c21, c22, c23, c24, c25, c26, c27, c28, c29, c30, c31, c32, c33, c34, c35, c36, c37, c38, c39, c40, c41, c42, c43, c44, c45, c46, c47, c48, c49, c50, c51, c52, c53, c54, c55, c56, c57, c58, c59, c60, c61, c62, c63, c64, c65, .slice lA L lc, .int .i64 (L : Int), .int .i64 (i : Int), u69, u70, u71, u72, u73, u74, u75, u76, u77, u78, u79, u80, u81, u82, u83, u84, u85, u86, u87, u88, u89, u90, u91, u92, u93, u94, u95, u96, u97, u98, c99, c100, c101, c102, c103, c104, c105, c106, c107, c108, c109, c110, c111, c112, c113, c114, c115, c116, c117, c118, c119, c120], []⟩ w'') :
  Code.wp Tryz.prog (loopOf Tryz.f43) Q ⟨#[.pointer (some ⟨sb, 0, none⟩), c1, c2, c3, c4, c5, c6, c7, c8, .int .i64 96, u10, u11, u12, u13, c14, c15, c16, c17, c18, c19, c20, c21, c22, c23, c24, c25, c26, c27, c28, c29, c30, c31, c32, c33, c34, c35, c36, c37, c38, c39, c40, c41, c42, c43, c44, c45, c46, c47, c48, c49, c50, c51, c52, c53, c54, c55, c56, c57, c58, c59, c60, c61, c62, c63, c64, c65, .slice lA L lc, .int .i64 (L : Int), .int .i64 (i : Int), u69, u70, u71, u72, u73, u74, u75, u76, u77, u78, u79, u80, u81, u82, u83, u84, u85, u86, u87, u88, u89, u90, u91, u92, u93, u94, u95, u96, u97, u98, c99, c100, c101, c102, c103, c104, c105, c106, c107, c108, c109, c110, c111, c112, c113, c114, c115, c116, c117, c118, c119, c120], []⟩ w'' := by
 subst hk
 have n0 : ¬ (i : Int) < (i : Int) := Int.lt_irrefl _
 conv => arg 2; whnf
 go_wp2_with fail
 exact h _
theorem wl_loop (w5 wr : World) (F2 : Foot) (sb gd mb gs pos num L lc : Nat) (lA : Option Addr) (xs : List BR) (c1 c2 c3 c4 c5 c6 c7 c8 c14 c15 c16 c17 c18 c19 c20 c21 c22 c23 c24 c25 c26 c27 c28 c29 c30 c31 c32 c33 c34 c35 c36 c37 c38 c39 c40 c41 c42 c43 c44 c45 c46 c47 c48 c49 c50 c51 c52 c53 c54 c55 c56 c57 c58 c59 c60 c61 c62 c63 c64 c65 c99 c100 c101 c102 c103 c104 c105 c106 c107 c108 c109 c110 c111 c112 c113 c114 c115 c116 c117 c118 c119 c120 u10 u11 u12 u13 u68 u69 u70 u71 u72 u73 u74 u75 u76 u77 u78 u79 u80 u81 u82 u83 u84 u85 u86 u87 u88 u89 u90 u91 u92 u93 u94 u95 u96 u97 u98 : Value) (Q0 : Exit → Act → World → Prop) (hpan : ∀ c a d v w, Q0 (.panic c) (Act.put a d v) w → Q0 (.panic c) a w)
  (H : WlH w5 F2 sb gd mb gs pos num L lc lA xs) (h0 : ∃ i : Nat, i ≤ L ∧ u68 = .int .i64 (i : Int) ∧ LogX w5 wr F2 sb gd mb gs pos num i)
  (hexit : ∀ (u10 u11 u12 u13 u68 u69 u70 u71 u72 u73 u74 u75 u76 u77 u78 u79 u80 u81 u82 u83 u84 u85 u86 u87 u88 u89 u90 u91 u92 u93 u94 u95 u96 u97 u98 : Value) (w' : World), LogX w5 w' F2 sb gd mb gs pos num L → Q0 (.exit 0) ⟨#[.pointer (some ⟨sb, 0, none⟩), c1, c2, c3, c4, c5, c6, c7, c8, .int .i64 96, u10, u11, u12, u13, c14, c15, c16, c17, c18, c19, c20, c21, c22, c23, c24, c25, c26, c27, c28, c29, c30, c31, c32, c33, c34, c35, c36, c37, c38, c39, c40, c41, c42, c43, c44, c45, c46, c47, c48, c49, c50, c51, c52, c53, c54, c55, c56, c57, c58, c59, c60, c61, c62, c63, c64, c65, .slice lA L lc, .int .i64 (L : Int), u68, u69, u70, u71, u72, u73, u74, u75, u76, u77, u78, u79, u80, u81, u82, u83, u84, u85, u86, u87, u88, u89, u90, u91, u92, u93, u94, u95, u96, u97, u98, c99, c100, c101, c102, c103, c104, c105, c106, c107, c108, c109, c110, c111, c112, c113, c114, c115, c116, c117, c118, c119, c120], []⟩ w') :
  Code.wp Tryz.prog (Code.loop (loopOf Tryz.f43)) Q0 ⟨#[.pointer (some ⟨sb, 0, none⟩), c1, c2, c3, c4, c5, c6, c7, c8, .int .i64 96, u10, u11, u12, u13, c14, c15, c16, c17, c18, c19, c20, c21, c22, c23, c24, c25, c26, c27, c28, c29, c30, c31, c32, c33, c34, c35, c36, c37, c38, c39, c40, c41, c42, c43, c44, c45, c46, c47, c48, c49, c50, c51, c52, c53, c54, c55, c56, c57, c58, c59, c60, c61, c62, c63, c64, c65, .slice lA L lc, .int .i64 (L : Int), u68, u69, u70, u71, u72, u73, u74, u75, u76, u77, u78, u79, u80, u81, u82, u83, u84, u85, u86, u87, u88, u89, u90, u91, u92, u93, u94, u95, u96, u97, u98, c99, c100, c101, c102, c103, c104, c105, c106, c107, c108, c109, c110, c111, c112, c113, c114, c115, c116, c117, c118, c119, c120], []⟩ wr := by
 refine wp_loop (WLI w5 F2 sb gd mb gs pos num L lc lA c1 c2 c3 c4 c5 c6 c7 c8 c14 c15 c16 c17 c18 c19 c20 c21 c22 c23 c24 c25 c26 c27 c28 c29 c30 c31 c32 c33 c34 c35 c36 c37 c38 c39 c40 c41 c42 c43 c44 c45 c46 c47 c48 c49 c50 c51 c52 c53 c54 c55 c56 c57 c58 c59 c60 c61 c62 c63 c64 c65 c99 c100 c101 c102 c103 c104 c105 c106 c107 c108 c109 c110 c111 c112 c113 c114 c115 c116 c117 c118 c119 c120) (wlmu L) (WLI.mk h0) (fun a w'' hI => ?_)
 unfold WLI at hI
 obtain ⟨v10, hI⟩ := hI
 obtain ⟨v11, hI⟩ := hI
 obtain ⟨v12, hI⟩ := hI
 obtain ⟨v13, hI⟩ := hI
 obtain ⟨v68, hI⟩ := hI
 obtain ⟨v69, hI⟩ := hI
 obtain ⟨v70, hI⟩ := hI
 obtain ⟨v71, hI⟩ := hI
 obtain ⟨v72, hI⟩ := hI
 obtain ⟨v73, hI⟩ := hI
 obtain ⟨v74, hI⟩ := hI
 obtain ⟨v75, hI⟩ := hI
 obtain ⟨v76, hI⟩ := hI
 obtain ⟨v77, hI⟩ := hI
 obtain ⟨v78, hI⟩ := hI
 obtain ⟨v79, hI⟩ := hI
 obtain ⟨v80, hI⟩ := hI
 obtain ⟨v81, hI⟩ := hI
 obtain ⟨v82, hI⟩ := hI
 obtain ⟨v83, hI⟩ := hI
 obtain ⟨v84, hI⟩ := hI
 obtain ⟨v85, hI⟩ := hI
 obtain ⟨v86, hI⟩ := hI
 obtain ⟨v87, hI⟩ := hI
 obtain ⟨v88, hI⟩ := hI
 obtain ⟨v89, hI⟩ := hI
 obtain ⟨v90, hI⟩ := hI
 obtain ⟨v91, hI⟩ := hI
 obtain ⟨v92, hI⟩ := hI
 obtain ⟨v93, hI⟩ := hI
 obtain ⟨v94, hI⟩ := hI
 obtain ⟨v95, hI⟩ := hI
 obtain ⟨v96, hI⟩ := hI
 obtain ⟨v97, hI⟩ := hI
 obtain ⟨v98, hI⟩ := hI
 obtain ⟨⟨i, hi, e68, hx⟩, rfl⟩ := hI
 subst e68
 rcases Nat.lt_or_ge i L with hlt | hge
 · exact wl_round w5 w'' F2 sb gd mb gs pos num L lc i lA xs _ _ _ _ _ _ _ _ _ _ _ _ _ _ _ _ _ _ _ _ _ _ _ _ _ _ _ _ _ _ _ _ _ _ _ _ _ _ _ _ _ _ _ _ _ _ _ _ _ _ _ _ _ _ _ _ _ _ _ _ _ _ _ _ _ _ _ _ _ _ _ _ _ _ _ _ _ _ _ _ _ _ _ _ _ _ _ _ _ _ _ _ _ _ _ _ _ _ _ _ _ _ _ _ _ _ _ _ _ _ _ _ _ _ _ _ Q0 hpan H hx hlt
 · have e : i = L := Nat.le_antisymm hi hge
   subst e
   exact wl_end sb i lc i lA w'' _ _ _ _ _ _ _ _ _ _ _ _ _ _ _ _ _ _ _ _ _ _ _ _ _ _ _ _ _ _ _ _ _ _ _ _ _ _ _ _ _ _ _ _ _ _ _ _ _ _ _ _ _ _ _ _ _ _ _ _ _ _ _ _ _ _ _ _ _ _ _ _ _ _ _ _ _ _ _ _ _ _ _ _ _ _ _ _ _ _ _ _ _ _ _ _ _ _ _ _ _ _ _ _ _ _ _ _ _ _ _ _ _ _ _ _ _ rfl (fun _ => hexit _ _ _ _ _ _ _ _ _ _ _ _ _ _ _ _ _ _ _ _ _ _ _ _ _ _ _ _ _ _ _ _ _ _ _ w'' hx)
def swPost (w w' : World) (F2 : Foot) (sb gd mb gs pos num L : Nat) (r : Int) : Prop := (192 < pos + L ∧ r = 9 ∧ Below w.heap.size w w') ∨ (pos + L ≤ 192 ∧ r = 0 ∧ ∃ G ns' w5, Dev w5 G gd ns' ∧ ns'[6]? = some (zc (pos + L) 0) ∧ ns'[7]? = some (zc (pos + L) 1) ∧ Kf F2 w w5 ∧ Sb w F2 G ∧ In w5 G ∧ Kf (fun b => b = sb) w5 w' ∧ Bk w' sb 108 (stcells gd mb gs (pos + L) (num + 1)))
theorem sw_num {pos L : Nat} (hp : pos ≤ 192) (hl : L ≤ 33) : wrap64 ((pos : Int) + (L : Int)) = (pos : Int) + (L : Int) ∧ IntKind.i64.wrap ((pos : Int) + (L : Int)) = (pos : Int) + (L : Int) := ⟨by unfold wrap64; omega, IntWalk.i64_in _ (by omega)⟩
theorem sw_big {pos L : Nat} (h : 192 < pos + L) : (192 : Int) < (pos : Int) + (L : Int) ∧ decide ((192 : Int) < (pos : Int) + (L : Int)) = true := ⟨by omega, decide_eq_true (by omega)⟩
theorem sw_fit {pos L : Nat} (h : pos + L ≤ 192) : ¬ (192 : Int) < (pos : Int) + (L : Int) ∧ decide ((192 : Int) < (pos : Int) + (L : Int)) = false := ⟨by omega, decide_eq_false (by omega)⟩
theorem geo_size (w : World) : (Instr.field 36 (.agg #[.int .i64 8, .int .i64 96]) 1).run Tryz.prog w = .ok (.int .i64 96) w := by kernel_rfl
theorem swrite_any (F2 : Foot) (sb gd mb gs pos num count n c : Nat) (ns : List Nat) (inn bn : Int) (v : Value) (bs : List Int) (A : Option Addr) (ts : List TxD) (w : World) (hb : Bk w sb 108 (stcells gd mb gs pos num)) (hd : Dev w F2 gd ns) (hI : In w F2) (hn : ¬ F2 sb) (hs : SloX w gd gs inn v bs count) (h6 : ns[6]? = some (zc pos 0)) (h7 : ns[7]? = some (zc pos 1)) (hp : pos ≤ 192) (hnum : num ≤ 700) (hcnt : count ≤ 1000000) (ht : IsTs w A n c ts) (hok : OkB ((num : Int) + 1) ts) :
  Calls Tryz.prog 43 #[.pointer (some ⟨sb, 0, none⟩), .agg #[.int .i64 bn, .slice A n c]] w fun e w' => ∃ r : Int, e = .returned (.int .i64 r) ∧ swPost w w' F2 sb gd mb gs pos num (1 + (ts.map (·.n)).sum) r := by
 obtain ⟨w0, hw0⟩ : ∃ w0, w.alloc (.cells #[.int .i64 bn, .slice A n c] 101) = w0 := ⟨_, rfl⟩
 have hB0 : Bk w0 w.heap.size 101 [.int .i64 bn, .slice A n c] := by rw [← hw0]; exact Bk.new w _ _
 have hb0 : Below w.heap.size w w0 := by rw [← hw0]; exact (Below.refl _ _).alloc (Nat.le_refl _) _
 have hlo := load_any gd gs count inn v bs w0 (hs.ag (F := fun b => b = gs) (.of_below hb0) rfl)
 have c6 := (stcells_at (hb.next hb0 hb.lt)).2.2.2.2.1
 have m1 : wrap64 ((num : Int) + 1) = (num : Int) + 1 := by unfold wrap64; omega
 have m2 : IntKind.i64.wrap ((num : Int) + 1) = (num : Int) + 1 := IntWalk.i64_in _ (by omega)
 have HX := Lib.hid (And.intro hb (And.intro hd (And.intro hI (And.intro hn (And.intro h6 (And.intro h7 (And.intro hp (And.intro ht (And.intro hok hcnt)))))))))
 have H0 := Lib.hid (And.intro hB0 hb0)
 have HL := Lib.hid hok.sum
 obtain ⟨L, hL⟩ : ∃ L, 1 + (ts.map (·.n)).sum = L := ⟨_, rfl⟩
 rw [hL]
 have HL2 := Lib.hid hL
 clear hL
 clear hb hd hI hn hs h6 h7 hp ht hok hB0 hb0 hcnt
 go_enter Tryz.func43, Tryz.ntmps43
 go_wp2_with fail
 refine hlo.mono ?_
 rintro e w1 ⟨⟨u, rfl, _⟩, hb1⟩
 have hB1 := H0.out.1.next hb1 H0.out.1.lt
 have hb01 := H0.out.2.trans (hb1.mono H0.out.2.size)
 have c8 := (stcells_at (HX.out.1.next hb01 HX.out.1.lt)).2.2.2.2.2.2.1
 have f10 := hB1.free 0
 have z10 := hB1.cell (i := 0) (by simp)
 simp only [List.getElem_cons_zero] at z10
 obtain ⟨w2, hw2⟩ : ∃ w2, w1.setCell ⟨w.heap.size, 0, none⟩ (.int .i64 ((num : Int) + 1)) = w2 := ⟨_, rfl⟩
 have hB2 : Bk w2 w.heap.size 101 [.int .i64 ((num : Int) + 1), .slice A n c] := by rw [← hw2]; exact hB1.set 0 (.int .i64 ((num : Int) + 1))
 have hb2 : Below w.heap.size w w2 := by rw [← hw2]; exact hb01.setCell (p := ⟨w.heap.size, 0, none⟩) (Nat.le_refl _) _
 obtain ⟨z20, z21⟩ := cells_two hB2
 have hen := bencode_yes ((num : Int) + 1) (count : Int) A n c ts w2 (HX.out.2.2.2.2.2.2.2.1.next hb2) HX.out.2.2.2.2.2.2.2.2.1 ⟨Int.natCast_nonneg _, by have := HX.out.2.2.2.2.2.2.2.2.2; omega⟩
 have H2 := Lib.hid hb2
 clear hlo hB1 hb1 hb01 hB2 hb2 c6
 go_wp2_with fail
 refine hen.mono ?_
 rintro e w3 ⟨⟨lv, xs, rfl, hrow, hxl⟩, hb3⟩
 rw [HL2.out] at hxl
 have hl33 : L ≤ 33 := by have := HL.out; have := HL2.out; omega
 obtain ⟨lA, lc, rfl⟩ := own_shape (own_len' hxl hrow.own)
 have hb03 := H2.out.trans (hb3.mono H2.out.size)
 have hst3 := HX.out.1.next hb03 HX.out.1.lt
 obtain ⟨c0, c3, c4, _, _, c7, _, _⟩ := stcells_at hst3
 have hgeo := geoD (HX.out.2.1.ag (.of_below hb03))
 have H3 := Lib.hid (And.intro hrow (And.intro hxl (And.intro hb03 hl33)))
 clear hen hrow hxl hb3 hb03 hst3 z20 z21 hl33
 go_wp2_with fail
 refine hgeo.mono ?_
 rintro e w4 ⟨rfl, hb4⟩
 have hb04 := H3.out.2.2.1.trans (hb4.mono H3.out.2.2.1.size)
 have hst4 := HX.out.1.next hb04 HX.out.1.lt
 have H4 := Lib.hid (And.intro (show RowY w4 w2.heap.size (.slice lA L lc) xs from ⟨own_bel' H3.out.1.own hb4, fun x hx => (H3.out.1.y x hx).ag (F := fun _ => True) (.of_below hb4)⟩) (And.intro hb04 hst4))
 clear c0 c3 c4 c7 hgeo hb4
 obtain ⟨c0, c3, c4, _, _, c7, _, _⟩ := stcells_at hst4
 have hgs := geo_size w4
 obtain ⟨p1, p2⟩ := sw_num HX.out.2.2.2.2.2.2.1 H3.out.2.2.2
 clear hst4 hb04
 have KS := Lib.hid (fun (w' : World) (hS : Bk w' sb 108 (stcells gd mb gs pos num)) => And.intro (stcells_at hS).2.1 (And.intro (stcells_at hS).2.2.1 (stcells_at hS).2.2.2.2.2.1))
 have j1 : IntKind.i64.wrap 1 = 1 := IntWalk.i64_in _ (by decide)
 have j2 : IntKind.i64.wrap 2 = 2 := IntWalk.i64_in _ (by decide)
 have j3 : IntKind.i64.wrap 192 = 192 := IntWalk.i64_in _ (by decide)
 by_cases hfit : 192 < pos + L
 · obtain ⟨q1, q2⟩ := sw_big hfit
   have HF := Lib.hid hfit
   clear hfit
   go_wp2_with fail
   have Kq := KS
   refine wp_region_held_drew (S := fun w' => Bk w' sb 108 (stcells gd mb gs pos num)) (by kernel_rfl) (H4.out.2.2.drew) (fun hHeld => ?_)
   refine kF 0 ?_; refine kF 1 ?_; refine kF 2 ?_; refine kF 3 ?_; refine kF 4 ?_; refine kF 5 ?_; refine kF 6 ?_; refine kF 7 ?_; refine kF 8 ?_; refine kF 9 ?_; refine kF 10 ?_; refine kF 11 ?_
   refine kF 12 ?_; refine kF 13 ?_; refine kF 14 ?_; refine kF 15 ?_; refine kF 16 ?_; refine kF 17 ?_; refine kF 18 ?_; refine kF 19 ?_; refine kF 20 ?_; refine kF 21 ?_; refine kF 22 ?_; refine kF 23 ?_
   refine kF 24 ?_; refine kF 25 ?_
   refine wpAnyH_done (by kernel_rfl) ?_ _
   clear Kq
   go_wp2_with fail
   go_ret
   exact ⟨_, rfl, .inl ⟨HF.out, rfl, H4.out.2.1.trans ((bdrew (Below.refl _ _)).mono H4.out.2.1.size)⟩⟩
 · obtain ⟨q1, q2⟩ := sw_fit (Nat.not_lt.1 hfit)
   have HF := Lib.hid (Nat.not_lt.1 hfit)
   clear hfit
   go_wp2_with fail
   have Kq := KS
   refine wp_region_held_drew (S := fun w' => Bk w' sb 108 (stcells gd mb gs pos num)) (by kernel_rfl) (H4.out.2.2.drew) (fun hHeld => ?_)
   refine kF 0 ?_; refine kF 1 ?_; refine kF 2 ?_; refine kF 3 ?_; refine kF 4 ?_; refine kF 5 ?_; refine kF 6 ?_; refine kF 7 ?_; refine kF 8 ?_; refine kF 9 ?_; refine kF 10 ?_; refine kF 11 ?_
   refine kF 12 ?_; refine kF 13 ?_; refine kF 14 ?_; refine kF 15 ?_; refine kF 16 ?_; refine kF 17 ?_; refine kF 18 ?_; refine kF 19 ?_; refine kF 20 ?_; refine kF 21 ?_; refine kF 22 ?_; refine kF 23 ?_
   refine kF 24 ?_; refine kF 25 ?_
   refine wpAnyH_done (by kernel_rfl) ?_ _
   clear Kq
   go_wp2_with fail
   have hb5 := H4.out.2.1.trans ((bdrew (Below.refl w4.heap.size w4)).mono H4.out.2.1.size)
   have HW := Lib.hid hb5
   refine wl_loop w4.drew w4.drew F2 sb gd mb gs pos num L lc lA xs _ _ _ _ _ _ _ _ _ _ _ _ _ _ _ _ _ _ _ _ _ _ _ _ _ _ _ _ _ _ _ _ _ _ _ _ _ _ _ _ _ _ _ _ _ _ _ _ _ _ _ _ _ _ _ _ _ _ _ _ _ _ _ _ _ _ _ _ _ _ _ _ _ _ _ _ _ _ _ _ _ _ _ _ _ _ _ _ _ _ _ _ _ _ _ _ _ _ _ _ _ _ _ _ _ _ _ _ _ _ _ _ _ _ _ _ _ _ (fun _ _ d _ _ h => by cases d <;> exact h) ⟨H4.out.2.2.drew, ⟨w2.heap.size, ⟨H4.out.1.own, fun x hx => (H4.out.1.y x hx).ag (F := fun _ => True) (.of_below (bdrew (Below.refl w4.heap.size w4)))⟩, fun b q => Nat.lt_of_lt_of_le (HX.out.2.2.1 b q) H2.out.size⟩, H3.out.2.1, HX.out.2.2.2.1, HF.out, H3.out.2.2.2⟩ ⟨0, Nat.zero_le _, rfl, ⟨F2, ns, HX.out.2.1.ag (.of_below hb5), HX.out.2.2.2.2.1, HX.out.2.2.2.2.2.1, fun b q => .inl q, fun b q => Nat.lt_of_lt_of_le (HX.out.2.2.1 b q) hb5.size⟩, Kf.refl _ _⟩ ?_
   intro u10 u11 u12 u13 u68 u69 u70 u71 u72 u73 u74 u75 u76 u77 u78 u79 u80 u81 u82 u83 u84 u85 u86 u87 u88 u89 u90 u91 u92 u93 u94 u95 u96 u97 u98 w7 hx
   obtain ⟨⟨Fi, nsi, hd, z6, z7, hsb, hin⟩, hkf⟩ := hx
   have hnf : ¬ Fi sb := fun q => (hsb sb q).elim HX.out.2.2.2.1 (fun r => by have h1 := HX.out.1.lt; have h2 := HW.out.size; omega)
   have hk7 : Kf F2 w w7 := (Kf.of_below (F := F2) HW.out).trans hkf (fun b q => .inl q)
   have hb7 : Bk w7 sb 108 (stcells gd mb gs pos num) := Bk.ag (F := fun b => b = sb) HX.out.1 (hk7.ag (fun b q r => HX.out.2.2.2.1 (by have q : b = sb := q; exact q ▸ r))) rfl
   have hfl := dflush_any Fi gd nsi w7 hd
   have hsbw : Sb w F2 Fi := fun b q => (hsb b q).imp id (Nat.le_trans HW.out.size)
   have H7 := Lib.hid (And.intro hk7 (And.intro hsbw (And.intro hin (And.intro hnf (And.intro hb7 (And.intro z6 z7))))))
   clear c0 c3 c4 c7 q1 q2 hb5 hd z6 z7 hsb hin hkf hnf hk7 hsbw
   obtain ⟨c0, _⟩ := stcells_at hb7
   clear hb7
   go_wp2_with fail
   refine hfl.mono ?_
   rintro e w8 ⟨rfl, hd8, hk8⟩
   have hb8 : Bk w8 sb 108 (stcells gd mb gs pos num) := Bk.ag (F := fun b => b = sb) H7.out.2.2.2.2.1 (hk8.ag (fun b q r => H7.out.2.2.2.1 (by have q : b = sb := q; exact q ▸ r))) rfl
   obtain ⟨_, _, _, _, _, c7, c8, _⟩ := stcells_at hb8
   have f7 := hb8.free 7
   obtain ⟨w9, hw9⟩ : ∃ w9, w8.setCell ⟨sb, 7, none⟩ (.int .i64 ((pos : Int) + (L : Int))) = w9 := ⟨_, rfl⟩
   have hb9 : Bk w9 sb 108 (stcells gd mb gs (pos + L) num) := by rw [← hw9]; exact hb8.set 7 (.int .i64 ((pos : Int) + (L : Int)))
   obtain ⟨_, _, _, _, _, _, c89, _⟩ := stcells_at hb9
   have f8 := hb9.free 8
   obtain ⟨w10, hw10⟩ : ∃ w10, w9.setCell ⟨sb, 8, none⟩ (.int .i64 ((num : Int) + 1)) = w10 := ⟨_, rfl⟩
   have hb10 : Bk w10 sb 108 (stcells gd mb gs (pos + L) (num + 1)) := by rw [← hw10]; exact hb9.set 8 (.int .i64 ((num : Int) + 1))
   have k10 : Kf (fun b => b = sb) w8 w10 := by rw [← hw10, ← hw9]; exact ((Kf.refl (fun b => b = sb) w8).set hb8 (by decide) (.inl rfl) 7 _).set (by rw [hw9]; exact hb9) (by decide) (.inl rfl) 8 _
   have HE := Lib.hid (show swPost w w10 F2 sb gd mb gs pos num L 0 from .inr ⟨HF.out, rfl, Fi, nsi, w8, hd8, H7.out.2.2.2.2.2.1, H7.out.2.2.2.2.2.2, H7.out.1.trans hk8 H7.out.2.1, H7.out.2.1, fun b q => Nat.lt_of_lt_of_le (H7.out.2.2.1 b q) hk8.size, k10, hb10⟩)
   clear hfl hd8 hk8 hb8 hb9 hb10 k10
   go_wp2_with fail
   go_ret
   exact ⟨_, rfl, HE.out⟩
end
section
open Go.RowKit Go.Maps
theorem inc_len : ∀ (l : List Nat) (a B : Nat), l.Pairwise (· < ·) → (∀ x ∈ l, a < x ∧ x ≤ B) → l.length ≤ B - a
 | [], a, B, _, _ => Nat.zero_le _
 | x :: l, a, B, hp, hb => by
   rw [List.pairwise_cons] at hp
   have h1 := hb x List.mem_cons_self
   have ih := inc_len l x B hp.2 (fun y hy => ⟨hp.1 y hy, (hb y (List.mem_cons_of_mem _ hy)).2⟩)
   simp only [List.length_cons]
   omega
theorem GoodM.qlen {m : MS} (h : GoodM m) : m.queue.length ≤ 1000 := by
 have hp : (m.queue.map fun i => ((m.txs[i]?).map TX.time).getD 0).Pairwise (· < ·) := by
  rw [List.pairwise_map]
  refine List.Pairwise.imp_of_mem ?_ h.srt
  intro a b ha hb hab
  obtain ⟨t, ht, _⟩ := h.que a ha
  obtain ⟨u, hu, _⟩ := h.que b hb
  rw [ht, hu]
  exact hab t u ht hu
 have := inc_len _ 0 1000 hp (fun x hx => by
  obtain ⟨i, hi, rfl⟩ := List.mem_map.1 hx
  obtain ⟨t, ht, _, _, h4, h5, _⟩ := h.que i hi
  rw [ht]
  have := h.cap.1
  show 0 < t.time ∧ t.time ≤ 1000
  omega)
 rw [List.length_map] at this
 exact this
section
variable {w : World} {F : Foot} {mb g : Nat} {m : MS}
theorem mCommit (h : Man w F mb m g) (hg : g + 1 ≤ 700) {i : Nat} {t : TX} (ht : m.txs[i]? = some t) : Calls Tryz.prog 231 #[.pointer (some ⟨mb, 0, none⟩), .int .i64 ((i : Int) + 1)] w fun e w' => ∃ r : Int, e = .returned (.int .i64 r) ∧ ∃ m', cmR m i t r m' ∧ ManR w w' F mb m' g := by
 obtain ⟨Ft, gm, kb, am, qv, es, hx⟩ := h.x
 obtain ⟨x, he⟩ := entry hx ht
 have hb := h.big
 have hq := h.good.qlen
 have hl := hx.len
 have htl := h.txs
 have hgv := h.giv
 have hil := get_lt ht
 refine (mcommit_any F Ft mb gm kb am qv 0 m es _ _ i t x w hx ht he (by omega) (fun i hi => by obtain ⟨t, ht, _⟩ := h.good.que i hi; exact ⟨t, ht⟩) (by omega) (by omega) h.good.cap.1).mono ?_
 rintro e w' ⟨r, rfl, F', Ft', qv', m', h1, h2, h3, h4, h5⟩
 obtain ⟨g1, g2, g3, g4, g5⟩ := cm_good h.good ht (by omega) h5
 exact ⟨r, rfl, m', h5, ManR.of h hg h1 (by omega) (by omega) h2 h3 h4 g1 (by omega) (by have := h.num; omega) (by omega)⟩
end
theorem sCommit {w : World} {F : Foot} {Ft : Nat → Foot} {sb gd mb gs pos num count g : Nat} {ns : List Nat} {m : MS} (h : StoX w F Ft sb gd mb gs pos num count ns m g) (hg : g + 1 ≤ 700) {i : Nat} {t : TX} (ht : m.txs[i]? = some t) :
  Calls Tryz.prog 172 #[.pointer (some ⟨sb, 0, none⟩), .int .i64 ((i : Int) + 1)] w fun e w' => ∃ r : Int, e = .returned (.int .i64 r) ∧ ∃ m', cmR m i t r m' ∧ StoR w w' F sb pos m' (g + 1) := by
 have hd := stdead_any sb gd mb gs pos num w h.bx
 obtain ⟨_, _, _, c5, _⟩ := stcells_at h.bx
 have hm := mCommit h.man hg ht
 have H := Lib.hid h
 clear h
 go_enter Tryz.func172, Tryz.ntmps172
 go_wp2_with fail
 refine hd.mono ?_
 rintro e w' ⟨rfl, rfl⟩
 clear hd
 go_wp2_with fail
 refine hm.mono ?_
 rintro e w' ⟨r, rfl, m', hw, hr⟩
 have HR := Lib.hid (And.intro hw (H.out.mandR hr))
 clear hr hw
 clear hm
 go_wp2_with fail
 go_ret
 exact ⟨r, rfl, m', HR.out⟩
theorem sClean {w : World} {F : Foot} {Ft : Nat → Foot} {sb gd mb gs pos num count g : Nat} {ns : List Nat} {m : MS} (h : StoX w F Ft sb gd mb gs pos num count ns m g) (hg : g + 1 ≤ 700) :
  Calls Tryz.prog 25 #[.pointer (some ⟨sb, 0, none⟩)] w fun e w' => (∃ r : Int, e = .returned (.int .i64 r)) ∧ StoR w w' F sb pos m (g + 1) := by
 have hd := stdead_any sb gd mb gs pos num w h.bx
 obtain ⟨_, _, _, c5, _⟩ := stcells_at h.bx
 have hm := mprune_any _ _ _ _ w h.man hg
 have H := Lib.hid h
 clear h
 go_enter Tryz.func25, Tryz.ntmps25
 go_wp2_with fail
 refine hd.mono ?_
 rintro e w' ⟨rfl, rfl⟩
 clear hd
 go_wp2_with fail
 refine hm.mono ?_
 rintro e w' ⟨⟨r, rfl⟩, hr⟩
 have HR := Lib.hid (H.out.mandR hr)
 clear hr
 clear hm
 go_wp2_with fail
 go_ret
 exact ⟨⟨r, rfl⟩, HR.out⟩
def sbPost (w : World) (F : Foot) (sb pos : Nat) (m : MS) (g : Nat) (e : Ending) (w' : World) : Prop := ∃ h r : Int, e = .returned (.tuple #[.int .i64 h, .int .i64 r]) ∧ ((m.txs ≠ [] ∧ r ≠ 0 ∧ StoR w w' F sb pos m (g + 1)) ∨ (r = 0 ∧ h = (m.txs.length : Int) + 1 ∧ StoR w w' F sb pos m.begin (g + 1)))
theorem mBegin {w : World} {F : Foot} {mb g : Nat} {m : MS} (h : Man w F mb m g) (hg : g + 1 ≤ 700) : Calls Tryz.prog 167 #[.pointer (some ⟨mb, 0, none⟩)] w fun e w' => ∃ x r : Int, e = .returned (.tuple #[.int .i64 x, .int .i64 r]) ∧ ((m.txs ≠ [] ∧ r ≠ 0 ∧ ManR w w' F mb m g) ∨ (r = 0 ∧ x = (m.txs.length : Int) + 1 ∧ ManR w w' F mb m.begin g)) := by
 refine (mbegin_any F mb g m w h hg).mono ?_
 rintro e w' (⟨h1, ⟨r, h2, rfl⟩, h3⟩ | ⟨rfl, h3⟩)
 · exact ⟨0, r, rfl, .inl ⟨h1, h2, h3⟩⟩
 · exact ⟨_, 0, rfl, .inr ⟨rfl, rfl, h3⟩⟩
theorem sBegin {w : World} {F : Foot} {Ft : Nat → Foot} {sb gd mb gs pos num count g : Nat} {ns : List Nat} {m : MS} (h : StoX w F Ft sb gd mb gs pos num count ns m g) (hg : g + 1 ≤ 700) :
  Calls Tryz.prog 110 #[.pointer (some ⟨sb, 0, none⟩)] w fun e w' => sbPost w F sb pos m g e w' := by
 have hd := stdead_any sb gd mb gs pos num w h.bx
 obtain ⟨_, _, _, c5, _⟩ := stcells_at h.bx
 have hm := mBegin h.man hg
 have H := Lib.hid h
 clear h
 go_enter Tryz.func110, Tryz.ntmps110
 go_wp2_with fail
 refine hd.mono ?_
 rintro e w' ⟨rfl, rfl⟩
 clear hd
 go_wp2_with fail
 refine hm.mono ?_
 rintro e w' ⟨x, r, rfl, hr⟩
 have HR := Lib.hid (hr.imp (fun a => And.intro a.1 (And.intro a.2.1 (H.out.mandR a.2.2))) (fun a => And.intro a.1 (And.intro a.2.1 (H.out.mandR a.2.2))))
 clear hr
 clear hm
 go_wp2_with fail
 go_ret2
 exact ⟨x, r, rfl, HR.out⟩
end
section
open Go.RowKit Go.Maps
theorem doneM_facts {m : MS} (g : GoodM m) (hn : m.num < 1000) {n : Nat} (hle : n ≤ m.queue.length) (ok : Bool) : GoodM (doneM m ok n) ∧ (doneM m ok n).given = m.given ∧ (doneM m ok n).num ≤ m.num + 1 ∧ (doneM m ok n).txs.length = m.txs.length := by
 cases ok with
 | false =>
   obtain ⟨p1, p2, p3, _⟩ := pops_num false n m
   exact ⟨(g.pops false n hle).1, p2, by show (m.pops false n).num ≤ _; rw [p1]; exact Nat.le_succ _, p3⟩
 | true =>
   obtain ⟨p1, p2, p3, _⟩ := pops_num true n m
   exact ⟨((g.pops true n hle).1.num (k := m.num + 1) (by omega)).1, p2, Nat.le_refl _, p3⟩
theorem fl_man {w3 w4 : World} {F1 : Foot} {mb gm kb am g n : Nat} {m : MS} {es : List TE} {ok : Bool} (h : GoodM m) (hg : g + 1 ≤ 700) (hgv : m.given ≤ g) (hnum : m.num ≤ g) (htx : m.txs.length ≤ g) (hn : n ≤ m.queue.length) (h8 : n ≤ 8) (hd : doOut w3 w4 F1 mb gm kb am (doneM m ok n) es (128 * g + 16 * n) (16 * g)) : ∃ F', Man w4 F' mb (doneM m ok n) (g + 1) ∧ Kf F1 w3 w4 ∧ Sb w3 F1 F' ∧ In w4 F' := by
 obtain ⟨F', Ft', qv', h1, h2, h3, h4⟩ := hd
 obtain ⟨g1, g2, g3, g4⟩ := doneM_facts h (by omega) hn ok
 exact ⟨F', ⟨⟨Ft', gm, kb, am, qv', es, h1.up (by omega) (by omega) (by omega) (by omega)⟩, g1, by omega, by omega, by omega, hg⟩, h2, h3, h4⟩
theorem sto_flush {w w1 w2 w3 w4 : World} {F F' : Foot} {Ft : Nat → Foot} {sb gd mb gs pos num count g L : Nat} {ns : List Nat} {m m' : MS} {r : Int} (h : StoX w F Ft sb gd mb gs pos num count ns m g) (hg : g + 1 ≤ 700) (k1 : Kf (Ft 1) w w1) (b2 : Below w1.heap.size w1 w2) (hw : swPost w2 w3 (Ft 2) sb gd mb gs pos num L r) (hm : Man w4 F' mb m' (g + 1)) (k4 : Kf (Ft 1) w3 w4) (hs : Sb w3 (Ft 1) F') (hi : In w4 F') :
  (192 < pos + L ∧ r = 9 ∧ StoR w w4 F sb pos m' (g + 1)) ∨ (pos + L ≤ 192 ∧ r = 0 ∧ StoR w w4 F sb (pos + L) m' (g + 1)) := by
 have k12 : Kf (Ft 1) w w2 := k1.next b2
 rcases hw with ⟨h1, h2, h3⟩ | ⟨h1, h2, G, ns', w5, hd, z6, z7, k5, hG, hiG, k3, hb⟩
 · have k13 := k12.next h3
   exact .inl ⟨h1, h2, h.mandR ⟨F', hm, k13.trans k4 (fun b q => .inl q), fun b q => (hs b q).imp id (Nat.le_trans k13.size), hi⟩⟩
 · have d : ∀ {i j : Nat}, i ≠ j → Dis (Ft i) (Ft j) := fun hn => h.fam.dis _ _ hn
   have hz3 : w.heap.size ≤ w3.heap.size := Nat.le_trans k12.size (Nat.le_trans k5.size k3.size)
   have hGw : Sb w (Ft 2) G := fun b q => (hG b q).imp id (Nat.le_trans k12.size)
   have f3 := h.fam.step (w' := w3) hz3 hGw (hiG.next k3.size)
   have p2 : ∀ j, j ≠ 2 → putF Ft 2 G j = Ft j := fun j hn => putF_other Ft G hn
   have hs' : Sb w3 (putF Ft 2 G 1) F' := by rw [p2 1 (by decide)]; exact hs
   have f4 := f3.step (w' := w4) k4.size hs' hi
   have p1 : ∀ j, j ≠ 1 → putF (putF Ft 2 G) 1 F' j = putF Ft 2 G j := fun j hn => putF_other _ F' hn
   have k4' : Kf (putF Ft 2 G 1) w3 w4 := by rw [p2 1 (by decide)]; exact k4
   have nG : ¬ G sb := fun q => (hGw sb q).elim (fun r => h.fam.dis 2 0 (by decide) sb r h.f0) (fun r => by have := h.fam.inn 0 sb h.f0; omega)
   have a24 : Ag G w3 w4 := by have := f3.ag (i := 2) k4' (by decide); rwa [putF_same] at this
   obtain ⟨inn, v, bs, hsl⟩ := h.slo
   have s1 := hsl.ag (F := Ft 3) (h.fam.ag k12 (by decide : (3 : Nat) ≠ 1)) h.f3
   have s2 := s1.ag (F := Ft 3) (k5.ag (h.fam.dis 3 2 (by decide))) h.f3
   have s3 := s2.ag (F := Ft 3) (k3.ag (fun b q r => h.fam.dis 3 0 (by decide) b q (by have r : b = sb := r; rw [r]; exact h.f0))) h.f3
   have s4 := s3.ag (F := Ft 3) (k4.ag (h.fam.dis 3 1 (by decide))) h.f3
   refine .inr ⟨h1, h2, orF (orF F G) F', ⟨putF (putF Ft 2 G) 1 F', gd, mb, gs, num + 1, count, ns', ⟨f4, Bk.ag (F := Ft 0) hb (k4.ag (h.fam.dis 0 1 (by decide))) h.f0, by rw [putF_same]; exact hm, ?_, ⟨inn, v, bs, s4⟩, by rw [p1 0 (by decide), p2 0 (by decide)]; exact h.f0, by rw [p1 3 (by decide), p2 3 (by decide)]; exact h.f3, z6, z7, h1, Nat.succ_le_succ h.num, Nat.le_succ_of_le h.cnt⟩⟩, ?_, ?_, f4.lt⟩
   · rw [p1 2 (by decide), putF_same]
     exact (hd.ag (k3.ag (fun b q r => nG (by have r : b = sb := r; exact r ▸ q)))).ag a24
   · exact (((k12.mono (h.fam.sub 1)).trans (G := F) (k5.mono (h.fam.sub 2)) (fun b q => .inl q)).trans (G := F) (k3.mono (fun b q => by have q : b = sb := q; rw [q]; exact h.fam.sub 0 _ h.f0)) (fun b q => .inl q)).trans (G := F) (k4.mono (h.fam.sub 1)) (fun b q => .inl q)
   · intro b q
     rcases q with q | q
     · exact h.fam.sb hGw b q
     · exact (hs b q).imp (h.fam.sub 1 b) (Nat.le_trans hz3)
theorem sw_keep {w w2 w3 : World} {F : Foot} {Ft : Nat → Foot} {sb gd mb gs pos num count g L : Nat} {ns : List Nat} {m : MS} {r : Int} (h : StoX w F Ft sb gd mb gs pos num count ns m g) (hb : Bk w2 sb 108 (stcells gd mb gs pos num)) (hw : swPost w2 w3 (Ft 2) sb gd mb gs pos num L r) :
  (r = 9 ∨ r = 0) ∧ w3.cell? ⟨sb, 5, none⟩ = some (.pointer (some ⟨mb, 0, none⟩)) ∧ Ag (Ft 1) w2 w3 := by
 rcases hw with ⟨_, h2, h3⟩ | ⟨_, h2, G, ns', w5, _, _, _, k5, _, _, k3, hb3⟩
 · exact ⟨.inl h2, (stcells_at (hb.next h3 hb.lt)).2.2.2.1, .of_below h3⟩
 · exact ⟨.inr h2, (stcells_at hb3).2.2.2.1, (k5.ag (h.fam.dis 1 2 (by decide))).trans (k3.ag (fun b q r => h.fam.dis 1 0 (by decide) b q (by have r : b = sb := r; rw [r]; exact h.f0)))⟩
theorem okb_num {a b : Int} {ts : List TxD} (h : OkB a ts) (hb : 1 ≤ b ∧ b ≤ 1000) : OkB b ts := ⟨hb, h.len, h.up, h.tx, h.sum⟩
theorem fl_end {w w1 w2 w3 w4 : World} {F : Foot} {Ft Fm : Nat → Foot} {sb gd mb gs gm kb am pos num count g n c : Nat} {qv : Value} {A : Option Addr} {ts : List TxD} {ns : List Nat} {m : MS} {es : List TE} {r : Int} {ok : Bool} (h : StoX w F Ft sb gd mb gs pos num count ns m g) (hg : g + 1 ≤ 700) (hq : m.queue ≠ []) (hB : BaX w w1 (Ft 1) Fm mb gm kb am qv m es (128 * g) (16 * g) n c A ts) (b2 : Below w1.heap.size w1 w2) (hw : swPost w2 w3 (Ft 2) sb gd mb gs pos num (1 + (ts.map (·.n)).sum) r) (hok : ok = decide (r = 0)) (hd : doOut w3 w4 (Ft 1) mb gm kb am (doneM m ok n) es (128 * g + 16 * n) (16 * g)) :
  ∃ pos' m', flR m pos r pos' m' ∧ StoR w w4 F sb pos' m' (g + 1) := by
 have h8 : n ≤ 8 := by rw [← hB.is.len]; exact hB.ok.len.2
 obtain ⟨F', hm, k4, hs, hi⟩ := fl_man h.man.good hg h.man.giv h.man.num h.man.txs hB.le h8 hd
 have hsum := hB.ok.sum
 rcases sto_flush h hg hB.kf b2 hw hm k4 hs hi with ⟨h1, h2, h3⟩ | ⟨h1, h2, h3⟩
 · subst h2
   obtain rfl : ok = false := by rw [hok]; rfl
   exact ⟨pos, _, .inr ⟨hq, n, _, hB.pos, hB.le, by omega, .inr ⟨h1, rfl, rfl, rfl⟩⟩, h3⟩
 · subst h2
   obtain rfl : ok = true := by rw [hok]; rfl
   exact ⟨_, _, .inr ⟨hq, n, _, hB.pos, hB.le, by omega, .inl ⟨h1, rfl, rfl, rfl⟩⟩, h3⟩
theorem sFlush {w : World} {F : Foot} {Ft : Nat → Foot} {sb gd mb gs pos num count g : Nat} {ns : List Nat} {m : MS} (h : StoX w F Ft sb gd mb gs pos num count ns m g) (hg : g + 1 ≤ 700) :
  Calls Tryz.prog 22 #[.pointer (some ⟨sb, 0, none⟩)] w fun e w' => ∃ r : Int, e = .returned (.int .i64 r) ∧ ∃ pos' m', flR m pos r pos' m' ∧ StoR w w' F sb pos' m' (g + 1) := by
 have hdd := stdead_any sb gd mb gs pos num w h.bx
 obtain ⟨_, _, _, c5, _⟩ := stcells_at h.bx
 obtain ⟨Fm, gm, kb, am, qv, es, hx⟩ := h.man.x
 have hgood := h.man.good
 have hql := hgood.qlen
 have hba := mbatch_any (Ft 1) Fm mb gm kb am qv m es _ _ w hx hgood (by rw [hx.len]; have := h.man.txs; omega) (by omega) (by have := h.man.num; omega)
 have H := Lib.hid (And.intro h (And.intro hg (And.intro hx hql)))
 clear h hx hgood hql hg
 go_enter Tryz.func22, Tryz.ntmps22
 go_wp2_with fail
 refine hdd.mono ?_
 rintro e w' ⟨rfl, rfl⟩
 clear hdd
 go_wp2_with fail
 refine hba.mono ?_
 rintro e w1 (⟨hq, rfl, hb1⟩ | ⟨hq, n, c, A, ts, rfl, hB⟩)
 · have HR := Lib.hid (And.intro hq (fun o => StoX.same H.out.1 H.out.2.1 (show Below w.heap.size w (w1.alloc o) from hb1.alloc hb1.size _)))
   clear hba hq hb1 c5
   go_wp2_with fail
   go_ret
   exact ⟨14, rfl, pos, m, .inl ⟨HR.out.1, rfl, rfl, rfl⟩, HR.out.2 _⟩
 · clear hba c5
   obtain ⟨w2, hw2⟩ : ∃ w2, w1.alloc (.cells #[.int .i64 ((m.num : Int) + 1), .slice A n c] 101) = w2 := ⟨_, rfl⟩
   have hb2 : Below w1.heap.size w1 w2 := by rw [← hw2]; exact (Below.refl _ _).alloc (Nat.le_refl _) _
   have hBb : Bk w2 w1.heap.size 101 [.int .i64 ((m.num : Int) + 1), .slice A n c] := by rw [← hw2]; exact Bk.new w1 _ _
   obtain ⟨z0, z1⟩ := cells_two hBb
   have k12 : Kf (Ft 1) w w2 := hB.kf.next hb2
   have hst : Bk w2 sb 108 (stcells gd mb gs pos num) := Bk.ag H.out.1.bx (H.out.1.fam.ag k12 (by decide : (0 : Nat) ≠ 1)) H.out.1.f0
   obtain ⟨inn, v, bs, hsl⟩ := H.out.1.slo
   have hwr := swrite_any (Ft 2) sb gd mb gs pos num count n c ns inn ((m.num : Int) + 1) v bs A ts w2 hst (H.out.1.dev.ag (H.out.1.fam.ag k12 (by decide : (2 : Nat) ≠ 1))) (fun b q => Nat.lt_of_lt_of_le (H.out.1.fam.inn 2 b q) k12.size) (fun q => H.out.1.fam.dis 2 0 (by decide) sb q H.out.1.f0) (hsl.ag (F := Ft 3) (H.out.1.fam.ag k12 (by decide : (3 : Nat) ≠ 1)) H.out.1.f3) H.out.1.z6 H.out.1.z7 H.out.1.pos (by have := H.out.1.num; have := H.out.2.1; omega) (by have := H.out.1.cnt; have := H.out.2.1; omega) (hB.is.next hb2) (okb_num hB.ok (by have := H.out.1.num; have := H.out.2.1; omega))
   have HB := Lib.hid (And.intro hB (And.intro hb2 (And.intro hst hq)))
   clear hB hb2 hBb k12 hst hsl hq
   go_wp2_with fail
   refine hwr.mono ?_
   rintro e w3 ⟨r, rfl, hsw⟩
   obtain ⟨hr, c53, hag⟩ := sw_keep H.out.1 HB.out.2.2.1 hsw
   have hm3 := (HB.out.1.man.next HB.out.2.1).ag hag
   have h8 : n ≤ 8 := by rw [← HB.out.1.is.len]; exact HB.out.1.ok.len.2
   have hdn := mdone_any (Ft 1) Fm mb gm kb am qv n m es (128 * g) (16 * g) r (decide (r = 0)) w3 hm3 H.out.1.man.good (by rw [H.out.2.2.1.len]; have := H.out.1.man.txs; have := H.out.2.1; omega) (by have := H.out.2.2.2; omega) ⟨HB.out.1.pos, HB.out.1.le⟩ (by have := H.out.2.1; omega) (by have := H.out.2.1; omega) rfl
   have HS := Lib.hid hsw
   clear hwr hsw hag hm3 h8 z0 z1
   have HE := Lib.hid (fun (w4 : World) (hd : doOut w3 w4 (Ft 1) mb gm kb am (doneM m (decide (r = 0)) n) es (128 * g + 16 * n) (16 * g)) => fl_end H.out.1 H.out.2.1 HB.out.2.2.2 HB.out.1 HB.out.2.1 HS.out rfl hd)
   rcases hr with rfl | rfl
   · go_wp2_with fail
     refine hdn.mono ?_
     rintro e w4 ⟨rfl, hd⟩
     have HF := Lib.hid (HE.out w4 hd)
     clear hdn hd
     go_wp2_with fail
     go_ret
     exact ⟨_, rfl, HF.out⟩
   · go_wp2_with fail
     refine hdn.mono ?_
     rintro e w4 ⟨rfl, hd⟩
     have HF := Lib.hid (HE.out w4 hd)
     clear hdn hd
     go_wp2_with fail
     go_ret
     exact ⟨_, rfl, HF.out⟩
end
end Go.Proofs.YthhndleddlmgiaaGreatDoor.Tp
