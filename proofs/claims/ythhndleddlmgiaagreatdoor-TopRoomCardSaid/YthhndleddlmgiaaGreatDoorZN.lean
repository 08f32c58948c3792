/- Contracts of the program's functions, and laws on memory: a part of the proof of TopRoom. -/
import Derived.Test.YthhndleddlmgiaaGreatDoorZM
import Derived.Test.YthhndleddlmgiaaGreatDoorProg
import Derived.LoopTactic
import Derived.LoopN
import Derived.Lib.Hide
import Derived.Deep.DeepMust
import Derived.Laws.MakeOwn
import Derived.Laws.Entries
import Derived.WalkSpells
import Derived.WalkMore
import Derived.IntWalk
import Derived.Deep.QuietTactic
import Derived.BigQuiet
import Derived.Shelf.Abstract
namespace Go.Proofs.YthhndleddlmgiaaGreatDoor.Tp
set_option maxHeartbeats 8000000
set_option maxRecDepth 100000
set_option linter.unusedSimpArgs false
set_option linter.unusedVariables false
section
open Go.RowKit Go.Maps
theorem infoOpS0 : (Tryz.prog.info? 45).map (fun i => (i.size, i.bytes, i.zero.map (·.cells.size))) = some (5, 56, some 5) := by kernel_rfl
theorem infoOpS : ∃ i z, Tryz.prog.info? 45 = some i ∧ i.zero = some z ∧ i.size = 5 ∧ i.bytes = 56 ∧ z.cells.size = 5 := by
 have h := infoOpS0
 cases hi : Tryz.prog.info? 45 with
 | none => rw [hi] at h; cases h
 | some i =>
   rw [hi] at h
   simp at h
   obtain ⟨h1, h2, z, hz, h3⟩ := h
   exact ⟨i, z, rfl, hz, h1, h2, h3⟩
theorem infoAnsS0 : (Tryz.prog.info? 52).map (fun i => (i.size, i.bytes, i.zero.map (·.cells.size))) = some (5, 56, some 5) := by kernel_rfl
theorem infoAnsS : ∃ i z, Tryz.prog.info? 52 = some i ∧ i.zero = some z ∧ i.size = 5 ∧ i.bytes = 56 ∧ z.cells.size = 5 := by
 have h := infoAnsS0
 cases hi : Tryz.prog.info? 52 with
 | none => rw [hi] at h; cases h
 | some i =>
   rw [hi] at h
   simp at h
   obtain ⟨h1, h2, z, hz, h3⟩ := h
   exact ⟨i, z, rfl, hz, h1, h2, h3⟩
structure IsOps (w : World) (G : Foot) (A : Option Addr) (n c : Nat) (os : List OpD) : Prop where
 len : os.length = n
 rd : Rd w w.heap.size A (os.flatMap OpD.cells)
 ps : ∀ o ∈ os, IsPa w G o.A o.n o.c o.ps
 cap : n ≤ c
 big : c ≤ maxLen
 ga : ∀ ad, A = some ad → 0 < n → G ad.block
 gp : ∀ o ∈ os, ∀ ad, o.A = some ad → 0 < o.n → G ad.block
theorem IsOps.ag {w w' : World} {G : Foot} {A : Option Addr} {n c : Nat} {os : List OpD} (h : IsOps w G A n c os) (k : Ag G w w') : IsOps w' G A n c os :=
 ⟨h.len, Rd.agn h.rd k (fun ad e q => h.ga ad e (by rw [flat_len op_five, h.len] at q; omega)), fun o ho => (h.ps o ho).agn k (h.gp o ho), h.cap, h.big, h.ga, h.gp⟩
def OpD.key (o : OpD) : Int × Int × Int × Int × List (Int × Nat) := (o.kind, o.h, o.lba, o.len, o.ps.map fun p => (p.lba, p.n))
def sameO (os os' : List OpD) : Prop := os'.map OpD.key = os.map OpD.key
def adR (s : SS) (j : Nat) (cl : CLD) (os : List OpD) (r : Int) (s' : SS) : Prop :=
 (200 < cl.ops.length + os.length ∧ r = 7 ∧ s' = s) ∨ (cl.ops.length + os.length ≤ 200 ∧ r = 0 ∧ ∃ ov' os', sameO os os' ∧ s' = { s with cls := s.cls.set j { cl with ov := ov', ops := cl.ops ++ os' } })
def AdX (w wr : World) (F : Foot) (sb g : Nat) (s : SS) (j : Nat) (cl : CLD) (os : List OpD) (i : Nat) : Prop :=
 ∃ ov' os', SchR w wr F sb { s with cls := s.cls.set j { cl with ov := ov', ops := cl.ops ++ os' } } g ∧ sameO (os.take i) os'
theorem set_self {α : Type} {l : List α} {j : Nat} {x : α} (h : l[j]? = some x) : l.set j x = l := by
 apply List.ext_getElem?
 intro i
 rw [List.getElem?_set]
 split
 · rename_i e; subst e
   rw [if_pos (get_lt h)]; exact h.symm
 · rfl
theorem num_set {P : CLD → Prop} {cls : List CLD} {j : Nat} {x c' : CLD} (h : ∀ c ∈ cls.set j x, P c) (hc : P c') : ∀ c ∈ cls.set j c', P c := fun c hm => by
 obtain ⟨i, hi⟩ := List.getElem?_of_mem hm
 rcases get_set hi with ⟨_, rfl⟩ | ⟨hn, q⟩
 · exact hc
 · exact h c (List.mem_of_getElem? (i := i) (by rw [List.getElem?_set, if_neg (fun r => hn r.symm)]; exact q))
theorem AdX.zero {w : World} {F : Foot} {sb g : Nat} {s : SS} {j : Nat} {cl : CLD} (os : List OpD) (h : SchB w F sb s g) (hj : s.cls[j]? = some cl) : AdX w w F sb g s j cl os 0 := by
 refine ⟨cl.ov, [], ?_, rfl⟩
 have e : ({ cl with ov := cl.ov, ops := cl.ops ++ [] } : CLD) = cl := by rw [List.append_nil]
 rw [e, set_self hj]
 exact SchR.same0 h (Below.refl _ _)
theorem bk_cells5 {w : World} {g t : Nat} {cs : List Value} (h : Bk w g t cs) : ∀ j u, cs[j]? = some u → w.cell? ((⟨g, 0, none⟩ : Addr).add j) = some u := fun j u hu => by
 rw [Addr.add_lit, Nat.zero_add]; exact Bk.at' h hu
theorem AdX.step {w wr w8 w9 w10 : World} {F F1 : Foot} {Ft : Nat → Foot} {sb st gd g : Nat} {alv : Value} {s : SS} {j i : Nat} {cl : CLD} {os os' : List OpD} {o o' : OpD} {ov' v9 : Value}
  (h1 : SchB wr F1 sb { s with cls := s.cls.set j { cl with ov := ov', ops := cl.ops ++ os' } } g) (hx : SchX wr F1 Ft sb st (bptr gd) alv (s.cls.set j { cl with ov := ov', ops := cl.ops ++ os' }) s.es s.es s.bg s.m s.ev s.pos g) (k1 : Kf F w wr) (s1 : Sb w F F1) (hjl : j < s.cls.length) (ho : os[i]? = some o) (hs : sameO (os.take i) os') (hk : o'.key = o.key)
  (hb : Below wr.heap.size wr w8) (hp : IsPs w8 o'.A o'.n o'.c o'.ps) (hpy : ∀ ad, o'.A = some ad → wr.heap.size ≤ ad.block ∧ ∃ cs fr, w8.heap[ad.block]? = some (.cells cs 50 fr))
  (hO : OwnO w9 45 5 v9 (cl.ops.length + os'.length + 1) ((cl.ops ++ os').flatMap OpD.cells ++ o'.cells)) (hg : w8.grownBy w9 ov'.ownBlock) (hv : v9.ownBlock = ov'.ownBlock ∨ ∀ b, v9.ownBlock = some b → w8.heap.size ≤ b) (hl : cl.ops.length + os'.length + 1 ≤ 200) (e : w9.setCell ⟨sb, 2 + j * 4, none⟩ v9 = w10) : AdX w w10 F sb g s j cl os (i + 1) := by
 obtain ⟨F2, Ft2, g1, g2, g3, g4⟩ := hx.addc (j := j) (c := { cl with ov := ov', ops := cl.ops ++ os' }) (o := o') hb (by rw [List.getElem?_set, if_pos rfl, if_pos hjl]) hp hpy (by simpa using hO) hg hv (by simpa using hl) e.symm
 rw [List.set_set] at g1
 refine ⟨v9, os' ++ [o'], ⟨F2, ⟨⟨Ft2, st, gd, alv, ?_⟩, h1.b, h1.ev, fun c hc => ?_⟩, k1.trans g2 s1, Sb.trans s1 g3 k1.size, g4⟩, ?_⟩
 · simpa using g1
 · exact num_set (P := fun c => c.na ≤ g ∧ c.bgs.length ≤ g) (cls := s.cls) (j := j) (x := { cl with ov := ov', ops := cl.ops ++ os' }) (c' := { cl with ov := v9, ops := cl.ops ++ (os' ++ [o']) }) h1.num (h1.num { cl with ov := ov', ops := cl.ops ++ os' } (List.mem_of_getElem? (i := j) (by show (s.cls.set j _)[j]? = _; rw [List.getElem?_set, if_pos rfl, if_pos hjl]))) c hc
 · unfold sameO at hs ⊢
   rw [List.map_append, hs, List.take_add_one, ho, List.map_append]
   simp [hk]
theorem cells_five {w : World} {g t : Nat} {a0 a1 a2 a3 a4 : Value} (h : Bk w g t [a0, a1, a2, a3, a4]) : w.cell? ⟨g, 0, none⟩ = some a0 ∧ w.cell? ⟨g, 1, none⟩ = some a1 ∧ w.cell? ⟨g, 2, none⟩ = some a2 ∧ w.cell? ⟨g, 3, none⟩ = some a3 ∧ w.cell? ⟨g, 4, none⟩ = some a4 :=
 ⟨h.cell (i := 0) (by simp), h.cell (i := 1) (by simp), h.cell (i := 2) (by simp), h.cell (i := 3) (by simp), h.cell (i := 4) (by simp)⟩
theorem add_frz {w w9 : World} {F : Foot} {Ft : Nat → Foot} {sb st : Nat} {dp alv : Value} {cls : List CLD} {al es : List Nat} {bg : List BG} {m : MS} {ev pos g : Nat} (h : SchX w F Ft sb st dp alv cls al es bg m ev pos g) {j : Nat} {c : CLD} (hj : cls[j]? = some c) (hG : w.grownBy w9 c.ov.ownBlock) :
  w9.cell? ⟨sb, 2 + j * 4, none⟩ = some c.ov ∧ w9.frozen? ⟨sb, 2 + j * 4, none⟩ = false := by
 have hb : Bk w9 sb 71 (sccells dp st cls alv ev) := (hG.block _ h.bx.lt (fun e => by
  obtain ⟨_, _, h1⟩ := (h.cl j c hj).ops.at_ e.symm
  exact absurd (heap_ty h1 h.bx) (by decide))).trans h.bx
 exact ⟨Bk.at' hb (sc_at (i := 0) h.cl8 hj (by decide) rfl), hb.free _⟩
def AdS (sb g9 : Nat) (cs os : List Value) (w : World) : Prop := Bk w sb 71 cs ∧ Bk w g9 45 os
theorem AdS.next {w w' : World} {sb g9 : Nat} {cs os : List Value} (h : AdS sb g9 cs os w) (hb : Below w.heap.size w w') : AdS sb g9 cs os w' := ⟨h.1.next hb h.1.lt, h.2.next hb h.2.lt⟩
theorem AdS.grown {w w' : World} {sb g9 n : Nat} {cs os xs : List Value} {v : Value} (h : AdS sb g9 cs os w) (ho : OwnO w 45 5 v n xs) (hG : w.grownBy w' v.ownBlock) (hn : v.ownBlock ≠ some g9) : AdS sb g9 cs os w' :=
 ⟨(hG.block _ h.1.lt (fun e => by
  obtain ⟨_, _, h1⟩ := ho.at_ e.symm
  exact absurd (heap_ty h1 h.1) (by decide))).trans h.1, (hG.block _ h.2.lt (fun e => hn e.symm)).trans h.2⟩
theorem AdX.out {w wr : World} {F : Foot} {sb g : Nat} {s : SS} {j n : Nat} {cl : CLD} {os : List OpD} (h : AdX w wr F sb g s j cl os n) (hn : os.length = n) (hl : cl.ops.length + os.length ≤ 200) : ∃ s', adR s j cl os 0 s' ∧ SchR w wr F sb s' g := by
 obtain ⟨ov', os', h1, h2⟩ := h
 rw [← hn, List.take_length] at h2
 exact ⟨_, .inr ⟨hl, rfl, ov', os', h2, rfl⟩, h1⟩
theorem ad_num {L n : Nat} (hn : n ≤ 20000) (hL : L ≤ 200) : wrap64 ((200 : Int) - (L : Int)) = (200 : Int) - (L : Int) := by unfold wrap64; omega
theorem scAdd_none {w : World} {F : Foot} {sb g : Nat} {s : SS} (h : SchB w F sb s g) {k : Int} (hk : k < 1 ∨ 8 < k) (A : Option Addr) (n c : Nat) :
  Calls Tryz.prog 15 #[.pointer (some ⟨sb, 0, none⟩), .int .i64 k, .slice A n c] w fun e w' => e = .returned (.int .i64 1) ∧ w = w' := by
 obtain ⟨Ft, st, gd, alv, hx⟩ := h.x
 have hc := sclient_no hx.at_st hk
 clear h hx hk
 go_enter Tryz.func15, Tryz.ntmps15
 go_wp2_with fail
 refine hc.mono ?_
 rintro e w' ⟨rfl, rfl⟩
 clear hc
 go_wp2_with fail
 go_ret
 exact ⟨rfl, rfl⟩
theorem scAdd {w : World} {F G : Foot} {sb g : Nat} {s : SS} (h : SchB w F sb s g) {j : Nat} {cl : CLD} (hj : s.cls[j]? = some cl) {A : Option Addr} {n c : Nat} {os : List OpD} (ho : IsOps w G A n c os) (hd : Dis G F) (hG : In w G) (hn : n ≤ 20000) (hq : ∀ o ∈ os, o.n ≤ 20000 ∧ ∀ p ∈ o.ps, p.n ≤ 20000) :
  Calls Tryz.prog 15 #[.pointer (some ⟨sb, 0, none⟩), .int .i64 ((j : Int) + 1), .slice A n c] w fun e w' => ∃ r : Int, e = .returned (.int .i64 r) ∧ ∃ s', adR s j cl os r s' ∧ SchR w w' F sb s' g := by
 obtain ⟨xi, xz, hxi, hxz, hx5, hx56, hxc⟩ := infoOpS
 have hjl := get_lt hj
 obtain ⟨Ft, st, gd, alv, hx⟩ := h.x
 have hc := sclient_yes hx.at_st (by rw [← h.c8]; exact hjl)
 obtain ⟨c0, -⟩ := hx.cl1 hj
 obtain ⟨oA, oc, hov, -⟩ := (hx.cl j cl hj).ops.shape
 rw [hov] at c0
 have hlen := (hx.cl j cl hj).len
 have m1 := ad_num (L := cl.ops.length) hn hlen
 have hol := ho.len
 rcases Nat.lt_or_ge 200 (cl.ops.length + n) with hbig | hfit
 · have n1 : ((200 : Int) - (cl.ops.length : Int)) < (n : Int) := by omega
   have HE := Lib.hid (show adR s j cl os 7 s ∧ SchR w w F sb s g from ⟨.inl ⟨by rw [hol]; exact hbig, rfl, rfl⟩, SchR.same0 h (Below.refl _ _)⟩)
   clear h hx hj ho hbig hlen hq hov
   go_enter Tryz.func15, Tryz.ntmps15
   go_wp2_with fail
   refine hc.mono ?_
   rintro e w' ⟨rfl, rfl⟩
   clear hc
   go_wp2_with fail
   go_ret
   exact ⟨7, rfl, s, HE.out⟩
 · have n1 : ¬ (((200 : Int) - (cl.ops.length : Int)) < (n : Int)) := by omega
   have HX0 := Lib.hid (AdX.zero os h hj)
   have HH := Lib.hid (And.intro hjl (And.intro ho (And.intro hd (And.intro hG (And.intro hfit (And.intro hq (And.intro hol (And.intro hn hlen))))))))
   clear h hx hj ho hfit hlen hq hov hd hG hjl
   go_enter Tryz.func15, Tryz.ntmps15
   go_wp2_with fail
   refine hc.mono ?_
   rintro e w' ⟨rfl, rfl⟩
   clear hc
   go_wp2_with fail
   go_loopw [28] (fun iv wr => ∃ i : Nat, i ≤ n ∧ iv = .int .i64 (i : Int) ∧ Hid (AdX w wr F sb g s j cl os i)) (fun iv _ => n - (intOf iv).toNat)
   case atStart => exact ⟨0, Nat.zero_le _, rfl, HX0⟩
   case round =>
    obtain ⟨i, hi, rfl, HY⟩ := hrel
    rcases Nat.lt_or_ge i n with hlt | hge
    · obtain ⟨ov', os', ⟨F1, hB, k1, s1, in1⟩, hsm⟩ := HY.out
      obtain ⟨Ft1, st1, gd1, alv1, x1⟩ := hB.x
      have hj1 : (s.cls.set j { cl with ov := ov', ops := cl.ops ++ os' })[j]? = some { cl with ov := ov', ops := cl.ops ++ os' } := by rw [List.getElem?_set, if_pos rfl, if_pos HH.out.1]
      have hol' : os'.length = i := by have := congrArg List.length hsm; rw [List.length_map, List.length_map, List.length_take] at this; have := HH.out.2.2.2.2.2.2.1; omega
      obtain ⟨o, hoi⟩ : ∃ o, os[i]? = some o := ⟨_, List.getElem?_eq_getElem (by have := HH.out.2.2.2.2.2.2.1; omega)⟩
      have hO1 := HH.out.2.1.ag (k1.ag HH.out.2.2.1)
      obtain ⟨ad, rfl, had, e0, e1, e2, e3, e4⟩ := five_getC op_five hO1.rd (k := i) (by have := HH.out.2.2.2.2.2.2.1; omega) (by rw [List.getElem?_eq_getElem (get_lt hoi)] at hoi; rw [Option.some.inj hoi]; rfl)
      have n2 : (i : Int) < (n : Int) := by omega
      have n3 : (0 : Int) ≤ (i : Int) := by omega
      have m2 : wrap64 ((i : Int) + 1) = (i : Int) + 1 := by unfold wrap64; have := HH.out.2.2.2.2.2.2.2.1; omega
      obtain ⟨g9, w4, hzw4, hw4, Bw4, bw4⟩ := alloc_of wr 45 [.int .i64 0, .int .i64 0, .int .i64 0, .int .i64 0, .slice none 0 0]
      obtain ⟨z0, z1, z2, z3, z4⟩ := Bw4.c5
      have q0 := Bw4.free 0
      have q1 := Bw4.free 1
      have q2 := Bw4.free 2
      have q3 := Bw4.free 3
      have q4 := Bw4.free 4
      obtain ⟨w5, hw5⟩ : ∃ w5, W5 w4 g9 (.int .i64 o.kind) (.int .i64 o.h) (.int .i64 o.lba) (.int .i64 o.len) (.slice o.A o.n o.c) = w5 := ⟨_, rfl⟩
      have B5 := bk_set5 Bw4 hw5
      have b5 : Below wr.heap.size wr w5 := below5 bw4 (Nat.le_of_eq hzw4) hw5
      have hops := (x1.next b5).cl j _ hj1 |>.ops
      obtain ⟨vA, vc, hvv, -⟩ := hops.shape
      have hvl : (cl.ops ++ os').length = cl.ops.length + i := by rw [List.length_append, hol']
      rw [hvl] at hvv
      subst hvv
      rw [show ({ cl with ov := Value.slice vA (cl.ops.length + i) vc, ops := cl.ops ++ os' } : CLD).ops.length = cl.ops.length + i from hvl] at hops
      have hfi : cl.ops.length + i + 1 ≤ 200 := Nat.le_trans (Nat.succ_le_of_lt (Nat.add_lt_add_left hlt _)) HH.out.2.2.2.2.1
      have hpo := hO1.ps o (List.mem_of_getElem? hoi)
      have hqo := HH.out.2.2.2.2.2.1 o (List.mem_of_getElem? hoi)
      have HO := Lib.hid (And.intro (And.intro hops hfi) (And.intro hpo (And.intro b5 hqo)))
      have HX := Lib.hid (And.intro hB (And.intro x1 (And.intro k1 (And.intro s1 (And.intro hoi (And.intro hsm (And.intro hj1 hol')))))))
      obtain ⟨cs, ecs⟩ : ∃ cs, sccells (bptr gd1) st1 (s.cls.set j { cl with ov := .slice vA (cl.ops.length + i) vc, ops := cl.ops ++ os' }) alv1 s.ev = cs := ⟨_, rfl⟩
      have hS5 : AdS sb g9 cs [.int .i64 o.kind, .int .i64 o.h, .int .i64 o.lba, .int .i64 o.len, .slice o.A o.n o.c] w5 := ⟨by rw [← ecs]; exact (x1.next b5).bx, B5⟩
      have ecj : cs[2 + (j * 4 + 0)]? = some (.slice vA (cl.ops.length + i) vc) := by rw [← ecs]; exact sc_at x1.cl8 hj1 (by decide) rfl
      have HG9 := Lib.hid (show (Value.slice vA (cl.ops.length + i) vc).ownBlock ≠ some g9 from fun q => by
       have h1 := x1.fam.inn _ _ ((x1.cl j _ hj1).fo g9 q)
       rw [← hzw4] at h1
       exact Nat.lt_irrefl _ h1)
      have KK := Lib.hid (fun (w' : World) (hS : AdS sb g9 cs [.int .i64 o.kind, .int .i64 o.h, .int .i64 o.lba, .int .i64 o.len, .slice o.A o.n o.c] w') => And.intro (show w'.cell? ⟨sb, 2 + j * 4, none⟩ = _ from Bk.at' hS.1 ecj) (cells_five hS.2))
      unfold W5 at hw5
      clear hpo hqo hfi hops B5 b5 Bw4 bw4 hO1 hoi hsm hB x1 k1 s1 in1 hj1 hol' hvl HY had
      go_wp2_with fail
      have Kq := KK
      refine anyM_start (AdS sb g9 cs [.int .i64 o.kind, .int .i64 o.h, .int .i64 o.lba, .int .i64 o.len, .slice o.A o.n o.c]) [11] (by kernel_rfl) (⟨hS5.1.drew, hS5.2.drew⟩) (fun hHeld => ?_)
      refine kR 0 ?_; refine kR 1 ?_; refine kR 2 ?_; refine kR 3 ?_
      refine kM 4 ?_; refine kM 5 ?_
      refine rM 6 (fun K hK => ?_)
      go_simp
      have hb5d : Below w5.heap.size w5 w5.drew := bdrew (Below.refl _ _)
      refine (own_any o.kind o.h o.lba o.len G o.A o.n o.c o.ps _ ((HO.out.2.1.next HO.out.2.2.1).next hb5d) HO.out.2.2.2.1 HO.out.2.2.2.2).mono ?_
      rintro e w7 ⟨⟨A7, c7, ps7, rfl, hw7⟩, hb7⟩
      have hS7 := AdS.next hHeld hb7
      have hb57 : Below w5.heap.size w5 w7 := hb5d.trans (hb7.mono hb5d.size)
      have H7 := Lib.hid (And.intro hw7 (And.intro hb5d.size hb57))
      clear hw7 hb7 hb5d hb57
      go_simp
      refine hK.out _ _ (fun _ _ => hS7) ?_
      clear hK K hHeld
      have hHeld := hS7
      try simp only [Act.put, List.setIfInBounds_toArray, List.set_cons_zero, List.set_cons_succ]
      refine rM 7 (fun K hK => ?_)
      obtain ⟨w8, hw8⟩ : ∃ w8, w7.alloc (.cells #[.int .i64 o.kind, .int .i64 o.h, .int .i64 o.lba, .int .i64 o.len, .slice A7 o.n c7] 45) = w8 := ⟨_, rfl⟩
      have hB8 : Bk w8 w7.heap.size 45 [.int .i64 o.kind, .int .i64 o.h, .int .i64 o.lba, .int .i64 o.len, .slice A7 o.n c7] := by rw [← hw8]; exact Bk.new w7 _ _
      have hb78 : Below w7.heap.size w7 w8 := by rw [← hw8]; exact (Below.refl _ _).alloc (Nat.le_refl _) _
      have hS8 := AdS.next hHeld hb78
      have hb58 : Below w5.heap.size w5 w8 := H7.out.2.2.trans (hb78.mono H7.out.2.2.size)
      have H8 := Lib.hid (And.intro hB8 (And.intro hb78 (And.intro (HO.out.2.2.1.trans (hb58.mono HO.out.2.2.1.size)) hb58)))
      go_simp
      try rw [hw8]
      clear hB8 hb78 hb58
      refine hK.out _ _ (fun _ _ => hS8) ?_
      clear hK K hHeld
      have hHeld := hS8
      try simp only [Act.put, List.setIfInBounds_toArray, List.set_cons_zero, List.set_cons_succ]
      refine rM 8 (fun K hK => ?_)
      refine if_wanted rfl (wp_appO _ _ 28 rfl 45 xi xz 5 56 Tryz.underlying28 hxi hxz hx5 hx56 hxc (by decide) (.slice vA (cl.ops.length + i) vc) (cl.ops.length + i) ((cl.ops ++ os').flatMap OpD.cells) (by rfl) (by exact HO.out.1.1.ag (F := fun _ => True) (.of_below H8.out.2.2.2) (fun _ _ => trivial)) ⟨w7.heap.size, 0, none⟩ 1 1 [.int .i64 o.kind, .int .i64 o.h, .int .i64 o.lba, .int .i64 o.len, .slice A7 o.n c7] (by rfl) rfl (bk_cells5 H8.out.1) (by intro u hu; simp at hu; rcases hu with rfl | rfl | rfl | rfl | rfl <;> rfl) (Nat.le_trans HO.out.1.2 (by decide)) (by decide) ?_)
      intro v9 w9 hO9 hG9 hv9
      obtain ⟨A9, c9, rfl, -⟩ := hO9.shape
      obtain ⟨z9, fr9⟩ := add_frz (HX.out.2.1.next H8.out.2.2.1) HX.out.2.2.2.2.2.2.1 hG9
      have hS9 := AdS.grown hHeld (HO.out.1.1.ag (F := fun _ => True) (.of_below H8.out.2.2.2) (fun _ _ => trivial)) hG9 HG9.out
      have H9 := Lib.hid (And.intro hO9 (And.intro hG9 hv9))
      obtain ⟨w10, hw10⟩ : ∃ w10, w9.setCell ⟨sb, 2 + j * 4, none⟩ (.slice A9 (cl.ops.length + i + 1) c9) = w10 := ⟨_, rfl⟩
      clear hO9 hG9 hv9
      refine hK.out _ _ (fun _ _ => hS9) ?_
      clear hK K hHeld
      have hHeld := hS9
      try simp only [Act.put, List.setIfInBounds_toArray, List.set_cons_zero, List.set_cons_succ]
      refine kR 9 ?_; refine kR 10 ?_
      refine rM 11 (fun K hK => ?_)
      go_simp
      try rw [hw10]
      refine hK.out _ _ (fun h => absurd (by decide) h) ?_
      clear hK K
      try simp only [Act.put, List.setIfInBounds_toArray, List.set_cons_zero, List.set_cons_succ]
      refine anyM_done (by kernel_rfl) ?_ _
      clear Kq
      have e8 : os'.length = i := HX.out.2.2.2.2.2.2.2
      have g3 : Below wr.heap.size wr w5 := HO.out.2.2.1
      have HE := Lib.hid (AdX.step (o' := ⟨o.kind, o.h, o.lba, o.len, A7, o.n, c7, ps7⟩) HX.out.1 HX.out.2.1 HX.out.2.2.1 HX.out.2.2.2.1 HH.out.1 HX.out.2.2.2.2.1 HX.out.2.2.2.2.2.1 (by unfold OpD.key; simp only; rw [H7.out.1.same]) H8.out.2.2.1 (H7.out.1.is.next H8.out.2.1)
       (fun ad e => by
        obtain ⟨h1, cs, fr, h2⟩ := H7.out.1.new ad e
        exact ⟨Nat.le_trans g3.size (Nat.le_trans H7.out.2.1 h1), cs, fr, (H8.out.2.1.block _ (lt_of h2)).trans h2⟩)
       (by rw [e8]; exact H9.out.1) H9.out.2.1 H9.out.2.2 (by rw [e8]; exact HO.out.1.2) hw10)
      clear e8 g3 ecs ecj KK hS5 HG9 e0 e1 e2 e3 e4 z0 z1 z2 z3 z4 q0 q1 q2 q3 q4 z9 fr9 hw5 hw8 hw10 hzw4 hw4
      go_wp2_with fail
      go_roundw
      case rel => exact ⟨i + 1, hlt, int_succ (by first | rfl | exact m2), HE⟩
      case measure => (try rw [m2]); exact sub_lt1 (x := (i : Int) + 1) hlt rfl
    · obtain rfl : i = n := Nat.le_antisymm hi hge
      have HE := Lib.hid (AdX.out HY.out (by rw [HH.out.2.2.2.2.2.2.1]) (by rw [HH.out.2.2.2.2.2.2.1]; exact HH.out.2.2.2.2.1))
      go_wp2_with fail
      go_ret
      exact ⟨0, rfl, HE.out⟩
end
section
open Go.RowKit Go.Maps
structure LcD where
 g : Nat
 t : TypeId
 cs : List Value
structure ScX (wb w : World) (F0 : Foot) (L : List LcD) (P : World → Foot → (Nat → Foot) → Prop) : Prop where
 p : ∃ F Ft, P w F Ft ∧ Kf F0 wb w ∧ Sb wb F0 F ∧ In w F ∧ ∀ x ∈ L, ¬ F x.g
 bk : ∀ x ∈ L, Bk w x.g x.t x.cs
 ge : ∀ x ∈ L, wb.heap.size ≤ x.g
 nd : ∀ (i j : Nat) (x y : LcD), L[i]? = some x → L[j]? = some y → x.g = y.g → i = j
section
variable {wb w w' w5 : World} {F0 : Foot} {L : List LcD} {P P' : World → Foot → (Nat → Foot) → Prop}
theorem ScX.step (h : ScX wb w F0 L P) (k : ∀ F Ft, P w F Ft → ∃ F' Ft', P' w' F' Ft' ∧ Kf F w w' ∧ Sb w F F' ∧ In w' F') : ScX wb w' F0 L P' := by
 obtain ⟨F, Ft, hp, h1, h2, h3, h4⟩ := h.p
 obtain ⟨F', Ft', hp', k1, k2, k3⟩ := k F Ft hp
 refine ⟨⟨F', Ft', hp', h1.trans k1 h2, Sb.trans h2 k2 h1.size, k3, fun x hx r => (k2 _ r).elim (h4 x hx) (fun s => by have := (h.bk x hx).lt; omega)⟩, fun x hx => ?_, h.ge, h.nd⟩
 exact Bk.ag (F := fun b => b = x.g) (h.bk x hx) (k1.ag (fun b q r => h4 x hx (by have q : b = x.g := q; exact q ▸ r))) rfl
theorem ScX.bkAt (h : ScX wb w F0 L P) {i : Nat} {x : LcD} (hi : L[i]? = some x) : Bk w x.g x.t x.cs := h.bk x (List.mem_of_getElem? hi)
end
section
variable {wb w w' w5 : World} {F0 : Foot} {L : List LcD} {sb st gd g pos pos' ev : Nat} {alv : Value} {cls : List CLD} {al es : List Nat} {bg : List BG} {m m' : MS} {s : SS}
abbrev ScP (sb st gd : Nat) (alv : Value) (cls : List CLD) (al es : List Nat) (bg : List BG) (m : MS) (ev pos g : Nat) : World → Foot → (Nat → Foot) → Prop := fun w F Ft => SchX w F Ft sb st (bptr gd) alv cls al es bg m ev pos g
theorem ScX.of {Ft : Nat → Foot} (h : SchX w F0 Ft sb st (bptr gd) alv cls al es bg m ev pos g) : ScX w w F0 [] (ScP sb st gd alv cls al es bg m ev pos g) :=
 ⟨⟨F0, Ft, h, .refl _ _, .refl _ _, h.fam.lt, fun x hx => by cases hx⟩, fun x hx => (by cases hx), fun x hx => (by cases hx), fun i j x y q => by simp at q⟩
theorem ScX.next (h : ScX wb w F0 L (ScP sb st gd alv cls al es bg m ev pos g)) (hb : Below w.heap.size w w') : ScX wb w' F0 L (ScP sb st gd alv cls al es bg m ev pos g) :=
 h.step fun F Ft hp => ⟨F, Ft, SchX.next hp hb, .of_below hb, .refl _ _, (SchX.next hp hb).fam.lt⟩
theorem ScX.push (h : ScX wb w F0 L (ScP sb st gd alv cls al es bg m ev pos g)) (hb : Below w.heap.size w w') {x : Nat} {t : TypeId} {cs : List Value} (hk : Bk w' x t cs) (hx : w.heap.size ≤ x) : ScX wb w' F0 (L ++ [⟨x, t, cs⟩]) (ScP sb st gd alv cls al es bg m ev pos g) := by
 have h' := h.next hb
 obtain ⟨F, Ft, hp, h1, h2, h3, h4⟩ := h.p
 have lt : ∀ y ∈ L, y.g < w.heap.size := fun y hy => (h.bk y hy).lt
 refine ⟨⟨F, Ft, SchX.next hp hb, h1.next hb, h2, h3.next hb.size, fun y hy r => ?_⟩, fun y hy => ?_, fun y hy => ?_, fun i j y z hi hj e => ?_⟩
 · rcases List.mem_append.1 hy with q | q
   · exact h4 y q r
   · obtain rfl : y = ⟨x, t, cs⟩ := by simpa using q
     have := h3 _ r
     exact absurd hx (Nat.not_le.2 this)
 · rcases List.mem_append.1 hy with q | q
   · exact h'.bk y q
   · obtain rfl : y = ⟨x, t, cs⟩ := by simpa using q
     exact hk
 · rcases List.mem_append.1 hy with q | q
   · exact h.ge y q
   · obtain rfl : y = ⟨x, t, cs⟩ := by simpa using q
     exact Nat.le_trans h1.size hx
 · rcases get_app hi with q | ⟨q, rfl⟩ <;> rcases get_app hj with r | ⟨r, rfl⟩
   · exact h.nd i j y z q r e
   · have := lt y (List.mem_of_getElem? q); have e : y.g = x := e; omega
   · have := lt z (List.mem_of_getElem? r); have e : x = z.g := e; omega
   · omega
theorem ScX.set (h : ScX wb w F0 L (ScP sb st gd alv cls al es bg m ev pos g)) {i x : Nat} {t : TypeId} {cs cs' : List Value} (hi : L[i]? = some ⟨x, t, cs⟩) (k : Kf (fun b => b = x) w w') (hk : Bk w' x t cs') : ScX wb w' F0 (L.set i ⟨x, t, cs'⟩) (ScP sb st gd alv cls al es bg m ev pos g) := by
 obtain ⟨F, Ft, hp, h1, h2, h3, h4⟩ := h.p
 have hm := List.mem_of_getElem? hi
 have sub : ∀ (j : Nat) (y : LcD), (L.set i ⟨x, t, cs'⟩)[j]? = some y → ∃ z, L[j]? = some z ∧ z.g = y.g := fun j y hj => by
  rcases get_set hj with ⟨rfl, rfl⟩ | ⟨_, q⟩
  · exact ⟨_, hi, rfl⟩
  · exact ⟨y, q, rfl⟩
 refine ⟨⟨F, Ft, SchX.ag hp (k.ag (fun b q r => h4 _ hm (by have r : b = x := r; exact r ▸ q))), h1.trans k (fun b q => .inr (by have q : b = x := q; rw [q]; exact h.ge _ hm)), h2, h3.next k.size, fun y hy => ?_⟩, fun y hy => ?_, fun y hy => ?_, fun a b y z ha hb e => ?_⟩
 · obtain ⟨j, hj⟩ := List.getElem?_of_mem hy
   obtain ⟨z, hz, e⟩ := sub j y hj
   rw [← e]; exact h4 z (List.mem_of_getElem? hz)
 · obtain ⟨j, hj⟩ := List.getElem?_of_mem hy
   rcases get_set hj with ⟨_, rfl⟩ | ⟨hn, q⟩
   · exact hk
   · exact Bk.ag (F := fun b => b = y.g) (h.bkAt q) (k.ag (fun b q' r => by
      have q' : b = y.g := q'
      have r : b = x := r
      exact hn (h.nd j i y _ q hi (q'.symm.trans r)))) rfl
 · obtain ⟨j, hj⟩ := List.getElem?_of_mem hy
   obtain ⟨z, hz, e⟩ := sub j y hj
   rw [← e]; exact h.ge z (List.mem_of_getElem? hz)
 · obtain ⟨y', hy', ey⟩ := sub a y ha
   obtain ⟨z', hz', ez⟩ := sub b z hb
   exact h.nd a b y' z' hy' hz' (by rw [ey, ez, e])
theorem ScX.fin (h : ScX wb w F0 L (ScP sb st gd alv s.cls s.es s.es s.bg s.m s.ev s.pos g)) (hb : GoodB s.m s.bg s.ev) (he : s.ev ≤ g) (hn : ∀ c ∈ s.cls, c.na ≤ g ∧ c.bgs.length ≤ g) : SchR wb w F0 sb s g := by
 obtain ⟨F, Ft, hp, h1, h2, h3, _⟩ := h.p
 exact ⟨F, ⟨⟨Ft, st, gd, alv, hp⟩, hb, he, hn⟩, h1, h2, h3⟩
theorem ScX.sch (h : ScX wb w F0 L (ScP sb st gd alv cls al es bg m ev pos g)) : ∃ F Ft, SchX w F Ft sb st (bptr gd) alv cls al es bg m ev pos g := by
 obtain ⟨F, Ft, hp, _⟩ := h.p
 exact ⟨F, Ft, hp⟩
theorem ScX.newb (h : ScX wb w F0 L (ScP sb st gd alv cls al es bg m ev pos g)) (k : Below w.heap.size w w') {e : Nat} {b : BG} (hb : Bk w' e 85 (bcells es.length b)) (he : w.heap.size ≤ e) : ScX wb w' F0 L (ScP sb st gd alv cls al (es ++ [e]) (bg ++ [b]) m ev pos g) :=
 h.step fun F Ft hp => by
  obtain ⟨F', Ft', h1, h2, h3, _⟩ := SchX.newb hp k hb he
  exact ⟨F', Ft', h1, .of_below k, h2, h3⟩
theorem ScX.up (h : ScX wb w F0 L (ScP sb st gd alv cls al es bg m ev pos g)) (hg : g + 1 ≤ 700) : ScX wb w F0 L (ScP sb st gd alv cls al es bg m ev pos (g + 1)) :=
 h.step fun F Ft hp => ⟨F, Ft, SchX.up hp hg, .refl _ _, .refl _ _, (SchX.up hp hg).fam.lt⟩
theorem ScX.told (h : ScX wb w F0 L (ScP sb st gd alv cls al es bg m ev pos g)) {k e tn : Nat} {b : BG} (he : es[k]? = some e) (hb : bg[k]? = some b) (ew : w' = w.setCell ⟨e, 2, none⟩ (.int .i64 (tn : Int))) : ScX wb w' F0 L (ScP sb st gd alv cls al es (bg.set k ⟨b.fr, tn⟩) m ev pos g) :=
 h.step fun F Ft hp => by
  obtain ⟨h1, h2⟩ := SchX.told hp he hb ew
  exact ⟨F, Ft, h1, h2, .refl _ _, h1.fam.lt⟩
theorem ScX.at_ (h : ScX wb w F0 L (ScP sb st gd alv cls al es bg m ev pos g)) : ∃ F Ft, SchX w F Ft sb st (bptr gd) alv cls al es bg m ev pos g ∧ ∀ (w' : World) (pos' : Nat) (m' : MS), StoR w w' (Ft 1) st pos' m' (g + 1) → Ext m m' → ScX wb w' F0 L (ScP sb st gd alv cls al es bg m' ev pos' (g + 1)) := by
 obtain ⟨F, Ft, hp, h1, h2, h3, h4⟩ := h.p
 refine ⟨F, Ft, hp, fun w' pos' m' hr he => ?_⟩
 have h0 : ScX wb w F0 L (fun w2 F2 Ft2 => w2 = w ∧ F2 = F ∧ Ft2 = Ft ∧ SchX w F Ft sb st (bptr gd) alv cls al es bg m ev pos g) := ⟨⟨F, Ft, ⟨rfl, rfl, rfl, hp⟩, h1, h2, h3, h4⟩, h.bk, h.ge, h.nd⟩
 refine h0.step fun F2 Ft2 q => ?_
 obtain ⟨_, rfl, rfl, hp⟩ := q
 exact SchX.storeR hp hr he
end
def bgR (s : SS) (j : Nat) (cl : CLD) (s' : SS) : Prop :=
 (s.m.txs ≠ [] ∧ s' = s) ∨ ∃ e bv', s' = { cls := s.cls.set j { cl with bv := bv', bgs := cl.bgs ++ [s.es.length] }, es := s.es ++ [e], bg := s.bg ++ [⟨s.ev, 0⟩], m := s.m.begin, ev := s.ev, pos := s.pos }
end
section
open Go.RowKit Go.Maps
theorem infoBp0 : (Tryz.prog.info? 82).map (fun i => (i.size, i.bytes, i.zero.map (·.cells.size))) = some (1, 8, some 1) := by kernel_rfl
theorem infoBp : ∃ i z, Tryz.prog.info? 82 = some i ∧ i.zero = some z ∧ i.size = 1 ∧ i.bytes = 8 ∧ z.cells.size = 1 := by
 have h := infoBp0
 cases hi : Tryz.prog.info? 82 with
 | none => rw [hi] at h; cases h
 | some i =>
   rw [hi] at h
   simp at h
   obtain ⟨h1, h2, z, hz, h3⟩ := h
   exact ⟨i, z, rfl, hz, h1, h2, h3⟩
theorem own_frz {w w9 : World} {F : Foot} {Ft : Nat → Foot} {sb st : Nat} {dp alv : Value} {cls : List CLD} {al es : List Nat} {bg : List BG} {m : MS} {ev pos g : Nat} (h : SchX w F Ft sb st dp alv cls al es bg m ev pos g) {B e z n : Nat} {v : Value} {xs : List Value} (ho : w.ownsRow B e z v n xs) (ht : e ≠ 71) (hG : w.grownBy w9 v.ownBlock) :
  Bk w9 sb 71 (sccells dp st cls alv ev) :=
 (hG.block _ h.bx.lt (fun q => by
  obtain ⟨_, _, h1⟩ := own_at ho q.symm
  exact absurd (heap_ty h1 h.bx) ht)).trans h.bx
theorem last_get (l : List Nat) (e : Nat) : (l ++ [e]).getD l.length 0 = e := by simp [List.getD_eq_getElem?_getD]
def ansE (op : Int) (e : Ending) : Prop := ∃ code h t : Int, e = .returned (.agg #[.int .i64 op, .int .i64 code, .int .i64 h, .int .i64 t, .slice none 0 0])
theorem begun_fin {s : SS} {F : Foot} {w : World} {sb g j : Nat} {cl : CLD} {bv' : Value} (h : SchB w F sb s g) (hj : s.cls[j]? = some cl) : GoodB s.m.begin (s.bg ++ [⟨s.ev, 0⟩]) s.ev ∧ s.ev ≤ g + 1 ∧ ∀ c ∈ s.cls.set j { cl with bv := bv', bgs := cl.bgs ++ [s.es.length] }, c.na ≤ g + 1 ∧ c.bgs.length ≤ g + 1 := by
 refine ⟨h.b.begin, Nat.le_succ_of_le h.ev, fun c hc => ?_⟩
 have hold : ∀ c ∈ s.cls, c.na ≤ g + 1 ∧ c.bgs.length ≤ g + 1 := fun c hc => ⟨Nat.le_succ_of_le (h.num c hc).1, Nat.le_succ_of_le (h.num c hc).2⟩
 rcases List.mem_or_eq_of_mem_set hc with q | rfl
 · exact hold c q
 · have := h.num cl (List.mem_of_getElem? hj)
   refine ⟨Nat.le_succ_of_le this.1, ?_⟩
   show (cl.bgs ++ [s.es.length]).length ≤ g + 1
   rw [List.length_append]
   exact Nat.succ_le_succ this.2
theorem scBegin {w : World} {F : Foot} {sb g : Nat} {s : SS} (h : SchB w F sb s g) (hg : g + 1 ≤ 700) {j : Nat} {cl : CLD} (hj : s.cls[j]? = some cl) (op hh : Int) :
  Calls Tryz.prog 54 #[.pointer (some ⟨sb, 0, none⟩), .pointer (some ⟨sb, 2 + j * 4, none⟩), .agg #[.int .i64 op, .int .i64 0, .int .i64 hh, .int .i64 0, .slice none 0 0]] w fun e w' => ansE op e ∧ ∃ s', bgR s j cl s' ∧ SchR w w' F sb s' (g + 1) := by
 obtain ⟨xi, xz, hxi, hxz, hx5, hx56, hxc⟩ := infoBp
 obtain ⟨Ft, st, gd, alv, hx⟩ := h.x
 obtain ⟨aA, ac, rfl⟩ := own_shape hx.all
 obtain ⟨g1, w1, hzw1, hw1, Bw1, bw1⟩ := alloc_of w 52 [.int .i64 op, .int .i64 0, .int .i64 hh, .int .i64 0, .slice none 0 0]
 obtain ⟨g2, w2, hzw2, hw2, Bw2, bw2⟩ := alloc_of w1 52 [.int .i64 0, .int .i64 0, .int .i64 0, .int .i64 0, .slice none 0 0]
 have X2 := ((ScX.of hx).push bw1 Bw1 (Nat.le_of_eq hzw1)).push bw2 Bw2 (Nat.le_of_eq hzw2)
 obtain ⟨F2, Ft2, hx2, hst⟩ := X2.at_
 have c1 := hx2.at_st
 obtain ⟨Fs, gx, mb, gs, num, count, ns, hs⟩ := hx2.sto
 have hla := sLast hs
 have hbe := sBegin hs hg
 have H := Lib.hid (And.intro h (And.intro hg (And.intro hj hst)))
 clear hst hs hx2 X2 bw1 Bw1 bw2 Bw2 h hg hj hx
 go_enter Tryz.func54, Tryz.ntmps54
 go_wp2_with fail
 refine hla.mono ?_
 rintro e w' ⟨rfl, rfl⟩
 clear hla
 go_wp2_with fail
 refine hbe.mono ?_
 rintro e w3 ⟨x, r, rfl, hr⟩
 clear hbe c1
 rcases hr with ⟨hne, hr0, hr⟩ | ⟨rfl, rfl, hr⟩
 · have X3 := H.out.2.2.2 w3 _ _ hr (Ext.refl _)
   have B1 : Bk w3 g1 52 [.int .i64 op, .int .i64 0, .int .i64 hh, .int .i64 0, .slice none 0 0] := X3.bkAt (i := 0) rfl
   obtain ⟨c0, c1, c2, c3, c4⟩ := B1.c5
   have q0 := B1.free 0
   have q1 := B1.free 1
   have q2 := B1.free 2
   have q3 := B1.free 3
   have q4 := B1.free 4
   obtain ⟨w4, hw4'⟩ : ∃ w4, (w3.setCell ⟨g1, 2, none⟩ (.int .i64 0)).setCell ⟨g1, 1, none⟩ (.int .i64 r) = w4 := ⟨_, rfl⟩
   have B14 : Bk w4 g1 52 [.int .i64 op, .int .i64 r, .int .i64 0, .int .i64 0, .slice none 0 0] := by rw [← hw4']; exact (B1.set 2 _).set 1 _
   have k34 : Kf (fun b => b = g1) w3 w4 := by rw [← hw4']; exact ((Kf.refl (fun b => b = g1) w3).set B1 (by decide) (.inl rfl) 2 _).set (B1.set 2 _) (by decide) (.inl rfl) 1 _
   have X4 := X3.set (i := 0) rfl k34 B14
   have B24 : Bk w4 g2 52 [.int .i64 0, .int .i64 0, .int .i64 0, .int .i64 0, .slice none 0 0] := X4.bkAt (i := 1) rfl
   obtain ⟨d0, d1, d2, d3, d4⟩ := B14.c5
   obtain ⟨r0, r1, r2, r3, r4⟩ := B24.c5
   have p0 := B24.free 0
   have p1 := B24.free 1
   have p2 := B24.free 2
   have p3 := B24.free 3
   have p4 := B24.free 4
   obtain ⟨w5, hw5⟩ : ∃ w5, W5 w4 g2 (.int .i64 op) (.int .i64 r) (.int .i64 0) (.int .i64 0) (.slice none 0 0) = w5 := ⟨_, rfl⟩
   have X5 := X4.set (i := 1) rfl (Below5A B24 (by decide) hw5) (bk_set5 B24 hw5)
   unfold W5 at hw5
   have HE := Lib.hid (And.intro (show Bk w5 g2 52 [.int .i64 op, .int .i64 r, .int .i64 0, .int .i64 0, .slice none 0 0] from X5.bkAt (i := 1) rfl) (And.intro hne (X5.fin H.out.1.b (Nat.le_succ_of_le H.out.1.ev) (fun c hc => ⟨Nat.le_succ_of_le (H.out.1.num c hc).1, Nat.le_succ_of_le (H.out.1.num c hc).2⟩))))
   clear B1 B14 k34 X4 B24 X5 X3 hne hr
   go_wp2_with fail
   refine bodyPost_ret (res_ans rfl _ _ _ _ (by rfl) HE.out.1) rfl ?_
   exact ⟨⟨_, _, _, rfl⟩, s, .inl ⟨HE.out.2.1, rfl⟩, HE.out.2.2⟩
 · have hgm := H.out.1.b.gm.begin
   have X3 := H.out.2.2.2 w3 _ _ hr hgm.2
   have B1 : Bk w3 g1 52 [.int .i64 op, .int .i64 0, .int .i64 hh, .int .i64 0, .slice none 0 0] := X3.bkAt (i := 0) rfl
   obtain ⟨c0, c1, c2, c3, c4⟩ := B1.c5
   have q0 := B1.free 0
   have q1 := B1.free 1
   have q2 := B1.free 2
   have q3 := B1.free 3
   have q4 := B1.free 4
   obtain ⟨w4, hw4'⟩ : ∃ w4, (w3.setCell ⟨g1, 2, none⟩ (.int .i64 0)).setCell ⟨g1, 1, none⟩ (.int .i64 0) = w4 := ⟨_, rfl⟩
   have B14 : Bk w4 g1 52 [.int .i64 op, .int .i64 0, .int .i64 0, .int .i64 0, .slice none 0 0] := by rw [← hw4']; exact (B1.set 2 _).set 1 _
   have k34 : Kf (fun b => b = g1) w3 w4 := by rw [← hw4']; exact ((Kf.refl (fun b => b = g1) w3).set B1 (by decide) (.inl rfl) 2 _).set (B1.set 2 _) (by decide) (.inl rfl) 1 _
   have X4 := X3.set (i := 0) rfl k34 B14
   obtain ⟨F4, Ft4, hx4⟩ := X4.sch
   have y35 := hx4.at_ev
   obtain ⟨bA, bc, hbv⟩ := own_shape (hx4.cl j cl H.out.2.2.1).beg
   have elen : s.m.txs.length = s.es.length := by rw [← H.out.1.b.len, ← hx4.len]
   have hbl : cl.bgs.length ≤ 700 := Nat.le_trans (H.out.1.num cl (List.mem_of_getElem? H.out.2.2.1)).2 H.out.1.big
   have hel : s.es.length ≤ 700 := by rw [← elen]; exact Nat.le_trans (Nat.le_of_eq rfl) (by obtain ⟨Fq, sq, gq, aq, hq⟩ := H.out.1.x; exact Nat.le_trans hq.sto.txs H.out.1.big)
   obtain ⟨e5, w5, hzw5, hw5, Bw5, bw5⟩ := alloc_of w4 85 [.int .i64 ((s.es.length : Int) + 1), .int .i64 (s.ev : Int), .int .i64 0, .int .i64 0, .int .i64 0, .int .i64 0, .int .i64 0, .int .i64 0, .slice none 0 0, .slice none 0 0]
   have X5 := X4.newb bw5 (e := e5) (b := ⟨s.ev, 0⟩) Bw5 (Nat.le_of_eq hzw5)
   have B15 : Bk w5 g1 52 [.int .i64 op, .int .i64 0, .int .i64 0, .int .i64 0, .slice none 0 0] := X5.bkAt (i := 0) rfl
   obtain ⟨F5, Ft5, hx5⟩ := X5.sch
   have y1 := (hx5.cl1 H.out.2.2.1).2.1
   rw [hbv] at y1
   obtain ⟨d0, d1, d2, d3, d4⟩ := B15.c5
   have t0 := B15.free 0
   have t1 := B15.free 1
   have t2 := B15.free 2
   have t3 := B15.free 3
   have t4 := B15.free 4
   obtain ⟨w6, hw6⟩ : ∃ w6, (w5.setCell ⟨g1, 2, none⟩ (.int .i64 (cl.bgs.length : Int))).setCell ⟨g1, 3, none⟩ (.int .i64 (s.m.last : Int)) = w6 := ⟨_, rfl⟩
   have B16 : Bk w6 g1 52 [.int .i64 op, .int .i64 0, .int .i64 (cl.bgs.length : Int), .int .i64 (s.m.last : Int), .slice none 0 0] := by rw [← hw6]; exact (B15.set 2 _).set 3 _
   have k56 : Kf (fun b => b = g1) w5 w6 := by rw [← hw6]; exact ((Kf.refl (fun b => b = g1) w5).set B15 (by decide) (.inl rfl) 2 _).set (B15.set 2 _) (by decide) (.inl rfl) 3 _
   have X6 := X5.set (i := 0) rfl k56 B16
   obtain ⟨F6, Ft6, hx6⟩ := X6.sch
   have v1 := (hx6.cl1 H.out.2.2.1).2.1
   rw [hbv] at v1
   obtain ⟨g7, w7, hzw7, hw7, Bw7, bw7⟩ := alloc_of w6 82 [.pointer (some ⟨e5, 0, none⟩)]
   have X7 := X6.next bw7
   have HO7 := Lib.hid (show w7.ownsRow 0 82 1 (.slice bA cl.bgs.length bc) cl.bgs.length (cl.bgs.map fun k => bptr ((s.es ++ [e5]).getD k 0)) from by obtain ⟨F7, Ft7, hx7⟩ := X7.sch; have := (hx7.cl j cl H.out.2.2.1).beg; rw [hbv] at this; exact this)
   have HB7 := Lib.hid Bw7
   have HX7 := Lib.hid X7
   clear B1 k34 hr X3 X4 hx4 bw5 Bw5 X5 hx5 B15 X6 hx6 B16 k56 bw7 Bw7 X7
   go_wp2_with (at_builtin; go_must (refine wpList_appM _ rfl _ _ 65 rfl 0 82 xi xz 1 8 Tryz.underlying65 hxi hxz hx5 hx56 hxc (by decide) (.slice bA cl.bgs.length bc) cl.bgs.length (cl.bgs.map fun k => bptr ((s.es ++ [e5]).getD k 0)) (by rfl) (by exact HO7.out) w7.heap.size (some ⟨g7, 0, none⟩) 1 1 [.pointer (some ⟨e5, 0, none⟩)] (by rfl) rfl HB7.out.rd (by intro u hu; simp at hu; rcases hu with rfl <;> rfl) (Nat.le_trans (Nat.add_le_add_right hbl 1) (by decide)) (Nat.le_trans (Nat.mul_le_mul_right 8 (Nat.add_le_add_right hbl 1)) (by decide)) (Nat.zero_le _) ?_))
   intro v8 w8 hO8 hG8 hv8
   obtain ⟨A8, c8, rfl⟩ := own_shape hO8
   obtain ⟨F7, Ft7, hx7⟩ := HX7.out.sch
   have hb8 := own_frz hx7 HO7.out (by decide) hG8
   have z8 : w8.cell? ⟨sb, 2 + j * 4 + 1, none⟩ = some cl.bv := Bk.at' hb8 (sc_at (i := 1) hx7.cl8 H.out.2.2.1 (by decide) rfl)
   have fr8 := hb8.free (2 + j * 4 + 1)
   obtain ⟨w9, hw9⟩ : ∃ w9, w8.setCell ⟨sb, 2 + j * 4 + 1, none⟩ (.slice A8 (cl.bgs.length + 1) c8) = w9 := ⟨_, rfl⟩
   have X9 : ScX w w9 F _ (ScP sb st gd (.slice aA s.es.length ac) (s.cls.set j { cl with bv := .slice A8 (cl.bgs.length + 1) c8, bgs := cl.bgs ++ [s.es.length] }) s.es (s.es ++ [e5]) (s.bg ++ [⟨s.ev, 0⟩]) s.m.begin s.ev s.pos (g + 1)) :=
    HX7.out.step (fun F Ft hp => SchX.begc hp H.out.2.2.1 (k := s.es.length) (by simp) (by rw [last_get]; exact hO8) (by rw [hbv]; exact hG8) (by rw [hbv]; exact hv8) hw9.symm)
   obtain ⟨F9, Ft9, hx9⟩ := X9.sch
   have v34 := hx9.at_all
   obtain ⟨g10, w10, hzw10, hw10, Bw10, bw10⟩ := alloc_of w9 82 [.pointer (some ⟨e5, 0, none⟩)]
   have X10 := X9.next bw10
   have HO10 := Lib.hid (show w10.ownsRow 0 82 1 (.slice aA s.es.length ac) s.es.length (s.es.map bptr) from by obtain ⟨F10, Ft10, hx10⟩ := X10.sch; exact hx10.all)
   have HB10 := Lib.hid Bw10
   have HX10 := Lib.hid X10
   clear hx7 hb8 hO8 hG8 hv8 X9 hx9 Bw10 bw10 X10 y1 v1 y35
   go_wp2_with (at_builtin; go_must (refine wpList_appM _ rfl _ _ 65 rfl 0 82 xi xz 1 8 Tryz.underlying65 hxi hxz hx5 hx56 hxc (by decide) (.slice aA s.es.length ac) s.es.length (s.es.map bptr) (by rfl) (by exact HO10.out) w10.heap.size (some ⟨g10, 0, none⟩) 1 1 [.pointer (some ⟨e5, 0, none⟩)] (by rfl) rfl HB10.out.rd (by intro u hu; simp at hu; rcases hu with rfl <;> rfl) (Nat.le_trans (Nat.add_le_add_right hel 1) (by decide)) (Nat.le_trans (Nat.mul_le_mul_right 8 (Nat.add_le_add_right hel 1)) (by decide)) (Nat.zero_le _) ?_))
   intro v11 w11 hO11 hG11 hv11
   obtain ⟨A11, c11, rfl⟩ := own_shape hO11
   obtain ⟨F10, Ft10, hx10⟩ := HX10.out.sch
   have hb11 := own_frz hx10 HO10.out (by decide) hG11
   have z11 := Bk.at' hb11 (sc_all hx10.cl8)
   have fr11 := hb11.free 34
   obtain ⟨w12, hw12⟩ : ∃ w12, w11.setCell ⟨sb, 34, none⟩ (.slice A11 (s.es.length + 1) c11) = w12 := ⟨_, rfl⟩
   have X12 : ScX w w12 F _ (ScP sb st gd (.slice A11 (s.es.length + 1) c11) (s.cls.set j { cl with bv := .slice A8 (cl.bgs.length + 1) c8, bgs := cl.bgs ++ [s.es.length] }) (s.es ++ [e5]) (s.es ++ [e5]) (s.bg ++ [⟨s.ev, 0⟩]) s.m.begin s.ev s.pos (g + 1)) :=
    HX10.out.step (fun F Ft hp => SchX.alls hp (al' := s.es ++ [e5]) (by rw [List.length_append, List.map_append]; exact hO11) hG11 hv11 hw12.symm)
   have B112 : Bk w12 g1 52 [.int .i64 op, .int .i64 0, .int .i64 (cl.bgs.length : Int), .int .i64 (s.m.last : Int), .slice none 0 0] := X12.bkAt (i := 0) rfl
   have B212 : Bk w12 g2 52 [.int .i64 0, .int .i64 0, .int .i64 0, .int .i64 0, .slice none 0 0] := X12.bkAt (i := 1) rfl
   obtain ⟨x0, x1, x2, x3, x4⟩ := B112.c5
   obtain ⟨r0, r1, r2, r3, r4⟩ := B212.c5
   have p0 := B212.free 0
   have p1 := B212.free 1
   have p2 := B212.free 2
   have p3 := B212.free 3
   have p4 := B212.free 4
   obtain ⟨w13, hw13⟩ : ∃ w13, W5 w12 g2 (.int .i64 op) (.int .i64 0) (.int .i64 (cl.bgs.length : Int)) (.int .i64 (s.m.last : Int)) (.slice none 0 0) = w13 := ⟨_, rfl⟩
   have X13 := X12.set (i := 1) rfl (Below5A B212 (by decide) hw13) (bk_set5 B212 hw13)
   unfold W5 at hw13
   have HE := Lib.hid (And.intro (show Bk w13 g2 52 [.int .i64 op, .int .i64 0, .int .i64 (cl.bgs.length : Int), .int .i64 (s.m.last : Int), .slice none 0 0] from X13.bkAt (i := 1) rfl) (by
    obtain ⟨q1, q2, q3⟩ := begun_fin (bv' := .slice A8 (cl.bgs.length + 1) c8) H.out.1 H.out.2.2.1
    exact ScX.fin (s := { cls := s.cls.set j { cl with bv := .slice A8 (cl.bgs.length + 1) c8, bgs := cl.bgs ++ [s.es.length] }, es := s.es ++ [e5], bg := s.bg ++ [⟨s.ev, 0⟩], m := s.m.begin, ev := s.ev, pos := s.pos }) X13 q1 q2 q3))
   clear hx10 hb11 hO11 hG11 hv11 X12 X13 B112 B212 z8 fr8 v34
   go_wp2_with fail
   refine bodyPost_ret (res_ans rfl _ _ _ _ (by rfl) HE.out.1) rfl ?_
   exact ⟨⟨_, _, _, rfl⟩, _, .inr ⟨e5, _, rfl⟩, HE.out.2⟩
end
section
open Go.RowKit Go.Maps
def coR (s : SS) (asked : Bool) (k : Nat) (b : BG) (t : TX) (s' : SS) (ok : Bool) : Prop :=
 ∃ (r : Int) (m' : MS) (t' : TX), (asked = true ∧ r = 0 ∧ m' = s.m ∨ asked = false ∧ cmR s.m k t r m') ∧ m'.txs[k]? = some t' ∧
  ((ok = false ∧ r = 0 ∧ t'.st = 2 ∧ s' = { s with m := m' }) ∨ (ok = true ∧ 3 ≤ t'.st ∧ s' = { s with m := m', bg := s.bg.set k ⟨b.fr, s.ev⟩ }) ∨ (ok = true ∧ r ≠ 0 ∧ s' = { s with m := m' }))
def coE (ok : Bool) (e : Ending) : Prop := ∃ (op code h t : Int), e = .returned (.tuple #[.agg #[.int .i64 op, .int .i64 code, .int .i64 h, .int .i64 t, .slice none 0 0], .bool ok])
structure CoM (s : SS) (asked : Bool) (k : Nat) (t : TX) (r : Int) (m' : MS) : Prop where
 rel : asked = true ∧ r = 0 ∧ m' = s.m ∨ asked = false ∧ cmR s.m k t r m'
 good : GoodM m'
 ext : Ext s.m m'
 len : m'.txs.length = s.m.txs.length
section
variable {w w' : World} {F : Foot} {L : List LcD} {sb st gd g k : Nat} {alv : Value} {s : SS} {asked : Bool} {b : BG} {t t' : TX} {r : Int} {m' : MS}
theorem co_num (h : SchB w F sb s g) : ∀ c ∈ s.cls, c.na ≤ g + 1 ∧ c.bgs.length ≤ g + 1 := fun c hc => ⟨Nat.le_succ_of_le (h.num c hc).1, Nat.le_succ_of_le (h.num c hc).2⟩
theorem co_wait (X : ScX w w' F L (ScP sb st gd alv s.cls s.es s.es s.bg m' s.ev s.pos (g + 1))) (h : SchB w F sb s g) (hm : CoM s asked k t 0 m') (ht : m'.txs[k]? = some t') (e : t'.st = 2) : ∃ s', coR s asked k b t s' false ∧ SchR w w' F sb s' (g + 1) :=
 ⟨{ s with m := m' }, ⟨0, m', t', hm.rel, ht, .inl ⟨rfl, rfl, e, rfl⟩⟩, ScX.fin (s := { s with m := m' }) X (h.b.ext hm.good hm.ext hm.len) (Nat.le_succ_of_le h.ev) (co_num (s := s) h)⟩
theorem co_told (X : ScX w w' F L (ScP sb st gd alv s.cls s.es s.es (s.bg.set k ⟨b.fr, s.ev⟩) m' s.ev s.pos (g + 1))) (h : SchB w F sb s g) (hm : CoM s asked k t r m') (ht : m'.txs[k]? = some t') (e : 3 ≤ t'.st) (hb : s.bg[k]? = some b) (hlt : ∀ (i : Nat) (b : BG), s.bg[i]? = some b → b.fr < s.ev) : ∃ s', coR s asked k b t s' true ∧ SchR w w' F sb s' (g + 1) :=
 ⟨{ s with m := m', bg := s.bg.set k ⟨b.fr, s.ev⟩ }, ⟨r, m', t', hm.rel, ht, .inr (.inl ⟨rfl, e, rfl⟩)⟩, ScX.fin (s := { s with m := m', bg := s.bg.set k ⟨b.fr, s.ev⟩ }) X ((h.b.ext hm.good hm.ext hm.len).told hb ht e hlt) (Nat.le_succ_of_le h.ev) (co_num (s := s) h)⟩
theorem co_no (X : ScX w w' F L (ScP sb st gd alv s.cls s.es s.es s.bg m' s.ev s.pos (g + 1))) (h : SchB w F sb s g) (hm : CoM s asked k t r m') (ht : m'.txs[k]? = some t') (e : r ≠ 0) : ∃ s', coR s asked k b t s' true ∧ SchR w w' F sb s' (g + 1) :=
 ⟨{ s with m := m' }, ⟨r, m', t', hm.rel, ht, .inr (.inr ⟨rfl, e, rfl⟩)⟩, ScX.fin (s := { s with m := m' }) X (h.b.ext hm.good hm.ext hm.len) (Nat.le_succ_of_le h.ev) (co_num (s := s) h)⟩
theorem coM_asked (h : SchB w F sb s g) : CoM s true k t 0 s.m := ⟨.inl ⟨rfl, rfl, rfl⟩, h.b.gm, Ext.refl _, rfl⟩
theorem coM_cm (h : SchB w F sb s g) (ht : s.m.txs[k]? = some t) (hc : cmR s.m k t r m') : CoM s false k t r m' := by
 obtain ⟨Ft, st, gd, alv, hx⟩ := h.x
 obtain ⟨g1, g2, g3, _⟩ := cm_good h.b.gm ht (by have := hx.sto.giv; have := h.big; omega) hc
 exact ⟨.inr ⟨rfl, hc⟩, g1, g2, g3⟩
theorem coM_st (ht : s.m.txs[k]? = some t) (hc : cmR s.m k t r m') : ∃ t', m'.txs[k]? = some t' ∧ ((r = 0 ∧ (t'.st = 2 ∨ t'.st = 3)) ∨ (r ≠ 0 ∧ (t'.st = t.st ∨ t'.st = 4 ∧ t.st = 1))) := by
 have hl := get_lt ht
 have set_at : ∀ u : TX, (s.m.txs.set k u)[k]? = some u := fun u => by rw [List.getElem?_set, if_pos rfl, if_pos hl]
 rcases hc with ⟨_, rfl, rfl⟩ | ⟨h1, ⟨_, rfl, rfl⟩ | ⟨_, ⟨h2, _, rfl⟩ | ⟨rfl, rfl⟩⟩⟩
 · exact ⟨t, ht, .inr ⟨by decide, .inl rfl⟩⟩
 · exact ⟨_, set_at _, .inl ⟨rfl, .inr rfl⟩⟩
 · exact ⟨_, set_at _, .inr ⟨h2, .inr ⟨rfl, h1⟩⟩⟩
 · exact ⟨_, set_at _, .inl ⟨rfl, .inl rfl⟩⟩
end
theorem scCommit {w : World} {F : Foot} {sb g : Nat} {s : SS} (h : SchB w F sb s g) (hg : g + 1 ≤ 700) {j : Nat} {cl : CLD} (hj : s.cls[j]? = some cl) {k e0 : Nat} {b : BG} {t : TX} (hk : s.es[k]? = some e0) (hb : s.bg[k]? = some b) (ht : s.m.txs[k]? = some t) (hlt : ∀ (i : Nat) (b : BG), s.bg[i]? = some b → b.fr < s.ev) (hask : cl.asked = true → t.st ≠ 1) (op hh : Int) :
  Calls Tryz.prog 114 #[.pointer (some ⟨sb, 0, none⟩), .pointer (some ⟨sb, 2 + j * 4, none⟩), .pointer (some ⟨e0, 0, none⟩), .agg #[.int .i64 op, .int .i64 0, .int .i64 hh, .int .i64 0, .slice none 0 0]] w fun e w' => ∃ ok, coE ok e ∧ ∃ s', coR s cl.asked k b t s' ok ∧ SchR w w' F sb s' (g + 1) := by
 obtain ⟨Ft, st, gd, alv, hx⟩ := h.x
 obtain ⟨g1, w1, hzw1, hw1, Bw1, bw1⟩ := alloc_of w 52 [.int .i64 op, .int .i64 0, .int .i64 hh, .int .i64 0, .slice none 0 0]
 obtain ⟨g2, w2, hzw2, hw2, Bw2, bw2⟩ := alloc_of w1 52 [.int .i64 0, .int .i64 0, .int .i64 0, .int .i64 0, .slice none 0 0]
 have X2 := ((ScX.of hx).push bw1 Bw1 (Nat.le_of_eq hzw1)).push bw2 Bw2 (Nat.le_of_eq hzw2)
 obtain ⟨F2, Ft2, hx2⟩ := X2.sch
 have c3 := (hx2.cl1 hj).2.2.2
 have H := Lib.hid (And.intro h (And.intro hg (And.intro hj (And.intro hk (And.intro hb (And.intro ht (And.intro hlt hask)))))))
 have hrng := h.b.gm.rng k t ht
 clear bw1 Bw1 bw2 Bw2 h hg hj hx hk hb ht hlt hx2
 cases hca : cl.asked with
 | true =>
   rw [hca] at c3
   have XU := X2.up H.out.2.1
   have hla : t.st = 2 ∨ t.st = 3 ∨ t.st = 4 := by have := hask hca; omega
   clear X2 hrng hask
   go_enter Tryz.func114, Tryz.ntmps114
   go_wp2_with fail
   obtain ⟨Ftl, Ftt, hxt⟩ := XU.sch
   obtain ⟨Fst, gxt, mbt, gst, numt, countt, nst, hst⟩ := hxt.sto
   have HS9 := Lib.hid hst
   have HT9 := Lib.hid H.out.2.2.2.2.2.1
   have HX9 := Lib.hid XU
   have hbt := hxt.beg k e0 b H.out.2.2.2.1 H.out.2.2.2.2.1
   have KT := Lib.hid (fun (w' : World) (hS : Below w2.heap.size w2 w') => And.intro ((hxt.next hS).at_st) (show w'.cell? ⟨e0, 0, none⟩ = some (.int .i64 ((k : Int) + 1)) from (hbt.next hS hbt.lt).cell (i := 0) (by simp [bcells])))
   clear hxt hst hbt
   have Kq := KT
   refine wp_region_held_drew (S := fun w' => Below w2.heap.size w2 w') (by kernel_rfl) (bdrew (Below.refl _ _)) (fun hHeld => ?_)
   refine kF 0 ?_; refine kF 1 ?_; refine kF 2 ?_; refine kF 3 ?_; refine kF 4 ?_; refine kF 5 ?_; refine kF 6 ?_; refine kF 7 ?_
   refine rF 8 (fun K hK => ?_)
   go_simp
   refine (sResult (HS9.out.next hHeld) HT9.out).mono ?_
   rintro e w9 ⟨⟨code9, rfl⟩, hb'⟩
   have hS9 : Below w2.heap.size w2 w9 := hHeld.trans (hb'.mono hHeld.size)
   clear hb'
   go_simp
   refine hK.out _ _ (hS9) (fun hHeld2 => ?_)
   clear hK K hHeld
   have hHeld := hHeld2
   clear hHeld2
   try simp only [Act.put, List.setIfInBounds_toArray, List.set_cons_zero, List.set_cons_succ]
   refine kF 9 ?_; refine kF 10 ?_; refine kF 11 ?_; refine kF 12 ?_; refine kF 13 ?_; refine kF 14 ?_; refine kF 15 ?_
   refine wpAnyH_done (by kernel_rfl) ?_ _
   clear Kq
   have X9 := HX9.out.next hS9
   have HS99 := Lib.hid hS9
   clear hS9
   obtain ⟨F9, Ft9, hx9⟩ := X9.sch
   have B19 : Bk w9 g1 52 [.int .i64 op, .int .i64 0, .int .i64 hh, .int .i64 0, .slice none 0 0] := X9.bkAt (i := 0) rfl
   have B29 : Bk w9 g2 52 [.int .i64 0, .int .i64 0, .int .i64 0, .int .i64 0, .slice none 0 0] := X9.bkAt (i := 1) rfl
   obtain ⟨x0, x1, x2, x3, x4⟩ := B19.c5
   have y0 := B19.free 0
   have y1 := B19.free 1
   have y2 := B19.free 2
   have y3 := B19.free 3
   have y4 := B19.free 4
   obtain ⟨r0, r1, r2, r3, r4⟩ := B29.c5
   have p0 := B29.free 0
   have p1 := B29.free 1
   have p2 := B29.free 2
   have p3 := B29.free 3
   have p4 := B29.free 4
   have v35 := hx9.at_ev
   have hb9 := hx9.beg k e0 b H.out.2.2.2.1 H.out.2.2.2.2.1
   have z2 : w9.cell? ⟨e0, 2, none⟩ = some (.int .i64 (b.til : Int)) := hb9.cell (i := 2) (by simp [bcells])
   have zf := hb9.free 2
   have hne1 : e0 ≠ g1 := bk_ne hb9 B19 (by decide)
   rcases (show t.st = 2 ∨ t.st = 3 ∨ t.st = 4 from hla) with est | est | est
   · have es' : ((t.st : Int)) = 2 := by rw [est]; rfl
     obtain ⟨w10, hw10⟩ : ∃ w10, W5 w9 g2 (.int .i64 0) (.int .i64 0) (.int .i64 0) (.int .i64 0) (.slice none 0 0) = w10 := ⟨_, rfl⟩
     have X10 := X9.set (i := 1) rfl (Below5A B29 (by decide) hw10) (bk_set5 B29 hw10)
     unfold W5 at hw10
     have HE := Lib.hid (And.intro (show Bk w10 g2 52 [.int .i64 0, .int .i64 0, .int .i64 0, .int .i64 0, .slice none 0 0] from X10.bkAt (i := 1) rfl) (co_wait (b := b) (t := t) X10 H.out.1 (coM_asked H.out.1) HT9.out est))
     clear X9 X10 hx9 hb9 B19 B29 hne1
     go_wp2_with fail
     refine bodyPost_ret (res_ans2 rfl _ _ _ _ (by rfl) HE.out.1) rfl ?_
     exact ⟨_, ⟨_, _, _, _, rfl⟩, HE.out.2⟩
   · have es' : ((t.st : Int)) = 3 := by rw [est]; rfl
     obtain ⟨w10, hw10⟩ : ∃ w10, w9.setCell ⟨g1, 3, none⟩ (.int .i64 (t.time : Int)) = w10 := ⟨_, rfl⟩
     have B110 : Bk w10 g1 52 [.int .i64 op, .int .i64 0, .int .i64 hh, .int .i64 (t.time : Int), .slice none 0 0] := by rw [← hw10]; exact B19.set 3 _
     have X10 := X9.set (i := 0) rfl (by rw [← hw10]; exact (Kf.refl (fun b => b = g1) w9).set B19 (by decide) (.inl rfl) 3 _) B110
     obtain ⟨F10, Ft10, hx10⟩ := X10.sch
     have v36 := hx10.at_ev
     have hb10 := hx10.beg k e0 b H.out.2.2.2.1 H.out.2.2.2.2.1
     have z3 : w10.cell? ⟨e0, 2, none⟩ = some (.int .i64 (b.til : Int)) := hb10.cell (i := 2) (by simp [bcells])
     have zf3 := hb10.free 2
     obtain ⟨w11, hw11⟩ : ∃ w11, w10.setCell ⟨e0, 2, none⟩ (.int .i64 (s.ev : Int)) = w11 := ⟨_, rfl⟩
     have X11 := X10.told H.out.2.2.2.1 H.out.2.2.2.2.1 hw11.symm
     have B111 : Bk w11 g1 52 [.int .i64 op, .int .i64 0, .int .i64 hh, .int .i64 (t.time : Int), .slice none 0 0] := X11.bkAt (i := 0) rfl
     have B211 : Bk w11 g2 52 [.int .i64 0, .int .i64 0, .int .i64 0, .int .i64 0, .slice none 0 0] := X11.bkAt (i := 1) rfl
     obtain ⟨d0, d1, d2, d3, d4⟩ := B111.c5
     obtain ⟨t0, t1, t2, t3, t4⟩ := B211.c5
     have u0 := B211.free 0
     have u1 := B211.free 1
     have u2 := B211.free 2
     have u3 := B211.free 3
     have u4 := B211.free 4
     obtain ⟨w12, hw12⟩ : ∃ w12, W5 w11 g2 (.int .i64 op) (.int .i64 0) (.int .i64 hh) (.int .i64 (t.time : Int)) (.slice none 0 0) = w12 := ⟨_, rfl⟩
     have X12 := X11.set (i := 1) rfl (Below5A B211 (by decide) hw12) (bk_set5 B211 hw12)
     unfold W5 at hw12
     have HE := Lib.hid (And.intro (show Bk w12 g2 52 [.int .i64 op, .int .i64 0, .int .i64 hh, .int .i64 (t.time : Int), .slice none 0 0] from X12.bkAt (i := 1) rfl) (co_told (t := t) X12 H.out.1 (coM_asked H.out.1) HT9.out (by rw [est]; decide) H.out.2.2.2.2.1 H.out.2.2.2.2.2.2.1))
     clear X9 X10 hx9 hb9 B19 B29 hne1 X11 X12 hx10 hb10 B110 B111 B211 r0 r1 r2 r3 r4 p0 p1 p2 p3 p4
     go_wp2_with fail
     refine bodyPost_ret (res_ans2 rfl _ _ _ _ (by rfl) HE.out.1) rfl ?_
     exact ⟨_, ⟨_, _, _, _, rfl⟩, HE.out.2⟩
   · have es' : ((t.st : Int)) = 4 := by rw [est]; rfl
     obtain ⟨w10, hw10⟩ : ∃ w10, w9.setCell ⟨g1, 1, none⟩ (.int .i64 code9) = w10 := ⟨_, rfl⟩
     have B110 : Bk w10 g1 52 [.int .i64 op, .int .i64 code9, .int .i64 hh, .int .i64 0, .slice none 0 0] := by rw [← hw10]; exact B19.set 1 _
     have X10 := X9.set (i := 0) rfl (by rw [← hw10]; exact (Kf.refl (fun b => b = g1) w9).set B19 (by decide) (.inl rfl) 1 _) B110
     obtain ⟨F10, Ft10, hx10⟩ := X10.sch
     have v36 := hx10.at_ev
     have hb10 := hx10.beg k e0 b H.out.2.2.2.1 H.out.2.2.2.2.1
     have z3 : w10.cell? ⟨e0, 2, none⟩ = some (.int .i64 (b.til : Int)) := hb10.cell (i := 2) (by simp [bcells])
     have zf3 := hb10.free 2
     obtain ⟨w11, hw11⟩ : ∃ w11, w10.setCell ⟨e0, 2, none⟩ (.int .i64 (s.ev : Int)) = w11 := ⟨_, rfl⟩
     have X11 := X10.told H.out.2.2.2.1 H.out.2.2.2.2.1 hw11.symm
     have B111 : Bk w11 g1 52 [.int .i64 op, .int .i64 code9, .int .i64 hh, .int .i64 0, .slice none 0 0] := X11.bkAt (i := 0) rfl
     have B211 : Bk w11 g2 52 [.int .i64 0, .int .i64 0, .int .i64 0, .int .i64 0, .slice none 0 0] := X11.bkAt (i := 1) rfl
     obtain ⟨d0, d1, d2, d3, d4⟩ := B111.c5
     obtain ⟨t0, t1, t2, t3, t4⟩ := B211.c5
     have u0 := B211.free 0
     have u1 := B211.free 1
     have u2 := B211.free 2
     have u3 := B211.free 3
     have u4 := B211.free 4
     obtain ⟨w12, hw12⟩ : ∃ w12, W5 w11 g2 (.int .i64 op) (.int .i64 code9) (.int .i64 hh) (.int .i64 0) (.slice none 0 0) = w12 := ⟨_, rfl⟩
     have X12 := X11.set (i := 1) rfl (Below5A B211 (by decide) hw12) (bk_set5 B211 hw12)
     unfold W5 at hw12
     have HE := Lib.hid (And.intro (show Bk w12 g2 52 [.int .i64 op, .int .i64 code9, .int .i64 hh, .int .i64 0, .slice none 0 0] from X12.bkAt (i := 1) rfl) (co_told (t := t) X12 H.out.1 (coM_asked H.out.1) HT9.out (by rw [est]; decide) H.out.2.2.2.2.1 H.out.2.2.2.2.2.2.1))
     clear X9 X10 hx9 hb9 B19 B29 hne1 X11 X12 hx10 hb10 B110 B111 B211 r0 r1 r2 r3 r4 p0 p1 p2 p3 p4
     go_wp2_with fail
     refine bodyPost_ret (res_ans2 rfl _ _ _ _ (by rfl) HE.out.1) rfl ?_
     exact ⟨_, ⟨_, _, _, _, rfl⟩, HE.out.2⟩
 | false =>
   rw [hca] at c3
   clear hrng hask
   go_enter Tryz.func114, Tryz.ntmps114
   go_wp2_with fail
   obtain ⟨F1, Ft1, hx1, hq1⟩ := X2.at_
   obtain ⟨Fs1, gx1, mb1, gs1, num1, count1, ns1, hs1⟩ := hx1.sto
   have HS1 := Lib.hid hs1
   have HT1 := Lib.hid H.out.2.2.2.2.2.1
   have HX1 := Lib.hid (And.intro X2 (And.intro hx1 hq1))
   have hb1 := hx1.beg k e0 b H.out.2.2.2.1 H.out.2.2.2.2.1
   have KT1 := Lib.hid (fun (w' : World) (hS : Below w2.heap.size w2 w') => And.intro ((hx1.next hS).at_st) (show w'.cell? ⟨e0, 0, none⟩ = some (.int .i64 ((k : Int) + 1)) from (hb1.next hS hb1.lt).cell (i := 0) (by simp [bcells])))
   clear hx1 hs1 hb1 hq1
   have Kq := KT1
   refine wp_region_held_drew (S := fun w' => Below w2.heap.size w2 w') (by kernel_rfl) (bdrew (Below.refl _ _)) (fun hHeld => ?_)
   refine kF 0 ?_; refine kF 1 ?_; refine kF 2 ?_; refine kF 3 ?_; refine kF 4 ?_; refine kF 5 ?_; refine kF 6 ?_; refine kF 7 ?_
   refine rF 8 (fun K hK => ?_)
   go_simp
   refine (sResult (HS1.out.next hHeld) HT1.out).mono ?_
   rintro e w3 ⟨⟨code1, rfl⟩, hb'⟩
   have hS1 : Below w2.heap.size w2 w3 := hHeld.trans (hb'.mono hHeld.size)
   clear hb'
   go_simp
   refine hK.out _ _ (hS1) (fun hHeld2 => ?_)
   clear hK K hHeld
   have hHeld := hHeld2
   clear hHeld2
   try simp only [Act.put, List.setIfInBounds_toArray, List.set_cons_zero, List.set_cons_succ]
   refine kF 9 ?_; refine kF 10 ?_; refine kF 11 ?_; refine kF 12 ?_; refine kF 13 ?_; refine kF 14 ?_; refine kF 15 ?_
   refine wpAnyH_done (by kernel_rfl) ?_ _
   clear Kq
   have X3 := HX1.out.1.next hS1
   clear hS1 c3
   go_wp2_with fail
   obtain ⟨F3, Ft3, hx3, hq3⟩ := X3.at_
   obtain ⟨Fs2, gx2, mb2, gs2, num2, count2, ns2, hs2⟩ := hx3.sto
   have HS2 := Lib.hid hs2
   have HT2 := Lib.hid H.out.2.2.2.2.2.1
   have HX3 := Lib.hid X3
   have H2 := Lib.hid (fun (W w5 : World) (hS : Below w3.heap.size w3 W) (r : Int) (m' : MS) (hc : cmR s.m k t r m') (hr : StoR W w5 (Ft3 1) st s.pos m' (g + 1)) => hq3 w5 s.pos m' (StoR.pre hS hr) (coM_cm H.out.1 H.out.2.2.2.2.2.1 hc).ext)
   have hb2 := hx3.beg k e0 b H.out.2.2.2.1 H.out.2.2.2.2.1
   have KT2 := Lib.hid (fun (w' : World) (hS : Below w3.heap.size w3 w') => And.intro ((hx3.next hS).at_st) (show w'.cell? ⟨e0, 0, none⟩ = some (.int .i64 ((k : Int) + 1)) from (hb2.next hS hb2.lt).cell (i := 0) (by simp [bcells])))
   clear hx3 hq3 hs2 X3 X2
   have Kq := KT2
   refine anyM_start (fun w' => Below w3.heap.size w3 w') [8, 10] (by kernel_rfl) (bdrew (Below.refl _ _)) (fun hHeld => ?_)
   refine kR 0 ?_; refine kR 1 ?_; refine kR 2 ?_
   refine kM 3 ?_
   refine kR 4 ?_; refine kR 5 ?_; refine kR 6 ?_
   refine kM 7 ?_
   refine rM 8 (fun K hK => ?_)
   go_simp
   refine (sCommit (HS2.out.next hHeld) H.out.2.1 HT2.out).mono ?_
   rintro e w5 ⟨r, rfl, m', hcm, hr⟩
   have HC := Lib.hid (And.intro hcm (H2.out _ w5 hHeld r m' hcm hr))
   clear hcm hr
   have hB5 : Bk w5 g1 52 [.int .i64 op, .int .i64 0, .int .i64 hh, .int .i64 0, .slice none 0 0] := HC.out.2.bkAt (i := 0) rfl
   have x1 := hB5.cell (i := 1) (by simp)
   simp only [List.getElem_cons_zero, List.getElem_cons_succ] at x1
   have xf := hB5.free 1
   obtain ⟨w6, hw6⟩ : ∃ w6, w5.setCell ⟨g1, 1, none⟩ (.int .i64 r) = w6 := ⟨_, rfl⟩
   have H6 := Lib.hid (HC.out.2.set (i := 0) rfl (by rw [← hw6]; exact (Kf.refl (fun b => b = g1) w5).set hB5 (by decide) (.inl rfl) 1 _) (show Bk w6 g1 52 [.int .i64 op, .int .i64 r, .int .i64 hh, .int .i64 0, .slice none 0 0] by rw [← hw6]; exact hB5.set 1 _))
   clear hB5
   go_simp
   refine hK.out _ _ (fun h => absurd (by decide) h) ?_
   clear hK K
   try simp only [Act.put, List.setIfInBounds_toArray, List.set_cons_zero, List.set_cons_succ]
   refine kR 9 ?_
   refine rM 10 (fun K hK => ?_)
   go_simp
   try rw [hw6]
   refine hK.out _ _ (fun h => absurd (by decide) h) ?_
   clear hK K
   try simp only [Act.put, List.setIfInBounds_toArray, List.set_cons_zero, List.set_cons_succ]
   refine anyM_done (by kernel_rfl) ?_ _
   clear Kq
   obtain ⟨t', ht', hcase⟩ := coM_st H.out.2.2.2.2.2.1 HC.out.1
   have hm := Lib.hid (coM_cm H.out.1 H.out.2.2.2.2.2.1 HC.out.1)
   have X6 := H6.out
   have B16 : Bk w6 g1 52 [.int .i64 op, .int .i64 r, .int .i64 hh, .int .i64 0, .slice none 0 0] := X6.bkAt (i := 0) rfl
   have y1 := B16.cell (i := 1) (by simp)
   simp only [List.getElem_cons_zero, List.getElem_cons_succ] at y1
   clear B16 x1 xf
   rcases hcase with ⟨rfl, hs23⟩ | ⟨hr0, hst⟩
   · have hla : t'.st = 2 ∨ t'.st = 3 ∨ t'.st = 4 := hs23.imp id .inl
     have HT' := Lib.hid ht'
     clear hs23 ht'
     go_wp2_with fail
     obtain ⟨Ftl, Ftt, hxt⟩ := X6.sch
     obtain ⟨Fst, gxt, mbt, gst, numt, countt, nst, hst⟩ := hxt.sto
     have HS9 := Lib.hid hst
     have HT9 := Lib.hid HT'.out
     have HX9 := Lib.hid X6
     have hbt := hxt.beg k e0 b H.out.2.2.2.1 H.out.2.2.2.2.1
     have KT := Lib.hid (fun (w' : World) (hS : Below w6.heap.size w6 w') => And.intro ((hxt.next hS).at_st) (show w'.cell? ⟨e0, 0, none⟩ = some (.int .i64 ((k : Int) + 1)) from (hbt.next hS hbt.lt).cell (i := 0) (by simp [bcells])))
     clear hxt hst hbt
     have Kq := KT
     refine wp_region_held_drew (S := fun w' => Below w6.heap.size w6 w') (by kernel_rfl) (bdrew (Below.refl _ _)) (fun hHeld => ?_)
     refine kF 0 ?_; refine kF 1 ?_; refine kF 2 ?_; refine kF 3 ?_; refine kF 4 ?_; refine kF 5 ?_; refine kF 6 ?_; refine kF 7 ?_
     refine rF 8 (fun K hK => ?_)
     go_simp
     refine (sResult (HS9.out.next hHeld) HT9.out).mono ?_
     rintro e w9 ⟨⟨code9, rfl⟩, hb'⟩
     have hS9 : Below w6.heap.size w6 w9 := hHeld.trans (hb'.mono hHeld.size)
     clear hb'
     go_simp
     refine hK.out _ _ (hS9) (fun hHeld2 => ?_)
     clear hK K hHeld
     have hHeld := hHeld2
     clear hHeld2
     try simp only [Act.put, List.setIfInBounds_toArray, List.set_cons_zero, List.set_cons_succ]
     refine kF 9 ?_; refine kF 10 ?_; refine kF 11 ?_; refine kF 12 ?_; refine kF 13 ?_; refine kF 14 ?_; refine kF 15 ?_
     refine wpAnyH_done (by kernel_rfl) ?_ _
     clear Kq
     have X9 := HX9.out.next hS9
     have HS99 := Lib.hid hS9
     clear hS9
     obtain ⟨F9, Ft9, hx9⟩ := X9.sch
     have B19 : Bk w9 g1 52 [.int .i64 op, .int .i64 0, .int .i64 hh, .int .i64 0, .slice none 0 0] := X9.bkAt (i := 0) rfl
     have B29 : Bk w9 g2 52 [.int .i64 0, .int .i64 0, .int .i64 0, .int .i64 0, .slice none 0 0] := X9.bkAt (i := 1) rfl
     obtain ⟨x0, x1, x2, x3, x4⟩ := B19.c5
     have y0 := B19.free 0
     have y1 := B19.free 1
     have y2 := B19.free 2
     have y3 := B19.free 3
     have y4 := B19.free 4
     obtain ⟨r0, r1, r2, r3, r4⟩ := B29.c5
     have p0 := B29.free 0
     have p1 := B29.free 1
     have p2 := B29.free 2
     have p3 := B29.free 3
     have p4 := B29.free 4
     have v35 := hx9.at_ev
     have hb9 := hx9.beg k e0 b H.out.2.2.2.1 H.out.2.2.2.2.1
     have z2 : w9.cell? ⟨e0, 2, none⟩ = some (.int .i64 (b.til : Int)) := hb9.cell (i := 2) (by simp [bcells])
     have zf := hb9.free 2
     have hne1 : e0 ≠ g1 := bk_ne hb9 B19 (by decide)
     rcases (show t'.st = 2 ∨ t'.st = 3 ∨ t'.st = 4 from hla) with est | est | est
     · have es' : ((t'.st : Int)) = 2 := by rw [est]; rfl
       obtain ⟨w10, hw10⟩ : ∃ w10, W5 w9 g2 (.int .i64 0) (.int .i64 0) (.int .i64 0) (.int .i64 0) (.slice none 0 0) = w10 := ⟨_, rfl⟩
       have X10 := X9.set (i := 1) rfl (Below5A B29 (by decide) hw10) (bk_set5 B29 hw10)
       unfold W5 at hw10
       have HE := Lib.hid (And.intro (show Bk w10 g2 52 [.int .i64 0, .int .i64 0, .int .i64 0, .int .i64 0, .slice none 0 0] from X10.bkAt (i := 1) rfl) (co_wait (b := b) (t := t) X10 H.out.1 hm.out HT9.out est))
       clear X9 X10 hx9 hb9 B19 B29 hne1
       go_wp2_with fail
       refine bodyPost_ret (res_ans2 rfl _ _ _ _ (by rfl) HE.out.1) rfl ?_
       exact ⟨_, ⟨_, _, _, _, rfl⟩, HE.out.2⟩
     · have es' : ((t'.st : Int)) = 3 := by rw [est]; rfl
       obtain ⟨w10, hw10⟩ : ∃ w10, w9.setCell ⟨g1, 3, none⟩ (.int .i64 (t'.time : Int)) = w10 := ⟨_, rfl⟩
       have B110 : Bk w10 g1 52 [.int .i64 op, .int .i64 0, .int .i64 hh, .int .i64 (t'.time : Int), .slice none 0 0] := by rw [← hw10]; exact B19.set 3 _
       have X10 := X9.set (i := 0) rfl (by rw [← hw10]; exact (Kf.refl (fun b => b = g1) w9).set B19 (by decide) (.inl rfl) 3 _) B110
       obtain ⟨F10, Ft10, hx10⟩ := X10.sch
       have v36 := hx10.at_ev
       have hb10 := hx10.beg k e0 b H.out.2.2.2.1 H.out.2.2.2.2.1
       have z3 : w10.cell? ⟨e0, 2, none⟩ = some (.int .i64 (b.til : Int)) := hb10.cell (i := 2) (by simp [bcells])
       have zf3 := hb10.free 2
       obtain ⟨w11, hw11⟩ : ∃ w11, w10.setCell ⟨e0, 2, none⟩ (.int .i64 (s.ev : Int)) = w11 := ⟨_, rfl⟩
       have X11 := X10.told H.out.2.2.2.1 H.out.2.2.2.2.1 hw11.symm
       have B111 : Bk w11 g1 52 [.int .i64 op, .int .i64 0, .int .i64 hh, .int .i64 (t'.time : Int), .slice none 0 0] := X11.bkAt (i := 0) rfl
       have B211 : Bk w11 g2 52 [.int .i64 0, .int .i64 0, .int .i64 0, .int .i64 0, .slice none 0 0] := X11.bkAt (i := 1) rfl
       obtain ⟨d0, d1, d2, d3, d4⟩ := B111.c5
       obtain ⟨t0, t1, t2, t3, t4⟩ := B211.c5
       have u0 := B211.free 0
       have u1 := B211.free 1
       have u2 := B211.free 2
       have u3 := B211.free 3
       have u4 := B211.free 4
       obtain ⟨w12, hw12⟩ : ∃ w12, W5 w11 g2 (.int .i64 op) (.int .i64 0) (.int .i64 hh) (.int .i64 (t'.time : Int)) (.slice none 0 0) = w12 := ⟨_, rfl⟩
       have X12 := X11.set (i := 1) rfl (Below5A B211 (by decide) hw12) (bk_set5 B211 hw12)
       unfold W5 at hw12
       have HE := Lib.hid (And.intro (show Bk w12 g2 52 [.int .i64 op, .int .i64 0, .int .i64 hh, .int .i64 (t'.time : Int), .slice none 0 0] from X12.bkAt (i := 1) rfl) (co_told (t := t) X12 H.out.1 hm.out HT9.out (by rw [est]; decide) H.out.2.2.2.2.1 H.out.2.2.2.2.2.2.1))
       clear X9 X10 hx9 hb9 B19 B29 hne1 X11 X12 hx10 hb10 B110 B111 B211 r0 r1 r2 r3 r4 p0 p1 p2 p3 p4
       go_wp2_with fail
       refine bodyPost_ret (res_ans2 rfl _ _ _ _ (by rfl) HE.out.1) rfl ?_
       exact ⟨_, ⟨_, _, _, _, rfl⟩, HE.out.2⟩
     · have es' : ((t'.st : Int)) = 4 := by rw [est]; rfl
       obtain ⟨w10, hw10⟩ : ∃ w10, w9.setCell ⟨g1, 1, none⟩ (.int .i64 code9) = w10 := ⟨_, rfl⟩
       have B110 : Bk w10 g1 52 [.int .i64 op, .int .i64 code9, .int .i64 hh, .int .i64 0, .slice none 0 0] := by rw [← hw10]; exact B19.set 1 _
       have X10 := X9.set (i := 0) rfl (by rw [← hw10]; exact (Kf.refl (fun b => b = g1) w9).set B19 (by decide) (.inl rfl) 1 _) B110
       obtain ⟨F10, Ft10, hx10⟩ := X10.sch
       have v36 := hx10.at_ev
       have hb10 := hx10.beg k e0 b H.out.2.2.2.1 H.out.2.2.2.2.1
       have z3 : w10.cell? ⟨e0, 2, none⟩ = some (.int .i64 (b.til : Int)) := hb10.cell (i := 2) (by simp [bcells])
       have zf3 := hb10.free 2
       obtain ⟨w11, hw11⟩ : ∃ w11, w10.setCell ⟨e0, 2, none⟩ (.int .i64 (s.ev : Int)) = w11 := ⟨_, rfl⟩
       have X11 := X10.told H.out.2.2.2.1 H.out.2.2.2.2.1 hw11.symm
       have B111 : Bk w11 g1 52 [.int .i64 op, .int .i64 code9, .int .i64 hh, .int .i64 0, .slice none 0 0] := X11.bkAt (i := 0) rfl
       have B211 : Bk w11 g2 52 [.int .i64 0, .int .i64 0, .int .i64 0, .int .i64 0, .slice none 0 0] := X11.bkAt (i := 1) rfl
       obtain ⟨d0, d1, d2, d3, d4⟩ := B111.c5
       obtain ⟨t0, t1, t2, t3, t4⟩ := B211.c5
       have u0 := B211.free 0
       have u1 := B211.free 1
       have u2 := B211.free 2
       have u3 := B211.free 3
       have u4 := B211.free 4
       obtain ⟨w12, hw12⟩ : ∃ w12, W5 w11 g2 (.int .i64 op) (.int .i64 code9) (.int .i64 hh) (.int .i64 0) (.slice none 0 0) = w12 := ⟨_, rfl⟩
       have X12 := X11.set (i := 1) rfl (Below5A B211 (by decide) hw12) (bk_set5 B211 hw12)
       unfold W5 at hw12
       have HE := Lib.hid (And.intro (show Bk w12 g2 52 [.int .i64 op, .int .i64 code9, .int .i64 hh, .int .i64 0, .slice none 0 0] from X12.bkAt (i := 1) rfl) (co_told (t := t) X12 H.out.1 hm.out HT9.out (by rw [est]; decide) H.out.2.2.2.2.1 H.out.2.2.2.2.2.2.1))
       clear X9 X10 hx9 hb9 B19 B29 hne1 X11 X12 hx10 hb10 B110 B111 B211 r0 r1 r2 r3 r4 p0 p1 p2 p3 p4
       go_wp2_with fail
       refine bodyPost_ret (res_ans2 rfl _ _ _ _ (by rfl) HE.out.1) rfl ?_
       exact ⟨_, ⟨_, _, _, _, rfl⟩, HE.out.2⟩
   · have HT' := Lib.hid ht'
     clear ht'
     go_wp2_with fail
     obtain ⟨F5, Ft5, hx5, hq5⟩ := X6.at_
     obtain ⟨Fs5, gx5, mb5, gs5, num5, count5, ns5, hs5⟩ := hx5.sto
     have HS5 := Lib.hid hs5
     have HT5 := Lib.hid HT'.out
     have HX5 := Lib.hid (And.intro X6 (And.intro hx5 hq5))
     have hb5 := hx5.beg k e0 b H.out.2.2.2.1 H.out.2.2.2.2.1
     have KT5 := Lib.hid (fun (w' : World) (hS : Below w6.heap.size w6 w') => And.intro ((hx5.next hS).at_st) (show w'.cell? ⟨e0, 0, none⟩ = some (.int .i64 ((k : Int) + 1)) from (hb5.next hS hb5.lt).cell (i := 0) (by simp [bcells])))
     clear hx5 hs5 hb5 hq5
     have Kq := KT5
     refine wp_region_held_drew (S := fun w' => Below w6.heap.size w6 w') (by kernel_rfl) (bdrew (Below.refl _ _)) (fun hHeld => ?_)
     refine kF 0 ?_; refine kF 1 ?_; refine kF 2 ?_; refine kF 3 ?_; refine kF 4 ?_; refine kF 5 ?_; refine kF 6 ?_; refine kF 7 ?_
     refine rF 8 (fun K hK => ?_)
     go_simp
     refine (sResult (HS5.out.next hHeld) HT5.out).mono ?_
     rintro e w7 ⟨⟨code5, rfl⟩, hb'⟩
     have hS5 : Below w6.heap.size w6 w7 := hHeld.trans (hb'.mono hHeld.size)
     clear hb'
     go_simp
     refine hK.out _ _ (hS5) (fun hHeld2 => ?_)
     clear hK K hHeld
     have hHeld := hHeld2
     clear hHeld2
     try simp only [Act.put, List.setIfInBounds_toArray, List.set_cons_zero, List.set_cons_succ]
     refine kF 9 ?_; refine kF 10 ?_; refine kF 11 ?_; refine kF 12 ?_; refine kF 13 ?_; refine kF 14 ?_; refine kF 15 ?_
     refine wpAnyH_done (by kernel_rfl) ?_ _
     clear Kq
     have X7 := HX5.out.1.next hS5
     clear hS5 y1
     rcases hst with est | ⟨est4, est1⟩
     · have e1 : (t'.st : Int) = (t.st : Int) := by rw [est]
       have B1 : Bk w7 g1 52 [.int .i64 op, .int .i64 r, .int .i64 hh, .int .i64 0, .slice none 0 0] := X7.bkAt (i := 0) rfl
       have B2 : Bk w7 g2 52 [.int .i64 0, .int .i64 0, .int .i64 0, .int .i64 0, .slice none 0 0] := X7.bkAt (i := 1) rfl
       obtain ⟨d0, d1, d2, d3, d4⟩ := B1.c5
       obtain ⟨t0, t1, t2, t3, t4⟩ := B2.c5
       have u0 := B2.free 0
       have u1 := B2.free 1
       have u2 := B2.free 2
       have u3 := B2.free 3
       have u4 := B2.free 4
       obtain ⟨w8, hw8⟩ : ∃ w8, W5 w7 g2 (.int .i64 op) (.int .i64 r) (.int .i64 hh) (.int .i64 0) (.slice none 0 0) = w8 := ⟨_, rfl⟩
       have X8 := X7.set (i := 1) rfl (Below5A B2 (by decide) hw8) (bk_set5 B2 hw8)
       unfold W5 at hw8
       have HE := Lib.hid (And.intro (show Bk w8 g2 52 [.int .i64 op, .int .i64 r, .int .i64 hh, .int .i64 0, .slice none 0 0] from X8.bkAt (i := 1) rfl) (co_no (b := b) (t := t) X8 H.out.1 hm.out HT'.out hr0))
       clear X7 X8 B1 B2
       go_wp2_with fail
       refine bodyPost_ret (res_ans2 rfl _ _ _ _ (by rfl) HE.out.1) rfl ?_
       exact ⟨_, ⟨_, _, _, _, rfl⟩, HE.out.2⟩
     · have e1 : (t'.st : Int) = 4 := by rw [est4]; rfl
       have e2 : (t.st : Int) = 1 := by rw [est1]; rfl
       obtain ⟨F7, Ft7, hx7⟩ := X7.sch
       have v35 := hx7.at_ev
       have hb7 := hx7.beg k e0 b H.out.2.2.2.1 H.out.2.2.2.2.1
       have z2 : w7.cell? ⟨e0, 2, none⟩ = some (.int .i64 (b.til : Int)) := hb7.cell (i := 2) (by simp [bcells])
       have zf := hb7.free 2
       obtain ⟨w8, hw8⟩ : ∃ w8, w7.setCell ⟨e0, 2, none⟩ (.int .i64 (s.ev : Int)) = w8 := ⟨_, rfl⟩
       have X8 := X7.told H.out.2.2.2.1 H.out.2.2.2.2.1 hw8.symm
       have B1 : Bk w8 g1 52 [.int .i64 op, .int .i64 r, .int .i64 hh, .int .i64 0, .slice none 0 0] := X8.bkAt (i := 0) rfl
       have B2 : Bk w8 g2 52 [.int .i64 0, .int .i64 0, .int .i64 0, .int .i64 0, .slice none 0 0] := X8.bkAt (i := 1) rfl
       obtain ⟨d0, d1, d2, d3, d4⟩ := B1.c5
       obtain ⟨t0, t1, t2, t3, t4⟩ := B2.c5
       have u0 := B2.free 0
       have u1 := B2.free 1
       have u2 := B2.free 2
       have u3 := B2.free 3
       have u4 := B2.free 4
       obtain ⟨w9, hw9⟩ : ∃ w9, W5 w8 g2 (.int .i64 op) (.int .i64 r) (.int .i64 hh) (.int .i64 0) (.slice none 0 0) = w9 := ⟨_, rfl⟩
       have X9 := X8.set (i := 1) rfl (Below5A B2 (by decide) hw9) (bk_set5 B2 hw9)
       unfold W5 at hw9
       have HE := Lib.hid (And.intro (show Bk w9 g2 52 [.int .i64 op, .int .i64 r, .int .i64 hh, .int .i64 0, .slice none 0 0] from X9.bkAt (i := 1) rfl) (co_told (t := t) X9 H.out.1 hm.out HT'.out (by rw [est4]; decide) H.out.2.2.2.2.1 H.out.2.2.2.2.2.2.1))
       clear X7 X8 X9 B1 B2 hx7 hb7
       go_wp2_with fail
       refine bodyPost_ret (res_ans2 rfl _ _ _ _ (by rfl) HE.out.1) rfl ?_
       exact ⟨_, ⟨_, _, _, _, rfl⟩, HE.out.2⟩
end
section
open Go.RowKit Go.Maps
def abR (m : MS) (k : Nat) (t : TX) (r : Int) (m' : MS) : Prop := (t.st = 1 ∧ r = 0 ∧ m' = m.put k { t with st := 4, time := 0 }) ∨ (t.st ≠ 1 ∧ r = 5 ∧ m' = m)
def caR (s : SS) (asked : Bool) (k : Nat) (b : BG) (t : TX) (kd : Int) (n : Nat) (ps : List PutD) (s' : SS) (ok : Bool) : Prop :=
 (kd = 2 ∧ ok = true ∧ s' = s) ∨ (kd = 3 ∧ ok = true ∧ ∃ r m', wrR s.m k t n ps r m' ∧ s' = { s with m := m' }) ∨ (kd = 4 ∧ coR s asked k b t s' ok) ∨ (kd = 5 ∧ ok = true ∧ ∃ r m', abR s.m k t r m' ∧ (s' = { s with m := m' } ∨ s' = { s with m := m', bg := s.bg.set k ⟨b.fr, s.ev⟩ }))
def caE (w : World) (ok : Bool) (e : Ending) : Prop := ∃ (op code h t : Int) (A : Option Addr) (n c : Nat) (bs : List Int), e = .returned (.tuple #[.agg #[.int .i64 op, .int .i64 code, .int .i64 h, .int .i64 t, .slice A n c], .bool ok]) ∧ IsY w A n c bs ∧ n ≤ 1000000
def CaS (sb e0 g8 : Nat) (cs bcs ocs : List Value) (w : World) : Prop := Bk w sb 71 cs ∧ Bk w e0 85 bcs ∧ Bk w g8 45 ocs
theorem caS_at {w : World} {sb e0 g8 st gd k : Nat} {alv : Value} {cls : List CLD} {ev : Nat} {b : BG} {v0 v1 v2 v3 v4 : Value} (h : CaS sb e0 g8 (sccells (bptr gd) st cls alv ev) (bcells k b) [v0, v1, v2, v3, v4] w) :
  w.cell? ⟨sb, 1, none⟩ = some (.pointer (some ⟨st, 0, none⟩)) ∧ w.cell? ⟨e0, 0, none⟩ = some (.int .i64 ((k : Int) + 1)) ∧ w.cell? ⟨g8, 0, none⟩ = some v0 ∧ w.cell? ⟨g8, 1, none⟩ = some v1 ∧ w.cell? ⟨g8, 2, none⟩ = some v2 ∧ w.cell? ⟨g8, 3, none⟩ = some v3 ∧ w.cell? ⟨g8, 4, none⟩ = some v4 :=
 ⟨Bk.at' h.1 (i := 1) rfl, h.2.1.cell (i := 0) (by simp [bcells]), cells_five h.2.2⟩
theorem CaS.next {w w' : World} {sb e0 g8 : Nat} {cs bcs ocs : List Value} (h : CaS sb e0 g8 cs bcs ocs w) (hb : Below w.heap.size w w') : CaS sb e0 g8 cs bcs ocs w' := ⟨h.1.next hb h.1.lt, h.2.1.next hb h.2.1.lt, h.2.2.next hb h.2.2.lt⟩
section
variable {w w' : World} {F : Foot} {L : List LcD} {sb st gd g k : Nat} {alv : Value} {s : SS} {asked : Bool} {b : BG} {t : TX} {r : Int} {m' : MS} {n : Nat} {ps : List PutD}
theorem ca_same (X : ScX w w' F L (ScP sb st gd alv s.cls s.es s.es s.bg s.m s.ev s.pos (g + 1))) (h : SchB w F sb s g) : ∃ s', caR s asked k b t 2 n ps s' true ∧ SchR w w' F sb s' (g + 1) :=
 ⟨s, .inl ⟨rfl, rfl, rfl⟩, X.fin h.b (Nat.le_succ_of_le h.ev) (co_num h)⟩
theorem ca_write (X : ScX w w' F L (ScP sb st gd alv s.cls s.es s.es s.bg m' s.ev s.pos (g + 1))) (h : SchB w F sb s g) (ht : s.m.txs[k]? = some t) (hw : wrR s.m k t n ps r m') : ∃ s', caR s asked k b t 3 n ps s' true ∧ SchR w w' F sb s' (g + 1) := by
 obtain ⟨q1, q2, q3⟩ := wr_good h.b.gm ht hw
 exact ⟨{ s with m := m' }, .inr (.inl ⟨rfl, rfl, r, m', hw, rfl⟩), ScX.fin (s := { s with m := m' }) X (h.b.ext q1 q2 q3) (Nat.le_succ_of_le h.ev) (co_num (s := s) h)⟩
theorem ab_good (h : GoodM s.m) (ht : s.m.txs[k]? = some t) (ha : abR s.m k t r m') : GoodM m' ∧ Ext s.m m' ∧ m'.txs.length = s.m.txs.length := by
 rcases ha with ⟨h1, _, rfl⟩ | ⟨_, _, rfl⟩
 · obtain ⟨a, c⟩ := h.put (t' := { t with st := 4, time := 0 }) ht h1 rfl (h.rng k t ht).2.2 (.inr (.inl rfl))
   exact ⟨a, c, List.length_set⟩
 · exact ⟨h, Ext.refl _, rfl⟩
theorem ca_abort0 (X : ScX w w' F L (ScP sb st gd alv s.cls s.es s.es s.bg m' s.ev s.pos (g + 1))) (h : SchB w F sb s g) (ht : s.m.txs[k]? = some t) (ha : abR s.m k t r m') : ∃ s', caR s asked k b t 5 n ps s' true ∧ SchR w w' F sb s' (g + 1) := by
 obtain ⟨q1, q2, q3⟩ := ab_good h.b.gm ht ha
 exact ⟨{ s with m := m' }, .inr (.inr (.inr ⟨rfl, rfl, r, m', ha, .inl rfl⟩)), ScX.fin (s := { s with m := m' }) X (h.b.ext q1 q2 q3) (Nat.le_succ_of_le h.ev) (co_num (s := s) h)⟩
theorem ca_abort1 (X : ScX w w' F L (ScP sb st gd alv s.cls s.es s.es (s.bg.set k ⟨b.fr, s.ev⟩) m' s.ev s.pos (g + 1))) (h : SchB w F sb s g) (ht : s.m.txs[k]? = some t) (ha : abR s.m k t 0 m') (hb : s.bg[k]? = some b) (hlt : ∀ (i : Nat) (b : BG), s.bg[i]? = some b → b.fr < s.ev) : ∃ s', caR s asked k b t 5 n ps s' true ∧ SchR w w' F sb s' (g + 1) := by
 obtain ⟨q1, q2, q3⟩ := ab_good h.b.gm ht ha
 have hk : m'.txs[k]? = some { t with st := 4, time := 0 } := by
  rcases ha with ⟨_, _, rfl⟩ | ⟨_, q, _⟩
  · show (s.m.txs.set k _)[k]? = _
    rw [List.getElem?_set, if_pos rfl, if_pos (get_lt ht)]
  · cases q
 exact ⟨{ s with m := m', bg := s.bg.set k ⟨b.fr, s.ev⟩ }, .inr (.inr (.inr ⟨rfl, rfl, 0, m', ha, .inr rfl⟩)), ScX.fin (s := { s with m := m', bg := s.bg.set k ⟨b.fr, s.ev⟩ }) X ((h.b.ext q1 q2 q3).told hb hk (show 3 ≤ 4 by decide) hlt) (Nat.le_succ_of_le h.ev) (co_num (s := s) h)⟩
end
theorem SchB.ag {w w' : World} {F : Foot} {sb g : Nat} {s : SS} (h : SchB w F sb s g) (k : Ag F w w') : SchB w' F sb s g := by
 obtain ⟨Ft, st, gd, alv, hx⟩ := h.x
 exact ⟨⟨Ft, st, gd, alv, hx.ag k⟩, h.b, h.ev, h.num⟩
theorem SchR.loc {w w3 w4 w5 : World} {F : Foot} {sb g : Nat} {s : SS} (hb : Below w.heap.size w w3) (hI : In w F) (hr : SchR w3 w4 F sb s g) {x : Nat} (hx : w.heap.size ≤ x ∧ x < w3.heap.size) (k : Kf (fun b => b = x) w4 w5) : SchR w w5 F sb s g := by
 obtain ⟨F', h1, h2, h3, h4⟩ := hr
 have nx : ¬ F' x := fun q => (h3 x q).elim (fun r => by have := hI x r; omega) (fun r => by omega)
 exact ⟨F', h1.ag (k.ag (fun b q r => nx (by have r : b = x := r; exact r ▸ q))), ((Kf.of_below (F := F) hb).trans h2 (fun b q => .inl q)).trans k (fun b q => .inr (by have q : b = x := q; rw [q]; exact hx.1)), fun b q => (h3 b q).imp id (Nat.le_trans hb.size), h4.next k.size⟩
theorem SchR.bk {w w3 w4 : World} {F : Foot} {sb g x t : Nat} {s : SS} {cs : List Value} (hI : In w F) (hr : SchR w3 w4 F sb s g) (hx : w.heap.size ≤ x) (hk : Bk w3 x t cs) : Bk w4 x t cs := by
 obtain ⟨F', h1, h2, h3, h4⟩ := hr
 exact Bk.ag (F := fun b => b = x) hk (h2.ag (fun b q r => by have q : b = x := q; have := hI b r; omega)) rfl
end
section
open Go.RowKit Go.Maps
theorem scCall {w : World} {F : Foot} {sb g : Nat} {s : SS} (h : SchB w F sb s g) (hg : g + 1 ≤ 700) {j : Nat} {cl : CLD} (hj : s.cls[j]? = some cl) {k e0 : Nat} {b : BG} {t : TX} (hk : s.es[k]? = some e0) (hb : s.bg[k]? = some b) (ht : s.m.txs[k]? = some t) (hlt : ∀ (i : Nat) (b : BG), s.bg[i]? = some b → b.fr < s.ev) (hask : cl.asked = true → t.st ≠ 1) (kd oh lba len : Int) {A : Option Addr} {n c : Nat} {ps : List PutD} (hp : IsPs w A n c ps) (hn : n ≤ 20000) (hkd : kd = 2 ∨ kd = 3 ∨ kd = 4 ∨ kd = 5) :
  Calls Tryz.prog 56 #[.pointer (some ⟨sb, 0, none⟩), .pointer (some ⟨sb, 2 + j * 4, none⟩), .pointer (some ⟨e0, 0, none⟩), .agg #[.int .i64 kd, .int .i64 oh, .int .i64 lba, .int .i64 len, .slice A n c], .agg #[.int .i64 kd, .int .i64 0, .int .i64 oh, .int .i64 0, .slice none 0 0]] w fun e w' => ∃ ok, caE w' ok e ∧ ∃ s', caR s cl.asked k b t kd n ps s' ok ∧ SchR w w' F sb s' (g + 1) := by
 obtain ⟨Ft, st, gd, alv, hx⟩ := h.x
 obtain ⟨g8, w1, hzw1, hw1, Bw1, bw1⟩ := alloc_of w 45 [.int .i64 kd, .int .i64 oh, .int .i64 lba, .int .i64 len, .slice A n c]
 obtain ⟨g9, w2, hzw2, hw2, Bw2, bw2⟩ := alloc_of w1 52 [.int .i64 kd, .int .i64 0, .int .i64 oh, .int .i64 0, .slice none 0 0]
 obtain ⟨g10, w3, hzw3, hw3, Bw3, bw3⟩ := alloc_of w2 52 [.int .i64 0, .int .i64 0, .int .i64 0, .int .i64 0, .slice none 0 0]
 have b13 : Below w.heap.size w w3 := bw1.trans ((bw2.trans (bw3.mono bw2.size)).mono bw1.size)
 have X3 := (((ScX.of hx).push bw1 Bw1 (Nat.le_of_eq hzw1)).push bw2 Bw2 (Nat.le_of_eq hzw2)).push bw3 Bw3 (Nat.le_of_eq hzw3)
 obtain ⟨F3, Ft3, hx3, hq3⟩ := X3.at_
 obtain ⟨Fs, gx, mb, gs, num, count, ns, hs⟩ := hx3.sto
 have HS := Lib.hid hs
 have HT := Lib.hid ht
 have HP := Lib.hid (And.intro (hp.next b13) hn)
 have H := Lib.hid (And.intro h (And.intro hg (And.intro hj (And.intro hk (And.intro hb (And.intro ht (And.intro hlt hask)))))))
 have H3 := Lib.hid (fun (W w5 : World) (hS : Below w3.heap.size w3 W) (m' : MS) (he : Ext s.m m') (hr : StoR W w5 (Ft3 1) st s.pos m' (g + 1)) => hq3 w5 s.pos m' (StoR.pre hS hr) he)
 have hS3 : CaS sb e0 g8 (sccells (bptr gd) st s.cls alv s.ev) (bcells k b) [.int .i64 kd, .int .i64 oh, .int .i64 lba, .int .i64 len, .slice A n c] w3 := ⟨hx3.bx, hx3.beg k e0 b hk hb, X3.bkAt (i := 0) rfl⟩
 have KK := Lib.hid (fun (w' : World) (hS : Below w3.heap.size w3 w') => caS_at (hS3.next hS))
 have KC := Lib.hid (fun (w' : World) (hS : CaS sb e0 g8 (sccells (bptr gd) st s.cls alv s.ev) (bcells k b) [.int .i64 kd, .int .i64 oh, .int .i64 lba, .int .i64 len, .slice A n c] w') => caS_at hS)
 have HX3 := Lib.hid X3
 have HB3 := Lib.hid b13
 have B93 : Bk w3 g9 52 [.int .i64 kd, .int .i64 0, .int .i64 oh, .int .i64 0, .slice none 0 0] := X3.bkAt (i := 1) rfl
 obtain ⟨n0, n1, n2, n3, n4⟩ := B93.c5
 obtain ⟨_, _, o0, o1, o2, o3, o4⟩ := caS_at hS3
 have hcm := scCommit (s := s) (h.next b13) hg hj hk hb ht hlt hask kd oh
 clear bw1 Bw1 bw2 Bw2 bw3 Bw3 h hg hj hx hk hb ht hlt hask hx3 hs hq3 hp hn X3 b13 B93
 rcases hkd with rfl | rfl | rfl | rfl
 · have HK := Lib.hid (show ∀ w5, ScX w w5 F _ (ScP sb st gd alv s.cls s.es s.es s.bg s.m s.ev s.pos (g + 1)) → CaS sb e0 g8 (sccells (bptr gd) st s.cls alv s.ev) (bcells k b) [.int .i64 2, .int .i64 oh, .int .i64 lba, .int .i64 len, .slice A n c] w5 from fun w5 X => by
    obtain ⟨Fq, Fz, hq⟩ := X.sch
    exact ⟨hq.bx, hq.beg k e0 b H.out.2.2.2.1 H.out.2.2.2.2.1, X.bkAt (L := [⟨g8, 45, [.int .i64 2, .int .i64 oh, .int .i64 lba, .int .i64 len, .slice A n c]⟩, ⟨g9, 52, [.int .i64 2, .int .i64 0, .int .i64 oh, .int .i64 0, .slice none 0 0]⟩, ⟨g10, 52, [.int .i64 0, .int .i64 0, .int .i64 0, .int .i64 0, .slice none 0 0]⟩]) (i := 0) rfl⟩)
   clear hcm KK
   go_enter Tryz.func56, Tryz.ntmps56
   go_wp2_with fail
   have Kq := KC
   refine anyM_start (CaS sb e0 g8 (sccells (bptr gd) st s.cls alv s.ev) (bcells k b) [.int .i64 2, .int .i64 oh, .int .i64 lba, .int .i64 len, .slice A n c]) [18, 20] (by kernel_rfl) (⟨hS3.1.drew, hS3.2.1.drew, hS3.2.2.drew⟩) (fun hHeld => ?_)
   refine kR 0 ?_; refine kR 1 ?_; refine kR 2 ?_
   refine kM 3 ?_
   refine kR 4 ?_; refine kR 5 ?_; refine kR 6 ?_
   refine kM 7 ?_
   refine kR 8 ?_
   refine kM 9 ?_
   refine kR 10 ?_
   refine kM 11 ?_
   refine kR 12 ?_
   refine rM 13 (fun K hK => ?_)
   go_simp
   have hHeldB : Below w3.heap.size w3 w3.drew := bdrew (Below.refl _ _)
   refine (sRead (HS.out.next hHeldB) H.out.2.1 HT.out lba len).mono ?_
   rintro e w5 ⟨⟨v5, r, rfl, bs, hby, hbl⟩, hr⟩
   obtain ⟨A5, c5, rfl, hy5⟩ := hby.isY
   have HC := Lib.hid (And.intro (H3.out _ w5 hHeldB s.m (Ext.refl _) hr) (And.intro hy5 hbl))
   clear hr hby hbl hy5
   have B95 : Bk w5 g9 52 [.int .i64 2, .int .i64 0, .int .i64 oh, .int .i64 0, .slice none 0 0] := HC.out.1.bkAt (i := 1) rfl
   have x1 := B95.cell (i := 1) (by simp)
   have x4 := B95.cell (i := 4) (by simp)
   simp only [List.getElem_cons_zero, List.getElem_cons_succ] at x1 x4
   have xf1 := B95.free 1
   have xf4 := B95.free 4
   obtain ⟨w6, hw6⟩ : ∃ w6, w5.setCell ⟨g9, 4, none⟩ (.slice A5 bs.length c5) = w6 := ⟨_, rfl⟩
   have B96 : Bk w6 g9 52 [.int .i64 2, .int .i64 0, .int .i64 oh, .int .i64 0, .slice A5 bs.length c5] := by rw [← hw6]; exact B95.set 4 _
   have x6 := B96.cell (i := 1) (by simp)
   simp only [List.getElem_cons_zero, List.getElem_cons_succ] at x6
   have xf6 := B96.free 1
   obtain ⟨w7, hw7⟩ : ∃ w7, w6.setCell ⟨g9, 1, none⟩ (.int .i64 r) = w7 := ⟨_, rfl⟩
   have H7 := Lib.hid ((HC.out.1.set (i := 1) rfl (by rw [← hw6]; exact (Kf.refl (fun b => b = g9) w5).set B95 (by decide) (.inl rfl) 4 _) B96).set (i := 1) rfl (by rw [← hw7]; exact (Kf.refl (fun b => b = g9) w6).set B96 (by decide) (.inl rfl) 1 _) (show Bk w7 g9 52 [.int .i64 2, .int .i64 r, .int .i64 oh, .int .i64 0, .slice A5 bs.length c5] by rw [← hw7]; exact B96.set 1 _))
   have HY7 := Lib.hid (show IsY w7 A5 bs.length c5 bs by rw [← hw7, ← hw6]; exact (HC.out.2.1.ag (((Kf.refl (fun b => b = g9) w5).set B95 (by decide) (.inl rfl) 4 _).ag (F := fun _ => False) (fun b q => q.elim))).ag (((Kf.refl (fun b => b = g9) (w5.setCell ⟨g9, 4, none⟩ (.slice A5 bs.length c5))).set (by rw [hw6]; exact B96) (by decide) (.inl rfl) 1 _).ag (F := fun _ => False) (fun b q => q.elim)))
   have hS5 : CaS sb e0 g8 (sccells (bptr gd) st s.cls alv s.ev) (bcells k b) [.int .i64 2, .int .i64 oh, .int .i64 lba, .int .i64 len, .slice A n c] w5 := HK.out w5 HC.out.1
   clear B95 B96
   go_simp
   refine hK.out _ _ (fun _ _ => hS5) ?_
   clear hK K hHeld
   have hHeld := hS5
   try simp only [Act.put, List.setIfInBounds_toArray, List.set_cons_zero, List.set_cons_succ]
   refine kR 14 ?_; refine kR 15 ?_; refine kR 16 ?_; refine kR 17 ?_
   refine rM 18 (fun K hK => ?_)
   go_simp
   try rw [hw6]
   refine hK.out _ _ (fun h => absurd (by decide) h) ?_
   clear hK K
   try simp only [Act.put, List.setIfInBounds_toArray, List.set_cons_zero, List.set_cons_succ]
   refine kR 19 ?_
   refine rM 20 (fun K hK => ?_)
   go_simp
   try rw [hw7]
   refine hK.out _ _ (fun h => absurd (by decide) h) ?_
   clear hK K
   try simp only [Act.put, List.setIfInBounds_toArray, List.set_cons_zero, List.set_cons_succ]
   refine anyM_done (by kernel_rfl) ?_ _
   clear Kq
   have X7 := H7.out
   have B1 : Bk w7 g9 52 [.int .i64 2, .int .i64 r, .int .i64 oh, .int .i64 0, .slice A5 bs.length c5] := X7.bkAt (i := 1) rfl
   have B2 : Bk w7 g10 52 [.int .i64 0, .int .i64 0, .int .i64 0, .int .i64 0, .slice none 0 0] := X7.bkAt (i := 2) rfl
   obtain ⟨d0, d1, d2, d3, d4⟩ := B1.c5
   obtain ⟨t0, t1, t2, t3, t4⟩ := B2.c5
   have u0 := B2.free 0
   have u1 := B2.free 1
   have u2 := B2.free 2
   have u3 := B2.free 3
   have u4 := B2.free 4
   obtain ⟨w8, hw8⟩ : ∃ w8, W5 w7 g10 (.int .i64 2) (.int .i64 r) (.int .i64 oh) (.int .i64 0) (.slice A5 bs.length c5) = w8 := ⟨_, rfl⟩
   have X8 := X7.set (i := 2) rfl (Below5A B2 (by decide) hw8) (bk_set5 B2 hw8)
   unfold W5 at hw8
   have HE := Lib.hid (And.intro (show Bk w8 g10 52 [.int .i64 2, .int .i64 r, .int .i64 oh, .int .i64 0, .slice A5 bs.length c5] from X8.bkAt (i := 2) rfl) (And.intro (ca_same (asked := cl.asked) (b := b) (t := t) (k := k) (n := n) (ps := ps) X8 H.out.1) (HY7.out.ag ((Below5A B2 (by decide) (show W5 _ _ _ _ _ _ _ = w8 from hw8)).ag (F := fun _ => False) (fun b q => q.elim)))))
   clear X7 X8 B1 B2 x1 xf1 x4 xf4 x6 xf6 n0 n1 n2 n3 n4 o0 o1 o2 o3 o4
   go_wp2_with fail
   refine bodyPost_ret (res_ans2 rfl _ _ _ _ (by rfl) HE.out.1) rfl ?_
   exact ⟨true, ⟨_, _, _, _, A5, _, c5, bs, rfl, HE.out.2.2, Nat.le_trans HC.out.2.2 (by decide)⟩, HE.out.2.1⟩
 · clear hcm KC
   go_enter Tryz.func56, Tryz.ntmps56
   go_wp2_with fail
   have Kq := KK
   refine anyM_start (fun w' => Below w3.heap.size w3 w') [10, 12] (by kernel_rfl) (bdrew (Below.refl _ _)) (fun hHeld => ?_)
   refine kR 0 ?_; refine kR 1 ?_; refine kR 2 ?_
   refine kM 3 ?_
   refine kR 4 ?_; refine kR 5 ?_; refine kR 6 ?_
   refine kM 7 ?_
   refine kR 8 ?_
   refine kM 9 ?_
   refine rM 10 (fun K hK => ?_)
   go_simp
   refine (sWrite (HS.out.next hHeld) H.out.2.1 HT.out (HP.out.1.next hHeld) HP.out.2).mono ?_
   rintro e w5 ⟨r, rfl, m', hwr, hr⟩
   have HC := Lib.hid (And.intro (H3.out _ w5 hHeld m' (wr_good H.out.1.b.gm HT.out hwr).2.1 hr) hwr)
   clear hr hwr
   have B95 : Bk w5 g9 52 [.int .i64 3, .int .i64 0, .int .i64 oh, .int .i64 0, .slice none 0 0] := HC.out.1.bkAt (i := 1) rfl
   have x1 := B95.cell (i := 1) (by simp)
   simp only [List.getElem_cons_zero, List.getElem_cons_succ] at x1
   have xf1 := B95.free 1
   obtain ⟨w7, hw7⟩ : ∃ w7, w5.setCell ⟨g9, 1, none⟩ (.int .i64 r) = w7 := ⟨_, rfl⟩
   have H7 := Lib.hid (HC.out.1.set (i := 1) rfl (by rw [← hw7]; exact (Kf.refl (fun b => b = g9) w5).set B95 (by decide) (.inl rfl) 1 _) (show Bk w7 g9 52 [.int .i64 3, .int .i64 r, .int .i64 oh, .int .i64 0, .slice none 0 0] by rw [← hw7]; exact B95.set 1 _))
   clear B95
   go_simp
   refine hK.out _ _ (fun h => absurd (by decide) h) ?_
   clear hK K
   try simp only [Act.put, List.setIfInBounds_toArray, List.set_cons_zero, List.set_cons_succ]
   refine kR 11 ?_
   refine rM 12 (fun K hK => ?_)
   go_simp
   try rw [hw7]
   refine hK.out _ _ (fun h => absurd (by decide) h) ?_
   clear hK K
   try simp only [Act.put, List.setIfInBounds_toArray, List.set_cons_zero, List.set_cons_succ]
   refine anyM_done (by kernel_rfl) ?_ _
   clear Kq
   have X7 := H7.out
   have B1 : Bk w7 g9 52 [.int .i64 3, .int .i64 r, .int .i64 oh, .int .i64 0, .slice none 0 0] := X7.bkAt (i := 1) rfl
   have B2 : Bk w7 g10 52 [.int .i64 0, .int .i64 0, .int .i64 0, .int .i64 0, .slice none 0 0] := X7.bkAt (i := 2) rfl
   obtain ⟨d0, d1, d2, d3, d4⟩ := B1.c5
   obtain ⟨t0, t1, t2, t3, t4⟩ := B2.c5
   have u0 := B2.free 0
   have u1 := B2.free 1
   have u2 := B2.free 2
   have u3 := B2.free 3
   have u4 := B2.free 4
   obtain ⟨w8, hw8⟩ : ∃ w8, W5 w7 g10 (.int .i64 3) (.int .i64 r) (.int .i64 oh) (.int .i64 0) (.slice none 0 0) = w8 := ⟨_, rfl⟩
   have X8 := X7.set (i := 2) rfl (Below5A B2 (by decide) hw8) (bk_set5 B2 hw8)
   unfold W5 at hw8
   have HE := Lib.hid (And.intro (show Bk w8 g10 52 [.int .i64 3, .int .i64 r, .int .i64 oh, .int .i64 0, .slice none 0 0] from X8.bkAt (i := 2) rfl) (ca_write (asked := cl.asked) (b := b) X8 H.out.1 HT.out HC.out.2))
   clear X7 X8 B1 B2 x1 xf1 n0 n1 n2 n3 n4 o0 o1 o2 o3 o4
   go_wp2_with fail
   refine bodyPost_ret (res_ans2 rfl _ _ _ _ (by rfl) HE.out.1) rfl ?_
   exact ⟨true, ⟨_, _, _, _, none, 0, 0, [], rfl, IsY.nil _ 0 (Nat.zero_le _), Nat.zero_le _⟩, HE.out.2⟩
 · have B10 : Bk w3 g10 52 [.int .i64 0, .int .i64 0, .int .i64 0, .int .i64 0, .slice none 0 0] := HX3.out.bkAt (i := 2) rfl
   have HB10 := Lib.hid (And.intro B10 (HX3.out.ge _ (List.mem_of_getElem? (i := 2) rfl)))
   clear KC KK B10
   go_enter Tryz.func56, Tryz.ntmps56
   go_wp2_with fail
   refine hcm.mono ?_
   rintro e w4 ⟨ok, ⟨xop, xco, xh, xt, rfl⟩, s', hco, hsr⟩
   have B4 : Bk w4 g10 52 [.int .i64 0, .int .i64 0, .int .i64 0, .int .i64 0, .slice none 0 0] := hsr.bk H.out.1.inn HB10.out.2 HB10.out.1
   obtain ⟨r0, r1, r2, r3, r4⟩ := B4.c5
   have p0 := B4.free 0
   have p1 := B4.free 1
   have p2 := B4.free 2
   have p3 := B4.free 3
   have p4 := B4.free 4
   obtain ⟨w5, hw5⟩ : ∃ w5, W5 w4 g10 (.int .i64 xop) (.int .i64 xco) (.int .i64 xh) (.int .i64 xt) (.slice none 0 0) = w5 := ⟨_, rfl⟩
   have HE := Lib.hid (And.intro (bk_set5 B4 hw5) (show ∃ s', caR s cl.asked k b t 4 n ps s' ok ∧ SchR w w5 F sb s' (g + 1) from ⟨s', .inr (.inr (.inl ⟨rfl, hco⟩)), hsr.loc HB3.out H.out.1.inn ⟨HB10.out.2, HB10.out.1.lt⟩ (Below5A B4 (by decide) hw5)⟩))
   unfold W5 at hw5
   clear hcm B4 hsr hco n0 n1 n2 n3 n4 o0 o1 o2 o3 o4
   go_wp2_with fail
   refine bodyPost_ret (res_ans2 rfl _ _ _ _ (by rfl) HE.out.1) rfl ?_
   exact ⟨ok, ⟨_, _, _, _, none, 0, 0, [], rfl, IsY.nil _ 0 (Nat.zero_le _), Nat.zero_le _⟩, HE.out.2⟩
 · clear hcm KC
   go_enter Tryz.func56, Tryz.ntmps56
   go_wp2_with fail
   have Kq := KK
   refine anyM_start (fun w' => Below w3.heap.size w3 w') [8, 10] (by kernel_rfl) (bdrew (Below.refl _ _)) (fun hHeld => ?_)
   refine kR 0 ?_; refine kR 1 ?_; refine kR 2 ?_
   refine kM 3 ?_
   refine kR 4 ?_; refine kR 5 ?_; refine kR 6 ?_
   refine kM 7 ?_
   refine rM 8 (fun K hK => ?_)
   go_simp
   refine (sAbort (HS.out.next hHeld) H.out.2.1 HT.out).mono ?_
   rintro e w5 ⟨r, rfl, hr⟩
   obtain ⟨m', hab, hX⟩ : ∃ m', abR s.m k t r m' ∧ ScX _ w5 _ _ (ScP sb st gd alv s.cls s.es s.es s.bg m' s.ev s.pos (g + 1)) := by
    rcases hr with ⟨h1, h2, h3⟩ | ⟨h1, h2, h3⟩
    · exact ⟨_, .inl ⟨h1, h2, rfl⟩, H3.out _ w5 hHeld _ (H.out.1.b.gm.put (t' := { t with st := 4, time := 0 }) HT.out h1 rfl (H.out.1.b.gm.rng k t HT.out).2.2 (.inr (.inl rfl))).2 h3⟩
    · exact ⟨_, .inr ⟨h1, h2, rfl⟩, H3.out _ w5 hHeld _ (Ext.refl _) h3⟩
   have HC := Lib.hid (And.intro hX hab)
   clear hr hX
   have B95 : Bk w5 g9 52 [.int .i64 5, .int .i64 0, .int .i64 oh, .int .i64 0, .slice none 0 0] := HC.out.1.bkAt (i := 1) rfl
   have x1 := B95.cell (i := 1) (by simp)
   simp only [List.getElem_cons_zero, List.getElem_cons_succ] at x1
   have xf1 := B95.free 1
   obtain ⟨w7, hw7⟩ : ∃ w7, w5.setCell ⟨g9, 1, none⟩ (.int .i64 r) = w7 := ⟨_, rfl⟩
   have H7 := Lib.hid (HC.out.1.set (i := 1) rfl (by rw [← hw7]; exact (Kf.refl (fun b => b = g9) w5).set B95 (by decide) (.inl rfl) 1 _) (show Bk w7 g9 52 [.int .i64 5, .int .i64 r, .int .i64 oh, .int .i64 0, .slice none 0 0] by rw [← hw7]; exact B95.set 1 _))
   clear B95
   go_simp
   refine hK.out _ _ (fun h => absurd (by decide) h) ?_
   clear hK K
   try simp only [Act.put, List.setIfInBounds_toArray, List.set_cons_zero, List.set_cons_succ]
   refine kR 9 ?_
   refine rM 10 (fun K hK => ?_)
   go_simp
   try rw [hw7]
   refine hK.out _ _ (fun h => absurd (by decide) h) ?_
   clear hK K
   try simp only [Act.put, List.setIfInBounds_toArray, List.set_cons_zero, List.set_cons_succ]
   refine anyM_done (by kernel_rfl) ?_ _
   clear Kq
   have X7 := H7.out
   have B17 : Bk w7 g9 52 [.int .i64 5, .int .i64 r, .int .i64 oh, .int .i64 0, .slice none 0 0] := X7.bkAt (i := 1) rfl
   have y1 := B17.cell (i := 1) (by simp)
   simp only [List.getElem_cons_zero, List.getElem_cons_succ] at y1
   clear B17 x1 xf1 n0 n1 n2 n3 n4 o0 o1 o2 o3 o4
   rcases (show r = 0 ∨ r = 5 from HC.out.2.elim (fun q => .inl q.2.1) (fun q => .inr q.2.1)) with rfl | rfl
   · obtain ⟨F7, Ft7, hx7⟩ := X7.sch
     have v35 := hx7.at_ev
     have hb7 := hx7.beg k e0 b H.out.2.2.2.1 H.out.2.2.2.2.1
     have z2 : w7.cell? ⟨e0, 2, none⟩ = some (.int .i64 (b.til : Int)) := hb7.cell (i := 2) (by simp [bcells])
     have zf := hb7.free 2
     obtain ⟨w8, hw8⟩ : ∃ w8, w7.setCell ⟨e0, 2, none⟩ (.int .i64 (s.ev : Int)) = w8 := ⟨_, rfl⟩
     have X8 := X7.told H.out.2.2.2.1 H.out.2.2.2.2.1 hw8.symm
     have B1 : Bk w8 g9 52 [.int .i64 5, .int .i64 0, .int .i64 oh, .int .i64 0, .slice none 0 0] := X8.bkAt (i := 1) rfl
     have B2 : Bk w8 g10 52 [.int .i64 0, .int .i64 0, .int .i64 0, .int .i64 0, .slice none 0 0] := X8.bkAt (i := 2) rfl
     obtain ⟨d0, d1, d2, d3, d4⟩ := B1.c5
     obtain ⟨t0, t1, t2, t3, t4⟩ := B2.c5
     have u0 := B2.free 0
     have u1 := B2.free 1
     have u2 := B2.free 2
     have u3 := B2.free 3
     have u4 := B2.free 4
     obtain ⟨w9, hw9⟩ : ∃ w9, W5 w8 g10 (.int .i64 5) (.int .i64 0) (.int .i64 oh) (.int .i64 0) (.slice none 0 0) = w9 := ⟨_, rfl⟩
     have X9 := X8.set (i := 2) rfl (Below5A B2 (by decide) hw9) (bk_set5 B2 hw9)
     unfold W5 at hw9
     have HE := Lib.hid (And.intro (show Bk w9 g10 52 [.int .i64 5, .int .i64 0, .int .i64 oh, .int .i64 0, .slice none 0 0] from X9.bkAt (i := 2) rfl) (ca_abort1 (asked := cl.asked) (n := n) (ps := ps) X9 H.out.1 HT.out HC.out.2 H.out.2.2.2.2.1 H.out.2.2.2.2.2.2.1))
     clear X7 X8 X9 B1 B2 hx7 hb7
     go_wp2_with fail
     refine bodyPost_ret (res_ans2 rfl _ _ _ _ (by rfl) HE.out.1) rfl ?_
     exact .inr ⟨⟨_, _, _, _, none, 0, 0, [], rfl, IsY.nil _ 0 (Nat.zero_le _), Nat.zero_le _⟩, HE.out.2⟩
   · skip
     have B1 : Bk w7 g9 52 [.int .i64 5, .int .i64 5, .int .i64 oh, .int .i64 0, .slice none 0 0] := X7.bkAt (i := 1) rfl
     have B2 : Bk w7 g10 52 [.int .i64 0, .int .i64 0, .int .i64 0, .int .i64 0, .slice none 0 0] := X7.bkAt (i := 2) rfl
     obtain ⟨d0, d1, d2, d3, d4⟩ := B1.c5
     obtain ⟨t0, t1, t2, t3, t4⟩ := B2.c5
     have u0 := B2.free 0
     have u1 := B2.free 1
     have u2 := B2.free 2
     have u3 := B2.free 3
     have u4 := B2.free 4
     obtain ⟨w8, hw8⟩ : ∃ w8, W5 w7 g10 (.int .i64 5) (.int .i64 5) (.int .i64 oh) (.int .i64 0) (.slice none 0 0) = w8 := ⟨_, rfl⟩
     have X8 := X7.set (i := 2) rfl (Below5A B2 (by decide) hw8) (bk_set5 B2 hw8)
     unfold W5 at hw8
     have HE := Lib.hid (And.intro (show Bk w8 g10 52 [.int .i64 5, .int .i64 5, .int .i64 oh, .int .i64 0, .slice none 0 0] from X8.bkAt (i := 2) rfl) (ca_abort0 (asked := cl.asked) (b := b) (n := n) (ps := ps) X8 H.out.1 HT.out HC.out.2))
     clear X7 X8 B1 B2
     go_wp2_with fail
     refine bodyPost_ret (res_ans2 rfl _ _ _ _ (by rfl) HE.out.1) rfl ?_
     exact .inr ⟨⟨_, _, _, _, none, 0, 0, [], rfl, IsY.nil _ 0 (Nat.zero_le _), Nat.zero_le _⟩, HE.out.2⟩
end
end Go.Proofs.YthhndleddlmgiaaGreatDoor.Tp
