/- Contracts of the program's functions, and laws on memory: a part of the proof of TopRoom. -/
import Derived.Test.YthhndleddlmgiaaGreatDoorZO
import Derived.Test.YthhndleddlmgiaaGreatDoorProg
import Derived.LoopTactic
import Derived.LoopN
import Derived.Lib.Hide
import Derived.Deep.DeepMust
import Derived.Laws.MakeOwn
import Derived.Laws.Entries
import Derived.WalkSpells
import Derived.WalkMore
import Derived.IntWalk
import Derived.Deep.QuietTactic
import Derived.BigQuiet
import Derived.Shelf.Abstract
import Derived.Lib.AppendIntMem
import Derived.Test.YthhndleddlmgiaaGreatDoorChecked
import Derived.KernelRfl
import Derived.Shelf.Strings.Builder1
import Derived.Shelf.Strings.Builder2
import Derived.Shelf.Strings.OnBuilder
import Derived.Shelf.Strconv.Itoa0
import Derived.Shelf.Strconv.Itoa1
import Derived.Shelf.LaysM
import Derived.Shelf.Strconv.Itoa2
import Derived.Shelf.Strconv.Itoa3
import Derived.Shelf.Strings.Search1
import Derived.Shelf.Strings.Search2
import Derived.Shelf.Strings.Search3
import Derived.Shelf.Strings.Count
import Derived.Shelf.Strings.Prefix
import Derived.Deep.Slices
import Derived.DataReads
import Derived.ChangeSlices
namespace Go.Proofs.YthhndleddlmgiaaGreatDoor.Tp
set_option maxHeartbeats 8000000
set_option maxRecDepth 100000
set_option linter.unusedSimpArgs false
set_option linter.unusedVariables false
section
open Go.RowKit Go.Maps
structure StepD where
 kind : Int
 client : Int
 A : Option Addr
 n : Nat
 c : Nat
 os : List OpD
 N : Int
 pA : Option Addr
 pn : Nat
 pc : Nat
 tA : Option Addr
 tn : Nat
 tc : Nat
def StepD.cells (x : StepD) : List Value := [.int .i64 x.kind, .int .i64 x.client, .slice x.A x.n x.c, .int .i64 x.N, .slice x.pA x.pn x.pc, .slice x.tA x.tn x.tc]
theorem step_six (x : StepD) : x.cells.length = 6 := rfl
structure IsSteps (w : World) (G : Foot) (A : Option Addr) (n c : Nat) (l : List StepD) : Prop where
 len : l.length = n
 rd : Rd w w.heap.size A (l.flatMap StepD.cells)
 ops : ∀ x ∈ l, IsOps w G x.A x.n x.c x.os ∧ x.pn ≤ maxLen ∧ x.tn ≤ maxLen
 cap : n ≤ c
 big : c ≤ maxLen
 ga : ∀ ad, A = some ad → 0 < n → G ad.block
theorem IsSteps.ag {w w' : World} {G : Foot} {A : Option Addr} {n c : Nat} {l : List StepD} (h : IsSteps w G A n c l) (k : Ag G w w') : IsSteps w' G A n c l :=
 ⟨h.len, Rd.agn h.rd k (fun ad e q => h.ga ad e (by rw [flat_len step_six, h.len] at q; omega)), fun x hx => ⟨(h.ops x hx).1.ag k, (h.ops x hx).2⟩, h.cap, h.big, h.ga⟩
theorem six_get {w : World} {B : Nat} {A : Option Addr} {l : List StepD} (h : Rd w B A (l.flatMap StepD.cells)) {k : Nat} (hk : k < l.length) {x : StepD} (hx : l[k] = x) :
  ∃ ad, A = some ad ∧ w.cell? (ad.add (k * 6)) = some (.int .i64 x.kind) ∧ w.cell? ⟨(ad.add (k * 6)).block, (ad.add (k * 6)).off + 1, none⟩ = some (.int .i64 x.client) ∧ w.cell? ⟨(ad.add (k * 6)).block, (ad.add (k * 6)).off + 2, none⟩ = some (.slice x.A x.n x.c) ∧ w.cell? ⟨(ad.add (k * 6)).block, (ad.add (k * 6)).off + 3, none⟩ = some (.int .i64 x.N) ∧ w.cell? ⟨(ad.add (k * 6)).block, (ad.add (k * 6)).off + 4, none⟩ = some (.slice x.pA x.pn x.pc) ∧ w.cell? ⟨(ad.add (k * 6)).block, (ad.add (k * 6)).off + 5, none⟩ = some (.slice x.tA x.tn x.tc) := by
 obtain ⟨ad, e, hb, hc⟩ := h (by rw [flat_len step_six]; omega)
 have key : ∀ j, j < 6 → ∀ u, x.cells[j]? = some u → w.cell? (ad.add (k * 6 + j)) = some u := fun j hj u hu => hc _ _ (by rw [flat_get step_six hk hj, hx]; exact hu)
 have h0 := key 0 (by omega) _ rfl
 have h1 := key 1 (by omega) _ rfl
 have h2 := key 2 (by omega) _ rfl
 have h3 := key 3 (by omega) _ rfl
 have h4 := key 4 (by omega) _ rfl
 have h5 := key 5 (by omega) _ rfl
 rw [Nat.add_zero] at h0
 rw [← add_twice] at h1 h2 h3 h4 h5
 exact ⟨ad, e, h0, h1, h2, h3, h4, h5⟩
theorem st_cells {w : World} {G : Foot} {ad : Addr} {n c k : Nat} {l : List StepD} (h : IsSteps w G (some ad) n c l) (hk : k < l.length) {x : StepD} (hx : l[k] = x) :
  w.cell? (ad.add (k * 6)) = some (.int .i64 x.kind) ∧ w.cell? ⟨(ad.add (k * 6)).block, (ad.add (k * 6)).off + 1, none⟩ = some (.int .i64 x.client) ∧ w.cell? ⟨(ad.add (k * 6)).block, (ad.add (k * 6)).off + 2, none⟩ = some (.slice x.A x.n x.c) ∧ w.cell? ⟨(ad.add (k * 6)).block, (ad.add (k * 6)).off + 3, none⟩ = some (.int .i64 x.N) ∧ w.cell? ⟨(ad.add (k * 6)).block, (ad.add (k * 6)).off + 4, none⟩ = some (.slice x.pA x.pn x.pc) ∧ w.cell? ⟨(ad.add (k * 6)).block, (ad.add (k * 6)).off + 5, none⟩ = some (.slice x.tA x.tn x.tc) := by
 obtain ⟨ad', e', h⟩ := six_get h.rd hk hx
 injection e' with e'
 subst e'
 exact h
def smO (o : OpD) : Prop := o.n ≤ 20000 ∧ ∀ p ∈ o.ps, p.n ≤ 20000
def smX (x : StepD) : Prop := x.n ≤ 20000 ∧ ∀ o ∈ x.os, smO o
def smE (n : Nat) (l : List StepD) (e : Ending) : Prop := ∃ b, e = .returned (.bool b) ∧ (b = true → n ≤ 150 ∧ ∀ x ∈ l, smX x)
theorem sm_num {a b c : Nat} (ha : a ≤ maxLen) (hb : b ≤ maxLen) (hc : c ≤ maxLen) : ∀ y ∈ [(a : Int), (b : Int), (c : Int), 3], 0 ≤ y ∧ y ≤ 9223372036854775807 := fun y hy => by
 have hbig : maxLen ≤ 9223372036854775807 := by decide
 simp only [List.mem_cons, List.not_mem_nil, or_false] at hy
 rcases hy with rfl | rfl | rfl | rfl <;> omega
theorem sm_le {s s1 : Int} {a b c : Nat} (h : 0 ≤ s) (hs : s1 = s + [(a : Int), (b : Int), (c : Int), 3].sum ∨ s1 = 1099511627776) (q : s1 ≤ 20000) : (a : Int) ≤ s1 := by
 rcases hs with e | e
 · simp at e; omega
 · omega
theorem sm_step {s q v : Int} {n : Nat} {os : List OpD} {o : OpD} (h : s ≤ 20000 → (n : Int) ≤ s ∧ ∀ o ∈ os, smO o) (hv : puR o.n o.ps v) (hs : q = s + [v].sum ∨ q = 1099511627776) (hq : q ≤ 20000) (hs2 : s ≤ 20000) : (n : Int) ≤ q ∧ ∀ y ∈ os ++ [o], smO y := by
 obtain ⟨v0, v1, v2⟩ := hv
 have e : q = s + v := by
  rcases hs with e | e
  · simpa using e
  · omega
 obtain ⟨a1, a2⟩ := h hs2
 by_cases h0 : 0 ≤ s
 · have hv2 : v ≤ 20000 := by omega
   obtain ⟨b1, b2⟩ := v2 hv2
   refine ⟨by omega, fun y hy => ?_⟩
   rcases List.mem_append.1 hy with r | r
   · exact a2 y r
   · obtain rfl : y = o := by simpa using r
     exact ⟨by omega, fun p hp => by have := b2 p hp; omega⟩
 · omega
theorem small_any (G : Foot) (A : Option Addr) (n c : Nat) (l : List StepD) (w : World) (h : IsSteps w G A n c l) (hI : In w G) :
  Calls Tryz.prog 4 #[.slice A n c] w fun e w' => smE n l e ∧ Below w.heap.size w w' := by
 have H := Lib.hid h
 have hl := h.len
 have hbn : (n : Int) ≤ 9223372036854775807 := by have := h.cap; have := h.big; have : maxLen ≤ 9223372036854775807 := (by decide); omega
 have HN := Lib.hid (And.intro hl hbn)
 clear h hl hbn
 go_enter Tryz.func4, Tryz.ntmps4
 go_wp2_with fail
 go_loopw [3, 4] (fun sv iv wr => ∃ i : Nat, i ≤ n ∧ iv = .int .i64 (i : Int) ∧ Hid (Below w.heap.size w wr) ∧ ∃ s : Int, sv = .int .i64 s ∧ Hid ((0 ≤ s ∧ s ≤ 1099511627776) ∧ ∀ x ∈ l.take i, smX x)) (fun _ iv _ => n - (intOf iv).toNat)
 case atStart => exact ⟨0, Nat.zero_le _, rfl, Lib.hid (Below.refl _ _), 0, rfl, Lib.hid ⟨by decide, by simp⟩⟩
 case round =>
  obtain ⟨i, hi, rfl, HW, s, rfl, HS⟩ := hrel
  rcases Nat.lt_or_ge i n with hlt | hge
  · obtain ⟨x, hx⟩ : ∃ x, l[i]'(Nat.lt_of_lt_of_eq hlt HN.out.1.symm) = x := ⟨_, rfl⟩
    have hm : x ∈ l := by rw [← hx]; exact List.getElem_mem _
    have hst := H.out.ag (G := G) (.of_below HW.out)
    obtain ⟨ad, rfl, c0, c1, c2, c3, c4, c5⟩ := six_get hst.rd (Nat.lt_of_lt_of_eq hlt HN.out.1.symm) hx
    have HC := Lib.hid (And.intro hx (And.intro hm (And.intro hlt (And.intro (H.out.ops x hm).1 (And.intro (Nat.le_trans (H.out.ops x hm).1.cap (H.out.ops x hm).1.big) (H.out.ops x hm).2)))))
    have KK := Lib.hid (fun (w' : World) (hS : Below wr.heap.size wr w') => st_cells (hst.ag (G := G) (.of_below hS)) (Nat.lt_of_lt_of_eq hlt HN.out.1.symm) hx)
    have n1 : (i : Int) < (n : Int) := by omega
    have n2 : (0 : Int) ≤ (i : Int) := by omega
    have m2 : wrap64 ((i : Int) + 1) = (i : Int) + 1 := by unfold wrap64; have := HN.out.2; omega
    clear hx hm hst hi
    go_wp2_with fail
    have Kq := KK
    refine wp_region_held_drew (S := fun w' => Below wr.heap.size wr w') (by kernel_rfl) (bdrew (Below.refl _ _)) (fun hHeld => ?_)
    refine kF 0 ?_; refine kF 1 ?_; refine kF 2 ?_; refine kF 3 ?_; refine kF 4 ?_; refine kF 5 ?_; refine kF 6 ?_; refine kF 7 ?_; refine kF 8 ?_; refine kF 9 ?_; refine kF 10 ?_; refine kF 11 ?_
    refine kF 12 ?_; refine kF 13 ?_; refine kF 14 ?_; refine kF 15 ?_; refine kF 16 ?_; refine kF 17 ?_; refine kF 18 ?_
    refine rF 19 (fun K hK => ?_)
    obtain ⟨w8, hw8⟩ : ∃ w8, wr.drew.alloc (.cells #[.int .i64 (x.n : Int), .int .i64 (x.pn : Int), .int .i64 (x.tn : Int), .int .i64 3] 3) = w8 := ⟨_, rfl⟩
    have hB8 : Bk w8 wr.heap.size 3 [.int .i64 (x.n : Int), .int .i64 (x.pn : Int), .int .i64 (x.tn : Int), .int .i64 3] := by rw [← hw8]; exact Bk.new wr.drew _ _
    have hS8 : Below wr.heap.size wr w8 := by rw [← hw8]; exact (bdrew (Below.refl _ _)).trans ((Below.refl wr.drew.heap.size wr.drew).alloc (Nat.le_refl _) _)
    have HB8 := Lib.hid (And.intro hB8 hS8)
    go_simp
    try rw [hw8]
    clear hB8
    refine hK.out _ _ (hS8) (fun hHeld2 => ?_)
    clear hK K hHeld
    have hHeld := hHeld2
    clear hHeld2
    try simp only [Act.put, List.setIfInBounds_toArray, List.set_cons_zero, List.set_cons_succ]
    refine rF 20 (fun K hK => ?_)
    go_simp
    refine (asum_any s _ 4 4 _ [(x.n : Int), (x.pn : Int), (x.tn : Int), 3] _ (by exact HB8.out.1.rd) (by rfl) (by decide) (fun y hy => sm_num HC.out.2.2.2.2.1 HC.out.2.2.2.2.2.1 HC.out.2.2.2.2.2.2 y hy) HS.out.1).mono ?_
    rintro e w' ⟨⟨s1, rfl, q0, q1, qs⟩, rfl⟩
    have HS1 := Lib.hid (show 0 ≤ s1 ∧ s1 ≤ 1099511627776 ∧ (s1 ≤ 20000 → (x.n : Int) ≤ s1) from ⟨q0, q1, fun q => sm_le HS.out.1.1 qs q⟩)
    clear qs q0 q1
    go_simp
    refine hK.out _ _ (hHeld) (fun hHeld2 => ?_)
    clear hK K hHeld
    have hHeld := hHeld2
    clear hHeld2
    try simp only [Act.put, List.setIfInBounds_toArray, List.set_cons_zero, List.set_cons_succ]
    refine kF 21 ?_
    refine wpAnyH_done (by kernel_rfl) ?_ _
    clear Kq
    have hW8 : Below w.heap.size w w8 := HW.out.trans (hS8.mono HW.out.size)
    have HW8 := Lib.hid hW8
    have HL8 := Lib.hid hS8
    clear hW8 hS8 c0 c1 c2 c3 c4 c5 hw8
    go_wp2_with fail
    go_loopw [3, 5] (fun sv kv wr2 => ∃ k : Nat, k ≤ x.n ∧ kv = .int .i64 (k : Int) ∧ Hid (Below w8.heap.size w8 wr2) ∧ ∃ s2 : Int, sv = .int .i64 s2 ∧ Hid ((0 ≤ s2 ∧ s2 ≤ 1099511627776) ∧ (s2 ≤ 20000 → (x.n : Int) ≤ s2 ∧ ∀ o ∈ x.os.take k, smO o))) (fun _ kv _ => x.n - (intOf kv).toNat)
    case atStart => exact ⟨0, Nat.zero_le _, rfl, Lib.hid (Below.refl _ _), s1, rfl, Lib.hid ⟨⟨HS1.out.1, HS1.out.2.1⟩, fun q => ⟨HS1.out.2.2 q, by simp⟩⟩⟩
    case round =>
     obtain ⟨k, hk, rfl, HW2, s2, rfl, HS2⟩ := hrel
     have hst2 := H.out.ag (G := G) (.of_below (HW8.out.trans (HW2.out.mono HW8.out.size)))
     obtain ⟨c0, c1, c2, c3, c4, c5⟩ := st_cells hst2 (Nat.lt_of_lt_of_eq HC.out.2.2.1 HN.out.1.symm) HC.out.1
     have hop2 := (hst2.ops x HC.out.2.1).1
     clear hst2
     rcases Nat.lt_or_ge k x.n with hkl | hkg
     · have n3 : (k : Int) < (x.n : Int) := by omega
       have n4 : (0 : Int) ≤ (k : Int) := by omega
       have m3 : wrap64 ((k : Int) + 1) = (k : Int) + 1 := by unfold wrap64; have := HC.out.2.2.2.2.1; have : maxLen ≤ 9223372036854775807 := (by decide); omega
       by_cases hs2 : s2 ≤ 20000
       · have t0 : decide (s2 ≤ 20000) = true := decide_eq_true hs2
         obtain ⟨o, ho⟩ : ∃ o, x.os[k]? = some o := ⟨_, List.getElem?_eq_getElem (Nat.lt_of_lt_of_eq hkl hop2.len.symm)⟩
         obtain ⟨ad2, hA2, _, o0, o1, o2, o3, o4⟩ := five_getC op_five hop2.rd (k := k) (Nat.lt_of_lt_of_eq hkl hop2.len.symm) (by rw [List.getElem?_eq_getElem (get_lt ho)] at ho; rw [Option.some.inj ho]; rfl)
         rw [hA2] at c2
         have hpu := aputs_any G o.A o.n o.c o.ps _ (hop2.ps o (List.mem_of_getElem? ho))
         have HO := Lib.hid (show x.os.take (k + 1) = x.os.take k ++ [o] by rw [List.take_add_one, ho]; rfl)
         have HK := Lib.hid (And.intro hkl hs2)
         clear hop2 ho hA2 hs2 hk
         go_wp2_with fail
         refine hpu.mono ?_
         rintro e w9 ⟨⟨v, rfl, hv⟩, hb9⟩
         have HV := Lib.hid hv
         have HB9 := Lib.hid (HW2.out.trans (hb9.mono HW2.out.size))
         clear hpu hv hb9
         go_wp2_with fail
         refine (asum_any s2 _ 1 1 _ [v] _ (by exact (Bk.new w9 3 [Value.int .i64 v]).rd) (by rfl) (by decide) (by intro y hy; simp at hy; subst hy; exact ⟨HV.out.1, Int.le_trans HV.out.2.1 (by decide)⟩) HS2.out.1).mono ?_
         rintro e w' ⟨⟨q, rfl, q0, q1, qs⟩, rfl⟩
         have HQ := Lib.hid (show (0 ≤ q ∧ q ≤ 1099511627776) ∧ (q ≤ 20000 → (x.n : Int) ≤ q ∧ ∀ o ∈ x.os.take (k + 1), smO o) from ⟨⟨q0, q1⟩, fun hq => by
          rw [HO.out]
          exact sm_step HS2.out.2 HV.out qs hq HK.out.2⟩)
         have HB10 := Lib.hid (show Below w8.heap.size w8 (w9.alloc (.cells #[.int .i64 v] 3)) from HB9.out.alloc HB9.out.size _)
         clear q0 q1 qs
         go_wp2_with fail
         go_roundw
         case rel => exact ⟨k + 1, HK.out.1, int_succ (by first | rfl | exact m3), HB10, q, rfl, HQ⟩
         case measure => (try rw [m3]); exact sub_lt1 (x := (k : Int) + 1) HK.out.1 rfl
       · have t0 : decide (s2 ≤ 20000) = false := decide_eq_false hs2
         have t1 : (20000 : Int) < s2 := by omega
         clear hop2
         go_wp2_with fail
         go_ret
         exact ⟨⟨false, rfl, fun q => by cases q⟩, HW8.out.trans (HW2.out.mono HW8.out.size)⟩
     · obtain rfl : k = x.n := Nat.le_antisymm hk hkg
       clear hop2
       by_cases hs2 : s2 ≤ 20000
       · have t0 : decide (s2 ≤ 20000) = true := decide_eq_true hs2
         have t1 : ¬ (20000 : Int) < s2 := by omega
         have HQ := Lib.hid (show (0 ≤ s2 ∧ s2 ≤ 1099511627776) ∧ ∀ y ∈ l.take (i + 1), smX y from ⟨HS2.out.1, fun y hy => by
          rw [List.take_add_one, List.getElem?_eq_getElem (Nat.lt_of_lt_of_eq HC.out.2.2.1 HN.out.1.symm), HC.out.1] at hy
          rcases List.mem_append.1 hy with r | r
          · exact HS.out.2 y r
          · obtain rfl : y = x := by simpa using r
            obtain ⟨a1, a2⟩ := HS2.out.2 hs2
            exact ⟨by omega, fun o ho => a2 o (by rw [List.take_of_length_le (Nat.le_of_eq HC.out.2.2.2.1.len)]; exact ho)⟩⟩)
         go_wp2_with fail
         go_roundw
         case rel => exact ⟨i + 1, HC.out.2.2.1, int_succ (by first | rfl | exact m2), Lib.hid (HW8.out.trans (HW2.out.mono HW8.out.size)), s2, rfl, HQ⟩
         case measure => (try rw [m2]); exact sub_lt1 (x := (i : Int) + 1) HC.out.2.2.1 rfl
       · have t0 : decide (s2 ≤ 20000) = false := decide_eq_false hs2
         have t1 : (20000 : Int) < s2 := by omega
         go_wp2_with fail
         go_ret
         exact ⟨⟨false, rfl, fun q => by cases q⟩, HW8.out.trans (HW2.out.mono HW8.out.size)⟩
  · obtain rfl : i = n := Nat.le_antisymm hi hge
    have HF := Lib.hid (show ∀ x ∈ l, smX x from fun x hx => HS.out.2 x (by rw [List.take_of_length_le (Nat.le_of_eq HN.out.1)]; exact hx))
    go_wp2_with fail
    go_ret
    exact ⟨⟨_, rfl, fun q => ⟨by have := of_decide_eq_true q; omega, HF.out⟩⟩, HW.out⟩
end
section
open Go.RowKit Go.Maps
theorem least_any (w : World) : Calls Tryz.prog 9 #[] w fun e w' => e = .returned (.agg #[.int .i64 8, .int .i64 96]) ∧ Below w.heap.size w w' := by
 obtain ⟨g1, w1, hzw1, hw1, Bw1, bw1⟩ := alloc_of w 36 [.int .i64 0, .int .i64 0]
 obtain ⟨c0, c1⟩ := Bw1.c2
 have f0 := Bw1.free 0
 have f1 := Bw1.free 1
 obtain ⟨w2, hw2⟩ : ∃ w2, (w1.setCell ⟨g1, 0, none⟩ (.int .i64 8)).setCell ⟨g1, 1, none⟩ (.int .i64 96) = w2 := ⟨_, rfl⟩
 have HE := Lib.hid (show Bk w2 g1 36 [.int .i64 8, .int .i64 96] ∧ Below w.heap.size w w2 from ⟨by rw [← hw2]; exact (Bw1.set 0 _).set 1 _, by rw [← hw2]; exact (bw1.setCell (p := ⟨g1, 0, none⟩) (Nat.le_of_eq hzw1) _).setCell (p := ⟨g1, 1, none⟩) (Nat.le_of_eq hzw1) _⟩)
 clear Bw1 bw1
 go_enter Tryz.func9, Tryz.ntmps9
 go_wp2_with fail
 refine bodyPost_ret (res_geo rfl _ _ _ _ (by rfl) HE.out.1) rfl ?_
 exact ⟨rfl, HE.out.2⟩
theorem tbegin_any (w : World) : Calls Tryz.prog 6 #[] w fun e w' => ∃ sb, e = .returned (.tuple #[.pointer (some ⟨sb, 0, none⟩), .bool true]) ∧ ∃ F, SchB w' F sb ss0 0 ∧ Below w.heap.size w w' ∧ ∀ b, F b → w.heap.size ≤ b := by
 have hl := least_any w
 go_enter Tryz.func6, Tryz.ntmps6
 go_wp2_with fail
 refine hl.mono ?_
 rintro e w1 ⟨rfl, hb1⟩
 have hn := scNew w1
 have H1 := Lib.hid hb1
 clear hl hb1
 go_wp2_with fail
 refine hn.mono ?_
 rintro e w2 ⟨sb, rfl, F, hB, hb2, hF⟩
 have HE := Lib.hid (And.intro hB (And.intro (H1.out.trans (hb2.mono H1.out.size)) (fun (b : Nat) (q : F b) => Nat.le_trans H1.out.size (hF b q))))
 clear hn hB hb2 hF
 go_wp2_with fail
 go_ret2
 exact ⟨sb, rfl, F, HE.out⟩
def tfR (s : SS) (r : Int) (s' : SS) : Prop := ∃ pos' m', flR s.m s.pos r pos' m' ∧ ((r ≠ 9 ∧ s' = { s with m := m', pos := pos', ev := s.ev + 1 }) ∨ (r = 9 ∧ s' = { s with m := m', pos := 0, ev := s.ev + 1 + 1 }))
theorem tflush_any {w : World} {F : Foot} {sb g : Nat} {s : SS} (h : SchB w F sb s g) (hg : g + 1 + 1 ≤ 700) : Calls Tryz.prog 26 #[.pointer (some ⟨sb, 0, none⟩)] w fun e w' => ∃ r : Int, e = .returned (.int .i64 r) ∧ ∃ s', tfR s r s' ∧ SchR w w' F sb s' (g + 1 + 1) := by
 have hf := scFlush h (Nat.le_of_succ_le hg)
 have HG := Lib.hid hg
 go_enter Tryz.func26, Tryz.ntmps26
 go_wp2_with fail
 refine hf.mono ?_
 rintro e w1 ⟨r, rfl, pos', m', hr, hsr⟩
 clear hf
 by_cases h9 : r = 9
 · subst h9
   obtain ⟨F1, hB, hk, hs, hi⟩ := hsr
   have hc := scCheck hB HG.out
   have H1 := Lib.hid (And.intro hr (And.intro hk (And.intro hs hi)))
   clear hr hk hs hi hB hg h
   go_wp2_with fail
   refine hc.mono ?_
   rintro e w2 ⟨rfl, F2, h1, h2, h3, h4⟩
   have HE := Lib.hid (show ∃ s', tfR s 9 s' ∧ SchR w w2 F sb s' (g + 1 + 1) from ⟨_, ⟨pos', m', H1.out.1, .inr ⟨rfl, rfl⟩⟩, F2, h1, H1.out.2.1.trans h2 H1.out.2.2.1, Sb.trans H1.out.2.2.1 h3 H1.out.2.1.size, h4⟩)
   clear hc h1 h2 h3 h4
   go_wp2_with fail
   go_ret
   exact ⟨9, rfl, HE.out⟩
 · have HE := Lib.hid (show ∃ s', tfR s r s' ∧ SchR w w1 F sb s' (g + 1 + 1) from ⟨_, ⟨pos', m', hr, .inl ⟨h9, rfl⟩⟩, hsr.up HG.out⟩)
   clear hr hsr hg h
   go_wp2_with fail
   go_ret
   exact ⟨r, rfl, HE.out⟩
def SmS (s : SS) : Prop := ∀ c ∈ s.cls, ∀ o ∈ c.ops, o.n ≤ 20000
theorem sm_ad {s s' : SS} {j : Nat} {cl : CLD} {os : List OpD} {r : Int} (h : SmS s) (hj : s.cls[j]? = some cl) (ho : ∀ o ∈ os, o.n ≤ 20000 ∧ o.ps.length = o.n) (hp : ∀ c ∈ s'.cls, ∀ o ∈ c.ops, o.ps.length = o.n) (ha : adR s j cl os r s') : SmS s' := by
 rcases ha with ⟨_, _, rfl⟩ | ⟨_, _, ov', os', hs, rfl⟩
 · exact h
 · intro c hc o hm
   rcases List.mem_or_eq_of_mem_set hc with q | rfl
   · exact h c q o hm
   · rcases List.mem_append.1 hm with q | q
     · exact h cl (List.mem_of_getElem? hj) o q
     · have hl := hp _ hc o hm
       have : o.key ∈ os'.map OpD.key := List.mem_map.2 ⟨o, q, rfl⟩
       rw [show os'.map OpD.key = os.map OpD.key from hs] at this
       obtain ⟨y, hy, e⟩ := List.mem_map.1 this
       unfold OpD.key at e
       injection e with _ e
       injection e with _ e
       injection e with _ e
       injection e with _ e
       have e2 := congrArg List.length e
       rw [List.length_map, List.length_map, (ho y hy).2, hl] at e2
       rw [← e2]; exact (ho y hy).1
theorem sm_st {s s' : SS} {j : Nat} {cl : CLD} {r : Int} (h : SmS s) (hj : s.cls[j]? = some cl) (hs : stR s j cl r s') : SmS s' := by
 rcases hs with ⟨_, _, rfl⟩ | ⟨o, l, s2, ok, cl2, ho, hd, hj2, _, hr⟩
 · exact h
 · obtain ⟨c2, hc2, _, _, _, e4, _⟩ := do_cl (s := { s with ev := s.ev + 1 }) hj hd
   rw [hj2] at hc2
   injection hc2 with hc2
   subst hc2
   have h2 : SmS s2 := by
    intro c hc o' ho'
    rcases hd with ⟨_, _, ⟨_, rfl⟩ | ⟨e, bv', rfl⟩⟩ | ⟨_, _, rfl, _⟩ | ⟨i, k, b, t, _, _, _, _, hc'⟩
    · exact h c hc o' ho'
    · rcases List.mem_or_eq_of_mem_set hc with q | rfl
      · exact h c q o' ho'
      · exact h cl (List.mem_of_getElem? hj) o' ho'
    · exact h c hc o' ho'
    · have e : s2.cls = s.cls := by
       rcases hc' with ⟨_, _, rfl⟩ | ⟨_, _, r, m', _, rfl⟩ | ⟨_, r, m', t', _, _, ⟨_, _, _, rfl⟩ | ⟨_, _, rfl⟩ | ⟨_, _, rfl⟩⟩ | ⟨_, _, r, m', _, rfl | rfl⟩ <;> rfl
      rw [e] at hc
      exact h c hc o' ho'
   rcases hr with ⟨_, _, rfl⟩ | ⟨_, _, ov', av', rfl⟩
   · intro c hc o' ho'
     rcases List.mem_or_eq_of_mem_set hc with q | rfl
     · exact h2 c q o' ho'
     · exact h2 cl2 (List.mem_of_getElem? hj2) o' ho'
   · intro c hc o' ho'
     rcases List.mem_or_eq_of_mem_set hc with q | rfl
     · exact h2 c q o' ho'
     · exact h2 cl2 (List.mem_of_getElem? hj2) o' (by rw [e4, ho]; exact List.mem_cons_of_mem _ ho')
end
section
open Go.RowKit Go.Maps
theorem sch_ps {w : World} {F : Foot} {sb g : Nat} {s : SS} (h : SchB w F sb s g) : ∀ c ∈ s.cls, ∀ o ∈ c.ops, o.ps.length = o.n := fun c hc o ho => by
 obtain ⟨Ft, st, gd, alv, hx⟩ := h.x
 obtain ⟨j, hj⟩ := List.getElem?_of_mem hc
 exact ((hx.cl j c hj).puts o ho).len
def onR (w w' : World) (F : Foot) (sb g : Nat) (s : SS) (kd : Int) (e : Ending) : Prop := e = .returned (.tuple #[]) ∧ ∃ s', SmS s' ∧ (kd ≠ 3 → s'.pos ≤ s.pos) ∧ SchR w w' F sb s' (g + 1 + 1)
theorem ad_pos {s s' : SS} {j : Nat} {cl : CLD} {os : List OpD} {r : Int} (ha : adR s j cl os r s') : s'.pos ≤ s.pos := by rcases ha with ⟨_, _, rfl⟩ | ⟨_, _, ov', os', hs, rfl⟩ <;> exact Nat.le_refl _
theorem st_pos {s s' : SS} {j : Nat} {cl : CLD} {r : Int} (hs : stR s j cl r s') : s'.pos ≤ s.pos := by
 rcases hs with ⟨_, _, rfl⟩ | ⟨o, l, s2, ok, cl2, ho, hd, hj2, _, hr⟩
 · exact Nat.le_refl _
 · have h2 : s2.pos = s.pos := by
    rcases hd with ⟨_, _, ⟨_, rfl⟩ | ⟨e, bv', rfl⟩⟩ | ⟨_, _, rfl, _⟩ | ⟨i, k, b, t, _, _, _, _, hc'⟩
    · rfl
    · rfl
    · rfl
    · rcases hc' with ⟨_, _, rfl⟩ | ⟨_, _, r, m', _, rfl⟩ | ⟨_, r, m', t', _, _, ⟨_, _, _, rfl⟩ | ⟨_, _, rfl⟩ | ⟨_, _, rfl⟩⟩ | ⟨_, _, r, m', _, rfl | rfl⟩ <;> rfl
   rcases hr with ⟨_, _, rfl⟩ | ⟨_, _, ov', av', rfl⟩ <;> exact Nat.le_of_eq h2
theorem on_pre {w w1 w' : World} {F : Foot} {sb g : Nat} {s s' : SS} {kd : Int} (hb : Below w.heap.size w w1) (hs : SmS s') (hp : kd ≠ 3 → s'.pos ≤ s.pos) (h : SchR w1 w' F sb s' (g + 1 + 1)) : onR w w' F sb g s kd (.returned (.tuple #[])) := ⟨rfl, s', hs, hp, h.pre hb⟩
theorem sm_cls {s s' : SS} (h : SmS s) (e : s'.cls = s.cls) : SmS s' := fun c hc => h c (e ▸ hc)
theorem client_at {w : World} {F : Foot} {sb g : Nat} {s : SS} (h : SchB w F sb s g) {k : Int} (hk : ¬ (k < 1 ∨ 8 < k)) : ∃ (j : Nat) (cl : CLD), k = (j : Int) + 1 ∧ s.cls[j]? = some cl := by
 have h8 := h.c8
 have hl : (k - 1).toNat < s.cls.length := by omega
 exact ⟨(k - 1).toNat, _, by omega, List.getElem?_eq_getElem hl⟩
theorem one_any {w : World} {F G : Foot} {sb g : Nat} {s : SS} (h : SchB w F sb s g) (hg : g + 1 + 1 ≤ 700) (hs : SmS s) (kd cl : Int) {A : Option Addr} {n c : Nat} {os : List OpD} (N : Int) (pA : Option Addr) (pn pc : Nat) (tA : Option Addr) (tn tc : Nat) (ho : IsOps w G A n c os) (hd : Dis G F) (hG : In w G) (hn : n ≤ 20000) (hq : ∀ o ∈ os, smO o) :
  Calls Tryz.prog 12 #[.pointer (some ⟨sb, 0, none⟩), .agg #[.int .i64 kd, .int .i64 cl, .slice A n c, .int .i64 N, .slice pA pn pc, .slice tA tn tc]] w fun e w' => onR w w' F sb g s kd e := by
 obtain ⟨g3, w1, hzw1, hw1, Bw1, bw1⟩ := alloc_of w 31 [.int .i64 kd, .int .i64 cl, .slice A n c, .int .i64 N, .slice pA pn pc, .slice tA tn tc]
 have h1 := h.next bw1
 have ho1 := ho.ag (.of_below bw1)
 have HG := Lib.hid (And.intro h1 (And.intro hs (And.intro bw1 (And.intro ho1 (And.intro (hG.next bw1.size) (And.intro hd (And.intro hn (And.intro hq hg))))))))
 obtain ⟨c0, c1, c2, c3, c4, c5⟩ := Bw1.c6
 clear h ho hs hG hd hn hq bw1 Bw1 h1 ho1 hg
 have fin : ∀ (s' : SS) (w' : World), SmS s' → (kd ≠ 3 → s'.pos ≤ s.pos) → SchR w1 w' F sb s' (g + 1 + 1) → onR w w' F sb g s kd (.returned (.tuple #[])) := fun s' w' a p b => on_pre HG.out.2.2.1 a p b
 have HF := Lib.hid fin
 have HS0 := Lib.hid (show onR w w1 F sb g s kd (.returned (.tuple #[])) from fin s w1 HG.out.2.1 (fun _ => Nat.le_refl _) (((SchR.same0 HG.out.1 (Below.refl _ _)).up (Nat.le_of_succ_le HG.out.2.2.2.2.2.2.2.2)).up HG.out.2.2.2.2.2.2.2.2))
 clear fin
 by_cases k1 : kd = 1
 · subst k1
   by_cases hc : cl < 1 ∨ 8 < cl
   · have hcall := scAdd_none HG.out.1 hc A n c
     clear hc
     go_enter Tryz.func12, Tryz.ntmps12
     go_wp2_with fail
     refine hcall.mono ?_
     rintro e w' ⟨rfl, rfl⟩
     clear hcall
     go_wp2_with fail
     go_end0
     exact HS0.out
   · obtain ⟨j, cld, rfl, hj⟩ := client_at HG.out.1 hc
     have hcall := scAdd HG.out.1 hj HG.out.2.2.2.1 HG.out.2.2.2.2.2.1 HG.out.2.2.2.2.1 HG.out.2.2.2.2.2.2.1 (fun o hm => HG.out.2.2.2.2.2.2.2.1 o hm)
     have HJ := Lib.hid hj
     clear hc hj
     go_enter Tryz.func12, Tryz.ntmps12
     go_wp2_with fail
     refine hcall.mono ?_
     rintro e w2 ⟨r, rfl, s', ha, hr⟩
     have HE := Lib.hid (HF.out s' w2 (by
      obtain ⟨F', hB', _⟩ := id hr
      exact sm_ad HG.out.2.1 HJ.out (fun o hm => ⟨(HG.out.2.2.2.2.2.2.2.1 o hm).1, (HG.out.2.2.2.1.ps o hm).len⟩) (sch_ps hB') ha) (fun _ => ad_pos ha) ((hr.up (Nat.le_of_succ_le HG.out.2.2.2.2.2.2.2.2)).up HG.out.2.2.2.2.2.2.2.2))
     clear hcall ha hr
     go_wp2_with fail
     go_end0
     exact HE.out
 · by_cases k2 : kd = 2
   · subst k2
     by_cases hc : cl < 1 ∨ 8 < cl
     · have hcall := scStep_none HG.out.1 hc
       clear hc k1
       go_enter Tryz.func12, Tryz.ntmps12
       go_wp2_with fail
       refine hcall.mono ?_
       rintro e w2 ⟨⟨av, rfl⟩, hb⟩
       have HE := Lib.hid (HF.out s w2 HG.out.2.1 (fun _ => Nat.le_refl _) (((SchR.same0 HG.out.1 hb).up (Nat.le_of_succ_le HG.out.2.2.2.2.2.2.2.2)).up HG.out.2.2.2.2.2.2.2.2))
       clear hcall hb
       go_wp2_with fail
       go_end0
       exact HE.out
     · obtain ⟨j, cld, rfl, hj⟩ := client_at HG.out.1 hc
       have hcall := scStep HG.out.1 HG.out.2.2.2.2.2.2.2.2 hj (HG.out.2.1 cld (List.mem_of_getElem? hj))
       have HJ := Lib.hid hj
       clear hc hj k1
       go_enter Tryz.func12, Tryz.ntmps12
       go_wp2_with fail
       refine hcall.mono ?_
       rintro e w2 ⟨r, ⟨av, rfl⟩, s', hst, hr⟩
       have HE := Lib.hid (HF.out s' w2 (sm_st HG.out.2.1 HJ.out hst) (fun _ => st_pos hst) hr)
       clear hcall hst hr
       go_wp2_with fail
       go_end0
       exact HE.out
   · by_cases k3 : kd = 3
     · subst k3
       have hcall := tflush_any HG.out.1 HG.out.2.2.2.2.2.2.2.2
       clear k1 k2
       go_enter Tryz.func12, Tryz.ntmps12
       go_wp2_with fail
       refine hcall.mono ?_
       rintro e w2 ⟨r, rfl, s', htf, hr⟩
       have HE := Lib.hid (HF.out s' w2 (sm_cls HG.out.2.1 (by obtain ⟨_, _, _, ⟨_, rfl⟩ | ⟨_, rfl⟩⟩ := htf <;> rfl)) (fun q => absurd rfl q) hr)
       clear hcall htf hr
       go_wp2_with fail
       go_end0
       exact HE.out
     · by_cases k4 : kd = 4
       · subst k4
         have hcall := scCheck HG.out.1 (Nat.le_of_succ_le HG.out.2.2.2.2.2.2.2.2)
         clear k1 k2 k3
         go_enter Tryz.func12, Tryz.ntmps12
         go_wp2_with fail
         refine hcall.mono ?_
         rintro e w2 ⟨rfl, hr⟩
         have HE := Lib.hid (HF.out _ w2 (by exact sm_cls HG.out.2.1 rfl) (by exact fun _ => Nat.zero_le _) (hr.up HG.out.2.2.2.2.2.2.2.2))
         clear hcall hr
         go_wp2_with fail
         go_end0
         exact HE.out
       · by_cases k5 : kd = 5
         · subst k5
           have hcall := scClean HG.out.1 (Nat.le_of_succ_le HG.out.2.2.2.2.2.2.2.2)
           clear k1 k2 k3 k4
           go_enter Tryz.func12, Tryz.ntmps12
           go_wp2_with fail
           refine hcall.mono ?_
           rintro e w2 ⟨⟨r, rfl⟩, hr⟩
           have HE := Lib.hid (HF.out _ w2 (by exact sm_cls HG.out.2.1 rfl) (by exact fun _ => Nat.le_refl _) (hr.up HG.out.2.2.2.2.2.2.2.2))
           clear hcall hr
           go_wp2_with fail
           go_end0
           exact HE.out
         · by_cases k6 : kd = 6
           · subst k6
             clear k1 k2 k3 k4 k5
             go_enter Tryz.func12, Tryz.ntmps12
             go_wp2_with fail
             refine (scReadOnly HG.out.1 (Nat.le_of_succ_le HG.out.2.2.2.2.2.2.2.2) _).mono ?_
             rintro e w2 ⟨rfl, hr⟩
             have HE := Lib.hid (HF.out _ w2 (by exact sm_cls HG.out.2.1 rfl) (by exact fun _ => Nat.le_refl _) (hr.up HG.out.2.2.2.2.2.2.2.2))
             clear hr
             go_wp2_with fail
             go_end0
             exact HE.out
           · skip
             go_enter Tryz.func12, Tryz.ntmps12
             go_wp2_with fail
             go_end0
             exact HS0.out
end
section
open Go.RowKit Go.Maps
def Pow (w : World) : Prop := Lib.TabIs Tryz.prog w "internal/strconv.uint64pow10" .u64 Lib.pow10Tab
theorem Pow.next {w w' : World} (h : Pow w) (hb : Below w.heap.size w w') : Pow w' := Lib.tabBelow_of_tabIs h w' hb
theorem hist_at {w : World} {B hB n c : Nat} {hs : List HD} (ho : w.ownsRow B 59 7 (.slice (some ⟨hB, 0, none⟩) n c) n (hs.flatMap HD.cells)) {k : Nat} {x : HD} (hk : hs[k]? = some x) :
  w.cell? ⟨hB, k * 7, none⟩ = some (.int .i64 (x.t.st : Int)) ∧ w.cell? ⟨hB, k * 7 + 1, none⟩ = some (.int .i64 (x.t.at' : Int)) ∧ w.cell? ⟨hB, k * 7 + 2, none⟩ = some (.int .i64 (x.t.time : Int)) ∧ w.cell? ⟨hB, k * 7 + 3, none⟩ = some (.int .i64 (x.b.fr : Int)) ∧ w.cell? ⟨hB, k * 7 + 4, none⟩ = some (.int .i64 (x.b.til : Int)) ∧ w.cell? ⟨hB, k * 7 + 6, none⟩ = some (.slice x.pA x.t.keys.length x.pc) := by
 have hl := get_lt hk
 have key : ∀ j u, j < 7 → x.cells[j]? = some u → w.cell? ⟨hB, k * 7 + j, none⟩ = some u := fun j u hj hu => by
  have := ho.cells (g := hB) rfl (k * 7 + j) u (by
   rw [flat_get hd_seven hl hj]
   rw [List.getElem?_eq_getElem hl] at hk
   rw [Option.some.inj hk]; exact hu)
  rw [Addr.add_lit, Nat.zero_add] at this
  exact this
 exact ⟨key 0 _ (by decide) rfl, key 1 _ (by decide) rfl, key 2 _ (by decide) rfl, key 3 _ (by decide) rfl, key 4 _ (by decide) rfl, key 6 _ (by decide) rfl⟩
def AwakeTrue : Prop := ∀ w, Pow w → Calls Tryz.prog 5 #[] w fun e w' => e = .returned (.bool true) ∧ Below w.heap.size w w'
end
end Go.Proofs.YthhndleddlmgiaaGreatDoor.Tp
namespace Go.Proofs.YthhndleddlmgiaaGreatDoor.Ro
set_option maxHeartbeats 8000000
set_option maxRecDepth 100000
set_option linter.unusedSimpArgs false
set_option linter.unusedVariables false
section
open Go.RowKit
theorem tmod_gt (k : Int) (n : Nat) (h : 0 < n) : -(n : Int) < k.tmod n := by
 have h1 := Int.natAbs_tmod (a := k) (b := n)
 have h2 := Nat.mod_lt k.natAbs h
 rw [Int.natAbs_natCast] at h1
 omega
theorem round_lt (k : Int) (n : Nat) (h : 0 < n) : ∃ j : Nat, j < n ∧ (if k.tmod n < 0 then k.tmod n + n else k.tmod n) = (j : Int) := by
 have h1 := Int.tmod_lt_of_pos k (show (0 : Int) < n by omega)
 have h2 := tmod_gt k n h
 by_cases h0 : k.tmod n < 0
 · exact ⟨(k.tmod n + n).toNat, by omega, by rw [if_pos h0]; omega⟩
 · exact ⟨(k.tmod n).toNat, by omega, by rw [if_neg h0]; omega⟩
theorem round_any (k : Int) (n : Nat) (w : World) (h : 0 < n) (hn : n ≤ 1000000) (hk : (Lit.int .i64 k).wf = true) :
  Calls Tryz.prog 53 #[.int .i64 k, .int .i64 n] w fun e w' => (∃ j : Nat, j < n ∧ e = .returned (.int .i64 j)) ∧ w = w' := by
 obtain ⟨j, hj, e⟩ := round_lt k n h
 have h1 := Int.tmod_lt_of_pos k (show (0 : Int) < n by omega)
 have h2 := tmod_gt k n h
 have n0 : ((n : Int) == 0) = false := beq_eq_false_iff_ne.2 (by omega)
 have n1 : ¬ (n : Int) = 0 := by omega
 have HJ := Lib.hid e
 clear e
 have hk1 : -9223372036854775808 ≤ k ∧ k ≤ 9223372036854775807 := by simpa [Lit.wf, IntKind.min, IntKind.max, IntKind.bits, IntKind.signed] using hk
 obtain ⟨hk1, hk2⟩ := hk1
 clear hk
 have w0 : IntKind.i64.wrap (k.tmod n) = k.tmod n := IntWalk.i64_in _ (by omega)
 obtain ⟨r, hr⟩ : ∃ r, k.tmod n = r := ⟨_, rfl⟩
 rw [hr] at h1 h2 w0 HJ
 by_cases h0 : r < 0
 · have t0 : decide (r < 0) = true := decide_eq_true h0
   go_enter Tryz.func53, Tryz.ntmps53
   go_wp2_with fail
   go_ret
   exact ⟨⟨j, hj, ret_int (by have := HJ.out; rw [if_pos h0] at this; exact this)⟩, rfl⟩
 · have t0 : decide (r < 0) = false := decide_eq_false h0
   go_enter Tryz.func53, Tryz.ntmps53
   go_wp2_with fail
   go_ret
   exact ⟨⟨j, hj, ret_int (by have := HJ.out; rw [if_neg (by omega)] at this; exact this)⟩, rfl⟩
end
end Go.Proofs.YthhndleddlmgiaaGreatDoor.Ro
namespace Go.Proofs.YthhndleddlmgiaaGreatDoor.Tp
set_option maxHeartbeats 8000000
set_option maxRecDepth 100000
set_option linter.unusedSimpArgs false
set_option linter.unusedVariables false
section
open Go.RowKit Go.Maps
theorem made40T : madeCells #[Value.int .u8 0] 40 = (List.replicate 40 (Value.int .u8 0)).toArray := by first | rfl | kernel_rfl
theorem wf_wrapT (x : Int) : (Lit.int .i64 (wrap64 x)).wf = true := by
 simp only [Lit.wf, IntKind.min, IntKind.max, IntKind.bits, IntKind.signed]
 simp
 unfold wrap64
 omega
def Is40 (w : World) (g : Nat) : Prop := ∃ bs : List Int, bs.length = 40 ∧ Bk w g 5 (bs.map (Value.int .u8)) ∧ ∀ x ∈ bs, 0 ≤ x ∧ x < 256
theorem Is40.y {w : World} {g : Nat} (h : Is40 w g) : ∃ bs, IsY w (some ⟨g, 0, none⟩) 40 40 bs := by
 obtain ⟨bs, h1, h2, h3⟩ := h
 have hy : Byt w 0 (.slice (some ⟨g, 0, none⟩) 40 40) bs := ⟨⟨by rw [List.length_map, h1], .inr ⟨g, 40, (bs.map (Value.int .u8)).toArray, by rw [h1], Nat.zero_le _, h2, by rw [h1]; exact Nat.le_refl _, by decide, by simp [h1], by simpa [h1] using List.take_of_length_le (l := bs.map (Value.int .u8)) (i := 40) (by rw [List.length_map, h1]; exact Nat.le_refl _)⟩⟩, h3⟩
 obtain ⟨A, c, e, hi⟩ := hy.isY
 rw [h1] at e hi
 injection e with e1 _ e3
 subst e1 e3
 exact ⟨bs, hi⟩
theorem run_make40T (W : World) : (Instr.makeSlice 47 (.int .i64 40) (.int .i64 40)).run Tryz.prog W = .ok (.slice (some ⟨W.heap.size, 0, none⟩) 40 40) (W.alloc (.cells (madeCells (Value.int .u8 0).cells 40) 5)) := by
 obtain ⟨i0, hi, hz0, hz1, hz2⟩ := info_parts infoB
 have h := run_make (P := Tryz.prog) W 47 5 i0 (.int .u8 0) Tryz.underlying47 hi hz0 .i64 .i64 40 40 (by omega) (by omega) (by rw [hz2]; omega) (by omega)
 rw [hz1] at h
 exact h
theorem ablock_any (s : Int) (w : World) :
  Calls Tryz.prog 30 #[.int .i64 40, .int .i64 s] w fun e w' => e = .returned (.slice (some ⟨w.heap.size, 0, none⟩) 40 40) ∧ Is40 w' w.heap.size ∧ Below w.heap.size w w' := by
 have hmk := run_make40T
 have hmx : max (40 : Int) 0 = 40 := by decide
 go_enter Tryz.func30, Tryz.ntmps30
 go_wp2_with fail
 go_loopw [6] (fun i wr => ∃ k : Nat, k ≤ 40 ∧ i = .int .i64 (k : Int) ∧ Hid (Is40 wr w.heap.size ∧ Below w.heap.size w wr)) (fun i _ => 40 - (intOf i).toNat)
 case atStart => exact ⟨0, by omega, rfl, Lib.hid ⟨⟨List.replicate 40 0, by simp, by rw [List.map_replicate]; exact made40T ▸ Bk.new w _ _, fun x hx => by have := List.eq_of_mem_replicate hx; omega⟩, (Below.refl _ _).alloc (Nat.le_refl _) _⟩⟩
 case round =>
  obtain ⟨k, hk, rfl, HY⟩ := hrel
  by_cases hlt : k < 40
  · obtain ⟨⟨bs, hd, hB, h1⟩, hb⟩ := HY.out
    have t0 : decide ((k : Int) < 40) = true := decide_eq_true (by omega)
    have n0 : (k : Int) < 40 := by omega
    have n1 : (0 : Int) ≤ (k : Int) := by omega
    have m2 : wrap64 ((k : Int) + 1) = (k : Int) + 1 := by unfold wrap64; omega
    have c0 := hB.cell (i := k) (by rw [List.length_map]; omega)
    rw [List.getElem_map] at c0
    obtain ⟨y, hy⟩ : ∃ y, bs[k]'(by omega) = y := ⟨_, rfl⟩
    rw [hy] at c0
    have f0 := hB.free k
    have HD := Lib.hid (And.intro hd (And.intro hB (And.intro h1 hb)))
    clear hd hB h1 hb hy
    go_wp2_with fail
    refine (Go.Proofs.YthhndleddlmgiaaGreatDoor.Ro.round_any _ 251 _ (by omega) (by omega) (wf_wrapT _)).mono ?_
    rintro e w' ⟨⟨j, hj, rfl⟩, rfl⟩
    have hw8 : IntKind.u8.wrap (j : Int) = (j : Int) := by simp [IntKind.wrap, IntKind.bits, IntKind.signed]; omega
    go_wp2_with fail
    go_roundw
    case rel => exact ⟨k + 1, hlt, int_succ (by first | rfl | exact m2), Lib.hid ⟨⟨bs.set k (j : Int), by rw [List.length_set]; exact HD.out.1, by rw [List.map_set]; exact HD.out.2.1.set k _, fun x hx => by
     rcases List.mem_or_eq_of_mem_set hx with g | g
     · exact HD.out.2.2.1 x g
     · omega⟩, HD.out.2.2.2.setCell (Nat.le_refl _) _⟩⟩
    case measure => (try rw [m2]); exact sub_lt1 (x := (k : Int) + 1) hlt rfl
  · obtain rfl : k = 40 := by omega
    go_wp2_with fail
    go_ret
    exact ⟨rfl, HY.out.1, HY.out.2⟩
theorem adata_any (s : Int) (w : World) :
  Calls Tryz.prog 16 #[.int .i64 s] w fun e w' => e = .returned (.slice (some ⟨w.heap.size, 0, none⟩) 40 40) ∧ Is40 w' w.heap.size ∧ Below w.heap.size w w' := by
 go_enter Tryz.func16, Tryz.ntmps16
 go_wp2_with fail
 refine (ablock_any _ _).mono ?_
 rintro e w' ⟨rfl, h1, h2⟩
 go_wp2_with fail
 go_ret
 exact ⟨rfl, h1, h2⟩
end
section
open Go.RowKit Go.Maps
theorem aw1 {s s' : SS} {c : CLD} {o : OpD} {l : List OpD} {r : Int} (hm : s.m = ms0) (hb : s.bg = []) (he : s.es = []) (hj : s.cls[0]? = some c) (ho : c.ops = o :: l) (hk : o.kind = 1) (hg : c.bgs = []) (h : stR s 0 c r s') :
  ∃ c', s'.cls[0]? = some c' ∧ c'.ops = l ∧ c'.bgs = [0] ∧ c'.asked = false ∧ s'.m = ms0.begin ∧ s'.bg = [⟨s.ev + 1, 0⟩] ∧ s'.ev = s.ev + 1 ∧ s'.pos = s.pos := by
 rcases h with ⟨e, _⟩ | ⟨o', l', s2, ok, cl2, e, hd, hj2, _, hr⟩
 · rw [ho] at e; cases e
 · rw [ho] at e
   injection e with e1 e2
   subst e1 e2
   rcases hd with ⟨_, rfl, ⟨hn, _⟩ | ⟨x, bv', rfl⟩⟩ | ⟨hn, _⟩ | ⟨i, k, b, t, _, q, _⟩
   · rw [show ({ s with ev := s.ev + 1 } : SS).m = s.m from rfl, hm] at hn
     exact absurd rfl hn
   · have hl := get_lt hj
     have e2 : cl2 = { c with bv := bv', bgs := c.bgs ++ [s.es.length] } := by
      have : (s.cls.set 0 { c with bv := bv', bgs := c.bgs ++ [s.es.length] })[0]? = some cl2 := hj2
      rw [List.getElem?_set, if_pos rfl, if_pos hl] at this
      exact (Option.some.inj this).symm
     rcases hr with ⟨q, _⟩ | ⟨_, _, ov', av', rfl⟩
     · cases q
     · refine ⟨_, by show ((s.cls.set 0 _).set 0 _)[0]? = _; rw [List.getElem?_set, if_pos rfl, if_pos (by rw [List.length_set]; exact hl)], rfl, ?_, rfl, ?_, ?_, rfl, rfl⟩
       · show cl2.bgs = _
         rw [e2]; show c.bgs ++ [s.es.length] = _; rw [hg, he]; rfl
       · show s.m.begin = _; rw [hm]
       · show s.bg ++ [_] = _; rw [hb]; rfl
   · exact absurd hk hn
   · rw [hg] at q; simp at q
theorem aw2 {s s' : SS} {c : CLD} {o : OpD} {l : List OpD} {r : Int} {t : TX} {b : BG} (hm : s.m.txs = [t]) (hb : s.bg = [b]) (hj : s.cls[0]? = some c) (ho : c.ops = o :: l) (hk : o.kind = 3) (hh : o.h = 0) (hn : o.n = 1) (hp : ∀ p ∈ o.ps, 0 ≤ p.lba ∧ p.lba < 258 ∧ p.n = 40) (hg : c.bgs = [0]) (hst : t.st = 1) (hks : t.keys = []) (h : stR s 0 c r s') :
  ∃ c' ks', s'.cls[0]? = some c' ∧ c'.ops = l ∧ c'.bgs = [0] ∧ c'.asked = false ∧ ks' ≠ [] ∧ s'.m = { s.m with txs := [{ t with keys := ks' }] } ∧ s'.bg = [b] ∧ s'.ev = s.ev + 1 ∧ s'.pos = s.pos := by
 rcases h with ⟨e, _⟩ | ⟨o', l', s2, ok, cl2, e, hd, hj2, hbg, hr⟩
 · rw [ho] at e; cases e
 · rw [ho] at e
   injection e with e1 e2
   subst e1 e2
   have hl := get_lt hj
   rcases hd with ⟨q, _⟩ | ⟨_, _, _, q⟩ | ⟨i, k, b', t', e1, e2, e3, e4, hc⟩
   · omega
   · have := q (.inr (.inl hk)) 0 hh
     rw [hg] at this; cases this
   · have hi : i = 0 := by omega
     subst hi
     rw [hg] at e2
     have hk0 : k = 0 := by simpa using e2.symm
     subst hk0
     have e4 : s.m.txs[0]? = some t' := e4
     rw [hm] at e4
     have ht : t = t' := by simpa using e4
     subst ht
     rcases hc with ⟨q, _⟩ | ⟨_, rfl, r', m', hw, rfl⟩ | ⟨q, _⟩ | ⟨q, _⟩
     · omega
     · rcases hw with ⟨q, _⟩ | ⟨_, ks', hm', _, hgood⟩
       · exact absurd hst q
       · obtain ⟨_, hne⟩ := hgood hks hn hp
         have ecl : cl2 = c := by
          have : s.cls[0]? = some cl2 := hj2
          rw [hj] at this; exact (Option.some.inj this).symm
         rcases hr with ⟨q, _⟩ | ⟨_, _, ov', av', rfl⟩
         · cases q
         · refine ⟨_, ks', by show (s.cls.set 0 _)[0]? = _; rw [List.getElem?_set, if_pos rfl, if_pos hl], rfl, by show cl2.bgs = _; rw [ecl]; exact hg, rfl, hne, ?_, hb, rfl, rfl⟩
           show m' = _
           rw [hm']
           show ({ s.m with txs := s.m.txs.set 0 _ } : MS) = _
           rw [hm]; rfl
     · omega
     · omega
theorem aw3 {s s' : SS} {c : CLD} {o : OpD} {l : List OpD} {r : Int} {t : TX} {b : BG} (hm : s.m.txs = [t]) (hq : s.m.queue = []) (hla : s.m.last = 0) (hrd : s.m.read = false) (hb : s.bg = [b]) (hj : s.cls[0]? = some c) (ho : c.ops = o :: l) (hk : o.kind = 4) (hh : o.h = 0) (hg : c.bgs = [0]) (has : c.asked = false) (hst : t.st = 1) (hks : t.keys ≠ []) (h : stR s 0 c r s') :
  ∃ c', s'.cls[0]? = some c' ∧ c'.ops = o :: l ∧ c'.bgs = [0] ∧ c'.asked = true ∧ s'.m = s.m.pend 0 t ∧ s'.bg = [b] ∧ s'.ev = s.ev + 1 ∧ s'.pos = s.pos := by
 rcases h with ⟨e, _⟩ | ⟨o', l', s2, ok, cl2, e, hd, hj2, hbg, hr⟩
 · rw [ho] at e; cases e
 · rw [ho] at e
   injection e with e1 e2
   subst e1 e2
   have hl := get_lt hj
   rcases hd with ⟨q, _⟩ | ⟨_, _, _, q⟩ | ⟨i, k, b', t', e1, e2, e3, e4, hc⟩
   · omega
   · have := q (.inr (.inr (.inl hk))) 0 hh
     rw [hg] at this; cases this
   · have hi : i = 0 := by omega
     subst hi
     rw [hg] at e2
     have hk0 : k = 0 := by simpa using e2.symm
     subst hk0
     have e4 : s.m.txs[0]? = some t' := e4
     rw [hm] at e4
     have ht : t = t' := by simpa using e4
     subst ht
     rcases hc with ⟨q, _⟩ | ⟨q, _⟩ | ⟨_, r', m', t2, hrel, ht2, hres⟩ | ⟨q, _⟩
     · omega
     · omega
     · rw [has] at hrel
       rcases hrel with ⟨q, _⟩ | ⟨_, hcm⟩
       · cases q
       · rcases hcm with ⟨q, _⟩ | ⟨_, ⟨q, _⟩ | ⟨_, ⟨_, q, _⟩ | ⟨hr0, hm'⟩⟩⟩
         · exact absurd hst q
         · exact absurd q hks
         · exact absurd ⟨hrd, hq, hla⟩ q
         · have hs2 : t2.st = 2 := by
            rw [hm'] at ht2
            have : (s.m.txs.set 0 _)[0]? = some t2 := ht2
            rw [hm] at this
            have e := Option.some.inj (show some _ = some t2 from this)
            rw [← e]
           rcases hres with ⟨hok, _, _, rfl⟩ | ⟨_, q, _⟩ | ⟨_, q, _⟩
           · have ecl : cl2 = c := by
              have : s.cls[0]? = some cl2 := hj2
              rw [hj] at this; exact (Option.some.inj this).symm
             rcases hr with ⟨_, _, rfl⟩ | ⟨q, _⟩
             · refine ⟨_, by show (s.cls.set 0 _)[0]? = _; rw [List.getElem?_set, if_pos rfl, if_pos hl], by show cl2.ops = _; rw [ecl]; exact ho, by show cl2.bgs = _; rw [ecl]; exact hg, rfl, hm', hb, rfl, rfl⟩
             · rw [hok] at q; cases q
           · omega
           · exact absurd hr0 q
     · omega
theorem aw4 {m m' : MS} {r : Int} {pos' : Nat} {t : TX} (hm : m.txs = [t]) (hq : m.queue = [0]) (hst : t.st = 2) (h : flR m 0 r pos' m') : r = 0 ∧ ∃ t', m'.txs = [t'] ∧ t'.st = 3 := by
 rcases h with ⟨q, _⟩ | ⟨_, n, L, h1, h2, h3, ⟨_, hr, _, hm'⟩ | ⟨q, _⟩⟩
 · rw [hq] at q; cases q
 · rw [hq] at h2
   have hn : n = 1 := by
    have : n ≤ 1 := h2
    omega
   subst hn
   refine ⟨hr, { t with st := 3 }, ?_, rfl⟩
   rw [hm']
   show (m.pop true).txs = _
   rw [pop_eq true hq (by rw [hm]; rfl), hm]; rfl
 · omega
theorem aw5 {s s' : SS} {c : CLD} {o : OpD} {l : List OpD} {r : Int} {t : TX} {b : BG} (hm : s.m.txs = [t]) (hb : s.bg = [b]) (hj : s.cls[0]? = some c) (ho : c.ops = o :: l) (hk : o.kind = 4) (hh : o.h = 0) (hg : c.bgs = [0]) (has : c.asked = true) (hst : t.st = 3) (h : stR s 0 c r s') :
  s'.m.txs = [t] ∧ s'.bg = [⟨b.fr, s.ev + 1⟩] := by
 rcases h with ⟨e, _⟩ | ⟨o', l', s2, ok, cl2, e, hd, hj2, hbg, hr⟩
 · rw [ho] at e; cases e
 · rw [ho] at e
   injection e with e1 e2
   subst e1 e2
   rcases hd with ⟨q, _⟩ | ⟨_, _, _, q⟩ | ⟨i, k, b', t', e1, e2, e3, e4, hc⟩
   · omega
   · have := q (.inr (.inr (.inl hk))) 0 hh
     rw [hg] at this; cases this
   · have hi : i = 0 := by omega
     subst hi
     rw [hg] at e2
     have hk0 : k = 0 := by simpa using e2.symm
     subst hk0
     have e4 : s.m.txs[0]? = some t' := e4
     have e3 : s.bg[0]? = some b' := e3
     rw [hm] at e4
     rw [hb] at e3
     have ht : t = t' := by simpa using e4
     have hbb : b = b' := by simpa using e3
     subst ht hbb
     rcases hc with ⟨q, _⟩ | ⟨q, _⟩ | ⟨_, r', m', t2, hrel, ht2, hres⟩ | ⟨q, _⟩
     · omega
     · omega
     · rw [has] at hrel
       rcases hrel with ⟨_, hr0, hm'⟩ | ⟨q, _⟩
       · have hm' : m' = s.m := hm'
         rw [hm', hm] at ht2
         have e : t = t2 := by simpa using ht2
         subst e
         rcases hres with ⟨_, _, q, _⟩ | ⟨hok, _, rfl⟩ | ⟨_, q, _⟩
         · omega
         · rcases hr with ⟨q, _⟩ | ⟨_, _, ov', av', rfl⟩
           · rw [hok] at q; cases q
           · refine ⟨by show m'.txs = _; rw [hm', hm], ?_⟩
             show s.bg.set 0 _ = _
             rw [hb]; rfl
         · exact absurd hr0 q
       · cases q
     · omega
end
section
open Go.RowKit Go.Maps
def PlayOk : Prop := ∀ w, Pow w → Calls Tryz.prog 19 #[.string ⟨#[115, 116, 97, 116, 10]⟩] w fun e w' => e = .returned (.string ⟨#[108, 97, 115, 116, 32, 48, 32, 111, 112, 101, 110, 32, 48, 32, 113, 117, 101, 117, 101, 32, 48, 32, 98, 108, 111, 99, 107, 115, 32, 50, 53, 56, 10]⟩) ∧ Below w.heap.size w w'
structure AwC (s : SS) (ops : List OpD) (bgs : List Nat) (asked : Bool) : Prop where
 c : ∃ c, s.cls[0]? = some c ∧ c.ops = ops ∧ c.bgs = bgs ∧ c.asked = asked
 sm : ∀ o ∈ ops, o.n ≤ 20000
 pos : s.pos = 0
structure AwW (b d : OpD) : Prop where
 k : b.kind = 3 ∧ b.h = 0 ∧ b.n = 1 ∧ ∀ p ∈ b.ps, 0 ≤ p.lba ∧ p.lba < 258 ∧ p.n = 40
 d : d.kind = 4 ∧ d.h = 0
def AwS : Nat → SS → Prop
 | 0, s => s.m = ms0 ∧ s.bg = [] ∧ s.es = [] ∧ s.ev = 0 ∧ ∃ a b d, AwC s [a, b, d] [] false ∧ a.kind = 1 ∧ AwW b d
 | 1, s => s.m = ms0.begin ∧ s.bg = [⟨1, 0⟩] ∧ s.ev = 1 ∧ ∃ b d, AwC s [b, d] [0] false ∧ AwW b d
 | 2, s => ∃ t : TX, s.m = { ms0.begin with txs := [t] } ∧ t.st = 1 ∧ t.keys ≠ [] ∧ s.bg = [⟨1, 0⟩] ∧ s.ev = 2 ∧ ∃ d, AwC s [d] [0] false ∧ d.kind = 4 ∧ d.h = 0
 | 3, s => ∃ t : TX, s.m.txs = [t] ∧ t.st = 2 ∧ s.m.queue = [0] ∧ s.bg = [⟨1, 0⟩] ∧ s.ev = 3 ∧ ∃ d, AwC s [d] [0] true ∧ d.kind = 4 ∧ d.h = 0
 | _, _ => False
theorem aw_step {i : Nat} {s : SS} (hi : i < 3) (h : AwS i s) : ∃ c, s.cls[0]? = some c ∧ (∀ o ∈ c.ops, o.n ≤ 20000) ∧ ∀ r s', stR s 0 c r s' → AwS (i + 1) s' := by
 match i with
 | 0 =>
   obtain ⟨h1, h2, h3, h4, a, b, d, ⟨⟨c, hj, ho, hg, ha⟩, hsm, hp⟩, hk, hw⟩ := h
   refine ⟨c, hj, by rw [ho]; exact hsm, fun r s' hs => ?_⟩
   obtain ⟨c', e1, e2, e3, e4, e5, e6, e7, e8⟩ := aw1 h1 h2 h3 hj ho hk hg hs
   rw [h4] at e6 e7
   exact ⟨e5, e6, e7, b, d, ⟨⟨c', e1, e2, e3, e4⟩, fun o q => hsm o (List.mem_cons_of_mem _ q), e8.trans hp⟩, hw⟩
 | 1 =>
   obtain ⟨h1, h2, h3, b, d, ⟨⟨c, hj, ho, hg, ha⟩, hsm, hp⟩, hw⟩ := h
   refine ⟨c, hj, by rw [ho]; exact hsm, fun r s' hs => ?_⟩
   obtain ⟨c', ks', e1, e2, e3, e4, e5, e6, e7, e8, e9⟩ := aw2 (t := ⟨1, 0, 0, []⟩) (by rw [h1]; rfl) h2 hj ho hw.k.1 hw.k.2.1 hw.k.2.2.1 hw.k.2.2.2 hg rfl rfl hs
   rw [h3] at e8
   exact ⟨_, by rw [e6, h1], rfl, e5, e7, e8, d, ⟨⟨c', e1, e2, e3, e4⟩, fun o q => hsm o (List.mem_cons_of_mem _ q), e9.trans hp⟩, hw.d⟩
 | 2 =>
   obtain ⟨t, h1, h2, h3, h4, h5, d, ⟨⟨c, hj, ho, hg, ha⟩, hsm, hp⟩, hk, hh⟩ := h
   refine ⟨c, hj, by rw [ho]; exact hsm, fun r s' hs => ?_⟩
   obtain ⟨c', e1, e2, e3, e4, e5, e6, e7, e8⟩ := aw3 (by rw [h1]) (by rw [h1]; rfl) (by rw [h1]; rfl) (by rw [h1]; rfl) h4 hj ho hk hh hg ha h2 h3 hs
   rw [h5] at e7
   exact ⟨⟨2, s.m.given + 1, t.at', t.keys⟩, by rw [e5]; show s.m.txs.set 0 _ = _; rw [h1]; rfl, rfl, by rw [e5]; show s.m.queue ++ [0] = _; rw [h1]; rfl, e6, e7, d, ⟨⟨c', e1, e2, e3, e4⟩, hsm, e8.trans hp⟩, hk, hh⟩
def AwI (w wr : World) (sb i : Nat) : Prop := ∃ s F, SchB wr F sb s (2 * i) ∧ AwS i s ∧ Below w.heap.size w wr ∧ ∀ b, F b → w.heap.size ≤ b
theorem AwI.step {w wr w' : World} {sb i : Nat} {F : Foot} {s' : SS} (hb : Below w.heap.size w wr) (hF : ∀ b, F b → w.heap.size ≤ b) (hs : AwS (i + 1) s') (h : SchR wr w' F sb s' (2 * i + 1 + 1)) : AwI w w' sb (i + 1) := by
 obtain ⟨F', h1, h2, h3, h4⟩ := h
 exact ⟨s', F', h1, hs, hb.trans (h2.below hF hb.size), fun b q => (h3 b q).elim (hF b) (Nat.le_trans hb.size)⟩
def awO (gd gp : Nat) (bs : List Int) : List OpD := [⟨1, 0, 0, 0, none, 0, 0, []⟩, ⟨3, 0, 0, 0, some ⟨gp, 0, none⟩, 1, 1, [⟨1, some ⟨gd, 0, none⟩, 40, 40, bs⟩]⟩, ⟨4, 0, 0, 0, none, 0, 0, []⟩]
theorem aw_ops {w : World} {gd gp gq : Nat} {bs : List Int} (hq : Bk w gq 45 ((awO gd gp bs).flatMap OpD.cells)) (hp : Bk w gp 50 [.int .i64 1, .slice (some ⟨gd, 0, none⟩) 40 40]) (hy : IsY w (some ⟨gd, 0, none⟩) 40 40 bs) :
  IsOps w (fun b => b = gq ∨ b = gp) (some ⟨gq, 0, none⟩) 3 3 (awO gd gp bs) := by
 refine ⟨rfl, hq.rd, fun o ho => ?_, Nat.le_refl _, by show (3:Nat) ≤ maxLen; decide, fun ad e _ => by injection e with e; subst e; exact .inl rfl, fun o ho ad e _ => ?_⟩
 · simp only [awO, List.mem_cons, List.not_mem_nil, or_false] at ho
   rcases ho with rfl | rfl | rfl
   · exact (IsPs.nil w).a _
   · refine IsPs.a (ps := [⟨1, some ⟨gd, 0, none⟩, 40, 40, bs⟩]) ⟨rfl, hp.rd, fun p hp => ?_, Nat.le_refl _, by show (1:Nat) ≤ maxLen; decide⟩ _
     obtain rfl : p = ⟨1, some ⟨gd, 0, none⟩, 40, 40, bs⟩ := by simpa using hp
     exact hy
   · exact (IsPs.nil w).a _
 · simp only [awO, List.mem_cons, List.not_mem_nil, or_false] at ho
   rcases ho with rfl | rfl | rfl
   · cases e
   · injection e with e; subst e; exact .inr rfl
   · cases e
theorem aw_added {w : World} {F : Foot} {sb g gd gp : Nat} {bs : List Int} {r : Int} {s' : SS} (hB : SchB w F sb s' g) (h : adR ss0 0 clz (awO gd gp bs) r s') : r = 0 ∧ AwS 0 s' := by
 rcases h with ⟨q, _⟩ | ⟨_, hr, ov', os', hs, rfl⟩
 · simp [clz, awO] at q
 · refine ⟨hr, rfl, rfl, rfl, rfl, ?_⟩
   have hl : os'.length = 3 := by have := congrArg List.length hs; simpa [awO] using this
   match os', hl with
   | [a, b, d], _ =>
     have hs' : [a.key, b.key, d.key] = (awO gd gp bs).map OpD.key := hs
     have hcl : (List.replicate 8 clz).set 0 { clz with ov := ov', ops := [] ++ [a, b, d] } = { clz with ov := ov', ops := [a, b, d] } :: List.replicate 7 clz := rfl
     have hps := sch_ps hB { clz with ov := ov', ops := [a, b, d] } (by show _ ∈ (List.replicate 8 clz).set 0 _; exact hcl ▸ List.mem_cons_self)
     have la := hps a (by simp)
     have lb := hps b (by simp)
     have ld := hps d (by simp)
     simp only [awO, List.map_cons, List.map_nil, OpD.key, List.cons.injEq, Prod.mk.injEq, and_true] at hs'
     obtain ⟨⟨a1, _, _, _, a5⟩, ⟨b1, b2, _, _, b5⟩, ⟨d1, d2, _, _, d5⟩⟩ := hs'
     have hna : a.n = 0 := by rw [← la]; have := congrArg List.length a5; simpa using this
     have hnb : b.n = 1 := by rw [← lb]; have := congrArg List.length b5; simpa using this
     have hnd : d.n = 0 := by rw [← ld]; have := congrArg List.length d5; simpa using this
     refine ⟨a, b, d, ⟨⟨{ clz with ov := ov', ops := [a, b, d] }, rfl, rfl, rfl, rfl⟩, fun o ho => ?_, rfl⟩, a1, ⟨⟨b1, b2, hnb, fun p hp => ?_⟩, d1, d2⟩⟩
     · simp only [List.mem_cons, List.not_mem_nil, or_false] at ho
       rcases ho with rfl | rfl | rfl <;> omega
     · have : (p.lba, p.n) ∈ b.ps.map fun p => (p.lba, p.n) := List.mem_map.2 ⟨p, hp, rfl⟩
       rw [b5] at this
       have e : (p.lba, p.n) = (1, 40) := by simpa using this
       injection e with e1 e2
       omega
end
section
open Go.RowKit Go.Maps
section
theorem awake_any (pl : PlayOk) : AwakeTrue := by
 intro w hw
 have hbg := tbegin_any w
 have HP := Lib.hid (And.intro pl hw)
 clear pl hw
 go_enter Tryz.func5, Tryz.ntmps5
 go_wp2_with fail
 refine hbg.mono ?_
 rintro e w2 ⟨sb, rfl, F, hB, hb2, hF⟩
 have HR := Lib.hid (And.intro hB (And.intro hb2 hF))
 clear hbg hB hb2 hF
 obtain ⟨gd, hgd⟩ : ∃ gd, w2.heap.size = gd := ⟨_, rfl⟩
 go_wp2_with fail
 refine (adata_any _ _).mono ?_
 rintro e w3 ⟨rfl, h40, hb3⟩
 rw [hgd] at h40
 obtain ⟨bs, hy⟩ := h40.y
 obtain ⟨gp, w4, hzw4, hw4, Bw4, bw4⟩ := alloc_of w3 50 [.int .i64 1, .slice (some ⟨gd, 0, none⟩) 40 40]
 obtain ⟨gq, w5, hzw5, hw5, Bw5, bw5⟩ := alloc_of w4 45 [.int .i64 1, .int .i64 0, .int .i64 0, .int .i64 0, .slice none 0 0, .int .i64 3, .int .i64 0, .int .i64 0, .int .i64 0, .slice (some ⟨gp, 0, none⟩) 1 1, .int .i64 4, .int .i64 0, .int .i64 0, .int .i64 0, .slice none 0 0]
 have hgp : gp = w3.heap.size := by omega
 have hgq : gq = w4.heap.size := by omega
 have hB5 := HR.out.1.next ((hb3.trans (bw4.mono hb3.size)).trans (bw5.mono (hb3.trans (bw4.mono hb3.size)).size))
 have hops : IsOps w5 (fun b => b = gq ∨ b = gp) (some ⟨gq, 0, none⟩) 3 3 (awO gd gp bs) := aw_ops Bw5 (Bw4.next bw5 Bw4.lt) ((hy.ag (F := fun _ => False) (.of_below bw4)).ag (F := fun _ => False) (.of_below bw5))
 have hlt : w2.heap.size ≤ w3.heap.size := hb3.size
 have hlt4 : w3.heap.size ≤ w4.heap.size := bw4.size
 have hcall := scAdd (j := 0) hB5 rfl hops (fun b q r => by have := HR.out.1.inn b r; rcases q with rfl | rfl <;> omega) (fun b q => by
  rcases q with rfl | rfl
  · exact Bw5.lt
  · exact (Bw4.next bw5 Bw4.lt).lt) (by decide) (fun o ho => by
  simp only [awO, List.mem_cons, List.not_mem_nil, or_false] at ho
  rcases ho with rfl | rfl | rfl
  · exact ⟨Nat.zero_le _, fun p hp => by cases hp⟩
  · refine ⟨by show (1:Nat) ≤ 20000; decide, fun p hp => ?_⟩
    obtain rfl : p = ⟨1, some ⟨gd, 0, none⟩, 40, 40, bs⟩ := by simpa using hp
    show (40 : Nat) ≤ 20000; decide
  · exact ⟨Nat.zero_le _, fun p hp => by cases hp⟩)
 have hb5 : Below w.heap.size w w5 := ((HR.out.2.1.trans (hb3.mono HR.out.2.1.size)).trans (bw4.mono (HR.out.2.1.trans (hb3.mono HR.out.2.1.size)).size)).trans (bw5.mono ((HR.out.2.1.trans (hb3.mono HR.out.2.1.size)).trans (bw4.mono (HR.out.2.1.trans (hb3.mono HR.out.2.1.size)).size)).size)
 have H5 := Lib.hid (And.intro hB5 hb5)
 clear hb5 hB5 hops h40 hy hb3 hlt hlt4 hgp hgq
 go_wp2_with fail
 refine hcall.mono ?_
 rintro e w6 ⟨r, rfl, s', ha, hr⟩
 obtain ⟨rfl, hs⟩ : r = 0 ∧ AwS 0 s' := by
  obtain ⟨F', h1, -⟩ := hr
  exact aw_added h1 ha
 have H0 := Lib.hid (show AwI w w6 sb 0 by
  obtain ⟨F', h1, h2, h3, h4⟩ := hr
  exact ⟨s', F', h1, hs, H5.out.2.trans (h2.below HR.out.2.2 H5.out.2.size), fun b q => (h3 b q).elim (HR.out.2.2 b) (Nat.le_trans H5.out.2.size)⟩)
 clear hcall ha hr hs hgd H5 HR bw4 bw5 Bw4 Bw5
 go_wp2_with fail
 go_loopw [3] (fun iv wr => ∃ i : Nat, i ≤ 3 ∧ iv = .int .i64 (i : Int) ∧ Hid (AwI w wr sb i)) (fun iv _ => 3 - (intOf iv).toNat)
 case atStart => exact ⟨0, Nat.zero_le _, rfl, H0⟩
 case round =>
  obtain ⟨i, hi, rfl, HY⟩ := hrel
  by_cases hlt : i < 3
  · obtain ⟨s, F2, hB, hss, hbr, hF2⟩ := HY.out
    obtain ⟨c, hj, hsm, hnx⟩ := aw_step hlt hss
    have hst := scStep (j := 0) hB (by omega) hj hsm
    have HC := Lib.hid (And.intro hbr (And.intro hF2 (And.intro hnx hlt)))
    have t0 : decide ((i : Int) < 3) = true := decide_eq_true (by omega)
    have n1 : (i : Int) < 3 := by omega
    have m2 : wrap64 ((i : Int) + 1) = (i : Int) + 1 := by unfold wrap64; omega
    clear hB hss hbr hF2 hj hsm hnx
    go_wp2_with fail
    refine hst.mono ?_
    rintro e w7 ⟨r, ⟨av, rfl⟩, s', hs', hr'⟩
    have HE := Lib.hid (AwI.step HC.out.1 HC.out.2.1 (HC.out.2.2.1 r s' hs') hr')
    clear hst hs' hr'
    go_wp2_with fail
    go_roundw
    case rel => exact ⟨i + 1, HC.out.2.2.2, int_succ (by first | rfl | exact m2), HE⟩
    case measure => (try rw [m2]); exact sub_lt1 (x := (i : Int) + 1) HC.out.2.2.2 rfl
  · obtain rfl : i = 3 := by omega
    obtain ⟨s, F2, hB, hss, hbr, hF2⟩ := HY.out
    obtain ⟨t, h1, h2, h3, h4, h5, d, ⟨⟨c, hj, ho, hg, ha⟩, hsm, hp⟩, hk, hh⟩ := hss
    have hfl := scFlush hB (by omega)
    have HC := Lib.hid (And.intro hbr (And.intro hF2 (And.intro h1 (And.intro h2 (And.intro h3 (And.intro h4 (And.intro hj (And.intro ho (And.intro hg (And.intro ha (And.intro hsm (And.intro hp (And.intro hk (And.intro hh h5))))))))))))))
    clear hB hbr hF2 h1 h2 h3 h4 h5 hj ho hg ha hsm hp hk hh
    go_wp2_with fail
    refine hfl.mono ?_
    rintro e w8 ⟨r, rfl, pos', m', hr, hsr⟩
    obtain ⟨hbr, hF2, h1, h2, h3, h4, hj, ho, hg, ha, hsm, hp, hk, hh, h5⟩ := HC.out
    obtain ⟨rfl, t', ht1, ht2⟩ := aw4 h1 h3 h2 (hp ▸ hr)
    obtain ⟨F3, hB3, k1, k2, k3⟩ := hsr
    have hst := scStep (j := 0) hB3 (by omega) hj (by rw [ho]; exact hsm)
    have b8 : Below w.heap.size w w8 := hbr.trans (k1.below hF2 hbr.size)
    have H8 := Lib.hid (And.intro b8 (fun (b : Nat) (q : F3 b) => (k2 b q).elim (hF2 b) (Nat.le_trans hbr.size)))
    have HT := Lib.hid (And.intro ht1 ht2)
    clear hbr hF2 h1 h2 h3 h4 hj ho hg ha hsm hp hk hh h5 hr hfl hB3 k1 k2 k3 b8 ht1 ht2
    go_wp2_with fail
    refine hst.mono ?_
    rintro e w9 ⟨r9, ⟨av, rfl⟩, s9, hs9, hr9⟩
    obtain ⟨hbr, hF2, h1, h2, h3, h4, hj, ho, hg, ha, hsm, hp, hk, hh, h5⟩ := HC.out
    obtain ⟨q1, q2⟩ := aw5 (s := { s with m := m', pos := pos', ev := s.ev + 1 }) HT.out.1 h4 hj ho hk hh hg ha HT.out.2 hs9
    obtain ⟨F4, hB4, l1, l2, l3⟩ := hr9
    have hhi := scHist hB4
    have b9 : Below w.heap.size w w9 := H8.out.1.trans (l1.below H8.out.2 H8.out.1.size)
    have H9 := Lib.hid (And.intro b9 (And.intro q1 (And.intro q2 h5)))
    clear hbr hF2 h1 h2 h3 h4 hj ho hg ha hsm hp hk hh h5 hst hs9 hB4 l1 l2 l3 b9 q1 q2
    go_wp2_with fail
    refine hhi.mono ?_
    rintro e w10 ⟨v, hs, rfl, hx⟩
    obtain ⟨b9, q1, q2, h5⟩ := H9.out
    have hbl : s9.bg.length = 1 := by rw [q2]; rfl
    rw [hbl] at hx
    obtain ⟨hBk, hc, rfl, -, -⟩ := hx.own.form (Nat.succ_pos 0)
    have hlen := hx.len
    obtain ⟨x, hxi⟩ : ∃ x, hs[0]? = some x := ⟨_, List.getElem?_eq_getElem (by omega)⟩
    obtain ⟨e1, e2⟩ := hx.at_ 0 x hxi
    rw [q1] at e1
    rw [q2] at e2
    injection e1 with e1
    injection e2 with e2
    have hst3 : (x.t.st : Int) = 3 := by rw [← e1, HT.out.2]; rfl
    have hto : (x.b.til : Int) = 5 := by rw [← e2, h5]; rfl
    obtain ⟨c0, -, -, -, c4, -⟩ := hist_at hx.own hxi
    rw [hst3] at c0
    rw [hto] at c4
    have hpl := HP.out.1 w10 (HP.out.2.next (b9.trans (hx.bel.mono b9.size)))
    have H10 := Lib.hid (b9.trans (hx.bel.mono b9.size))
    clear hhi b9 q1 q2 h5 hbl hx hlen hxi e1 e2 hst3 hto
    go_wp2_with fail
    refine hpl.mono ?_
    rintro e w11 ⟨rfl, hb11⟩
    have HE := Lib.hid (H10.out.trans (hb11.mono H10.out.size))
    clear hpl hb11 c0 c4
    go_wp2_with fail
    go_ret
    exact ⟨rfl, HE.out⟩
end
end
end Go.Proofs.YthhndleddlmgiaaGreatDoor.Tp
namespace Go.Proofs
set_option maxHeartbeats 8000000
set_option maxRecDepth 100000
set_option linter.unusedSimpArgs false
set_option linter.unusedVariables false
section
open Go.Shelf
open Go.RowKit in
open Go.RowKit in
open Go.RowKit in
open Go.RowKit in
open Go.RowKit in
open Go.RowKit in
def Tryz.lays156_ren : Go.Shelf.Ren := ⟨fun | 156 => 74 | 165 => 137 | 166 => 138 | 169 => 139 | 240 => 203 | 241 => 204 | 276 => 257 | 277 => 258 | n => n, fun | 31 => 131 | 9 => 9 | 3 => 3 | 4 => 4 | 0 => 0 | 20 => 20 | 72 => 227 | 76 => 213 | 70 => 225 | 37 => 47 | 75 => 212 | 127 => 291 | 164 => 339 | 5 => 5 | 80 => 228 | n => n, fun | n => n⟩
theorem Tryz.lays156 : Go.Proofs.Lays.n156 Tryz.prog Tryz.lays156_ren := {
 mixed := by kernel_rfl
 f156 := Tryz.func74.trans (congrArg some (by kernel_rfl))
 f165 := Tryz.func137.trans (congrArg some (by kernel_rfl))
 f166 := Tryz.func138.trans (congrArg some (by kernel_rfl))
 f169 := Tryz.func139.trans (congrArg some (by kernel_rfl))
 f240 := Tryz.func203.trans (congrArg some (by kernel_rfl))
 f241 := Tryz.func204.trans (congrArg some (by kernel_rfl))
 f276 := Tryz.func257.trans (congrArg some (by kernel_rfl))
 f277 := Tryz.func258.trans (congrArg some (by kernel_rfl))
 t0 := Tryz.underlying0
 a0 := Tryz.isAgg0
 z0 := Tryz.sizeOf0
 v0 := Tryz.zeroValue0
 t3 := Tryz.underlying3
 a3 := Tryz.isAgg3
 z3 := Tryz.sizeOf3
 v3 := Tryz.zeroValue3
 t4 := Tryz.underlying4
 a4 := Tryz.isAgg4
 z4 := Tryz.sizeOf4
 v4 := Tryz.zeroValue4
 t9 := Tryz.underlying9
 a9 := Tryz.isAgg9
 z9 := Tryz.sizeOf9
 v9 := Tryz.zeroValue9
 t20 := Tryz.underlying20
 a20 := Tryz.isAgg20
 z20 := Tryz.sizeOf20
 v20 := Tryz.zeroValue20
 t31 := Tryz.underlying131
 a31 := Tryz.isAgg131
 z31 := Tryz.sizeOf131
 v31 := Tryz.zeroValue131
 t37 := Tryz.underlying47
 a37 := Tryz.isAgg47
 z37 := Tryz.sizeOf47
 v37 := Tryz.zeroValue47
 t70 := Tryz.underlying225
 a70 := Tryz.isAgg225
 z70 := Tryz.sizeOf225
 v70 := Tryz.zeroValue225
 t72 := Tryz.underlying227
 a72 := Tryz.isAgg227
 z72 := Tryz.sizeOf227
 v72 := Tryz.zeroValue227
 t75 := Tryz.underlying212
 a75 := Tryz.isAgg212
 z75 := Tryz.sizeOf212
 v75 := Tryz.zeroValue212
 t76 := Tryz.underlying213
 a76 := Tryz.isAgg213
 z76 := Tryz.sizeOf213
 v76 := Tryz.zeroValue213
 t127 := Tryz.underlying291
 a127 := Tryz.isAgg291
 z127 := Tryz.sizeOf291
 v127 := Tryz.zeroValue291
 t164 := Tryz.underlying339
 a164 := Tryz.isAgg339
 z164 := Tryz.sizeOf339
 v164 := Tryz.zeroValue339 }
theorem Tryz.Builder_Extra_156 : Builder.Extra Tryz.prog Tryz.lays156_ren := {
 sizeBuilder := by kernel_rfl
 liesBuilder := by kernel_rfl
 t5 := Tryz.underlying5
 a5 := Tryz.isAgg5
 z5 := Tryz.sizeOf5
 v5 := Tryz.zeroValue5
 infoByte := by kernel_rfl
 cellsByte := by kernel_rfl
 sizeByte := by kernel_rfl
 neB5 := by decide }
open Go.RowKit in
open Go.RowKit in
theorem Tryz.strings_Join (bk o c : Nat) (xs : List ByteArray) (sep : ByteArray) (w : World) (hcells : ∀ (j : Nat) x, xs[j]? = some x → w.cell? ⟨bk, o + j, none⟩ = some (.string x)) (hbk : bk < w.heap.size) (hN : xs.length ≤ 140737488355328) (hcap : xs.length ≤ c) (hlen : (Lib.join (xs.map (·.data.toList)) sep.data.toList).length ≤ 140737488355328) :
  Calls Tryz.prog 74 #[.slice (some ⟨bk, o, none⟩) xs.length c, .string sep] w fun e w' => e = .returned (.string ⟨(Lib.join (xs.map (·.data.toList)) sep.data.toList).toArray⟩) ∧ Below w.heap.size w w' := Any.strings_Join Tryz.lays156 Tryz.Builder_Extra_156 bk o c xs sep w hcells hbk hN hcap hlen
open Go.Lib in
open Go.Lib in
open Go.Lib in
open Go.Lib in
open Go.RowKit Go.Sort Go.Lib in
open Go.RowKit Go.Sort Go.Lib in
open Go.RowKit Go.Sort Go.Lib in
open Go.RowKit Go.Sort Go.Lib in
open Go.RowKit Go.Sort Go.Lib in
def Tryz.laysM171_ren : Go.Shelf.Ren := ⟨fun | 171 => 123 | 243 => 188 | 246 => 241 | 283 => 282 | 284 => 283 | 285 => 284 | 286 => 285 | 129 => 319 | 317 => 330 | 318 => 331 | 319 => 332 | 320 => 333 | 337 => 367 | 338 => 368 | n => n, fun | 3 => 3 | 9 => 9 | 2 => 2 | 4 => 4 | 171 => 359 | 0 => 0 | 53 => 188 | 37 => 47 | 5 => 5 | 173 => 362 | 212 => 412 | 51 => 190 | 20 => 20 | 213 => 413 | 46 => 249 | 232 => 458 | 233 => 459 | n => n, fun | 17 => 6 | 18 => 7 | 19 => 8 | n => n⟩
theorem Tryz.laysM171 : Go.Proofs.LaysM.n171 Tryz.prog Tryz.laysM171_ren := {
 mixed := by kernel_rfl
 f129 := Tryz.func319.trans (congrArg some (by kernel_rfl))
 f171 := Tryz.func123.trans (congrArg some (by kernel_rfl))
 f243 := Tryz.func188.trans (congrArg some (by kernel_rfl))
 f246 := Tryz.func241.trans (congrArg some (by kernel_rfl))
 f283 := Tryz.func282.trans (congrArg some (by kernel_rfl))
 f284 := Tryz.func283.trans (congrArg some (by kernel_rfl))
 f285 := Tryz.func284.trans (congrArg some (by kernel_rfl))
 f286 := Tryz.func285.trans (congrArg some (by kernel_rfl))
 f317 := Tryz.func330.trans (congrArg some (by kernel_rfl))
 f318 := Tryz.func331.trans (congrArg some (by kernel_rfl))
 f319 := Tryz.func332.trans (congrArg some (by kernel_rfl))
 f320 := Tryz.func333.trans (congrArg some (by kernel_rfl))
 f337 := Tryz.func367.trans (congrArg some (by kernel_rfl))
 f338 := Tryz.func368.trans (congrArg some (by kernel_rfl))
 t0 := Tryz.underlying0
 a0 := Tryz.isAgg0
 z0 := Tryz.sizeOf0
 v0 := Tryz.zeroValue0
 t2 := Tryz.underlying2
 a2 := Tryz.isAgg2
 z2 := Tryz.sizeOf2
 v2 := Tryz.zeroValue2
 t3 := Tryz.underlying3
 a3 := Tryz.isAgg3
 z3 := Tryz.sizeOf3
 v3 := Tryz.zeroValue3
 t4 := Tryz.underlying4
 a4 := Tryz.isAgg4
 z4 := Tryz.sizeOf4
 v4 := Tryz.zeroValue4
 t5 := Tryz.underlying5
 a5 := Tryz.isAgg5
 z5 := Tryz.sizeOf5
 v5 := Tryz.zeroValue5
 t9 := Tryz.underlying9
 a9 := Tryz.isAgg9
 z9 := Tryz.sizeOf9
 v9 := Tryz.zeroValue9
 t20 := Tryz.underlying20
 a20 := Tryz.isAgg20
 z20 := Tryz.sizeOf20
 v20 := Tryz.zeroValue20
 t37 := Tryz.underlying47
 a37 := Tryz.isAgg47
 z37 := Tryz.sizeOf47
 v37 := Tryz.zeroValue47
 t46 := Tryz.underlying249
 a46 := Tryz.isAgg249
 z46 := Tryz.sizeOf249
 v46 := Tryz.zeroValue249
 t51 := Tryz.underlying190
 a51 := Tryz.isAgg190
 z51 := Tryz.sizeOf190
 v51 := Tryz.zeroValue190
 t53 := Tryz.underlying188
 a53 := Tryz.isAgg188
 z53 := Tryz.sizeOf188
 v53 := Tryz.zeroValue188
 t171 := Tryz.underlying359
 a171 := Tryz.isAgg359
 z171 := Tryz.sizeOf359
 v171 := Tryz.zeroValue359
 t173 := Tryz.underlying362
 a173 := Tryz.isAgg362
 z173 := Tryz.sizeOf362
 v173 := Tryz.zeroValue362
 t212 := Tryz.underlying412
 a212 := Tryz.isAgg412
 z212 := Tryz.sizeOf412
 v212 := Tryz.zeroValue412
 t213 := Tryz.underlying413
 a213 := Tryz.isAgg413
 z213 := Tryz.sizeOf413
 t232 := Tryz.underlying458
 a232 := Tryz.isAgg458
 z232 := Tryz.sizeOf458
 v232 := Tryz.zeroValue458
 t233 := Tryz.underlying459
 a233 := Tryz.isAgg459
 z233 := Tryz.sizeOf459
 v233 := Tryz.zeroValue459
 g17 := by kernel_rfl
 g18 := by kernel_rfl
 g19 := by kernel_rfl
 i0 := by kernel_rfl
 i2 := by kernel_rfl
 i3 := by kernel_rfl
 i4 := by kernel_rfl
 i5 := by kernel_rfl
 i9 := by kernel_rfl
 i20 := by kernel_rfl
 i37 := by kernel_rfl
 i46 := by kernel_rfl
 i51 := by kernel_rfl
 i53 := by kernel_rfl
 i171 := by kernel_rfl
 i173 := by kernel_rfl
 i212 := by kernel_rfl
 i232 := by kernel_rfl
 i233 := by kernel_rfl
 m17 := by kernel_rfl
 m18 := by kernel_rfl
 m19 := by kernel_rfl }
open Go.RowKit Go.Sort Go.Lib in
theorem Tryz.strconv_Itoa (n : Int) (h0 : -9223372036854775808 ≤ n) (h1 : n ≤ 9223372036854775807) (w : World) (htab : Lib.TabIs Tryz.prog w "internal/strconv.uint64pow10" .u64 Lib.pow10Tab) :
  Calls Tryz.prog 123 #[.int .i64 n] w fun e w' => e = .returned (.string ⟨(Lib.itoa n).toArray⟩) ∧ ∃ k os, w' = grow (w.drewN k) os := Any.strconv_Itoa Tryz.laysM171 n h0 h1 w htab
def Tryz.lays171_ren : Go.Shelf.Ren := ⟨fun | 171 => 123 | 243 => 188 | 246 => 241 | 283 => 282 | 284 => 283 | 285 => 284 | 286 => 285 | 129 => 319 | 317 => 330 | 318 => 331 | 319 => 332 | 320 => 333 | 337 => 367 | 338 => 368 | n => n, fun | 3 => 3 | 9 => 9 | 2 => 2 | 4 => 4 | 171 => 359 | 0 => 0 | 53 => 188 | 37 => 47 | 5 => 5 | 173 => 362 | 212 => 412 | 51 => 190 | 20 => 20 | 213 => 413 | 46 => 249 | 232 => 458 | 233 => 459 | n => n, fun | 17 => 6 | 18 => 7 | 19 => 8 | n => n⟩
theorem Tryz.lays171 : Go.Proofs.Lays.n171 Tryz.prog Tryz.lays171_ren := {
 mixed := by kernel_rfl
 f129 := Tryz.func319.trans (congrArg some (by kernel_rfl))
 f171 := Tryz.func123.trans (congrArg some (by kernel_rfl))
 f243 := Tryz.func188.trans (congrArg some (by kernel_rfl))
 f246 := Tryz.func241.trans (congrArg some (by kernel_rfl))
 f283 := Tryz.func282.trans (congrArg some (by kernel_rfl))
 f284 := Tryz.func283.trans (congrArg some (by kernel_rfl))
 f285 := Tryz.func284.trans (congrArg some (by kernel_rfl))
 f286 := Tryz.func285.trans (congrArg some (by kernel_rfl))
 f317 := Tryz.func330.trans (congrArg some (by kernel_rfl))
 f318 := Tryz.func331.trans (congrArg some (by kernel_rfl))
 f319 := Tryz.func332.trans (congrArg some (by kernel_rfl))
 f320 := Tryz.func333.trans (congrArg some (by kernel_rfl))
 f337 := Tryz.func367.trans (congrArg some (by kernel_rfl))
 f338 := Tryz.func368.trans (congrArg some (by kernel_rfl))
 t0 := Tryz.underlying0
 a0 := Tryz.isAgg0
 z0 := Tryz.sizeOf0
 v0 := Tryz.zeroValue0
 t2 := Tryz.underlying2
 a2 := Tryz.isAgg2
 z2 := Tryz.sizeOf2
 v2 := Tryz.zeroValue2
 t3 := Tryz.underlying3
 a3 := Tryz.isAgg3
 z3 := Tryz.sizeOf3
 v3 := Tryz.zeroValue3
 t4 := Tryz.underlying4
 a4 := Tryz.isAgg4
 z4 := Tryz.sizeOf4
 v4 := Tryz.zeroValue4
 t5 := Tryz.underlying5
 a5 := Tryz.isAgg5
 z5 := Tryz.sizeOf5
 v5 := Tryz.zeroValue5
 t9 := Tryz.underlying9
 a9 := Tryz.isAgg9
 z9 := Tryz.sizeOf9
 v9 := Tryz.zeroValue9
 t20 := Tryz.underlying20
 a20 := Tryz.isAgg20
 z20 := Tryz.sizeOf20
 v20 := Tryz.zeroValue20
 t37 := Tryz.underlying47
 a37 := Tryz.isAgg47
 z37 := Tryz.sizeOf47
 v37 := Tryz.zeroValue47
 t46 := Tryz.underlying249
 a46 := Tryz.isAgg249
 z46 := Tryz.sizeOf249
 v46 := Tryz.zeroValue249
 t51 := Tryz.underlying190
 a51 := Tryz.isAgg190
 z51 := Tryz.sizeOf190
 v51 := Tryz.zeroValue190
 t53 := Tryz.underlying188
 a53 := Tryz.isAgg188
 z53 := Tryz.sizeOf188
 v53 := Tryz.zeroValue188
 t171 := Tryz.underlying359
 a171 := Tryz.isAgg359
 z171 := Tryz.sizeOf359
 v171 := Tryz.zeroValue359
 t173 := Tryz.underlying362
 a173 := Tryz.isAgg362
 z173 := Tryz.sizeOf362
 v173 := Tryz.zeroValue362
 t212 := Tryz.underlying412
 a212 := Tryz.isAgg412
 z212 := Tryz.sizeOf412
 v212 := Tryz.zeroValue412
 t213 := Tryz.underlying413
 a213 := Tryz.isAgg413
 z213 := Tryz.sizeOf413
 t232 := Tryz.underlying458
 a232 := Tryz.isAgg458
 z232 := Tryz.sizeOf458
 v232 := Tryz.zeroValue458
 t233 := Tryz.underlying459
 a233 := Tryz.isAgg459
 z233 := Tryz.sizeOf459
 v233 := Tryz.zeroValue459
 g17 := by kernel_rfl
 g18 := by kernel_rfl
 g19 := by kernel_rfl }
open Go.RowKit Go.Sort Go.Lib in
theorem Tryz.strconv_Itoa_small (i : Nat) (hi : i < 100) (w : World) :
  Calls Tryz.prog 123 #[.int .i64 i] w fun e w' => e = .returned (.string ⟨(Lib.decDigits i).toArray⟩) ∧ w' = w := Any.strconv_Itoa_small Tryz.lays171 i hi w
open Go.RowKit Go.Lib in
open Go.RowKit Go.Lib in
open Go.RowKit Go.Lib in
open Go.RowKit Go.Lib in
def Tryz.lays219_ren : Go.Shelf.Ren := ⟨fun | 219 => 117 | 217 => 173 | 225 => 174 | 224 => 175 | 267 => 176 | 266 => 232 | 314 => 233 | n => n, fun | 9 => 9 | 3 => 3 | 4 => 4 | 5 => 5 | 46 => 249 | 146 => 313 | 51 => 190 | n => n, fun | 1 => 0 | n => n⟩
theorem Tryz.lays219 : Go.Proofs.Lays.n219 Tryz.prog Tryz.lays219_ren := {
 mixed := by kernel_rfl
 f217 := Tryz.func173.trans (congrArg some (by kernel_rfl))
 f219 := Tryz.func117.trans (congrArg some (by kernel_rfl))
 f224 := Tryz.func175.trans (congrArg some (by kernel_rfl))
 f225 := Tryz.func174.trans (congrArg some (by kernel_rfl))
 f266 := Tryz.func232.trans (congrArg some (by kernel_rfl))
 f267 := Tryz.func176.trans (congrArg some (by kernel_rfl))
 f314 := Tryz.func233.trans (congrArg some (by kernel_rfl))
 t3 := Tryz.underlying3
 a3 := Tryz.isAgg3
 z3 := Tryz.sizeOf3
 v3 := Tryz.zeroValue3
 t4 := Tryz.underlying4
 a4 := Tryz.isAgg4
 z4 := Tryz.sizeOf4
 v4 := Tryz.zeroValue4
 t5 := Tryz.underlying5
 a5 := Tryz.isAgg5
 z5 := Tryz.sizeOf5
 v5 := Tryz.zeroValue5
 t9 := Tryz.underlying9
 a9 := Tryz.isAgg9
 z9 := Tryz.sizeOf9
 v9 := Tryz.zeroValue9
 t46 := Tryz.underlying249
 a46 := Tryz.isAgg249
 z46 := Tryz.sizeOf249
 v46 := Tryz.zeroValue249
 t51 := Tryz.underlying190
 a51 := Tryz.isAgg190
 z51 := Tryz.sizeOf190
 v51 := Tryz.zeroValue190
 t146 := Tryz.underlying313
 a146 := Tryz.isAgg313
 z146 := Tryz.sizeOf313
 v146 := Tryz.zeroValue313
 g1 := by kernel_rfl }
open Go.RowKit Go.Lib in
theorem Tryz.stringslite_Index_one (s : ByteArray) (c : UInt8) (w : World) :
  Calls Tryz.prog 117 #[.string s, .string ⟨#[c]⟩] w fun e w' => e = .returned (.int .i64 (Lib.indexByte s.data.toList c)) ∧ w' = w := Any.stringslite_Index_one Tryz.lays219 s c w
open Go.RowKit Go.Lib in
open Go.RowKit Go.Lib in
open Go.RowKit Go.Lib in
def Tryz.lays138_ren : Go.Shelf.Ren := ⟨fun | 138 => 35 | 195 => 60 | 218 => 61 | 143 => 62 | 219 => 117 | 217 => 173 | 225 => 174 | 224 => 175 | 267 => 176 | 266 => 232 | 314 => 233 | n => n, fun | 9 => 9 | 3 => 3 | 4 => 4 | 5 => 5 | 0 => 0 | 46 => 249 | 146 => 313 | 51 => 190 | n => n, fun | 1 => 0 | n => n⟩
theorem Tryz.lays138 : Go.Proofs.Lays.n138 Tryz.prog Tryz.lays138_ren := {
 mixed := by kernel_rfl
 f138 := Tryz.func35.trans (congrArg some (by kernel_rfl))
 f143 := Tryz.func62.trans (congrArg some (by kernel_rfl))
 f195 := Tryz.func60.trans (congrArg some (by kernel_rfl))
 f217 := Tryz.func173.trans (congrArg some (by kernel_rfl))
 f218 := Tryz.func61.trans (congrArg some (by kernel_rfl))
 f219 := Tryz.func117.trans (congrArg some (by kernel_rfl))
 f224 := Tryz.func175.trans (congrArg some (by kernel_rfl))
 f225 := Tryz.func174.trans (congrArg some (by kernel_rfl))
 f266 := Tryz.func232.trans (congrArg some (by kernel_rfl))
 f267 := Tryz.func176.trans (congrArg some (by kernel_rfl))
 f314 := Tryz.func233.trans (congrArg some (by kernel_rfl))
 t0 := Tryz.underlying0
 a0 := Tryz.isAgg0
 z0 := Tryz.sizeOf0
 v0 := Tryz.zeroValue0
 t3 := Tryz.underlying3
 a3 := Tryz.isAgg3
 z3 := Tryz.sizeOf3
 v3 := Tryz.zeroValue3
 t4 := Tryz.underlying4
 a4 := Tryz.isAgg4
 z4 := Tryz.sizeOf4
 v4 := Tryz.zeroValue4
 t5 := Tryz.underlying5
 a5 := Tryz.isAgg5
 z5 := Tryz.sizeOf5
 v5 := Tryz.zeroValue5
 t9 := Tryz.underlying9
 a9 := Tryz.isAgg9
 z9 := Tryz.sizeOf9
 v9 := Tryz.zeroValue9
 t46 := Tryz.underlying249
 a46 := Tryz.isAgg249
 z46 := Tryz.sizeOf249
 v46 := Tryz.zeroValue249
 t51 := Tryz.underlying190
 a51 := Tryz.isAgg190
 z51 := Tryz.sizeOf190
 v51 := Tryz.zeroValue190
 t146 := Tryz.underlying313
 a146 := Tryz.isAgg313
 z146 := Tryz.sizeOf313
 v146 := Tryz.zeroValue313
 g1 := by kernel_rfl }
open Go.RowKit Go.Lib in
theorem Tryz.strings_Count_one (s : ByteArray) (c : UInt8) (w : World) :
  Calls Tryz.prog 35 #[.string s, .string ⟨#[c]⟩] w fun e w' => e = .returned (.int .i64 (Lib.countByte s.data.toList c)) ∧ w' = w := Any.strings_Count_one Tryz.lays138 s c w
open Go.RowKit Go.Lib in
def Tryz.lays206_ren : Go.Shelf.Ren := ⟨fun | 206 => 177 | n => n, fun | 9 => 9 | 4 => 4 | 3 => 3 | n => n, fun | n => n⟩
theorem Tryz.lays206 : Go.Proofs.Lays.n206 Tryz.prog Tryz.lays206_ren := {
 mixed := by kernel_rfl
 f206 := Tryz.func177.trans (congrArg some (by kernel_rfl))
 t3 := Tryz.underlying3
 a3 := Tryz.isAgg3
 z3 := Tryz.sizeOf3
 v3 := Tryz.zeroValue3
 t4 := Tryz.underlying4
 a4 := Tryz.isAgg4
 z4 := Tryz.sizeOf4
 v4 := Tryz.zeroValue4
 t9 := Tryz.underlying9
 a9 := Tryz.isAgg9
 z9 := Tryz.sizeOf9
 v9 := Tryz.zeroValue9 }
open Go.RowKit Go.Lib in
theorem Tryz.stringslite_HasPrefix (s p : ByteArray) (w : World) :
  Calls Tryz.prog 177 #[.string s, .string p] w fun e w' => e = .returned (.bool (Lib.hasPrefix s.data.toList p.data.toList)) ∧ w' = w := Any.stringslite_HasPrefix Tryz.lays206 s p w
open Go.RowKit Go.Lib in
end
end Go.Proofs
namespace Go.Proofs.YthhndleddlmgiaaGreatDoor.Tp
set_option maxHeartbeats 8000000
set_option maxRecDepth 100000
set_option linter.unusedSimpArgs false
set_option linter.unusedVariables false
section
open Go.RowKit Go.Maps
abbrev sNl : ByteArray := ⟨#[10]⟩
abbrev sSp : ByteArray := ⟨#[32]⟩
abbrev sStat : ByteArray := ⟨#[115, 116, 97, 116]⟩
abbrev sStatNl : ByteArray := ⟨#[115, 116, 97, 116, 10]⟩
abbrev sOp : ByteArray := ⟨#[111, 112, 32]⟩
theorem infoStr : (Tryz.prog.info? 9).map (fun i => (i.zero, i.size, i.bytes)) = some (some (.string ⟨#[]⟩), 1, 16) := by kernel_rfl
theorem made1S : madeCells #[Value.string ⟨#[]⟩] 1 = #[Value.string ⟨#[]⟩] := by first | rfl | kernel_rfl
theorem run_make1S (W : World) : (Instr.makeSlice 131 (.int .i64 1) (.int .i64 1)).run Tryz.prog W = .ok (.slice (some ⟨W.heap.size, 0, none⟩) 1 1) (W.alloc (.cells #[Value.string ⟨#[]⟩] 9)) := by
 obtain ⟨i0, hi, hz0, hz1, hz2⟩ := info_parts infoStr
 have h := run_make (P := Tryz.prog) W 131 9 i0 (.string ⟨#[]⟩) Tryz.underlying131 hi hz0 .i64 .i64 1 1 (by omega) (by omega) (by rw [hz2]; omega) (by omega)
 rw [hz1] at h
 exact h.trans (by rw [show (Value.string ⟨#[]⟩).cells = #[Value.string ⟨#[]⟩] from rfl]; exact congrArg (fun c => Result.ok _ (W.alloc (.cells c 9))) made1S)
section
theorem slcut_stat (w : World) : Calls Tryz.prog 63 #[.string sStatNl, .string sNl] w fun e w' => e = .returned (.tuple #[.string sStat, .string ⟨#[]⟩, .bool true]) ∧ Below w.heap.size w w' := by
 have hi := Tryz.stringslite_Index_one sStatNl 10 w
 have hv : Lib.indexByte sStatNl.data.toList 10 = 4 := by decide
 rw [hv] at hi
 clear hv
 go_enter Tryz.func63, Tryz.ntmps63
 go_wp2_with fail
 refine hi.mono ?_
 rintro e w' ⟨rfl, rfl⟩
 clear hi
 go_wp2_with fail
 go_quiet (fail)
 go_wp2_with fail
 go_ret3
 exact ⟨rfl, bdrewN (Below.refl _ _) _⟩
theorem slcutp_stat (w : World) : Calls Tryz.prog 118 #[.string sStat, .string sOp] w fun e w' => e = .returned (.tuple #[.string sStat, .bool false]) ∧ w = w' := by
 have hi := Tryz.stringslite_HasPrefix sStat sOp w
 have hv : Lib.hasPrefix sStat.data.toList sOp.data.toList = false := by decide
 rw [hv] at hi
 clear hv
 go_enter Tryz.func118, Tryz.ntmps118
 go_wp2_with fail
 refine hi.mono ?_
 rintro e w' ⟨rfl, rfl⟩
 clear hi
 go_wp2_with fail
 go_ret2
 exact ⟨rfl, rfl⟩
theorem cutp_stat (w : World) : Calls Tryz.prog 64 #[.string sStat, .string sOp] w fun e w' => e = .returned (.tuple #[.string sStat, .bool false]) ∧ w = w' := by
 go_enter Tryz.func64, Tryz.ntmps64
 go_wp2_with fail
 refine (slcutp_stat w).mono ?_
 rintro e w' ⟨rfl, rfl⟩
 go_wp2_with fail
 go_ret2
 exact ⟨rfl, rfl⟩
theorem split_stat (w : World) : Calls Tryz.prog 121 #[.string sStat, .string sSp, .int .i64 0, .int .i64 (-1)] w fun e w' => e = .returned (.slice (some ⟨w.heap.size, 0, none⟩) 1 1) ∧ Bk w' w.heap.size 9 [.string sStat] ∧ Below w.heap.size w w' := by
 have hi := Tryz.strings_Count_one sStat 32 w
 have hv : Lib.countByte sStat.data.toList 32 = 0 := by decide
 rw [hv] at hi
 clear hv
 go_enter Tryz.func121, Tryz.ntmps121
 go_wp2_with fail
 have hmk := run_make1S
 have hmin : min (1 : Int) 5 = 1 := by decide
 refine hi.mono ?_
 rintro e w' ⟨rfl, rfl⟩
 clear hi
 obtain ⟨gs, w6, hzw6, hw6, Bw6, bw6⟩ := alloc_of w' 9 [.string ⟨#[]⟩]
 have c0 := Bw6.cell (i := 0) (by simp)
 simp only [List.getElem_cons_zero, List.getElem_cons_succ] at c0
 have q0 := Bw6.free 0
 have HE := Lib.hid (show Bk (w6.setCell ⟨gs, 0, none⟩ (.string sStat)) gs 9 [.string sStat] ∧ Below w'.heap.size w' (w6.setCell ⟨gs, 0, none⟩ (.string sStat)) from ⟨Bw6.set 0 _, bw6.setCell (p := ⟨gs, 0, none⟩) (Nat.le_of_eq hzw6) _⟩)
 clear bw6
 go_wp2_with fail
 go_loopw [0, 10] (fun sv iv wr => sv = .string sStat ∧ iv = .int .i64 0 ∧ w6 = wr) (fun _ iv _ => 0)
 case atStart => exact ⟨rfl, rfl, rfl⟩
 case round =>
  obtain ⟨rfl, rfl, rfl⟩ := hrel
  go_wp2_with fail
  go_ret
  exact ⟨by rw [hzw6]; rfl, by rw [hzw6]; exact HE.out.1, HE.out.2⟩
theorem numbers_none (w : World) (A : Option Addr) (c : Nat) : Calls Tryz.prog 67 #[.slice A 0 c] w fun e w' => e = .returned (.tuple #[.slice none 0 0, .bool true]) ∧ w = w' := by
 go_enter Tryz.func67, Tryz.ntmps67
 go_wp2_with fail
 go_loopw [2, 10] (fun ov iv wr => ov = .slice none 0 0 ∧ iv = .int .i64 0 ∧ w = wr) (fun _ iv _ => 0)
 case atStart => exact ⟨rfl, rfl, rfl⟩
 case round =>
  obtain ⟨rfl, rfl, rfl⟩ := hrel
  go_wp2_with fail
  go_ret2
  exact ⟨rfl, rfl⟩
end
end
section
open Go.RowKit Go.Maps
abbrev sStats : ByteArray := ⟨#[108, 97, 115, 116, 32, 48, 32, 111, 112, 101, 110, 32, 48, 32, 113, 117, 101, 117, 101, 32, 48, 32, 98, 108, 111, 99, 107, 115, 32, 50, 53, 56]⟩
abbrev s0 : ByteArray := ⟨#[48]⟩
abbrev lWords : List ByteArray := [⟨#[108, 97, 115, 116]⟩, s0, ⟨#[111, 112, 101, 110]⟩, s0, ⟨#[113, 117, 101, 117, 101]⟩, s0, ⟨#[98, 108, 111, 99, 107, 115]⟩, ⟨#[50, 53, 56]⟩]
theorem words_join : Lib.join (lWords.map (·.data.toList)) sSp.data.toList = sStats.data.toList := by first | rfl | decide
theorem words_at {w : World} {bk : Nat} (h : Bk w bk 9 (lWords.map Value.string)) : ∀ (j : Nat) x, lWords[j]? = some x → w.cell? ⟨bk, 0 + j, none⟩ = some (.string x) := fun j x hx => by
 have hl : j < lWords.length := (List.getElem?_eq_some_iff.1 hx).1
 have := h.cell (i := j) (by rw [List.length_map]; exact hl)
 rw [Nat.zero_add, this, List.getElem_map, (List.getElem?_eq_some_iff.1 hx).2]
section
open Go.Lib
theorem wp_appStr {P : Program} (w : World) {o : Oper} {a : Act} {K : Act → World → Prop} {Q : Exit → Act → World → Prop} (sl x : Operand) (t u : TypeId)
  (ho : o.op = .call { callee := .builtin .append, args := #[sl, x], argTypes := #[t, u] })
  (base : Nat) (e : TypeId) (i : TypeInfo) (ht : P.underlying t = some (.slice e)) (hu : P.underlying u = some .string) (hi : P.info? e = some i) (hz : i.zero = some (.int .u8 0))
  (hsize : i.size = 1) (hby : i.bytes = 1)
  (v : Value) (n : Nat) (xs : List Value) (hs : a.eval sl = v) (hown : w.ownsRow base e 1 v n xs) (s : ByteArray) (hx : a.eval x = .string s)
  (h63 : n + s.size ≤ maxLen) (hbytes : n + s.size ≤ 140737488355328) (hbase : base ≤ w.heap.size)
  (h : ∀ v' w', w'.ownsRow base e 1 v' (n + s.size) (xs ++ strCells s) → w.grownBy w' v.ownBlock → K (a.put o.dst v') w') : o.wp P a w K Q := by
 obtain ⟨v', w', hr, h2, h3, h4⟩ := run_append_own_string (P := P) w base t u o.type e i ht hu hi hz hsize hby v n xs hown s h63 hbytes hbase
 unfold Oper.wp execOp
 simp only [ho, resolve, invoke, builtin, Sem.run_bind, Sem.run_pure, Result.andThen_ok, List.map_toArray, List.map_cons, List.map_nil, hs, hx, hr]
 exact h v' w' h2 h3
end
theorem say_end {w w6 w9 : World} {sh sb : Nat} {yA : Option Addr} {yc : Nat} {v9 : Value} (h1 : Bk w6 sh 89 [.pointer (some ⟨sb, 0, none⟩), .slice yA 32 yc]) (h2 : w6.ownsRow w.heap.size 5 1 (.slice yA 32 yc) 32 (Lib.strCells sStats)) (hl : sh < w.heap.size) (hb : Below sh w w6)
  (hO : w9.ownsRow w.heap.size 5 1 v9 (32 + 1) (Lib.strCells sStats ++ [.int .u8 10])) (hG : (w6.alloc (.cells #[.int .u8 10] 5)).grownBy w9 (Value.slice yA 32 yc).ownBlock) :
  Bk (w9.setCell ⟨sh, 1, none⟩ v9) sh 89 [.pointer (some ⟨sb, 0, none⟩), v9] ∧ (w9.setCell ⟨sh, 1, none⟩ v9).ownsRow w.heap.size 5 1 v9 33 (Lib.strCells sStats ++ [.int .u8 10]) ∧ Below sh w (w9.setCell ⟨sh, 1, none⟩ v9) ∧ w9.cell? ⟨sh, 1, none⟩ = some (.slice yA 32 yc) ∧ w9.frozen? ⟨sh, 1, none⟩ = false := by
 have hA : Below w6.heap.size w6 (w6.alloc (.cells #[.int .u8 10] 5)) := (Below.refl _ _).alloc (Nat.le_refl _) _
 have bA := h1.next hA h1.lt
 have ge : ∀ g, (Value.slice yA 32 yc).ownBlock = some g → w.heap.size ≤ g := fun g e => own_at_ge h2 e
 have B9 : Bk w9 sh 89 [.pointer (some ⟨sb, 0, none⟩), .slice yA 32 yc] := (hG.block _ bA.lt (fun e => by have := ge _ e.symm; omega)).trans bA
 have b9 : Below sh w w9 := (hb.trans (hA.mono (Nat.le_trans (Nat.le_of_lt hl) hb.size))).grown hG (Nat.le_of_lt (Nat.lt_of_lt_of_le hl (Nat.le_trans hb.size hA.size))) (fun g e => Nat.le_trans (Nat.le_of_lt hl) (ge g e))
 exact ⟨B9.set 1 _, own_set hO hl _, b9.setCell (p := ⟨sh, 1, none⟩) (Nat.le_refl _) _, B9.cell (i := 1) (by simp), B9.free 1⟩
section
theorem say_any {w : World} {sh sb bk c : Nat} (hB : Bk w sh 89 [.pointer (some ⟨sb, 0, none⟩), .slice none 0 0]) (hR : Bk w bk 9 (lWords.map Value.string)) (hc : 8 ≤ c) :
  Calls Tryz.prog 38 #[.pointer (some ⟨sh, 0, none⟩), .slice (some ⟨bk, 0, none⟩) 8 c] w fun e w' => e = .returned (.tuple #[]) ∧ ∃ v, Bk w' sh 89 [.pointer (some ⟨sb, 0, none⟩), v] ∧ w'.ownsRow w.heap.size 5 1 v 33 (Lib.strCells sStats ++ [.int .u8 10]) ∧ Below sh w w' := by
 obtain ⟨xi, hxi, hxz, hx5, hx56⟩ := info_parts infoB
 obtain ⟨xi7, xz7, hxi7, hxz7, hx57, hx567, hxc7⟩ : ∃ i z, Tryz.prog.info? 5 = some i ∧ i.zero = some z ∧ i.size = 1 ∧ i.bytes = 1 ∧ z.cells.size = 1 := ⟨xi, _, hxi, hxz, hx5, hx56, rfl⟩
 have HL := Lib.hid hB.lt
 have HR := Lib.hid hR
 have HC := Lib.hid hc
 have KK := Lib.hid (fun (w' : World) (hS : Bk w' sh 89 [.pointer (some ⟨sb, 0, none⟩), .slice none 0 0] ∧ Below w.heap.size w w') => (show w'.cell? ⟨sh, 1, none⟩ = some (.slice none 0 0) from hS.1.cell (i := 1) (by simp)))
 go_enter Tryz.func38, Tryz.ntmps38
 go_wp2_with fail
 have Kq := KK
 refine anyL_start (fun w' => Bk w' sh 89 [.pointer (some ⟨sb, 0, none⟩), .slice none 0 0] ∧ Below w.heap.size w w') 10 (by kernel_rfl) (⟨hB.drew, bdrew (Below.refl _ _)⟩) (fun hHeld => ?_)
 refine kL 0 ?_; refine kL 1 ?_; refine kL 2 ?_; refine kL 3 ?_; refine kL 4 ?_; refine kL 5 ?_
 refine rL 6 (fun K hK => ?_)
 go_simp
 refine (Tryz.strings_Join bk 0 c lWords sSp _ (words_at (HR.out.next hHeld.2 HR.out.lt)) (HR.out.next hHeld.2 HR.out.lt).lt (by decide) HC.out (by rw [words_join]; decide)).mono ?_
 rintro e w4 ⟨rfl, hb4⟩
 rw [words_join]
 have hS4 : Bk w4 sh 89 [.pointer (some ⟨sb, 0, none⟩), .slice none 0 0] ∧ Below w.heap.size w w4 := ⟨(hHeld.1.next hb4 hHeld.1.lt), hHeld.2.trans (hb4.mono hHeld.2.size)⟩
 clear hb4
 go_simp
 refine hK.out _ _ (fun _ => hS4) ?_
 clear hK K hHeld
 have hHeld := hS4
 try simp only [Act.put, List.setIfInBounds_toArray, List.set_cons_zero, List.set_cons_succ]
 refine rL 7 (fun K hK => ?_)
 refine if_wanted rfl (wp_appStr w4 _ _ 47 9 rfl w.heap.size 5 xi Tryz.underlying47 Tryz.underlying9 hxi hxz hx5 hx56 (.slice none 0 0) 0 [] (by rfl) ⟨rfl, .inl ⟨rfl, rfl⟩⟩ sStats (by rfl) (by decide) (by decide) hS4.2.size ?_)
 intro v5 w5 hO5 hG5
 have hS5 : Bk w5 sh 89 [.pointer (some ⟨sb, 0, none⟩), .slice none 0 0] ∧ Below w.heap.size w w5 := ⟨(hG5.block _ hS4.1.lt (fun e => by cases e)).trans hS4.1, hS4.2.grown hG5 hS4.2.size (fun g e => by cases e)⟩
 obtain ⟨yA, yc, rfl⟩ := own_shape hO5
 have HO := Lib.hid hO5
 clear hO5 hG5
 refine hK.out _ _ (fun _ => hS5) ?_
 clear hK K hHeld
 have hHeld := hS5
 try simp only [Act.put, List.setIfInBounds_toArray, List.set_cons_zero, List.set_cons_succ]
 refine rL 8 (fun K hK => ?_)
 go_simp
 refine hK.out _ _ (fun _ => hS5) ?_
 clear hK K hHeld
 have hHeld := hS5
 try simp only [Act.put, List.setIfInBounds_toArray, List.set_cons_zero, List.set_cons_succ]
 refine rL 9 (fun K hK => ?_)
 go_simp
 refine hK.out _ _ (fun _ => hS5) ?_
 clear hK K hHeld
 have hHeld := hS5
 try simp only [Act.put, List.setIfInBounds_toArray, List.set_cons_zero, List.set_cons_succ]
 refine rL 10 (fun K hK => ?_)
 have z1 := hHeld.1.cell (i := 1) (by simp)
 simp only [List.getElem_cons_zero, List.getElem_cons_succ] at z1
 have y1 := hHeld.1.free 1
 obtain ⟨w6, hw6⟩ : ∃ w6, w5.setCell ⟨sh, 1, none⟩ (.slice yA 32 yc) = w6 := ⟨_, rfl⟩
 have B6 : Bk w6 sh 89 [.pointer (some ⟨sb, 0, none⟩), .slice yA 32 yc] := by rw [← hw6]; exact hHeld.1.set 1 _
 have O6 : w6.ownsRow w.heap.size 5 1 (.slice yA 32 yc) 32 (Lib.strCells sStats) := by rw [← hw6]; exact own_set HO.out HL.out _
 have b6 : Below sh w w6 := by rw [← hw6]; exact (hHeld.2.mono (Nat.le_of_lt HL.out)).setCell (p := ⟨sh, 1, none⟩) (Nat.le_refl _) _
 have z6 := B6.cell (i := 1) (by simp)
 simp only [List.getElem_cons_zero, List.getElem_cons_succ] at z6
 have HE6 := Lib.hid (And.intro B6 (And.intro O6 b6))
 clear B6 O6 b6
 go_simp
 try rw [hw6]
 refine hK.out _ _ (fun h => absurd rfl h) ?_
 clear hK K
 try simp only [Act.put, List.setIfInBounds_toArray, List.set_cons_zero, List.set_cons_succ]
 refine anyL_done (by kernel_rfl) ?_ _
 clear Kq
 clear z1 y1 hS4 hS5 hB hR hc
 go_wp2_with (at_builtin; go_must (refine wpList_appS _ rfl _ _ 47 rfl w.heap.size 5 xi7 xz7 1 1 Tryz.underlying47 hxi7 hxz7 hx57 hx567 hxc7 (by decide) _ _ _ (by rfl) (by exact own_bel' HE6.out.2.1 ((Below.refl _ _).alloc (Nat.le_refl _) _)) _ [.int .u8 10] (by rfl) (by exact Bk.new _ _ _) rfl (by intro u hu; simp at hu; rcases hu with rfl <;> rfl) (by omega) (by decide) (by exact Nat.le_trans HE6.out.2.2.size (by simp)) ?_); intro v9 w9 hO9 hG9 hn9; obtain ⟨A9, c9, rfl⟩ := own_shape hO9; have HE := Lib.hid (say_end HE6.out.1 HE6.out.2.1 HL.out HE6.out.2.2 hO9 hG9); have z9 := HE.out.2.2.2.1; have y9 := HE.out.2.2.2.2; clear hO9 hG9 hn9)
 go_end0
 exact ⟨rfl, _, HE.out.1, HE.out.2.1, HE.out.2.2.1⟩
end
end
section
open Go.RowKit Go.Maps
theorem dec0 : (Lib.decDigits 0).toArray = #[48] := by rw [Lib.decDigits, dif_pos (by decide)]; rfl
theorem ito258 : (Lib.itoa 258).toArray = #[50, 53, 56] := by
 have h : Lib.itoa 258 = Lib.decDigits 258 := by unfold Lib.itoa; rw [if_neg (by decide)]; rfl
 rw [h, Lib.decDigits, dif_neg (by decide), show 258 / 10 = 25 from rfl, Lib.decDigits, dif_neg (by decide), show 25 / 10 = 2 from rfl, Lib.decDigits, dif_pos (by decide)]
 rfl
theorem itoa_0 (w : World) : Calls Tryz.prog 123 #[.int .i64 0] w fun e w' => e = .returned (.string s0) ∧ w = w' := (Tryz.strconv_Itoa_small 0 (by decide) w).mono fun e w' h => ⟨by rw [h.1, dec0], h.2.symm⟩
theorem itoa_258 (w : World) (hp : Pow w) : Calls Tryz.prog 123 #[.int .i64 258] w fun e w' => e = .returned (.string ⟨#[50, 53, 56]⟩) ∧ Below w.heap.size w w' := (Tryz.strconv_Itoa 258 (by decide) (by decide) w hp).mono fun e w' h => ⟨by rw [h.1, ito258], by
 obtain ⟨k, os, rfl⟩ := h.2
 exact Lib.below_grow _ _ (Nat.le_refl _) k os⟩
section
theorem bare_any {w : World} {F : Foot} {sh sb : Nat} (hS : SchB w F sb ss0 0) (hp : Pow w) (hB : Bk w sh 89 [.pointer (some ⟨sb, 0, none⟩), .slice none 0 0]) :
  Calls Tryz.prog 70 #[.pointer (some ⟨sh, 0, none⟩), .string sStat] w fun e w' => e = .returned (.bool true) ∧ ∃ v, Bk w' sh 89 [.pointer (some ⟨sb, 0, none⟩), v] ∧ (∃ B, w'.ownsRow B 5 1 v 33 (Lib.strCells sStats ++ [.int .u8 10])) ∧ Below sh w w' := by
 have hst := scStore hS
 obtain ⟨c0, c1⟩ := hB.c2
 have HB := Lib.hid (And.intro hB hp)
 clear hS hp hB
 go_enter Tryz.func70, Tryz.ntmps70
 go_wp2_with fail
 refine hst.mono ?_
 rintro e w' ⟨⟨st, Fs, rfl, Ft, gd, mb, gs, num, count, ns, hx⟩, rfl⟩
 have hla := sLast hx
 have HX := Lib.hid hx
 clear hst hx
 go_wp2_with fail
 refine hla.mono ?_
 rintro e w' ⟨rfl, rfl⟩
 clear hla
 have e0 : ((ss0.m.last : Nat) : Int) = 0 := rfl
 rw [e0]
 clear e0
 go_wp2_with fail
 refine (itoa_0 _).mono ?_
 rintro e w' ⟨rfl, rfl⟩
 have hop := sOpen HX.out
 go_wp2_with fail
 refine hop.mono ?_
 rintro e w2 ⟨⟨k, rfl, hk⟩, hb2⟩
 obtain rfl : k = 0 := hk rfl
 clear hop hk
 go_wp2_with fail
 refine (itoa_0 _).mono ?_
 rintro e w' ⟨rfl, rfl⟩
 have hqu := sQueue (HX.out.next hb2)
 go_wp2_with fail
 refine hqu.mono ?_
 rintro e w' ⟨rfl, rfl⟩
 clear hqu
 have e0 : ((ss0.m.queue.length : Nat) : Int) = 0 := rfl
 rw [e0]
 clear e0
 go_wp2_with fail
 refine (itoa_0 _).mono ?_
 rintro e w' ⟨rfl, rfl⟩
 have hbl := sBlocks (HX.out.next hb2)
 go_wp2_with fail
 refine hbl.mono ?_
 rintro e w3 ⟨rfl, hb3⟩
 have hb13 := hb2.trans (hb3.mono hb2.size)
 have hito := itoa_258 _ (HB.out.2.next hb13)
 clear hbl
 go_wp2_with fail
 refine hito.mono ?_
 rintro e w4 ⟨rfl, hb4⟩
 have hb14 := hb13.trans (hb4.mono hb13.size)
 obtain ⟨bk, w5, hzw5, hw5, Bw5, bw5⟩ := alloc_of w4 9 [.string ⟨#[108, 97, 115, 116]⟩, .string s0, .string ⟨#[111, 112, 101, 110]⟩, .string s0, .string ⟨#[113, 117, 101, 117, 101]⟩, .string s0, .string ⟨#[98, 108, 111, 99, 107, 115]⟩, .string ⟨#[50, 53, 56]⟩]
 have hb15 := hb14.trans (bw5.mono hb14.size)
 have hsay := say_any (HB.out.1.next hb15 HB.out.1.lt) (by exact Bw5) (Nat.le_refl 8)
 have H5 := Lib.hid (And.intro hb15 HB.out.1.lt)
 clear hito hb13 hb14 hb4 hb3 hb2 bw5 hb15
 go_wp2_with fail
 refine hsay.mono ?_
 rintro e w6 ⟨rfl, v, h1, h2, h3⟩
 have HE := Lib.hid (And.intro h1 (And.intro h2 ((H5.out.1.mono (Nat.le_of_lt H5.out.2)).trans h3)))
 clear hsay h1 h2 h3
 go_wp2_with fail
 go_ret
 exact ⟨rfl, v, HE.out.1, ⟨_, HE.out.2.1⟩, HE.out.2.2⟩
end
end
section
open Go.RowKit Go.Maps
section
theorem cut_stat (w : World) : Calls Tryz.prog 36 #[.string sStatNl, .string sNl] w fun e w' => e = .returned (.tuple #[.string sStat, .string ⟨#[]⟩, .bool true]) ∧ Below w.heap.size w w' := by
 go_enter Tryz.func36, Tryz.ntmps36
 go_wp2_with fail
 refine (slcut_stat w).mono ?_
 rintro e w' ⟨rfl, hb⟩
 go_wp2_with fail
 go_ret3
 exact ⟨rfl, hb⟩
theorem split1_stat (w : World) : Calls Tryz.prog 66 #[.string sStat, .string sSp] w fun e w' => e = .returned (.slice (some ⟨w.heap.size, 0, none⟩) 1 1) ∧ Bk w' w.heap.size 9 [.string sStat] ∧ Below w.heap.size w w' := by
 go_enter Tryz.func66, Tryz.ntmps66
 go_wp2_with fail
 refine (split_stat w).mono ?_
 rintro e w' ⟨rfl, h1, h2⟩
 go_wp2_with fail
 go_ret
 exact ⟨rfl, h1, h2⟩
def AnsR (w : World) (v : Value) : Prop := ∃ B, w.ownsRow B 5 1 v 33 (Lib.strCells sStats ++ [.int .u8 10])
theorem line_any {w : World} {F : Foot} {sh sb : Nat} (hS : SchB w F sb ss0 0) (hp : Pow w) (hB : Bk w sh 89 [.pointer (some ⟨sb, 0, none⟩), .slice none 0 0]) :
  Calls Tryz.prog 37 #[.pointer (some ⟨sh, 0, none⟩), .string sStat] w fun e w' => e = .returned (.bool true) ∧ ∃ v, Bk w' sh 89 [.pointer (some ⟨sb, 0, none⟩), v] ∧ AnsR w' v ∧ Below sh w w' := by
 have HS := Lib.hid (And.intro hS (And.intro hp hB))
 clear hS hp hB
 go_enter Tryz.func37, Tryz.ntmps37
 go_wp2_with fail
 refine (cutp_stat w).mono ?_
 rintro e w' ⟨rfl, rfl⟩
 go_wp2_with fail
 refine (split1_stat w).mono ?_
 rintro e w2 ⟨rfl, h1, h2⟩
 obtain ⟨gl, hgl⟩ : ∃ gl, w.heap.size = gl := ⟨_, rfl⟩
 rw [hgl] at h1
 rw [hgl]
 have c0 := h1.cell (i := 0) (by simp)
 simp only [List.getElem_cons_zero] at c0
 have hba := bare_any (HS.out.1.next h2) (HS.out.2.1.next h2) (HS.out.2.2.next h2 HS.out.2.2.lt)
 have H2 := Lib.hid (h2.mono (Nat.le_of_lt HS.out.2.2.lt))
 clear h1 h2
 go_wp2_with fail
 refine (numbers_none _ _ _).mono ?_
 rintro e w' ⟨rfl, rfl⟩
 go_wp2_with fail
 refine hba.mono ?_
 rintro e w6 ⟨rfl, v, k1, k2, k3⟩
 have HE := Lib.hid (show ∃ v, Bk w6 sh 89 [.pointer (some ⟨sb, 0, none⟩), v] ∧ AnsR w6 v ∧ Below sh w w6 from ⟨v, k1, k2, H2.out.trans k3⟩)
 clear hba k1 k2 k3
 go_wp2_with fail
 go_ret
 exact ⟨rfl, HE.out⟩
end
def lAns : List UInt8 := [108, 97, 115, 116, 32, 48, 32, 111, 112, 101, 110, 32, 48, 32, 113, 117, 101, 117, 101, 32, 48, 32, 98, 108, 111, 99, 107, 115, 32, 50, 53, 56, 10]
theorem ans_cells : Lib.strCells sStats ++ [Value.int .u8 10] = lAns.map fun b => Value.int .u8 (b.toNat : Int) := by first | rfl | decide
theorem ans_conv {w : World} {v : Value} (h : AnsR w v) : ∃ g c, v = .slice (some ⟨g, 0, none⟩) 33 c ∧ (convert 47 9 v).run Tryz.prog w = .ok (.string ⟨lAns.toArray⟩) w := by
 obtain ⟨B, ho⟩ := h
 obtain ⟨g, c, rfl, -, -⟩ := ho.form (by decide)
 refine ⟨g, c, rfl, ?_⟩
 exact run_convert_bytes_back w 47 9 5 ⟨g, 0, none⟩ c lAns Tryz.underlying47 Tryz.underlying5 Tryz.underlying9 (fun j hj => ho.cells (g := g) rfl j _ (by rw [ans_cells, List.getElem?_map, List.getElem?_eq_getElem hj]; rfl))
def plM (v : Value) : Nat := match v with
 | .string s => s.size
 | _ => 0
def PlI (w w4 : World) (sh sb : Nat) (tv : Value) (wr : World) : Prop := (tv = .string sStatNl ∧ w4 = wr) ∨ (tv = .string ⟨#[]⟩ ∧ ∃ v, Bk wr sh 89 [.pointer (some ⟨sb, 0, none⟩), v] ∧ AnsR wr v ∧ Below w.heap.size w wr)
section
theorem play_any (w : World) (hp : Pow w) : Calls Tryz.prog 19 #[.string sStatNl] w fun e w' => e = .returned (.string ⟨lAns.toArray⟩) ∧ Below w.heap.size w w' := by
 obtain ⟨sh, w1, hzw1, hw1, Bw1, bw1⟩ := alloc_of w 89 [.pointer none, .slice none 0 0]
 obtain ⟨c0, c1⟩ := Bw1.c2
 have q0 := Bw1.free 0
 have q1 := Bw1.free 1
 have hn := scNew w1
 have H1 := Lib.hid (And.intro hp (And.intro Bw1 (And.intro bw1 (Nat.le_of_eq hzw1))))
 clear hp bw1 Bw1
 go_enter Tryz.func19, Tryz.ntmps19
 go_wp2_with fail
 go_step3
 go_wp2_with fail
 refine hn.mono ?_
 rintro e w2 ⟨sb, rfl, F, hB, hb2, hF⟩
 have B2 := H1.out.2.1.next hb2 H1.out.2.1.lt
 obtain ⟨e0, e1⟩ := B2.c2
 have g0 := B2.free 0
 have g1 := B2.free 1
 obtain ⟨w3, hw3⟩ : ∃ w3, w2.setCell ⟨sh, 0, none⟩ (.pointer (some ⟨sb, 0, none⟩)) = w3 := ⟨_, rfl⟩
 have H3 := Lib.hid (show SchB w3 F sb ss0 0 ∧ Pow w3 ∧ Bk w3 sh 89 [.pointer (some ⟨sb, 0, none⟩), .slice none 0 0] ∧ Below w.heap.size w w3 from by
  have b2 : Below w.heap.size w w2 := H1.out.2.2.1.trans (hb2.mono H1.out.2.2.1.size)
  have hsl : sh < w1.heap.size := H1.out.2.1.lt
  have b3 : Below w.heap.size w w3 := by rw [← hw3]; exact b2.setCell (p := ⟨sh, 0, none⟩) (Nat.le_of_eq hzw1) _
  exact ⟨hB.ag (by rw [← hw3]; exact ((Kf.refl (fun b => b = sh) w2).set B2 (by decide) (.inl rfl) 0 _).ag (fun b q r => by have := hF b q; have r : b = sh := r; omega)), H1.out.1.next b3, by rw [← hw3]; exact B2.set 0 _, b3⟩)
 clear hn hB hb2 hF B2
 have hct := Tryz.strings_Count_one sStatNl 10 w3
 have hv : Lib.countByte sStatNl.data.toList 10 = 1 := by decide
 rw [hv] at hct
 clear hv
 go_wp2_with fail
 refine hct.mono ?_
 rintro e w4 ⟨rfl, rfl⟩
 clear hct e0 e1 g0 g1 c0 c1 q0 q1 hw3 hw1 H1
 go_wp2_with fail
 go_step3
 go_wp2_with fail
 go_loopw [0] (fun tv wr => Hid (PlI w w4 sh sb tv wr)) (fun tv _ => plM tv)
 case atStart => exact Lib.hid (.inl ⟨rfl, rfl⟩)
 case round =>
  rcases hrel.out with ⟨rfl, rfl⟩ | ⟨rfl, HY⟩
  · go_wp2_with fail
    refine (cut_stat _).mono ?_
    rintro e w5 ⟨rfl, hb5⟩
    have hli := line_any (H3.out.1.next hb5) (H3.out.2.1.next hb5) (H3.out.2.2.1.next hb5 H3.out.2.2.1.lt)
    have H5 := Lib.hid (H3.out.2.2.2.trans (hb5.mono H3.out.2.2.2.size))
    clear hb5
    go_wp2_with fail
    refine hli.mono ?_
    rintro e w6 ⟨rfl, v, k1, k2, k3⟩
    have HE := Lib.hid (show ∃ v, Bk w6 sh 89 [.pointer (some ⟨sb, 0, none⟩), v] ∧ AnsR w6 v ∧ Below w.heap.size w w6 from ⟨v, k1, k2, H5.out.trans (k3.mono (Nat.le_of_eq hzw1))⟩)
    clear hli k1 k2 k3
    go_wp2_with fail
    go_roundw
    case rel => exact ⟨_, _, _, _, _, _, _, _, _, _, _, _, _, _, _, _, _, _, _, _, _, _, _, _, _, _, _, Lib.hid (.inr ⟨rfl, HE.out⟩), rfl⟩
    case measure => show (0 : Nat) < 5; decide
  · obtain ⟨v, k1, k2, k3⟩ := HY
    obtain ⟨gv, cv, rfl, hcv⟩ := ans_conv k2
    obtain ⟨d0, d1⟩ := k1.c2
    have HE := Lib.hid k3
    clear k1 k2 k3 hrel
    go_wp2_with fail
    rw [Exit.noGoto_ret]
    go_ret
    exact ⟨rfl, HE.out⟩
end
end
section
open Go.RowKit Go.Maps
section
open Go.ChangeShapes Go.WideShapes Go.Deep
variable {P : Program} {H : Type} {enc : TypeId × Value → H} {w : World} {base : Nat} {spare : Nat → Bool} {held : Bool}
theorem slice_cs {α : Type} (f : α → List Value) {k : Nat} (hk : 0 < k) (hs : ∀ x, (f x).length = k) {t e : TypeId} (ht : P.underlying t = some (.slice e)) (hc : P.cellsOf e = k) (Pr : α → Prop)
  (each : ∀ (fuel : Nat) (cs : List Value) (x : DataW H × List MemPlace), DataW.trod enc P w base spare held fuel e cs = some x → cs.length = k → ∃ a, f a = cs ∧ Pr a)
  {fuel : Nat} {cs : List Value} {x : DataW H × List MemPlace} (h : DataW.trod enc P w base spare held fuel t cs = some x) :
  ∃ A n c, ∃ l : List α, cs = [.slice A n c] ∧ l.length = n ∧ Rd w w.heap.size A (l.flatMap f) ∧ (∀ a ∈ l, Pr a) ∧ n ≤ c ∧ c ≤ maxLen ∧ ∀ ad, A = some ad → 0 < n → ad.block < w.heap.size := by
 have lt := DataW.trod_lt _ _ _ _ h
 rcases open_slice ht h with ⟨hcs, _⟩ | ⟨a, len, cap, m, n', D, Pl, hcs, hb, hl, hm, hmm, hx, hi⟩
 · exact ⟨none, 0, 0, [], hcs, rfl, Rd.nil _ _ _, by simp, Nat.le_refl _, by simp [maxLen], fun _ e => by cases e⟩
 · have hlm : len ≤ m := by rw [hmm]; split <;> omega
   obtain ⟨l, hlen, hp⟩ := list_of len (fun i (p : α) => (∀ j, j < k → w.cell? (a.add (i * k + j)) = (f p)[j]?) ∧ Pr p) fun i hin => by
    obtain ⟨cs', hcc, htr⟩ := hi i (by omega)
    rw [hc] at hcc
    obtain ⟨_, hcl, hat⟩ := World.cells?_some hcc
    obtain ⟨p, rfl, hp⟩ := each _ _ _ htr hcl
    exact ⟨p, fun j hj => by rw [← add_twice]; exact hat j hj, hp⟩
   have hblk : 0 < len → a.block < w.heap.size := fun hn => by
    have hx2 := (Prod.mk.inj hx).2
    exact lt (MemPlace.cell a.block (a.off + 0)) (by rw [hx2, hc]; exact List.mem_append_left _ (List.mem_map.2 ⟨0, by simp; exact Nat.mul_pos (by omega) hk, rfl⟩))
   refine ⟨some a, len, cap, l, hcs, hlen, fun hn => ⟨a, rfl, hblk ?_, fun j u hu => ?_⟩, fun p h => ?_, hl, hm, fun ad e hn => by injection e with e; subst e; exact hblk hn⟩
   · rw [flat_len hs] at hn
     rw [← hlen]; exact Nat.pos_of_mul_pos_right hn
   · have hjl : j < l.length * k := by
      obtain ⟨hj, _⟩ := List.getElem?_eq_some_iff.1 hu
      rwa [flat_len hs] at hj
     have hq : j / k < l.length := Nat.div_lt_of_lt_mul (by rw [Nat.mul_comm]; exact hjl)
     have hr := flat_get hs hq (j := j % k) (Nat.mod_lt _ hk)
     have he : j / k * k + j % k = j := by rw [Nat.mul_comm]; exact Nat.div_add_mod j k
     have hcell := (hp (j / k) hq).1 (j % k) (Nat.mod_lt _ hk)
     rw [he] at hr hcell
     rw [hcell, ← hr, hu]
   · obtain ⟨i, hi', rfl⟩ := List.getElem_of_mem h
     exact (hp i hi').2
end
end
end Go.Proofs.YthhndleddlmgiaaGreatDoor.Tp
