/- Contracts of the program's functions, and laws on memory: a part of the proof of TopRoom. -/
import Derived.Test.YthhndleddlmgiaaGreatDoorZC
import Derived.Test.YthhndleddlmgiaaGreatDoorProg
import Derived.LoopTactic
import Derived.LoopN
import Derived.Lib.Hide
import Derived.Deep.DeepMust
import Derived.Laws.MakeOwn
import Derived.Laws.Entries
import Derived.WalkSpells
import Derived.WalkMore
import Derived.IntWalk
namespace Go.Proofs.YthhndleddlmgiaaGreatDoor.Tp
set_option maxHeartbeats 8000000
set_option maxRecDepth 100000
set_option linter.unusedSimpArgs false
set_option linter.unusedVariables false
section
open Go.RowKit
structure ExD where
 f : Int
 l : Int
def exc (x : ExD) : List Value := [.int .i64 x.f, .int .i64 x.l]
theorem ex_two (x : ExD) : (exc x).length = 2 := rfl
theorem ex_one {l : List (ExD)} : ∀ u ∈ l.flatMap exc, u.oneCell' = true := fun u hu => by
 obtain ⟨x, _, hx⟩ := List.mem_flatMap.1 hu
 simp [exc] at hx
 rcases hx with rfl | rfl <;> rfl
structure IsEx (w : World) (A : Option Addr) (n c : Nat) (xs : List (ExD)) : Prop where
 len : xs.length = n
 rd : Rd w w.heap.size A (xs.flatMap exc)
 cap : n ≤ c
 big : c ≤ maxLen
theorem IsEx.ag {w w' : World} {G : Foot} {A : Option Addr} {n c : Nat} {xs : List (ExD)} (h : IsEx w A n c xs) (k : Ag G w w') (hG : ∀ ad, A = some ad → G ad.block) : IsEx w' A n c xs := ⟨h.len, Rd.ag h.rd k hG, h.cap, h.big⟩
theorem IsEx.next {w w' : World} {A : Option Addr} {n c : Nat} {xs : List (ExD)} (h : IsEx w A n c xs) (hb : Below w.heap.size w w') : IsEx w' A n c xs := h.ag (.of_below (F := fun _ => True) hb) (fun _ _ => trivial)
def ExO (w : World) (B : Nat) (v : Value) (xs : List (ExD)) : Prop := w.ownsRow B 197 2 v xs.length (xs.flatMap exc)
theorem ExO.is {w : World} {B : Nat} {v : Value} {xs : List (ExD)} (h : ExO w B v xs) : ∃ A c, v = .slice A xs.length c ∧ IsEx w A xs.length c xs := by
 obtain ⟨A, c, rfl⟩ := own_shape h
 exact ⟨A, c, rfl, rfl, rd_of_own h, (own_caps h).1, (own_caps h).2⟩
def PredE (w : World) (g : Nat) (lb : Array Value) (b : ExD → Bool) (xs : List (ExD)) : Prop := ∀ p ∈ xs, ∀ w', Below w.heap.size w w' → Calls Tryz.prog g (#[.agg #[.int .i64 p.f, .int .i64 p.l]] ++ lb) w' fun e w'' => e = .returned (.bool (b p)) ∧ Below w'.heap.size w' w''
theorem infoE : (Tryz.prog.info? 197).map (fun i => (i.size, i.bytes, i.zero.map (·.cells.size))) = some (2, 16, some 2) := by kernel_rfl
theorem infoEs : ∃ i z, Tryz.prog.info? 197 = some i ∧ i.zero = some z ∧ i.size = 2 ∧ i.bytes = 16 ∧ z.cells.size = 2 := by
 have h := infoE
 cases hi : Tryz.prog.info? 197 with
 | none => rw [hi] at h; cases h
 | some i =>
   rw [hi] at h
   simp at h
   obtain ⟨h1, h2, z, hz, h3⟩ := h
   exact ⟨i, z, rfl, hz, h1, h2, h3⟩
theorem own_zeroN {w : World} {B e s n c : Nat} {A : Option Addr} {xs : List Value} (h : w.ownsRow B e s (.slice A n c) n xs) : w.ownsRow B e s (.slice A 0 c) 0 [] := by
 rcases h.2 with ⟨h0, hn⟩ | ⟨g, cap, cur, hv, hb, hh, hc, hm, hs, _⟩
 · injection h0 with h1 h2 h3
   subst h1 h2 h3
   exact ⟨by simp, .inl ⟨rfl, rfl⟩⟩
 · injection hv with h1 h2 h3
   subst h1 h3
   exact ⟨by simp, .inr ⟨g, c, cur, rfl, hb, hh, Nat.zero_le _, hm, hs, by simp⟩⟩
section
variable {P : Program} (w : World)
theorem run_nil_zerosN (base : Nat) (t tn ty e : TypeId) (i : TypeInfo) (z : Value) (kn kq : IntKind) (size bytes : Nat) (ht : P.underlying t = some (.slice e)) (htn : P.underlying tn = some (.int kn)) (hi : P.info? e = some i) (hz : i.zero = some z)
  (hsize : i.size = size) (hby : i.bytes = bytes) (hzs : z.cells.size = size) (hs0 : 0 < size) (k : Nat) (hk : 0 < k) (h63 : k ≤ 1000000) (hb6 : k * bytes ≤ 1000000000) (hbase : base ≤ w.heap.size) :
  ∃ v' w' xs, (Builtin.append_ #[t, tn] ty #[.slice none 0 0, .int kq k]).run P w = .ok v' w' ∧ w'.ownsRow base e size v' k xs ∧ Below w.heap.size w w' := by
 have hr := Lib.run_append_nil_zeros (P := P) w t tn ty e i z kq kn ht htn hi hz k hk (by omega) (by omega) (by rw [hby]; omega)
 have hge := grownCap_ge w k 0 e
 have hcm : grownCap w k 0 e ≤ maxLen := grownCap_le_maxLen w k 0 e (by simp only [maxLen]; omega)
 refine ⟨_, _, (Builtin.zeroCells z.cells k).toList, hr, ⟨?_, .inr ⟨w.heap.size, _, _, rfl, hbase, heap_alloc_new w.drew _, hge, hcm, ?_, ?_⟩⟩, (bdrew (Below.refl _ _)).alloc (Nat.le_refl _) _⟩
 · rw [Array.length_toList, size_zeroCells, hzs]
 · simp only [Array.size_append, size_zeroCells, hzs]
   rw [← Nat.add_mul]
   congr 1
   omega
 · rw [Array.toList_append]
   have : (Builtin.zeroCells z.cells k).toList.length = k * size := by rw [Array.length_toList, size_zeroCells, hzs]
   rw [← this]
   exact List.take_left
theorem wpList_nil_zerosN {ops : Array Oper} {rest : List Oper} {o : Oper} {a : Act} {Q : Exit → Act → World → Prop} (hgd : o.guard = none) (s x : Operand) (t tn : TypeId)
  (ho : o.op = .call { callee := .builtin .append, args := #[s, x], argTypes := #[t, tn] })
  (base : Nat) (e : TypeId) (i : TypeInfo) (z : Value) (kn kq : IntKind) (size bytes : Nat) (ht : P.underlying t = some (.slice e)) (htn : P.underlying tn = some (.int kn)) (hi : P.info? e = some i) (hz : i.zero = some z)
  (hsize : i.size = size) (hby : i.bytes = bytes) (hzs : z.cells.size = size) (hs0 : 0 < size)
  (hs : a.eval s = .slice none 0 0) (k : Nat) (hx : a.eval x = .int kq k) (hk : 0 < k) (h63 : k ≤ 1000000) (hb6 : k * bytes ≤ 1000000000) (hbase : base ≤ w.heap.size)
  (h : ∀ v' w' xs, w'.ownsRow base e size v' k xs → Below w.heap.size w w' → wpList P ops Q rest (a.put o.dst v') w') : wpList P ops Q (o :: rest) a w := by
 obtain ⟨v', w', xs, hr, h2, h3⟩ := run_nil_zerosN (P := P) w base t tn o.type e i z kn kq size bytes ht htn hi hz hsize hby hzs hs0 k hk h63 hb6 hbase
 exact Lib.wpList_append_run w hgd s x t tn ho _ _ hs hx v' w' hr (h v' w' xs h2 h3)
end
theorem index_ex (A : Option Addr) (n c : Nat) (ps : List (ExD)) (g : Nat) (lb : Array Value) (b : ExD → Bool) (w : World) (h : IsEx w A n c ps) (eg : ∀ args w, (callFunc g args).run Tryz.prog w = .ok (.enter g args) w) (hp : PredE w g lb b ps) :
  Calls Tryz.prog 381 #[.slice A n c, .func (.func g) #[] lb] w fun e w' => (∃ r : Int, e = .returned (.int .i64 r) ∧ -1 ≤ r ∧ (0 ≤ r ↔ ∃ p ∈ ps, b p = true)) ∧ Below w.heap.size w w' := by
 have hl := h.len
 have hnn := Nat.le_trans h.cap h.big
 have hbig : maxLen ≤ 9223372036854775807 := by decide
 go_enter Tryz.func381, Tryz.ntmps381
 go_wp2_with fail
 go_loopw [5, 8] (fun s5 i wr => ∃ k : Nat, k ≤ n ∧ i = .int .i64 k ∧ Below w.heap.size w wr ∧ Hid (∀ j, (hj : j < ps.length) → j < k → b ps[j] = false)) (fun _ i _ => n - (intOf i).toNat)
 case atStart => exact ⟨0, Nat.zero_le _, rfl, Below.refl _ _, fun j hj h => absurd h (by omega)⟩
 case round =>
  obtain ⟨k, hk, rfl, hW, HU⟩ := hrel
  by_cases hlt : k < n
  · obtain ⟨p, hpk⟩ : ∃ p, ps[k]'(by omega) = p := ⟨_, rfl⟩
    have hpm : p ∈ ps := by rw [← hpk]; exact List.getElem_mem _
    obtain ⟨ad, rfl, had, c0, c1⟩ := two_get ex_two (h.rd.next (Nat.le_refl _) hW) (k := k) (by omega) (u := .int .i64 p.f) (v := .int .i64 p.l) (by rw [hpk]; rfl)
    have n0 : (k : Int) < (n : Int) := by omega
    have n1 : (0 : Int) ≤ (k : Int) := by omega
    have hcall := hp p hpm wr hW
    have HP := Lib.hid hpk
    clear hpk
    cases hq : b p with
    | false =>
      rw [hq] at hcall
      have HN := Lib.hid (show ∀ j, (hj : j < ps.length) → j < k + 1 → b ps[j] = false from fun j hj hjk => by
       rcases Nat.lt_or_ge j k with g | g
       · exact HU.out j hj g
       · obtain rfl : j = k := by omega
         rw [HP.out]; exact hq)
      clear HU hq
      go_wp2_with (go_at_fn g; refine hcall.mono ?_; rintro e w' ⟨rfl, hb⟩)
      have hW2 := hW.trans (hb.mono hW.size)
      go_roundw
      case rel => exact ⟨k + 1, by omega, by go_num, hW2, HN⟩
      case measure => simp [intOf]; omega
    | true =>
      rw [hq] at hcall
      have HN := Lib.hid (show ∃ p ∈ ps, b p = true from ⟨p, hpm, hq⟩)
      clear HU hq
      go_wp2_with (go_at_fn g; refine hcall.mono ?_; rintro e w' ⟨rfl, hb⟩)
      have hW2 := hW.trans (hb.mono hW.size)
      go_ret
      exact ⟨⟨k, rfl, by omega, fun _ => HN.out, fun _ => by omega⟩, hW2⟩
  · have HN := Lib.hid (show ¬ ∃ p ∈ ps, b p = true from fun ⟨p, hp, h4⟩ => by
     obtain ⟨i, hi, rfl⟩ := List.getElem_of_mem hp
     rw [HU.out i hi (by omega)] at h4; cases h4)
    clear HU
    have n0 : ¬ (k : Int) < (n : Int) := by omega
    go_wp2_with fail
    go_ret
    exact ⟨⟨-1, rfl, by omega, fun h => absurd h (by decide), fun h => absurd h HN.out⟩, hW⟩
theorem has_ex (A : Option Addr) (n c : Nat) (ps : List (ExD)) (g : Nat) (lb : Array Value) (b : ExD → Bool) (w : World) (h : IsEx w A n c ps) (eg : ∀ args w, (callFunc g args).run Tryz.prog w = .ok (.enter g args) w) (hp : PredE w g lb b ps) :
  Calls Tryz.prog 356 #[.slice A n c, .func (.func g) #[] lb] w fun e w' => (∃ r : Bool, e = .returned (.bool r) ∧ (r = true ↔ ∃ p ∈ ps, b p = true)) ∧ Below w.heap.size w w' := by
 have hix := index_ex A n c ps g lb b w h eg hp
 clear hp
 go_enter Tryz.func356, Tryz.ntmps356
 go_wp2_with fail
 refine hix.mono ?_
 rintro e w' ⟨⟨r, rfl, h1, hr⟩, hb⟩
 have HR := Lib.hid hr
 clear hr
 by_cases h0 : 0 ≤ r
 · have t0 : decide (0 ≤ r) = true := decide_eq_true h0
   have HN := Lib.hid (HR.out.1 h0)
   go_wp2_with fail
   go_ret
   exact ⟨⟨true, rfl, fun _ => HN.out, fun _ => rfl⟩, hb⟩
 · have t0 : decide (0 ≤ r) = false := decide_eq_false h0
   have HN := Lib.hid (fun q => h0 (HR.out.2 q))
   go_wp2_with fail
   go_ret
   exact ⟨⟨false, rfl, fun q => (by cases q), fun q => absurd q HN.out⟩, hb⟩
theorem clone_ex (A : Option Addr) (n c B : Nat) (xs : List (ExD)) (w : World) (h : IsEx w A n c xs) (hn : n ≤ 1000000) (hB : B ≤ w.heap.size) :
  Calls Tryz.prog 359 #[.slice A n c] w fun e w' => (∃ v, e = .returned v ∧ ExO w' B v xs ∧ (v.ownBlock = none → n = 0)) ∧ Below w.heap.size w w' := by
 obtain ⟨xi, xz, hxi, hxz, hx5, hx56, hxc⟩ := infoEs
 have HN := Lib.hid hn
 have hl := h.len
 have q : ∀ (w : World) (a : Option Addr) (n c n' c' : Nat), (binOp .eql 393 (.slice a n c) (.slice none n' c')).run Tryz.prog w = .ok (.bool a.isNone) w := fun w a n c n' c' => Lib.run_eql_slice_nil w _ _ a n c n' c' Tryz.underlying393
 clear hn
 rcases A with _ | ad
 · have h0 : xs = [] := by
    rcases Nat.eq_zero_or_pos xs.length with g | g
    · exact List.eq_nil_of_length_eq_zero g
    · obtain ⟨ad, e, _⟩ := h.rd (by rw [flat_len ex_two]; omega)
      cases e
   subst h0
   simp at hl
   subst hl
   go_enter Tryz.func359, Tryz.ntmps359
   go_wp2_with fail
   go_ret
   exact ⟨⟨_, rfl, ⟨rfl, .inl ⟨rfl, rfl⟩⟩, fun _ => by first | rfl | trivial⟩, Below.refl _ _⟩
 · have HR := Lib.hid h.rd
   clear h
   go_enter Tryz.func359, Tryz.ntmps359
   go_wp2_with (at_builtin; go_must (refine wpList_appM _ rfl _ _ 393 rfl B 197 xi xz 2 16 Tryz.underlying393 hxi hxz hx5 hx56 hxc (by omega) _ 0 [] (by rfl) (by exact World.ownsRow_lit w #[] 0 hB (by decide) rfl) w.heap.size (some ad) n c (xs.flatMap exc) (by rfl) (by rw [flat_len ex_two, hl]) (by exact HR.out.alloc (Nat.le_refl _) _) ex_one (by have := HN.out; omega) (by have := HN.out; omega) (by simp; omega) ?_); intro v1 w1 hO1 hG1 hv1)
   have HB : Below w.heap.size w w1 := ((Below.refl _ _).alloc (Nat.le_refl _) _).grown hG1 (by simp) (fun g hg => Nat.le_of_eq (Option.some.inj (show some w.heap.size = some g from hg)))
   have HE := Lib.hid (show ExO w1 B v1 xs ∧ (v1.ownBlock = none → n = 0) from ⟨by unfold ExO; rw [hl]; simpa using hO1, fun e => by
    rcases hv1 with r | r
    · rw [e] at r; cases r
    · rw [e] at r; cases r⟩)
   clear hO1 hG1 hv1
   go_ret
   exact ⟨⟨v1, rfl, HE.out⟩, HB⟩
theorem grow_ex (n : Nat) (w : World) (hn : n ≤ 1000000) :
  Calls Tryz.prog 362 #[.slice none 0 0, .int .i64 (n : Int)] w fun e w' => (∃ v, e = .returned v ∧ w'.ownsRow w.heap.size 197 2 v 0 []) ∧ Below w.heap.size w w' := by
 obtain ⟨xi, xz, hxi, hxz, hx5, hx56, hxc⟩ := infoEs
 have n0 : ¬ ((n : Int) < 0) := by omega
 have w0 : wrap64 (n : Int) = (n : Int) := by unfold wrap64; omega
 by_cases h0 : n = 0
 · subst h0
   go_enter Tryz.func362, Tryz.ntmps362
   go_wp2_with fail
   go_ret
   exact ⟨⟨_, rfl, rfl, .inl ⟨rfl, rfl⟩⟩, Below.refl _ _⟩
 · have n1 : (0 : Int) < (n : Int) := by omega
   have HN := Lib.hid (And.intro hn h0)
   clear hn h0
   go_enter Tryz.func362, Tryz.ntmps362
   go_wp2_with (at_builtin; go_must (refine wpList_nil_zerosN _ rfl _ _ 393 3 rfl w.heap.size 197 xi xz .i64 .i64 2 16 Tryz.underlying393 Tryz.underlying3 hxi hxz hx5 hx56 hxc (by omega) (by rfl) n (by first | rfl | exact congrArg (Value.int .i64) w0) (by have := HN.out; omega) (by have := HN.out; omega) (by have := HN.out; omega) (Nat.le_refl _) ?_); intro v1 w1 xs1 hO1 hB1; have HB := Lib.hid hB1; obtain ⟨vA, vc, rfl⟩ := own_shape hO1; have HO := Lib.hid (own_zeroN hO1); clear hO1 hB1)
   go_ret
   exact ⟨⟨_, rfl, HO.out⟩, HB.out⟩
structure RX where
 A : Option Addr
 n : Nat
 c : Nat
 xs : List (ExD)
def RX.cell (x : RX) : Value := .slice x.A x.n x.c
theorem wrap_sumE {a c : Nat} (h : a + c ≤ 2000) : wrap64 ((a : Int) + (c : Int)) = ((a + c : Nat) : Int) := by unfold wrap64; omega
theorem concat_ex (A : Option Addr) (n c : Nat) (rs : List RX) (w : World) (hl : rs.length = n) (h : Rd w w.heap.size A (rs.map RX.cell)) (hb : ∀ x ∈ rs, IsEx w x.A x.n x.c x.xs) (hn : n ≤ 2000) (ht : (rs.map (·.n)).sum ≤ 2000) :
  Calls Tryz.prog 324 #[.slice A n c] w fun e w' => (∃ v, e = .returned v ∧ ExO w' w.heap.size v (rs.flatMap (·.xs))) ∧ Below w.heap.size w w' := by
 obtain ⟨xi, xz, hxi, hxz, hx5, hx56, hxc⟩ := infoEs
 have tk : ∀ k, k ≤ n → ((rs.take k).map (·.n)).sum ≤ (rs.map (·.n)).sum := fun k _ => by
  conv => rhs; rw [← List.take_append_drop k rs, List.map_append, List.sum_append]
  omega
 have ts : ∀ k, (hk : k < rs.length) → ((rs.take (k + 1)).map (·.n)).sum = ((rs.take k).map (·.n)).sum + rs[k].n := fun k hk => by rw [List.take_succ_eq_append_getElem hk, List.map_append, List.sum_append]; simp
 have tf : ∀ k, (hk : k < rs.length) → (rs.take (k + 1)).flatMap (·.xs) = (rs.take k).flatMap (·.xs) ++ rs[k].xs := fun k hk => by rw [List.take_succ_eq_append_getElem hk, List.flatMap_append]; simp
 have tn : ∀ k, k ≤ n → ((rs.take k).flatMap (·.xs)).length = ((rs.take k).map (·.n)).sum := fun k => by
  induction k with
  | zero => intro _; simp
  | succ k ih => intro hk; rw [tf k (by omega), ts k (by omega), List.length_append, ih (by omega), (hb _ (List.getElem_mem _)).len]
 have HT := Lib.hid (And.intro tk (And.intro ts (And.intro tf (And.intro tn ht))))
 have HB := Lib.hid hb
 clear tk ts tf tn ht hb
 go_enter Tryz.func324, Tryz.ntmps324
 go_wp2_with fail
 go_loop [3, 11] (fun s i => ∃ (k t : Nat), k ≤ n ∧ i = .int .i64 (k : Int) ∧ s = .int .i64 (t : Int) ∧ Hid (t = ((rs.take k).map (·.n)).sum) ∧ t ≤ 2000) (fun _ i => n - (intOf i).toNat)
 case atStart => exact ⟨0, 0, Nat.zero_le _, rfl, rfl, Lib.hid (by simp), by omega⟩
 case round =>
  obtain ⟨k, t, hk, rfl, rfl, HS, ht⟩ := hrel
  by_cases hlt : k < n
  · obtain ⟨ad, rfl, _, e0⟩ := h.get (k := k) (by rw [List.length_map]; omega)
    rw [List.getElem_map] at e0
    obtain ⟨y, hy⟩ : ∃ y, rs[k]'(by omega) = y := ⟨_, rfl⟩
    rw [hy] at e0
    unfold RX.cell at e0
    have n0 : (k : Int) < (n : Int) := by omega
    have n1 : (0 : Int) ≤ (k : Int) := by omega
    have h1 := HT.out.2.1 k (by omega)
    rw [hy] at h1
    have h2 := HT.out.1 (k + 1) hlt
    have h3 := HT.out.2.2.2.2
    have h4 := HS.out
    have ht2 : t + y.n ≤ 2000 := by omega
    have HS2 := Lib.hid (show t + y.n = ((rs.take (k + 1)).map (·.n)).sum by omega)
    have wk := Lib.hid (wrap_sumE ht2)
    have wb : (t : Int) + (y.n : Int) ≤ 2000 := by omega
    have m0 : ¬ ((t : Int) + (y.n : Int) < 0) := by omega
    clear hy h1 h2 h3 h4
    go_wp2_with fail
    go_round
    case rel => exact ⟨k + 1, t + y.n, hlt, int_succ (by first | rfl | (unfold wrap64; omega)), congrArg (Value.int .i64) (by first | rfl | exact wk.out), HS2, ht2⟩
    case measure => exact meas hlt
  · obtain rfl : k = n := by omega
    have n0 : ¬ ((k : Int) < (k : Int)) := by omega
    have hgr := grow_ex t w (by omega)
    go_wp2_with fail
    refine hgr.mono ?_
    rintro e w1 ⟨⟨v, rfl, hv⟩, hb1⟩
    go_wp2_with fail
    go_loopw [6, 27] (fun s i wr => ∃ j : Nat, j ≤ k ∧ i = .int .i64 (j : Int) ∧ wr.ownsRow w.heap.size 197 2 s ((rs.take j).flatMap (·.xs)).length (((rs.take j).flatMap (·.xs)).flatMap exc) ∧ Below w.heap.size w wr) (fun _ i _ => k - (intOf i).toNat)
    case atStart => exact ⟨0, Nat.zero_le _, rfl, by simpa using hv, hb1⟩
    case round =>
     clear hv hb1
     obtain ⟨j, hj, rfl, hO, hW⟩ := hrel
     by_cases hlt : j < k
     · obtain ⟨ad, rfl, _, e0⟩ := (h.next (Nat.le_refl _) hW).get (k := j) (by rw [List.length_map]; omega)
       rw [List.getElem_map] at e0
       obtain ⟨y, hy⟩ : ∃ y, rs[j]'(by omega) = y := ⟨_, rfl⟩
       rw [hy] at e0
       unfold RX.cell at e0
       have n1 : (j : Int) < (k : Int) := by omega
       have n2 : (0 : Int) ≤ (j : Int) := by omega
       have h1 := HT.out.2.1 j (by omega)
       have h5 := HT.out.2.2.1 j (by omega)
       rw [hy] at h1 h5
       have h2 := HT.out.1 (j + 1) hlt
       have h3 := HT.out.2.2.2.2
       have h4 := HT.out.2.2.2.1 j (by omega)
       have m2 : wrap64 ((j : Int) + 1) = (j : Int) + 1 := by unfold wrap64; omega
       have hyb := HB.out y (by rw [← hy]; exact List.getElem_mem _)
       have HY := Lib.hid (show IsEx wr y.A y.n y.c y.xs ∧ ((rs.take j).flatMap (·.xs)).length + y.n ≤ 2000 from ⟨hyb.next hW, by omega⟩)
       have HW := Lib.hid (And.intro hO hW)
       have HF := Lib.hid (And.intro h5 hyb.len)
       clear hy h1 h2 h3 h4 h5 hyb hO hW
       go_wp2_with (at_builtin; go_must (refine wpList_appM _ rfl _ _ 393 rfl w.heap.size 197 xi xz 2 16 Tryz.underlying393 hxi hxz hx5 hx56 hxc (by omega) _ _ _ (by rfl) (by exact HW.out.1) wr.heap.size y.A y.n y.c (y.xs.flatMap exc) (by rfl) (by rw [flat_len ex_two, HY.out.1.len]) (by exact HY.out.1.rd) ex_one (by have := HY.out.2; omega) (by have := HY.out.2; omega) (by exact HW.out.2.size) ?_); intro v1 w1 hO1 hG1 hv1)
       go_roundw
       case rel => exact ⟨j + 1, hlt, int_succ (by first | rfl | exact m2), by rw [HF.out.1, List.length_append, List.flatMap_append, HF.out.2]; exact hO1, HW.out.2.grown hG1 HW.out.2.size (fun g hg => (own_at_ge HW.out.1 hg))⟩
       case measure => (first | exact meas hlt | (rw [m2]; exact meas hlt))
     · obtain rfl : j = k := by omega
       rw [List.take_of_length_le (by omega)] at hO
       have HW := Lib.hid (And.intro hO hW)
       clear hO hW
       go_wp2_with fail
       go_ret
       exact ⟨⟨_, rfl, HW.out.1⟩, HW.out.2⟩
end
end Go.Proofs.YthhndleddlmgiaaGreatDoor.Tp
