/- A slice of zones; contracts of score.Score, Rank and Choose, and of scarplaw5.small: what each returns, for every list of zones. -/
import Derived.Test.YtchhnjadnacniaaRkB
import Derived.WalkMore
import Derived.Deep.Onto
namespace Go.Proofs.Ytchhnjadnacniaa.Rk
set_option linter.unusedSimpArgs false
set_option linter.unusedVariables false
open Go.RowKit Go.Sort Go.Lib Fl Fb Sc
open Go.Proofs.Ytchhnjadnacniaa.So
attribute [local go_sem] u64_unsigned

@[go_sem] theorem run_store_float {P : Program} {w : World} {a : Addr} {m : Mode} (k : FloatKind) (x : Nat) : (store a (.float k x) m).run P w = stored P w a (.float k x) m := run_store P w a _ m rfl
/-- a slice of zones. -/
structure IsZones (w : World) (A : Option Addr) (n c : Nat) (zs : List Zn) : Prop where
  len : zs.length = n
  rd : Rd w w.heap.size A (zcells zs)
  cap : n ≤ c
  big : c ≤ maxLen
theorem IsZones.next {w w' : World} {A : Option Addr} {n c : Nat} {l : List Zn} (h : IsZones w A n c l) (hb : Below w.heap.size w w') : IsZones w' A n c l := ⟨h.len, (h.rd.next (Nat.le_refl _) hb).more hb.size, h.cap, h.big⟩
theorem zone_get {w : World} {B : Nat} {A : Option Addr} {zs : List Zn} (h : Rd w B A (zcells zs)) {k : Nat} (hk : k < zs.length) : ∃ ad, A = some ad ∧ ad.block < B ∧ w.cell? (ad.add (k * 3)) = some (.int .i64 (zs[k]'hk).l) ∧
    w.cell? ⟨(ad.add (k * 3)).block, (ad.add (k * 3)).off + 1, none⟩ = some (.int .i64 (zs[k]'hk).s) ∧ w.cell? ⟨(ad.add (k * 3)).block, (ad.add (k * 3)).off + 2, none⟩ = some (.int .i64 (zs[k]'hk).t) := by
  obtain ⟨ad, e, hb, hc⟩ := h (by rw [zcells_len]; omega)
  have h0 := hc (k * 3) (.int .i64 (zs[k]'hk).l) (by have := zcells_get hk (j := 0) (by omega); rw [Nat.add_zero] at this; rw [this]; rfl)
  have h1 := hc (k * 3 + 1) (.int .i64 (zs[k]'hk).s) (by rw [zcells_get hk (by omega)]; rfl)
  have h2 := hc (k * 3 + 2) (.int .i64 (zs[k]'hk).t) (by rw [zcells_get hk (by omega)]; rfl)
  rw [← add_twice] at h1 h2
  exact ⟨ad, e, hb, h0, h1, h2⟩
theorem hide' {p : Prop} (h : p) : Hid p := h
theorem unhide' {p : Prop} (h : Hid p) : p := h
theorem own_next {w w' : World} {B e size n : Nat} {v : Value} {xs : List Value} (h : w.ownsRow B e size v n xs) (hb : Below w.heap.size w w') : w'.ownsRow B e size v n xs := by
  rcases h.2 with h0 | ⟨g, cap, cur, hv, hg, hh, hr⟩
  · exact ⟨h.1, .inl h0⟩
  · exact ⟨h.1, .inr ⟨g, cap, cur, hv, hg, (hb.block g (Array.getElem?_eq_some_iff.1 hh).1).trans hh, hr⟩⟩
theorem own_form {w : World} {B e size n : Nat} {v : Value} {xs : List Value} (h : w.ownsRow B e size v n xs) : ∃ A c, v = .slice A n c := by
  rcases h.2 with ⟨hv, h0⟩ | ⟨g, cap, cur, hv, _⟩
  · exact ⟨none, 0, by rw [h0]; exact hv⟩
  · exact ⟨_, _, hv⟩
theorem own_far {w : World} {B e size n : Nat} {v : Value} {xs : List Value} (h : w.ownsRow B e size v n xs) {p : Addr} (hp : p.block < B) (u : Value) : (w.setCell p u).ownsRow B e size v n xs := by
  rcases h.2 with h0 | ⟨g, cap, cur, hv, hg, hh, hr⟩
  · exact ⟨h.1, .inl h0⟩
  · exact ⟨h.1, .inr ⟨g, cap, cur, hv, hg, (Below.heap_setCell w p u g (by omega)).trans hh, hr⟩⟩
def row (ws : List Nat) (n k : Nat) : List Value := (ws.take k ++ List.replicate (n - k) 0).map (Value.float .f64)
theorem row_len {ws : List Nat} {n k : Nat} (hn : n = ws.length) (hk : k ≤ n) : (row ws n k).length = n := by unfold row; simp; omega
theorem row_zero (ws : List Nat) (n : Nat) : row ws n 0 = List.replicate n (Value.float .f64 0) := by unfold row; simp
theorem row_end {ws : List Nat} {n : Nat} (hn : n = ws.length) : row ws n n = ws.map (Value.float .f64) := by unfold row; rw [List.take_of_length_le (by omega), Nat.sub_self]; simp
theorem row_set {ws : List Nat} {n k : Nat} (hn : n = ws.length) (hk : k < n) : (row ws n k).set k (.float .f64 (gt0 ws k)) = row ws n (k + 1) := by
  unfold row gt0
  apply List.ext_getElem?
  intro j
  have e : n - k = (n - (k + 1)) + 1 := by omega
  rw [List.getElem?_set, List.getElem?_map, List.getElem?_map, e, List.replicate_succ]
  by_cases hj : k = j
  · subst hj
    rw [if_pos rfl, if_pos (by simp; omega), List.getElem?_append_left (by simp; omega), List.getElem?_take, if_pos (by omega), List.getD_eq_getElem?_getD, List.getElem?_eq_getElem (by omega)]
    rfl
  · rw [if_neg hj]
    congr 1
    rcases Nat.lt_or_ge j k with h | h
    · rw [List.getElem?_append_left (by simp; omega), List.getElem?_append_left (by simp; omega), List.getElem?_take, List.getElem?_take, if_pos h, if_pos (by omega)]
    · rw [List.getElem?_append_right (by simp; omega), List.getElem?_append_right (by simp; omega), List.length_take, List.length_take, show j - min k ws.length = (j - (k + 1)) + 1 by omega, List.getElem?_cons_succ, show j - min (k + 1) ws.length = j - (k + 1) by omega]
theorem row_skip {ws : List Nat} {n k : Nat} (hn : n = ws.length) (hk : k < n) (h : gt0 ws k = 0) : row ws n (k + 1) = row ws n k := by
  rw [← row_set hn hk, h]
  apply List.ext_getElem?
  intro j
  rw [List.getElem?_set]
  by_cases hj : k = j
  · subst hj
    rw [if_pos rfl, if_pos (by rw [row_len hn (by omega)]; omega)]
    unfold row
    rw [List.getElem?_map, List.getElem?_append_right (by simp; omega), List.length_take, show k - min k ws.length = 0 by omega, show n - k = (n - (k + 1)) + 1 by omega, List.replicate_succ]
    rfl
  · rw [if_neg hj]
theorem row_cell {w : World} {g n k : Nat} {ws : List Nat} {t : TypeId} (h : Bk w g t (row ws n k)) (hn : n = ws.length) (hk : k < n) : ∃ y, w.cell? ⟨g, k, none⟩ = some (.float .f64 y) := by
  have hc := h.cell (i := k) (by rw [row_len hn (by omega)]; exact hk)
  rw [hc]
  unfold row
  rw [List.getElem_map]
  exact ⟨_, rfl⟩
/-- how far Rank has come. -/
structure RS (w wr : World) (ws : List Nat) (n k : Nat) (v : Value) : Prop where
  own : wr.ownsRow (w.heap.size + 2) 3 1 v (keepN ws k).length ((keepN ws k).map nv)
  bel : Below w.heap.size w wr
  siz : w.heap.size + 2 ≤ wr.heap.size
  b0 : Bk wr w.heap.size 31 (row ws n k)
  b1 : Bk wr (w.heap.size + 1) 73 [.slice (some ⟨w.heap.size, 0, none⟩) n n]
theorem RS.next {w wr w' : World} {ws : List Nat} {n k : Nat} {v : Value} (h : RS w wr ws n k v) (hb : Below wr.heap.size wr w') : RS w w' ws n k v :=
  ⟨own_next h.own hb, h.bel.trans (hb.mono h.bel.size), Nat.le_trans h.siz hb.size, h.b0.next hb h.b0.lt, h.b1.next hb h.b1.lt⟩
theorem RS.skip {w wr : World} {ws : List Nat} {n k : Nat} {v : Value} (h : RS w wr ws n k v) (hn : n = ws.length) (hk : k < n) (h0 : gt0 ws k = 0) : RS w wr ws n (k + 1) v :=
  ⟨by rw [keepN_no h0]; exact h.own, h.bel, h.siz, by rw [row_skip hn hk h0]; exact h.b0, h.b1⟩
theorem RS.store {w wr : World} {ws : List Nat} {n k x : Nat} {v : Value} (h : RS w wr ws n k v) (hn : n = ws.length) (hk : k < n) (hx : gt0 ws k = x) : let W := wr.setCell ⟨w.heap.size, k, none⟩ (.float .f64 x)
    W.ownsRow (w.heap.size + 2) 3 1 v (keepN ws k).length ((keepN ws k).map nv) ∧ Below w.heap.size w W ∧ w.heap.size + 2 ≤ W.heap.size ∧ Bk W w.heap.size 31 (row ws n (k + 1)) ∧ Bk W (w.heap.size + 1) 73 [.slice (some ⟨w.heap.size, 0, none⟩) n n] := by
  intro W
  refine ⟨own_far h.own (by show w.heap.size < _; omega) _, h.bel.setCell (Nat.le_refl _) _, ?_, ?_, h.b1.far (by show w.heap.size + 1 ≠ w.heap.size; omega) _⟩
  · have := h.siz; simpa [W] using this
  · subst hx
    have := h.b0.set k (.float .f64 (gt0 ws k))
    rw [row_set hn hk] at this
    exact this
theorem RS.take {w wr w' : World} {ws : List Nat} {n k x : Nat} {v v' : Value} (h : RS w wr ws n k v) (hn : n = ws.length) (hk : k < n) (hx : gt0 ws k = x) (h0 : x ≠ 0)
    (ho : w'.ownsRow (w.heap.size + 2) 3 1 v' ((keepN ws k).length + 1) ((keepN ws k).map nv ++ [nv k])) (hb : Below (w.heap.size + 2) (wr.setCell ⟨w.heap.size, k, none⟩ (.float .f64 x)) w') : RS w w' ws n (k + 1) v' := by
  obtain ⟨_, s2, s3, s4, s5⟩ := h.store hn hk hx
  refine ⟨?_, s2.trans (hb.mono (by omega)), Nat.le_trans s3 hb.size, s4.next hb (by omega), s5.next hb (by omega)⟩
  rw [keepN_yes (by rw [hx]; exact h0), List.length_append, List.map_append]
  exact ho
/-- what Score returns: x, c; v: what the zone is worth. -/
def SC (x c v : Nat) : Prop := (c = 1 ∧ v = 0) ∨ (c = 0 ∧ x = 9221120237041090560 ∧ v = 0) ∨ (c = 0 ∧ x = v ∧ v ≤ 9218868437227405312)
theorem score_any (z : Zn) (now : Int) (w : World) :
    Calls Try.prog 14 #[.agg #[.int .i64 z.l, .int .i64 z.s, .int .i64 z.t], .int .i64 now] w fun e w' => ∃ x c : Nat, e = .returned (.tuple #[.float .f64 x, .int .i64 c]) ∧ Below w.heap.size w w' ∧ SC x c (wV now z) := by
  have no : okZ now z = false → wV now z = 0 := fun h => by unfold wV; rw [if_neg (by simp [h])]
  cases h : mayZ z.l z.s z.t
  · exact (score_bad _ _ _ _ w h).mono fun e w' ⟨he, hb⟩ => ⟨0, 1, he, hb, .inl ⟨rfl, no (by unfold okZ; rw [h]; rfl)⟩⟩
  · obtain ⟨m1, m2, m3, m4, m5⟩ := mayZ_yes h
    rcases Int.lt_or_le now z.t with h1 | h1
    · exact (score_old _ _ _ _ w h h1).mono fun e w' ⟨he, hb⟩ => ⟨0, 1, he, hb, .inl ⟨rfl, no (by unfold okZ; simp; omega)⟩⟩
    · rcases Int.lt_or_le 1099511627776 now with h2 | h2
      · exact (score_late _ _ _ _ w h h1 h2).mono fun e w' ⟨he, hb⟩ => ⟨0, 1, he, hb, .inl ⟨rfl, no (by unfold okZ; simp; omega)⟩⟩
      · have hok : okZ now z = true := by unfold okZ; rw [h]; simp; omega
        by_cases hs : z.s = 0
        · have hl : z.l = 0 := by omega
          refine (score_num _ _ _ _ w h h1 h2 (.inr hs)).mono fun e w' ⟨he, hb⟩ => ⟨_, 0, he, hb, .inr (.inl ⟨rfl, ?_, ?_⟩)⟩
          · rw [hl, hs, useV_nan, scoreV_nan]
          · unfold wV; rw [if_neg (by simp [hs])]
        · by_cases hl : z.l = 0
          · refine (score_inf _ _ _ _ w h h1 h2 hl (by omega)).mono fun e w' ⟨he, hb⟩ => ⟨_, 0, he, hb, .inr (.inr ⟨rfl, ?_, wV_le _ _⟩)⟩
            unfold wV; rw [if_pos ⟨hok, hs⟩, if_pos hl]
          · refine (score_num _ _ _ _ w h h1 h2 (.inl (by omega))).mono fun e w' ⟨he, hb⟩ => ⟨_, 0, he, hb, .inr (.inr ⟨rfl, ?_, wV_le _ _⟩)⟩
            unfold wV; rw [if_pos ⟨hok, hs⟩, if_neg hl]
theorem infoF : (Try.prog.info? 31).map (fun i => (i.zero, i.size, i.bytes)) = some (some (.float .f64 0), 1, 8) := by kernel_rfl
theorem infoI : (Try.prog.info? 3).map (fun i => (i.zero, i.size, i.bytes)) = some (some (.int .i64 0), 1, 8) := by kernel_rfl
theorem made_row (z : Value) (n : Nat) : madeCells z.cells n = (List.replicate n (z.cells[0]!)).toArray ∨ z.cells.size ≠ 1 := by
  by_cases h : z.cells.size = 1
  · left
    unfold madeCells
    apply Array.ext'
    apply List.ext_getElem
    · simp
    · intro i h1 h2
      simp [h, Nat.mod_one]
  · exact .inr h
theorem run_makeN (n : Nat) (hn : n ≤ 1000000) (W : World) : (Instr.makeSlice 73 (.int .i64 (n : Int)) (.int .i64 (n : Int))).run Try.prog W = .ok (.slice (some ⟨W.heap.size, 0, none⟩) n n) (W.alloc (.cells (List.replicate n (Value.float .f64 0)).toArray 31)) := by
  obtain ⟨i0, hi, hz0, hz1, hz2⟩ := info_parts infoF
  have h := run_make (P := Try.prog) W 73 31 i0 (.float .f64 0) Try.underlying73 hi hz0 .i64 .i64 n n (by omega) (by omega) (by rw [hz2]; omega) (by omega)
  rw [Int.toNat_natCast, hz1, Nat.mul_one] at h
  rcases made_row (.float .f64 0) n with e | e
  · rw [e] at h; exact h
  · exact absurd rfl e
set_option maxRecDepth 100000 in
set_option maxHeartbeats 4000000 in
theorem rank_any (A : Option Addr) (n c : Nat) (zs : List Zn) (now : Int) (w : World) (h : IsZones w A n c zs) (hn : n ≤ 100000) :
    Calls Try.prog 13 #[.slice A n c, .int .i64 now] w fun e w' => ∃ A' c', e = .returned (.slice A' (rankV (zs.map (wV now))).length c') ∧ w'.ownsRow w.heap.size 3 1 (.slice A' (rankV (zs.map (wV now))).length c') (rankV (zs.map (wV now))).length ((rankV (zs.map (wV now))).map nv) ∧ Below w.heap.size w w' := by
  have hl := h.len
  obtain ⟨ws, hws⟩ : ∃ ws, zs.map (wV now) = ws := ⟨_, rfl⟩
  have hwl : n = ws.length := by rw [← hws, List.length_map, hl]
  have hwle : ∀ x ∈ ws, x ≤ 9218868437227405312 := fun x hx => by rw [← hws] at hx; obtain ⟨z, _, rfl⟩ := List.mem_map.1 hx; exact wV_le _ _
  rw [hws]
  obtain ⟨i0, hi, hz0, hz1, hz2⟩ := info_parts infoI
  have hmk := run_makeN n (by omega)
  have HWL := Lib.hid hwl
  clear hwl
  go_enter Try.func13, Try.ntmps13
  go_wp2_with fail
  go_step3
  go_wp2_with fail
  go_step3
  go_wp2_with fail
  go_loopw [4, 6, 7, 8, 9, 15] (fun v _ _ _ _ i wr => ∃ (k : Nat), k ≤ n ∧ i = .int .i64 k ∧ RS w wr ws n k v) (fun _ _ _ _ _ i _ => n - (intOf i).toNat)
  case atStart =>
    refine ⟨0, Nat.zero_le _, rfl, ?_, ?_, ?_, ?_, ?_⟩
    · rw [keepN_zero]; exact ⟨rfl, .inl ⟨rfl, rfl⟩⟩
    · exact ((Below.refl _ _).alloc (Nat.le_refl _) _).alloc (by simp) _
    · simp
    · rw [row_zero]
      have := (Bk.new w 31 (List.replicate n (Value.float .f64 0))).alloc (.cells #[.slice (some ⟨w.heap.size, 0, none⟩) n n] 73)
      simpa using this
    · have := Bk.new (w.alloc (.cells (List.replicate n (Value.float .f64 0)).toArray 31)) 73 [.slice (some ⟨w.heap.size, 0, none⟩) n n]
      simpa using this
  case round =>
    obtain ⟨k, hk, rfl, hR⟩ := hrel
    clear hmk
    have hwl := HWL.out
    by_cases hlt : k < n
    · obtain ⟨ad, rfl, hbb, e0, e1, e2⟩ := zone_get (h.rd.next (Nat.le_refl _) hR.bel) (k := k) (by omega)
      obtain ⟨z, hz⟩ : ∃ z, zs[k]'(by omega) = z := ⟨_, rfl⟩
      have hgt : gt0 ws k = wV now z := by unfold gt0; rw [← hws, List.getD_eq_getElem?_getD, List.getElem?_map, List.getElem?_eq_getElem (by omega), hz]; rfl
      rw [hz] at e0 e1 e2
      clear hz hws
      have m0 : (k : Int) < n := by omega
      have hkl := keepN_le ws k
      have HG := Lib.hid hgt
      have HL := Lib.hid hwl
      clear hwl hwle hgt
      go_wp2_with fail
      refine (score_any z now _).mono ?_
      rintro e w2 ⟨x, cc, rfl, hb, hSC⟩
      have hR2 := hR.next (((Below.refl _ _).alloc (Nat.le_refl _) _).trans (hb.mono (by simp)))
      clear hb e0 e1 e2
      rcases hSC with ⟨rfl, hv⟩ | ⟨rfl, rfl, hv⟩ | ⟨rfl, rfl, hv⟩
      · go_wp2_with fail
        go_roundw
        case rel => exact ⟨k + 1, by omega, by go_num, hR2.skip HL.out hlt (by rw [HG.out]; first | exact hv | exact (HV.out).2)⟩
        case measure => simp [intOf]; omega
      · have t1 : (FloatKind.f64.format.order 9221120237041090560 9221120237041090560 != some .eq) = true := by decide +kernel
        go_wp2_with fail
        go_roundw
        case rel => exact ⟨k + 1, by omega, by go_num, hR2.skip HL.out hlt (by rw [HG.out]; first | exact hv | exact (HV.out).2)⟩
        case measure => simp [intOf]; omega
      · have t1 : (FloatKind.f64.format.order (wV now z) (wV now z) != some .eq) = false := t_ne_num (by rw [rg_small hv]; exact hv)
        have t2 : (FloatKind.f64.format.order (wV now z) 0 == some .eq) = decide (wV now z = 0) := p_eq hv (by omega)
        by_cases h0 : wV now z = 0
        · rw [decide_eq_true h0] at t2
          have HV := Lib.hid (And.intro h0 h0)
          clear h0
          go_wp2_with fail
          go_roundw
          case rel => exact ⟨k + 1, by omega, by go_num, hR2.skip HL.out hlt (by rw [HG.out]; first | exact hv | exact (HV.out).2)⟩
          case measure => simp [intOf]; omega
        · rw [decide_eq_false h0] at t2
          obtain ⟨hOS, _, hSS, _, _⟩ := hR2.store HL.out hlt HG.out
          obtain ⟨y0, c0⟩ := row_cell hR2.b0 HL.out hlt
          have f0 := hR2.b0.free k
          have c1 := hR2.b1.cell (i := 0) (by simp)
          simp only [List.getElem_cons_zero] at c1
          have H0 := Lib.hid h0
          clear h0
          go_wp2_with (at_builtin; go_must (refine wpList_app1 (w0 := _) rfl _ _ 25 rfl (w.heap.size + 2) 3 i0 (.int .i64 0) 8 Try.underlying25 hi hz0 hz1 hz2 rfl _ _ _ (by rfl) (by exact hOS) (by exact hSS) (Below.refl _ _) _ (by rfl) (by first | rfl | (simp only [World.size_setCell]; rfl)) (by omega) (by omega) ?_); intro v' w3 hO3 hW3 _)
          go_roundw
          case rel => exact ⟨k + 1, by omega, by go_num, hR2.take HL.out hlt HG.out H0.out hO3 hW3⟩
          case measure => simp [intOf]; omega
    · obtain rfl : k = n := by omega
      have hO := hR.own
      have hB0 := hR.b0
      have hB1 := hR.b1
      rw [row_end hwl] at hB0
      have HS := hide' (sortR_own (by have := keepN_le ws k; omega) (by omega) hwl hO (fun i hi => (mem_keepN.1 hi).1) hR.siz (by omega) (by omega) hB0 hB1 hwle)
      have hbel := hR.bel
      have HL := Lib.hid hwl
      clear hR hO hB0 hB1 hwle hwl
      go_wp2_with fail
      refine (unhide' HS).mono ?_
      rintro e w3 ⟨rfl, hO3, hb3⟩
      clear HS
      have hwl := HL.out
      have hlen : (rankV ws).length = (keepN ws k).length := by rw [(rankV_perm ws).length_eq, ← hwl]
      have e : (keepN ws k).mergeSort (leR ws) = rankV ws := by unfold rankV; rw [hwl]
      rw [e, ← hlen] at hO3
      have hO4 := World.ownsRow.mono hO3 (show w.heap.size ≤ w.heap.size + 2 by omega)
      obtain ⟨A2, c2, hv⟩ := own_form hO4
      have HB := hbel.trans (hb3.mono (by omega))
      clear hwl hlen e hO3 HL
      go_wp2_with fail
      try rw [Exit.noGoto_ret]
      go_ret
      exact ⟨A2, c2, by first | rfl | exact congrArg Ending.returned hv, by rw [← hv]; exact hO4, HB⟩
end Go.Proofs.Ytchhnjadnacniaa.Rk
