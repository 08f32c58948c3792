/- The contract of Apply of extmap. -/
import Derived.Test.YtchhnjadnacniaaCmE
import Derived.BigQuiet
import Derived.Deep.QuietTactic
namespace Go.Proofs.Ytchhnjadnacniaa.Cm
set_option linter.unusedSimpArgs false
set_option linter.unusedVariables false
open Go.RowKit

open Go.Maps
/-- the map of versions as times: g k are the times of block k's versions, the eldest first. -/
def EV (w : World) (B gm N M : Nat) (last : Int) (g : Int → List Int) : Prop := ∃ bm D mv f, EMx w B gm bm N M last D mv f ∧ ∀ k, (f k).map VerD.t = g k
theorem EMx.mono {w : World} {B gm bm N M N' M' : Nat} {last : Int} {D : DataW Value} {mv : Int → Value} {f : Int → List VerD} (h : EMx w B gm bm N M last D mv f) (hN : N ≤ N') (hM : M ≤ M') : EMx w B gm bm N' M' last D mv f :=
  ⟨h.bx, h.mp.mono hN, h.at', h.row, h.dj, h.dat, fun k => Nat.le_trans (h.lens k) hM, h.b1, h.b2⟩
theorem EV.mono {w : World} {B gm N M N' M' : Nat} {last : Int} {g : Int → List Int} (h : EV w B gm N M last g) (hN : N ≤ N') (hM : M ≤ M') : EV w B gm N' M' last g := by
  obtain ⟨bm, D, mv, f, h, e⟩ := h
  exact ⟨bm, D, mv, f, h.mono hN hM, e⟩
theorem EV.keep {w w' : World} {B gm N M : Nat} {last : Int} {g : Int → List Int} (h : EV w B gm N M last g) (k : KeepE w w') : EV w' B gm N M last g := by
  obtain ⟨bm, D, mv, f, h, e⟩ := h
  exact ⟨bm, D, mv, f, h.keep k, e⟩
theorem EV.next {w w' : World} {B gm N M : Nat} {last : Int} {g : Int → List Int} (h : EV w B gm N M last g) (k : Below w.heap.size w w') : EV w' B gm N M last g := h.keep (.of_below k)
def okPs (ps : List PutD) : Prop := riseB ps ∧ (∀ p ∈ ps, 0 ≤ p.lba ∧ p.lba < 30) ∧ ¬ badLen ps
def okTx (last T : Int) (ps : List PutD) : Prop := (last < T ∧ T ≤ 1099511627776) ∧ okPs ps
open Classical in
noncomputable def nextL (last T : Int) (ps : List PutD) : Int := if okTx last T ps then T else last
open Classical in
noncomputable def nextG (last T : Int) (ps : List PutD) (g : Int → List Int) : Int → List Int := if okTx last T ps then (fun j => g j ++ if j ∈ lbas ps then [T] else []) else g
theorem nextL_no {last T : Int} {ps : List PutD} (h : ¬ okTx last T ps) : nextL last T ps = last := if_neg h
theorem nextG_no {last T : Int} {ps : List PutD} (g : Int → List Int) (h : ¬ okTx last T ps) : nextG last T ps g = g := if_neg h
theorem up_ge {l : List Int} (h : Up l) : ∀ {i j : Nat} (hij : i ≤ j) (hj : j < l.length), l[i]'(by omega) + ((j : Int) - i) ≤ l[j] := by
  intro i j hij hj
  induction j with
  | zero => obtain rfl : i = 0 := by omega
            simp
  | succ j ih =>
    rcases Nat.lt_or_ge i (j + 1) with g | g
    · have h1 := ih (by omega) (by omega)
      have h2 := h j hj
      push_cast
      omega
    · obtain rfl : i = j + 1 := by omega
      simp
theorem lbas_len (ps : List PutD) : (lbas ps).length = ps.length := by unfold lbas; simp
theorem lbas_get (ps : List PutD) {k : Nat} (hk : k < ps.length) : (lbas ps)[k]'(by rw [lbas_len]; exact hk) = ps[k].lba := by unfold lbas; simp
/-- where the Puts rise, the first and the last one tell of all. -/
theorem range_all {ps : List PutD} (h : riseB ps) (h0 : 0 ≤ (ps[0]'(h.2)).lba) (h1 : (ps[ps.length - 1]'(by have := h.2; omega)).lba < 30) : (∀ p ∈ ps, 0 ≤ p.lba ∧ p.lba < 30) ∧ ps.length ≤ 30 := by
  have hl := h.2
  have e0 := lbas_get ps (k := 0) hl
  have e1 := lbas_get ps (k := ps.length - 1) (by omega)
  refine ⟨fun p hp => ?_, ?_⟩
  · obtain ⟨i, hi, rfl⟩ := List.getElem_of_mem hp
    have a := up_ge h.1 (i := 0) (j := i) (by omega) (by rw [lbas_len]; omega)
    have c := up_ge h.1 (i := i) (j := ps.length - 1) (by omega) (by rw [lbas_len]; omega)
    rw [lbas_get ps hi] at a c
    rw [e0] at a
    rw [e1] at c
    omega
  · have c := up_ge h.1 (i := 0) (j := ps.length - 1) (by omega) (by rw [lbas_len]; omega)
    rw [e0, e1] at c
    omega
/-- how far Apply has come: the first k Puts are in. -/
structure AL (w0 w wr : World) (gm bm k N M : Nat) (last T : Int) (s : Value) (ps : List PutD) (g : Int → List Int) : Prop where
  kp : KeepO w0.heap.size w wr
  bx : Bk wr w.heap.size 89 [.int .i64 T, s]
  em : ∃ D mv f, EMx wr w0.heap.size gm bm (N + k) (M + k) last D mv f ∧ ∀ j, (f j).map VerD.t = g j ++ if j ∈ (lbas ps).take k then [T] else []
  sz : w.heap.size ≤ wr.heap.size
/-- all but the rows of versions is as it was. -/
def NotV (w w' : World) : Prop := w.heap.size ≤ w'.heap.size ∧ ∀ (b : Nat) (ob : Obj), w.heap[b]? = some ob → (∀ cs fr, ob ≠ .cells cs 98 fr) → w'.heap[b]? = some ob
theorem NotV.drew (w : World) : NotV w w.drew := ⟨Nat.le_refl _, fun _ _ h _ => h⟩
theorem NotV.bk {w w' : World} (h : NotV w w') {g t : Nat} {cs : List Value} (hb : Bk w g t cs) (ht : t ≠ 98) : Bk w' g t cs := h.2 _ _ hb (fun cs fr e => by injection e with _ e _; exact ht e)
theorem NotV.look {w w' : World} (h : NotV w w') {B gm bm N M : Nat} {last : Int} {D : DataW Value} {mv : Int → Value} {f : Int → List VerD} (hE : EMx w B gm bm N M last D mv f) {k : Int} (hk : 0 ≤ k ∧ k < 30) : (Instr.lookup 100 (.map (some bm)) (.int .i64 k) false).run Try.prog w' = .ok (mv k) w' := by
  have hwf : (Lit.int .i64 k).wf = true := by simp [Lit.wf, IntKind.min, IntKind.max, IntKind.bits, IntKind.signed]; omega
  have mp : w'.ownsMap Try.prog 3 RV bm N D := by
    obtain ⟨es, cl, hb, r⟩ := hE.mp
    exact ⟨es, cl, h.2 _ _ hb (fun cs fr e => by cases e), r⟩
  obtain ⟨v, ps, hr, hv⟩ := mp.lookup lawI Try.underlying100 (zeroVs w') (zd := noneV) (zp := []) rfl (keyI hwf)
  rw [hE.at'] at hv
  unfold RV at hv
  simp at hv
  rw [hr, hv.1]
theorem NotV.below {w a b : World} (h : NotV w a) (hb : Below a.heap.size a b) : NotV w b := ⟨Nat.le_trans h.1 hb.size, fun i ob hi ho => by
  have := h.2 i ob hi ho
  exact (hb.block i (Array.getElem?_eq_some_iff.1 this).1).trans this⟩
theorem NotV.alloc {w a : World} (h : NotV w a) (o : Obj) : NotV w (a.alloc o) := h.below ((Below.refl _ _).alloc (Nat.le_refl _) _)
theorem own_one {w : World} {B e size n : Nat} {v : Value} {xs : List Value} (h : w.ownsRow B e size v n xs) : v.oneCell' = true := by
  rcases h.2 with ⟨rfl, _⟩ | ⟨g, cap, cur, rfl, _⟩ <;> rfl
theorem own_shape {w : World} {B e size n : Nat} {v : Value} {xs : List Value} (h : w.ownsRow B e size v n xs) : ∃ A c, v = .slice A n c := by
  rcases h.2 with ⟨hv, h0⟩ | ⟨g, cap, cur, hv, _⟩
  · exact ⟨none, 0, by rw [h0]; exact hv⟩
  · exact ⟨_, _, hv⟩
theorem NotV.grown {w a a' : World} (h : NotV w a) {B n : Nat} {v : Value} {xs : List Value} (ho : a.ownsRow B 98 2 v n xs) (hg : a.grownBy a' v.ownBlock) : NotV w a' := ⟨Nat.le_trans h.1 hg.size, fun b ob hb hn => by
  have h1 := h.2 b ob hb hn
  rw [hg.block b (Array.getElem?_eq_some_iff.1 h1).1 (fun e => by
    obtain ⟨_, cs, fr, h2⟩ := own_obj ho e.symm
    rw [h1] at h2
    injection h2 with h2
    exact hn _ _ h2)]
  exact h1⟩
theorem up_lt {l : List Int} (h : Up l) {i j : Nat} (hij : i < j) (hj : j < l.length) : l[i]'(by omega) < l[j] := by
  have := up_ge h (i := i) (j := j) (by omega) hj
  omega
theorem take_step {l : List Int} (h : Up l) {k : Nat} (hk : k < l.length) {x : Int} (hx : l[k] = x) {T : Int} {d : Value} {f : Int → List VerD} {g : Int → List Int} (hT : ∀ j, (f j).map VerD.t = g j ++ if j ∈ l.take k then [T] else []) (j : Int) :
    ((if j = x then f x ++ [⟨T, d⟩] else f j).map VerD.t) = g j ++ if j ∈ l.take (k + 1) then [T] else [] := by
  rw [List.take_succ_eq_append_getElem hk, hx]
  by_cases e : j = x
  · subst e
    have hn : j ∉ l.take k := fun hm => by
      obtain ⟨i, hi, e⟩ := List.getElem_of_mem hm
      rw [List.length_take] at hi
      rw [List.getElem_take] at e
      have := up_lt h (i := i) (j := k) (by omega) hk
      omega
    rw [if_pos rfl, List.map_append, hT j, if_neg hn, if_pos (by simp)]
    simp
  · rw [if_neg e, hT j]
    simp [e]
theorem EMx.setLast {w : World} {B gm bm N M : Nat} {last : Int} {D : DataW Value} {mv : Int → Value} {f : Int → List VerD} (h : EMx w B gm bm N M last D mv f) (T : Int) :
    EMx (w.setCell ⟨gm, 2, none⟩ (.int .i64 T)) B gm bm N M T D mv f ∧ KeepO B w (w.setCell ⟨gm, 2, none⟩ (.int .i64 T)) := by
  have far : ∀ (b : Nat) (ob : Obj), w.heap[b]? = some ob → (∀ cs fr, ob ≠ .cells cs 102 fr) → (w.setCell ⟨gm, 2, none⟩ (.int .i64 T)).heap[b]? = some ob := fun b ob hb hn => by
    rw [Below.heap_setCell _ _ _ _ (fun e => by
      have := h.bx
      unfold Bk at this
      have e : b = gm := e
      rw [← e, hb] at this
      injection this with this
      exact hn _ _ this)]
    exact hb
  have keep : ∀ {e size n : Nat} {v : Value} {xs : List Value}, e ≠ 102 → w.ownsRow B e size v n xs → (w.setCell ⟨gm, 2, none⟩ (.int .i64 T)).ownsRow B e size v n xs := fun he ho => by
    rcases ho.2 with h0 | ⟨g, cap, cur, hv, hg, hh, hr⟩
    · exact ⟨ho.1, .inl h0⟩
    · exact ⟨ho.1, .inr ⟨g, cap, cur, hv, hg, far _ _ hh (fun cs fr e => by injection e with _ e _; exact he e), hr⟩⟩
  refine ⟨⟨h.bx.set 2 _, ?_, h.at', fun k => keep (by decide) (h.row k), h.dj, fun k v hv => ?_, h.lens, h.b1, h.b2⟩, (Below.refl _ _).setCell h.b1 _, fun b ob hb ho => far b ob hb (fun cs fr e => by subst e; exact ho.1 rfl)⟩
  · obtain ⟨es, cl, hb, r⟩ := h.mp
    exact ⟨es, cl, far _ _ hb (fun cs fr e => by cases e), r⟩
  · obtain ⟨bs, hb, h1⟩ := h.dat k v hv
    exact ⟨bs, keep (by decide) hb, h1⟩
theorem meas {n k : Nat} (h : k < n) : n - (intOf (.int .i64 ((k : Int) + 1))).toNat < n - (intOf (.int .i64 (k : Int))).toNat := by simp [intOf]; omega
set_option maxRecDepth 100000 in
set_option maxHeartbeats 4000000 in
theorem apply_any (w0 : World) (B gm N M n c : Nat) (A : Option Addr) (last T : Int) (g : Int → List Int) (ps : List PutD) (w : World) (h : EV w B gm N M last g) (hp : IsPuts w0 A n c ps) (hB : B = w0.heap.size) (hbel : Below B w0 w) (hNM : N ≤ 100000 ∧ M ≤ 100000) :
    Calls Try.prog 49 #[.pointer (some ⟨gm, 0, none⟩), .agg #[.int .i64 T, .slice A n c]] w fun e w' => (∃ r : Int, e = .returned (.int .i64 r)) ∧ KeepO B w w' ∧ EV w' B gm (N + 30) (M + 30) (nextL last T ps) (nextG last T ps g) := by
  subst hB
  have HNM := Lib.hid hNM
  clear hNM
  obtain ⟨bm, D, mv, f, hE, hT⟩ := h
  have no : ¬ okTx last T ps → ∀ w', KeepO w0.heap.size w w' → EV w' w0.heap.size gm N M last g → KeepO w0.heap.size w w' ∧ EV w' w0.heap.size gm (N + 30) (M + 30) (nextL last T ps) (nextG last T ps g) := fun h w' hk he =>
    ⟨hk, by rw [nextL_no h, nextG_no g h]; exact he.mono (by omega) (by omega)⟩
  have HNO := Lib.hid no
  clear no
  obtain ⟨w1, hw1⟩ : ∃ w1, w.alloc (.cells #[.int .i64 T, .slice A n c] 89) = w1 := ⟨_, rfl⟩
  have hBw : w0.heap.size ≤ w.heap.size := Nat.le_trans hE.b1 (Nat.le_of_lt hE.bx.lt)
  have hb1 : Below w.heap.size w w1 := by rw [← hw1]; exact (Below.refl _ _).alloc (Nat.le_refl _) _
  have hx1 : Bk w1 w.heap.size 89 [.int .i64 T, .slice A n c] := by rw [← hw1]; exact Bk.new w _ _
  have hE1 := hE.keep (.of_below hb1)
  have hk1 : KeepO w0.heap.size w w1 := .of_below hBw hb1
  have HS := Lib.hid (And.intro hE (And.intro hb1 (And.intro hk1 (And.intro hBw hT))))
  clear hE hb1 hk1 hBw hT
  have c0 := hx1.cell (i := 0) (by simp)
  have c1 := hx1.cell (i := 1) (by simp)
  have c2 := hE1.bx.cell (i := 2) (by simp)
  have c3 := hE1.bx.cell (i := 1) (by simp)
  simp only [List.getElem_cons_zero, List.getElem_cons_succ] at c0 c1 c2 c3
  go_enter Try.func49, Try.ntmps49
  go_wp2_with fail
  refine (gone_any _ _ _ _ hE1.bx).mono ?_
  rintro e w' ⟨rfl, rfl⟩
  by_cases hT1 : T ≤ last
  · have t0 : decide (T ≤ last) = true := decide_eq_true hT1
    have HN := Lib.hid (show ¬ okTx last T ps from fun h => by have := h.1.1; omega)
    clear hT1
    go_wp2_with fail
    refine wp_region_held_drew (S := Drawn w1) (by kernel_rfl) (by first | exact Drawn.of _ _ | exact Drawn.one _) (fun hHeld => ?_)
    refine wpAnyH_take (i := 0) (v := ?v1_0) (by simp only [List.getElem?_toArray, List.getElem?_cons_succ, List.getElem?_cons_zero]; rfl) (by kernel_rfl) (by kernel_rfl) (by kernel_rfl) (by exact fun _ _ _ h => h) (Or.inl ⟨by rfl, ?h1_0⟩) hHeld ?_
    case h1_0 => (intro w' hSw; obtain ⟨m, rfl⟩ := hSw; go_simp <;> with_reducible rfl)
    try simp only [Act.put, List.setIfInBounds_toArray, List.set_cons_zero, List.set_cons_succ]
    refine wpAnyH_take (i := 1) (v := ?v2_1) (by simp only [List.getElem?_toArray, List.getElem?_cons_succ, List.getElem?_cons_zero]; rfl) (by kernel_rfl) (by kernel_rfl) (by kernel_rfl) (by exact fun _ _ _ h => h) (Or.inl ⟨by rfl, ?h2_1⟩) hHeld ?_
    case h2_1 => (intro w' hSw; obtain ⟨m, rfl⟩ := hSw; go_simp <;> with_reducible rfl)
    try simp only [Act.put, List.setIfInBounds_toArray, List.set_cons_zero, List.set_cons_succ]
    refine wpAnyH_take (i := 2) (v := ?v3_2) (by simp only [List.getElem?_toArray, List.getElem?_cons_succ, List.getElem?_cons_zero]; rfl) (by kernel_rfl) (by kernel_rfl) (by kernel_rfl) (by exact fun _ _ _ h => h) (Or.inl ⟨by rfl, ?h3_2⟩) hHeld ?_
    case h3_2 => (intro w' hSw; obtain ⟨m, rfl⟩ := hSw; go_simp <;> with_reducible rfl)
    try simp only [Act.put, List.setIfInBounds_toArray, List.set_cons_zero, List.set_cons_succ]
    refine wpAnyH_take (i := 3) (v := ?v4_3) (by simp only [List.getElem?_toArray, List.getElem?_cons_succ, List.getElem?_cons_zero]; rfl) (by kernel_rfl) (by kernel_rfl) (by kernel_rfl) (by exact fun _ _ _ h => h) (Or.inl ⟨by rfl, ?h4_3⟩) hHeld ?_
    case h4_3 => (intro w' hSw; obtain ⟨m, rfl⟩ := hSw; go_simp <;> with_reducible rfl)
    try simp only [Act.put, List.setIfInBounds_toArray, List.set_cons_zero, List.set_cons_succ]
    refine wpAnyH_take (i := 4) (v := ?v5_4) (by simp only [List.getElem?_toArray, List.getElem?_cons_succ, List.getElem?_cons_zero]; rfl) (by kernel_rfl) (by kernel_rfl) (by kernel_rfl) (by exact fun _ _ _ h => h) (Or.inl ⟨by rfl, ?h5_4⟩) hHeld ?_
    case h5_4 => (intro w' hSw; obtain ⟨m, rfl⟩ := hSw; go_simp <;> with_reducible rfl)
    try simp only [Act.put, List.setIfInBounds_toArray, List.set_cons_zero, List.set_cons_succ]
    refine wpAnyH_take (i := 5) (v := ?v6_5) (by simp only [List.getElem?_toArray, List.getElem?_cons_succ, List.getElem?_cons_zero]; rfl) (by kernel_rfl) (by kernel_rfl) (by kernel_rfl) (by exact fun _ _ _ h => h) (Or.inl ⟨by rfl, ?h6_5⟩) hHeld ?_
    case h6_5 => (intro w' hSw; obtain ⟨m, rfl⟩ := hSw; go_simp <;> with_reducible rfl)
    try simp only [Act.put, List.setIfInBounds_toArray, List.set_cons_zero, List.set_cons_succ]
    refine wpAnyH_take (i := 6) (v := ?v7_6) (by simp only [List.getElem?_toArray, List.getElem?_cons_succ, List.getElem?_cons_zero]; rfl) (by kernel_rfl) (by kernel_rfl) (by kernel_rfl) (by exact fun _ _ _ h => h) (Or.inl ⟨by rfl, ?h7_6⟩) hHeld ?_
    case h7_6 => (intro w' hSw; obtain ⟨m, rfl⟩ := hSw; go_simp <;> with_reducible rfl)
    try simp only [Act.put, List.setIfInBounds_toArray, List.set_cons_zero, List.set_cons_succ]
    refine wpAnyH_take (i := 7) (v := ?v8_7) (by simp only [List.getElem?_toArray, List.getElem?_cons_succ, List.getElem?_cons_zero]; rfl) (by kernel_rfl) (by kernel_rfl) (by kernel_rfl) (by exact fun _ _ _ h => h) (Or.inl ⟨by rfl, ?h8_7⟩) hHeld ?_
    case h8_7 => (intro w' hSw; obtain ⟨m, rfl⟩ := hSw; go_simp <;> with_reducible rfl)
    try simp only [Act.put, List.setIfInBounds_toArray, List.set_cons_zero, List.set_cons_succ]
    refine wpAnyH_take (i := 8) (v := undef) (by simp only [List.getElem?_toArray, List.getElem?_cons_succ, List.getElem?_cons_zero]; rfl) (by kernel_rfl) (by kernel_rfl) (by kernel_rfl) (by exact fun _ _ _ h => h) (Or.inr ⟨by rfl, rfl⟩) hHeld ?_
    try simp only [Act.put, List.setIfInBounds_toArray, List.set_cons_zero, List.set_cons_succ]
    refine wpAnyH_take (i := 9) (v := undef) (by simp only [List.getElem?_toArray, List.getElem?_cons_succ, List.getElem?_cons_zero]; rfl) (by kernel_rfl) (by kernel_rfl) (by kernel_rfl) (by exact fun _ _ _ h => h) (Or.inr ⟨by rfl, rfl⟩) hHeld ?_
    try simp only [Act.put, List.setIfInBounds_toArray, List.set_cons_zero, List.set_cons_succ]
    refine wpAnyH_take (i := 10) (v := undef) (by simp only [List.getElem?_toArray, List.getElem?_cons_succ, List.getElem?_cons_zero]; rfl) (by kernel_rfl) (by kernel_rfl) (by kernel_rfl) (by exact fun _ _ _ h => h) (Or.inr ⟨by rfl, rfl⟩) hHeld ?_
    try simp only [Act.put, List.setIfInBounds_toArray, List.set_cons_zero, List.set_cons_succ]
    refine wpAnyH_take (i := 11) (v := ?v9_11) (by simp only [List.getElem?_toArray, List.getElem?_cons_succ, List.getElem?_cons_zero]; rfl) (by kernel_rfl) (by kernel_rfl) (by kernel_rfl) (by exact fun _ _ _ h => h) (Or.inl ⟨by rfl, ?h9_11⟩) hHeld ?_
    case h9_11 => (intro w' hSw; obtain ⟨m, rfl⟩ := hSw; go_simp <;> with_reducible rfl)
    try simp only [Act.put, List.setIfInBounds_toArray, List.set_cons_zero, List.set_cons_succ]
    refine wpAnyH_take (i := 12) (v := ?v10_12) (by simp only [List.getElem?_toArray, List.getElem?_cons_succ, List.getElem?_cons_zero]; rfl) (by kernel_rfl) (by kernel_rfl) (by kernel_rfl) (by exact fun _ _ _ h => h) (Or.inl ⟨by rfl, ?h10_12⟩) hHeld ?_
    case h10_12 => (intro w' hSw; obtain ⟨m, rfl⟩ := hSw; go_simp <;> with_reducible rfl)
    try simp only [Act.put, List.setIfInBounds_toArray, List.set_cons_zero, List.set_cons_succ]
    refine wpAnyH_done (by kernel_rfl) ?_ _
    go_wp2_with fail
    go_ret
    exact ⟨⟨_, rfl⟩, HNO.out HN.out _ (HS.out.2.2.1.trans (.of_below (Nat.le_trans HS.out.2.2.2.1 HS.out.2.1.size) (bdrew (Below.refl _ _)))) ⟨bm, D, mv, f, hE1.keep (.of_below (by first | exact bdrew (Below.refl _ _) | exact bdrewN (bdrew (Below.refl _ _)) _)), HS.out.2.2.2.2⟩⟩
  · have t0 : decide (T ≤ last) = false := decide_eq_false hT1
    by_cases hT2 : 1099511627776 < T
    · have t1 : decide (1099511627776 < T) = true := decide_eq_true hT2
      have HN := Lib.hid (show ¬ okTx last T ps from fun h => by have := h.1.2; omega)
      clear hT1 hT2
      go_wp2_with fail
      refine wp_region_held_drew (S := Drawn w1) (by kernel_rfl) (by first | exact Drawn.of _ _ | exact Drawn.one _) (fun hHeld => ?_)
      refine wpAnyH_take (i := 0) (v := ?v42_0) (by simp only [List.getElem?_toArray, List.getElem?_cons_succ, List.getElem?_cons_zero]; rfl) (by kernel_rfl) (by kernel_rfl) (by kernel_rfl) (by exact fun _ _ _ h => h) (Or.inl ⟨by rfl, ?h42_0⟩) hHeld ?_
      case h42_0 => (intro w' hSw; obtain ⟨m, rfl⟩ := hSw; go_simp <;> with_reducible rfl)
      try simp only [Act.put, List.setIfInBounds_toArray, List.set_cons_zero, List.set_cons_succ]
      refine wpAnyH_take (i := 1) (v := ?v43_1) (by simp only [List.getElem?_toArray, List.getElem?_cons_succ, List.getElem?_cons_zero]; rfl) (by kernel_rfl) (by kernel_rfl) (by kernel_rfl) (by exact fun _ _ _ h => h) (Or.inl ⟨by rfl, ?h43_1⟩) hHeld ?_
      case h43_1 => (intro w' hSw; obtain ⟨m, rfl⟩ := hSw; go_simp <;> with_reducible rfl)
      try simp only [Act.put, List.setIfInBounds_toArray, List.set_cons_zero, List.set_cons_succ]
      refine wpAnyH_take (i := 2) (v := ?v44_2) (by simp only [List.getElem?_toArray, List.getElem?_cons_succ, List.getElem?_cons_zero]; rfl) (by kernel_rfl) (by kernel_rfl) (by kernel_rfl) (by exact fun _ _ _ h => h) (Or.inl ⟨by rfl, ?h44_2⟩) hHeld ?_
      case h44_2 => (intro w' hSw; obtain ⟨m, rfl⟩ := hSw; go_simp <;> with_reducible rfl)
      try simp only [Act.put, List.setIfInBounds_toArray, List.set_cons_zero, List.set_cons_succ]
      refine wpAnyH_take (i := 3) (v := ?v45_3) (by simp only [List.getElem?_toArray, List.getElem?_cons_succ, List.getElem?_cons_zero]; rfl) (by kernel_rfl) (by kernel_rfl) (by kernel_rfl) (by exact fun _ _ _ h => h) (Or.inl ⟨by rfl, ?h45_3⟩) hHeld ?_
      case h45_3 => (intro w' hSw; obtain ⟨m, rfl⟩ := hSw; go_simp <;> with_reducible rfl)
      try simp only [Act.put, List.setIfInBounds_toArray, List.set_cons_zero, List.set_cons_succ]
      refine wpAnyH_take (i := 4) (v := ?v46_4) (by simp only [List.getElem?_toArray, List.getElem?_cons_succ, List.getElem?_cons_zero]; rfl) (by kernel_rfl) (by kernel_rfl) (by kernel_rfl) (by exact fun _ _ _ h => h) (Or.inl ⟨by rfl, ?h46_4⟩) hHeld ?_
      case h46_4 => (intro w' hSw; obtain ⟨m, rfl⟩ := hSw; go_simp <;> with_reducible rfl)
      try simp only [Act.put, List.setIfInBounds_toArray, List.set_cons_zero, List.set_cons_succ]
      refine wpAnyH_take (i := 5) (v := ?v47_5) (by simp only [List.getElem?_toArray, List.getElem?_cons_succ, List.getElem?_cons_zero]; rfl) (by kernel_rfl) (by kernel_rfl) (by kernel_rfl) (by exact fun _ _ _ h => h) (Or.inl ⟨by rfl, ?h47_5⟩) hHeld ?_
      case h47_5 => (intro w' hSw; obtain ⟨m, rfl⟩ := hSw; go_simp <;> with_reducible rfl)
      try simp only [Act.put, List.setIfInBounds_toArray, List.set_cons_zero, List.set_cons_succ]
      refine wpAnyH_take (i := 6) (v := ?v48_6) (by simp only [List.getElem?_toArray, List.getElem?_cons_succ, List.getElem?_cons_zero]; rfl) (by kernel_rfl) (by kernel_rfl) (by kernel_rfl) (by exact fun _ _ _ h => h) (Or.inl ⟨by rfl, ?h48_6⟩) hHeld ?_
      case h48_6 => (intro w' hSw; obtain ⟨m, rfl⟩ := hSw; go_simp <;> with_reducible rfl)
      try simp only [Act.put, List.setIfInBounds_toArray, List.set_cons_zero, List.set_cons_succ]
      refine wpAnyH_take (i := 7) (v := ?v49_7) (by simp only [List.getElem?_toArray, List.getElem?_cons_succ, List.getElem?_cons_zero]; rfl) (by kernel_rfl) (by kernel_rfl) (by kernel_rfl) (by exact fun _ _ _ h => h) (Or.inl ⟨by rfl, ?h49_7⟩) hHeld ?_
      case h49_7 => (intro w' hSw; obtain ⟨m, rfl⟩ := hSw; go_simp <;> with_reducible rfl)
      try simp only [Act.put, List.setIfInBounds_toArray, List.set_cons_zero, List.set_cons_succ]
      refine wpAnyH_take (i := 8) (v := ?v50_8) (by simp only [List.getElem?_toArray, List.getElem?_cons_succ, List.getElem?_cons_zero]; rfl) (by kernel_rfl) (by kernel_rfl) (by kernel_rfl) (by exact fun _ _ _ h => h) (Or.inl ⟨by rfl, ?h50_8⟩) hHeld ?_
      case h50_8 => (intro w' hSw; obtain ⟨m, rfl⟩ := hSw; go_simp <;> with_reducible rfl)
      try simp only [Act.put, List.setIfInBounds_toArray, List.set_cons_zero, List.set_cons_succ]
      refine wpAnyH_take (i := 9) (v := ?v51_9) (by simp only [List.getElem?_toArray, List.getElem?_cons_succ, List.getElem?_cons_zero]; rfl) (by kernel_rfl) (by kernel_rfl) (by kernel_rfl) (by exact fun _ _ _ h => h) (Or.inl ⟨by rfl, ?h51_9⟩) hHeld ?_
      case h51_9 => (intro w' hSw; obtain ⟨m, rfl⟩ := hSw; go_simp <;> with_reducible rfl)
      try simp only [Act.put, List.setIfInBounds_toArray, List.set_cons_zero, List.set_cons_succ]
      refine wpAnyH_take (i := 10) (v := ?v52_10) (by simp only [List.getElem?_toArray, List.getElem?_cons_succ, List.getElem?_cons_zero]; rfl) (by kernel_rfl) (by kernel_rfl) (by kernel_rfl) (by exact fun _ _ _ h => h) (Or.inl ⟨by rfl, ?h52_10⟩) hHeld ?_
      case h52_10 => (intro w' hSw; obtain ⟨m, rfl⟩ := hSw; go_simp <;> with_reducible rfl)
      try simp only [Act.put, List.setIfInBounds_toArray, List.set_cons_zero, List.set_cons_succ]
      refine wpAnyH_take (i := 11) (v := ?v53_11) (by simp only [List.getElem?_toArray, List.getElem?_cons_succ, List.getElem?_cons_zero]; rfl) (by kernel_rfl) (by kernel_rfl) (by kernel_rfl) (by exact fun _ _ _ h => h) (Or.inl ⟨by rfl, ?h53_11⟩) hHeld ?_
      case h53_11 => (intro w' hSw; obtain ⟨m, rfl⟩ := hSw; go_simp <;> with_reducible rfl)
      try simp only [Act.put, List.setIfInBounds_toArray, List.set_cons_zero, List.set_cons_succ]
      refine wpAnyH_take (i := 12) (v := ?v54_12) (by simp only [List.getElem?_toArray, List.getElem?_cons_succ, List.getElem?_cons_zero]; rfl) (by kernel_rfl) (by kernel_rfl) (by kernel_rfl) (by exact fun _ _ _ h => h) (Or.inl ⟨by rfl, ?h54_12⟩) hHeld ?_
      case h54_12 => (intro w' hSw; obtain ⟨m, rfl⟩ := hSw; go_simp <;> with_reducible rfl)
      try simp only [Act.put, List.setIfInBounds_toArray, List.set_cons_zero, List.set_cons_succ]
      refine wpAnyH_done (by kernel_rfl) ?_ _
      go_wp2_with fail
      go_ret
      exact ⟨⟨_, rfl⟩, HNO.out HN.out _ (HS.out.2.2.1.trans (.of_below (Nat.le_trans HS.out.2.2.2.1 HS.out.2.1.size) (bdrew (Below.refl _ _)))) ⟨bm, D, mv, f, hE1.keep (.of_below (by first | exact bdrew (Below.refl _ _) | exact bdrewN (bdrew (Below.refl _ _)) _)), HS.out.2.2.2.2⟩⟩
    · have t1 : decide (1099511627776 < T) = false := decide_eq_false hT2
      have HT := Lib.hid (show last < T ∧ T ≤ 1099511627776 by omega)
      clear hT1 hT2
      have hp1 := hp.next (hbel.trans HS.out.2.2.1.bel)
      go_wp2_with fail
      refine wp_region_held_drew (S := Drawn w1) (by kernel_rfl) (by first | exact Drawn.of _ _ | exact Drawn.one _) (fun hHeld => ?_)
      refine wpAnyH_take (i := 0) (v := ?v29_0) (by simp only [List.getElem?_toArray, List.getElem?_cons_succ, List.getElem?_cons_zero]; rfl) (by kernel_rfl) (by kernel_rfl) (by kernel_rfl) (by exact fun _ _ _ h => h) (Or.inl ⟨by rfl, ?h29_0⟩) hHeld ?_
      case h29_0 => (intro w' hSw; obtain ⟨m, rfl⟩ := hSw; go_simp <;> with_reducible rfl)
      try simp only [Act.put, List.setIfInBounds_toArray, List.set_cons_zero, List.set_cons_succ]
      refine wpAnyH_take (i := 1) (v := ?v30_1) (by simp only [List.getElem?_toArray, List.getElem?_cons_succ, List.getElem?_cons_zero]; rfl) (by kernel_rfl) (by kernel_rfl) (by kernel_rfl) (by exact fun _ _ _ h => h) (Or.inl ⟨by rfl, ?h30_1⟩) hHeld ?_
      case h30_1 => (intro w' hSw; obtain ⟨m, rfl⟩ := hSw; go_simp <;> with_reducible rfl)
      try simp only [Act.put, List.setIfInBounds_toArray, List.set_cons_zero, List.set_cons_succ]
      refine wpAnyH_take (i := 2) (v := ?v31_2) (by simp only [List.getElem?_toArray, List.getElem?_cons_succ, List.getElem?_cons_zero]; rfl) (by kernel_rfl) (by kernel_rfl) (by kernel_rfl) (by exact fun _ _ _ h => h) (Or.inl ⟨by rfl, ?h31_2⟩) hHeld ?_
      case h31_2 => (intro w' hSw; obtain ⟨m, rfl⟩ := hSw; go_simp <;> with_reducible rfl)
      try simp only [Act.put, List.setIfInBounds_toArray, List.set_cons_zero, List.set_cons_succ]
      refine wpAnyH_take (i := 3) (v := ?v32_3) (by simp only [List.getElem?_toArray, List.getElem?_cons_succ, List.getElem?_cons_zero]; rfl) (by kernel_rfl) (by kernel_rfl) (by kernel_rfl) (by exact fun _ _ _ h => h) (Or.inl ⟨by rfl, ?h32_3⟩) hHeld ?_
      case h32_3 => (intro w' hSw; obtain ⟨m, rfl⟩ := hSw; go_simp <;> with_reducible rfl)
      try simp only [Act.put, List.setIfInBounds_toArray, List.set_cons_zero, List.set_cons_succ]
      refine wpAnyH_take (i := 4) (v := ?v33_4) (by simp only [List.getElem?_toArray, List.getElem?_cons_succ, List.getElem?_cons_zero]; rfl) (by kernel_rfl) (by kernel_rfl) (by kernel_rfl) (by exact fun _ _ _ h => h) (Or.inl ⟨by rfl, ?h33_4⟩) hHeld ?_
      case h33_4 => (intro w' hSw; obtain ⟨m, rfl⟩ := hSw; go_simp <;> with_reducible rfl)
      try simp only [Act.put, List.setIfInBounds_toArray, List.set_cons_zero, List.set_cons_succ]
      refine wpAnyH_take (i := 5) (v := ?v34_5) (by simp only [List.getElem?_toArray, List.getElem?_cons_succ, List.getElem?_cons_zero]; rfl) (by kernel_rfl) (by kernel_rfl) (by kernel_rfl) (by exact fun _ _ _ h => h) (Or.inl ⟨by rfl, ?h34_5⟩) hHeld ?_
      case h34_5 => (intro w' hSw; obtain ⟨m, rfl⟩ := hSw; go_simp <;> with_reducible rfl)
      try simp only [Act.put, List.setIfInBounds_toArray, List.set_cons_zero, List.set_cons_succ]
      refine wpAnyH_take (i := 6) (v := ?v35_6) (by simp only [List.getElem?_toArray, List.getElem?_cons_succ, List.getElem?_cons_zero]; rfl) (by kernel_rfl) (by kernel_rfl) (by kernel_rfl) (by exact fun _ _ _ h => h) (Or.inl ⟨by rfl, ?h35_6⟩) hHeld ?_
      case h35_6 => (intro w' hSw; obtain ⟨m, rfl⟩ := hSw; go_simp <;> with_reducible rfl)
      try simp only [Act.put, List.setIfInBounds_toArray, List.set_cons_zero, List.set_cons_succ]
      refine wpAnyH_take (i := 7) (v := ?v36_7) (by simp only [List.getElem?_toArray, List.getElem?_cons_succ, List.getElem?_cons_zero]; rfl) (by kernel_rfl) (by kernel_rfl) (by kernel_rfl) (by exact fun _ _ _ h => h) (Or.inl ⟨by rfl, ?h36_7⟩) hHeld ?_
      case h36_7 => (intro w' hSw; obtain ⟨m, rfl⟩ := hSw; go_simp <;> with_reducible rfl)
      try simp only [Act.put, List.setIfInBounds_toArray, List.set_cons_zero, List.set_cons_succ]
      refine wpAnyH_take (i := 8) (v := ?v37_8) (by simp only [List.getElem?_toArray, List.getElem?_cons_succ, List.getElem?_cons_zero]; rfl) (by kernel_rfl) (by kernel_rfl) (by kernel_rfl) (by exact fun _ _ _ h => h) (Or.inl ⟨by rfl, ?h37_8⟩) hHeld ?_
      case h37_8 => (intro w' hSw; obtain ⟨m, rfl⟩ := hSw; go_simp <;> with_reducible rfl)
      try simp only [Act.put, List.setIfInBounds_toArray, List.set_cons_zero, List.set_cons_succ]
      refine wpAnyH_take (i := 9) (v := ?v38_9) (by simp only [List.getElem?_toArray, List.getElem?_cons_succ, List.getElem?_cons_zero]; rfl) (by kernel_rfl) (by kernel_rfl) (by kernel_rfl) (by exact fun _ _ _ h => h) (Or.inl ⟨by rfl, ?h38_9⟩) hHeld ?_
      case h38_9 => (intro w' hSw; obtain ⟨m, rfl⟩ := hSw; go_simp <;> with_reducible rfl)
      try simp only [Act.put, List.setIfInBounds_toArray, List.set_cons_zero, List.set_cons_succ]
      refine wpAnyH_take (i := 10) (v := ?v39_10) (by simp only [List.getElem?_toArray, List.getElem?_cons_succ, List.getElem?_cons_zero]; rfl) (by kernel_rfl) (by kernel_rfl) (by kernel_rfl) (by exact fun _ _ _ h => h) (Or.inl ⟨by rfl, ?h39_10⟩) hHeld ?_
      case h39_10 => (intro w' hSw; obtain ⟨m, rfl⟩ := hSw; go_simp <;> with_reducible rfl)
      try simp only [Act.put, List.setIfInBounds_toArray, List.set_cons_zero, List.set_cons_succ]
      refine wpAnyH_take (i := 11) (v := ?v40_11) (by simp only [List.getElem?_toArray, List.getElem?_cons_succ, List.getElem?_cons_zero]; rfl) (by kernel_rfl) (by kernel_rfl) (by kernel_rfl) (by exact fun _ _ _ h => h) (Or.inl ⟨by rfl, ?h40_11⟩) hHeld ?_
      case h40_11 => (intro w' hSw; obtain ⟨m, rfl⟩ := hSw; go_simp <;> with_reducible rfl)
      try simp only [Act.put, List.setIfInBounds_toArray, List.set_cons_zero, List.set_cons_succ]
      refine wpAnyH_take (i := 12) (v := ?v41_12) (by simp only [List.getElem?_toArray, List.getElem?_cons_succ, List.getElem?_cons_zero]; rfl) (by kernel_rfl) (by kernel_rfl) (by kernel_rfl) (by exact fun _ _ _ h => h) (Or.inl ⟨by rfl, ?h41_12⟩) hHeld ?_
      case h41_12 => (intro w' hSw; obtain ⟨m, rfl⟩ := hSw; go_simp <;> with_reducible rfl)
      try simp only [Act.put, List.setIfInBounds_toArray, List.set_cons_zero, List.set_cons_succ]
      refine wpAnyH_done (by kernel_rfl) ?_ _
      go_wp2_with fail
      refine (rise_any A n c ps w1.drew (hp1.next (bdrew (Below.refl _ _)))).mono ?_
      rintro e w' ⟨hr, q, rfl⟩
      have hkq : ∀ x, KeepO w0.heap.size w (w1.drewN x) := fun x => HS.out.2.2.1.trans (.of_below (Nat.le_trans HS.out.2.2.2.1 HS.out.2.1.size) (bdrewN (Below.refl _ _) x))
      have hE2 : ∀ x, EMx (w1.drewN x) w0.heap.size gm bm N M last D mv f := fun x => hE1.keep (.of_below (bdrewN (Below.refl _ _) x))
      rcases hr with ⟨rfl, hr⟩ | ⟨rfl, hr⟩
      · have hlen := hp.len
        obtain ⟨m, rfl⟩ : ∃ m, n = m + 1 := ⟨n - 1, by have := hr.2; omega⟩
        have hp2 : ∀ x, IsPuts (w1.drewN x) A (m + 1) c ps := fun x => hp1.next (bdrewN (Below.refl _ _) x)
        obtain ⟨p0, hp0⟩ : ∃ p, ps[0]'(by omega) = p := ⟨_, rfl⟩
        obtain ⟨p9, hp9⟩ : ∃ p, ps[m]'(by omega) = p := ⟨_, rfl⟩
        have h9 := two_get put_two hp1.rd (k := m) (by omega) (u := .int .i64 p9.lba) (v := .slice p9.A p9.n p9.c) (by rw [hp9]; rfl)
        obtain ⟨ad, rfl, had, k0, _⟩ := two_get put_two hp1.rd (k := 0) (by omega) (u := .int .i64 p0.lba) (v := .slice p0.A p0.n p0.c) (by rw [hp0]; rfl)
        obtain ⟨_, e9, _, k9, _⟩ := h9
        injection e9 with e9
        subst e9
        have k0' : w1.cell? ad = some (.int .i64 p0.lba) := by simpa [Addr.add] using k0
        have m0 : (0 : Int) ≤ (m : Int) := by omega
        have HR := Lib.hid hr
        have HP := Lib.hid (And.intro hp0 hp9)
        have hcap := hp.cap
        have hbg := hp.big
        have hbig : maxLen ≤ 9223372036854775807 := by decide
        have wk : wrap64 (m : Int) = m := by unfold wrap64; omega
        clear hr hp0 hp9 hbig
        by_cases g0 : 0 ≤ p0.lba ∧ p0.lba < 30
        · have t2 : decide (0 ≤ p0.lba ∧ p0.lba < 30) = true := decide_eq_true g0
          by_cases g9 : 0 ≤ p9.lba ∧ p9.lba < 30
          · have t3 : decide (0 ≤ p9.lba ∧ p9.lba < 30) = true := decide_eq_true g9
            have HA := Lib.hid (range_all HR.out (by rw [HP.out.1]; exact g0.1) (by have e : ps.length - 1 = m := by omega
                                                                                    simp only [e]; rw [HP.out.2]; exact g9.2))
            clear g0 g9
            go_wp2_with fail
            refine (block_any _ _ _ _ _ (hE2 _).bx).mono ?_
            rintro e w' ⟨rfl, rfl⟩
            go_wp2_with fail
            refine (block_any _ _ _ _ _ (hE2 _).bx).mono ?_
            rintro e w' ⟨rfl, rfl⟩
            go_wp2_with fail
            refine (has_any _ _ _ _ _ (hp2 _)).mono ?_
            rintro e w2 ⟨hh, hb2⟩
            have hE3 := (hE2 (1 + q)).keep (.of_below hb2)
            have hk3 : KeepO w0.heap.size w w2 := (hkq (1 + q)).trans (.of_below (Nat.le_trans HS.out.2.2.2.1 HS.out.2.1.size) hb2)
            have hx3 : Bk w2 w.heap.size 89 [.int .i64 T, .slice (some ad) (m + 1) c] := (hx1.drewN (1 + q)).next hb2 (hx1.drewN (1 + q)).lt
            rcases hh with ⟨rfl, hh⟩ | ⟨rfl, hh⟩
            · have HN := Lib.hid (show ¬ okTx last T ps from fun h => h.2.2.2 hh)
              clear hh
              go_wp2_with fail
              go_ret
              exact ⟨⟨_, rfl⟩, HNO.out HN.out _ hk3 ⟨bm, D, mv, f, hE3, HS.out.2.2.2.2⟩⟩
            · have HY := Lib.hid (show okTx last T ps from ⟨HT.out, HR.out, HA.out.1, hh⟩)
              have hAL : AL w0 w w2 gm bm 0 N M last T (.slice (some ad) (m + 1) c) ps g := ⟨hk3, hx3, ⟨D, mv, f, hE3, fun j => by simpa using HS.out.2.2.2.2 j⟩, Nat.le_trans HS.out.2.1.size hb2.size⟩
              have d1 := hx3.cell (i := 1) (by simp)
              simp only [List.getElem_cons_zero, List.getElem_cons_succ] at d1
              clear hh hE3 hk3 hx3 hb2 hE2 hp2 hkq hp1 hE1 c0 c1 c2 c3 k0 k0' k9 had hx1 hw1
              go_wp2_with fail
              go_loopw [58] (fun i wr => ∃ k : Nat, k ≤ m + 1 ∧ i = .int .i64 k ∧ AL w0 w wr gm bm k N M last T (.slice (some ad) (m + 1) c) ps g) (fun i _ => m + 1 - (intOf i).toNat)
              case atStart => exact ⟨0, Nat.zero_le _, rfl, hAL⟩
              case round =>
                obtain ⟨k, hk, rfl, hL⟩ := hrel
                by_cases hlt : k < m + 1
                · obtain ⟨p, hpk⟩ : ∃ p, ps[k]'(by omega) = p := ⟨_, rfl⟩
                  have hpr := hp.next (hbel.trans hL.kp.bel)
                  obtain ⟨ad', e, had, k0, k1⟩ := two_get put_two hpr.rd (k := k) (by omega) (u := .int .i64 p.lba) (v := .slice p.A p.n p.c) (by rw [hpk]; rfl)
                  injection e with e
                  subst e
                  have n0 : (k : Int) < (m : Int) + 1 := by omega
                  have n1 : (0 : Int) ≤ (k : Int) := by omega
                  have HPK := Lib.hid hpk
                  obtain ⟨w4, hw4⟩ : ∃ w4, wr.alloc (.cells #[.int .i64 p.lba, .slice p.A p.n p.c] 86) = w4 := ⟨_, rfl⟩
                  have hb4 : Below wr.heap.size wr w4 := by rw [← hw4]; exact (Below.refl _ _).alloc (Nat.le_refl _) _
                  have hp4 : Bk w4 wr.heap.size 86 [.int .i64 p.lba, .slice p.A p.n p.c] := by rw [← hw4]; exact Bk.new wr _ _
                  obtain ⟨D', mv', f', hE4, hT4⟩ := hL.em
                  have hE5 := hE4.keep (.of_below hb4)
                  have hx5 := hL.bx.next hb4 hL.bx.lt
                  have hlba : 0 ≤ p.lba ∧ p.lba < 30 := HA.out.1 p (by rw [← HPK.out]; exact List.getElem_mem _)
                  have hp40 : p.n = 40 := Decidable.byContradiction fun h => HY.out.2.2.2 ⟨p, by rw [← HPK.out]; exact List.getElem_mem _, h⟩
                  have K1 := Lib.hid (fun w' (h : NotV w4 w') => (h.bk hE5.bx (by decide)).cell (i := 1) (by simp))
                  have K2 := Lib.hid (fun w' (h : NotV w4 w') => (h.bk hp4 (by decide)).cell (i := 0) (by simp))
                  have K3 := Lib.hid (fun w' (h : NotV w4 w') => (h.bk hp4 (by decide)).cell (i := 1) (by simp))
                  have K4 := Lib.hid (fun w' (h : NotV w4 w') => (h.bk hx5 (by decide)).cell (i := 0) (by simp))
                  have K5 := Lib.hid (fun w' (h : NotV w4 w') => h.look hE5 hlba)
                  simp only [List.getElem_cons_zero, List.getElem_cons_succ] at K1 K2 K3 K4
                  have HH := Lib.hid (And.intro hb4 (And.intro hp4 (And.intro hE5 (And.intro hx5 (And.intro hlba (And.intro hp40 (And.intro hT4 hE4)))))))
                  clear hpk hb4 hp4 hE5 hx5 hlba hp40 hT4 hE4
                  go_wp2_with fail
                  refine anyL_start (NotV w4) 21 (by kernel_rfl) (NotV.drew w4) (fun hHeld => ?_)
                  refine anyL_take (i := 0) (v := ?v11_0) (by simp only [List.getElem?_toArray, List.getElem?_cons_succ, List.getElem?_cons_zero]; rfl) (by kernel_rfl) (by kernel_rfl) (by kernel_rfl) (by kernel_rfl) (by exact fun _ _ _ h => h) (Or.inl ⟨by rfl, ?h11_0⟩) hHeld ?_
                  case h11_0 => (intro w' hSw; have k0 := K1.out w' hSw; have k1 := K2.out w' hSw; have k2 := K3.out w' hSw; have k3 := K4.out w' hSw; have k4 := K5.out w' hSw; go_simp <;> with_reducible rfl)
                  try simp only [Act.put, List.setIfInBounds_toArray, List.set_cons_zero, List.set_cons_succ]
                  refine anyL_take (i := 1) (v := ?v12_1) (by simp only [List.getElem?_toArray, List.getElem?_cons_succ, List.getElem?_cons_zero]; rfl) (by kernel_rfl) (by kernel_rfl) (by kernel_rfl) (by kernel_rfl) (by exact fun _ _ _ h => h) (Or.inl ⟨by rfl, ?h12_1⟩) hHeld ?_
                  case h12_1 => (intro w' hSw; have k0 := K1.out w' hSw; have k1 := K2.out w' hSw; have k2 := K3.out w' hSw; have k3 := K4.out w' hSw; have k4 := K5.out w' hSw; go_simp <;> with_reducible rfl)
                  try simp only [Act.put, List.setIfInBounds_toArray, List.set_cons_zero, List.set_cons_succ]
                  refine anyL_take (i := 2) (v := ?v13_2) (by simp only [List.getElem?_toArray, List.getElem?_cons_succ, List.getElem?_cons_zero]; rfl) (by kernel_rfl) (by kernel_rfl) (by kernel_rfl) (by kernel_rfl) (by exact fun _ _ _ h => h) (Or.inl ⟨by rfl, ?h13_2⟩) hHeld ?_
                  case h13_2 => (intro w' hSw; have k0 := K1.out w' hSw; have k1 := K2.out w' hSw; have k2 := K3.out w' hSw; have k3 := K4.out w' hSw; have k4 := K5.out w' hSw; go_simp <;> with_reducible rfl)
                  try simp only [Act.put, List.setIfInBounds_toArray, List.set_cons_zero, List.set_cons_succ]
                  refine anyL_take (i := 3) (v := ?v14_3) (by simp only [List.getElem?_toArray, List.getElem?_cons_succ, List.getElem?_cons_zero]; rfl) (by kernel_rfl) (by kernel_rfl) (by kernel_rfl) (by kernel_rfl) (by exact fun _ _ _ h => h) (Or.inl ⟨by rfl, ?h14_3⟩) hHeld ?_
                  case h14_3 => (intro w' hSw; have k0 := K1.out w' hSw; have k1 := K2.out w' hSw; have k2 := K3.out w' hSw; have k3 := K4.out w' hSw; have k4 := K5.out w' hSw; go_simp <;> with_reducible rfl)
                  try simp only [Act.put, List.setIfInBounds_toArray, List.set_cons_zero, List.set_cons_succ]
                  refine anyL_take (i := 4) (v := ?v15_4) (by simp only [List.getElem?_toArray, List.getElem?_cons_succ, List.getElem?_cons_zero]; rfl) (by kernel_rfl) (by kernel_rfl) (by kernel_rfl) (by kernel_rfl) (by exact fun _ _ _ h => h) (Or.inl ⟨by rfl, ?h15_4⟩) hHeld ?_
                  case h15_4 => (intro w' hSw; have k0 := K1.out w' hSw; have k1 := K2.out w' hSw; have k2 := K3.out w' hSw; have k3 := K4.out w' hSw; have k4 := K5.out w' hSw; go_simp <;> with_reducible rfl)
                  try simp only [Act.put, List.setIfInBounds_toArray, List.set_cons_zero, List.set_cons_succ]
                  refine anyL_take (i := 5) (v := ?v16_5) (by simp only [List.getElem?_toArray, List.getElem?_cons_succ, List.getElem?_cons_zero]; rfl) (by kernel_rfl) (by kernel_rfl) (by kernel_rfl) (by kernel_rfl) (by exact fun _ _ _ h => h) (Or.inl ⟨by rfl, ?h16_5⟩) hHeld ?_
                  case h16_5 => (intro w' hSw; have k0 := K1.out w' hSw; have k1 := K2.out w' hSw; have k2 := K3.out w' hSw; have k3 := K4.out w' hSw; have k4 := K5.out w' hSw; go_simp <;> with_reducible rfl)
                  try simp only [Act.put, List.setIfInBounds_toArray, List.set_cons_zero, List.set_cons_succ]
                  refine anyL_take (i := 6) (v := ?v17_6) (by simp only [List.getElem?_toArray, List.getElem?_cons_succ, List.getElem?_cons_zero]; rfl) (by kernel_rfl) (by kernel_rfl) (by kernel_rfl) (by kernel_rfl) (by exact fun _ _ _ h => h) (Or.inl ⟨by rfl, ?h17_6⟩) hHeld ?_
                  case h17_6 => (intro w' hSw; have k0 := K1.out w' hSw; have k1 := K2.out w' hSw; have k2 := K3.out w' hSw; have k3 := K4.out w' hSw; have k4 := K5.out w' hSw; go_simp <;> with_reducible rfl)
                  try simp only [Act.put, List.setIfInBounds_toArray, List.set_cons_zero, List.set_cons_succ]
                  refine anyL_take (i := 7) (v := ?v18_7) (by simp only [List.getElem?_toArray, List.getElem?_cons_succ, List.getElem?_cons_zero]; rfl) (by kernel_rfl) (by kernel_rfl) (by kernel_rfl) (by kernel_rfl) (by exact fun _ _ _ h => h) (Or.inl ⟨by rfl, ?h18_7⟩) hHeld ?_
                  case h18_7 => (intro w' hSw; have k0 := K1.out w' hSw; have k1 := K2.out w' hSw; have k2 := K3.out w' hSw; have k3 := K4.out w' hSw; have k4 := K5.out w' hSw; go_simp <;> with_reducible rfl)
                  try simp only [Act.put, List.setIfInBounds_toArray, List.set_cons_zero, List.set_cons_succ]
                  refine anyL_take (i := 8) (v := ?v19_8) (by simp only [List.getElem?_toArray, List.getElem?_cons_succ, List.getElem?_cons_zero]; rfl) (by kernel_rfl) (by kernel_rfl) (by kernel_rfl) (by kernel_rfl) (by exact fun _ _ _ h => h) (Or.inl ⟨by rfl, ?h19_8⟩) hHeld ?_
                  case h19_8 => (intro w' hSw; have k0 := K1.out w' hSw; have k1 := K2.out w' hSw; have k2 := K3.out w' hSw; have k3 := K4.out w' hSw; have k4 := K5.out w' hSw; go_simp <;> with_reducible rfl)
                  try simp only [Act.put, List.setIfInBounds_toArray, List.set_cons_zero, List.set_cons_succ]
                  refine anyL_take (i := 9) (v := ?v20_9) (by simp only [List.getElem?_toArray, List.getElem?_cons_succ, List.getElem?_cons_zero]; rfl) (by kernel_rfl) (by kernel_rfl) (by kernel_rfl) (by kernel_rfl) (by exact fun _ _ _ h => h) (Or.inl ⟨by rfl, ?h20_9⟩) hHeld ?_
                  case h20_9 => (intro w' hSw; have k0 := K1.out w' hSw; have k1 := K2.out w' hSw; have k2 := K3.out w' hSw; have k3 := K4.out w' hSw; have k4 := K5.out w' hSw; go_simp <;> with_reducible rfl)
                  try simp only [Act.put, List.setIfInBounds_toArray, List.set_cons_zero, List.set_cons_succ]
                  refine anyL_take (i := 10) (v := ?v21_10) (by simp only [List.getElem?_toArray, List.getElem?_cons_succ, List.getElem?_cons_zero]; rfl) (by kernel_rfl) (by kernel_rfl) (by kernel_rfl) (by kernel_rfl) (by exact fun _ _ _ h => h) (Or.inl ⟨by rfl, ?h21_10⟩) hHeld ?_
                  case h21_10 => (intro w' hSw; have k0 := K1.out w' hSw; have k1 := K2.out w' hSw; have k2 := K3.out w' hSw; have k3 := K4.out w' hSw; have k4 := K5.out w' hSw; go_simp <;> with_reducible rfl)
                  try simp only [Act.put, List.setIfInBounds_toArray, List.set_cons_zero, List.set_cons_succ]
                  refine anyL_take (i := 11) (v := ?v22_11) (by simp only [List.getElem?_toArray, List.getElem?_cons_succ, List.getElem?_cons_zero]; rfl) (by kernel_rfl) (by kernel_rfl) (by kernel_rfl) (by kernel_rfl) (by exact fun _ _ _ h => h) (Or.inl ⟨by rfl, ?h22_11⟩) hHeld ?_
                  case h22_11 => (intro w' hSw; have k0 := K1.out w' hSw; have k1 := K2.out w' hSw; have k2 := K3.out w' hSw; have k3 := K4.out w' hSw; have k4 := K5.out w' hSw; go_simp <;> with_reducible rfl)
                  try simp only [Act.put, List.setIfInBounds_toArray, List.set_cons_zero, List.set_cons_succ]
                  refine anyL_take (i := 12) (v := ?v23_12) (by simp only [List.getElem?_toArray, List.getElem?_cons_succ, List.getElem?_cons_zero]; rfl) (by kernel_rfl) (by kernel_rfl) (by kernel_rfl) (by kernel_rfl) (by exact fun _ _ _ h => h) (Or.inl ⟨by rfl, ?h23_12⟩) hHeld ?_
                  case h23_12 => (intro w' hSw; have k0 := K1.out w' hSw; have k1 := K2.out w' hSw; have k2 := K3.out w' hSw; have k3 := K4.out w' hSw; have k4 := K5.out w' hSw; go_simp <;> with_reducible rfl)
                  try simp only [Act.put, List.setIfInBounds_toArray, List.set_cons_zero, List.set_cons_succ]
                  refine anyL_take (i := 13) (v := ?v24_13) (by simp only [List.getElem?_toArray, List.getElem?_cons_succ, List.getElem?_cons_zero]; rfl) (by kernel_rfl) (by kernel_rfl) (by kernel_rfl) (by kernel_rfl) (by exact fun _ _ _ h => h) (Or.inl ⟨by rfl, ?h24_13⟩) hHeld ?_
                  case h24_13 => (intro w' hSw; have k0 := K1.out w' hSw; have k1 := K2.out w' hSw; have k2 := K3.out w' hSw; have k3 := K4.out w' hSw; have k4 := K5.out w' hSw; go_simp <;> with_reducible rfl)
                  try simp only [Act.put, List.setIfInBounds_toArray, List.set_cons_zero, List.set_cons_succ]
                  refine anyL_take (i := 14) (v := ?v25_14) (by simp only [List.getElem?_toArray, List.getElem?_cons_succ, List.getElem?_cons_zero]; rfl) (by kernel_rfl) (by kernel_rfl) (by kernel_rfl) (by kernel_rfl) (by exact fun _ _ _ h => h) (Or.inl ⟨by rfl, ?h25_14⟩) hHeld ?_
                  case h25_14 => (intro w' hSw; have k0 := K1.out w' hSw; have k1 := K2.out w' hSw; have k2 := K3.out w' hSw; have k3 := K4.out w' hSw; have k4 := K5.out w' hSw; go_simp <;> with_reducible rfl)
                  try simp only [Act.put, List.setIfInBounds_toArray, List.set_cons_zero, List.set_cons_succ]
                  refine anyL_take (i := 15) (v := ?v26_15) (by simp only [List.getElem?_toArray, List.getElem?_cons_succ, List.getElem?_cons_zero]; rfl) (by kernel_rfl) (by kernel_rfl) (by kernel_rfl) (by kernel_rfl) (by exact fun _ _ _ h => h) (Or.inl ⟨by rfl, ?h26_15⟩) hHeld ?_
                  case h26_15 => (intro w' hSw; have k0 := K1.out w' hSw; have k1 := K2.out w' hSw; have k2 := K3.out w' hSw; have k3 := K4.out w' hSw; have k4 := K5.out w' hSw; go_simp <;> with_reducible rfl)
                  try simp only [Act.put, List.setIfInBounds_toArray, List.set_cons_zero, List.set_cons_succ]
                  refine anyL_take (i := 16) (v := ?v27_16) (by simp only [List.getElem?_toArray, List.getElem?_cons_succ, List.getElem?_cons_zero]; rfl) (by kernel_rfl) (by kernel_rfl) (by kernel_rfl) (by kernel_rfl) (by exact fun _ _ _ h => h) (Or.inl ⟨by rfl, ?h27_16⟩) hHeld ?_
                  case h27_16 => (intro w' hSw; have k0 := K1.out w' hSw; have k1 := K2.out w' hSw; have k2 := K3.out w' hSw; have k3 := K4.out w' hSw; have k4 := K5.out w' hSw; go_simp <;> with_reducible rfl)
                  try simp only [Act.put, List.setIfInBounds_toArray, List.set_cons_zero, List.set_cons_succ]
                  refine anyL_one (i := 17) (by kernel_rfl) (by simp only [List.getElem?_toArray, List.getElem?_cons_succ, List.getElem?_cons_zero]; rfl) (fun K hK => ?_)
                  go_simp
                  have hp5 : IsPuts w4.drew (some ad) (m + 1) c ps := hp.next (hbel.trans (hL.kp.bel.trans ((HH.out.1.mono (Nat.le_trans HS.out.2.2.2.1 hL.sz)).trans (bdrew (Below.refl _ _)))))
                  refine (clone_any p.A p.n p.c w0.heap.size p.ds w4.drew (hp5.dlen p (by rw [← HPK.out]; exact List.getElem_mem _)) (hp5.drd p (by rw [← HPK.out]; exact List.getElem_mem _)) (hp5.one p (by rw [← HPK.out]; exact List.getElem_mem _)) (by rw [HH.out.2.2.2.2.2.1]; omega) (by have := HH.out.1.size; have := hL.sz; have := HS.out.2.2.2.1; simp; omega)).mono ?_
                  rintro e w5 ⟨⟨v, rfl, hv5⟩, hb5⟩
                  obtain ⟨vA, vc, rfl⟩ := own_shape hv5
                  have hone := hp5.one p (by rw [← HPK.out]; exact List.getElem_mem _)
                  have hS5 : NotV w4 w5 := hHeld.below hb5
                  clear hp5
                  go_simp
                  refine hK.out _ _ (fun _ => hS5) ?_
                  clear hK K hHeld
                  have hHeld := hS5
                  try simp only [Act.put, List.setIfInBounds_toArray, List.set_cons_zero, List.set_cons_succ]
                  refine anyL_take (i := 18) (v := ?v28_18) (by simp only [List.getElem?_toArray, List.getElem?_cons_succ, List.getElem?_cons_zero]; rfl) (by kernel_rfl) (by kernel_rfl) (by kernel_rfl) (by kernel_rfl) (by exact fun _ _ _ h => h) (Or.inl ⟨by rfl, ?h28_18⟩) hHeld ?_
                  case h28_18 => (intro w' hSw; have k0 := K1.out w' hSw; have k1 := K2.out w' hSw; have k2 := K3.out w' hSw; have k3 := K4.out w' hSw; have k4 := K5.out w' hSw; go_simp <;> with_reducible rfl)
                  try simp only [Act.put, List.setIfInBounds_toArray, List.set_cons_zero, List.set_cons_succ]
                  refine anyL_one (i := 19) (by kernel_rfl) (by simp only [List.getElem?_toArray, List.getElem?_cons_succ, List.getElem?_cons_zero]; rfl) (fun K hK => ?_)
                  go_simp
                  refine hK.out _ _ (fun _ => hS5.alloc (.cells #[.int .i64 T, .slice vA p.n vc] 98)) ?_
                  clear hK K hHeld
                  have hHeld := hS5.alloc (.cells #[.int .i64 T, .slice vA p.n vc] 98)
                  try simp only [Act.put, List.setIfInBounds_toArray, List.set_cons_zero, List.set_cons_succ]
                  have hE6 : EMx (w5.alloc (.cells #[.int .i64 T, .slice vA p.n vc] 98)) w0.heap.size gm bm (N + k) (M + k) last D' mv' f' := (HH.out.2.2.1.keep (.of_below ((bdrew (Below.refl _ _)).trans hb5))).keep (.of_below ((Below.refl _ _).alloc (Nat.le_refl _) _))
                  refine anyL_one (i := 20) (by kernel_rfl) (by simp only [List.getElem?_toArray, List.getElem?_cons_succ, List.getElem?_cons_zero]; rfl) (fun K hK => ?_)
                  refine if_wanted rfl (wp_push _ _ rfl w0.heap.size (mv' p.lba) (f' p.lba).length _ (by rfl) (hE6.row p.lba) w5.heap.size (.int .i64 T) (.slice vA p.n vc) (by rfl) (by exact Bk.new w5 _ _) (by intro u hu; simp at hu; rcases hu with rfl | rfl; rfl; exact own_one hv5) (by have := hE6.lens p.lba; have := HNM.out.2; have := HA.out.2; omega) (by have := hE6.b1; have := hE6.bx.lt; omega) ?_)
                  intro v7 w7 ho7 hg7 hn7
                  have hS7 : NotV w4 w7 := (hS5.alloc (.cells #[.int .i64 T, .slice vA p.n vc] 98)).grown (hE6.row p.lba) hg7
                  refine hK.out _ _ (fun _ => hS7) ?_
                  clear hK K hHeld
                  have hHeld := hS7
                  try simp only [Act.put, List.setIfInBounds_toArray, List.set_cons_zero, List.set_cons_succ]
                  refine anyL_one (i := 21) (by kernel_rfl) (by simp only [List.getElem?_toArray, List.getElem?_cons_succ, List.getElem?_cons_zero]; rfl) (fun K hK => ?_)
                  have hv6 : (w5.alloc (.cells #[.int .i64 T, .slice vA p.n vc] 98)).ownsRow w0.heap.size 5 1 (.slice vA p.n vc) p.n p.ds := own_keepE (.of_below ((Below.refl _ _).alloc (Nat.le_refl _) _)) (.inr (.inr rfl)) hv5
                  obtain ⟨w8, hrun8, hE8, hk8⟩ := hE6.push HH.out.2.2.2.2.1 ⟨T, .slice vA p.n vc⟩ ho7 hg7 hn7 ⟨p.ds, by rw [← HH.out.2.2.2.2.2.1]; exact hv6, hone⟩ (by unfold maxLen; have := HNM.out.1; have := HA.out.2; omega)
                  refine if_wanted rfl (wp_mapUp _ _ _ _ rfl (by rfl) (by rfl) (by rfl) hrun8 ?_)
                  refine hK.out _ _ (fun h => absurd rfl h) ?_
                  clear hK K
                  try simp only [Act.put, List.setIfInBounds_toArray, List.set_cons_zero, List.set_cons_succ]
                  refine anyL_done (by kernel_rfl) ?_ _
                  have hb6 : Below w4.heap.size w4 (w5.alloc (.cells #[.int .i64 T, .slice vA p.n vc] 98)) := ((bdrew (Below.refl _ _)).trans hb5).alloc hb5.size _
                  have hsz : w0.heap.size ≤ wr.heap.size := Nat.le_trans HS.out.2.2.2.1 hL.sz
                  have hk6 := (KeepO.of_below hsz HH.out.1).trans ((KeepO.of_below (Nat.le_trans hsz HH.out.1.size) hb6).trans hk8)
                  have hL8 : AL w0 w w8 gm bm (k + 1) N M last T (.slice (some ad) (m + 1) c) ps g :=
                    ⟨hL.kp.trans hk6, hk6.obs _ _ hL.bx ⟨by decide, by decide⟩, ⟨_, _, _, hE8, fun j => take_step HR.out.1 (by rw [lbas_len]; omega) (by rw [lbas_get ps (by omega), HPK.out]) HH.out.2.2.2.2.2.2.1 j⟩, Nat.le_trans hL.sz hk6.bel.size⟩
                  clear hv6 hrun8 hE8 hk8 hk6 hsz hb6 hE6 ho7 hg7 hn7 hS7 hHeld hS5 hone hv5 hb5 K1 K2 K3 K4 K5
                  have hbig : maxLen ≤ 9223372036854775807 := by decide
                  have wk1 : wrap64 ((k : Int) + 1) = k + 1 := by unfold wrap64; omega
                  clear hbig
                  go_wp2_with fail
                  go_roundw
                  case rel => exact ⟨k + 1, hlt, by rw [wk1]; rfl, hL8⟩
                  case measure => rw [wk1]; exact meas hlt
                · obtain rfl : k = m + 1 := by omega
                  obtain ⟨D', mv', f', hE4, hT4⟩ := hL.em
                  have e0 := hL.bx.cell (i := 0) (by simp)
                  have e1 := hE4.bx.cell (i := 2) (by simp)
                  have e2 := hE4.bx.free 2
                  simp only [List.getElem_cons_zero, List.getElem_cons_succ] at e0 e1
                  obtain ⟨hE9, hk9⟩ := hE4.setLast T
                  have HE := Lib.hid (And.intro hE9 (And.intro hk9 hT4))
                  clear hE9 hk9 hT4 hE4
                  go_wp2_with fail
                  go_ret
                  refine ⟨⟨_, rfl⟩, hL.kp.trans HE.out.2.1, ?_⟩
                  rw [show nextL last T ps = T from if_pos HY.out, show nextG last T ps g = (fun j => g j ++ if j ∈ lbas ps then [T] else []) from if_pos HY.out]
                  have hl30 := HA.out.2
                  exact ⟨bm, D', mv', f', HE.out.1.mono (by omega) (by omega), fun j => by rw [HE.out.2.2 j, List.take_of_length_le (by rw [lbas_len]; omega)]⟩
          · have t3 : decide (0 ≤ p9.lba ∧ p9.lba < 30) = false := decide_eq_false g9
            have HN := Lib.hid (show ¬ okTx last T ps from fun h => g9 (by rw [← HP.out.2]; exact h.2.2.1 _ (List.getElem_mem _)))
            clear g0 g9
            go_wp2_with fail
            refine (block_any _ _ _ _ _ (hE2 _).bx).mono ?_
            rintro e w' ⟨rfl, rfl⟩
            go_wp2_with fail
            refine (block_any _ _ _ _ _ (hE2 _).bx).mono ?_
            rintro e w' ⟨rfl, rfl⟩
            go_wp2_with fail
            go_ret
            exact ⟨⟨_, rfl⟩, HNO.out HN.out _ (hkq _) ⟨bm, D, mv, f, hE2 _, HS.out.2.2.2.2⟩⟩
        · have t2 : decide (0 ≤ p0.lba ∧ p0.lba < 30) = false := decide_eq_false g0
          have HN := Lib.hid (show ¬ okTx last T ps from fun h => g0 (by rw [← HP.out.1]; exact h.2.2.1 _ (List.getElem_mem _)))
          clear g0
          go_wp2_with fail
          refine (block_any _ _ _ _ _ (hE2 _).bx).mono ?_
          rintro e w' ⟨rfl, rfl⟩
          go_wp2_with fail
          go_ret
          exact ⟨⟨_, rfl⟩, HNO.out HN.out _ (hkq _) ⟨bm, D, mv, f, hE2 _, HS.out.2.2.2.2⟩⟩
      · have HN := Lib.hid (show ¬ okTx last T ps from fun h => hr h.2.1)
        clear hr
        go_wp2_with fail
        go_ret
        exact ⟨⟨_, rfl⟩, HNO.out HN.out _ (hkq _) ⟨bm, D, mv, f, hE2 _, HS.out.2.2.2.2⟩⟩
end Go.Proofs.Ytchhnjadnacniaa.Cm
