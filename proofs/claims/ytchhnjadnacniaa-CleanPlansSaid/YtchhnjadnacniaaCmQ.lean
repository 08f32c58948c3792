/- What Run makes of rows of copies (in plain words), and rows of rows that a call owns. -/
import Derived.Test.YtchhnjadnacniaaCmP
namespace Go.Proofs.Ytchhnjadnacniaa.Cm
set_option linter.unusedSimpArgs false
set_option linter.unusedVariables false
open Go.RowKit Rk
def toRo (cs : List CpD) : RoD := ⟨none, cs.length, cs.length, cs⟩
def zo (C : List (List CpD)) : List RoD := C.map toRo
open Classical in
/-- the next zone to be cleaned, and what moves. -/
noncomputable def nextC (g : Int → List Int) (hz size now : Int) (C : List (List CpD)) : Option (Nat × List CpD) :=
  if nextB (zo C) size then none else match rankF g hz size now (zo C) with
    | [] => none
    | q :: _ => match (idxF (zo C) size (zo C).length)[q]? with
      | none => none
      | some i => (C[i]?).map fun cs => (i, liveL g hz cs)
def fitC (size : Int) (C : List (List CpD)) (p : Nat) (mv : List CpD) (i : Nat) : Bool := decide (i ≠ p) && decide ((mv.length : Int) ≤ size - ((C.getD i []).length : Int))
def placeC (size : Int) (C : List (List CpD)) (p : Nat) (mv : List CpD) : Option Nat := (List.range C.length).find? (fitC size C p mv)
noncomputable def stepC (g : Int → List Int) (hz size now : Int) (C : List (List CpD)) : Option (List (List CpD)) :=
  match nextC g hz size now C with
  | none => none
  | some (p, mv) => match placeC size C p mv with
    | none => none
    | some i => some ((C.set i (C.getD i [] ++ mv)).set p [])
noncomputable def iterC (g : Int → List Int) (hz size now : Int) : Nat → List (List CpD) → List (List CpD)
  | 0, C => C
  | n + 1, C => match stepC g hz size now C with
    | none => C
    | some C' => iterC g hz size now n C'
theorem iterC_none {g : Int → List Int} {hz size now : Int} {C : List (List CpD)} (h : stepC g hz size now C = none) (n : Nat) : iterC g hz size now n C = C := by
  cases n with
  | zero => rfl
  | succ n => simp only [iterC, h]
theorem iterC_some {g : Int → List Int} {hz size now : Int} {C C' : List (List CpD)} (h : stepC g hz size now C = some C') (n : Nat) : iterC g hz size now (n + 1) C = iterC g hz size now n C' := by simp only [iterC, h]
/-- rows that say how long they are. -/
def Fair (os : List RoD) : Prop := ∀ x ∈ os, x.n = x.cs.length
def css (os : List RoD) : List (List CpD) := os.map (·.cs)
theorem fair_zo {os : List RoD} (h : Fair os) : (zo (css os)).map (fun x => (x.n, x.cs)) = os.map (fun x => (x.n, x.cs)) := by
  unfold zo css
  rw [List.map_map, List.map_map]
  exact List.map_congr_left fun x hx => by simp [toRo, h x hx]
theorem same_n {a b : List RoD} (h : a.map (fun x => (x.n, x.cs)) = b.map (fun x => (x.n, x.cs))) : a.map (·.n) = b.map (·.n) := by
  have := congrArg (List.map Prod.fst) h
  rwa [List.map_map, List.map_map] at this
theorem same_z {a b : List RoD} (h : a.map (fun x => (x.n, x.cs)) = b.map (fun x => (x.n, x.cs))) (g : Int → List Int) (hz size : Int) : a.map (zoneV g hz size) = b.map (zoneV g hz size) := by
  have := congrArg (List.map fun p : Nat × List CpD => if (p.1 : Int) ≤ size then (⟨(liveL g hz p.2).length, size, newT p.2⟩ : Zn) else ⟨0, 0, newT p.2⟩) h
  rw [List.map_map, List.map_map] at this
  exact this
theorem same_len {a b : List RoD} (h : a.map (fun x => (x.n, x.cs)) = b.map (fun x => (x.n, x.cs))) : a.length = b.length := by have := congrArg List.length h; simpa using this
theorem same_idx {a b : List RoD} (h : a.map (fun x => (x.n, x.cs)) = b.map (fun x => (x.n, x.cs))) (size : Int) (k : Nat) : idxF a size k = idxF b size k := by
  have e : ∀ i, rn a i = rn b i := fun i => by unfold rn; rw [same_n h]
  unfold idxF
  congr 1
  funext i
  rw [e]
theorem same_rank {a b : List RoD} (h : a.map (fun x => (x.n, x.cs)) = b.map (fun x => (x.n, x.cs))) (g : Int → List Int) (hz size now : Int) : rankF g hz size now a = rankF g hz size now b := by
  have e : ∀ i, zn g hz size a i = zn g hz size b i := fun i => by unfold zn; rw [same_z h]
  have e2 : zn g hz size a = zn g hz size b := funext e
  unfold rankF fullZ
  rw [same_len h, same_idx h, e2]
theorem same_big {a b : List RoD} (h : a.map (fun x => (x.n, x.cs)) = b.map (fun x => (x.n, x.cs))) (size : Int) : hasBig a size → hasBig b size := by
  rintro ⟨x, hx, hs⟩
  have : (x.n, x.cs) ∈ a.map (fun x => (x.n, x.cs)) := List.mem_map.2 ⟨x, hx, rfl⟩
  rw [h] at this
  obtain ⟨y, hy, e⟩ := List.mem_map.1 this
  injection e with e _
  exact ⟨y, hy, by rw [e]; exact hs⟩
theorem same_nextB {a b : List RoD} (h : a.map (fun x => (x.n, x.cs)) = b.map (fun x => (x.n, x.cs))) (size : Int) : nextB a size ↔ nextB b size := by
  unfold nextB
  exact ⟨fun q => q.imp id (same_big h size), fun q => q.imp id (same_big h.symm size)⟩
theorem best_pos {g : Int → List Int} {hz size now : Int} {zs : List RoD} {q : Nat} {rs : List Nat} {i : Nat} (hr : rankF g hz size now zs = q :: rs) (hi : (idxF zs size zs.length)[q]? = some i) : 0 < wV now (zn g hz size zs i) := by
  obtain ⟨hq, hiq⟩ := List.getElem?_eq_some_iff.1 hi
  have h0 := (rank_mem hr).2
  unfold gt0 fullZ at h0
  rw [List.getD_eq_getElem?_getD, List.getElem?_eq_getElem (by simpa using hq)] at h0
  simp [hiq] at h0
  omega
/-- what Next returns, of rows that are fair. -/
theorem nextR_C {g : Int → List Int} {hz size now : Int} {os : List RoD} (hf : Fair os) {e : Ending} {w' : World} (h : NextR e w' g os size hz now) :
    (nextC g hz size now (css os) = none ∧ ∃ r : Int, (r = 1 ∨ r = 14) ∧ e = .returned (.tuple #[planC 0 (.slice none 0 0) 0, .int .i64 r])) ∨
    (∃ i, ∃ x : RoD, ∃ A c, os[i]? = some x ∧ (x.n : Int) = size ∧ 1 ≤ size ∧ nextC g hz size now (css os) = some (i, liveL g hz x.cs) ∧ e = .returned (.tuple #[planC i (.slice A (liveL g hz x.cs).length c) ((x.n : Int) - (liveL g hz x.cs).length), .int .i64 0]) ∧ IsCps w' A (liveL g hz x.cs).length c (liveL g hz x.cs) ∧ (liveL g hz x.cs).length < x.n) := by
  have hs := fair_zo hf
  rcases h with ⟨h, he⟩ | ⟨h, hr, he⟩ | ⟨h, q, rs, i, x, A, c, hr, hi, hx, he, hc⟩
  · exact .inl ⟨by unfold nextC; rw [if_pos ((same_nextB hs size).2 h)], 1, .inl rfl, he⟩
  · exact .inl ⟨by unfold nextC; rw [if_neg (fun q => h ((same_nextB hs size).1 q)), same_rank hs, hr], 14, .inr rfl, he⟩
  · obtain ⟨hil, hxi⟩ := List.getElem?_eq_some_iff.1 hx
    have hxm : x ∈ os := by rw [← hxi]; exact List.getElem_mem hil
    have h1 : (x.n : Int) ≤ size := by
      rcases Int.lt_or_le size (x.n : Int) with g | g
      · exact absurd (.inr ⟨x, hxm, g⟩) h
      · exact g
    have h2 := (mem_idxF.1 (List.mem_of_getElem? hi)).2
    rw [rn_at hil hxi] at h2
    have h3 : 1 ≤ size := by
      rcases Int.lt_or_le size 1 with g | g
      · exact absurd (.inl g) h
      · exact g
    have hb := (best_pos hr hi)
    rw [zn_at hil, List.getElem_map, hxi] at hb
    have hl : (liveL g hz x.cs).length < x.n := by
      have := (wV_num (now := now) (z := zoneV g hz size x) (by omega)).2.2.1
      unfold zoneV at this
      rw [if_pos h1] at this
      have this : ((liveL g hz x.cs).length : Int) < size := this
      omega
    refine .inr ⟨i, x, A, c, hx, by omega, h3, ?_, he, hc, hl⟩
    unfold nextC
    rw [if_neg (fun q => h ((same_nextB hs size).1 q)), same_rank hs, hr]
    simp only []
    rw [same_len hs, same_idx hs, hi]
    simp only [css, List.getElem?_map, hx, Option.map_some]
theorem infoCS : (Try.prog.info? 54).map (fun i => (i.zero, i.size, i.bytes)) = some (some (.slice none 0 0), 1, 24) := by kernel_rfl
/-- a row of rows that a call owns. -/
structure OutX (B : Nat) (w : World) (v : Value) (os : List RoD) : Prop where
  own : w.ownsRow B 54 1 v os.length (os.map RoD.cell)
  row : ∀ x ∈ os, w.ownsRow B 51 2 x.cell x.n (x.cs.flatMap CpD.cells)
  fair : Fair os
  dj : ∀ i j, (hi : i < os.length) → (hj : j < os.length) → i ≠ j → os[i].cell.ownBlock = none ∨ os[i].cell.ownBlock ≠ os[j].cell.ownBlock
  wf : ∀ x ∈ os, ∀ y ∈ x.cs, (Lit.int .i64 y.lba).wf = true ∧ (Lit.int .i64 y.t).wf = true
  sm : ∀ x ∈ os, x.n ≤ 1000
theorem OutX.nil (B : Nat) (w : World) : OutX B w (.slice none 0 0) [] := ⟨⟨rfl, .inl ⟨rfl, rfl⟩⟩, by simp, by intro x hx; simp at hx, fun i j hi => absurd hi (by simp), by simp, by simp⟩
theorem OutX.next {B : Nat} {w w' : World} {v : Value} {os : List RoD} (h : OutX B w v os) (hb : Below w.heap.size w w') : OutX B w' v os :=
  ⟨own_bel' h.own hb, fun x hx => own_bel' (h.row x hx) hb, h.fair, h.dj, h.wf, h.sm⟩
theorem OutX.zs {B : Nat} {w : World} {v : Value} {os : List RoD} (h : OutX B w v os) : ∃ A c, v = .slice A os.length c ∧ IsZs w A os.length c os := by
  obtain ⟨A, c, rfl⟩ := own_shape h.own
  exact ⟨A, c, rfl, rfl, Rd.of_own2 h.own, fun x hx => cps_of_own (by have := h.row x hx; unfold RoD.cell at this; exact this) (h.fair x hx).symm (h.wf x hx), (own_caps h.own).1, (own_caps h.own).2⟩
/-- a row is pushed. -/
theorem OutX.push {B : Nat} {w w6 w9 : World} {v v9 : Value} {os : List RoD} (h : OutX B w v os) (h6 : Below w.heap.size w w6) (x : RoD) (hB : B ≤ w.heap.size) (hx : w6.ownsRow w.heap.size 51 2 x.cell x.n (x.cs.flatMap CpD.cells))
    (hn : x.n = x.cs.length) (hw : ∀ y ∈ x.cs, (Lit.int .i64 y.lba).wf = true ∧ (Lit.int .i64 y.t).wf = true) (hs : x.n ≤ 1000) (hg : w6.grownBy w9 v.ownBlock) (ho : w9.ownsRow B 54 1 v9 (os.length + 1) (os.map RoD.cell ++ [x.cell])) : OutX B w9 v9 (os ++ [x]) := by
  have h6' := h.next h6
  refine ⟨by rw [List.length_append, List.map_append]; exact ho, fun y hy => ?_, fun y hy => ?_, fun i j hi hj hij => ?_, fun y hy => ?_, fun y hy => ?_⟩
  · rcases List.mem_append.1 hy with g | g
    · exact own_kept2 h6'.own (h6'.row y g) (by decide) hg
    · obtain rfl : y = x := by simpa using g
      exact own_kept2 h6'.own (own_base hx hB) (by decide) hg
  · rcases List.mem_append.1 hy with g | g
    · exact h.fair y g
    · obtain rfl : y = x := by simpa using g
      exact hn
  · have old : ∀ k (hk : k < os.length) b, os[k].cell.ownBlock = some b → b < w.heap.size := fun k hk b hb => by
      obtain ⟨_, cs, fr, hh⟩ := own_obj (h.row _ (List.getElem_mem hk)) hb
      exact (Array.getElem?_eq_some_iff.1 hh).1
    have new : ∀ b, x.cell.ownBlock = some b → w.heap.size ≤ b := fun b hb => (own_obj hx hb).1
    rw [List.length_append] at hi hj
    simp only [List.length_cons, List.length_nil] at hi hj
    rcases Nat.lt_or_ge i os.length with a | a <;> rcases Nat.lt_or_ge j os.length with b | b
    · rw [List.getElem_append_left a, List.getElem_append_left b]; exact h.dj i j a b hij
    · obtain rfl : j = os.length := by omega
      rw [List.getElem_append_left a, List.getElem_append_right (Nat.le_refl _)]
      simp only [Nat.sub_self, List.getElem_cons_zero]
      by_cases e : os[i].cell.ownBlock = none
      · exact .inl e
      · right
        obtain ⟨p, hp⟩ := Option.ne_none_iff_exists'.1 e
        intro q
        have := old i a p hp
        have := new p (by rw [← q]; exact hp)
        omega
    · obtain rfl : i = os.length := by omega
      rw [List.getElem_append_right (Nat.le_refl _), List.getElem_append_left b]
      simp only [Nat.sub_self, List.getElem_cons_zero]
      by_cases e : x.cell.ownBlock = none
      · exact .inl e
      · right
        obtain ⟨p, hp⟩ := Option.ne_none_iff_exists'.1 e
        intro q
        have := new p hp
        have := old j b p (by rw [← q]; exact hp)
        omega
    · omega
  · rcases List.mem_append.1 hy with g | g
    · exact h.wf y g
    · obtain rfl : y = x := by simpa using g
      exact hw
  · rcases List.mem_append.1 hy with g | g
    · exact h.sm y g
    · obtain rfl : y = x := by simpa using g
      exact hs
/-- the row with the number k is put in anew. -/
theorem OutX.put {B : Nat} {w w7 : World} {go c : Nat} {os : List RoD} (h : OutX B w (.slice (some ⟨go, 0, none⟩) os.length c) os) {k : Nat} (hk : k < os.length) (x : RoD) (hg : w.grownBy w7 os[k].cell.ownBlock)
    (hv : x.cell.ownBlock = none ∨ x.cell.ownBlock = os[k].cell.ownBlock ∨ x.cell.ownBlock = some w.heap.size) (hx : w7.ownsRow B 51 2 x.cell x.n (x.cs.flatMap CpD.cells)) (hn : x.n = x.cs.length)
    (hw : ∀ y ∈ x.cs, (Lit.int .i64 y.lba).wf = true ∧ (Lit.int .i64 y.t).wf = true) (hs : x.n ≤ 1000) : OutX B (w7.setCell ⟨go, k, none⟩ x.cell) (.slice (some ⟨go, 0, none⟩) os.length c) (os.set k x) := by
  have own7 := own_kept2 (h.row _ (List.getElem_mem hk)) h.own (by decide) hg
  have far : ∀ {n : Nat} {u : Value} {xs : List Value}, w7.ownsRow B 51 2 u n xs → (w7.setCell ⟨go, k, none⟩ x.cell).ownsRow B 51 2 u n xs := fun ho => by
    obtain ⟨_, cs0, f0, o0⟩ := own_obj own7 (g := go) rfl
    rcases ho.2 with h0 | ⟨g, cap, cur, hv, hb, hh, hr⟩
    · exact ⟨ho.1, .inl h0⟩
    · refine ⟨ho.1, .inr ⟨g, cap, cur, hv, hb, ?_, hr⟩⟩
      rw [Below.heap_setCell _ _ _ _ (fun e => by
        have e : g = go := e
        rw [e, o0] at hh
        injection hh with hh
        injection hh with _ hh _
        exact absurd hh (by decide))]
      exact hh
  have get : ∀ j (hj : j < (os.set k x).length), (os.set k x)[j] = if k = j then x else os[j]'(by simpa using hj) := fun j hj => List.getElem_set ..
  have mem : ∀ y ∈ os.set k x, y = x ∨ ∃ j, ∃ hj : j < os.length, j ≠ k ∧ os[j] = y := fun y hy => by
    obtain ⟨j, hj, e⟩ := List.getElem_of_mem hy
    rw [get j hj] at e
    by_cases q : k = j
    · rw [if_pos q] at e; exact .inl e.symm
    · rw [if_neg q] at e; exact .inr ⟨j, by simpa using hj, fun r => q r.symm, e⟩
  refine ⟨?_, fun y hy => ?_, fun y hy => ?_, fun i j hi hj hij => ?_, fun y hy => ?_, fun y hy => ?_⟩
  · rw [List.map_set, List.length_set]
    exact (own7.stored k x.cell).1
  · rcases mem y hy with rfl | ⟨j, hj, hne, rfl⟩
    · exact far hx
    · exact far ((h.row _ (List.getElem_mem hj)).kept hg (h.dj j k hj hk hne))
  · rcases mem y hy with rfl | ⟨j, hj, hne, rfl⟩
    · exact hn
    · exact h.fair _ (List.getElem_mem hj)
  · rw [get i hi, get j hj]
    rw [List.length_set] at hi hj
    have key : ∀ j (hj : j < os.length), j ≠ k → x.cell.ownBlock = none ∨ x.cell.ownBlock ≠ os[j].cell.ownBlock := fun j hj hne => by
      rcases hv with q | q | q
      · exact .inl q
      · rw [q]; exact h.dj k j hk hj (Ne.symm hne)
      · right
        rw [q]
        intro e
        obtain ⟨_, cs, fr, hh⟩ := own_obj (h.row _ (List.getElem_mem hj)) e.symm
        have := (Array.getElem?_eq_some_iff.1 hh).1
        omega
    by_cases a : k = i <;> by_cases b : k = j
    · omega
    · rw [if_pos a, if_neg b]; exact key j hj (Ne.symm b)
    · rw [if_neg a, if_pos b]
      rcases key i hi (Ne.symm a) with q | q
      · by_cases e : os[i].cell.ownBlock = none
        · exact .inl e
        · right; rw [q]; exact e
      · exact .inr (Ne.symm q)
    · rw [if_neg a, if_neg b]; exact h.dj i j hi hj hij
  · rcases mem y hy with rfl | ⟨j, hj, hne, rfl⟩
    · exact hw
    · exact h.wf _ (List.getElem_mem hj)
  · rcases mem y hy with rfl | ⟨j, hj, hne, rfl⟩
    · exact hs
    · exact h.sm _ (List.getElem_mem hj)
theorem own_heap {w w' : World} {B e size n : Nat} {v : Value} {xs : List Value} (h : w.ownsRow B e size v n xs) (he : w'.heap = w.heap) : w'.ownsRow B e size v n xs := by
  rcases h.2 with h0 | ⟨g, cap, cur, hv, hg, hh, hr⟩
  · exact ⟨h.1, .inl h0⟩
  · exact ⟨h.1, .inr ⟨g, cap, cur, hv, hg, by rw [he]; exact hh, hr⟩⟩
theorem OutX.heap {B : Nat} {w w' : World} {v : Value} {os : List RoD} (h : OutX B w v os) (he : w'.heap = w.heap) : OutX B w' v os :=
  ⟨own_heap h.own he, fun x hx => own_heap (h.row x hx) he, h.fair, h.dj, h.wf, h.sm⟩
theorem OutX.put' {B : Nat} {w : World} {go c K : Nat} {os os' : List RoD} {p : Nat} (h : OutX B w (.slice (some ⟨go, 0, none⟩) os'.length c) os) (hp : p < os.length) (hK : os'.length = K) (hl : os.length = K := by rw [List.length_set]; assumption) : OutX B (w.setCell ⟨go, p, none⟩ (.slice none 0 0)) (.slice (some ⟨go, 0, none⟩) K c) (os.set p ⟨none, 0, 0, []⟩) := by
  rw [hK, ← hl] at h
  have := h.put hp ⟨none, 0, 0, []⟩ (World.grownBy.refl w _) (.inl rfl) ⟨rfl, .inl ⟨rfl, rfl⟩⟩ rfl (by simp) (by simp)
  rw [← hl]
  exact this
theorem below_of_grown {w w' wc : World} {B e size n : Nat} {v : Value} {xs : List Value} (h : w.ownsRow B e size v n xs) (hg : wc.grownBy w' v.ownBlock) (hB : B ≤ w.heap.size) (hh : wc.heap = w.heap := by rfl) (h1 : wc.os = w.os := by rfl) (h2 : wc.tape = w.tape := by rfl) (h3 : wc.output = w.output := by rfl) : Below B w w' :=
  ⟨hg.os.trans h1, hg.tape.trans h2, hg.output.trans h3, by have := hg.size; rw [hh] at this; exact this, fun k hk => by
    rw [hg.block k (by rw [hh]; omega) (fun e => by have := (own_obj h e.symm).1; omega), hh]⟩
theorem css_len (os : List RoD) : (css os).length = os.length := by unfold css; simp
theorem css_get {os : List RoD} {k : Nat} (hk : k < os.length) : (css os).getD k [] = os[k].cs := by
  unfold css; rw [List.getD_eq_getElem?_getD, List.getElem?_map, List.getElem?_eq_getElem hk]; rfl
theorem place_some {size : Int} {C : List (List CpD)} {p i : Nat} {mv : List CpD} (hi : i < C.length) (h : fitC size C p mv i = true) (hno : ∀ j, j < i → fitC size C p mv j = false) : placeC size C p mv = some i := by
  unfold placeC
  have e : List.range C.length = List.range i ++ (i :: (List.range' (i + 1) (C.length - i - 1))) := by
    rw [List.range_eq_range', List.range_eq_range', show C.length = i + (1 + (C.length - i - 1)) by omega, List.range'_append_1.symm, List.range'_append_1.symm]
    simp
  rw [e, List.find?_append, List.find?_eq_none.2 (fun j hj => by rw [hno j (by simpa using hj)]; simp)]
  simp [h]
theorem place_none {size : Int} {C : List (List CpD)} {p : Nat} {mv : List CpD} (hno : ∀ j, j < C.length → fitC size C p mv j = false) : placeC size C p mv = none := by
  unfold placeC
  rw [List.find?_eq_none]
  intro j hj
  rw [hno j (by simpa using hj)]
  simp
theorem css_step {os : List RoD} {k p : Nat} (hk : k < os.length) {x y : RoD} {mv : List CpD} (hx : x.cs = os[k].cs ++ mv) (hy : y.cs = []) : css ((os.set k x).set p y) = ((css os).set k ((css os).getD k [] ++ mv)).set p [] := by
  rw [css_get hk]
  unfold css
  rw [List.map_set, List.map_set, hx, hy]
end Go.Proofs.Ytchhnjadnacniaa.Cm
