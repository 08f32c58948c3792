/- The reference's map of versions: rows of versions by block, and what a transaction makes of them (a merge). -/
import Derived.Test.YtchhnjadnacniaaCmF
namespace Go.Proofs.Ytchhnjadnacniaa.Cm
set_option linter.unusedSimpArgs false
set_option linter.unusedVariables false
open Go.RowKit
/-- a version of the reference's. -/
structure XV where
  lba : Int
  t : Int
  d : Value
def XV.cells (v : XV) : List Value := [.int .i64 v.lba, .int .i64 v.t, v.d]
def XV.pr (v : XV) : Int × Int := (v.lba, v.t)
theorem xv_three (p : XV) : p.cells.length = 3 := rfl
/-- what a transaction of time T at the blocks qs makes of versions. -/
def mergeX (T : Int) : List Int → List (Int × Int) → List (Int × Int)
  | [], L => L
  | q :: qs, [] => (q, T) :: mergeX T qs []
  | q :: qs, v :: L => if q < v.1 then (q, T) :: mergeX T qs (v :: L) else v :: mergeX T (q :: qs) L
termination_by qs L => qs.length + L.length
theorem merge_nil (T : Int) (L : List (Int × Int)) : mergeX T [] L = L := by unfold mergeX; rfl
theorem merge_cons_nil (T q : Int) (qs : List Int) : mergeX T (q :: qs) [] = (q, T) :: mergeX T qs [] := by rw [mergeX]
theorem merge_lt {T q : Int} {qs : List Int} {v : Int × Int} {L : List (Int × Int)} (h : q < v.1) : mergeX T (q :: qs) (v :: L) = (q, T) :: mergeX T qs (v :: L) := by rw [mergeX, if_pos h]
theorem merge_ge {T q : Int} {qs : List Int} {v : Int × Int} {L : List (Int × Int)} (h : ¬ q < v.1) : mergeX T (q :: qs) (v :: L) = v :: mergeX T (q :: qs) L := by rw [mergeX, if_neg h]
theorem mem_merge {T : Int} : ∀ {qs : List Int} {L : List (Int × Int)} {x : Int × Int}, x ∈ mergeX T qs L → (x.1 ∈ qs ∧ x.2 = T) ∨ x ∈ L := by
  intro qs L
  induction qs, L using mergeX.induct with
  | case1 L => intro x h; rw [merge_nil] at h; exact .inr h
  | case2 q qs ih =>
    intro x h
    rw [merge_cons_nil] at h
    rcases List.mem_cons.1 h with rfl | h
    · exact .inl ⟨by simp, rfl⟩
    · rcases ih h with g | g
      · exact .inl ⟨List.mem_cons_of_mem _ g.1, g.2⟩
      · simp at g
  | case3 q qs v L hlt ih =>
    intro x h
    rw [merge_lt hlt] at h
    rcases List.mem_cons.1 h with rfl | h
    · exact .inl ⟨by simp, rfl⟩
    · rcases ih h with g | g
      · exact .inl ⟨List.mem_cons_of_mem _ g.1, g.2⟩
      · exact .inr g
  | case4 q qs v L hlt ih =>
    intro x h
    rw [merge_ge hlt] at h
    rcases List.mem_cons.1 h with rfl | h
    · exact .inr (by simp)
    · rcases ih h with g | g
      · exact .inl g
      · exact .inr (List.mem_cons_of_mem _ g)
theorem merge_filter {T : Int} : ∀ {qs : List Int} {L : List (Int × Int)}, qs.Pairwise (· < ·) → L.Pairwise (fun a b => a.1 ≤ b.1) → ∀ k : Int,
    (mergeX T qs L).filter (fun v => decide (v.1 = k)) = L.filter (fun v => decide (v.1 = k)) ++ if k ∈ qs then [(k, T)] else [] := by
  intro qs L
  induction qs, L using mergeX.induct with
  | case1 L => intro _ _ k; rw [merge_nil]; simp
  | case2 q qs ih =>
    intro h1 h2 k
    rw [merge_cons_nil, List.filter_cons, ih (List.pairwise_cons.1 h1).2 .nil k]
    have hq := (List.pairwise_cons.1 h1).1
    by_cases e : q = k
    · subst e
      have hn : q ∉ qs := fun h => absurd (hq q h) (by omega)
      simp [hn]
    · have e2 : (k = q) = False := eq_false (fun h => e h.symm)
      simp [e, e2]
  | case3 q qs v L hlt ih =>
    intro h1 h2 k
    rw [merge_lt hlt, List.filter_cons, ih (List.pairwise_cons.1 h1).2 h2 k]
    have hq := (List.pairwise_cons.1 h1).1
    by_cases e : q = k
    · subst e
      have hn : q ∉ qs := fun h => absurd (hq q h) (by omega)
      have hf : (v :: L).filter (fun v => decide (v.1 = q)) = [] := by
        rw [List.filter_eq_nil_iff]
        intro x hx
        have : v.1 ≤ x.1 := by
          rcases List.mem_cons.1 hx with rfl | hx
          · omega
          · exact (List.pairwise_cons.1 h2).1 x hx
        simp; omega
      rw [hf]
      simp [hn]
    · have e2 : (k = q) = False := eq_false (fun h => e h.symm)
      simp [e, e2]
  | case4 q qs v L hlt ih =>
    intro h1 h2 k
    rw [merge_ge hlt, List.filter_cons, ih h1 (List.pairwise_cons.1 h2).2 k, List.filter_cons]
    by_cases e : v.1 = k <;> simp [e]
theorem merge_sorted {T : Int} : ∀ {qs : List Int} {L : List (Int × Int)}, qs.Pairwise (· < ·) → L.Pairwise (fun a b => a.1 ≤ b.1) → (mergeX T qs L).Pairwise (fun a b => a.1 ≤ b.1) := by
  intro qs L
  induction qs, L using mergeX.induct with
  | case1 L => intro _ h; rw [merge_nil]; exact h
  | case2 q qs ih =>
    intro h1 h2
    rw [merge_cons_nil, List.pairwise_cons]
    refine ⟨fun x hx => ?_, ih (List.pairwise_cons.1 h1).2 .nil⟩
    rcases mem_merge hx with g | g
    · exact Int.le_of_lt ((List.pairwise_cons.1 h1).1 _ g.1)
    · simp at g
  | case3 q qs v L hlt ih =>
    intro h1 h2
    rw [merge_lt hlt, List.pairwise_cons]
    refine ⟨fun x hx => ?_, ih (List.pairwise_cons.1 h1).2 h2⟩
    rcases mem_merge hx with g | g
    · exact Int.le_of_lt ((List.pairwise_cons.1 h1).1 _ g.1)
    · rcases List.mem_cons.1 g with rfl | g
      · exact Int.le_of_lt hlt
      · have := (List.pairwise_cons.1 h2).1 x g
        show q ≤ x.1
        omega
  | case4 q qs v L hlt ih =>
    intro h1 h2
    rw [merge_ge hlt, List.pairwise_cons]
    refine ⟨fun x hx => ?_, ih h1 (List.pairwise_cons.1 h2).2⟩
    rcases mem_merge hx with g | g
    · rcases List.mem_cons.1 g.1 with e | g
      · rw [e]; omega
      · have := (List.pairwise_cons.1 h1).1 _ g
        omega
    · exact (List.pairwise_cons.1 h2).1 x g
theorem merge_len {T : Int} (qs : List Int) (L : List (Int × Int)) : (mergeX T qs L).length = qs.length + L.length := by
  induction qs, L using mergeX.induct with
  | case1 L => rw [merge_nil]; simp
  | case2 q qs ih => rw [merge_cons_nil, List.length_cons, ih]; simp
  | case3 q qs v L hlt ih => rw [merge_lt hlt, List.length_cons, ih]; simp; omega
  | case4 q qs v L hlt ih => rw [merge_ge hlt, List.length_cons, ih]; simp; omega
theorem Up.pairwise {l : List Int} (h : Up l) : l.Pairwise (· < ·) := by
  rw [List.pairwise_iff_getElem]
  intro i j hi hj hij
  exact up_lt h hij hj
/-- the versions L are those of g. -/
structure RelG (L : List (Int × Int)) (g : Int → List Int) : Prop where
  at' : ∀ k, (L.filter (fun v => decide (v.1 = k))).map (·.2) = g k
  up : L.Pairwise (fun a b => a.1 ≤ b.1)
theorem RelG.merge {L : List (Int × Int)} {g : Int → List Int} (h : RelG L g) {qs : List Int} (hq : Up qs) (T : Int) : RelG (mergeX T qs L) (fun j => g j ++ if j ∈ qs then [T] else []) :=
  ⟨fun k => by rw [merge_filter hq.pairwise h.up k, List.map_append, h.at' k]; split <;> simp, merge_sorted hq.pairwise h.up⟩
theorem RelG.nil : RelG [] (fun _ => []) := ⟨fun k => rfl, .nil⟩
def isSl (v : Value) : Prop := ∃ A m c, v = .slice A m c
/-- the reference's map of versions at xm. -/
structure RMx (w : World) (B xm N : Nat) (last : Int) (A : Option Addr) (n c : Nat) (L : List XV) : Prop where
  bx : Bk w xm 111 [.int .i64 30, .slice A n c, .int .i64 last]
  own : w.ownsRow B 113 3 (.slice A n c) n (L.flatMap XV.cells)
  one : ∀ v ∈ L, isSl v.d
  len : L.length = n
  le : n ≤ N
  b : B ≤ xm
def RM (w : World) (B xm N : Nat) (last : Int) (g : Int → List Int) : Prop := ∃ A n c L, RMx w B xm N last A n c L ∧ RelG (L.map XV.pr) g
/-- what the reference's map lies in. -/
def OurX (ob : Obj) : Prop := ∃ cs t fr, ob = .cells cs t fr ∧ (t = 111 ∨ t = 113)
theorem RMx.keep {w w' : World} {B xm N n c : Nat} {last : Int} {A : Option Addr} {L : List XV} (h : RMx w B xm N last A n c L) (k : ∀ (b : Nat) (ob : Obj), w.heap[b]? = some ob → OurX ob → w'.heap[b]? = some ob) : RMx w' B xm N last A n c L := by
  refine ⟨k _ _ h.bx ⟨_, _, _, rfl, .inl rfl⟩, ?_, h.one, h.len, h.le, h.b⟩
  rcases h.own.2 with h0 | ⟨g, cap, cur, hv, hg, hh, hr⟩
  · exact ⟨h.own.1, .inl h0⟩
  · exact ⟨h.own.1, .inr ⟨g, cap, cur, hv, hg, k _ _ hh ⟨_, _, _, rfl, .inr rfl⟩, hr⟩⟩
theorem RM.keep {w w' : World} {B xm N : Nat} {last : Int} {g : Int → List Int} (h : RM w B xm N last g) (k : ∀ (b : Nat) (ob : Obj), w.heap[b]? = some ob → OurX ob → w'.heap[b]? = some ob) : RM w' B xm N last g := by
  obtain ⟨A, n, c, L, h, r⟩ := h
  exact ⟨A, n, c, L, h.keep k, r⟩
theorem RM.next {w w' : World} {B xm N : Nat} {last : Int} {g : Int → List Int} (h : RM w B xm N last g) (k : Below w.heap.size w w') : RM w' B xm N last g := h.keep fun b ob hb _ => (k.block b (Array.getElem?_eq_some_iff.1 hb).1).trans hb
theorem RM.keepO {w w' : World} {B B' xm N : Nat} {last : Int} {g : Int → List Int} (h : RM w B xm N last g) (k : KeepO B' w w') : RM w' B xm N last g := h.keep fun b ob hb ⟨cs, t, fr, e, ht⟩ => k.obs b ob hb (by
  subst e
  rcases ht with rfl | rfl
  · exact ⟨by decide, by decide⟩
  · exact ⟨by decide, by decide⟩)
theorem RM.mono {w : World} {B xm N N' : Nat} {last : Int} {g : Int → List Int} (h : RM w B xm N last g) (hN : N ≤ N') : RM w B xm N' last g := by
  obtain ⟨A, n, c, L, h, r⟩ := h
  exact ⟨A, n, c, L, ⟨h.bx, h.own, h.one, h.len, Nat.le_trans h.le hN, h.b⟩, r⟩
/-- all but the block xm is as it was. -/
structure KeepX (B xm : Nat) (w w' : World) : Prop where
  bel : Below B w w'
  obs : ∀ (b : Nat) (ob : Obj), w.heap[b]? = some ob → b ≠ xm → w'.heap[b]? = some ob
theorem EV.keepX {w w' : World} {B B' gm N M xm : Nat} {last : Int} {g : Int → List Int} (h : EV w B gm N M last g) (k : KeepX B' xm w w') {cs : List Value} (hx : Bk w xm 111 cs) : EV w' B gm N M last g :=
  h.keep ⟨k.bel.size, fun b ob hb ho => k.obs b ob hb (fun e => by
    subst e
    unfold Bk at hx
    rw [hb] at hx
    injection hx with hx
    subst hx
    rcases ho with e | e | e <;> exact absurd e (by decide))⟩
theorem own_bel {w w' : World} {B e size n : Nat} {v : Value} {xs : List Value} (h : w.ownsRow B e size v n xs) (hb : Below w.heap.size w w') : w'.ownsRow B e size v n xs := by
  rcases h.2 with h0 | ⟨g, cap, cur, hv, hg, hh, hr⟩
  · exact ⟨h.1, .inl h0⟩
  · exact ⟨h.1, .inr ⟨g, cap, cur, hv, hg, (hb.block g (Array.getElem?_eq_some_iff.1 hh).1).trans hh, hr⟩⟩
theorem own_base {w : World} {B B' e size n : Nat} {v : Value} {xs : List Value} (h : w.ownsRow B e size v n xs) (hB : B' ≤ B) : w.ownsRow B' e size v n xs := by
  rcases h.2 with h0 | ⟨g, cap, cur, hv, hg, hr⟩
  · exact ⟨h.1, .inl h0⟩
  · exact ⟨h.1, .inr ⟨g, cap, cur, hv, by omega, hr⟩⟩
theorem own_set {w : World} {B e size n : Nat} {v : Value} {xs : List Value} (h : w.ownsRow B e size v n xs) {p : Addr} (hp : p.block < B) (u : Value) : (w.setCell p u).ownsRow B e size v n xs := by
  rcases h.2 with h0 | ⟨g, cap, cur, hv, hg, hh, hr⟩
  · exact ⟨h.1, .inl h0⟩
  · exact ⟨h.1, .inr ⟨g, cap, cur, hv, hg, (Below.heap_setCell w p u g (by omega)).trans hh, hr⟩⟩
/-- the cells of the k-th of three. -/
theorem three_get {α : Type} {f : α → List Value} (hs : ∀ x, (f x).length = 3) {w : World} {B : Nat} {A : Option Addr} {l : List α} (h : Rd w B A (l.flatMap f)) {k : Nat} (hk : k < l.length) {u v x : Value} (hf : f l[k] = [u, v, x]) :
    ∃ ad, A = some ad ∧ ad.block < B ∧ w.cell? (ad.add (k * 3)) = some u ∧ w.cell? ⟨(ad.add (k * 3)).block, (ad.add (k * 3)).off + 1, none⟩ = some v ∧ w.cell? ⟨(ad.add (k * 3)).block, (ad.add (k * 3)).off + 2, none⟩ = some x := by
  obtain ⟨ad, e, hb, hc⟩ := h (by rw [flat_len hs]; omega)
  have h0 := hc (k * 3) u (by have := flat_get hs hk (j := 0) (by omega); rw [Nat.add_zero] at this; rw [this, hf]; rfl)
  have h1 := hc (k * 3 + 1) v (by rw [flat_get hs hk (by omega), hf]; rfl)
  have h2 := hc (k * 3 + 2) x (by rw [flat_get hs hk (by omega), hf]; rfl)
  rw [← add_twice] at h1 h2
  exact ⟨ad, e, hb, h0, h1, h2⟩
/-- how far the reference's Apply has come: k of the transaction's blocks and i of the versions are in. -/
structure XS (w wr : World) (T : Int) (s : Value) (qs : List Int) (LP : List (Int × Int)) (k i : Nat) (v : Value) : Prop where
  bel : Below w.heap.size w wr
  bx : Bk wr w.heap.size 89 [.int .i64 T, s]
  siz : w.heap.size + 1 ≤ wr.heap.size
  own : ∃ l : List XV, wr.ownsRow (w.heap.size + 1) 113 3 v l.length (l.flatMap XV.cells) ∧ (∀ x ∈ l, isSl x.d) ∧ l.map XV.pr ++ mergeX T (qs.drop k) (LP.drop i) = mergeX T qs LP
theorem XS.drewN {w wr : World} {T : Int} {s : Value} {qs : List Int} {LP : List (Int × Int)} {k i : Nat} {v : Value} (h : XS w wr T s qs LP k i v) (q : Nat) : XS w (wr.drewN q) T s qs LP k i v := by
  obtain ⟨l, ho, h1, he⟩ := h.own
  exact ⟨bdrewN h.bel q, h.bx, h.siz, l, own_bel ho (bdrewN (Below.refl _ _) q), h1, he⟩
theorem XS.drew {w wr : World} {T : Int} {s : Value} {qs : List Int} {LP : List (Int × Int)} {k i : Nat} {v : Value} (h : XS w wr T s qs LP k i v) : XS w wr.drew T s qs LP k i v := h.drewN 1
theorem XS.push {w wr w9 : World} {T : Int} {s : Value} {qs : List Int} {LP : List (Int × Int)} {k i k' i' : Nat} {v v9 : Value} {l : List XV} (h : XS w wr T s qs LP k i v) (x : XV) (hx : isSl x.d)
    (h1 : ∀ y ∈ l, isSl y.d) (he : l.map XV.pr ++ mergeX T (qs.drop k) (LP.drop i) = mergeX T qs LP) (hb : Below (w.heap.size + 1) wr w9) (ho : w9.ownsRow (w.heap.size + 1) 113 3 v9 (l.length + 1) (l.flatMap XV.cells ++ x.cells))
    (hm : mergeX T (qs.drop k) (LP.drop i) = x.pr :: mergeX T (qs.drop k') (LP.drop i')) : XS w w9 T s qs LP k' i' v9 :=
  ⟨h.bel.trans (hb.mono (by omega)), h.bx.next hb (by omega), Nat.le_trans h.siz hb.size, l ++ [x], by rw [List.length_append, List.flatMap_append]; simpa using ho, fun y hy => by
    rcases List.mem_append.1 hy with g | g
    · exact h1 y g
    · obtain rfl : y = x := by simpa using g
      exact hx, by rw [← he, hm, List.map_append]; simp⟩
theorem XS.past {w wr : World} {T : Int} {s : Value} {qs : List Int} {LP : List (Int × Int)} {k i : Nat} {v : Value} (h : XS w wr T s qs LP k i v) (hi : LP.length ≤ i) : XS w wr T s qs LP k (i + 1) v := by
  obtain ⟨l, ho, h1, he⟩ := h.own
  rw [show LP.drop i = [] from List.drop_eq_nil_of_le hi] at he
  exact ⟨h.bel, h.bx, h.siz, l, ho, h1, by rw [show LP.drop (i + 1) = [] from List.drop_eq_nil_of_le (by omega)]; exact he⟩
theorem XS.len {T : Int} {qs : List Int} {LP : List (Int × Int)} {k i : Nat} {l : List XV} (he : l.map XV.pr ++ mergeX T (qs.drop k) (LP.drop i) = mergeX T qs LP) : l.length ≤ qs.length + LP.length := by
  have := congrArg List.length he
  rw [List.length_append, List.length_map, merge_len, merge_len] at this
  omega
theorem merge_put {T : Int} {qs : List Int} {LP : List (Int × Int)} {k i : Nat} (hk : k < qs.length) (h : LP.length ≤ i ∨ ∃ h : i < LP.length, qs[k] < LP[i].1) : mergeX T (qs.drop k) (LP.drop i) = (qs[k], T) :: mergeX T (qs.drop (k + 1)) (LP.drop i) := by
  rw [List.drop_eq_getElem_cons hk]
  rcases h with h | ⟨h, g⟩
  · rw [List.drop_eq_nil_of_le h, merge_cons_nil]
  · rw [List.drop_eq_getElem_cons h, merge_lt g]
theorem merge_old {T : Int} {qs : List Int} {LP : List (Int × Int)} {k i : Nat} (hi : i < LP.length) (h : qs.length ≤ k ∨ ∃ h : k < qs.length, ¬ qs[k] < LP[i].1) : mergeX T (qs.drop k) (LP.drop i) = LP[i] :: mergeX T (qs.drop k) (LP.drop (i + 1)) := by
  rw [List.drop_eq_getElem_cons hi]
  rcases h with h | ⟨h, g⟩
  · rw [List.drop_eq_nil_of_le h, merge_nil, merge_nil]
  · rw [List.drop_eq_getElem_cons h, merge_ge g]
end Go.Proofs.Ytchhnjadnacniaa.Cm
