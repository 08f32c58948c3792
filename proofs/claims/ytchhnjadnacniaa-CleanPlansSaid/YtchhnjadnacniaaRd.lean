/- A slice that reads as a list of cells (nil, too): kept over draws, new blocks and callees that write nothing old; and how a slice that came in as an argument is so opened. -/
import Derived.Test.YtchhnjadnacniaaKept
import Derived.WalkKit
import Derived.Below
import Derived.Deep.Draws
import Derived.Deep.Slices
import Derived.Deep.AppendLies
import Derived.Laws.OwnMore
import Derived.ProofKit
import Derived.ChangeSlices
import Derived.Laws.Cover2
import Derived.OwnWalk
namespace Go.Proofs.Ytchhnjadnacniaa
open Go.RowKit
set_option linter.unusedVariables false

theorem add_block (a : Addr) (n : Nat) : (a.add n).block = a.block := by unfold Addr.add; split <;> rfl
theorem add_twice (a : Addr) (i j : Nat) : (a.add i).add j = a.add (i + j) := by
  unfold Addr.add
  rcases Nat.eq_zero_or_pos i with hi | hi <;> rcases Nat.eq_zero_or_pos j with hj | hj <;> simp [hi, hj, Nat.add_assoc, Nat.ne_of_gt]

/-- the cells xs stand from A on, in a block below B; nothing is said of A where there are none. -/
def Rd (w : World) (B : Nat) (A : Option Addr) (xs : List Value) : Prop :=
  0 < xs.length → ∃ ad, A = some ad ∧ ad.block < B ∧ ∀ j u, xs[j]? = some u → w.cell? (ad.add j) = some u
section
variable {w w' : World} {B B' : Nat} {A : Option Addr} {xs : List Value}
theorem Rd.nil (w : World) (B : Nat) (A : Option Addr) : Rd w B A [] := fun h => absurd h (by simp)
theorem Rd.get (h : Rd w B A xs) {k : Nat} (hk : k < xs.length) : ∃ ad, A = some ad ∧ ad.block < B ∧ w.cell? (ad.add k) = some xs[k] := by
  obtain ⟨ad, e, hb, hc⟩ := h (by omega)
  exact ⟨ad, e, hb, hc k _ (List.getElem?_eq_getElem hk)⟩
theorem Rd.keep (h : Rd w B A xs) (hk : ∀ p : Addr, p.block < B → w'.cell? p = w.cell? p) : Rd w' B A xs := fun hn => by
  obtain ⟨ad, e, hb, hc⟩ := h hn
  exact ⟨ad, e, hb, fun j u hu => (hk _ (by rw [add_block]; exact hb)).trans (hc j u hu)⟩
theorem Rd.more (h : Rd w B A xs) (hB : B ≤ B') : Rd w B' A xs := fun hn => by
  obtain ⟨ad, e, hb, hc⟩ := h hn
  exact ⟨ad, e, by omega, hc⟩
theorem Rd.below (h : Rd w B A xs) (hb : Below B w w') : Rd w' B A xs := h.keep fun _ hp => hb.cell hp
/-- behind a callee that wrote nothing that was there. -/
theorem Rd.next (h : Rd w B A xs) {W : World} (hB : B ≤ w.heap.size) (hb : Below w.heap.size w W) : Rd W B A xs := h.keep fun _ hp => hb.cell (by omega)
theorem Rd.drewN (h : Rd w B A xs) (k : Nat) : Rd (w.drewN k) B A xs := h
theorem Rd.drew (h : Rd w B A xs) : Rd w.drew B A xs := h
theorem Rd.alloc (h : Rd w B A xs) (hB : B ≤ w.heap.size) (o : Obj) : Rd (w.alloc o) B A xs := h.keep fun p hp => World.cell?_alloc_lt w o p (by omega)
theorem Rd.setCell (h : Rd w B A xs) {p : Addr} (hB : B ≤ p.block) (u : Value) : Rd (w.setCell p u) B A xs :=
  h.keep fun q hq => World.cell?_setCell_other w p q u (fun e => by subst e; omega)
theorem Rd.grown (h : Rd w B A xs) {row : Option Nat} (hg : w.grownBy w' row) (hB : B ≤ w.heap.size) (hr : ∀ g, row = some g → B ≤ g) : Rd w' B A xs :=
  h.keep fun p hp => World.cell?_of_block (hg.block p.block (by omega) (fun e => by have := hr _ e.symm; omega))
theorem Rd.drop (h : Rd w B A xs) {k c n : Nat} (hn : n = xs.length) (hk : k ≤ n) (hc : n ≤ c) : Rd w B (if c = k then A else A.map (·.add k)) (xs.drop k) := fun hl => by
  rw [List.length_drop] at hl
  obtain ⟨ad, rfl, hb, hcell⟩ := h (by omega)
  rw [if_neg (by omega)]
  refine ⟨ad.add k, rfl, by rw [add_block]; exact hb, fun j u hu => ?_⟩
  rw [add_twice]
  exact hcell _ u (by rw [← hu, List.getElem?_drop])
theorem Rd.take (h : Rd w B A xs) (k : Nat) : Rd w B A (xs.take k) := fun hl => by
  rw [List.length_take] at hl
  obtain ⟨ad, e, hb, hcell⟩ := h (by omega)
  refine ⟨ad, e, hb, fun j u hu => hcell j u ?_⟩
  rw [List.getElem?_take] at hu
  split at hu
  · exact hu
  · cases hu
theorem Rd.of_own {base : Nat} {e : TypeId} {n c : Nat} (h : w.ownsRow base e 1 (.slice A n c) n xs) : Rd w w.heap.size A xs := fun hn => by
  have hl := h.1
  obtain ⟨g, cap, hv, _, hlt⟩ := h.form (by omega)
  have hA : A = some ⟨g, 0, none⟩ := by injection hv
  subst hA
  exact ⟨_, rfl, hlt, h.cells (g := g) rfl⟩
end

/-- block g is just the cells cs, of element type t, none frozen. -/
def Bk (w : World) (g : Nat) (t : TypeId) (cs : List Value) : Prop := w.heap[g]? = some (.cells cs.toArray t (0, 0))
section
variable {w w' : World} {g : Nat} {t : TypeId} {cs : List Value}
theorem Bk.lt (h : Bk w g t cs) : g < w.heap.size := by
  rcases Nat.lt_or_ge g w.heap.size with hl | hl
  · exact hl
  · unfold Bk at h; rw [Array.getElem?_eq_none hl] at h; cases h
theorem Bk.cell (h : Bk w g t cs) {i : Nat} (hi : i < cs.length) : w.cell? ⟨g, i, none⟩ = some cs[i] := by
  rw [cell_of_row w g i cs.toArray t (0, 0) h, List.getElem?_toArray, List.getElem?_eq_getElem hi]
theorem Bk.free (h : Bk w g t cs) (i : Nat) : w.frozen? ⟨g, i, none⟩ = false := by
  unfold Bk at h
  simp [World.frozen?, h]
theorem Bk.new (w : World) (t : TypeId) (cs : List Value) : Bk (w.alloc (.cells cs.toArray t)) w.heap.size t cs := heap_alloc_new w _
theorem Bk.drewN (h : Bk w g t cs) (n : Nat) : Bk (w.drewN n) g t cs := h
theorem Bk.drew (h : Bk w g t cs) : Bk w.drew g t cs := h
theorem Bk.alloc (h : Bk w g t cs) (o : Obj) : Bk (w.alloc o) g t cs := (Below.heap_alloc w o g h.lt).trans h
theorem Bk.set (h : Bk w g t cs) (i : Nat) (u : Value) : Bk (w.setCell ⟨g, i, none⟩ u) g t (cs.set i u) := by
  unfold Bk at h ⊢
  simp [World.setCell, Array.getElem?_modify, h]
theorem Bk.far (h : Bk w g t cs) {p : Addr} (hp : g ≠ p.block) (u : Value) : Bk (w.setCell p u) g t cs := (Below.heap_setCell w p u g hp).trans h
theorem Bk.next {B : Nat} (h : Bk w g t cs) (hb : Below B w w') (hg : g < B) : Bk w' g t cs := (hb.block g hg).trans h
theorem Bk.rd (h : Bk w g t cs) : Rd w w.heap.size (some ⟨g, 0, none⟩) cs := fun _ => ⟨⟨g, 0, none⟩, rfl, h.lt, fun j u hu => by
  obtain ⟨hj, rfl⟩ := List.getElem?_eq_some_iff.1 hu
  have e : (⟨g, 0, none⟩ : Addr).add j = ⟨g, j, none⟩ := by
    unfold Addr.add
    rcases Nat.eq_zero_or_pos j with h0 | h0
    · subst h0; rfl
    · simp [Nat.ne_of_gt h0]
  rw [e]
  exact h.cell hj⟩
end

/-- 'out = append(out, u)': one element more on a row of the call's own (which may be nil, and may grow). -/
theorem wpList_app1 {P : Program} {w0 w : World} {ops : Array Oper} {rest : List Oper} {o : Oper} {a : Act} {Q : Exit → Act → World → Prop} (hgd : o.guard = none) (s x : Operand) (t : TypeId)
    (ho : o.op = .call { callee := .builtin .append, args := #[s, x], argTypes := #[t, t] })
    (B : Nat) (e : TypeId) (i : TypeInfo) (z : Value) (bytes : Nat) (ht : P.underlying t = some (.slice e)) (hi : P.info? e = some i) (hz : i.zero = some z)
    (hsize : i.size = 1) (hby : i.bytes = bytes) (hzs : z.cells.size = 1)
    (v : Value) (n : Nat) (xs : List Value) (hs : a.eval s = v) (hown : w.ownsRow B e 1 v n xs) (hB : B ≤ w.heap.size) (hW : Below B w0 w)
    (u : Value) (hu : u.oneCell' = true) (hx : a.eval x = .slice (some ⟨w.heap.size, 0, none⟩) 1 1)
    (hn : (n + 1) * bytes ≤ 1000000000) (hn2 : n ≤ 1000000000)
    (h : ∀ v' w', w'.ownsRow B e 1 v' (n + 1) (xs ++ [u]) → Below B w0 w' → (w.alloc (.cells #[u] e)).grownBy w' v.ownBlock → wpList P ops Q rest (a.put o.dst v') w') : wpList P ops Q (o :: rest) a (w.alloc (.cells #[u] e)) := by
  refine wpList_append_own _ hgd s x t ho B e i z 1 bytes ht hi hz hsize hby hzs (by omega) v n xs hs (hown.alloc _) ⟨w.heap.size, 0, none⟩ 1 1 [u] hx rfl (cell_one_new _ _ _) (by simpa using hu) (by unfold maxLen; omega) (by omega) (by simp; omega) ?_
  intro v' w' h1 h2 _
  exact h v' w' h1 ((hW.alloc hB _).grown h2 (by simp; omega) fun k hk => (hown.lt k hk).1) h2

/-- a slice of numbers that came in. -/
structure IsNums (w : World) (A : Option Addr) (n c : Nat) (l : List Nat) : Prop where
  len : l.length = n
  rd : Rd w w.heap.size A (l.map (Value.float .f64))
  wf : ∀ x ∈ l, x < 18446744073709551616
  cap : n ≤ c
  big : c ≤ maxLen
/-- a slice of integers of a kind that came in. -/
structure IsInts (k : IntKind) (w : World) (A : Option Addr) (n c : Nat) (l : List Int) : Prop where
  len : l.length = n
  rd : Rd w w.heap.size A (l.map (Value.int k))
  wf : ∀ x ∈ l, (Lit.int k x).wf = true
  cap : n ≤ c
  big : c ≤ maxLen
theorem IsNums.lit (w : World) (t : TypeId) (l : List Nat) (hw : ∀ x ∈ l, x < 18446744073709551616) (hm : l.length ≤ 1000) : IsNums (w.alloc (.cells (l.map (Value.float .f64)).toArray t)) (some ⟨w.heap.size, 0, none⟩) l.length l.length l :=
  ⟨rfl, (Bk.new w t _).rd, hw, Nat.le_refl _, by unfold maxLen; omega⟩
theorem nums_of_own {w : World} {B : Nat} {e : TypeId} {v : Value} {n : Nat} {l : List Nat} (h : w.ownsRow B e 1 v n (l.map (Value.float .f64))) (hw : ∀ x ∈ l, x < 18446744073709551616) : ∃ A c, v = .slice A n c ∧ IsNums w A n c l := by
  have hl : l.length = n := by have := h.1; rw [List.length_map] at this; omega
  rcases h.2 with ⟨rfl, h0⟩ | ⟨g, cap, cur, rfl, _, _, hnc, hcm, _⟩
  · obtain rfl : l = [] := List.eq_nil_of_length_eq_zero (by omega)
    subst h0
    exact ⟨none, 0, rfl, rfl, Rd.nil _ _ _, by simp, Nat.le_refl _, by simp [maxLen]⟩
  · exact ⟨_, cap, rfl, hl, Rd.of_own h, hw, hnc, hcm⟩
theorem ints_of_own {k : IntKind} {w : World} {B : Nat} {e : TypeId} {v : Value} {n : Nat} {l : List Int} (h : w.ownsRow B e 1 v n (l.map (Value.int k))) (hw : ∀ x ∈ l, (Lit.int k x).wf = true) : ∃ A c, v = .slice A n c ∧ IsInts k w A n c l := by
  have hl : l.length = n := by have := h.1; rw [List.length_map] at this; omega
  rcases h.2 with ⟨rfl, h0⟩ | ⟨g, cap, cur, rfl, _, _, hnc, hcm, _⟩
  · obtain rfl : l = [] := List.eq_nil_of_length_eq_zero (by omega)
    subst h0
    exact ⟨none, 0, rfl, rfl, Rd.nil _ _ _, by simp, Nat.le_refl _, by simp [maxLen]⟩
  · exact ⟨_, cap, rfl, hl, Rd.of_own h, hw, hnc, hcm⟩
theorem IsNums.next {w w' : World} {A : Option Addr} {n c : Nat} {l : List Nat} (h : IsNums w A n c l) (hb : Below w.heap.size w w') : IsNums w' A n c l := ⟨h.len, (h.rd.next (Nat.le_refl _) hb).more hb.size, h.wf, h.cap, h.big⟩
theorem IsNums.drewN {w : World} {A : Option Addr} {n c : Nat} {l : List Nat} (h : IsNums w A n c l) (q : Nat) : IsNums (w.drewN q) A n c l := h.next (below_drawn w q)
theorem IsInts.next {k : IntKind} {w w' : World} {A : Option Addr} {n c : Nat} {l : List Int} (h : IsInts k w A n c l) (hb : Below w.heap.size w w') : IsInts k w' A n c l := ⟨h.len, (h.rd.next (Nat.le_refl _) hb).more hb.size, h.wf, h.cap, h.big⟩
theorem IsNums.below {B : Nat} {w w' : World} {A : Option Addr} {n c : Nat} {l : List Nat} (h : IsNums w A n c l) (hB : w.heap.size ≤ B) (hb : Below B w w') : IsNums w' A n c l := h.next (hb.mono hB)
/-- the same law at a step of a region that draws its order. -/
theorem step_app1 {P : Program} {w0 w : World} {ops : Array Oper} {o : Oper} {a : Act} {K : Act → World → Prop} {Q : Exit → Act → World → Prop} {E : Prop} (hgd : o.guard = none) (s x : Operand) (t : TypeId)
    (ho : o.op = .call { callee := .builtin .append, args := #[s, x], argTypes := #[t, t] })
    (B : Nat) (e : TypeId) (i : TypeInfo) (z : Value) (bytes : Nat) (ht : P.underlying t = some (.slice e)) (hi : P.info? e = some i) (hz : i.zero = some z)
    (hsize : i.size = 1) (hby : i.bytes = bytes) (hzs : z.cells.size = 1)
    (v : Value) (n : Nat) (xs : List Value) (hs : a.eval s = v) (hown : w.ownsRow B e 1 v n xs) (hB : B ≤ w.heap.size) (hW : Below B w0 w)
    (u : Value) (hu : u.oneCell' = true) (hx : a.eval x = .slice (some ⟨w.heap.size, 0, none⟩) 1 1)
    (hn : (n + 1) * bytes ≤ 1000000000) (hn2 : n ≤ 1000000000)
    (h : ∀ v' w', w'.ownsRow B e 1 v' (n + 1) (xs ++ [u]) → Below B w0 w' → (w.alloc (.cells #[u] e)).grownBy w' v.ownBlock → K (a.put o.dst v') w') : if Region.wanted o (yielded ops a.tmps) = true then Oper.wp P o a (w.alloc (.cells #[u] e)) K Q else E := by
  have hw : Region.wanted o (yielded ops a.tmps) = true := by simp [Region.wanted, hgd]
  rw [if_pos hw]
  refine wp_append_own _ s x t ho B e i z 1 bytes ht hi hz hsize hby hzs (by omega) v n xs hs (hown.alloc _) ⟨w.heap.size, 0, none⟩ 1 1 [u] hx rfl (cell_one_new _ _ _) (by simpa using hu) (by unfold maxLen; omega) (by omega) (by simp; omega) ?_
  intro v' w' h1 h2 _
  exact h v' w' h1 ((hW.alloc hB _).grown h2 (by simp; omega) fun k hk => (hown.lt k hk).1) h2
section
open Go.ChangeShapes Go.WideShapes Go.Deep
variable {H : Type} {enc : TypeId × Value → H} {P : Program} {w : World} {base : Nat} {spare : Nat → Bool} {held : Bool}
theorem list_of {α : Type} (n : Nat) (p : Nat → α → Prop) (h : ∀ i, i < n → ∃ x, p i x) : ∃ l : List α, l.length = n ∧ ∀ i (hi : i < l.length), p i l[i] := by
  induction n with
  | zero => exact ⟨[], rfl, fun i hi => absurd hi (by simp)⟩
  | succ n ih =>
    obtain ⟨l, hl, hp⟩ := ih fun i hi => h i (by omega)
    obtain ⟨x, hx⟩ := h n (by omega)
    refine ⟨l ++ [x], by simp [hl], fun i hi => ?_⟩
    rw [List.length_append, List.length_singleton] at hi
    rcases Nat.lt_or_ge i l.length with g | g
    · rw [List.getElem_append_left g]; exact hp i g
    · obtain rfl : i = l.length := by omega
      rw [List.getElem_append_right (Nat.le_refl _)]
      simp only [Nat.sub_self, List.getElem_cons_zero]
      rw [hl]; exact hx
theorem trod_float {e : TypeId} {k : FloatKind} {fuel : Nat} {v : Value} {y : DataW H × List MemPlace} (he : P.underlying e = some (.float k)) {cs : List Value} (hcs : cs = [v]) (h : DataW.trod enc P w base spare held fuel e cs = some y) :
    ∃ b, v = .float k b ∧ (Lit.float k b).wf = true := by
  subst hcs
  cases fuel with
  | zero => simp [DataW.trod] at h
  | succ n =>
    simp only [DataW.trod, he] at h
    cases v <;> simp at h
    rename_i k' b
    obtain ⟨⟨rfl, hw⟩, _⟩ := h
    exact ⟨b, rfl, hw⟩
theorem open_nums {t e : TypeId} {A : Option Addr} {n c : Nat} {d : DataW H} {ps : List MemPlace} (ht : P.underlying t = some (.slice e)) (he : P.underlying e = some (.float .f64)) (hc : P.cellsOf e = 1)
    (h : DataW.Trod enc P w base spare held t (.slice A n c) d ps) (lt : ∀ x ∈ ps, x.block < w.heap.size) : ∃ l, IsNums w A n c l := by
  have h0 := h
  obtain ⟨fuel, hf⟩ := h
  rcases open_slice ht hf with ⟨hcs, _⟩ | ⟨a, len, cap, m, n', D, Pl, hcs, hb, hl, hm, hmm, hx, hi⟩
  · simp [Value.cells] at hcs
    obtain ⟨rfl, rfl, rfl⟩ := hcs
    exact ⟨[], rfl, Rd.nil _ _ _, by simp, Nat.le_refl _, by simp [maxLen]⟩
  · simp [Value.cells] at hcs
    obtain ⟨rfl, rfl, rfl⟩ := hcs
    have hlm : n ≤ m := by rw [hmm]; split <;> omega
    obtain ⟨l, hlen, hp⟩ := list_of n (fun i b => w.cell? (a.add i) = some (.float .f64 b) ∧ b < 18446744073709551616) fun i hin => by
      obtain ⟨cs', hcc, htr⟩ := hi i (by omega)
      rw [hc, Nat.mul_one] at hcc
      obtain ⟨_, hcl, hat⟩ := World.cells?_some hcc
      match cs', hcl with
      | [v], _ =>
        obtain ⟨b, rfl, hw⟩ := trod_float he rfl htr
        have := hat 0 (by omega)
        refine ⟨b, ?_, by simpa [Lit.wf] using hw⟩
        simpa [add_twice] using this
    refine ⟨l, hlen, fun hn => ⟨a, rfl, ?_, fun j u hu => ?_⟩, fun x hx' => ?_, hl, hm⟩
    · rw [List.length_map] at hn
      have hx2 := (Prod.mk.inj hx).2
      exact lt (MemPlace.cell a.block (a.off + 0)) (by rw [hx2, hc]; exact List.mem_append_left _ (List.mem_map.2 ⟨0, by simp; omega, rfl⟩))
    · rw [List.getElem?_map] at hu
      obtain ⟨b, hb', rfl⟩ := Option.map_eq_some_iff.1 hu
      obtain ⟨hj, rfl⟩ := List.getElem?_eq_some_iff.1 hb'
      exact (hp j hj).1
    · obtain ⟨i, hi', rfl⟩ := List.getElem_of_mem hx'
      exact (hp i hi').2
theorem open_intsR {t e : TypeId} {k : IntKind} {A : Option Addr} {n c : Nat} {d : DataW H} {ps : List MemPlace} (ht : P.underlying t = some (.slice e)) (he : P.underlying e = some (.int k)) (hc : P.cellsOf e = 1)
    (h : DataW.Trod enc P w base spare held t (.slice A n c) d ps) (lt : ∀ x ∈ ps, x.block < w.heap.size) : ∃ l, IsInts k w A n c l := by
  obtain ⟨fuel, hf⟩ := h
  rcases open_ints ht he hc hf with ⟨hcs, _⟩ | ⟨a, len, cap, zs, hcs, _, hl, hm, hz, hx, hcell, hwz⟩
  · simp [Value.cells] at hcs
    obtain ⟨rfl, rfl, rfl⟩ := hcs
    exact ⟨[], rfl, Rd.nil _ _ _, by simp, Nat.le_refl _, by simp [maxLen]⟩
  · simp [Value.cells] at hcs
    obtain ⟨rfl, rfl, rfl⟩ := hcs
    have hlm : n ≤ zs.length := by rw [hz]; split <;> omega
    refine ⟨zs.take n, by simp; omega, fun hn => ⟨a, rfl, ?_, fun j u hu => ?_⟩, fun x hx' => hwz x (List.mem_of_mem_take hx'), hl, hm⟩
    · rw [List.length_map, List.length_take] at hn
      have hx2 := (Prod.mk.inj hx).2
      exact lt (MemPlace.cell a.block (a.off + 0)) (by rw [hx2]; exact List.mem_map.2 ⟨0, by simp; omega, rfl⟩)
    · rw [List.getElem?_map] at hu
      obtain ⟨b, hb', rfl⟩ := Option.map_eq_some_iff.1 hu
      obtain ⟨hj, rfl⟩ := List.getElem?_eq_some_iff.1 hb'
      rw [List.length_take] at hj
      rw [hcell j (by omega), List.getElem_take, List.getD_eq_getElem?_getD, List.getElem?_eq_getElem (by omega)]
      rfl
end
end Go.Proofs.Ytchhnjadnacniaa
