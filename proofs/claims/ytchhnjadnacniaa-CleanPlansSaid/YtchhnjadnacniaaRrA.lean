/- The reference's Rank: insertion into two rows; what it returns, for every list of zones. -/
import Derived.Test.YtchhnjadnacniaaRkD
namespace Go.Proofs.Ytchhnjadnacniaa.Rk
set_option linter.unusedSimpArgs false
set_option linter.unusedVariables false
open Go.RowKit Go.Sort Go.Lib Fl Fb Sc
open Go.Proofs.Ytchhnjadnacniaa.So
attribute [local go_sem] u64_unsigned

theorem num_of {r V : Nat} (h : cn r = V) (hV : rg V ≤ 9218868437227405312) : r = V := by
  rcases Nat.lt_or_ge 9218868437227405312 (rg r) with g | g
  · rw [cn_nan g] at h; rw [← h] at hV; exact absurd hV (by decide)
  · rw [cn_num g] at h; exact h
theorem rscore_any (z : Zn) (now : Int) (w : World) :
    Calls Try.prog 26 #[.agg #[.int .i64 z.l, .int .i64 z.s, .int .i64 z.t], .int .i64 now] w fun e w' => ∃ x c : Nat, e = .returned (.tuple #[.float .f64 x, .int .i64 c]) ∧ Below w.heap.size w w' ∧ SC x c (wV now z) := by
  have no : okZ now z = false → wV now z = 0 := fun h => by unfold wV; rw [if_neg (by simp [h])]
  cases h : mayZ z.l z.s z.t
  · exact (rscore_bad _ _ _ _ w h).mono fun e w' ⟨he, hb⟩ => ⟨0, 1, he, hb, .inl ⟨rfl, no (by unfold okZ; rw [h]; rfl)⟩⟩
  · obtain ⟨m1, m2, m3, m4, m5⟩ := mayZ_yes h
    rcases Int.lt_or_le now z.t with h1 | h1
    · exact (rscore_old _ _ _ _ w h h1).mono fun e w' ⟨he, hb⟩ => ⟨0, 1, he, hb, .inl ⟨rfl, no (by unfold okZ; simp; omega)⟩⟩
    · rcases Int.lt_or_le 1099511627776 now with h2 | h2
      · exact (rscore_late _ _ _ _ w h h1 h2).mono fun e w' ⟨he, hb⟩ => ⟨0, 1, he, hb, .inl ⟨rfl, no (by unfold okZ; simp; omega)⟩⟩
      · have hok : okZ now z = true := by unfold okZ; rw [h]; simp; omega
        by_cases hs : z.s = 0
        · refine (rscore_nan _ _ _ _ w h h1 h2 hs).mono fun e w' ⟨he, hb⟩ => ⟨_, 0, he, hb, .inr (.inl ⟨rfl, rfl, ?_⟩)⟩
          unfold wV; rw [if_neg (by simp [hs])]
        · have hs' : (z.s == 0) = false := beq_eq_false_iff_ne.2 hs
          by_cases hl : z.l = 0
          · refine (rscore_inf _ _ _ _ w h h1 h2 hl hs').mono fun e w' ⟨he, hb⟩ => ⟨_, 0, he, hb, .inr (.inr ⟨rfl, ?_, wV_le _ _⟩)⟩
            unfold wV; rw [if_pos ⟨hok, hs⟩, if_pos hl]
          · refine (rscore_num _ _ _ _ w h h1 h2 hs' (beq_eq_false_iff_ne.2 hl)).mono fun e w' ⟨r, hr, _, he, hb⟩ => ⟨_, 0, he, hb, .inr (.inr ⟨rfl, ?_, wV_le _ _⟩)⟩
            have e1 : wV now z = scoreV (useV z.l z.s) (now - z.t) := by unfold wV; rw [if_pos ⟨hok, hs⟩, if_neg hl]
            have hle := wV_le now z
            refine num_of (hr.trans e1.symm) ?_
            rw [rg_small hle]; exact hle
/-- two rows of the call's own, of numbers. -/
def fv (x : Nat) : Value := .float .f64 x
theorem own_other {w : World} {B e size n g c : Nat} {xs : List Value} (h : w.ownsRow B e size (.slice (some ⟨g, 0, none⟩) n c) n xs) {p : Addr} (hp : p.block ≠ g) (u : Value) : (w.setCell p u).ownsRow B e size (.slice (some ⟨g, 0, none⟩) n c) n xs := by
  rcases h.2 with h0 | ⟨g', cap, cur, hv, hg, hh, hr⟩
  · cases h0.1
  · have e := hv
    injection e with e1 _ e3
    injection e1 with e1
    injection e1 with e1
    subst e1
    exact ⟨h.1, .inr ⟨_, cap, cur, hv, hg, (Below.heap_setCell w p u _ (fun e => hp e.symm)).trans hh, hr⟩⟩
structure SX (w wr : World) (g1 c1 g2 c2 N : Nat) (xo xs : List Nat) : Prop where
  ro : wr.ownsRow w.heap.size 3 1 (.slice (some ⟨g1, 0, none⟩) N c1) N (xo.map nv)
  rs : wr.ownsRow w.heap.size 31 1 (.slice (some ⟨g2, 0, none⟩) N c2) N (xs.map fv)
  ne : g1 ≠ g2
  bel : Below w.heap.size w wr
theorem SX.leno {w wr : World} {g1 c1 g2 c2 N : Nat} {xo xs : List Nat} (h : SX w wr g1 c1 g2 c2 N xo xs) : xo.length = N := by have := h.ro.1; rw [List.length_map] at this; omega
theorem SX.lens {w wr : World} {g1 c1 g2 c2 N : Nat} {xo xs : List Nat} (h : SX w wr g1 c1 g2 c2 N xo xs) : xs.length = N := by have := h.rs.1; rw [List.length_map] at this; omega
theorem getD_of {l : List Nat} {j : Nat} (hj : j < l.length) : l.getD j 0 = l[j] := by rw [List.getD_eq_getElem?_getD, List.getElem?_eq_getElem hj]; rfl
theorem SX.geto {w wr : World} {g1 c1 g2 c2 N : Nat} {xo xs : List Nat} (h : SX w wr g1 c1 g2 c2 N xo xs) {j : Nat} (hj : j < N) : wr.cell? ⟨g1, j, none⟩ = some (nv (xo.getD j 0)) := by
  have hl := h.leno
  rw [h.ro.cellAt j (by omega), List.getElem?_map, List.getElem?_eq_getElem (by omega), getD_of (by omega)]; rfl
theorem SX.gets {w wr : World} {g1 c1 g2 c2 N : Nat} {xo xs : List Nat} (h : SX w wr g1 c1 g2 c2 N xo xs) {j : Nat} (hj : j < N) : wr.cell? ⟨g2, j, none⟩ = some (fv (xs.getD j 0)) := by
  have hl := h.lens
  rw [h.rs.cellAt j (by omega), List.getElem?_map, List.getElem?_eq_getElem (by omega), getD_of (by omega)]; rfl
theorem SX.seto {w wr : World} {g1 c1 g2 c2 N : Nat} {xo xs : List Nat} (h : SX w wr g1 c1 g2 c2 N xo xs) (j u : Nat) : SX w (wr.setCell ⟨g1, j, none⟩ (nv u)) g1 c1 g2 c2 N (xo.set j u) xs := by
  refine ⟨?_, own_other h.rs (fun e => h.ne e) _, h.ne, h.bel.setCell (h.ro.lt g1 rfl).1 _⟩
  rw [List.map_set]
  exact (h.ro.stored j (nv u)).1
theorem SX.sets {w wr : World} {g1 c1 g2 c2 N : Nat} {xo xs : List Nat} (h : SX w wr g1 c1 g2 c2 N xo xs) (j u : Nat) : SX w (wr.setCell ⟨g2, j, none⟩ (fv u)) g1 c1 g2 c2 N xo (xs.set j u) := by
  refine ⟨own_other h.ro (fun e => h.ne e.symm) _, ?_, h.ne, h.bel.setCell (h.rs.lt g2 rfl).1 _⟩
  rw [List.map_set]
  exact (h.rs.stored j (fv u)).1
/-- a list of which the element at k may be taken away. -/
def shift (l : List Nat) (k : Nat) : List Nat := l.take k ++ l.getD k 0 :: l.drop k
theorem shift_end (l : List Nat) : shift l l.length = l ++ [0] := by unfold shift; rw [List.take_length, List.drop_length, List.getD_eq_getElem?_getD, List.getElem?_eq_none (Nat.le_refl _)]; rfl
theorem shift_get {l : List Nat} {k : Nat} (hk : k < l.length) : (shift l (k + 1)).getD k 0 = l.getD k 0 := by
  unfold shift
  rw [List.getD_eq_getElem?_getD, List.getElem?_append_left (by simp; omega), List.getElem?_take, if_pos (by omega), List.getD_eq_getElem?_getD]
theorem set_at (a : List Nat) (y z : Nat) (c : List Nat) {k : Nat} (hk : k = a.length) : (a ++ y :: c).set k z = a ++ z :: c := by
  subst hk
  rw [List.set_append_right _ _ (Nat.le_refl _), Nat.sub_self]; rfl
theorem shift_set {l : List Nat} {k : Nat} (hk : k < l.length) : (shift l (k + 1)).set (k + 1) (l.getD k 0) = shift l k := by
  unfold shift
  rw [set_at _ _ _ _ (by simp; omega), List.take_succ_eq_append_getElem hk, List.drop_eq_getElem_cons hk, getD_of hk, List.append_assoc]
  rfl
theorem shift_put {l : List Nat} {k : Nat} (hk : k ≤ l.length) (z : Nat) : (shift l k).set k z = l.take k ++ z :: l.drop k := by
  unfold shift
  rw [set_at _ _ _ _ (by simp; omega)]
/-- where a new one goes. -/
theorem ins_sorted {ws os : List Nat} {i a : Nat} (hp : os.Perm (keepN ws i)) (hs : os.Pairwise fun x y => leR ws x y = true) (ha : a ≤ os.length) (h1 : ∀ j, (hj : j < os.length) → a ≤ j → gt0 ws os[j] < gt0 ws i) (h2 : ∀ p, (hp : p < os.length) → a = p + 1 → gt0 ws i ≤ gt0 ws os[p]) :
    (os.take a ++ i :: os.drop a).Pairwise fun x y => leR ws x y = true := by
  have hlt : ∀ x ∈ os, x < i := fun x hx => (mem_keepN.1 (hp.mem_iff.1 hx)).1
  have hlow : ∀ x ∈ os.drop a, gt0 ws x < gt0 ws i := fun x hx => by
    obtain ⟨j, hj, rfl⟩ := List.getElem_of_mem hx
    rw [List.length_drop] at hj
    rw [List.getElem_drop]
    exact h1 _ (by omega) (by omega)
  have hup : ∀ x ∈ os.take a, gt0 ws i ≤ gt0 ws x := fun x hx => by
    obtain ⟨j, hj, rfl⟩ := List.getElem_of_mem hx
    rw [List.length_take] at hj
    rw [List.getElem_take]
    have hb := h2 (a - 1) (by omega) (by omega)
    rcases Nat.lt_or_ge j (a - 1) with g | g
    · have := List.pairwise_iff_getElem.1 hs j (a - 1) (by omega) (by omega) g
      unfold leR at this; simp at this; omega
    · obtain rfl : j = a - 1 := by omega
      exact hb
  have hs' : (os.take a ++ os.drop a).Pairwise fun x y => leR ws x y = true := by rwa [List.take_append_drop]
  obtain ⟨s1, s2, s3⟩ := List.pairwise_append.1 hs'
  refine List.pairwise_append.2 ⟨s1, List.pairwise_cons.2 ⟨fun x hx => ?_, s2⟩, fun x hx y hy => ?_⟩
  · have := hlow x hx; unfold leR; simp; omega
  · rcases List.mem_cons.1 hy with rfl | hy
    · have g1 := hup x hx
      have g2 := hlt x (List.mem_of_mem_take hx)
      unfold leR; simp; omega
    · exact s3 x hx y hy
theorem ins_perm {ws os : List Nat} {i a : Nat} (hp : os.Perm (keepN ws i)) (h : gt0 ws i ≠ 0) : (os.take a ++ i :: os.drop a).Perm (keepN ws (i + 1)) := by
  rw [keepN_yes h]
  refine List.perm_middle.trans ?_
  rw [List.take_append_drop]
  exact (hp.cons i).trans (List.perm_append_comm (l₁ := [i]))
/-- how far the reference's Rank has come. -/
structure RR (w wr : World) (ws : List Nat) (k : Nat) (vo vs : Value) (os : List Nat) : Prop where
  ro : wr.ownsRow w.heap.size 3 1 vo os.length (os.map nv)
  rs : wr.ownsRow w.heap.size 31 1 vs os.length ((os.map (gt0 ws)).map fv)
  dj : (vo.ownBlock = none ∧ vs.ownBlock = none) ∨ vo.ownBlock ≠ vs.ownBlock
  bel : Below w.heap.size w wr
  pm : os.Perm (keepN ws k)
  st : os.Pairwise fun a b => leR ws a b = true
theorem RR.next {w wr w' : World} {ws os : List Nat} {k : Nat} {vo vs : Value} (h : RR w wr ws k vo vs os) (hb : Below wr.heap.size wr w') : RR w w' ws k vo vs os :=
  ⟨own_next h.ro hb, own_next h.rs hb, h.dj, h.bel.trans (hb.mono h.bel.size), h.pm, h.st⟩
theorem RR.skip {w wr : World} {ws os : List Nat} {k : Nat} {vo vs : Value} (h : RR w wr ws k vo vs os) (h0 : gt0 ws k = 0) : RR w wr ws (k + 1) vo vs os :=
  ⟨h.ro, h.rs, h.dj, h.bel, by rw [keepN_no h0]; exact h.pm, h.st⟩
theorem RR.len {w wr : World} {ws os : List Nat} {k : Nat} {vo vs : Value} (h : RR w wr ws k vo vs os) : os.length ≤ k := by rw [h.pm.length_eq]; exact keepN_le _ _
theorem RR.last {w wr : World} {ws os : List Nat} {k a g1 c1 g2 c2 : Nat} (h : SX w wr g1 c1 g2 c2 (os.length + 1) (os.take a ++ k :: os.drop a) ((os.map (gt0 ws)).take a ++ gt0 ws k :: (os.map (gt0 ws)).drop a)) (ha : a ≤ os.length)
    (hp : os.Perm (keepN ws k)) (hs : os.Pairwise fun a b => leR ws a b = true) (h0 : gt0 ws k ≠ 0) (h1 : ∀ j, (hj : j < os.length) → a ≤ j → gt0 ws os[j] < gt0 ws k) (h2 : ∀ p, (hp : p < os.length) → a = p + 1 → gt0 ws k ≤ gt0 ws os[p]) :
    RR w wr ws (k + 1) (.slice (some ⟨g1, 0, none⟩) (os.length + 1) c1) (.slice (some ⟨g2, 0, none⟩) (os.length + 1) c2) (os.take a ++ k :: os.drop a) := by
  have hl : (os.take a ++ k :: os.drop a).length = os.length + 1 := by simp; omega
  refine ⟨by rw [hl]; exact h.ro, ?_, .inr (fun e => h.ne (Option.some.inj e)), h.bel, ins_perm hp h0, ins_sorted hp hs ha h1 h2⟩
  rw [hl, List.map_append, List.map_cons, List.map_take, List.map_drop]
  exact h.rs
theorem own_slice {w : World} {B e n : Nat} {v : Value} {xs : List Value} (h : w.ownsRow B e 1 v n xs) (hn : 0 < n) : ∃ g c, v = .slice (some ⟨g, 0, none⟩) n c := by
  rcases h.2 with ⟨_, h0⟩ | ⟨g, cap, cur, hv, _⟩
  · omega
  · exact ⟨g, cap, hv⟩
theorem own_lt {w : World} {B e n : Nat} {v : Value} {xs : List Value} (h : w.ownsRow B e 1 v n xs) {g : Nat} (hg : v.ownBlock = some g) : g < w.heap.size := (h.lt g hg).2
/-- behind both appends. -/
theorem RR.grow {w w1 w2 w3 : World} {ws os : List Nat} {k : Nat} {vo vs vo' vs' : Value} (h : RR w w1 ws k vo vs os)
    (h1 : w2.ownsRow w.heap.size 3 1 vo' (os.length + 1) (os.map nv ++ [nv 0])) (g1 : (w1.alloc (.cells #[nv 0] 3)).grownBy w2 vo.ownBlock) (l1 : vo'.ownBlock = vo.ownBlock ∨ vo'.ownBlock = some (w1.alloc (.cells #[nv 0] 3)).heap.size)
    (h2 : w3.ownsRow w.heap.size 31 1 vs' (os.length + 1) ((os.map (gt0 ws)).map fv ++ [fv 0])) (g2 : (w2.alloc (.cells #[fv 0] 31)).grownBy w3 vs.ownBlock) (l2 : vs'.ownBlock = vs.ownBlock ∨ vs'.ownBlock = some (w2.alloc (.cells #[fv 0] 31)).heap.size) :
    ∃ g1 c1 g2 c2, vo' = .slice (some ⟨g1, 0, none⟩) (os.length + 1) c1 ∧ vs' = .slice (some ⟨g2, 0, none⟩) (os.length + 1) c2 ∧ SX w w3 g1 c1 g2 c2 (os.length + 1) (shift os os.length) (shift (os.map (gt0 ws)) os.length) := by
  obtain ⟨b1, c1, rfl⟩ := own_slice h1 (by omega)
  obtain ⟨b2, c2, rfl⟩ := own_slice h2 (by omega)
  have hB2 : Below w.heap.size w w2 := (h.bel.alloc h.bel.size _).grown g1 (by simp; have := h.bel.size; omega) fun g hg => (h.ro.lt g hg).1
  have hB3 : Below w.heap.size w w3 := (hB2.alloc hB2.size _).grown g2 (by simp; have := hB2.size; omega) fun g hg => (h.rs.lt g hg).1
  have hvs : vs.ownBlock ≠ some b1 := fun e => by
    have hlt := own_lt h.rs e
    rcases l1 with l1 | l1
    · have l1' : vo.ownBlock = some b1 := l1.symm
      rcases h.dj with ⟨d, _⟩ | d
      · rw [d] at l1'; cases l1'
      · exact d (l1'.trans e.symm)
    · have : b1 = (w1.alloc (.cells #[nv 0] 3)).heap.size := Option.some.inj l1
      simp at this; omega
  have ho3 : w3.ownsRow w.heap.size 3 1 (.slice (some ⟨b1, 0, none⟩) (os.length + 1) c1) (os.length + 1) (os.map nv ++ [nv 0]) :=
    (h1.alloc _).kept g2 (.inr (fun e => hvs e.symm))
  refine ⟨b1, c1, b2, c2, rfl, rfl, ?_, ?_, fun e => ?_, hB3⟩
  · rw [shift_end, List.map_append]; exact ho3
  · have e := shift_end (os.map (gt0 ws))
    rw [List.length_map] at e
    rw [e, List.map_append]; exact h2
  · subst e
    rcases l2 with l2 | l2
    · exact hvs l2.symm
    · have : b1 = (w2.alloc (.cells #[fv 0] 31)).heap.size := Option.some.inj l2
      have := own_lt h1 (show (Value.slice (some ⟨b1, 0, none⟩) (os.length + 1) c1).ownBlock = some b1 from rfl)
      simp at *; omega
end Go.Proofs.Ytchhnjadnacniaa.Rk
