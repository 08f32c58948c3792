/- The map of versions: what it holds, and what keeps it; contracts of New, gone, Blocks, block and rise of extmap, of ContainsFunc and Clone. -/
import Derived.Test.YtchhnjadnacniaaCmB
import Derived.Maps.Own
import Derived.Maps.OwnOps
import Derived.Maps.Views
import Derived.Maps.OwnSet
import Derived.Deep.Onto
namespace Go.Proofs.Ytchhnjadnacniaa.Cm
set_option linter.unusedSimpArgs false
set_option linter.unusedVariables false
open Go.RowKit

open Go.Maps
/-- a version: since when, and what. -/
structure VerD where
  t : Int
  d : Value
def VerD.cells (v : VerD) : List Value := [.int .i64 v.t, v.d]
theorem ver_two (p : VerD) : p.cells.length = 2 := rfl
def RV (v : Value) : Option (DataW Value × List MemPlace) := some (.held v, [])
theorem lawI : Keyed Try.prog 3 := int_keyed Try.underlying3
theorem keyI {k : Int} (h : (Lit.int .i64 k).wf = true) : keyOf Try.prog 3 (.int .i64 k) = some (.int .i64 k) := keyOf_int_mk Try.underlying3 h
theorem zeroVs (w : World) : (zeroValue 99).run Try.prog w = .ok (.slice none 0 0) w := by kernel_rfl
def noneV : DataW Value := .held (.slice none 0 0)
/-- the map of versions at gm: f k are the versions of block k, the eldest first. -/
structure EMx (w : World) (B gm bm N M : Nat) (last : Int) (D : DataW Value) (mv : Int → Value) (f : Int → List VerD) : Prop where
  bx : Bk w gm 102 [.int .i64 30, .map (some bm), .int .i64 last]
  mp : w.ownsMap Try.prog 3 RV bm N D
  at' : ∀ k : Int, D.atKey (.int .i64 k) noneV = .held (mv k)
  row : ∀ k, w.ownsRow B 98 2 (mv k) (f k).length ((f k).flatMap VerD.cells)
  dj : ∀ k k', k ≠ k' → (mv k).ownBlock = none ∨ (mv k).ownBlock ≠ (mv k').ownBlock
  dat : ∀ k, ∀ v ∈ f k, ∃ bs, w.ownsRow B 5 1 v.d 40 bs ∧ ∀ u ∈ bs, u.oneCell' = true
  lens : ∀ k, (f k).length ≤ M
  b1 : B ≤ gm
  b2 : B ≤ bm
def EM (w : World) (B gm N M : Nat) (last : Int) (f : Int → List VerD) : Prop := ∃ bm D mv, EMx w B gm bm N M last D mv f
/-- what the map of versions lies in. -/
def OurE : Obj → Prop
  | .map _ _ => True
  | .cells _ t _ => t = 102 ∨ t = 98 ∨ t = 5
  | _ => False
def KeepE (w w' : World) : Prop := w.heap.size ≤ w'.heap.size ∧ ∀ (b : Nat) (ob : Obj), w.heap[b]? = some ob → OurE ob → w'.heap[b]? = some ob
theorem KeepE.of_below {w w' : World} (h : Below w.heap.size w w') : KeepE w w' := ⟨h.size, fun b ob hb _ => (h.block b (Array.getElem?_eq_some_iff.1 hb).1).trans hb⟩
theorem KeepE.trans {a b c : World} (h : KeepE a b) (k : KeepE b c) : KeepE a c := ⟨Nat.le_trans h.1 k.1, fun i ob hi ho => k.2 i ob (h.2 i ob hi ho) ho⟩
theorem KeepE.refl (w : World) : KeepE w w := ⟨Nat.le_refl _, fun _ _ h _ => h⟩
theorem own_keepE {w w' : World} (h : KeepE w w') {B e size n : Nat} (he : e = 102 ∨ e = 98 ∨ e = 5) {v : Value} {xs : List Value} (ho : w.ownsRow B e size v n xs) : w'.ownsRow B e size v n xs := by
  rcases ho.2 with h0 | ⟨g, cap, cur, hv, hg, hh, hr⟩
  · exact ⟨ho.1, .inl h0⟩
  · exact ⟨ho.1, .inr ⟨g, cap, cur, hv, hg, h.2 _ _ hh he, hr⟩⟩
theorem EMx.keep {w w' : World} {B gm bm N M : Nat} {last : Int} {D : DataW Value} {mv : Int → Value} {f : Int → List VerD} (h : EMx w B gm bm N M last D mv f) (k : KeepE w w') : EMx w' B gm bm N M last D mv f :=
  ⟨k.2 _ _ h.bx (.inl rfl), by obtain ⟨es, cl, hb, r⟩ := h.mp; exact ⟨es, cl, k.2 _ _ hb trivial, r⟩, h.at', fun j => own_keepE k (.inr (.inl rfl)) (h.row j), h.dj,
    fun j v hv => by obtain ⟨bs, ho, h1⟩ := h.dat j v hv; exact ⟨bs, own_keepE k (.inr (.inr rfl)) ho, h1⟩, h.lens, h.b1, h.b2⟩
theorem EM.keep {w w' : World} {B gm N M : Nat} {last : Int} {f : Int → List VerD} (h : EM w B gm N M last f) (k : KeepE w w') : EM w' B gm N M last f := by
  obtain ⟨bm, D, mv, h⟩ := h
  exact ⟨bm, D, mv, h.keep k⟩
theorem EM.next {w w' : World} {B gm N M : Nat} {last : Int} {f : Int → List VerD} (h : EM w B gm N M last f) (k : Below w.heap.size w w') : EM w' B gm N M last f := h.keep (.of_below k)
set_option maxHeartbeats 1000000 in
theorem new_any (B : Nat) (w : World) (hB : B ≤ w.heap.size) :
    Calls Try.prog 47 #[.int .i64 30] w fun e w' => (∃ gm, e = .returned (.tuple #[.pointer (some ⟨gm, 0, none⟩), .int .i64 0]) ∧ w.heap.size ≤ gm ∧ EM w' B gm 0 0 0 (fun _ => [])) ∧ Below w.heap.size w w' := by
  have hmm := @run_makeMap Try.prog
  go_enter Try.func47, Try.ntmps47
  go_wp2_with fail
  go_ret2
  refine ⟨⟨w.heap.size + 1, rfl, by omega, w.heap.size, .map [], fun _ => .slice none 0 0, ?_, ?_, fun k => rfl, fun k => ⟨rfl, .inl ⟨rfl, rfl⟩⟩, fun k k' _ => .inl rfl, fun k v hv => by simp at hv, fun k => by simp, by omega, hB⟩, ?_⟩
  · have := Bk.new (w.alloc (.map #[] 0)) 102 [.int .i64 30, .map (some w.heap.size), .int .i64 0]
    simpa using this
  · exact (World.ownsMap_made w Try.prog 3 RV).alloc _
  · exact ((Below.refl _ _).alloc (Nat.le_refl _) _).alloc (by simp) _
set_option maxHeartbeats 1000000 in
theorem gone_any (gm bm : Nat) (last : Int) (w : World) (h : Bk w gm 102 [.int .i64 30, .map (some bm), .int .i64 last]) :
    Calls Try.prog 72 #[.pointer (some ⟨gm, 0, none⟩)] w fun e w' => e = .returned (.bool false) ∧ w = w' := by
  have c0 := h.cell (i := 0) (by simp)
  simp only [List.getElem_cons_zero] at c0
  go_enter Try.func72, Try.ntmps72
  go_wp2_with fail
  go_ret
  exact ⟨rfl, rfl⟩
set_option maxHeartbeats 1000000 in
theorem blocks_any (gm bm : Nat) (last : Int) (w : World) (h : Bk w gm 102 [.int .i64 30, .map (some bm), .int .i64 last]) :
    Calls Try.prog 76 #[.pointer (some ⟨gm, 0, none⟩)] w fun e w' => e = .returned (.int .i64 30) ∧ w = w' := by
  have c0 := h.cell (i := 0) (by simp)
  simp only [List.getElem_cons_zero] at c0
  go_enter Try.func76, Try.ntmps76
  go_wp2_with fail
  go_ret
  exact ⟨rfl, rfl⟩
set_option maxHeartbeats 1000000 in
theorem block_any (gm bm : Nat) (last lba : Int) (w : World) (h : Bk w gm 102 [.int .i64 30, .map (some bm), .int .i64 last]) :
    Calls Try.prog 51 #[.pointer (some ⟨gm, 0, none⟩), .int .i64 lba] w fun e w' => e = .returned (.bool (decide (0 ≤ lba ∧ lba < 30))) ∧ w = w' := by
  rcases Int.lt_or_le lba 0 with g | g
  · have t0 : decide (0 ≤ lba) = false := decide_eq_false (by omega)
    have HR := Lib.hid (show decide (0 ≤ lba ∧ lba < 30) = false from decide_eq_false (by omega))
    go_enter Try.func51, Try.ntmps51
    go_wp2_with fail
    go_ret
    exact ⟨ret_bool (by rw [HR.out]), rfl⟩
  · have t0 : decide (0 ≤ lba) = true := decide_eq_true g
    by_cases g2 : lba < 30
    · have t1 : decide (lba < 30) = true := decide_eq_true g2
      have HR := Lib.hid (show decide (0 ≤ lba ∧ lba < 30) = true from decide_eq_true (by omega))
      go_enter Try.func51, Try.ntmps51
      go_wp2_with fail
      refine (blocks_any _ _ _ _ h).mono ?_
      rintro e w' ⟨rfl, rfl⟩
      go_wp2_with fail
      go_ret
      exact ⟨ret_bool (by rw [HR.out]), rfl⟩
    · have t1 : decide (lba < 30) = false := decide_eq_false g2
      have HR := Lib.hid (show decide (0 ≤ lba ∧ lba < 30) = false from decide_eq_false (by omega))
      go_enter Try.func51, Try.ntmps51
      go_wp2_with fail
      refine (blocks_any _ _ _ _ h).mono ?_
      rintro e w' ⟨rfl, rfl⟩
      go_wp2_with fail
      go_ret
      exact ⟨ret_bool (by rw [HR.out]), rfl⟩
/-- do the numbers rise? -/
def Up (l : List Int) : Prop := ∀ i, (h : i + 1 < l.length) → l[i] < l[i + 1]
def lbas (ps : List PutD) : List Int := ps.map fun p => p.lba
def riseB (ps : List PutD) : Prop := Up (lbas ps) ∧ 0 < ps.length
/-- what rise returns. -/
def RiseR (e : Ending) (ps : List PutD) : Prop := (e = .returned (.bool true) ∧ riseB ps) ∨ (e = .returned (.bool false) ∧ ¬ riseB ps)
theorem add_succ2 (ad : Addr) (j : Nat) : ad.add ((j + 1) * 2) = ⟨ad.block, ad.off + (j + 1) * 2, none⟩ := by simp [Addr.add]
set_option maxRecDepth 100000 in
set_option maxHeartbeats 4000000 in
theorem rise_any (A : Option Addr) (n c : Nat) (ps : List PutD) (w : World) (h : IsPuts w A n c ps) :
    Calls Try.prog 73 #[.slice A n c] w fun e w' => RiseR e ps ∧ ∃ q, w' = w.drewN q := by
  have hl := h.len
  have hnn := Nat.le_trans h.cap h.big
  have hbig : maxLen ≤ 9223372036854775807 := by decide
  go_enter Try.func73, Try.ntmps73
  go_wp2_with fail
  go_loopw [3] (fun i wr => ∃ k q : Nat, (k + 1 ≤ n ∨ k = 0) ∧ i = .int .i64 ((k : Int) + 1) ∧ wr = w.drewN q ∧ Hid (∀ j, (hj : j + 1 < (lbas ps).length) → j < k → (lbas ps)[j] < (lbas ps)[j + 1])) (fun i _ => n - (intOf i).toNat)
  case atStart => exact ⟨0, 0, .inr rfl, rfl, rfl, fun j hj h => absurd h (by omega)⟩
  case round =>
    obtain ⟨k, q, hk, rfl, rfl, HU⟩ := hrel
    by_cases hlt : k + 1 < n
    · obtain ⟨p1, hp1⟩ : ∃ p, ps[k]'(by omega) = p := ⟨_, rfl⟩
      obtain ⟨p2, hp2⟩ : ∃ p, ps[k + 1]'(by omega) = p := ⟨_, rfl⟩
      obtain ⟨ad, rfl, had, c0, _⟩ := two_get put_two h.rd (k := k) (by omega) (u := .int .i64 p1.lba) (v := .slice p1.A p1.n p1.c) (by rw [hp1]; rfl)
      have c1 : w.cell? (ad.add ((k + 1) * 2)) = some (.int .i64 p2.lba) := by
        obtain ⟨ad2, e, _, cc, _⟩ := two_get put_two h.rd (k := k + 1) (by omega) (u := .int .i64 p2.lba) (v := .slice p2.A p2.n p2.c) (by rw [hp2]; rfl)
        injection e with e; subst e
        exact cc
      have hb1 : (lbas ps)[k]'(by unfold lbas; simp; omega) = p1.lba := by unfold lbas; simp [hp1]
      have hb2 : (lbas ps)[k + 1]'(by unfold lbas; simp; omega) = p2.lba := by unfold lbas; simp [hp2]
      have HB := Lib.hid (And.intro hb1 hb2)
      have n0 : (k : Int) + 1 < (n : Int) := by omega
      have n1 : (0 : Int) ≤ (k : Int) := by omega
      have n2 : (k : Int) < (n : Int) := by omega
      have n6 : (0 : Int) ≤ (k : Int) + 1 := by omega
      have wk : IntKind.i64.wrap (k : Int) = k := IntWalk.i64_in _ (by omega)
      have wk1 : IntKind.i64.wrap ((k : Int) + 1) = k + 1 := IntWalk.i64_in _ (by omega)
      clear hp1 hp2 hb1 hb2
      go_wp2_with fail
      refine wp_region_held_drew (S := Drawn w) (by kernel_rfl) (by first | exact Drawn.of _ _ | exact Drawn.one _) (fun hHeld => ?_)
      refine wpAnyH_take (i := 0) (v := ?v1_0) (by simp only [List.getElem?_toArray, List.getElem?_cons_succ, List.getElem?_cons_zero]; rfl) (by kernel_rfl) (by kernel_rfl) (by kernel_rfl) (by exact fun _ _ _ h => h) (Or.inl ⟨by rfl, ?h1_0⟩) hHeld ?_
      case h1_0 => (intro w' hSw; obtain ⟨m, rfl⟩ := hSw; go_simp <;> with_reducible rfl)
      try simp only [Act.put, List.setIfInBounds_toArray, List.set_cons_zero, List.set_cons_succ]
      refine wpAnyH_take (i := 1) (v := ?v2_1) (by simp only [List.getElem?_toArray, List.getElem?_cons_succ, List.getElem?_cons_zero]; rfl) (by kernel_rfl) (by kernel_rfl) (by kernel_rfl) (by exact fun _ _ _ h => h) (Or.inl ⟨by rfl, ?h2_1⟩) hHeld ?_
      case h2_1 => (intro w' hSw; obtain ⟨m, rfl⟩ := hSw; go_simp <;> with_reducible rfl)
      try simp only [Act.put, List.setIfInBounds_toArray, List.set_cons_zero, List.set_cons_succ]
      refine wpAnyH_take (i := 2) (v := ?v3_2) (by simp only [List.getElem?_toArray, List.getElem?_cons_succ, List.getElem?_cons_zero]; rfl) (by kernel_rfl) (by kernel_rfl) (by kernel_rfl) (by exact fun _ _ _ h => h) (Or.inl ⟨by rfl, ?h3_2⟩) hHeld ?_
      case h3_2 => (intro w' hSw; obtain ⟨m, rfl⟩ := hSw; go_simp <;> with_reducible rfl)
      try simp only [Act.put, List.setIfInBounds_toArray, List.set_cons_zero, List.set_cons_succ]
      refine wpAnyH_take (i := 3) (v := ?v4_3) (by simp only [List.getElem?_toArray, List.getElem?_cons_succ, List.getElem?_cons_zero]; rfl) (by kernel_rfl) (by kernel_rfl) (by kernel_rfl) (by exact fun _ _ _ h => h) (Or.inl ⟨by rfl, ?h4_3⟩) hHeld ?_
      case h4_3 => (intro w' hSw; obtain ⟨m, rfl⟩ := hSw; go_simp <;> with_reducible rfl)
      try simp only [Act.put, List.setIfInBounds_toArray, List.set_cons_zero, List.set_cons_succ]
      refine wpAnyH_take (i := 4) (v := ?v5_4) (by simp only [List.getElem?_toArray, List.getElem?_cons_succ, List.getElem?_cons_zero]; rfl) (by kernel_rfl) (by kernel_rfl) (by kernel_rfl) (by exact fun _ _ _ h => h) (Or.inl ⟨by rfl, ?h5_4⟩) hHeld ?_
      case h5_4 => (intro w' hSw; obtain ⟨m, rfl⟩ := hSw; go_simp <;> with_reducible rfl)
      try simp only [Act.put, List.setIfInBounds_toArray, List.set_cons_zero, List.set_cons_succ]
      refine wpAnyH_take (i := 5) (v := ?v6_5) (by simp only [List.getElem?_toArray, List.getElem?_cons_succ, List.getElem?_cons_zero]; rfl) (by kernel_rfl) (by kernel_rfl) (by kernel_rfl) (by exact fun _ _ _ h => h) (Or.inl ⟨by rfl, ?h6_5⟩) hHeld ?_
      case h6_5 => (intro w' hSw; obtain ⟨m, rfl⟩ := hSw; go_simp <;> with_reducible rfl)
      try simp only [Act.put, List.setIfInBounds_toArray, List.set_cons_zero, List.set_cons_succ]
      refine wpAnyH_take (i := 6) (v := ?v7_6) (by simp only [List.getElem?_toArray, List.getElem?_cons_succ, List.getElem?_cons_zero]; rfl) (by kernel_rfl) (by kernel_rfl) (by kernel_rfl) (by exact fun _ _ _ h => h) (Or.inl ⟨by rfl, ?h7_6⟩) hHeld ?_
      case h7_6 => (intro w' hSw; obtain ⟨m, rfl⟩ := hSw; go_simp <;> with_reducible rfl)
      try simp only [Act.put, List.setIfInBounds_toArray, List.set_cons_zero, List.set_cons_succ]
      refine wpAnyH_take (i := 7) (v := ?v8_7) (by simp only [List.getElem?_toArray, List.getElem?_cons_succ, List.getElem?_cons_zero]; rfl) (by kernel_rfl) (by kernel_rfl) (by kernel_rfl) (by exact fun _ _ _ h => h) (Or.inl ⟨by rfl, ?h8_7⟩) hHeld ?_
      case h8_7 => (intro w' hSw; obtain ⟨m, rfl⟩ := hSw; go_simp <;> with_reducible rfl)
      try simp only [Act.put, List.setIfInBounds_toArray, List.set_cons_zero, List.set_cons_succ]
      refine wpAnyH_take (i := 8) (v := ?v9_8) (by simp only [List.getElem?_toArray, List.getElem?_cons_succ, List.getElem?_cons_zero]; rfl) (by kernel_rfl) (by kernel_rfl) (by kernel_rfl) (by exact fun _ _ _ h => h) (Or.inl ⟨by rfl, ?h9_8⟩) hHeld ?_
      case h9_8 => (intro w' hSw; obtain ⟨m, rfl⟩ := hSw; go_simp <;> with_reducible rfl)
      try simp only [Act.put, List.setIfInBounds_toArray, List.set_cons_zero, List.set_cons_succ]
      refine wpAnyH_take (i := 9) (v := ?v10_9) (by simp only [List.getElem?_toArray, List.getElem?_cons_succ, List.getElem?_cons_zero]; rfl) (by kernel_rfl) (by kernel_rfl) (by kernel_rfl) (by exact fun _ _ _ h => h) (Or.inl ⟨by rfl, ?h10_9⟩) hHeld ?_
      case h10_9 => (intro w' hSw; obtain ⟨m, rfl⟩ := hSw; go_simp <;> with_reducible rfl)
      try simp only [Act.put, List.setIfInBounds_toArray, List.set_cons_zero, List.set_cons_succ]
      refine wpAnyH_take (i := 10) (v := ?v11_10) (by simp only [List.getElem?_toArray, List.getElem?_cons_succ, List.getElem?_cons_zero]; rfl) (by kernel_rfl) (by kernel_rfl) (by kernel_rfl) (by exact fun _ _ _ h => h) (Or.inl ⟨by rfl, ?h11_10⟩) hHeld ?_
      case h11_10 => (intro w' hSw; obtain ⟨m, rfl⟩ := hSw; go_simp <;> with_reducible rfl)
      try simp only [Act.put, List.setIfInBounds_toArray, List.set_cons_zero, List.set_cons_succ]
      refine wpAnyH_take (i := 11) (v := ?v12_11) (by simp only [List.getElem?_toArray, List.getElem?_cons_succ, List.getElem?_cons_zero]; rfl) (by kernel_rfl) (by kernel_rfl) (by kernel_rfl) (by exact fun _ _ _ h => h) (Or.inl ⟨by rfl, ?h12_11⟩) hHeld ?_
      case h12_11 => (intro w' hSw; obtain ⟨m, rfl⟩ := hSw; go_simp <;> with_reducible rfl)
      try simp only [Act.put, List.setIfInBounds_toArray, List.set_cons_zero, List.set_cons_succ]
      refine wpAnyH_done (by kernel_rfl) ?_ _
      clear wk wk1
      go_wp2_with fail
      · rename_i hle
        have HN := Lib.hid (show ¬ riseB ps from fun hr => by have := hr.1 k (by unfold lbas; simp; omega); rw [HB.out.1, HB.out.2] at this; omega)
        clear hle
        go_ret
        exact ⟨.inr ⟨rfl, HN.out⟩, _ + 1, rfl⟩
      · rename_i hle
        have HN := Lib.hid (show ∀ j, (hj : j + 1 < (lbas ps).length) → j < k + 1 → (lbas ps)[j] < (lbas ps)[j + 1] from fun j hj hjk => by
          rcases Nat.lt_or_ge j k with g | g
          · exact HU.out j hj g
          · obtain rfl : j = k := by omega
            rw [HB.out.1, HB.out.2]; omega)
        clear hle
        go_roundw
        case rel => exact ⟨k + 1, _, .inl (by omega), by go_num, rfl, HN⟩
        case measure => simp [intOf]; omega
    · by_cases h0 : 0 < n
      · have t0 : decide ((0 : Int) < (n : Int)) = true := decide_eq_true (by omega)
        have t1 : decide (0 < n) = true := decide_eq_true h0
        have HN := Lib.hid (show riseB ps from ⟨fun j hj => HU.out j hj (by unfold lbas at hj; simp at hj; omega), by omega⟩)
        clear h0
        go_wp2_with fail
        go_ret
        exact ⟨.inl ⟨rfl, HN.out⟩, q, rfl⟩
      · have t0 : decide ((0 : Int) < (n : Int)) = false := decide_eq_false (by omega)
        have t1 : decide (0 < n) = false := decide_eq_false h0
        have HN := Lib.hid (show ¬ riseB ps from fun hr => h0 (by have := hr.2; omega))
        clear h0
        go_wp2_with fail
        go_ret
        exact ⟨.inr ⟨rfl, HN.out⟩, q, rfl⟩
end Go.Proofs.Ytchhnjadnacniaa.Cm
