/- The reference's Live is the program's: versions of a block rise in time. -/
import Derived.Test.YtchhnjadnacniaaCmT
namespace Go.Proofs.Ytchhnjadnacniaa.Cm
set_option linter.unusedSimpArgs false
set_option linter.unusedVariables false
open Go.RowKit Rk
theorem getT_cons (a m : Int) (l : List Int) : getT (a :: l) m = match l.reverse.find? (fun t => decide (t ≤ m)) with
    | some x => x
    | none => if a ≤ m then a else 0 := by
  unfold getT
  rw [List.reverse_cons, List.find?_append]
  cases l.reverse.find? (fun t => decide (t ≤ m)) with
  | some x => rfl
  | none => by_cases h : a ≤ m <;> simp [h]
theorem liveX_getT {h : Int} {c : CpD} (hc : 1 ≤ c.t) : ∀ (L : List (Int × Int)), L.Pairwise (fun a b => a.1 ≤ b.1) → ((L.filter (fun v => decide (v.1 = c.lba))).map (·.2)).Pairwise (· < ·) →
    liveX h c L = decide (getT ((L.filter (fun v => decide (v.1 = c.lba))).map (·.2)) (max c.t h) = c.t) := by
  intro L
  induction L with
  | nil => intro _ _; symm; simp only [liveX, List.filter_nil, List.map_nil]; exact decide_eq_false (by show (0 : Int) ≠ c.t; omega)
  | cons v L ih =>
    intro hs hp
    obtain ⟨hv, hs'⟩ := List.pairwise_cons.1 hs
    simp only [liveX]
    by_cases h1 : v.1 = c.lba
    · have hf : (v :: L).filter (fun v => decide (v.1 = c.lba)) = v :: L.filter (fun v => decide (v.1 = c.lba)) := by rw [List.filter_cons, if_pos (by simpa using h1)]
      rw [hf, List.map_cons] at hp ⊢
      obtain ⟨hlt, hp'⟩ := List.pairwise_cons.1 hp
      have ih' := ih hs' hp'
      obtain ⟨l, hl⟩ : ∃ l, (L.filter (fun v => decide (v.1 = c.lba))).map (·.2) = l := ⟨_, rfl⟩
      rw [hl] at hlt hp' ih' ⊢
      rw [getT_cons]
      by_cases h2 : v.2 = c.t
      · rw [if_pos ⟨h1, h2⟩]
        cases hfd : l.reverse.find? (fun t => decide (t ≤ max c.t h)) with
        | some x =>
          have hx := List.mem_of_find?_eq_some hfd
          have hxm := List.find?_some hfd
          simp at hx hxm
          have hxt := hlt x hx
          rw [decide_eq_false (by show x ≠ c.t; omega)]
          -- the next one is there and not above the horizon
          cases L with
          | nil => simp at hl; subst hl; simp at hx
          | cons u L2 =>
            have hu : u.1 = c.lba := by
              rcases Decidable.em (u.1 = c.lba) with e | e
              · exact e
              · exfalso
                have hgt : c.lba < u.1 := by have := hv u (by simp); omega
                have : (u :: L2).filter (fun v => decide (v.1 = c.lba)) = [] := by
                  rw [List.filter_eq_nil_iff]
                  intro y hy
                  have hle : u.1 ≤ y.1 := by
                    rcases List.mem_cons.1 hy with rfl | hy
                    · omega
                    · exact (List.pairwise_cons.1 hs').1 y hy
                  simp; omega
                rw [this] at hl
                simp at hl
                subst hl; simp at hx
            have hfu : (u :: L2).filter (fun v => decide (v.1 = c.lba)) = u :: L2.filter (fun v => decide (v.1 = c.lba)) := by rw [List.filter_cons, if_pos (by simpa using hu)]
            rw [hfu, List.map_cons] at hl
            have hux : u.2 ≤ x := by
              rw [← hl] at hx hp'
              rcases List.mem_cons.1 hx with e | e
              · omega
              · exact Int.le_of_lt ((List.pairwise_cons.1 hp').1 x e)
            have hut : v.2 < u.2 := hlt u.2 (by rw [← hl]; simp)
            simp only [laterX]
            rw [decide_eq_true hu, decide_eq_true (by omega : u.2 ≤ h)]
            rfl
        | none =>
          simp only []
          rw [if_pos (by omega), decide_eq_true h2]
          cases L with
          | nil => rfl
          | cons u L2 =>
            simp only [laterX]
            by_cases hu : u.1 = c.lba
            · have hfu : (u :: L2).filter (fun v => decide (v.1 = c.lba)) = u :: L2.filter (fun v => decide (v.1 = c.lba)) := by rw [List.filter_cons, if_pos (by simpa using hu)]
              rw [hfu, List.map_cons] at hl
              have hno := List.find?_eq_none.1 hfd u.2 (by rw [← hl]; simp)
              simp at hno
              rw [decide_eq_false (by omega : ¬ u.2 ≤ h)]
              simp
            · rw [decide_eq_false hu]; rfl
      · rw [if_neg (fun q => h2 q.2), ih']
        unfold getT
        cases hfd : l.reverse.find? (fun t => decide (t ≤ max c.t h)) with
        | some x => rfl
        | none =>
          simp only [Option.getD_none]
          rw [decide_eq_false (by omega : ¬ (0 : Int) = c.t)]
          symm
          apply decide_eq_false
          split <;> omega
    · have hf : (v :: L).filter (fun v => decide (v.1 = c.lba)) = L.filter (fun v => decide (v.1 = c.lba)) := by rw [List.filter_cons, if_neg (by simpa using h1)]
      rw [hf] at hp ⊢
      rw [if_neg (fun q => h1 q.1)]
      exact ih hs' hp
/-- what holds of the times behind transactions. -/
structure TInv (s : Int × (Int → List Int)) : Prop where
  nn : 0 ≤ s.1
  up : ∀ k, (s.2 k).Pairwise (· < ·)
  bd : ∀ k, ∀ t ∈ s.2 k, 1 ≤ t ∧ t ≤ s.1
  out : ∀ k, ¬ (0 ≤ k ∧ k < 30) → s.2 k = []
theorem foldT_inv (ts : List TxD) : TInv (foldT ts) := by
  have key : ∀ (ts : List TxD) (s : Int × (Int → List Int)), TInv s → TInv (ts.foldl (fun s x => (nextL s.1 x.t x.ps, nextG s.1 x.t x.ps s.2)) s) := fun ts => by
    induction ts with
    | nil => intro s h; exact h
    | cons x ts ih =>
      intro s h
      rw [List.foldl_cons]
      refine ih _ ?_
      by_cases ho : okTx s.1 x.t x.ps
      · have e1 : nextL s.1 x.t x.ps = x.t := if_pos ho
        have e2 : nextG s.1 x.t x.ps s.2 = fun j => s.2 j ++ if j ∈ lbas x.ps then [x.t] else [] := if_pos ho
        rw [e1, e2]
        have h1 := ho.1.1
        have h0 := h.nn
        refine ⟨by show 0 ≤ x.t; omega, fun k => ?_, fun k t ht => ?_, fun k hk => ?_⟩
        · show (s.2 k ++ if k ∈ lbas x.ps then [x.t] else []).Pairwise (· < ·)
          rw [List.pairwise_append]
          refine ⟨h.up k, by split <;> simp, fun a ha b hb => ?_⟩
          have := (h.bd k a ha).2
          split at hb
          · obtain rfl : b = x.t := by simpa using hb
            omega
          · simp at hb
        · show 1 ≤ t ∧ t ≤ x.t
          rcases List.mem_append.1 ht with q | q
          · have := h.bd k t q; omega
          · split at q
            · obtain rfl : t = x.t := by simpa using q
              omega
            · simp at q
        · show s.2 k ++ (if k ∈ lbas x.ps then [x.t] else []) = []
          rw [h.out k hk, if_neg (fun hm => hk (by
            obtain ⟨p, hp, e⟩ := List.mem_map.1 hm
            have := ho.2.2.1 p hp
            omega))]
          rfl
      · rw [nextL_no ho, nextG_no _ ho]; exact h
  exact key ts _ ⟨Int.le_refl _, fun _ => .nil, fun k t ht => by simp at ht, fun _ _ => rfl⟩
theorem liveR_liveB {g : Int → List Int} {L : List (Int × Int)} (h : RelG L g) (hu : ∀ k, (g k).Pairwise (· < ·)) (ho : ∀ k, ¬ (0 ≤ k ∧ k < 30) → g k = []) (hz : Int) (c : CpD) : liveR hz L c = liveB g hz c := by
  unfold liveR liveB
  by_cases hc : 1 ≤ c.t
  · rw [liveX_getT hc L h.up (by rw [h.at']; exact hu _), h.at']
    unfold getV
    by_cases hl : 0 ≤ c.lba ∧ c.lba < 30
    · rw [if_pos hl, decide_eq_true hc]
      simp [hc]
    · rw [if_neg hl, ho _ hl, decide_eq_true hc]
      simp [hc]
      rfl
  · rw [decide_eq_false hc]
    symm
    simp [hc]
end Go.Proofs.Ytchhnjadnacniaa.Cm
