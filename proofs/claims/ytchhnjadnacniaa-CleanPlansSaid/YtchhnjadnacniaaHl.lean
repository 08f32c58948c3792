/- A region that draws its order and whose last operation writes what the others read: a condition S on the world that holds till then. -/
import Derived.Test.YtchhnjadnacniaaHeld
namespace Go.Proofs.Ytchhnjadnacniaa
set_option linter.unusedVariables false
section
variable {P : Program} {ops : Array Oper} {Q : Exit → Act → World → Prop} {md : Region.Mode} {S : World → Prop} {last : Nat}
/-- whatever order is picked, S holds behind each operation but the one with the number 'last'. -/
def anyL (P : Program) (md : Region.Mode) (ops : Array Oper) (Q : Exit → Act → World → Prop) (S : World → Prop) (last : Nat) : Nat → Array Bool → Act → World → Prop
  | 0, l, a, w => Region.ready md ops l = [] ∧ Q .normal a w
  | n + 1, l, a, w => (Region.ready md ops l = [] → Q .normal a w) ∧
      ∀ i ∈ Region.ready md ops l, wpOp P ops Q i (fun a' w' => (i ≠ last → S w') ∧ anyL P md ops Q S last n (l.setIfInBounds i true) a' w') a w
theorem anyL_any : ∀ (n : Nat) (l : Array Bool) (a : Act) (w : World), anyL P md ops Q S last n l a w → wpAny P md ops Q n l a w
  | 0, _, _, _, h => h
  | n + 1, _, _, _, h => ⟨h.1, fun i hi => wpOp_mono (fun a' w' k => anyL_any n _ a' w' k.2) (h.2 i hi)⟩
/-- the last one waits for number i. -/
def waits (md : Region.Mode) (ops : Array Oper) (last i : Nat) : Bool := match ops[last]? with
  | some o => o.after.any fun e => Region.binds md e && e.on == i
  | none => false
theorem waits_ready {i j : Nat} {l : Array Bool} (hw : waits md ops last i = true) (hi : i ∈ Region.ready md ops l) (hj : j ∈ Region.ready md ops l) : j ≠ last := by
  rintro rfl
  obtain ⟨_, o, ho, hall⟩ := mem_ready.1 hj
  unfold waits at hw
  rw [ho] at hw
  obtain ⟨k, hk, he⟩ := Array.any_eq_true.1 hw
  rw [Bool.and_eq_true, beq_iff_eq] at he
  have h1 := hall _ (Array.getElem_mem hk) he.1
  have h0 := (mem_ready.1 hi).1
  rw [he.2] at h1
  rcases Nat.lt_or_ge i l.size with g | g
  · simp [g] at h0 h1
    rw [h0] at h1; cases h1
  · simp [Array.getElem?_eq_none g] at h1
theorem anyL_first {i : Nat} {oi : Oper} {v : Value} (hi : ops[i]? = some oi) (hsel : ∀ (j : Nat) (o : Oper) cs b, ops[j]? = some o → o.op ≠ .select cs b)
    (hQ : ∀ c a w, Q (.panic c) (a.put oi.dst v) w → Q (.panic c) a w) (hw : waits md ops last i = true) :
    ∀ (n : Nat) (l : Array Bool) (a : Act) (w : World),
      (∀ j oj, ops[j]? = some oj → j ≠ i → l.getD j true = false → (∀ e ∈ oj.after, Region.binds md e = true → e.on ≠ i) → oi.apart ops oj = true) →
      i ∈ Region.ready md ops l → YieldsIf P ops S oi v a → S w →
      anyL P md ops Q S last n (l.setIfInBounds i true) (a.put oi.dst v) w → anyL P md ops Q S last (n + 1) l a w := by
  intro n
  induction n with
  | zero =>
    intro l a w _ hr hy hS H
    refine ⟨(fun h => by rw [h] at hr; cases hr), fun j hj => ?_⟩
    rcases Decidable.em (j = i) with e | e
    · subst e; exact hy.wpOp hi hS ⟨fun _ => hS, H⟩
    · have := ready_mono hj e
      rw [H.1] at this; cases this
  | succ n ih =>
    intro l a w hf hr hy hS H
    refine ⟨(fun h => by rw [h] at hr; cases hr), fun j hj => ?_⟩
    rcases Decidable.em (j = i) with e | e
    · subst e; exact hy.wpOp hi hS ⟨fun _ => hS, H⟩
    · obtain ⟨hu, oj, hoj, hall⟩ := mem_ready.1 hj
      have hno : ∀ x ∈ oj.after, Region.binds md x = true → x.on ≠ i := fun x hx hb he => by
        have h1 := hall x hx hb
        have h0 := (mem_ready.1 hr).1
        rw [he] at h1
        rcases Nat.lt_or_ge i l.size with g | g
        · simp [g] at h0 h1
          rw [h0] at h1; cases h1
        · simp [Array.getElem?_eq_none g] at h1
      have hl := waits_ready hw hr hj
      have h2 := wpOp_putIf hoj (hf j oj hoj e hu hno) (fun cs b => hsel i oi cs b hi) (fun cs b => hsel j oj cs b hoj) hQ hy (H.2 j (ready_mono hj e))
      refine wpOp_mono (fun a' w' k => ⟨fun _ => k.2.1 hl, ih _ a' w' (fun m om hm hmi hun hn => hf m om hm hmi ?_ hn) (ready_mono hr (Ne.symm e)) k.1 (k.2.1 hl) ?_⟩) h2
      · rcases Decidable.em (j = m) with g | g
        · subst g; exact hu
        · rw [getD_set_ne true g] at hun; exact hun
      · rw [Array.setIfInBounds_comm _ _ e]; exact k.2.2
theorem anyL_take {i : Nat} {oi : Oper} {v : Value} {n : Nat} {l : Array Bool} {a : Act} {w : World} (hi : ops[i]? = some oi)
    (hs : Region.noSelect ops = true) (hf : Region.free md ops l i = true) (hr : (Region.ready md ops l).contains i = true) (hw : waits md ops last i = true)
    (hQ : ∀ c a w, Q (.panic c) (a.put oi.dst v) w → Q (.panic c) a w) (hy : YieldsIf P ops S oi v a) (hS : S w)
    (h : anyL P md ops Q S last n (l.setIfInBounds i true) (a.put oi.dst v) w) : anyL P md ops Q S last (n + 1) l a w :=
  anyL_first hi (Region.noSelect_spec hs) hQ hw n l a w (Region.free_spec hi hf) (by simpa using hr) hy hS h
/-- the only one that may come up. -/
theorem anyL_one {i : Nat} {o : Oper} {n : Nat} {l : Array Bool} {a : Act} {w : World} (hr : Region.ready md ops l = [i]) (ho : ops[i]? = some o)
    (h : ∀ K : Act → World → Prop, Shut (∀ a w, (i ≠ last → S w) → anyL P md ops Q S last n (l.setIfInBounds i true) a w → K a w) → if Region.wanted o (yielded ops a.tmps) = true then Oper.wp P o a w K Q else K (a.put o.dst undef) w) : anyL P md ops Q S last (n + 1) l a w :=
  ⟨(fun h0 => by rw [hr] at h0; cases h0), fun j hj => by
    rw [hr] at hj
    obtain rfl : j = i := by simpa using hj
    exact wpOp_step ho fun K hK => h K fun a w h1 h2 => hK a w ⟨h1, h2⟩⟩
theorem anyL_done {l : Array Bool} {a : Act} {w : World} (hr : Region.ready md ops l = []) (h : Q .normal a w) : ∀ n, anyL P md ops Q S last n l a w
  | 0 => ⟨hr, h⟩
  | _ + 1 => ⟨fun _ => h, by rw [hr]; simp⟩
theorem anyL_start (S : World → Prop) (last : Nat) {id : Nat} {a : Act} {w : World} (hm : P.follows .mixedOrders = true) (hS : S w.drew)
    (h : S w.drew → anyL P .any ops Q S last ops.size (Array.replicate ops.size false) a w.drew) : (Code.region id ops true).wp P Q a w := wp_region_any hm (anyL_any _ _ _ _ (h hS))
end
end Go.Proofs.Ytchhnjadnacniaa
