/- The map of versions: a look, and a version pushed behind the others of its block; the laws at the operations. -/
import Derived.Test.YtchhnjadnacniaaCmD
import Derived.Test.YtchhnjadnacniaaHl
import Derived.Maps.AppendAt
namespace Go.Proofs.Ytchhnjadnacniaa.Cm
set_option linter.unusedSimpArgs false
set_option linter.unusedVariables false
open Go.RowKit Go.Maps
section
variable {w w' : World} {B gm bm N M : Nat} {last : Int} {D : DataW Value} {mv : Int → Value} {f : Int → List VerD}
theorem EMx.look (h : EMx w B gm bm N M last D mv f) {k : Int} (hk : 0 ≤ k ∧ k < 30) : (Instr.lookup 100 (.map (some bm)) (.int .i64 k) false).run Try.prog w = .ok (mv k) w := by
  have hwf : (Lit.int .i64 k).wf = true := by simp [Lit.wf, IntKind.min, IntKind.max, IntKind.bits, IntKind.signed]; omega
  obtain ⟨v, ps, hr, hv⟩ := h.mp.lookup lawI Try.underlying100 (zeroVs w) (zd := noneV) (zp := []) rfl (keyI hwf)
  rw [h.at'] at hv
  unfold RV at hv
  simp at hv
  rw [hr, hv.1]
/-- what a step of the map of versions leaves. -/
def OtherO : Obj → Prop
  | .map _ _ => False
  | .cells _ t _ => t ≠ 102 ∧ t ≠ 98
  | _ => True
/-- all but the map of versions is as it was; nothing below B was written. -/
structure KeepO (B : Nat) (w w' : World) : Prop where
  bel : Below B w w'
  obs : ∀ (b : Nat) (ob : Obj), w.heap[b]? = some ob → OtherO ob → w'.heap[b]? = some ob
theorem KeepO.of_below {B : Nat} (hB : B ≤ w.heap.size) (h : Below w.heap.size w w') : KeepO B w w' := ⟨h.mono hB, fun b ob hb _ => (h.block b (Array.getElem?_eq_some_iff.1 hb).1).trans hb⟩
theorem KeepO.trans {B : Nat} {a b c : World} (h : KeepO B a b) (k : KeepO B b c) : KeepO B a c := ⟨h.bel.trans k.bel, fun i ob hi ho => k.obs i ob (h.obs i ob hi ho) ho⟩
theorem KeepO.refl (B : Nat) (w : World) : KeepO B w w := ⟨Below.refl _ _, fun _ _ h _ => h⟩
theorem own_obj {w : World} {B e size n g : Nat} {v : Value} {xs : List Value} (h : w.ownsRow B e size v n xs) (hg : v.ownBlock = some g) : B ≤ g ∧ ∃ cs fr, w.heap[g]? = some (.cells cs e fr) := by
  rcases h.2 with ⟨rfl, _⟩ | ⟨g', cap, cur, rfl, hb, hh, _⟩
  · simp [Value.ownBlock] at hg
  · have : g' = g := by simpa [Value.ownBlock] using hg
    subst this
    exact ⟨hb, _, _, hh⟩
theorem EMx.push (h : EMx w B gm bm N M last D mv f) {k : Int} (hk : 0 ≤ k ∧ k < 30) {v' : Value} {w3 : World} (vd : VerD)
    (ho : w3.ownsRow B 98 2 v' ((f k).length + 1) ((f k).flatMap VerD.cells ++ vd.cells)) (hg : w.grownBy w3 (mv k).ownBlock) (hv : v'.ownBlock = (mv k).ownBlock ∨ v'.ownBlock = some w.heap.size)
    (hd : ∃ bs, w.ownsRow B 5 1 vd.d 40 bs ∧ ∀ u ∈ bs, u.oneCell' = true) (hN : N < maxLen) :
    ∃ w4, (Instr.mapUpdate 100 (.map (some bm)) (.int .i64 k) v').run Try.prog w3 = .ok () w4 ∧
      EMx w4 B gm bm (N + 1) (M + 1) last (D.put (.int .i64 k) (.held v')) (fun j => if j = k then v' else mv j) (fun j => if j = k then f k ++ [vd] else f j) ∧ KeepO B w w4 := by
  have hwf : (Lit.int .i64 k).wf = true := by simp [Lit.wf, IntKind.min, IntKind.max, IntKind.bits, IntKind.signed]; omega
  have hmb : ∃ es cl, w.heap[bm]? = some (.map es cl) := by obtain ⟨es, cl, hb, _⟩ := h.mp; exact ⟨es, cl, hb⟩
  obtain ⟨es, cl, hmb⟩ := hmb
  have hml : bm < w.heap.size := (Array.getElem?_eq_some_iff.1 hmb).1
  have hgl : gm < w.heap.size := h.bx.lt
  have obj : ∀ j g, (mv j).ownBlock = some g → B ≤ g ∧ g < w.heap.size ∧ ∃ cs fr, w.heap[g]? = some (.cells cs 98 fr) := fun j g hg => by
    obtain ⟨h1, cs, fr, h2⟩ := own_obj (h.row j) hg
    exact ⟨h1, (Array.getElem?_eq_some_iff.1 h2).1, cs, fr, h2⟩
  have nmb : ∀ j, (mv j).ownBlock ≠ some bm := fun j e => by
    obtain ⟨_, _, cs, fr, h2⟩ := obj j bm e
    rw [hmb] at h2; cases h2
  have ngm : ∀ j, (mv j).ownBlock ≠ some gm := fun j e => by
    obtain ⟨_, _, cs, fr, h2⟩ := obj j gm e
    have := h.bx
    unfold Bk at this
    rw [this] at h2
    injection h2 with h2
    injection h2 with _ h2 _
    exact absurd h2 (by decide)
  have kept3 : ∀ (b : Nat) (ob : Obj), w.heap[b]? = some ob → (∀ cs fr, ob ≠ .cells cs 98 fr) → w3.heap[b]? = some ob := fun b ob hb hn => by
    rw [hg.block b (Array.getElem?_eq_some_iff.1 hb).1 (fun e => by
      obtain ⟨_, _, cs, fr, h2⟩ := obj k b e.symm
      rw [hb] at h2
      injection h2 with h2
      exact hn _ _ h2)]
    exact hb
  have mp3 : w3.ownsMap Try.prog 3 RV bm N D := h.mp.kept hg (fun e => nmb k e.symm)
  obtain ⟨w4, hrun, mp4, hg4⟩ := mp3.update lawI Try.underlying100 hN (keyI hwf) (val := v') (d := .held v') (ps := []) rfl
  have hs3 := hg.size
  have hs4 := hg4.size
  have kept4 : ∀ (b : Nat) (ob : Obj), w3.heap[b]? = some ob → b ≠ bm → w4.heap[b]? = some ob := fun b ob hb hn => by
    rw [hg4.block b (Array.getElem?_eq_some_iff.1 hb).1 (fun e => hn (Option.some.inj e))]
    exact hb
  have nvb : v'.ownBlock ≠ some bm := fun e => by
    rcases hv with hv | hv
    · exact nmb k (hv.symm.trans e)
    · rw [hv] at e; injection e with e; omega
  refine ⟨w4, hrun, ⟨?_, mp4, fun j => ?_, fun j => ?_, fun i j hij => ?_, fun j v hvj => ?_, fun j => ?_, h.b1, h.b2⟩, ⟨?_, fun b ob hb hot => ?_⟩⟩
  · have e : gm ≠ bm := fun e => by have := h.bx; unfold Bk at this; rw [e, hmb] at this; cases this
    exact kept4 _ _ (kept3 _ _ h.bx (fun cs fr e => by injection e with _ e _; exact absurd e (by decide))) e
  · by_cases e : j = k
    · subst e
      rw [if_pos rfl]
      exact atKey_put_same h.mp.isMap (by simp [WideAt.IsKeyLit]) _ _
    · rw [if_neg e, atKey_put_other (fun e2 => by injection e2 with _ e2; exact e e2)]
      exact h.at' j
  · by_cases e : j = k
    · subst e
      rw [if_pos rfl, if_pos rfl, List.length_append, List.flatMap_append]
      have := ho.kept hg4 (.inr nvb)
      simpa using this
    · rw [if_neg e, if_neg e]
      have h1 := (h.row j).kept hg (h.dj j k e)
      exact h1.kept hg4 (.inr (nmb j))
  · have key : ∀ j, j ≠ k → (mv j).ownBlock = none ∨ (mv j).ownBlock ≠ v'.ownBlock := fun j hj => by
      rcases hv with hv | hv
      · rw [hv]; exact h.dj j k hj
      · by_cases e : (mv j).ownBlock = none
        · exact .inl e
        · right
          rw [hv]
          intro e2
          have := (obj j _ e2).2.1
          omega
    by_cases e1 : i = k <;> by_cases e2 : j = k
    · exact absurd (e1.trans e2.symm) hij
    · rw [if_pos e1, if_neg e2]
      rcases key j e2 with g | g
      · by_cases e3 : v'.ownBlock = none
        · exact .inl e3
        · right; rw [g]; exact e3
      · exact .inr (Ne.symm g)
    · rw [if_neg e1, if_pos e2]; exact key i e1
    · rw [if_neg e1, if_neg e2]; exact h.dj i j hij
  · have hd2 : ∃ bs, w.ownsRow B 5 1 v.d 40 bs ∧ ∀ u ∈ bs, u.oneCell' = true := by
      by_cases e : j = k
      · rw [if_pos e] at hvj
        rcases List.mem_append.1 hvj with g | g
        · exact h.dat k v g
        · obtain rfl : v = vd := by simpa using g
          exact hd
      · rw [if_neg e] at hvj; exact h.dat j v hvj
    obtain ⟨bs, hb, h1⟩ := hd2
    refine ⟨bs, ?_, h1⟩
    rcases hb.2 with g0 | ⟨g, cap, cur, e, hge, hh, hr⟩
    · exact ⟨hb.1, .inl g0⟩
    · refine ⟨hb.1, .inr ⟨g, cap, cur, e, hge, ?_, hr⟩⟩
      refine kept4 _ _ (kept3 _ _ hh (fun cs fr e => by injection e with _ e _; exact absurd e (by decide))) (fun e => ?_)
      rw [e, hmb] at hh; cases hh
  · have h1 := h.lens j
    have h2 := h.lens k
    by_cases e : j = k
    · rw [if_pos e, List.length_append]; simp; omega
    · rw [if_neg e]; omega
  · refine ((Below.refl B w).grown hg (Nat.le_trans h.b2 (Nat.le_of_lt hml)) (fun g e => (obj k g e).1)).grown hg4 (by have := h.b2; omega) (fun g e => by injection e with e; rw [← e]; exact h.b2)
  · refine kept4 _ _ (kept3 _ _ hb (fun cs fr e => by subst e; exact hot.2 rfl)) (fun e => ?_)
    rw [e, hmb] at hb
    injection hb with hb
    subst hb
    exact hot
end
theorem infoVer : (Try.prog.info? 98).map (fun i => (i.size, i.bytes, i.zero.map (·.cells.size))) = some (2, 32, some 2) := by kernel_rfl
theorem wp_push {o : Oper} {a : Act} {K : Act → World → Prop} {Q : Exit → Act → World → Prop} {w : World} (s x : Operand) (ho : o.op = .call { callee := .builtin .append, args := #[s, x], argTypes := #[99, 99] })
    (B : Nat) (v : Value) (n : Nat) (xs : List Value) (hs : a.eval s = v) (hown : w.ownsRow B 98 2 v n xs)
    (g : Nat) (u1 u2 : Value) (hx : a.eval x = .slice (some ⟨g, 0, none⟩) 1 1) (hg : Bk w g 98 [u1, u2]) (h1 : ∀ u ∈ [u1, u2], u.oneCell' = true) (hn : n ≤ 1000000) (hB : B ≤ w.heap.size)
    (h : ∀ v' w', w'.ownsRow B 98 2 v' (n + 1) (xs ++ [u1, u2]) → w.grownBy w' v.ownBlock → (v'.ownBlock = v.ownBlock ∨ v'.ownBlock = some w.heap.size) → K (a.put o.dst v') w') : o.wp Try.prog a w K Q := by
  have hi0 := infoVer
  obtain ⟨i, hi, e⟩ := Option.map_eq_some_iff.1 hi0
  injection e with e1 e
  injection e with e2 e3
  obtain ⟨z, hz, hzs⟩ := Option.map_eq_some_iff.1 e3
  obtain ⟨v', w', hrun, h2, h3, _, h5⟩ := run_append_own_at (P := Try.prog) w B 99 o.type 98 i z 2 32 Try.underlying99 hi hz e1 e2 hzs (by omega) v n xs hown ⟨g, 0, none⟩ 1 1 [u1, u2] rfl
    (fun j u hu => by
      obtain ⟨hj, rfl⟩ := List.getElem?_eq_some_iff.1 hu
      have e : (⟨g, 0, none⟩ : Addr).add j = ⟨g, j, none⟩ := by
        unfold Addr.add
        rcases Nat.eq_zero_or_pos j with h0 | h0
        · subst h0; rfl
        · simp [Nat.ne_of_gt h0]
      rw [e]; exact hg.cell hj) h1 (by unfold maxLen; omega) (by omega) hB
  unfold Oper.wp execOp
  simp only [ho, resolve, invoke, builtin, Sem.run_bind, Sem.run_pure, Result.andThen_ok, List.map_toArray, List.map_cons, List.map_nil, hs, hx, hrun]
  exact h v' w' h2 h3 h5
theorem wp_mapUp {o : Oper} {a : Act} {K : Act → World → Prop} {Q : Exit → Act → World → Prop} {w w' : World} (m k v : Operand) (t : TypeId) (ho : o.op = .mapUpdate t m k v) {mv kv vv : Value} (hm : a.eval m = mv) (hk : a.eval k = kv) (hv : a.eval v = vv)
    (hrun : (Instr.mapUpdate t mv kv vv).run Try.prog w = .ok () w') (h : K (a.put o.dst undef) w') : o.wp Try.prog a w K Q := by
  unfold Oper.wp
  simp [execOp, ho, hm, hk, hv, hrun, Result.andThen]
  exact h
theorem if_wanted {ops : Array Oper} {o : Oper} {t : Array Value} {A E : Prop} (hgd : o.guard = none) (h : A) : if Region.wanted o (yielded ops t) = true then A else E := by
  have hw : Region.wanted o (yielded ops t) = true := by simp [Region.wanted, hgd]
  rw [if_pos hw]
  exact h
end Go.Proofs.Ytchhnjadnacniaa.Cm
