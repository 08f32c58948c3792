/- CleanKeeps: however long it is cleaned, each live copy is there as often as before, none is made up, and those that are not live are fewer, or as many: the law returns true, for every input. -/
import Derived.Test.YtchhnjadnacniaaCmS
namespace Go.Proofs.Ytchhnjadnacniaa.Cm
set_option linter.unusedSimpArgs false
set_option linter.unusedVariables false
open Go.RowKit Rk

def eqC (c x : CpD) : Bool := decide (x.lba = c.lba) && decide (x.t = c.t)
def cnt (c : CpD) (l : List CpD) : Nat := l.countP (eqC c)
theorem cnt_app (c : CpD) (a l : List CpD) : cnt c (a ++ l) = cnt c a + cnt c l := List.countP_append ..
theorem cnt_nil (c : CpD) : cnt c [] = 0 := rfl
def sumC (f : List CpD → Nat) (C : List (List CpD)) : Nat := (C.map f).sum
theorem sumC_set (f : List CpD → Nat) {C : List (List CpD)} {k : Nat} (hk : k < C.length) (r : List CpD) : sumC f (C.set k r) + f C[k] = sumC f C + f r := by
  unfold sumC
  induction C generalizing k with
  | nil => simp at hk
  | cons a C ih =>
    cases k with
    | zero => simp; omega
    | succ k =>
      have := ih (k := k) (by simpa using hk)
      simp only [List.set_cons_succ, List.map_cons, List.sum_cons, List.getElem_cons_succ]
      omega
theorem cnt_flat (c : CpD) (C : List (List CpD)) : cnt c C.flatten = sumC (cnt c) C := by
  unfold sumC
  induction C with
  | nil => rfl
  | cons a C ih => rw [List.flatten_cons, cnt_app, ih]; simp
theorem len_flat (C : List (List CpD)) : C.flatten.length = sumC List.length C := by
  unfold sumC
  induction C with
  | nil => rfl
  | cons a C ih => rw [List.flatten_cons, List.length_append, ih]; simp
theorem eqC_live {g : Int → List Int} {hz : Int} {c x : CpD} (h : eqC c x = true) : liveB g hz x = liveB g hz c := by
  unfold eqC at h
  simp at h
  unfold liveB
  rw [h.1, h.2]
theorem cnt_live (g : Int → List Int) (hz : Int) (c : CpD) (l : List CpD) : cnt c (liveL g hz l) = if liveB g hz c = true then cnt c l else 0 := by
  unfold cnt liveL
  rw [List.countP_filter]
  by_cases h : liveB g hz c = true
  · rw [if_pos h]
    refine List.countP_congr fun x _ => ?_
    simp only [Bool.and_eq_true]
    exact ⟨fun q => q.1, fun q => ⟨q, by rw [eqC_live q]; exact h⟩⟩
  · rw [if_neg h, List.countP_eq_zero]
    intro x _ q
    simp only [Bool.and_eq_true] at q
    rw [eqC_live q.1] at q
    exact h q.2
/-- what cleaning keeps. -/
structure KeepC (g : Int → List Int) (hz size : Int) (C D : List (List CpD)) : Prop where
  len : D.length = C.length
  fit : ∀ j, (hj : j < C.length) → (C[j].length : Int) ≤ size → ((D[j]'(by omega)).length : Int) ≤ size
  le : ∀ c, cnt c D.flatten ≤ cnt c C.flatten
  live : ∀ c, liveB g hz c = true → cnt c C.flatten = cnt c D.flatten
  tot : D.flatten.length ≤ C.flatten.length
theorem KeepC.refl (g : Int → List Int) (hz size : Int) (C : List (List CpD)) : KeepC g hz size C C := ⟨rfl, fun _ _ h => h, fun _ => Nat.le_refl _, fun _ _ => rfl, Nat.le_refl _⟩
theorem KeepC.trans {g : Int → List Int} {hz size : Int} {C D E : List (List CpD)} (h : KeepC g hz size C D) (k : KeepC g hz size D E) : KeepC g hz size C E :=
  ⟨k.len.trans h.len, fun j hj q => k.fit j (by rw [h.len]; exact hj) (h.fit j hj q), fun c => Nat.le_trans (k.le c) (h.le c), fun c q => (h.live c q).trans (k.live c q), Nat.le_trans k.tot h.tot⟩
theorem next_inv {g : Int → List Int} {hz size now : Int} {C : List (List CpD)} {p : Nat} {mv : List CpD} (h : nextC g hz size now C = some (p, mv)) : 1 ≤ size ∧ ∃ cs, C[p]? = some cs ∧ mv = liveL g hz cs := by
  unfold nextC at h
  split at h
  · cases h
  · rename_i hb
    split at h
    · cases h
    · split at h
      · cases h
      · rename_i i _
        cases hc : C[i]? with
        | none => rw [hc] at h; cases h
        | some cs =>
          rw [hc] at h
          injection h with h
          injection h with h1 h2
          subst h1
          refine ⟨?_, cs, hc, h2.symm⟩
          rcases Int.lt_or_le size 1 with q | q
          · exact absurd (.inl q) hb
          · exact q
theorem keep_step {g : Int → List Int} {hz size now : Int} {C D : List (List CpD)} (h : stepC g hz size now C = some D) : KeepC g hz size C D := by
  unfold stepC at h
  cases hn : nextC g hz size now C with
  | none => rw [hn] at h; cases h
  | some pm =>
    obtain ⟨p, mv⟩ := pm
    rw [hn] at h
    simp only [] at h
    cases hpl : placeC size C p mv with
    | none => rw [hpl] at h; cases h
    | some i =>
      rw [hpl] at h
      injection h with h
      obtain ⟨h1, cs, hp, hmv⟩ := next_inv hn
      obtain ⟨hpl', hpc⟩ := List.getElem?_eq_some_iff.1 hp
      have hm := List.mem_of_find?_eq_some hpl
      have hf := List.find?_some hpl
      have hi : i < C.length := by simpa using hm
      unfold fitC at hf
      simp only [Bool.and_eq_true, decide_eq_true_eq] at hf
      obtain ⟨hne, hfit⟩ := hf
      have hy : C.getD i [] = C[i] := by rw [List.getD_eq_getElem?_getD, List.getElem?_eq_getElem hi]; rfl
      rw [hy] at h hfit
      have key : ∀ f : List CpD → Nat, (∀ a l, f (a ++ l) = f a + f l) → f [] = 0 → sumC f D + f cs = sumC f C + f mv := fun f fa f0 => by
        have a := sumC_set f (C := C.set i (C[i] ++ mv)) (k := p) (by simpa using hpl') []
        rw [List.getElem_set_ne hne, hpc, f0, h] at a
        have c := sumC_set f hi (C[i] ++ mv)
        rw [fa] at c
        omega
      have kc : ∀ c, cnt c D.flatten + cnt c cs = cnt c C.flatten + (if liveB g hz c = true then cnt c cs else 0) := fun c => by
        rw [cnt_flat, cnt_flat, key (cnt c) (cnt_app c) (cnt_nil c), hmv, cnt_live]
      have kl := key List.length (fun a l => List.length_append ..) rfl
      have hml : mv.length ≤ cs.length := by rw [hmv]; exact liveL_len g hz cs
      refine ⟨by rw [← h]; simp, fun j hj q => ?_, fun c => ?_, fun c q => ?_, ?_⟩
      · simp only [← h]
        rw [List.getElem_set]
        split
        · show ((0 : Nat) : Int) ≤ size; omega
        · rw [List.getElem_set]
          split
          · rw [List.length_append]; push_cast; omega
          · exact q
      · have := kc c
        split at this <;> omega
      · have := kc c
        rw [if_pos q] at this
        omega
      · rw [len_flat, len_flat]; omega
theorem flat_tot {zs : List RoD} (h : Fair zs) : (css zs).flatten.length = (zs.map (·.n)).sum := by rw [← tot_css h, len_flat]; rfl
theorem keep_iter (g : Int → List Int) (hz size now : Int) : ∀ (n : Nat) (C : List (List CpD)), KeepC g hz size C (iterC g hz size now n C) := by
  intro n
  induction n with
  | zero => intro C; exact KeepC.refl ..
  | succ n ih =>
    intro C
    cases hs : stepC g hz size now C with
    | none => rw [iterC_none hs]; exact KeepC.refl ..
    | some D => rw [iterC_some hs]; exact (keep_step hs).trans (ih D)
theorem cnt_take {c x : CpD} {l : List CpD} {k : Nat} (hk : k < l.length) (hx : l[k] = x) : cnt c (l.take (k + 1)) = cnt c (l.take k) + if eqC c x = true then 1 else 0 := by
  rw [List.take_succ_eq_append_getElem hk, hx, cnt_app]
  unfold cnt
  by_cases h : eqC c x = true
  · rw [if_pos h, List.countP_cons_of_pos h]; rfl
  · rw [if_neg h, List.countP_cons_of_neg h]; rfl
theorem flat_take {zs : List RoD} {k : Nat} (hk : k < zs.length) {x : RoD} (hx : zs[k] = x) : (css (zs.take (k + 1))).flatten = (css (zs.take k)).flatten ++ x.cs := by
  unfold css
  rw [List.take_succ_eq_append_getElem hk, hx, List.map_append, List.flatten_append]
  simp
theorem flat_take_le {zs : List RoD} (k : Nat) : (css (zs.take k)).flatten.length ≤ (css zs).flatten.length := by
  unfold css
  conv => rhs; rw [← List.take_append_drop k zs, List.map_append, List.flatten_append, List.length_append]
  omega
theorem wpList_appC {ops : Array Oper} {rest : List Oper} {o : Oper} {a : Act} {Q : Exit → Act → World → Prop} {w : World} (hgd : o.guard = none) (s x : Operand) (ho : o.op = .call { callee := .builtin .append, args := #[s, x], argTypes := #[54, 54] })
    (B : Nat) (v : Value) (n : Nat) (xs : List Value) (hs : a.eval s = v) (hown : w.ownsRow B 51 2 v n xs)
    (B2 : Nat) (A : Option Addr) (m c : Nat) (news : List Value) (hx : a.eval x = .slice A m c) (hl : news.length = m * 2) (hr : Rd w B2 A news) (h1 : ∀ u ∈ news, u.oneCell' = true) (hn : n + m ≤ 1000000) (hB : B ≤ w.heap.size)
    (h : ∀ v' w', w'.ownsRow B 51 2 v' (n + m) (xs ++ news) → w.grownBy w' v.ownBlock → (v'.ownBlock = v.ownBlock ∨ v'.ownBlock = some w.heap.size) → wpList Try.prog ops Q rest (a.put o.dst v') w') : wpList Try.prog ops Q (o :: rest) a w :=
  wpList_plain hgd fun _ hK => wp_appC s x ho B v n xs hs hown B2 A m c news hx hl hr h1 hn hB fun v' w' h2 h3 h4 => hK _ _ (h v' w' h2 h3 h4)
/-- two rows of the law's own, in different memory. -/
structure WS (w5 wr : World) (v1 v2 : Value) (l1 l2 : List CpD) : Prop where
  bel : Below w5.heap.size w5 wr
  o1 : wr.ownsRow w5.heap.size 51 2 v1 l1.length (l1.flatMap CpD.cells)
  o2 : wr.ownsRow w5.heap.size 51 2 v2 l2.length (l2.flatMap CpD.cells)
  dj : v1.ownBlock = none ∨ v1.ownBlock ≠ v2.ownBlock
theorem dj_sym {a c : Option Nat} (h : a = none ∨ a ≠ c) : c = none ∨ c ≠ a := by
  rcases h with h | h
  · by_cases e : c = none
    · exact .inl e
    · right; rw [h]; exact e
  · exact .inr (Ne.symm h)
theorem dj_new {w : World} {B e size n : Nat} {v v' u : Value} {xs : List Value} (h : v'.ownBlock = v.ownBlock ∨ v'.ownBlock = some w.heap.size) (hd : v.ownBlock = none ∨ v.ownBlock ≠ u.ownBlock) (hu : w.ownsRow B e size u n xs) : v'.ownBlock = none ∨ v'.ownBlock ≠ u.ownBlock := by
  rcases h with h | h
  · rw [h]; exact hd
  · right
    rw [h]
    intro e
    obtain ⟨_, cs, fr, hh⟩ := own_obj hu e.symm
    have := (Array.getElem?_eq_some_iff.1 hh).1
    omega
theorem WS.one {w5 wr w7 : World} {v1 v2 v7 : Value} {l1 l2 cs : List CpD} {m : Nat} (h : WS w5 wr v1 v2 l1 l2) (hm : cs.length = m) (ho : w7.ownsRow w5.heap.size 51 2 v7 (l1.length + m) (l1.flatMap CpD.cells ++ cs.flatMap CpD.cells)) (hg : wr.grownBy w7 v1.ownBlock) (hn : v7.ownBlock = v1.ownBlock ∨ v7.ownBlock = some wr.heap.size) : WS w5 w7 v7 v2 (l1 ++ cs) l2 :=
  ⟨h.bel.grown hg h.bel.size (fun g e => (own_obj h.o1 e).1), by rw [List.length_append, hm, List.flatMap_append]; exact ho, h.o2.kept hg (dj_sym h.dj), dj_new hn h.dj h.o2⟩
theorem WS.two {w5 wr w7 : World} {v1 v2 v7 : Value} {l1 l2 cs : List CpD} {m : Nat} (h : WS w5 wr v1 v2 l1 l2) (hm : cs.length = m) (ho : w7.ownsRow w5.heap.size 51 2 v7 (l2.length + m) (l2.flatMap CpD.cells ++ cs.flatMap CpD.cells)) (hg : wr.grownBy w7 v2.ownBlock) (hn : v7.ownBlock = v2.ownBlock ∨ v7.ownBlock = some wr.heap.size) : WS w5 w7 v1 v7 l1 (l2 ++ cs) :=
  ⟨h.bel.grown hg h.bel.size (fun g e => (own_obj h.o2 e).1), h.o1.kept hg h.dj, by rw [List.length_append, hm, List.flatMap_append]; exact ho, dj_sym (dj_new hn (dj_sym h.dj) h.o1)⟩
set_option maxRecDepth 100000 in
set_option maxHeartbeats 4000000 in
theorem keeps_true (A : Option Addr) (n c : Nat) (ts : List TxD) (A2 : Option Addr) (m c2 : Nat) (zs : List RoD) (size hz0 now steps : Int) (w : World) (h : IsTxs w A n c ts) (hz : IsZs w A2 m c2 zs) (_ : (Lit.int .i64 size).wf = true) (_ : (Lit.int .i64 hz0).wf = true) (_ : (Lit.int .i64 now).wf = true) (_ : (Lit.int .i64 steps).wf = true) :
    Calls Try.prog 9 #[.slice A n c, .slice A2 m c2, .int .i64 size, .int .i64 hz0, .int .i64 now, .int .i64 steps] w fun e w' => e = .returned (.bool true) ∧ Below w.heap.size w w' := by
  have hl := hz.len
  go_enter Try.func9, Try.ntmps9
  go_wp2_with fail
  refine (small_any A A2 n c m c2 ts zs w h hz).mono ?_
  rintro e w1 ⟨⟨r, rfl, hr⟩, hb1⟩
  have HR := Lib.hid hr
  clear hr
  cases r
  · go_wp2_with fail
    refine (awake_any _).mono ?_
    rintro e w' ⟨rfl, hbA⟩
    go_wp2_with fail
    go_ret
    exact ⟨rfl, hb1.trans (hbA.mono hb1.size)⟩
  · by_cases h1 : 1000 < size
    · have t1 : decide (1000 < size) = true := decide_eq_true h1
      clear h1
      go_wp2_with fail
      refine (awake_any _).mono ?_
      rintro e w' ⟨rfl, hbA⟩
      go_wp2_with fail
      go_ret
      exact ⟨rfl, hb1.trans (hbA.mono hb1.size)⟩
    · have t1 : decide (1000 < size) = false := decide_eq_false h1
      have HSZ := Lib.hid (show size ≤ 1000 by omega)
      have HN := Lib.hid (And.intro (HR.out rfl).1 (small_tot (HR.out rfl).2))
      have hmd := made_any A n c ts w1 (h.next hb1) HN.out.1
      clear h1
      go_wp2_with fail
      refine hmd.mono ?_
      rintro e w2 ⟨gm, xm, rfl, hM⟩
      obtain ⟨g, hg⟩ : ∃ g, (foldT ts).2 = g := ⟨_, rfl⟩
      have hev := hM.ev
      rw [hg] at hev
      have hb2 := hb1.trans (hM.bel.mono hb1.size)
      have hnn : n * 30 ≤ 100000 := by have := HN.out.1; omega
      have hm1 : m ≤ 400 := by rw [← hl]; exact HN.out.2.2.1
      have hrn := run_any w1.heap.size gm _ _ _ g A2 m c2 zs size hz0 now steps w2 hev hnn (hz.next hb2) (by omega) (fun x hx => by have := HN.out.2.2.2 x hx; omega) HSZ.out
      have HE := Lib.hid (And.intro hev (And.intro hb2 hnn))
      clear hM hg hev hb2 hmd hnn
      go_wp2_with fail
      refine hrn.mono ?_
      rintro e w5 ⟨⟨os, v, rfl, hO, hcs⟩, hb5⟩
      have hK := keep_iter g hz0 size now (runN steps) (css zs)
      rw [← hcs] at hK
      have hol : os.length = m := by have := hK.len; rw [css_len, css_len] at this; omega
      obtain ⟨VA, vc, rfl, hZ⟩ := hO.zs
      rw [hol] at hZ ⊢
      have htl : (css zs).flatten.length ≤ 400 := by rw [flat_tot (zs_fair hz)]; exact HN.out.2.1
      have HK := Lib.hid (And.intro hK (And.intro hO.fair (And.intro hol (And.intro hZ (And.intro htl (And.intro (HE.out.2.1.trans (hb5.mono HE.out.2.1.size)) (And.intro hb5 hO.wf)))))))
      clear hcs hK hO hZ hb5 hrn htl
      go_wp2_with fail
      go_loopw [16, 17, 18] (fun v1 v2 i wr => ∃ k : Nat, k ≤ m ∧ i = .int .i64 (k : Int) ∧ WS w5 wr v1 v2 (css (zs.take k)).flatten (css (os.take k)).flatten) (fun _ _ i _ => m - (intOf i).toNat)
      case atStart => exact ⟨0, Nat.zero_le _, rfl, Below.refl _ _, ⟨rfl, .inl ⟨rfl, rfl⟩⟩, ⟨rfl, .inl ⟨rfl, rfl⟩⟩, .inl rfl⟩
      case round =>
        obtain ⟨k, hk, rfl, hS⟩ := hrel
        by_cases hlt : k < m
        · obtain ⟨x, hxk⟩ : ∃ x, zs[k]'(by omega) = x := ⟨_, rfl⟩
          obtain ⟨y, hyk⟩ : ∃ y, os[k]'(by omega) = y := ⟨_, rfl⟩
          have hbw := HK.out.2.2.2.2.2.1.trans (hS.bel.mono HK.out.2.2.2.2.2.1.size)
          have ZG := Lib.hid (fun w' (hb : Below w5.heap.size w5 w') => (show (∃ ad, A2 = some ad ∧ w'.cell? (ad.add k) = some (.slice x.A x.n x.c)) ∧ (∃ ad, VA = some ad ∧ w'.cell? (ad.add k) = some (.slice y.A y.n y.c)) from by
            constructor
            · obtain ⟨ad, e, _, hc⟩ := (hz.rd.next (Nat.le_refl _) (HK.out.2.2.2.2.2.1.trans (hb.mono HK.out.2.2.2.2.2.1.size))).get (k := k) (by rw [List.length_map]; omega)
              rw [List.getElem_map, hxk] at hc
              exact ⟨ad, e, hc⟩
            · obtain ⟨ad, e, _, hc⟩ := (HK.out.2.2.2.1.rd.next (Nat.le_refl _) hb).get (k := k) (by rw [List.length_map]; omega)
              rw [List.getElem_map, hyk] at hc
              exact ⟨ad, e, hc⟩))
          obtain ⟨⟨ad, rfl, c0⟩, ⟨ad2, rfl, c1⟩⟩ := ZG.out wr hS.bel
          have hxm : x ∈ zs := by rw [← hxk]; exact List.getElem_mem _
          have hym : y ∈ os := by rw [← hyk]; exact List.getElem_mem _
          have hxr := hz.rows x hxm
          have hyr := HK.out.2.2.2.1.rows y hym
          have n0 : (k : Int) < (m : Int) := by omega
          have n1 : (0 : Int) ≤ (k : Int) := by omega
          have hT1 := flat_take (zs := zs) (k := k) (by omega) hxk
          have hT2 := flat_take (zs := os) (k := k) (by omega) hyk
          have hL1 := flat_take_le (zs := zs) (k + 1)
          have hL2 := flat_take_le (zs := os) (k + 1)
          have hLt := HK.out.1.tot
          have hL4 := HK.out.2.2.2.2.1
          rw [hT1, List.length_append, hxr.len] at hL1
          rw [hT2, List.length_append, hyr.len] at hL2
          have hfit := HK.out.1.fit k (by rw [css_len]; omega)
          have hfx : (css zs)[k]'(by rw [css_len]; omega) = x.cs := by unfold css; rw [List.getElem_map, hxk]
          have hfy : (css os)[k]'(by rw [css_len]; omega) = y.cs := by unfold css; rw [List.getElem_map, hyk]
          rw [hfx, hfy, hxr.len, hyr.len] at hfit
          have HX := Lib.hid (And.intro hS (And.intro hxr (And.intro hyr (And.intro hT1 (And.intro hT2 (And.intro (show (css (zs.take k)).flatten.length + x.n ≤ 1000000 by omega) (show (css (os.take k)).flatten.length + y.n ≤ 1000000 by omega)))))))
          have HF := Lib.hid hfit
          clear hS hxk hyk hbw hxm hym hxr hyr hT1 hT2 hL1 hL2 hLt hL4 hfit hfx hfy
          by_cases hyb : size < (y.n : Int)
          · have hxb : ¬ ((x.n : Int) ≤ size) := fun h => by have := HF.out h; omega
            have e0 : decide (size < (y.n : Int)) = true := decide_eq_true hyb
            have e1 : decide ((x.n : Int) ≤ size) = false := decide_eq_false hxb
            clear hyb hxb
            go_wp2_with (first
              | (at_builtin; refine wpList_appC rfl _ _ rfl w5.heap.size _ _ _ (by rfl) (by exact HX.out.1.o1) w5.heap.size x.A x.n x.c (x.cs.flatMap CpD.cells) (by rfl) (by rw [flat_len cp_two, HX.out.2.1.len]) (by exact HX.out.2.1.rd.next (Nat.le_refl _) (HK.out.2.2.2.2.2.1.trans (HX.out.1.bel.mono HK.out.2.2.2.2.2.1.size)) |>.more (by exact HK.out.2.2.2.2.2.1.size)) one_cps (by exact HX.out.2.2.2.2.2.1) (by exact HX.out.1.bel.size) ?_; intro v7 w7 ho7 hg7 hn7; have HS7 := Lib.hid (HX.out.1.one HX.out.2.1.len ho7 hg7 hn7); have hZ7 := ZG.out w7 HS7.out.bel; have c0' := hZ7.1; have c1' := hZ7.2; obtain ⟨_, e, c0'⟩ := c0'; injection e with e; subst e; obtain ⟨_, e, c1'⟩ := c1'; injection e with e; subst e; clear ho7 hg7 hn7 hZ7)
              | (at_builtin; go_must (refine wpList_appC rfl _ _ rfl w5.heap.size _ _ _ (by rfl) (by exact HS7.out.o2) w5.heap.size y.A y.n y.c (y.cs.flatMap CpD.cells) (by rfl) (by rw [flat_len cp_two, HX.out.2.2.1.len]) (by exact HX.out.2.2.1.rd.next (Nat.le_refl _) HS7.out.bel) one_cps (by exact HX.out.2.2.2.2.2.2) (by exact HS7.out.bel.size) ?_); intro v8 w8 ho8 hg8 hn8; have hZ8 := ZG.out w8 (HS7.out.two HX.out.2.2.1.len ho8 hg8 hn8).bel; have c0'' := hZ8.1; have c1'' := hZ8.2; obtain ⟨_, e, c0''⟩ := c0''; injection e with e; subst e; obtain ⟨_, e, c1''⟩ := c1''; injection e with e; subst e; clear hZ8))
            have hS8 := HS7.out.two HX.out.2.2.1.len ho8 hg8 hn8
            rw [← HX.out.2.2.2.1, ← HX.out.2.2.2.2.1] at hS8
            go_roundw
            case rel => exact ⟨k + 1, hlt, by go_num, hS8⟩
            case measure => exact meas hlt
          · have e0 : decide (size < (y.n : Int)) = false := decide_eq_false hyb
            clear hyb
            go_wp2_with (first
              | (at_builtin; refine wpList_appC rfl _ _ rfl w5.heap.size _ _ _ (by rfl) (by exact HX.out.1.o1) w5.heap.size x.A x.n x.c (x.cs.flatMap CpD.cells) (by rfl) (by rw [flat_len cp_two, HX.out.2.1.len]) (by exact HX.out.2.1.rd.next (Nat.le_refl _) (HK.out.2.2.2.2.2.1.trans (HX.out.1.bel.mono HK.out.2.2.2.2.2.1.size)) |>.more (by exact HK.out.2.2.2.2.2.1.size)) one_cps (by exact HX.out.2.2.2.2.2.1) (by exact HX.out.1.bel.size) ?_; intro v7 w7 ho7 hg7 hn7; have HS7 := Lib.hid (HX.out.1.one HX.out.2.1.len ho7 hg7 hn7); have hZ7 := ZG.out w7 HS7.out.bel; have c0' := hZ7.1; have c1' := hZ7.2; obtain ⟨_, e, c0'⟩ := c0'; injection e with e; subst e; obtain ⟨_, e, c1'⟩ := c1'; injection e with e; subst e; clear ho7 hg7 hn7 hZ7)
              | (at_builtin; go_must (refine wpList_appC rfl _ _ rfl w5.heap.size _ _ _ (by rfl) (by exact HS7.out.o2) w5.heap.size y.A y.n y.c (y.cs.flatMap CpD.cells) (by rfl) (by rw [flat_len cp_two, HX.out.2.2.1.len]) (by exact HX.out.2.2.1.rd.next (Nat.le_refl _) HS7.out.bel) one_cps (by exact HX.out.2.2.2.2.2.2) (by exact HS7.out.bel.size) ?_); intro v8 w8 ho8 hg8 hn8; have hZ8 := ZG.out w8 (HS7.out.two HX.out.2.2.1.len ho8 hg8 hn8).bel; have c0'' := hZ8.1; have c1'' := hZ8.2; obtain ⟨_, e, c0''⟩ := c0''; injection e with e; subst e; obtain ⟨_, e, c1''⟩ := c1''; injection e with e; subst e; clear hZ8))
            have hS8 := HS7.out.two HX.out.2.2.1.len ho8 hg8 hn8
            rw [← HX.out.2.2.2.1, ← HX.out.2.2.2.2.1] at hS8
            go_roundw
            case rel => exact ⟨k + 1, hlt, by go_num, hS8⟩
            case measure => exact meas hlt
        · have n0 : ¬ ((k : Int) < (m : Int)) := by omega
          have hke : k = m := by omega
          rw [hke, List.take_of_length_le (by omega), List.take_of_length_le (by omega)] at hS
          obtain ⟨W1, cc1, rfl⟩ := own_shape hS.o1
          obtain ⟨W2, cc2, rfl⟩ := own_shape hS.o2
          obtain ⟨L1, hL1⟩ : ∃ L1, (css zs).flatten = L1 := ⟨_, rfl⟩
          obtain ⟨L2, hL2⟩ : ∃ L2, (css os).flatten = L2 := ⟨_, rfl⟩
          have hK := HK.out.1
          have hle := hK.le
          have hlv := hK.live
          have htt := hK.tot
          have hb4 := HK.out.2.2.2.2.1
          rw [hL1, hL2] at htt
          rw [hL1] at hb4
          simp only [hL1, hL2] at hle hlv
          rw [hL1, hL2] at hS
          rw [hL1, hL2]
          obtain ⟨n1, hn1⟩ : ∃ n1, L1.length = n1 := ⟨_, rfl⟩
          obtain ⟨n2, hn2⟩ : ∃ n2, L2.length = n2 := ⟨_, rfl⟩
          rw [hn1, hn2] at hS htt ⊢
          rw [hn1] at hb4
          obtain ⟨w6, hw6⟩ : ∃ w6, w6 = wr := ⟨_, rfl⟩
          subst hw6
          have o1 := hS.o1
          have o2 := hS.o2
          rw [hn1] at o1
          rw [hn2] at o2
          have RO := Lib.hid (fun w' (hb : Below w6.heap.size w6 w') (j : Nat) (hj : j < n1) => (two_get cp_two ((Rd.of_own2 o1).next (Nat.le_refl _) hb) (k := j) (by omega) (u := .int .i64 (L1[j]'(by omega)).lba) (v := .int .i64 (L1[j]'(by omega)).t) rfl))
          have RT := Lib.hid (fun w' (hb : Below w6.heap.size w6 w') (j : Nat) (hj : j < n2) => (two_get cp_two ((Rd.of_own2 o2).next (Nat.le_refl _) hb) (k := j) (by omega) (u := .int .i64 (L2[j]'(by omega)).lba) (v := .int .i64 (L2[j]'(by omega)).t) rfl))
          have HS := Lib.hid (And.intro hle (And.intro hlv (And.intro hn1 (And.intro hn2 (HK.out.2.2.2.2.2.1.trans (hS.bel.mono HK.out.2.2.2.2.2.1.size))))))
          have HEV := Lib.hid (HK.out.2.2.2.2.2.2.1.trans (hS.bel.mono HK.out.2.2.2.2.2.2.1.size))
          clear hS hlt hk hke hle hlv hK o1 o2
          go_wp2_with fail
          go_loopw [19] (fun i wr => ∃ k : Nat, k ≤ n1 ∧ i = .int .i64 (k : Int) ∧ Below w6.heap.size w6 wr) (fun i _ => n1 - (intOf i).toNat)
          case atStart => exact ⟨0, Nat.zero_le _, rfl, Below.refl _ _⟩
          case round =>
            obtain ⟨k, hk, rfl, hW⟩ := hrel
            obtain ⟨wk, hwk⟩ : ∃ wk, wk = wr := ⟨_, rfl⟩
            subst hwk
            by_cases hlt : k < n1
            · obtain ⟨cp, hcp⟩ : ∃ cp, L1[k]'(by omega) = cp := ⟨_, rfl⟩
              have k0 : (k : Int) < (n1 : Int) := by omega
              have k1 : (0 : Int) ≤ (k : Int) := by omega
              have HK2 := Lib.hid (And.intro hcp (And.intro hW hlt))
              clear hcp hW
              go_wp2_with fail
              go_loopw [20, 22] (fun a j wr => ∃ j' q s : Nat, j' ≤ n1 ∧ j = .int .i64 (j' : Int) ∧ a = .int .i64 (s : Int) ∧ s ≤ j' ∧ Hid (s = cnt cp (L1.take j')) ∧ wr = wk.drewN q) (fun _ j => fun _ => n1 - (intOf j).toNat)
              case atStart => exact ⟨0, 0, 0, Nat.zero_le _, rfl, rfl, Nat.le_refl _, Lib.hid (by simp [cnt_nil]), rfl⟩
              case round =>
                obtain ⟨j', q, s, hj', rfl, rfl, hsj, HC, rfl⟩ := hrel
                by_cases hlj : j' < n1
                · obtain ⟨⟨xl, xt⟩, hx⟩ : ∃ x, L1[j']'(by omega) = x := ⟨_, rfl⟩
                  have gg := RO.out wk HK2.out.2.1 j' hlj
                  have gi := RO.out wk HK2.out.2.1 k HK2.out.2.2
                  simp only [hx] at gg
                  simp only [HK2.out.1] at gi
                  obtain ⟨_, ea, _, g0, g1⟩ := gg
                  obtain ⟨_, eb, _, i0, i1⟩ := gi
                  first | (injection ea with ea; subst ea) | subst ea
                  first | (injection eb with eb; subst eb) | subst eb
                  have m0 : (j' : Int) < (n1 : Int) := by omega
                  have m1 : (0 : Int) ≤ (j' : Int) := by omega
                  have HXX := Lib.hid hx
                  clear hx
                  by_cases hd : xl = cp.lba
                  · by_cases hd2 : xt = cp.t
                    · have HN := Lib.hid (show s + 1 = cnt cp (L1.take (j' + 1)) by rw [cnt_take (by omega) HXX.out, if_pos (by unfold eqC; simp [hd, hd2]), ← HC.out])
                      clear HXX
                      subst hd
                      subst hd2
                      go_wp2_with fail
                      refine wp_region_held_drew (S := Drawn wk) (by kernel_rfl) (by first | exact Drawn.of _ _ | exact Drawn.one _) (fun hHeld => ?_)
                      refine wpAnyH_take (i := 0) (v := ?v1_0) (by simp only [List.getElem?_toArray, List.getElem?_cons_succ, List.getElem?_cons_zero]; rfl) (by kernel_rfl) (by kernel_rfl) (by kernel_rfl) (by exact fun _ _ _ h => h) (Or.inl ⟨by rfl, ?h1_0⟩) hHeld ?_
                      case h1_0 => (intro w' hSw; obtain ⟨m, rfl⟩ := hSw; go_simp <;> with_reducible rfl)
                      try simp only [Act.put, List.setIfInBounds_toArray, List.set_cons_zero, List.set_cons_succ]
                      refine wpAnyH_take (i := 1) (v := ?v2_1) (by simp only [List.getElem?_toArray, List.getElem?_cons_succ, List.getElem?_cons_zero]; rfl) (by kernel_rfl) (by kernel_rfl) (by kernel_rfl) (by exact fun _ _ _ h => h) (Or.inl ⟨by rfl, ?h2_1⟩) hHeld ?_
                      case h2_1 => (intro w' hSw; obtain ⟨m, rfl⟩ := hSw; go_simp <;> with_reducible rfl)
                      try simp only [Act.put, List.setIfInBounds_toArray, List.set_cons_zero, List.set_cons_succ]
                      refine wpAnyH_take (i := 2) (v := ?v3_2) (by simp only [List.getElem?_toArray, List.getElem?_cons_succ, List.getElem?_cons_zero]; rfl) (by kernel_rfl) (by kernel_rfl) (by kernel_rfl) (by exact fun _ _ _ h => h) (Or.inl ⟨by rfl, ?h3_2⟩) hHeld ?_
                      case h3_2 => (intro w' hSw; obtain ⟨m, rfl⟩ := hSw; go_simp <;> with_reducible rfl)
                      try simp only [Act.put, List.setIfInBounds_toArray, List.set_cons_zero, List.set_cons_succ]
                      refine wpAnyH_take (i := 3) (v := ?v4_3) (by simp only [List.getElem?_toArray, List.getElem?_cons_succ, List.getElem?_cons_zero]; rfl) (by kernel_rfl) (by kernel_rfl) (by kernel_rfl) (by exact fun _ _ _ h => h) (Or.inl ⟨by rfl, ?h4_3⟩) hHeld ?_
                      case h4_3 => (intro w' hSw; obtain ⟨m, rfl⟩ := hSw; go_simp <;> with_reducible rfl)
                      try simp only [Act.put, List.setIfInBounds_toArray, List.set_cons_zero, List.set_cons_succ]
                      refine wpAnyH_take (i := 4) (v := ?v5_4) (by simp only [List.getElem?_toArray, List.getElem?_cons_succ, List.getElem?_cons_zero]; rfl) (by kernel_rfl) (by kernel_rfl) (by kernel_rfl) (by exact fun _ _ _ h => h) (Or.inl ⟨by rfl, ?h5_4⟩) hHeld ?_
                      case h5_4 => (intro w' hSw; obtain ⟨m, rfl⟩ := hSw; go_simp <;> with_reducible rfl)
                      try simp only [Act.put, List.setIfInBounds_toArray, List.set_cons_zero, List.set_cons_succ]
                      refine wpAnyH_take (i := 5) (v := ?v6_5) (by simp only [List.getElem?_toArray, List.getElem?_cons_succ, List.getElem?_cons_zero]; rfl) (by kernel_rfl) (by kernel_rfl) (by kernel_rfl) (by exact fun _ _ _ h => h) (Or.inl ⟨by rfl, ?h6_5⟩) hHeld ?_
                      case h6_5 => (intro w' hSw; obtain ⟨m, rfl⟩ := hSw; go_simp <;> with_reducible rfl)
                      try simp only [Act.put, List.setIfInBounds_toArray, List.set_cons_zero, List.set_cons_succ]
                      refine wpAnyH_take (i := 6) (v := ?v7_6) (by simp only [List.getElem?_toArray, List.getElem?_cons_succ, List.getElem?_cons_zero]; rfl) (by kernel_rfl) (by kernel_rfl) (by kernel_rfl) (by exact fun _ _ _ h => h) (Or.inl ⟨by rfl, ?h7_6⟩) hHeld ?_
                      case h7_6 => (intro w' hSw; obtain ⟨m, rfl⟩ := hSw; go_simp <;> with_reducible rfl)
                      try simp only [Act.put, List.setIfInBounds_toArray, List.set_cons_zero, List.set_cons_succ]
                      refine wpAnyH_take (i := 7) (v := ?v8_7) (by simp only [List.getElem?_toArray, List.getElem?_cons_succ, List.getElem?_cons_zero]; rfl) (by kernel_rfl) (by kernel_rfl) (by kernel_rfl) (by exact fun _ _ _ h => h) (Or.inl ⟨by rfl, ?h8_7⟩) hHeld ?_
                      case h8_7 => (intro w' hSw; obtain ⟨m, rfl⟩ := hSw; go_simp <;> with_reducible rfl)
                      try simp only [Act.put, List.setIfInBounds_toArray, List.set_cons_zero, List.set_cons_succ]
                      refine wpAnyH_take (i := 8) (v := ?v9_8) (by simp only [List.getElem?_toArray, List.getElem?_cons_succ, List.getElem?_cons_zero]; rfl) (by kernel_rfl) (by kernel_rfl) (by kernel_rfl) (by exact fun _ _ _ h => h) (Or.inl ⟨by rfl, ?h9_8⟩) hHeld ?_
                      case h9_8 => (intro w' hSw; obtain ⟨m, rfl⟩ := hSw; go_simp <;> with_reducible rfl)
                      try simp only [Act.put, List.setIfInBounds_toArray, List.set_cons_zero, List.set_cons_succ]
                      refine wpAnyH_done (by kernel_rfl) ?_ _
                      go_wp2_with fail
                      go_roundw
                      case rel => exact ⟨j' + 1, q + 1, s + 1, hlj, by go_num, by go_num, by omega, HN, rfl⟩
                      case measure => exact meas hlj
                    · have e0 : decide (xt = cp.t) = false := decide_eq_false hd2
                      have e1 : (xt == cp.t) = false := beq_eq_false_iff_ne.2 hd2
                      have HN := Lib.hid (show s = cnt cp (L1.take (j' + 1)) by rw [cnt_take (by omega) HXX.out, if_neg (by unfold eqC; simp [hd2]), ← HC.out]; rfl)
                      clear hd2 HXX
                      subst hd
                      go_wp2_with fail
                      refine wp_region_held_drew (S := Drawn wk) (by kernel_rfl) (by first | exact Drawn.of _ _ | exact Drawn.one _) (fun hHeld => ?_)
                      refine wpAnyH_take (i := 0) (v := ?v10_0) (by simp only [List.getElem?_toArray, List.getElem?_cons_succ, List.getElem?_cons_zero]; rfl) (by kernel_rfl) (by kernel_rfl) (by kernel_rfl) (by exact fun _ _ _ h => h) (Or.inl ⟨by rfl, ?h10_0⟩) hHeld ?_
                      case h10_0 => (intro w' hSw; obtain ⟨m, rfl⟩ := hSw; go_simp <;> with_reducible rfl)
                      try simp only [Act.put, List.setIfInBounds_toArray, List.set_cons_zero, List.set_cons_succ]
                      refine wpAnyH_take (i := 1) (v := ?v11_1) (by simp only [List.getElem?_toArray, List.getElem?_cons_succ, List.getElem?_cons_zero]; rfl) (by kernel_rfl) (by kernel_rfl) (by kernel_rfl) (by exact fun _ _ _ h => h) (Or.inl ⟨by rfl, ?h11_1⟩) hHeld ?_
                      case h11_1 => (intro w' hSw; obtain ⟨m, rfl⟩ := hSw; go_simp <;> with_reducible rfl)
                      try simp only [Act.put, List.setIfInBounds_toArray, List.set_cons_zero, List.set_cons_succ]
                      refine wpAnyH_take (i := 2) (v := ?v12_2) (by simp only [List.getElem?_toArray, List.getElem?_cons_succ, List.getElem?_cons_zero]; rfl) (by kernel_rfl) (by kernel_rfl) (by kernel_rfl) (by exact fun _ _ _ h => h) (Or.inl ⟨by rfl, ?h12_2⟩) hHeld ?_
                      case h12_2 => (intro w' hSw; obtain ⟨m, rfl⟩ := hSw; go_simp <;> with_reducible rfl)
                      try simp only [Act.put, List.setIfInBounds_toArray, List.set_cons_zero, List.set_cons_succ]
                      refine wpAnyH_take (i := 3) (v := ?v13_3) (by simp only [List.getElem?_toArray, List.getElem?_cons_succ, List.getElem?_cons_zero]; rfl) (by kernel_rfl) (by kernel_rfl) (by kernel_rfl) (by exact fun _ _ _ h => h) (Or.inl ⟨by rfl, ?h13_3⟩) hHeld ?_
                      case h13_3 => (intro w' hSw; obtain ⟨m, rfl⟩ := hSw; go_simp <;> with_reducible rfl)
                      try simp only [Act.put, List.setIfInBounds_toArray, List.set_cons_zero, List.set_cons_succ]
                      refine wpAnyH_take (i := 4) (v := ?v14_4) (by simp only [List.getElem?_toArray, List.getElem?_cons_succ, List.getElem?_cons_zero]; rfl) (by kernel_rfl) (by kernel_rfl) (by kernel_rfl) (by exact fun _ _ _ h => h) (Or.inl ⟨by rfl, ?h14_4⟩) hHeld ?_
                      case h14_4 => (intro w' hSw; obtain ⟨m, rfl⟩ := hSw; go_simp <;> with_reducible rfl)
                      try simp only [Act.put, List.setIfInBounds_toArray, List.set_cons_zero, List.set_cons_succ]
                      refine wpAnyH_take (i := 5) (v := ?v15_5) (by simp only [List.getElem?_toArray, List.getElem?_cons_succ, List.getElem?_cons_zero]; rfl) (by kernel_rfl) (by kernel_rfl) (by kernel_rfl) (by exact fun _ _ _ h => h) (Or.inl ⟨by rfl, ?h15_5⟩) hHeld ?_
                      case h15_5 => (intro w' hSw; obtain ⟨m, rfl⟩ := hSw; go_simp <;> with_reducible rfl)
                      try simp only [Act.put, List.setIfInBounds_toArray, List.set_cons_zero, List.set_cons_succ]
                      refine wpAnyH_take (i := 6) (v := ?v16_6) (by simp only [List.getElem?_toArray, List.getElem?_cons_succ, List.getElem?_cons_zero]; rfl) (by kernel_rfl) (by kernel_rfl) (by kernel_rfl) (by exact fun _ _ _ h => h) (Or.inl ⟨by rfl, ?h16_6⟩) hHeld ?_
                      case h16_6 => (intro w' hSw; obtain ⟨m, rfl⟩ := hSw; go_simp <;> with_reducible rfl)
                      try simp only [Act.put, List.setIfInBounds_toArray, List.set_cons_zero, List.set_cons_succ]
                      refine wpAnyH_take (i := 7) (v := ?v17_7) (by simp only [List.getElem?_toArray, List.getElem?_cons_succ, List.getElem?_cons_zero]; rfl) (by kernel_rfl) (by kernel_rfl) (by kernel_rfl) (by exact fun _ _ _ h => h) (Or.inl ⟨by rfl, ?h17_7⟩) hHeld ?_
                      case h17_7 => (intro w' hSw; obtain ⟨m, rfl⟩ := hSw; go_simp <;> with_reducible rfl)
                      try simp only [Act.put, List.setIfInBounds_toArray, List.set_cons_zero, List.set_cons_succ]
                      refine wpAnyH_take (i := 8) (v := ?v18_8) (by simp only [List.getElem?_toArray, List.getElem?_cons_succ, List.getElem?_cons_zero]; rfl) (by kernel_rfl) (by kernel_rfl) (by kernel_rfl) (by exact fun _ _ _ h => h) (Or.inl ⟨by rfl, ?h18_8⟩) hHeld ?_
                      case h18_8 => (intro w' hSw; obtain ⟨m, rfl⟩ := hSw; go_simp <;> with_reducible rfl)
                      try simp only [Act.put, List.setIfInBounds_toArray, List.set_cons_zero, List.set_cons_succ]
                      refine wpAnyH_done (by kernel_rfl) ?_ _
                      go_wp2_with fail
                      go_roundw
                      case rel => exact ⟨j' + 1, q + 1, s, hlj, by go_num, rfl, by omega, HN, rfl⟩
                      case measure => exact meas hlj
                  · have e0 : decide (xl = cp.lba) = false := decide_eq_false hd
                    have e1 : (xl == cp.lba) = false := beq_eq_false_iff_ne.2 hd
                    have HN := Lib.hid (show s = cnt cp (L1.take (j' + 1)) by rw [cnt_take (by omega) HXX.out, if_neg (by unfold eqC; simp [hd]), ← HC.out]; rfl)
                    clear hd HXX
                    go_wp2_with fail
                    refine wp_region_held_drew (S := Drawn wk) (by kernel_rfl) (by first | exact Drawn.of _ _ | exact Drawn.one _) (fun hHeld => ?_)
                    refine wpAnyH_take (i := 0) (v := ?v19_0) (by simp only [List.getElem?_toArray, List.getElem?_cons_succ, List.getElem?_cons_zero]; rfl) (by kernel_rfl) (by kernel_rfl) (by kernel_rfl) (by exact fun _ _ _ h => h) (Or.inl ⟨by rfl, ?h19_0⟩) hHeld ?_
                    case h19_0 => (intro w' hSw; obtain ⟨m, rfl⟩ := hSw; go_simp <;> with_reducible rfl)
                    try simp only [Act.put, List.setIfInBounds_toArray, List.set_cons_zero, List.set_cons_succ]
                    refine wpAnyH_take (i := 1) (v := ?v20_1) (by simp only [List.getElem?_toArray, List.getElem?_cons_succ, List.getElem?_cons_zero]; rfl) (by kernel_rfl) (by kernel_rfl) (by kernel_rfl) (by exact fun _ _ _ h => h) (Or.inl ⟨by rfl, ?h20_1⟩) hHeld ?_
                    case h20_1 => (intro w' hSw; obtain ⟨m, rfl⟩ := hSw; go_simp <;> with_reducible rfl)
                    try simp only [Act.put, List.setIfInBounds_toArray, List.set_cons_zero, List.set_cons_succ]
                    refine wpAnyH_take (i := 2) (v := ?v21_2) (by simp only [List.getElem?_toArray, List.getElem?_cons_succ, List.getElem?_cons_zero]; rfl) (by kernel_rfl) (by kernel_rfl) (by kernel_rfl) (by exact fun _ _ _ h => h) (Or.inl ⟨by rfl, ?h21_2⟩) hHeld ?_
                    case h21_2 => (intro w' hSw; obtain ⟨m, rfl⟩ := hSw; go_simp <;> with_reducible rfl)
                    try simp only [Act.put, List.setIfInBounds_toArray, List.set_cons_zero, List.set_cons_succ]
                    refine wpAnyH_take (i := 3) (v := ?v22_3) (by simp only [List.getElem?_toArray, List.getElem?_cons_succ, List.getElem?_cons_zero]; rfl) (by kernel_rfl) (by kernel_rfl) (by kernel_rfl) (by exact fun _ _ _ h => h) (Or.inl ⟨by rfl, ?h22_3⟩) hHeld ?_
                    case h22_3 => (intro w' hSw; obtain ⟨m, rfl⟩ := hSw; go_simp <;> with_reducible rfl)
                    try simp only [Act.put, List.setIfInBounds_toArray, List.set_cons_zero, List.set_cons_succ]
                    refine wpAnyH_take (i := 4) (v := ?v23_4) (by simp only [List.getElem?_toArray, List.getElem?_cons_succ, List.getElem?_cons_zero]; rfl) (by kernel_rfl) (by kernel_rfl) (by kernel_rfl) (by exact fun _ _ _ h => h) (Or.inl ⟨by rfl, ?h23_4⟩) hHeld ?_
                    case h23_4 => (intro w' hSw; obtain ⟨m, rfl⟩ := hSw; go_simp <;> with_reducible rfl)
                    try simp only [Act.put, List.setIfInBounds_toArray, List.set_cons_zero, List.set_cons_succ]
                    refine wpAnyH_take (i := 5) (v := ?v24_5) (by simp only [List.getElem?_toArray, List.getElem?_cons_succ, List.getElem?_cons_zero]; rfl) (by kernel_rfl) (by kernel_rfl) (by kernel_rfl) (by exact fun _ _ _ h => h) (Or.inl ⟨by rfl, ?h24_5⟩) hHeld ?_
                    case h24_5 => (intro w' hSw; obtain ⟨m, rfl⟩ := hSw; go_simp <;> with_reducible rfl)
                    try simp only [Act.put, List.setIfInBounds_toArray, List.set_cons_zero, List.set_cons_succ]
                    refine wpAnyH_take (i := 6) (v := ?v25_6) (by simp only [List.getElem?_toArray, List.getElem?_cons_succ, List.getElem?_cons_zero]; rfl) (by kernel_rfl) (by kernel_rfl) (by kernel_rfl) (by exact fun _ _ _ h => h) (Or.inl ⟨by rfl, ?h25_6⟩) hHeld ?_
                    case h25_6 => (intro w' hSw; obtain ⟨m, rfl⟩ := hSw; go_simp <;> with_reducible rfl)
                    try simp only [Act.put, List.setIfInBounds_toArray, List.set_cons_zero, List.set_cons_succ]
                    refine wpAnyH_take (i := 7) (v := ?v26_7) (by simp only [List.getElem?_toArray, List.getElem?_cons_succ, List.getElem?_cons_zero]; rfl) (by kernel_rfl) (by kernel_rfl) (by kernel_rfl) (by exact fun _ _ _ h => h) (Or.inl ⟨by rfl, ?h26_7⟩) hHeld ?_
                    case h26_7 => (intro w' hSw; obtain ⟨m, rfl⟩ := hSw; go_simp <;> with_reducible rfl)
                    try simp only [Act.put, List.setIfInBounds_toArray, List.set_cons_zero, List.set_cons_succ]
                    refine wpAnyH_take (i := 8) (v := ?v27_8) (by simp only [List.getElem?_toArray, List.getElem?_cons_succ, List.getElem?_cons_zero]; rfl) (by kernel_rfl) (by kernel_rfl) (by kernel_rfl) (by exact fun _ _ _ h => h) (Or.inl ⟨by rfl, ?h27_8⟩) hHeld ?_
                    case h27_8 => (intro w' hSw; obtain ⟨m, rfl⟩ := hSw; go_simp <;> with_reducible rfl)
                    try simp only [Act.put, List.setIfInBounds_toArray, List.set_cons_zero, List.set_cons_succ]
                    refine wpAnyH_done (by kernel_rfl) ?_ _
                    go_wp2_with fail
                    go_roundw
                    case rel => exact ⟨j' + 1, q + 1, s, hlj, by go_num, rfl, by omega, HN, rfl⟩
                    case measure => exact meas hlj
                · have m0 : ¬ ((j' : Int) < (n1 : Int)) := by omega
                  have HA := Lib.hid (show s = cnt cp L1 by have := HC.out; rwa [List.take_of_length_le (by omega)] at this)
                  have hsbA : s ≤ 400 := by omega
                  clear hlj hj' HC hsj
                  obtain ⟨sA, hsA⟩ : ∃ sA, sA = s := ⟨_, rfl⟩
                  subst hsA
                  obtain ⟨qA, hqA⟩ : ∃ qA, qA = q := ⟨_, rfl⟩
                  subst hqA
                  go_wp2_with fail
                  go_loopw [21, 23] (fun a j wr => ∃ j' q s : Nat, j' ≤ n2 ∧ j = .int .i64 (j' : Int) ∧ a = .int .i64 (s : Int) ∧ s ≤ j' ∧ Hid (s = cnt cp (L2.take j')) ∧ wr = wk.drewN q) (fun _ j => fun _ => n2 - (intOf j).toNat)
                  case atStart => exact ⟨0, qA, 0, Nat.zero_le _, rfl, rfl, Nat.le_refl _, Lib.hid (by simp [cnt_nil]), rfl⟩
                  case round =>
                    obtain ⟨j', q, s, hj', rfl, rfl, hsj, HC, rfl⟩ := hrel
                    by_cases hlj : j' < n2
                    · obtain ⟨⟨xl, xt⟩, hx⟩ : ∃ x, L2[j']'(by omega) = x := ⟨_, rfl⟩
                      have gg := RT.out wk HK2.out.2.1 j' hlj
                      have gi := RO.out wk HK2.out.2.1 k HK2.out.2.2
                      simp only [hx] at gg
                      simp only [HK2.out.1] at gi
                      obtain ⟨_, ea, _, g0, g1⟩ := gg
                      obtain ⟨_, eb, _, i0, i1⟩ := gi
                      first | (injection ea with ea; subst ea) | subst ea
                      first | (injection eb with eb; subst eb) | subst eb
                      have m0 : (j' : Int) < (n2 : Int) := by omega
                      have m1 : (0 : Int) ≤ (j' : Int) := by omega
                      have HXX := Lib.hid hx
                      clear hx
                      by_cases hd : xl = cp.lba
                      · by_cases hd2 : xt = cp.t
                        · have HN := Lib.hid (show s + 1 = cnt cp (L2.take (j' + 1)) by rw [cnt_take (by omega) HXX.out, if_pos (by unfold eqC; simp [hd, hd2]), ← HC.out])
                          clear HXX
                          subst hd
                          subst hd2
                          go_wp2_with fail
                          refine wp_region_held_drew (S := Drawn wk) (by kernel_rfl) (by first | exact Drawn.of _ _ | exact Drawn.one _) (fun hHeld => ?_)
                          refine wpAnyH_take (i := 0) (v := ?v28_0) (by simp only [List.getElem?_toArray, List.getElem?_cons_succ, List.getElem?_cons_zero]; rfl) (by kernel_rfl) (by kernel_rfl) (by kernel_rfl) (by exact fun _ _ _ h => h) (Or.inl ⟨by rfl, ?h28_0⟩) hHeld ?_
                          case h28_0 => (intro w' hSw; obtain ⟨m, rfl⟩ := hSw; go_simp <;> with_reducible rfl)
                          try simp only [Act.put, List.setIfInBounds_toArray, List.set_cons_zero, List.set_cons_succ]
                          refine wpAnyH_take (i := 1) (v := ?v29_1) (by simp only [List.getElem?_toArray, List.getElem?_cons_succ, List.getElem?_cons_zero]; rfl) (by kernel_rfl) (by kernel_rfl) (by kernel_rfl) (by exact fun _ _ _ h => h) (Or.inl ⟨by rfl, ?h29_1⟩) hHeld ?_
                          case h29_1 => (intro w' hSw; obtain ⟨m, rfl⟩ := hSw; go_simp <;> with_reducible rfl)
                          try simp only [Act.put, List.setIfInBounds_toArray, List.set_cons_zero, List.set_cons_succ]
                          refine wpAnyH_take (i := 2) (v := ?v30_2) (by simp only [List.getElem?_toArray, List.getElem?_cons_succ, List.getElem?_cons_zero]; rfl) (by kernel_rfl) (by kernel_rfl) (by kernel_rfl) (by exact fun _ _ _ h => h) (Or.inl ⟨by rfl, ?h30_2⟩) hHeld ?_
                          case h30_2 => (intro w' hSw; obtain ⟨m, rfl⟩ := hSw; go_simp <;> with_reducible rfl)
                          try simp only [Act.put, List.setIfInBounds_toArray, List.set_cons_zero, List.set_cons_succ]
                          refine wpAnyH_take (i := 3) (v := ?v31_3) (by simp only [List.getElem?_toArray, List.getElem?_cons_succ, List.getElem?_cons_zero]; rfl) (by kernel_rfl) (by kernel_rfl) (by kernel_rfl) (by exact fun _ _ _ h => h) (Or.inl ⟨by rfl, ?h31_3⟩) hHeld ?_
                          case h31_3 => (intro w' hSw; obtain ⟨m, rfl⟩ := hSw; go_simp <;> with_reducible rfl)
                          try simp only [Act.put, List.setIfInBounds_toArray, List.set_cons_zero, List.set_cons_succ]
                          refine wpAnyH_take (i := 4) (v := ?v32_4) (by simp only [List.getElem?_toArray, List.getElem?_cons_succ, List.getElem?_cons_zero]; rfl) (by kernel_rfl) (by kernel_rfl) (by kernel_rfl) (by exact fun _ _ _ h => h) (Or.inl ⟨by rfl, ?h32_4⟩) hHeld ?_
                          case h32_4 => (intro w' hSw; obtain ⟨m, rfl⟩ := hSw; go_simp <;> with_reducible rfl)
                          try simp only [Act.put, List.setIfInBounds_toArray, List.set_cons_zero, List.set_cons_succ]
                          refine wpAnyH_take (i := 5) (v := ?v33_5) (by simp only [List.getElem?_toArray, List.getElem?_cons_succ, List.getElem?_cons_zero]; rfl) (by kernel_rfl) (by kernel_rfl) (by kernel_rfl) (by exact fun _ _ _ h => h) (Or.inl ⟨by rfl, ?h33_5⟩) hHeld ?_
                          case h33_5 => (intro w' hSw; obtain ⟨m, rfl⟩ := hSw; go_simp <;> with_reducible rfl)
                          try simp only [Act.put, List.setIfInBounds_toArray, List.set_cons_zero, List.set_cons_succ]
                          refine wpAnyH_take (i := 6) (v := ?v34_6) (by simp only [List.getElem?_toArray, List.getElem?_cons_succ, List.getElem?_cons_zero]; rfl) (by kernel_rfl) (by kernel_rfl) (by kernel_rfl) (by exact fun _ _ _ h => h) (Or.inl ⟨by rfl, ?h34_6⟩) hHeld ?_
                          case h34_6 => (intro w' hSw; obtain ⟨m, rfl⟩ := hSw; go_simp <;> with_reducible rfl)
                          try simp only [Act.put, List.setIfInBounds_toArray, List.set_cons_zero, List.set_cons_succ]
                          refine wpAnyH_take (i := 7) (v := ?v35_7) (by simp only [List.getElem?_toArray, List.getElem?_cons_succ, List.getElem?_cons_zero]; rfl) (by kernel_rfl) (by kernel_rfl) (by kernel_rfl) (by exact fun _ _ _ h => h) (Or.inl ⟨by rfl, ?h35_7⟩) hHeld ?_
                          case h35_7 => (intro w' hSw; obtain ⟨m, rfl⟩ := hSw; go_simp <;> with_reducible rfl)
                          try simp only [Act.put, List.setIfInBounds_toArray, List.set_cons_zero, List.set_cons_succ]
                          refine wpAnyH_take (i := 8) (v := ?v36_8) (by simp only [List.getElem?_toArray, List.getElem?_cons_succ, List.getElem?_cons_zero]; rfl) (by kernel_rfl) (by kernel_rfl) (by kernel_rfl) (by exact fun _ _ _ h => h) (Or.inl ⟨by rfl, ?h36_8⟩) hHeld ?_
                          case h36_8 => (intro w' hSw; obtain ⟨m, rfl⟩ := hSw; go_simp <;> with_reducible rfl)
                          try simp only [Act.put, List.setIfInBounds_toArray, List.set_cons_zero, List.set_cons_succ]
                          refine wpAnyH_done (by kernel_rfl) ?_ _
                          go_wp2_with fail
                          go_roundw
                          case rel => exact ⟨j' + 1, q + 1, s + 1, hlj, by go_num, by go_num, by omega, HN, rfl⟩
                          case measure => exact meas hlj
                        · have e0 : decide (xt = cp.t) = false := decide_eq_false hd2
                          have e1 : (xt == cp.t) = false := beq_eq_false_iff_ne.2 hd2
                          have HN := Lib.hid (show s = cnt cp (L2.take (j' + 1)) by rw [cnt_take (by omega) HXX.out, if_neg (by unfold eqC; simp [hd2]), ← HC.out]; rfl)
                          clear hd2 HXX
                          subst hd
                          go_wp2_with fail
                          refine wp_region_held_drew (S := Drawn wk) (by kernel_rfl) (by first | exact Drawn.of _ _ | exact Drawn.one _) (fun hHeld => ?_)
                          refine wpAnyH_take (i := 0) (v := ?v37_0) (by simp only [List.getElem?_toArray, List.getElem?_cons_succ, List.getElem?_cons_zero]; rfl) (by kernel_rfl) (by kernel_rfl) (by kernel_rfl) (by exact fun _ _ _ h => h) (Or.inl ⟨by rfl, ?h37_0⟩) hHeld ?_
                          case h37_0 => (intro w' hSw; obtain ⟨m, rfl⟩ := hSw; go_simp <;> with_reducible rfl)
                          try simp only [Act.put, List.setIfInBounds_toArray, List.set_cons_zero, List.set_cons_succ]
                          refine wpAnyH_take (i := 1) (v := ?v38_1) (by simp only [List.getElem?_toArray, List.getElem?_cons_succ, List.getElem?_cons_zero]; rfl) (by kernel_rfl) (by kernel_rfl) (by kernel_rfl) (by exact fun _ _ _ h => h) (Or.inl ⟨by rfl, ?h38_1⟩) hHeld ?_
                          case h38_1 => (intro w' hSw; obtain ⟨m, rfl⟩ := hSw; go_simp <;> with_reducible rfl)
                          try simp only [Act.put, List.setIfInBounds_toArray, List.set_cons_zero, List.set_cons_succ]
                          refine wpAnyH_take (i := 2) (v := ?v39_2) (by simp only [List.getElem?_toArray, List.getElem?_cons_succ, List.getElem?_cons_zero]; rfl) (by kernel_rfl) (by kernel_rfl) (by kernel_rfl) (by exact fun _ _ _ h => h) (Or.inl ⟨by rfl, ?h39_2⟩) hHeld ?_
                          case h39_2 => (intro w' hSw; obtain ⟨m, rfl⟩ := hSw; go_simp <;> with_reducible rfl)
                          try simp only [Act.put, List.setIfInBounds_toArray, List.set_cons_zero, List.set_cons_succ]
                          refine wpAnyH_take (i := 3) (v := ?v40_3) (by simp only [List.getElem?_toArray, List.getElem?_cons_succ, List.getElem?_cons_zero]; rfl) (by kernel_rfl) (by kernel_rfl) (by kernel_rfl) (by exact fun _ _ _ h => h) (Or.inl ⟨by rfl, ?h40_3⟩) hHeld ?_
                          case h40_3 => (intro w' hSw; obtain ⟨m, rfl⟩ := hSw; go_simp <;> with_reducible rfl)
                          try simp only [Act.put, List.setIfInBounds_toArray, List.set_cons_zero, List.set_cons_succ]
                          refine wpAnyH_take (i := 4) (v := ?v41_4) (by simp only [List.getElem?_toArray, List.getElem?_cons_succ, List.getElem?_cons_zero]; rfl) (by kernel_rfl) (by kernel_rfl) (by kernel_rfl) (by exact fun _ _ _ h => h) (Or.inl ⟨by rfl, ?h41_4⟩) hHeld ?_
                          case h41_4 => (intro w' hSw; obtain ⟨m, rfl⟩ := hSw; go_simp <;> with_reducible rfl)
                          try simp only [Act.put, List.setIfInBounds_toArray, List.set_cons_zero, List.set_cons_succ]
                          refine wpAnyH_take (i := 5) (v := ?v42_5) (by simp only [List.getElem?_toArray, List.getElem?_cons_succ, List.getElem?_cons_zero]; rfl) (by kernel_rfl) (by kernel_rfl) (by kernel_rfl) (by exact fun _ _ _ h => h) (Or.inl ⟨by rfl, ?h42_5⟩) hHeld ?_
                          case h42_5 => (intro w' hSw; obtain ⟨m, rfl⟩ := hSw; go_simp <;> with_reducible rfl)
                          try simp only [Act.put, List.setIfInBounds_toArray, List.set_cons_zero, List.set_cons_succ]
                          refine wpAnyH_take (i := 6) (v := ?v43_6) (by simp only [List.getElem?_toArray, List.getElem?_cons_succ, List.getElem?_cons_zero]; rfl) (by kernel_rfl) (by kernel_rfl) (by kernel_rfl) (by exact fun _ _ _ h => h) (Or.inl ⟨by rfl, ?h43_6⟩) hHeld ?_
                          case h43_6 => (intro w' hSw; obtain ⟨m, rfl⟩ := hSw; go_simp <;> with_reducible rfl)
                          try simp only [Act.put, List.setIfInBounds_toArray, List.set_cons_zero, List.set_cons_succ]
                          refine wpAnyH_take (i := 7) (v := ?v44_7) (by simp only [List.getElem?_toArray, List.getElem?_cons_succ, List.getElem?_cons_zero]; rfl) (by kernel_rfl) (by kernel_rfl) (by kernel_rfl) (by exact fun _ _ _ h => h) (Or.inl ⟨by rfl, ?h44_7⟩) hHeld ?_
                          case h44_7 => (intro w' hSw; obtain ⟨m, rfl⟩ := hSw; go_simp <;> with_reducible rfl)
                          try simp only [Act.put, List.setIfInBounds_toArray, List.set_cons_zero, List.set_cons_succ]
                          refine wpAnyH_take (i := 8) (v := ?v45_8) (by simp only [List.getElem?_toArray, List.getElem?_cons_succ, List.getElem?_cons_zero]; rfl) (by kernel_rfl) (by kernel_rfl) (by kernel_rfl) (by exact fun _ _ _ h => h) (Or.inl ⟨by rfl, ?h45_8⟩) hHeld ?_
                          case h45_8 => (intro w' hSw; obtain ⟨m, rfl⟩ := hSw; go_simp <;> with_reducible rfl)
                          try simp only [Act.put, List.setIfInBounds_toArray, List.set_cons_zero, List.set_cons_succ]
                          refine wpAnyH_done (by kernel_rfl) ?_ _
                          go_wp2_with fail
                          go_roundw
                          case rel => exact ⟨j' + 1, q + 1, s, hlj, by go_num, rfl, by omega, HN, rfl⟩
                          case measure => exact meas hlj
                      · have e0 : decide (xl = cp.lba) = false := decide_eq_false hd
                        have e1 : (xl == cp.lba) = false := beq_eq_false_iff_ne.2 hd
                        have HN := Lib.hid (show s = cnt cp (L2.take (j' + 1)) by rw [cnt_take (by omega) HXX.out, if_neg (by unfold eqC; simp [hd]), ← HC.out]; rfl)
                        clear hd HXX
                        go_wp2_with fail
                        refine wp_region_held_drew (S := Drawn wk) (by kernel_rfl) (by first | exact Drawn.of _ _ | exact Drawn.one _) (fun hHeld => ?_)
                        refine wpAnyH_take (i := 0) (v := ?v46_0) (by simp only [List.getElem?_toArray, List.getElem?_cons_succ, List.getElem?_cons_zero]; rfl) (by kernel_rfl) (by kernel_rfl) (by kernel_rfl) (by exact fun _ _ _ h => h) (Or.inl ⟨by rfl, ?h46_0⟩) hHeld ?_
                        case h46_0 => (intro w' hSw; obtain ⟨m, rfl⟩ := hSw; go_simp <;> with_reducible rfl)
                        try simp only [Act.put, List.setIfInBounds_toArray, List.set_cons_zero, List.set_cons_succ]
                        refine wpAnyH_take (i := 1) (v := ?v47_1) (by simp only [List.getElem?_toArray, List.getElem?_cons_succ, List.getElem?_cons_zero]; rfl) (by kernel_rfl) (by kernel_rfl) (by kernel_rfl) (by exact fun _ _ _ h => h) (Or.inl ⟨by rfl, ?h47_1⟩) hHeld ?_
                        case h47_1 => (intro w' hSw; obtain ⟨m, rfl⟩ := hSw; go_simp <;> with_reducible rfl)
                        try simp only [Act.put, List.setIfInBounds_toArray, List.set_cons_zero, List.set_cons_succ]
                        refine wpAnyH_take (i := 2) (v := ?v48_2) (by simp only [List.getElem?_toArray, List.getElem?_cons_succ, List.getElem?_cons_zero]; rfl) (by kernel_rfl) (by kernel_rfl) (by kernel_rfl) (by exact fun _ _ _ h => h) (Or.inl ⟨by rfl, ?h48_2⟩) hHeld ?_
                        case h48_2 => (intro w' hSw; obtain ⟨m, rfl⟩ := hSw; go_simp <;> with_reducible rfl)
                        try simp only [Act.put, List.setIfInBounds_toArray, List.set_cons_zero, List.set_cons_succ]
                        refine wpAnyH_take (i := 3) (v := ?v49_3) (by simp only [List.getElem?_toArray, List.getElem?_cons_succ, List.getElem?_cons_zero]; rfl) (by kernel_rfl) (by kernel_rfl) (by kernel_rfl) (by exact fun _ _ _ h => h) (Or.inl ⟨by rfl, ?h49_3⟩) hHeld ?_
                        case h49_3 => (intro w' hSw; obtain ⟨m, rfl⟩ := hSw; go_simp <;> with_reducible rfl)
                        try simp only [Act.put, List.setIfInBounds_toArray, List.set_cons_zero, List.set_cons_succ]
                        refine wpAnyH_take (i := 4) (v := ?v50_4) (by simp only [List.getElem?_toArray, List.getElem?_cons_succ, List.getElem?_cons_zero]; rfl) (by kernel_rfl) (by kernel_rfl) (by kernel_rfl) (by exact fun _ _ _ h => h) (Or.inl ⟨by rfl, ?h50_4⟩) hHeld ?_
                        case h50_4 => (intro w' hSw; obtain ⟨m, rfl⟩ := hSw; go_simp <;> with_reducible rfl)
                        try simp only [Act.put, List.setIfInBounds_toArray, List.set_cons_zero, List.set_cons_succ]
                        refine wpAnyH_take (i := 5) (v := ?v51_5) (by simp only [List.getElem?_toArray, List.getElem?_cons_succ, List.getElem?_cons_zero]; rfl) (by kernel_rfl) (by kernel_rfl) (by kernel_rfl) (by exact fun _ _ _ h => h) (Or.inl ⟨by rfl, ?h51_5⟩) hHeld ?_
                        case h51_5 => (intro w' hSw; obtain ⟨m, rfl⟩ := hSw; go_simp <;> with_reducible rfl)
                        try simp only [Act.put, List.setIfInBounds_toArray, List.set_cons_zero, List.set_cons_succ]
                        refine wpAnyH_take (i := 6) (v := ?v52_6) (by simp only [List.getElem?_toArray, List.getElem?_cons_succ, List.getElem?_cons_zero]; rfl) (by kernel_rfl) (by kernel_rfl) (by kernel_rfl) (by exact fun _ _ _ h => h) (Or.inl ⟨by rfl, ?h52_6⟩) hHeld ?_
                        case h52_6 => (intro w' hSw; obtain ⟨m, rfl⟩ := hSw; go_simp <;> with_reducible rfl)
                        try simp only [Act.put, List.setIfInBounds_toArray, List.set_cons_zero, List.set_cons_succ]
                        refine wpAnyH_take (i := 7) (v := ?v53_7) (by simp only [List.getElem?_toArray, List.getElem?_cons_succ, List.getElem?_cons_zero]; rfl) (by kernel_rfl) (by kernel_rfl) (by kernel_rfl) (by exact fun _ _ _ h => h) (Or.inl ⟨by rfl, ?h53_7⟩) hHeld ?_
                        case h53_7 => (intro w' hSw; obtain ⟨m, rfl⟩ := hSw; go_simp <;> with_reducible rfl)
                        try simp only [Act.put, List.setIfInBounds_toArray, List.set_cons_zero, List.set_cons_succ]
                        refine wpAnyH_take (i := 8) (v := ?v54_8) (by simp only [List.getElem?_toArray, List.getElem?_cons_succ, List.getElem?_cons_zero]; rfl) (by kernel_rfl) (by kernel_rfl) (by kernel_rfl) (by exact fun _ _ _ h => h) (Or.inl ⟨by rfl, ?h54_8⟩) hHeld ?_
                        case h54_8 => (intro w' hSw; obtain ⟨m, rfl⟩ := hSw; go_simp <;> with_reducible rfl)
                        try simp only [Act.put, List.setIfInBounds_toArray, List.set_cons_zero, List.set_cons_succ]
                        refine wpAnyH_done (by kernel_rfl) ?_ _
                        go_wp2_with fail
                        go_roundw
                        case rel => exact ⟨j' + 1, q + 1, s, hlj, by go_num, rfl, by omega, HN, rfl⟩
                        case measure => exact meas hlj
                    · have m0 : ¬ ((j' : Int) < (n2 : Int)) := by omega
                      have HB := Lib.hid (show s = cnt cp L2 by have := HC.out; rwa [List.take_of_length_le (by omega)] at this)
                      have hsbB : s ≤ 400 := by omega
                      clear hlj hj' HC hsj
                      obtain ⟨sB, hsB⟩ : ∃ sB, sB = s := ⟨_, rfl⟩
                      subst hsB
                      obtain ⟨qB, hqB⟩ : ∃ qB, qB = q := ⟨_, rfl⟩
                      subst hqB
                      have hsl : sB ≤ sA := by rw [HA.out, HB.out]; exact HS.out.1 cp
                      have gi := RO.out wk HK2.out.2.1 k HK2.out.2.2
                      simp only [HK2.out.1] at gi
                      obtain ⟨_, eb, _, i0, i1⟩ := gi
                      first | (injection eb with eb; subst eb) | subst eb
                      have e0 : decide ((sA : Int) < (sB : Int)) = false := decide_eq_false (by omega)
                      have e1 : decide (sA < sB) = false := decide_eq_false (by omega)
                      have HSL := Lib.hid (fun (hv : liveB g hz0 cp = true) => (show sA = sB by rw [HA.out, HB.out]; exact HS.out.2.1 cp hv))
                      have hlc := live_any w1.heap.size gm _ _ _ g cp hz0 (wk.drewN qB) (HE.out.1.next (HEV.out.trans ((bdrewN HK2.out.2.1 qB).mono HEV.out.size))) HE.out.2.2
                      clear hsl
                      go_wp2_with fail
                      refine hlc.mono ?_
                      rintro e w7 ⟨rfl, hb7⟩
                      have HW7 := Lib.hid ((bdrewN HK2.out.2.1 qB).trans (hb7.mono (bdrewN HK2.out.2.1 qB).size))
                      clear hb7 hlc
                      cases hlv : liveB g hz0 cp
                      · clear hlv
                        go_wp2_with fail
                        go_roundw
                        case rel => exact ⟨k + 1, hlt, by go_num, HW7.out⟩
                        case measure => exact meas hlt
                      · have hse := HSL.out hlv
                        have e2 : ((sA : Int) != (sB : Int)) = false := by simp; omega
                        have e3 : (sA != sB) = false := by simpa using hse
                        clear hlv hse
                        go_wp2_with fail
                        go_roundw
                        case rel => exact ⟨k + 1, hlt, by go_num, HW7.out⟩
                        case measure => exact meas hlt
            · have k0 : ¬ ((k : Int) < (n1 : Int)) := by omega
              have HW := Lib.hid (HS.out.2.2.2.2.trans (hW.mono HS.out.2.2.2.2.size))
              have e9 : decide ((n2 : Int) ≤ (n1 : Int)) = true := decide_eq_true (by omega)
              have e8 : decide (n2 ≤ n1) = true := decide_eq_true (by omega)
              clear hlt hk hW
              go_wp2_with fail
              refine (awake_any _).mono ?_
              rintro e w' ⟨rfl, hbA⟩
              go_wp2_with fail
              go_ret
              exact ⟨rfl, HW.out.trans (hbA.mono HW.out.size)⟩
end Go.Proofs.Ytchhnjadnacniaa.Cm
