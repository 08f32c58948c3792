/- The contract of clean.Next. -/
import Derived.Test.YtchhnjadnacniaaCmN
import Derived.Test.YtchhnjadnacniaaCmI
import Derived.Laws.ResultCell
import Derived.Laws.Rows
namespace Go.Proofs.Ytchhnjadnacniaa.Cm
set_option linter.unusedSimpArgs false
set_option linter.unusedVariables false
open Go.RowKit Rk

def rn (zs : List RoD) (i : Nat) : Nat := (zs.map (·.n)).getD i 0
def zn (g : Int → List Int) (hz size : Int) (zs : List RoD) (i : Nat) : Zn := (zs.map (zoneV g hz size)).getD i ⟨0, 0, 0⟩
/-- the full zones' numbers among the first k. -/
def idxF (zs : List RoD) (size : Int) (k : Nat) : List Nat := (List.range k).filter fun i => decide (size ≤ (rn zs i : Int))
def fullZ (g : Int → List Int) (hz size : Int) (zs : List RoD) (k : Nat) : List Zn := (idxF zs size k).map (zn g hz size zs)
theorem idxF_yes {zs : List RoD} {size : Int} {k : Nat} (h : size ≤ (rn zs k : Int)) : idxF zs size (k + 1) = idxF zs size k ++ [k] := by
  unfold idxF; rw [List.range_succ, List.filter_append]; simp [h]
theorem idxF_no {zs : List RoD} {size : Int} {k : Nat} (h : (rn zs k : Int) < size) : idxF zs size (k + 1) = idxF zs size k := by
  unfold idxF; rw [List.range_succ, List.filter_append]; simp; omega
theorem idxF_len (zs : List RoD) (size : Int) (k : Nat) : (idxF zs size k).length ≤ k := by
  have := List.length_filter_le (fun i => decide (size ≤ (rn zs i : Int))) (List.range k)
  rw [List.length_range] at this; exact this
theorem mem_idxF {zs : List RoD} {size : Int} {k i : Nat} : i ∈ idxF zs size k ↔ i < k ∧ size ≤ (rn zs i : Int) := by unfold idxF; simp [List.mem_filter]
theorem rn_at {zs : List RoD} {k : Nat} (hk : k < zs.length) {x : RoD} (hx : zs[k] = x) : rn zs k = x.n := by
  unfold rn; rw [List.getD_eq_getElem?_getD, List.getElem?_eq_getElem (by rw [List.length_map]; exact hk), List.getElem_map, hx]; rfl
theorem zn_at {g : Int → List Int} {hz size : Int} {zs : List RoD} {k : Nat} (hk : k < zs.length) : zn g hz size zs k = (zs.map (zoneV g hz size))[k]'(by rw [List.length_map]; exact hk) := by
  unfold zn; rw [List.getD_eq_getElem?_getD, List.getElem?_eq_getElem (by rw [List.length_map]; exact hk)]; rfl
theorem own_kept2 {w w' : World} {B1 B2 e1 e2 s1 s2 n1 n2 : Nat} {v1 v2 : Value} {xs1 xs2 : List Value} (h1 : w.ownsRow B1 e1 s1 v1 n1 xs1) (h2 : w.ownsRow B2 e2 s2 v2 n2 xs2) (he : e1 ≠ e2) (hg : w.grownBy w' v1.ownBlock) : w'.ownsRow B2 e2 s2 v2 n2 xs2 := by
  refine h2.kept hg ?_
  by_cases e : v2.ownBlock = none
  · exact .inl e
  · right
    intro h
    obtain ⟨b, hb⟩ := Option.ne_none_iff_exists'.1 e
    obtain ⟨_, cs2, f2, o2⟩ := own_obj h2 hb
    obtain ⟨_, cs1, f1, o1⟩ := own_obj h1 (h ▸ hb)
    rw [o1] at o2
    injection o2 with o2
    injection o2 with _ o2 _
    exact he o2
theorem own_caps {w : World} {B e size n c : Nat} {A : Option Addr} {xs : List Value} (h : w.ownsRow B e size (.slice A n c) n xs) : n ≤ c ∧ c ≤ maxLen := by
  rcases h.2 with ⟨hv, h0⟩ | ⟨g, cap, cur, hv, _, _, hnc, hcm, _⟩
  · injection hv with _ e1 e2; subst e1 e2; exact ⟨Nat.le_refl _, by simp [maxLen]⟩
  · injection hv with _ _ e; subst e; exact ⟨hnc, hcm⟩
theorem cps_of_own {w : World} {B n c : Nat} {A : Option Addr} {cs : List CpD} (h : w.ownsRow B 51 2 (.slice A n c) n (cs.flatMap CpD.cells)) (hl : cs.length = n) (hw : ∀ x ∈ cs, (Lit.int .i64 x.lba).wf = true ∧ (Lit.int .i64 x.t).wf = true) : IsCps w A n c cs :=
  ⟨hl, Rd.of_own2 h, (own_caps h).1, (own_caps h).2, hw⟩
def planC (i : Int) (m : Value) (d : Int) : Value := .agg #[.int .i64 i, m, .int .i64 d]
def nextB (zs : List RoD) (size : Int) : Prop := size < 1 ∨ hasBig zs size
def rankF (g : Int → List Int) (hz size now : Int) (zs : List RoD) : List Nat := rankV ((fullZ g hz size zs zs.length).map (wV now))
/-- what Next returns. -/
def NextR (e : Ending) (w' : World) (g : Int → List Int) (zs : List RoD) (size hz now : Int) : Prop :=
  (nextB zs size ∧ e = .returned (.tuple #[planC 0 (.slice none 0 0) 0, .int .i64 1])) ∨
  (¬ nextB zs size ∧ rankF g hz size now zs = [] ∧ e = .returned (.tuple #[planC 0 (.slice none 0 0) 0, .int .i64 14])) ∨
  (¬ nextB zs size ∧ ∃ q rs i, ∃ x : RoD, ∃ A c, rankF g hz size now zs = q :: rs ∧ (idxF zs size zs.length)[q]? = some i ∧ zs[i]? = some x ∧
    e = .returned (.tuple #[planC i (.slice A (liveL g hz x.cs).length c) ((x.n : Int) - (liveL g hz x.cs).length), .int .i64 0]) ∧ IsCps w' A (liveL g hz x.cs).length c (liveL g hz x.cs))
theorem zcells_snoc' (l : List Zn) (f : Nat → Zn) (k : Nat) : zcells (l ++ List.map f [k]) = zcells l ++ (f k).cells := zcells_snoc l (f k)
structure NS (g : Int → List Int) (hz size : Int) (zs : List RoD) (wz wr : World) (k : Nat) (v v2 : Value) : Prop where
  bel : Below wz.heap.size wz wr
  own : wr.ownsRow wz.heap.size 29 3 v (fullZ g hz size zs k).length (zcells (fullZ g hz size zs k))
  own2 : wr.ownsRow wz.heap.size 3 1 v2 (idxF zs size k).length ((idxF zs size k).map nv)
theorem NS.skip {g : Int → List Int} {hz size : Int} {zs : List RoD} {wz wr w' : World} {k : Nat} {v v2 : Value} (h : NS g hz size zs wz wr k v v2) (hb : Below wr.heap.size wr w') (hi : idxF zs size (k + 1) = idxF zs size k) : NS g hz size zs wz w' (k + 1) v v2 :=
  ⟨h.bel.trans (hb.mono h.bel.size), by unfold fullZ; rw [hi]; exact own_bel' h.own hb, by rw [hi]; exact own_bel' h.own2 hb⟩
theorem NS.push {g : Int → List Int} {hz size : Int} {zs : List RoD} {wz wr w5 w6 w7 w8 : World} {k : Nat} {v v2 v6 v8 : Value} {y : Zn} (h : NS g hz size zs wz wr k v v2) (hi : idxF zs size (k + 1) = idxF zs size k ++ [k]) (hy : zn g hz size zs k = y)
    (h5 : Below wr.heap.size wr w5) (h6 : w5.grownBy w6 v.ownBlock) (ho6 : w6.ownsRow wz.heap.size 29 3 v6 ((fullZ g hz size zs k).length + 1) (zcells (fullZ g hz size zs k) ++ y.cells)) (h7 : Below w6.heap.size w6 w7) (h8 : w7.grownBy w8 v2.ownBlock)
    (ho8 : w8.ownsRow wz.heap.size 3 1 v8 ((idxF zs size k).length + 1) ((idxF zs size k).map nv ++ [nv k])) : NS g hz size zs wz w8 (k + 1) v6 v8 := by
  have o5 := own_bel' h.own h5
  have p5 := own_bel' h.own2 h5
  have b5 := h.bel.trans (h5.mono h.bel.size)
  have b6 := b5.grown h6 b5.size (fun g hg => (own_obj o5 hg).1)
  have p6 := own_kept2 o5 p5 (by decide) h6
  have b7 := b6.trans (h7.mono b6.size)
  have o7 := own_bel' ho6 h7
  have p7 := own_bel' p6 h7
  refine ⟨b7.grown h8 b7.size (fun g hg => (own_obj p7 hg).1), ?_, ?_⟩
  · have := own_kept2 p7 o7 (by decide) h8
    unfold fullZ at this ⊢
    rw [hi, List.map_append, List.length_append, zcells_snoc' , hy]
    exact this
  · rw [hi, List.length_append, List.map_append]
    exact ho8
theorem infoPl : (Try.prog.info? 56).map (·.size) = some 3 := by kernel_rfl
theorem res_plan {fn : Func} {p u : Tmp} (h : fn.results = #[.cell p 56, .tmp u]) (tmps : Array Value) (w : World) (g : Nat) (cs : List Value) (hp : tmps.getD p undef = .pointer (some ⟨g, 0, none⟩)) (hg : Bk w g 56 cs) (hl : cs.length = 3 := by rfl) :
    (results fn tmps).run Try.prog w = .ok (.tuple #[.agg cs.toArray, tmps.getD u undef]) w := by
  rw [results_cell_tmp h, hp]
  simp [asAddr, run_loadVar_row w g 56 56 cs.toArray (0, 0) _ hg Try.underlying56 rfl (by rw [infoPl]; simp [hl]), Result.andThen]
theorem rank_mem {ws : List Nat} {q : Nat} {rs : List Nat} (h : rankV ws = q :: rs) : q < ws.length ∧ gt0 ws q ≠ 0 := by
  have : q ∈ rankV ws := by rw [h]; simp
  unfold rankV at this
  rw [List.mem_mergeSort] at this
  exact mem_keepN.1 this
set_option maxRecDepth 100000 in
set_option maxHeartbeats 4000000 in
theorem next_any (B gm N M : Nat) (last : Int) (g : Int → List Int) (A : Option Addr) (n c : Nat) (zs : List RoD) (size hz0 now : Int) (w : World) (hE : EV w B gm N M last g) (hM : M ≤ 100000) (hz : IsZs w A n c zs) (hn : n ≤ 1000) (hxn : ∀ x ∈ zs, x.n ≤ 1000) :
    Calls Try.prog 24 #[.pointer (some ⟨gm, 0, none⟩), .slice A n c, .int .i64 size, .int .i64 hz0, .int .i64 now] w fun e w' => NextR e w' g zs size hz0 now ∧ Below w.heap.size w w' := by
  have hl := hz.len
  obtain ⟨xi, xz, hxi, hxz, hx3, hx24, hxc⟩ := infoZs
  obtain ⟨i0, hi, hz0', hz1, hz2⟩ := info_parts infoI
  obtain ⟨w1, hw1⟩ : ∃ w1, (w.alloc (.cells #[.int .i64 size] 3)).alloc (.cells #[.int .i64 0, .slice none 0 0, .int .i64 0] 56) = w1 := ⟨_, rfl⟩
  have hb1 : Below w.heap.size w w1 := by rw [← hw1]; exact ((Below.refl _ _).alloc (Nat.le_refl _) _).alloc (by simp) _
  have hs1 : Bk w1 w.heap.size 3 [.int .i64 size] := by rw [← hw1]; exact (Bk.new w _ _).alloc _
  have hp1 : Bk w1 (w.heap.size + 1) 56 [.int .i64 0, .slice none 0 0, .int .i64 0] := by rw [← hw1]; simpa using Bk.new (w.alloc (.cells #[.int .i64 size] 3)) 56 [.int .i64 0, .slice none 0 0, .int .i64 0]
  have c0 := hs1.cell (i := 0) (by simp)
  have p0 := hp1.cell (i := 0) (by simp)
  have p1 := hp1.cell (i := 1) (by simp)
  have p2 := hp1.cell (i := 2) (by simp)
  have q0 := hp1.free 0
  have q1 := hp1.free 1
  have q2 := hp1.free 2
  simp only [List.getElem_cons_zero, List.getElem_cons_succ] at c0 p0 p1 p2
  have HH := Lib.hid (And.intro hb1 (And.intro hs1 hp1))
  clear hb1 hs1 hp1
  by_cases hsz : size < 1
  · have t0 : decide (size < 1) = true := decide_eq_true hsz
    have HN := Lib.hid (show nextB zs size from .inl hsz)
    clear hsz
    obtain ⟨w9, hw9⟩ : ∃ w9, ((w1.setCell ⟨w.heap.size + 1, 0, none⟩ (.int .i64 0)).setCell ⟨w.heap.size + 1, 1, none⟩ (.slice none 0 0)).setCell ⟨w.heap.size + 1, 2, none⟩ (.int .i64 0) = w9 := ⟨_, rfl⟩
    have hr9 : Bk w9 (w.heap.size + 1) 56 [.int .i64 0, (.slice none 0 0), .int .i64 0] := by rw [← hw9]; exact ((HH.out.2.2.set 0 _).set 1 _).set 2 _
    have r0 := hr9.cell (i := 0) (by simp)
    have r1 := hr9.cell (i := 1) (by simp)
    have r2 := hr9.cell (i := 2) (by simp)
    simp only [List.getElem_cons_zero, List.getElem_cons_succ] at r0 r1 r2
    have hb9 : Below w.heap.size w w9 := by rw [← hw9]; exact ((HH.out.1.setCell (p := ⟨w.heap.size + 1, 0, none⟩) (Nat.le_succ _) _).setCell (p := ⟨w.heap.size + 1, 1, none⟩) (Nat.le_succ _) _).setCell (p := ⟨w.heap.size + 1, 2, none⟩) (Nat.le_succ _) _
    have H9 := Lib.hid (And.intro hb9 hr9)
    clear hr9 hb9
    go_enter Try.func24, Try.ntmps24
    go_wp2_with fail
    go_step3
    go_wp2_with fail
    (try simp only [Exit.inBlock, Exit.then, Exit.noGoto_ret])
    refine bodyPost_ret (res_plan rfl _ _ _ _ (by rfl) H9.out.2) rfl ?_
    exact ⟨.inl ⟨HN.out, rfl⟩, H9.out.1⟩
  · have t0 : decide (size < 1) = false := decide_eq_false hsz
    have HSZ := Lib.hid (show 1 ≤ size by omega)
    clear hsz
    go_enter Try.func24, Try.ntmps24
    go_wp2_with fail
    go_step3
    go_wp2_with fail
    refine (has2_any _ _ _ _ zs size _ (hz.next HH.out.1) c0 (by omega)).mono ?_
    rintro e w' ⟨hh, rfl⟩
    rcases hh with ⟨rfl, hb⟩ | ⟨rfl, hb⟩
    · have HN := Lib.hid (show nextB zs size from .inr hb)
      clear hb
      obtain ⟨w9, hw9⟩ : ∃ w9, ((w1.setCell ⟨w.heap.size + 1, 0, none⟩ (.int .i64 0)).setCell ⟨w.heap.size + 1, 1, none⟩ (.slice none 0 0)).setCell ⟨w.heap.size + 1, 2, none⟩ (.int .i64 0) = w9 := ⟨_, rfl⟩
      have hr9 : Bk w9 (w.heap.size + 1) 56 [.int .i64 0, (.slice none 0 0), .int .i64 0] := by rw [← hw9]; exact ((HH.out.2.2.set 0 _).set 1 _).set 2 _
      have r0 := hr9.cell (i := 0) (by simp)
      have r1 := hr9.cell (i := 1) (by simp)
      have r2 := hr9.cell (i := 2) (by simp)
      simp only [List.getElem_cons_zero, List.getElem_cons_succ] at r0 r1 r2
      have hb9 : Below w.heap.size w w9 := by rw [← hw9]; exact ((HH.out.1.setCell (p := ⟨w.heap.size + 1, 0, none⟩) (Nat.le_succ _) _).setCell (p := ⟨w.heap.size + 1, 1, none⟩) (Nat.le_succ _) _).setCell (p := ⟨w.heap.size + 1, 2, none⟩) (Nat.le_succ _) _
      have H9 := Lib.hid (And.intro hb9 hr9)
      clear hr9 hb9
      go_wp2_with fail
      (try simp only [Exit.inBlock, Exit.then, Exit.noGoto_ret])
      refine bodyPost_ret (res_plan rfl _ _ _ _ (by rfl) H9.out.2) rfl ?_
      exact ⟨.inl ⟨HN.out, rfl⟩, H9.out.1⟩
    · have HN := Lib.hid (show ¬ nextB zs size from fun h => by rcases h with h | h; have := HSZ.out; omega; exact hb h)
      clear hb
      go_wp2_with fail
      go_step3
      go_wp2_with fail
      refine (zones_any B gm N M last g A n c zs size hz0 w1 (hE.next HH.out.1) hM (hz.next HH.out.1) (by omega) (fun x hx => Nat.le_trans (hxn x hx) (by omega))).mono ?_
      rintro e wz ⟨⟨ZA, zc, rfl, hZ⟩, hbz⟩
      have hBz : Below w.heap.size w wz := HH.out.1.trans (hbz.mono HH.out.1.size)
      have hzr := Rd.of_own2 hZ
      have hsz := HH.out.2.1.next hbz HH.out.2.1.lt
      have hpz := HH.out.2.2.next hbz HH.out.2.2.lt
      have HZ := Lib.hid (And.intro hBz (And.intro hzr (And.intro hsz (And.intro hpz (hE.next hBz)))))
      clear hBz hzr hsz hpz hZ hbz c0 p0 p1 p2 q0 q1 q2
      go_wp2_with fail
      go_loopw [12, 13, 34] (fun v v2 i wr => ∃ k : Nat, k ≤ n ∧ i = .int .i64 (k : Int) ∧ NS g hz0 size zs wz wr k v v2) (fun _ _ i _ => n - (intOf i).toNat)
      case atStart => exact ⟨0, Nat.zero_le _, rfl, Below.refl _ _, ⟨rfl, .inl ⟨rfl, rfl⟩⟩, ⟨rfl, .inl ⟨rfl, rfl⟩⟩⟩
      case round =>
        obtain ⟨k, hk, rfl, hNS⟩ := hrel
        by_cases hlt : k < n
        · obtain ⟨x, hxk⟩ : ∃ x, zs[k]'(by omega) = x := ⟨_, rfl⟩
          have hBr := HZ.out.1.trans (hNS.bel.mono HZ.out.1.size)
          obtain ⟨ad, rfl, had, c0⟩ := (hz.rd.next (Nat.le_refl _) hBr).get (k := k) (by rw [List.length_map]; omega)
          rw [List.getElem_map, hxk] at c0
          unfold RoD.cell at c0
          obtain ⟨y, hy⟩ : ∃ y, (zs.map (zoneV g hz0 size))[k]'(by rw [List.length_map]; omega) = y := ⟨_, rfl⟩
          obtain ⟨ad2, rfl, had2, z0, z1, z2⟩ := zone_get (HZ.out.2.1.next (Nat.le_refl _) hNS.bel) (k := k) (by rw [List.length_map]; omega)
          rw [hy] at z0 z1 z2
          have hszr := HZ.out.2.2.1.next hNS.bel HZ.out.2.2.1.lt
          obtain ⟨w4, hw4⟩ : ∃ w4, wr.alloc (.cells #[.int .i64 y.l, .int .i64 y.s, .int .i64 y.t] 29) = w4 := ⟨_, rfl⟩
          have hb4 : Below wr.heap.size wr w4 := by rw [← hw4]; exact (Below.refl _ _).alloc (Nat.le_refl _) _
          have hx4 : Bk w4 wr.heap.size 29 [.int .i64 y.l, .int .i64 y.s, .int .i64 y.t] := by rw [← hw4]; exact Bk.new wr _ _
          have d0 := hx4.cell (i := 0) (by simp)
          have d1 := hx4.cell (i := 1) (by simp)
          have d2 := hx4.cell (i := 2) (by simp)
          have c1 : w4.cell? (ad.add k) = some (.slice x.A x.n x.c) := by rw [hb4.cell (by rw [add_block]; exact Nat.lt_of_lt_of_le had hBr.size)]; exact c0
          have c2 := (hszr.next hb4 hszr.lt).cell (i := 0) (by simp)
          simp only [List.getElem_cons_zero, List.getElem_cons_succ] at d0 d1 d2 c2
          have n0 : (k : Int) < (n : Int) := by omega
          have n1 : (0 : Int) ≤ (k : Int) := by omega
          have HX := Lib.hid (And.intro hxk (And.intro hy hb4))
          clear hxk hy hb4 hx4 had had2 hBr hszr
          by_cases hlx : (x.n : Int) < size
          · have t1 : decide ((x.n : Int) < size) = true := decide_eq_true hlx
            have HI := Lib.hid (show idxF zs size (k + 1) = idxF zs size k from idxF_no (by rw [rn_at (by omega) HX.out.1]; exact hlx))
            clear hlx
            go_wp2_with fail
            refine wp_region_held_drew (S := Drawn w4) (by kernel_rfl) (by first | exact Drawn.of _ _ | exact Drawn.one _) (fun hHeld => ?_)
            refine wpAnyH_take (i := 0) (v := ?v1_0) (by simp only [List.getElem?_toArray, List.getElem?_cons_succ, List.getElem?_cons_zero]; rfl) (by kernel_rfl) (by kernel_rfl) (by kernel_rfl) (by exact fun _ _ _ h => h) (Or.inl ⟨by rfl, ?h1_0⟩) hHeld ?_
            case h1_0 => (intro w' hSw; obtain ⟨m, rfl⟩ := hSw; go_simp <;> with_reducible rfl)
            try simp only [Act.put, List.setIfInBounds_toArray, List.set_cons_zero, List.set_cons_succ]
            refine wpAnyH_take (i := 1) (v := ?v2_1) (by simp only [List.getElem?_toArray, List.getElem?_cons_succ, List.getElem?_cons_zero]; rfl) (by kernel_rfl) (by kernel_rfl) (by kernel_rfl) (by exact fun _ _ _ h => h) (Or.inl ⟨by rfl, ?h2_1⟩) hHeld ?_
            case h2_1 => (intro w' hSw; obtain ⟨m, rfl⟩ := hSw; go_simp <;> with_reducible rfl)
            try simp only [Act.put, List.setIfInBounds_toArray, List.set_cons_zero, List.set_cons_succ]
            refine wpAnyH_take (i := 2) (v := ?v3_2) (by simp only [List.getElem?_toArray, List.getElem?_cons_succ, List.getElem?_cons_zero]; rfl) (by kernel_rfl) (by kernel_rfl) (by kernel_rfl) (by exact fun _ _ _ h => h) (Or.inl ⟨by rfl, ?h3_2⟩) hHeld ?_
            case h3_2 => (intro w' hSw; obtain ⟨m, rfl⟩ := hSw; go_simp <;> with_reducible rfl)
            try simp only [Act.put, List.setIfInBounds_toArray, List.set_cons_zero, List.set_cons_succ]
            refine wpAnyH_take (i := 3) (v := ?v4_3) (by simp only [List.getElem?_toArray, List.getElem?_cons_succ, List.getElem?_cons_zero]; rfl) (by kernel_rfl) (by kernel_rfl) (by kernel_rfl) (by exact fun _ _ _ h => h) (Or.inl ⟨by rfl, ?h4_3⟩) hHeld ?_
            case h4_3 => (intro w' hSw; obtain ⟨m, rfl⟩ := hSw; go_simp <;> with_reducible rfl)
            try simp only [Act.put, List.setIfInBounds_toArray, List.set_cons_zero, List.set_cons_succ]
            refine wpAnyH_take (i := 4) (v := ?v5_4) (by simp only [List.getElem?_toArray, List.getElem?_cons_succ, List.getElem?_cons_zero]; rfl) (by kernel_rfl) (by kernel_rfl) (by kernel_rfl) (by exact fun _ _ _ h => h) (Or.inl ⟨by rfl, ?h5_4⟩) hHeld ?_
            case h5_4 => (intro w' hSw; obtain ⟨m, rfl⟩ := hSw; go_simp <;> with_reducible rfl)
            try simp only [Act.put, List.setIfInBounds_toArray, List.set_cons_zero, List.set_cons_succ]
            refine wpAnyH_take (i := 5) (v := ?v6_5) (by simp only [List.getElem?_toArray, List.getElem?_cons_succ, List.getElem?_cons_zero]; rfl) (by kernel_rfl) (by kernel_rfl) (by kernel_rfl) (by exact fun _ _ _ h => h) (Or.inl ⟨by rfl, ?h6_5⟩) hHeld ?_
            case h6_5 => (intro w' hSw; obtain ⟨m, rfl⟩ := hSw; go_simp <;> with_reducible rfl)
            try simp only [Act.put, List.setIfInBounds_toArray, List.set_cons_zero, List.set_cons_succ]
            refine wpAnyH_take (i := 6) (v := ?v7_6) (by simp only [List.getElem?_toArray, List.getElem?_cons_succ, List.getElem?_cons_zero]; rfl) (by kernel_rfl) (by kernel_rfl) (by kernel_rfl) (by exact fun _ _ _ h => h) (Or.inl ⟨by rfl, ?h7_6⟩) hHeld ?_
            case h7_6 => (intro w' hSw; obtain ⟨m, rfl⟩ := hSw; go_simp <;> with_reducible rfl)
            try simp only [Act.put, List.setIfInBounds_toArray, List.set_cons_zero, List.set_cons_succ]
            refine wpAnyH_done (by kernel_rfl) ?_ _
            go_wp2_with fail
            have hN2 := hNS.skip (bdrew HX.out.2.2) HI.out
            go_roundw
            case rel => exact ⟨k + 1, hlt, by go_num, hN2⟩
            case measure => exact meas hlt
          · have t1 : decide ((x.n : Int) < size) = false := decide_eq_false hlx
            have HI := Lib.hid (show idxF zs size (k + 1) = idxF zs size k ++ [k] from idxF_yes (by rw [rn_at (by omega) HX.out.1]; omega))
            clear hlx
            go_wp2_with fail
            refine wp_region_held_drew (S := Drawn w4) (by kernel_rfl) (by first | exact Drawn.of _ _ | exact Drawn.one _) (fun hHeld => ?_)
            refine wpAnyH_take (i := 0) (v := ?v8_0) (by simp only [List.getElem?_toArray, List.getElem?_cons_succ, List.getElem?_cons_zero]; rfl) (by kernel_rfl) (by kernel_rfl) (by kernel_rfl) (by exact fun _ _ _ h => h) (Or.inl ⟨by rfl, ?h8_0⟩) hHeld ?_
            case h8_0 => (intro w' hSw; obtain ⟨m, rfl⟩ := hSw; go_simp <;> with_reducible rfl)
            try simp only [Act.put, List.setIfInBounds_toArray, List.set_cons_zero, List.set_cons_succ]
            refine wpAnyH_take (i := 1) (v := ?v9_1) (by simp only [List.getElem?_toArray, List.getElem?_cons_succ, List.getElem?_cons_zero]; rfl) (by kernel_rfl) (by kernel_rfl) (by kernel_rfl) (by exact fun _ _ _ h => h) (Or.inl ⟨by rfl, ?h9_1⟩) hHeld ?_
            case h9_1 => (intro w' hSw; obtain ⟨m, rfl⟩ := hSw; go_simp <;> with_reducible rfl)
            try simp only [Act.put, List.setIfInBounds_toArray, List.set_cons_zero, List.set_cons_succ]
            refine wpAnyH_take (i := 2) (v := ?v10_2) (by simp only [List.getElem?_toArray, List.getElem?_cons_succ, List.getElem?_cons_zero]; rfl) (by kernel_rfl) (by kernel_rfl) (by kernel_rfl) (by exact fun _ _ _ h => h) (Or.inl ⟨by rfl, ?h10_2⟩) hHeld ?_
            case h10_2 => (intro w' hSw; obtain ⟨m, rfl⟩ := hSw; go_simp <;> with_reducible rfl)
            try simp only [Act.put, List.setIfInBounds_toArray, List.set_cons_zero, List.set_cons_succ]
            refine wpAnyH_take (i := 3) (v := ?v11_3) (by simp only [List.getElem?_toArray, List.getElem?_cons_succ, List.getElem?_cons_zero]; rfl) (by kernel_rfl) (by kernel_rfl) (by kernel_rfl) (by exact fun _ _ _ h => h) (Or.inl ⟨by rfl, ?h11_3⟩) hHeld ?_
            case h11_3 => (intro w' hSw; obtain ⟨m, rfl⟩ := hSw; go_simp <;> with_reducible rfl)
            try simp only [Act.put, List.setIfInBounds_toArray, List.set_cons_zero, List.set_cons_succ]
            refine wpAnyH_take (i := 4) (v := ?v12_4) (by simp only [List.getElem?_toArray, List.getElem?_cons_succ, List.getElem?_cons_zero]; rfl) (by kernel_rfl) (by kernel_rfl) (by kernel_rfl) (by exact fun _ _ _ h => h) (Or.inl ⟨by rfl, ?h12_4⟩) hHeld ?_
            case h12_4 => (intro w' hSw; obtain ⟨m, rfl⟩ := hSw; go_simp <;> with_reducible rfl)
            try simp only [Act.put, List.setIfInBounds_toArray, List.set_cons_zero, List.set_cons_succ]
            refine wpAnyH_take (i := 5) (v := ?v13_5) (by simp only [List.getElem?_toArray, List.getElem?_cons_succ, List.getElem?_cons_zero]; rfl) (by kernel_rfl) (by kernel_rfl) (by kernel_rfl) (by exact fun _ _ _ h => h) (Or.inl ⟨by rfl, ?h13_5⟩) hHeld ?_
            case h13_5 => (intro w' hSw; obtain ⟨m, rfl⟩ := hSw; go_simp <;> with_reducible rfl)
            try simp only [Act.put, List.setIfInBounds_toArray, List.set_cons_zero, List.set_cons_succ]
            refine wpAnyH_take (i := 6) (v := ?v14_6) (by simp only [List.getElem?_toArray, List.getElem?_cons_succ, List.getElem?_cons_zero]; rfl) (by kernel_rfl) (by kernel_rfl) (by kernel_rfl) (by exact fun _ _ _ h => h) (Or.inl ⟨by rfl, ?h14_6⟩) hHeld ?_
            case h14_6 => (intro w' hSw; obtain ⟨m, rfl⟩ := hSw; go_simp <;> with_reducible rfl)
            try simp only [Act.put, List.setIfInBounds_toArray, List.set_cons_zero, List.set_cons_succ]
            refine wpAnyH_done (by kernel_rfl) ?_ _
            have h5 : Below wr.heap.size wr (w4.alloc (.cells #[.int .i64 y.l, .int .i64 y.s, .int .i64 y.t] 29)).drew := bdrew (HX.out.2.2.alloc HX.out.2.2.size _)
            have HG := Lib.hid (And.intro (own_bel' hNS.own h5) (And.intro (own_bel' hNS.own2 h5) h5))
            have HLEN := Lib.hid (show (fullZ g hz0 size zs k).length ≤ 1000 ∧ (idxF zs size k).length ≤ 1000 by unfold fullZ; rw [List.length_map]; have := idxF_len zs size k; omega)
            have HBS := Lib.hid (show wz.heap.size ≤ (w4.alloc (.cells #[.int .i64 y.l, .int .i64 y.s, .int .i64 y.t] 29)).drew.heap.size from Nat.le_trans hNS.bel.size h5.size)
            clear h5
            go_wp2_with (first
              | (at_builtin; refine wpList_appK _ rfl _ _ 22 rfl wz.heap.size 29 xi xz 24 Try.underlying22 hxi hxz 3 (by decide) hx3 hx24 hxc _ (fullZ g hz0 size zs k).length _ (by rfl) (by exact HG.out.1) (w4.heap.size + 1) (some ⟨w4.heap.size, 0, none⟩) 1 1 [.int .i64 y.l, .int .i64 y.s, .int .i64 y.t] (by rfl) rfl (by simpa using (Bk.new w4 29 [.int .i64 y.l, .int .i64 y.s, .int .i64 y.t]).drew.rd) (by intro u hu; simp at hu; rcases hu with rfl | rfl | rfl <;> rfl) (by have := HLEN.out.1; omega) (by have := HLEN.out.1; omega) (by exact HBS.out) ?_; intro v6 W6 hO6 hG6; have hb7 : Below W6.heap.size W6 (W6.alloc (.cells #[.int .i64 (k : Int)] 3)) := (Below.refl _ _).alloc (Nat.le_refl _) _; have hP7 := own_bel' (own_kept2 HG.out.1 HG.out.2.1 (by decide) hG6) hb7; have HP := Lib.hid (And.intro hO6 (And.intro hG6 (And.intro hb7 hP7))); clear hO6 hG6 hb7 hP7)
              | (at_builtin; go_must (refine wpList_appN _ rfl _ _ 25 rfl wz.heap.size 3 i0 (.int .i64 0) 8 Try.underlying25 hi hz0' hz1 hz2 rfl _ (idxF zs size k).length _ (by rfl) (by exact HP.out.2.2.2) (W6.heap.size + 1) (some ⟨W6.heap.size, 0, none⟩) 1 1 [.int .i64 (k : Int)] (by rfl) rfl (by simpa using (Bk.new W6 3 [.int .i64 (k : Int)]).rd) (by intro u hu; simp at hu; subst hu; rfl) (by have := HLEN.out.2; omega) (by have := HLEN.out.2; omega) (by exact Nat.le_trans HBS.out (Nat.le_trans HP.out.2.1.size HP.out.2.2.1.size)) ?_); intro v8 W8 hO8 hG8))
            have hN8 := hNS.push HI.out (y := y) (by rw [zn_at (by omega)]; exact HX.out.2.1) HG.out.2.2 HP.out.2.1 HP.out.1 HP.out.2.2.1 hG8 hO8
            go_roundw
            case rel => exact ⟨k + 1, hlt, by go_num, hN8⟩
            case measure => exact meas hlt
        · obtain rfl : k = n := by omega
          obtain ⟨FA, fc, rfl⟩ := own_shape hNS.own
          obtain ⟨NA, nc, rfl⟩ := own_shape hNS.own2
          have hFZ : IsZones wr FA (fullZ g hz0 size zs k).length fc (fullZ g hz0 size zs k) := ⟨rfl, Rd.of_own2 hNS.own, (own_caps hNS.own).1, (own_caps hNS.own).2⟩
          have hfl : (fullZ g hz0 size zs k).length ≤ 100000 := by unfold fullZ; rw [List.length_map]; have := idxF_len zs size k; omega
          have HR := Lib.hid (show rankF g hz0 size now zs = rankV ((fullZ g hz0 size zs k).map (wV now)) by unfold rankF; rw [hl])
          have hBr := HZ.out.1.trans (hNS.bel.mono HZ.out.1.size)
          have HQ := Lib.hid (And.intro hBr (And.intro (HZ.out.2.2.2.1.next hNS.bel HZ.out.2.2.2.1.lt) (And.intro (Rd.of_own2 hNS.own2) (HZ.out.2.2.2.2.next hNS.bel))))
          clear hNS hBr
          cases hrk : rankV ((fullZ g hz0 size zs k).map (wV now)) with
          | nil =>
            have hch := choose_none FA _ fc _ now wr hFZ hfl hrk
            have HK := Lib.hid hrk
            clear hrk hFZ
            go_wp2_with fail
            refine hch.mono ?_
            rintro e w5 ⟨rfl, hb5⟩
            have hp5 := HQ.out.2.1.next hb5 HQ.out.2.1.lt
            have hB5 := HQ.out.1.trans (hb5.mono HQ.out.1.size)
            have p0 := hp5.cell (i := 0) (by simp)
            have p1 := hp5.cell (i := 1) (by simp)
            have p2 := hp5.cell (i := 2) (by simp)
            have q0 := hp5.free 0
            have q1 := hp5.free 1
            have q2 := hp5.free 2
            simp only [List.getElem_cons_zero, List.getElem_cons_succ] at p0 p1 p2
            obtain ⟨w9, hw9⟩ : ∃ w9, ((w5.setCell ⟨w.heap.size + 1, 0, none⟩ (.int .i64 0)).setCell ⟨w.heap.size + 1, 1, none⟩ (.slice none 0 0)).setCell ⟨w.heap.size + 1, 2, none⟩ (.int .i64 0) = w9 := ⟨_, rfl⟩
            have hr9 : Bk w9 (w.heap.size + 1) 56 [.int .i64 0, (.slice none 0 0), .int .i64 0] := by rw [← hw9]; exact ((hp5.set 0 _).set 1 _).set 2 _
            have r0 := hr9.cell (i := 0) (by simp)
            have r1 := hr9.cell (i := 1) (by simp)
            have r2 := hr9.cell (i := 2) (by simp)
            simp only [List.getElem_cons_zero, List.getElem_cons_succ] at r0 r1 r2
            have hb9 : Below w.heap.size w w9 := by rw [← hw9]; exact ((hB5.setCell (p := ⟨w.heap.size + 1, 0, none⟩) (Nat.le_succ _) _).setCell (p := ⟨w.heap.size + 1, 1, none⟩) (Nat.le_succ _) _).setCell (p := ⟨w.heap.size + 1, 2, none⟩) (Nat.le_succ _) _
            have H9 := Lib.hid (And.intro hb9 hr9)
            clear hr9 hb9
            go_wp2_with fail
            (try simp only [Exit.inBlock, Exit.then, Exit.noGoto_ret])
            refine bodyPost_ret (res_plan rfl _ _ _ _ (by rfl) H9.out.2) rfl ?_
            exact ⟨.inr (.inl ⟨HN.out, HR.out.trans HK.out, rfl⟩), H9.out.1⟩
          | cons q rs =>
            have hq : q < (idxF zs size k).length := by have := (rank_mem hrk).1; rw [List.length_map] at this; unfold fullZ at this; rw [List.length_map] at this; exact this
            obtain ⟨i, hiq⟩ : ∃ i, (idxF zs size k)[q] = i := ⟨_, rfl⟩
            have hik : i < k := (mem_idxF.1 (by rw [← hiq]; exact List.getElem_mem hq)).1
            obtain ⟨x, hxi'⟩ : ∃ x, zs[i]'(by omega) = x := ⟨_, rfl⟩
            have hxm : x ∈ zs := by rw [← hxi']; exact List.getElem_mem _
            have hch := choose_some FA _ fc _ now wr hFZ hfl q rs hrk
            obtain ⟨nl, hnl⟩ : ∃ nl, (idxF zs size k).length = nl := ⟨_, rfl⟩
            have HK := Lib.hid (And.intro hrk (And.intro hiq (And.intro hxi' hnl)))
            have n0 : (0 : Int) ≤ (q : Int) := by omega
            have n1 : (q : Int) < (nl : Int) := by omega
            have n2 : (0 : Int) ≤ (i : Int) := by omega
            have n3 : (i : Int) < (k : Int) := by omega
            rw [hnl]
            have hng := HQ.out.2.2.1.get (k := q) (by rw [List.length_map]; exact hq)
            rw [List.getElem_map, hiq] at hng
            obtain ⟨adn, rfl, hadn, e0⟩ := hng
            have HC := Lib.hid (And.intro (hz.rows x hxm) (hxn x hxm))
            clear hrk hFZ hnl hiq hxi'
            go_wp2_with fail
            refine hch.mono ?_
            rintro e w5 ⟨rfl, hb5⟩
            have hp5 := HQ.out.2.1.next hb5 HQ.out.2.1.lt
            have hB5 := HQ.out.1.trans (hb5.mono HQ.out.1.size)
            have e1 : w5.cell? (adn.add q) = some (.int .i64 (i : Int)) := by rw [hb5.cell (by rw [add_block]; exact hadn)]; exact e0
            have hzg := (hz.rd.next (Nat.le_refl _) hB5).get (k := i) (by rw [List.length_map]; omega)
            rw [List.getElem_map, show zs[i]'(by omega) = x from HK.out.2.2.1] at hzg
            unfold RoD.cell at hzg
            obtain ⟨adz, rfl, hadz, e2⟩ := hzg
            have HP5 := Lib.hid (And.intro hp5 (And.intro hB5 hb5))
            clear hp5 hB5 hb5 hadz
            go_wp2_with fail
            refine (living_any B gm N M last g x.A x.n x.c x.cs hz0 w5 (HQ.out.2.2.2.next HP5.out.2.2) hM (HC.out.1.next HP5.out.2.1) (by have := HC.out.2; omega)).mono ?_
            rintro e w6 ⟨⟨LA, lc, rfl, hO6⟩, hb6⟩
            have hp6 := HP5.out.1.next hb6 HP5.out.1.lt
            have hB6 := HP5.out.2.1.trans (hb6.mono HP5.out.2.1.size)
            have e3 : w6.cell? (adn.add q) = some (.int .i64 (i : Int)) := by rw [hb6.cell (by rw [add_block]; exact Nat.lt_of_lt_of_le hadn HP5.out.2.2.size)]; exact e1
            have p0 := hp6.cell (i := 0) (by simp)
            have p1 := hp6.cell (i := 1) (by simp)
            have p2 := hp6.cell (i := 2) (by simp)
            have q0 := hp6.free 0
            have q1 := hp6.free 1
            have q2 := hp6.free 2
            simp only [List.getElem_cons_zero, List.getElem_cons_succ] at p0 p1 p2
            have hll := liveL_len g hz0 x.cs
            rw [HC.out.1.len] at hll
            have HL := Lib.hid (show IsCps w6 LA (liveL g hz0 x.cs).length lc (liveL g hz0 x.cs) ∧ w6.ownsRow w5.heap.size 51 2 (.slice LA (liveL g hz0 x.cs).length lc) (liveL g hz0 x.cs).length ((liveL g hz0 x.cs).flatMap CpD.cells) from ⟨cps_of_own hO6 rfl fun y hy => HC.out.1.wf y (List.mem_filter.1 hy).1, hO6⟩)
            have hW : wrap64 ((x.n : Int) - ((liveL g hz0 x.cs).length : Int)) = (x.n : Int) - ((liveL g hz0 x.cs).length : Int) := by have := HC.out.2; unfold wrap64; omega
            obtain ⟨nm, hnm⟩ : ∃ nm, (liveL g hz0 x.cs).length = nm := ⟨_, rfl⟩
            rw [hnm] at hW
            rw [hnm]
            have HNM := Lib.hid hnm
            clear hll hO6 hnm
            obtain ⟨w9, hw9⟩ : ∃ w9, ((w6.setCell ⟨w.heap.size + 1, 0, none⟩ (.int .i64 (i : Int))).setCell ⟨w.heap.size + 1, 1, none⟩ (.slice LA nm lc)).setCell ⟨w.heap.size + 1, 2, none⟩ (.int .i64 ((x.n : Int) - (nm : Int))) = w9 := ⟨_, rfl⟩
            have hr9 : Bk w9 (w.heap.size + 1) 56 [.int .i64 (i : Int), (.slice LA nm lc), .int .i64 ((x.n : Int) - (nm : Int))] := by rw [← hw9]; exact ((hp6.set 0 _).set 1 _).set 2 _
            have r0 := hr9.cell (i := 0) (by simp)
            have r1 := hr9.cell (i := 1) (by simp)
            have r2 := hr9.cell (i := 2) (by simp)
            simp only [List.getElem_cons_zero, List.getElem_cons_succ] at r0 r1 r2
            have hb9 : Below w.heap.size w w9 := by rw [← hw9]; exact ((hB6.setCell (p := ⟨w.heap.size + 1, 0, none⟩) (Nat.le_succ _) _).setCell (p := ⟨w.heap.size + 1, 1, none⟩) (Nat.le_succ _) _).setCell (p := ⟨w.heap.size + 1, 2, none⟩) (Nat.le_succ _) _
            have H9 := Lib.hid (And.intro hb9 hr9)
            clear hr9 hb9
            have HO9 := Lib.hid (show IsCps w9 LA (liveL g hz0 x.cs).length lc (liveL g hz0 x.cs) by
              have hlt : w.heap.size + 1 < w5.heap.size := HP5.out.1.lt
              refine cps_of_own (B := w5.heap.size) ?_ rfl fun y hy => HC.out.1.wf y (List.mem_filter.1 hy).1
              rw [← hw9]
              exact own_set (own_set (own_set HL.out.2 hlt _) hlt _) hlt _)
            have HRK := Lib.hid (show rankF g hz0 size now zs = q :: rs from HR.out.trans HK.out.1)
            have HIQ := Lib.hid (show (idxF zs size zs.length)[q]? = some i by rw [hl, List.getElem?_eq_getElem hq, HK.out.2.1])
            have HXI := Lib.hid (show zs[i]? = some x by rw [List.getElem?_eq_getElem (by omega)]; exact congrArg some HK.out.2.2.1)
            clear hb6
            go_wp2_with fail
            (try simp only [Exit.inBlock, Exit.then, Exit.noGoto_ret])
            refine bodyPost_ret (res_plan rfl _ _ _ _ (by rfl) H9.out.2) rfl ?_
            exact ⟨.inr (.inr ⟨HN.out, q, rs, i, x, LA, lc, HRK.out, HIQ.out, HXI.out, by rw [HNM.out]; rfl, HO9.out⟩), H9.out.1⟩
end Go.Proofs.Ytchhnjadnacniaa.Cm
