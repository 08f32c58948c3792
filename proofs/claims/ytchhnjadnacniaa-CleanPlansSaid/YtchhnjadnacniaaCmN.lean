/- The contracts of ContainsFunc over rows of copies and of clean.Zones. -/
import Derived.Test.YtchhnjadnacniaaCmM
import Derived.Test.YtchhnjadnacniaaRkD
namespace Go.Proofs.Ytchhnjadnacniaa.Cm
set_option linter.unusedSimpArgs false
set_option linter.unusedVariables false
open Go.RowKit Rk

/-- is there a row that is longer? -/
def hasBig (zs : List RoD) (size : Int) : Prop := ∃ x ∈ zs, size < (x.n : Int)
def IndB (r : Int) (zs : List RoD) (size : Int) : Prop := (0 ≤ r ∧ hasBig zs size) ∨ (r = -1 ∧ ¬ hasBig zs size)
def HasB (e : Ending) (zs : List RoD) (size : Int) : Prop := (e = .returned (.bool true) ∧ hasBig zs size) ∨ (e = .returned (.bool false) ∧ ¬ hasBig zs size)
set_option maxHeartbeats 1000000 in
theorem clo2_any (A : Option Addr) (n c bs : Nat) (size : Int) (w : World) (hs : w.cell? ⟨bs, 0, none⟩ = some (.int .i64 size)) :
    Calls Try.prog 55 #[.slice A n c, .pointer (some ⟨bs, 0, none⟩)] w fun e w' => e = .returned (.bool (decide (size < (n : Int)))) ∧ w = w' := by
  go_enter Try.func55, Try.ntmps55
  go_wp2_with fail
  go_ret
  exact ⟨rfl, rfl⟩
set_option maxHeartbeats 4000000 in
theorem index2_any (A : Option Addr) (n c bs : Nat) (zs : List RoD) (size : Int) (w : World) (hz : IsZs w A n c zs) (hs : w.cell? ⟨bs, 0, none⟩ = some (.int .i64 size)) (hn : n ≤ 100000) :
    Calls Try.prog 77 #[.slice A n c, .func (.func 55) #[] #[.pointer (some ⟨bs, 0, none⟩)]] w fun e w' => (∃ r : Int, e = .returned (.int .i64 r) ∧ IndB r zs size) ∧ w = w' := by
  have hl := hz.len
  go_enter Try.func77, Try.ntmps77
  go_wp2_with fail
  go_loop [8] (fun i => ∃ k : Nat, k ≤ n ∧ i = .int .i64 k ∧ Hid (∀ j, (hj : j < zs.length) → j < k → (zs[j].n : Int) ≤ size)) (fun i => n - (intOf i).toNat)
  case atStart => exact ⟨0, Nat.zero_le _, rfl, fun j hj h => absurd h (by omega)⟩
  case round =>
    obtain ⟨k, hk, rfl, HU⟩ := hrel
    by_cases hlt : k < n
    · obtain ⟨x, hxk⟩ : ∃ x, zs[k]'(by omega) = x := ⟨_, rfl⟩
      obtain ⟨ad, rfl, had, c0⟩ := (hz.rd.next (Nat.le_refl _) (Below.refl _ _)).get (k := k) (by rw [List.length_map]; omega)
      rw [List.getElem_map, hxk] at c0
      unfold RoD.cell at c0
      have n0 : (k : Int) < (n : Int) := by omega
      have n1 : (0 : Int) ≤ (k : Int) := by omega
      have HX := Lib.hid hxk
      clear hxk had
      by_cases h4 : size < (x.n : Int)
      · have t0 : decide (size < (x.n : Int)) = true := decide_eq_true h4
        have HN := Lib.hid (show hasBig zs size from ⟨x, by rw [← HX.out]; exact List.getElem_mem _, h4⟩)
        clear h4 HU
        go_wp2_with (go_at_call 55; refine (clo2_any _ _ _ _ size _ hs).mono ?_; rintro e w' ⟨rfl, rfl⟩)
        go_ret
        exact ⟨⟨_, rfl, .inl ⟨n1, HN.out⟩⟩, rfl⟩
      · have t0 : decide (size < (x.n : Int)) = false := decide_eq_false h4
        have HN := Lib.hid (show ∀ j, (hj : j < zs.length) → j < k + 1 → (zs[j].n : Int) ≤ size from fun j hj hjk => by
          rcases Nat.lt_or_ge j k with g | g
          · exact HU.out j hj g
          · obtain rfl : j = k := by omega
            rw [HX.out]; omega)
        clear h4 HU
        go_wp2_with (go_at_call 55; refine (clo2_any _ _ _ _ size _ hs).mono ?_; rintro e w' ⟨rfl, rfl⟩)
        go_round
        case rel => exact ⟨k + 1, hlt, by go_num, HN⟩
        case measure => exact meas hlt
    · have HN := Lib.hid (show ¬ hasBig zs size from fun ⟨p, hp, h4⟩ => by
        obtain ⟨i, hi, rfl⟩ := List.getElem_of_mem hp
        have := HU.out i hi (by omega); omega)
      clear HU
      have n0 : ¬ (k : Int) < (n : Int) := by omega
      go_wp2_with fail
      go_ret
      exact ⟨⟨-1, rfl, .inr ⟨rfl, HN.out⟩⟩, rfl⟩
set_option maxHeartbeats 4000000 in
theorem has2_any (A : Option Addr) (n c bs : Nat) (zs : List RoD) (size : Int) (w : World) (hz : IsZs w A n c zs) (hs : w.cell? ⟨bs, 0, none⟩ = some (.int .i64 size)) (hn : n ≤ 100000) :
    Calls Try.prog 54 #[.slice A n c, .func (.func 55) #[] #[.pointer (some ⟨bs, 0, none⟩)]] w fun e w' => HasB e zs size ∧ w = w' := by
  go_enter Try.func54, Try.ntmps54
  go_wp2_with fail
  refine (index2_any _ _ _ _ _ size _ hz hs hn).mono ?_
  rintro e w' ⟨⟨r, rfl, hr⟩, rfl⟩
  have HR := Lib.hid hr
  clear hr
  by_cases h0 : 0 ≤ r
  · have t0 : decide (0 ≤ r) = true := decide_eq_true h0
    have HN := Lib.hid (show hasBig zs size from by rcases HR.out with h | h; exact h.2; omega)
    go_wp2_with fail
    go_ret
    exact ⟨.inl ⟨rfl, HN.out⟩, rfl⟩
  · have t0 : decide (0 ≤ r) = false := decide_eq_false h0
    have HN := Lib.hid (show ¬ hasBig zs size from by rcases HR.out with h | h; omega; exact h.2)
    go_wp2_with fail
    go_ret
    exact ⟨.inr ⟨rfl, HN.out⟩, rfl⟩
/-- how a zone is. -/
def zoneV (g : Int → List Int) (hz size : Int) (x : RoD) : Zn := if (x.n : Int) ≤ size then ⟨(liveL g hz x.cs).length, size, newT x.cs⟩ else ⟨0, 0, newT x.cs⟩
theorem infoZ : (Try.prog.info? 29).map (fun i => (i.size, i.bytes, i.zero.map (·.cells.size))) = some (3, 24, some 3) := by kernel_rfl
theorem infoZs : ∃ i z, Try.prog.info? 29 = some i ∧ i.zero = some z ∧ i.size = 3 ∧ i.bytes = 24 ∧ z.cells.size = 3 := by
  obtain ⟨i, hi, e⟩ := Option.map_eq_some_iff.1 infoZ
  injection e with e1 e
  injection e with e2 e3
  obtain ⟨z, hz, hzs⟩ := Option.map_eq_some_iff.1 e3
  exact ⟨i, z, hi, hz, e1, e2, hzs⟩
theorem zcells_snoc (l : List Zn) (z : Zn) : zcells (l ++ [z]) = zcells l ++ z.cells := by unfold zcells; rw [List.flatMap_append]; simp
theorem zmap_step {α : Type} {f : RoD → α} {zs : List RoD} {k : Nat} (hk : k < zs.length) {x : RoD} (hx : zs[k] = x) : (zs.take (k + 1)).map f = (zs.take k).map f ++ [f x] := by
  rw [List.take_succ_eq_append_getElem hk, hx, List.map_append]; simp
set_option maxRecDepth 100000 in
set_option maxHeartbeats 4000000 in
theorem zones_any (B gm N M : Nat) (last : Int) (g : Int → List Int) (A : Option Addr) (n c : Nat) (zs : List RoD) (size hz0 : Int) (w : World) (hE : EV w B gm N M last g) (hM : M ≤ 100000) (hz : IsZs w A n c zs) (hn : n ≤ 100000) (hxn : ∀ x ∈ zs, x.n ≤ 100000) :
    Calls Try.prog 25 #[.pointer (some ⟨gm, 0, none⟩), .slice A n c, .int .i64 size, .int .i64 hz0] w fun e w' => (∃ A' c', e = .returned (.slice A' n c') ∧ w'.ownsRow w.heap.size 29 3 (.slice A' n c') n (zcells (zs.map (zoneV g hz0 size)))) ∧ Below w.heap.size w w' := by
  have hl := hz.len
  obtain ⟨xi, xz, hxi, hxz, hx3, hx24, hxc⟩ := infoZs
  go_enter Try.func25, Try.ntmps25
  go_wp2_with fail
  go_loopw [8, 14] (fun v i wr => ∃ k : Nat, k ≤ n ∧ i = .int .i64 (k : Int) ∧ Below w.heap.size w wr ∧ wr.ownsRow w.heap.size 29 3 v ((zs.take k).map (zoneV g hz0 size)).length (zcells ((zs.take k).map (zoneV g hz0 size)))) (fun _ i _ => n - (intOf i).toNat)
  case atStart => exact ⟨0, Nat.zero_le _, rfl, Below.refl _ _, ⟨rfl, .inl ⟨rfl, rfl⟩⟩⟩
  case round =>
    obtain ⟨k, hk, rfl, hW, hO⟩ := hrel
    by_cases hlt : k < n
    · obtain ⟨x, hxk⟩ : ∃ x, zs[k]'(by omega) = x := ⟨_, rfl⟩
      obtain ⟨ad, rfl, had, c0⟩ := (hz.rd.next (Nat.le_refl _) hW).get (k := k) (by rw [List.length_map]; omega)
      rw [List.getElem_map, hxk] at c0
      unfold RoD.cell at c0
      have n0 : (k : Int) < (n : Int) := by omega
      have n1 : (0 : Int) ≤ (k : Int) := by omega
      have hxm : x ∈ zs := by rw [← hxk]; exact List.getElem_mem _
      have HX := Lib.hid (And.intro hxk (And.intro hW hO))
      have HLEN := Lib.hid (show min k zs.length + 1 ≤ 1000000000 ∧ (min k zs.length + 1) * 24 ≤ 1000000000000 by omega)
      have hcs := (hz.rows x hxm).next hW
      have hxn' := hxn x hxm
      have HCS := Lib.hid (And.intro hcs hxn')
      have hER := Lib.hid (hE.next hW)
      clear hxk hxm hW hO had hcs hxn'
      go_wp2_with fail
      refine (newest_any x.A x.n x.c x.cs wr HCS.out.1 HCS.out.2).mono ?_
      rintro e w1 ⟨rfl, hb1⟩
      obtain ⟨w2, hw2⟩ : ∃ w2, w1.alloc (.cells #[.int .i64 0, .int .i64 0, .int .i64 (newT x.cs)] 29) = w2 := ⟨_, rfl⟩
      have hx2 : Bk w2 w1.heap.size 29 [.int .i64 0, .int .i64 0, .int .i64 (newT x.cs)] := by rw [← hw2]; exact Bk.new w1 _ _
      have hb2 : Below wr.heap.size wr w2 := by rw [← hw2]; exact hb1.alloc hb1.size _
      have d0 := hx2.cell (i := 0) (by simp)
      have d1 := hx2.cell (i := 1) (by simp)
      have d2 := hx2.cell (i := 2) (by simp)
      simp only [List.getElem_cons_zero, List.getElem_cons_succ] at d0 d1 d2
      by_cases hle : (x.n : Int) ≤ size
      · have t0 : decide ((x.n : Int) ≤ size) = true := decide_eq_true hle
        have HZ := Lib.hid (show zoneV g hz0 size x = ⟨(liveL g hz0 x.cs).length, size, newT x.cs⟩ from if_pos hle)
        have HB := Lib.hid (And.intro hb1 (And.intro hx2 hb2))
        clear hle hb1 hx2 hb2
        go_wp2_with fail
        refine (living_any B gm N M last g x.A x.n x.c x.cs hz0 w2 (hER.out.next HB.out.2.2) hM (HCS.out.1.next HB.out.2.2) HCS.out.2).mono ?_
        rintro e w3 ⟨⟨LA, lc, rfl, hO3⟩, hb3⟩
        have hx3' := HB.out.2.1.next hb3 HB.out.2.1.lt
        have f0 := hx3'.cell (i := 0) (by simp)
        have f1 := hx3'.cell (i := 1) (by simp)
        have f2 := hx3'.cell (i := 2) (by simp)
        have fr0 := hx3'.free 0
        have fr1 := hx3'.free 1
        simp only [List.getElem_cons_zero, List.getElem_cons_succ] at f0 f1 f2
        obtain ⟨nl, hnl⟩ : ∃ nl, (liveL g hz0 x.cs).length = nl := ⟨_, rfl⟩
        rw [hnl] at HZ hO3
        rw [hnl]
        obtain ⟨w6, hw6⟩ : ∃ w6, (w3.setCell ⟨w1.heap.size, 0, none⟩ (.int .i64 (nl : Int))).setCell ⟨w1.heap.size, 1, none⟩ (.int .i64 size) = w6 := ⟨_, rfl⟩
        have hx6 : Bk w6 w1.heap.size 29 [.int .i64 (nl : Int), .int .i64 size, .int .i64 (newT x.cs)] := by rw [← hw6]; exact (hx3'.set 0 _).set 1 _
        have hb6 : Below wr.heap.size wr w6 := by rw [← hw6]; exact ((HB.out.2.2.trans (hb3.mono HB.out.2.2.size)).setCell (p := ⟨w1.heap.size, 0, none⟩) HB.out.1.size _).setCell (p := ⟨w1.heap.size, 1, none⟩) HB.out.1.size _
        have g0 := hx6.cell (i := 0) (by simp)
        have g1 := hx6.cell (i := 1) (by simp)
        have g2 := hx6.cell (i := 2) (by simp)
        simp only [List.getElem_cons_zero, List.getElem_cons_succ] at g0 g1 g2
        have hb7 : Below wr.heap.size wr (w6.alloc (.cells #[.int .i64 (nl : Int), .int .i64 size, .int .i64 (newT x.cs)] 29)) := hb6.alloc hb6.size _
        have HG := Lib.hid (And.intro (own_bel' HX.out.2.2 hb7) (HX.out.2.1.trans (hb7.mono HX.out.2.1.size)))
        clear hnl d0 d1 d2 hx6 hb6 hb7 hb3 hO3 hx3'
        go_wp2_with (at_builtin; go_must (refine wpList_appK _ rfl _ _ 22 rfl w.heap.size 29 xi xz 24 Try.underlying22 hxi hxz 3 (by decide) hx3 hx24 hxc _ ((zs.take k).map (zoneV g hz0 size)).length _ (by rfl) (by exact HG.out.1) (w6.heap.size + 1) (some ⟨w6.heap.size, 0, none⟩) 1 1 [.int .i64 (nl : Int), .int .i64 size, .int .i64 (newT x.cs)] (by rfl) rfl (by simpa using (Bk.new w6 29 [.int .i64 (nl : Int), .int .i64 size, .int .i64 (newT x.cs)]).rd) (by intro u hu; simp at hu; rcases hu with rfl | rfl | rfl <;> rfl) (by rw [List.length_map, List.length_take]; exact HLEN.out.1) (by rw [List.length_map, List.length_take]; exact HLEN.out.2) (by exact HG.out.2.size) ?_); intro v9 W9 hO9 hG9)
        have hS9 := HG.out.2.grown hG9 HG.out.2.size (fun g hg => (own_obj HG.out.1 hg).1)
        have HN := zmap_step (f := zoneV g hz0 size) (by omega) HX.out.1
        go_roundw
        case rel => exact ⟨k + 1, hlt, by go_num, hS9, by rw [HN, zcells_snoc, List.length_append, HZ.out]; exact hO9⟩
        case measure => exact meas hlt
      · have t0 : decide ((x.n : Int) ≤ size) = false := decide_eq_false hle
        have HZ := Lib.hid (show zoneV g hz0 size x = ⟨0, 0, newT x.cs⟩ from if_neg hle)
        have hb3 : Below wr.heap.size wr (w2.alloc (.cells #[.int .i64 0, .int .i64 0, .int .i64 (newT x.cs)] 29)) := hb2.alloc hb2.size _
        have HG := Lib.hid (And.intro (own_bel' HX.out.2.2 hb3) (HX.out.2.1.trans (hb3.mono HX.out.2.1.size)))
        clear hle hb1 hx2 hb2 hb3
        go_wp2_with (at_builtin; go_must (refine wpList_appK _ rfl _ _ 22 rfl w.heap.size 29 xi xz 24 Try.underlying22 hxi hxz 3 (by decide) hx3 hx24 hxc _ ((zs.take k).map (zoneV g hz0 size)).length _ (by rfl) (by exact HG.out.1) (w2.heap.size + 1) (some ⟨w2.heap.size, 0, none⟩) 1 1 [.int .i64 0, .int .i64 0, .int .i64 (newT x.cs)] (by rfl) rfl (by simpa using (Bk.new w2 29 [.int .i64 0, .int .i64 0, .int .i64 (newT x.cs)]).rd) (by intro u hu; simp at hu; rcases hu with rfl | rfl | rfl <;> rfl) (by rw [List.length_map, List.length_take]; exact HLEN.out.1) (by rw [List.length_map, List.length_take]; exact HLEN.out.2) (by exact HG.out.2.size) ?_); intro v9 W9 hO9 hG9)
        have hS9 := HG.out.2.grown hG9 HG.out.2.size (fun g hg => (own_obj HG.out.1 hg).1)
        have HN := zmap_step (f := zoneV g hz0 size) (by omega) HX.out.1
        go_roundw
        case rel => exact ⟨k + 1, hlt, by go_num, hS9, by rw [HN, zcells_snoc, List.length_append, HZ.out]; exact hO9⟩
        case measure => exact meas hlt
    · obtain rfl : k = n := by omega
      rw [List.take_of_length_le (by omega)] at hO
      obtain ⟨A', c', rfl⟩ := own_shape hO
      rw [List.length_map, hl] at hO
      have HO := Lib.hid hO
      clear hO
      rw [List.length_map, hl]
      go_wp2_with fail
      go_ret
      exact ⟨⟨A', c', rfl, HO.out⟩, hW⟩
end Go.Proofs.Ytchhnjadnacniaa.Cm
