/- Contracts of the program's functions, and laws on memory: a part of the proof of TopRoom. -/
import Derived.Test.YthhndleddlmgiaaGreatDoorZF
import Derived.Test.YthhndleddlmgiaaGreatDoorProg
import Derived.LoopTactic
import Derived.LoopN
import Derived.Lib.Hide
import Derived.Deep.DeepMust
import Derived.Laws.MakeOwn
import Derived.Laws.Entries
import Derived.WalkSpells
import Derived.WalkMore
import Derived.IntWalk
import Derived.Deep.QuietTactic
import Derived.BigQuiet
import Derived.Shelf.Abstract
import GoSem.Claim
import Derived.Laws.CopyOwn
namespace Go.Proofs.YthhndleddlmgiaaGreatDoor.Tp
set_option maxHeartbeats 8000000
set_option maxRecDepth 100000
set_option linter.unusedSimpArgs false
set_option linter.unusedVariables false
section
open Go.RowKit Go.Maps
def rowG (v : Value) : Foot := fun b => v.ownBlock ≠ some b
structure PuS (v : Value) (F : Foot) (w w' : World) : Prop where
 ag : Ag (rowG v) w w'
 kf : Kf F w w'
theorem PuS.of_below {v : Value} {F : Foot} {w w' : World} (h : Below w.heap.size w w') : PuS v F w w' := ⟨.of_below h, .of_below h⟩
section
variable {w wr w9 w10 w11 : World} {F : Foot} {gm bm s N n c : Nat} {last : Int} {f : Int → Option Value} {x T : Int} {A yA : Option Addr} {vs : List VerD} {yc : Nat} {yb : List Int} {v' : Value}
theorem AtX.own_f (h : ExtX wr F gm bm s N last f) (ha : AtX wr (f x) N A n c vs) {g : Nat} (e : (Value.slice A n c).ownBlock = some g) : F g ∧ f x = some (.slice A n c) := by
 have hv := ha.val
 cases hf : f x with
 | none => rw [hf] at hv; simp only [Option.getD_none] at hv; rw [← hv] at e; cases e
 | some v =>
   rw [hf] at hv
   simp only [Option.getD_some] at hv
   obtain ⟨_, _, _, _, _, hF⟩ := h.row x v hf
   exact ⟨hF g (by rw [hv]; exact e), by rw [hv]⟩
theorem PuS.grown (h : ExtX wr F gm bm s N last f) (ha : AtX wr (f x) N A n c vs) (hs : Below wr.heap.size wr w9) (hg : w9.grownBy w10 (Value.slice A n c).ownBlock) : PuS (.slice A n c) F wr w10 := by
 have ho := own_bel' ha.own hs
 refine ⟨(Ag.of_below hs).trans (Ag.grown ho (by decide) hg (fun g e q => q e)), (Kf.of_below hs).trans (G := F) ((Kf.refl F w9).grown ho hg (fun g e => .inl ⟨(AtX.own_f h ha e).1, by decide⟩)) (fun b q => .inl q)⟩
theorem ExtX.bm_ne (h : ExtX wr F gm bm s N last f) (ha : AtX wr (f x) N A n c vs) : rowG (.slice A n c) bm := fun e => by
 obtain ⟨es, cl, hm⟩ := h.im.at_
 obtain ⟨_, _, h2⟩ := own_at ha.own e
 rw [hm] at h2; cases h2
theorem ExtX.im10 (h : ExtX wr F gm bm s N last f) (ha : AtX wr (f x) N A n c vs) (hs : PuS (.slice A n c) F wr w10) : IM w10 Tryz.prog 3 bm s f := h.im.ag (F := rowG (.slice A n c)) hs.ag (h.bm_ne ha)
theorem ExtX.push (h : ExtX wr F gm bm s N last f) (hI : In wr F) (hx : 0 ≤ x ∧ x < 258) (ha : AtX wr (f x) N A n c vs) (hb : Below wr.heap.size wr w9) (hy : IsY w9 yA 40 yc yb) (ho : w10.ownsRow 0 258 2 v' (n + 1) (vs.flatMap VerD.cells ++ [.int .i64 T, .slice yA 40 yc]))
  (hg : w9.grownBy w10 (Value.slice A n c).ownBlock) (hv : v'.ownBlock = (Value.slice A n c).ownBlock ∨ v'.ownBlock = some w9.heap.size) (hi : IM w11 Tryz.prog 3 bm (sized s (f x)) (upd f x (some v'))) (hg2 : w10.grownBy w11 (some bm)) (hN : N + 1 ≤ 100000) :
  ∃ F', ExtX w11 F' gm bm (sized s (f x)) (N + 1) last (upd f x (some v')) ∧ Kf F wr w11 ∧ Sb wr F F' ∧ In w11 F' := by
 have hs10 := PuS.grown h ha hb hg
 have i10 := h.im10 ha hs10
 have k11 := upd_kf i10 hg2
 have kall : Kf F wr w11 := hs10.kf.trans (G := F) (k11.mono (fun b q => by rw [q]; exact h.f1)) (fun b q => .inl q)
 have a11 : Ag (fun b => b ≠ bm) w10 w11 := k11.ag (fun b q r => q r)
 have cells_ne : ∀ (W : World) (g : Nat) (cs : Array Value) (t : TypeId) (fr : Nat × Nat), IM W Tryz.prog 3 bm s f → W.heap[g]? = some (.cells cs t fr) → g ≠ bm := fun W g cs t fr hi hg e => by
  obtain ⟨es, cl, hm⟩ := hi.at_
  rw [e, hm] at hg; cases hg
 have y11 : ∀ {B : Option Addr} {m d : Nat} {bs : List Int}, IsY wr B m d bs → IsY w11 B m d bs := fun q => (q.ag (F := fun _ => False) (hs10.kf.ag (fun _ q => q.elim))).ag (F := fun _ => False) (k11.ag (fun _ q => q.elim))
 have hgm : Bk w11 gm 252 [.int .i64 258, .map (some bm), .int .i64 last] := by
  have h1 : Bk w10 gm 252 _ := Bk.ag h.bx hs10.ag (fun e => own_ne_bk ha.own h.bx (by decide) e)
  exact Bk.ag h1 a11 (cells_ne w10 gm _ _ _ i10 h1)
 have own' : ∃ g, v'.ownBlock = some g := by
  rcases ho.2 with ⟨_, h0⟩ | ⟨g, cap, cur, e, _⟩
  · omega
  · exact ⟨g, by rw [e]; rfl⟩
 obtain ⟨gv, hgv⟩ := own'
 have row_lt : ∀ y u, f y = some u → ∀ g, u.ownBlock = some g → g < wr.heap.size := fun y u hu g e => by
  obtain ⟨_, _, _, _, _, hF⟩ := h.row y u hu
  exact hI g (hF g e)
 have apart : ∀ y u, y ≠ x → f y = some u → u.ownBlock ≠ v'.ownBlock ∧ ∀ g, u.ownBlock = some g → rowG (.slice A n c) g := fun y u hn hu => by
  have a1 : ∀ g, u.ownBlock = some g → rowG (.slice A n c) g := fun g e q => by
   obtain ⟨_, hfx⟩ := AtX.own_f h ha q
   exact h.dj y x u _ hn hu hfx (e.trans q.symm)
  refine ⟨fun e => ?_, a1⟩
  rcases hv with hv | hv
  · rw [hv] at e hgv
    exact a1 gv (e.trans hgv) hgv
  · have := row_lt y u hu _ (e.trans hv)
    have := hb.size
    omega
 have hF'gv : Sb wr F (orF F (fun b => v'.ownBlock = some b)) := fun b q => q.elim .inl (fun e => by
  rcases hv with hv | hv
  · rw [hv] at e; exact .inl (AtX.own_f h ha e).1
  · rw [hv] at e; injection e with e; have := hb.size; exact .inr (by omega))
 refine ⟨orF F (fun b => v'.ownBlock = some b), ⟨hgm, hi, fun y v hyv => ?_, fun y z v u hn hyv hzu => ?_, fun y hy => ?_, h.pos, hN, .inl h.f0, .inl h.f1⟩, kall, hF'gv, fun b q => ?_⟩
 · by_cases e : y = x
   · subst e
     rw [upd_same] at hyv
     injection hyv with hyv
     subst hyv
     refine ⟨vs ++ [⟨T, yA, yc, yb⟩], by simp, by rw [List.length_append, ha.len]; simp; exact ha.le, ?_, fun u hu => ?_, fun g e => .inr e⟩
     · rw [List.length_append, ha.len, List.flatMap_append]
       have h1 := own_ag ho a11 (fun g e => by obtain ⟨_, _, hh⟩ := own_at ho e; exact cells_ne w10 g _ _ _ i10 hh)
       simpa [VerD.cells] using h1
     · rcases List.mem_append.1 hu with q | q
       · exact y11 (ha.y u q)
       · obtain rfl : u = _ := by simpa using q
         exact (hy.ag (F := fun _ => False) (((Kf.refl F w9).grown (own_bel' ha.own hb) hg (fun g e => .inl ⟨(AtX.own_f h ha e).1, by decide⟩)).ag (fun _ q => q.elim))).ag (F := fun _ => False) (k11.ag (fun _ q => q.elim))
   · rw [upd_other _ _ e] at hyv
     obtain ⟨us, h1, h2, h3, h4, h5⟩ := h.row y v hyv
     have h6 := own_ag h3 hs10.ag ((apart y v e hyv).2)
     exact ⟨us, h1, Nat.le_succ_of_le h2, own_ag h6 a11 (fun g e => by obtain ⟨_, _, hh⟩ := own_at h6 e; exact cells_ne w10 g _ _ _ i10 hh), fun u hu => y11 (h4 u hu), fun g e => .inl (h5 g e)⟩
 · by_cases e1 : y = x <;> by_cases e2 : z = x
   · exact absurd (e1.trans e2.symm) hn
   · subst e1
     rw [upd_same] at hyv; rw [upd_other _ _ e2] at hzu
     injection hyv with hyv; subst hyv
     exact fun e => (apart z u e2 hzu).1 e.symm
   · subst e2
     rw [upd_same] at hzu; rw [upd_other _ _ e1] at hyv
     injection hzu with hzu; subst hzu
     exact (apart y v e1 hyv).1
   · rw [upd_other _ _ e1] at hyv; rw [upd_other _ _ e2] at hzu
     exact h.dj y z v u hn hyv hzu
 · unfold upd at hy
   split at hy
   · next e => rw [e]; exact hx
   · exact h.rng y hy
 · rcases q with q | q
   · exact Nat.lt_of_lt_of_le (hI b q) kall.size
   · obtain ⟨_, _, hh⟩ := own_at ho q
     exact Nat.lt_of_lt_of_le (lt_of hh) k11.size
end
end
section
open Go.RowKit Go.Maps
theorem rise_yes (A : Option Addr) (n c : Nat) (ps : List PutD) (w : World) (h : IsPs w A n c ps) (hup : ∀ j, (hj : j + 1 < ps.length) → ps[j].lba < ps[j + 1].lba) (hn1 : 1 ≤ n ∧ n ≤ 16) :
  Calls Tryz.prog 158 #[.slice A n c] w fun e w' => e = .returned (.bool true) ∧ ∃ q, w' = w.drewN q := by
 have hl := h.len
 have HU := Lib.hid hup
 clear hup
 go_enter Tryz.func158, Tryz.ntmps158
 go_wp2_with fail
 go_loopw [3] (fun iv wr => ∃ j q : Nat, j + 1 ≤ n ∧ iv = .int .i64 ((j : Int) + 1) ∧ wr = w.drewN q) (fun iv _ => n - (intOf iv).toNat)
 case atStart => exact ⟨0, 0, hn1.1, rfl, rfl⟩
 case round =>
  obtain ⟨j, q, hj, rfl, rfl⟩ := hrel
  by_cases hjl : j + 1 < n
  · obtain ⟨x, hx⟩ : ∃ p, ps[j]'(by omega) = p := ⟨_, rfl⟩
    obtain ⟨y, hy⟩ : ∃ p, ps[j + 1]'(by omega) = p := ⟨_, rfl⟩
    obtain ⟨ad, rfl, had, e0, _⟩ := two_get put_two h.rd (k := j) (by omega) (u := .int .i64 x.lba) (v := .slice x.A x.n x.c) (by rw [hx]; rfl)
    have e1 : w.cell? (ad.add ((j + 1) * 2)) = some (.int .i64 y.lba) := by
     obtain ⟨ad2, e, _, cc, _⟩ := two_get put_two h.rd (k := j + 1) (by omega) (u := .int .i64 y.lba) (v := .slice y.A y.n y.c) (by rw [hy]; rfl)
     injection e with e; subst e
     exact cc
    have hxy : x.lba < y.lba := by rw [← hx, ← hy]; exact HU.out j (by omega)
    have t4 : decide (y.lba ≤ x.lba) = false := decide_eq_false (by omega)
    have n2 : (j : Int) + 1 < (n : Int) := by omega
    have n3 : (0 : Int) ≤ (j : Int) := by omega
    have n4 : (j : Int) < (n : Int) := by omega
    have n5 : (0 : Int) ≤ (j : Int) + 1 := by omega
    have wj : IntKind.i64.wrap (j : Int) = j := IntWalk.i64_in _ (by omega)
    have wj1 : IntKind.i64.wrap ((j : Int) + 1) = j + 1 := IntWalk.i64_in _ (by omega)
    clear hx hy
    go_wp2_with fail
    go_quiet (fail)
    go_wp2_with fail
    go_roundw
    case rel => exact ⟨j + 1, _, by omega, by go_num, by first | rfl | (simp only [World.drewN_drewN]; rfl)⟩
    case measure => simp [intOf]; omega
  · have hjn : j + 1 = n := by omega
    have n2 : ¬ ((j : Int) + 1 < (n : Int)) := by omega
    have n6 : (0 : Int) < (n : Int) := by omega
    have t6 : decide ((0 : Int) < (n : Int)) = true := decide_eq_true n6
    have t7 : decide (0 < n) = true := decide_eq_true (by omega)
    go_wp2_with fail
    go_ret
    exact ⟨rfl, _, rfl⟩
theorem apc_any (x : PutD) (w : World) :
  Calls Tryz.prog 161 #[.agg #[.int .i64 x.lba, .slice x.A x.n x.c]] w fun e w' => e = .returned (.bool (lenB x)) ∧ Below w.heap.size w w' := by
 obtain ⟨w5, hw5⟩ : ∃ w5, w.alloc (.cells #[.int .i64 x.lba, .slice x.A x.n x.c] 50) = w5 := ⟨_, rfl⟩
 have hB5 : Bk w5 w.heap.size 50 [.int .i64 x.lba, .slice x.A x.n x.c] := by rw [← hw5]; exact Bk.new w _ _
 have hb5 : Below w.heap.size w w5 := by rw [← hw5]; exact (Below.refl _ _).alloc (Nat.le_refl _) _
 obtain ⟨d0, d1⟩ := hB5.c2
 go_enter Tryz.func161, Tryz.ntmps161
 go_wp2_with fail
 go_ret
 exact ⟨rfl, hb5⟩
theorem ExtX.setLast {w : World} {F : Foot} {gm bm s N : Nat} {last : Int} {f : Int → Option Value} (h : ExtX w F gm bm s N last f) (T : Int) (hT : 0 ≤ T) : ExtX (w.setCell ⟨gm, 2, none⟩ (.int .i64 T)) F gm bm s N T f ∧ Kf F w (w.setCell ⟨gm, 2, none⟩ (.int .i64 T)) := by
 have k : Kf (fun b => b = gm) w (w.setCell ⟨gm, 2, none⟩ (.int .i64 T)) := (Kf.refl (fun b => b = gm) w).set h.bx (by decide) (.inl rfl) 2 _
 have a : Ag (fun b => b ≠ gm) w (w.setCell ⟨gm, 2, none⟩ (.int .i64 T)) := k.ag (fun b q r => q r)
 have hne : bm ≠ gm := fun e => by
  obtain ⟨es, cl, hm⟩ := h.im.at_
  have h1 := h.bx
  unfold Bk at h1
  rw [← e, hm] at h1; cases h1
 refine ⟨⟨by have := h.bx.set 2 (.int .i64 T); simpa using this, h.im.ag a hne, fun x v e => ?_, h.dj, h.rng, hT, h.big, h.f0, h.f1⟩, k.mono (fun b q => by rw [q]; exact h.f0)⟩
 obtain ⟨vs, h1, h2, h3, h4, h5⟩ := h.row x v e
 exact ⟨vs, h1, h2, own_ag h3 a (fun g q r => own_ne_bk h3 h.bx (by decide) (r ▸ q)), fun u hu => (h4 u hu).ag a, h5⟩
def apPost (w : World) (F : Foot) (gm N : Nat) (w' : World) : Prop := ∃ F' last', ExtP w' F' gm (N + 16) last' ∧ Kf F w w' ∧ Sb w F F' ∧ In w' F'
theorem infoVer0 : (Tryz.prog.info? 258).map (fun i => (i.size, i.bytes, i.zero.map (·.cells.size))) = some (2, 32, some 2) := by kernel_rfl
theorem infoVer : ∃ i z, Tryz.prog.info? 258 = some i ∧ i.zero = some z ∧ i.size = 2 ∧ i.bytes = 32 ∧ z.cells.size = 2 := by
 have h := infoVer0
 cases hi : Tryz.prog.info? 258 with
 | none => rw [hi] at h; cases h
 | some i =>
   rw [hi] at h
   simp at h
   obtain ⟨h1, h2, z, hz, h3⟩ := h
   exact ⟨i, z, rfl, hz, h1, h2, h3⟩
theorem apply_any (F : Foot) (gm N n c : Nat) (last T : Int) (A : Option Addr) (ps : List PutD) (w : World) (h : ExtP w F gm N last) (hI : In w F) (hN : N + 16 ≤ 100000) (hp : IsPs w A n c ps) (hok : OkT ⟨T, A, n, c, ps⟩) (hAF : ∀ ad, A = some ad → ¬ F ad.block) :
  Calls Tryz.prog 96 #[.pointer (some ⟨gm, 0, none⟩), .agg #[.int .i64 T, .slice A n c]] w fun e w' => (∃ r : Int, e = .returned (.int .i64 r)) ∧ apPost w F gm N w' := by
 obtain ⟨bm, s, f, hX, hE⟩ := h
 obtain ⟨xi, xz, hxi, hxz, hx5, hx56, hxc⟩ := infoVer
 have hl := hp.len
 have hn1 : 1 ≤ n ∧ n ≤ 16 := hok.n
 have hT : 1 ≤ T ∧ T ≤ 1000 := hok.time
 have HOK := Lib.hid hok
 have HP := Lib.hid hp
 have HX := Lib.hid (And.intro hX (And.intro hE hI))
 have same : ∀ w', Below w.heap.size w w' → apPost w F gm N w' := fun w' hb => ⟨F, last, ⟨bm, s, f, (hX.ag (.of_below hb)).mono (by omega) hN, hE⟩, .of_below hb, .refl _ _, hI.next hb.size⟩
 have HS := Lib.hid same
 obtain ⟨w5, hw5⟩ : ∃ w5, w.alloc (.cells #[.int .i64 T, .slice A n c] 182) = w5 := ⟨_, rfl⟩
 have hB5 : Bk w5 w.heap.size 182 [.int .i64 T, .slice A n c] := by rw [← hw5]; exact Bk.new w _ _
 have hb5 : Below w.heap.size w w5 := by rw [← hw5]; exact (Below.refl _ _).alloc (Nat.le_refl _) _
 obtain ⟨d0, d1⟩ := hB5.c2
 have HB5 := Lib.hid (And.intro hB5 hb5)
 have hX5 := hX.ag (.of_below hb5)
 have hgo := egone_any gm _ last w5 hX5.bx
 obtain ⟨c0, c1, c2⟩ := hX5.bx.c3
 have hri := fun W (hb : Below w.heap.size w W) => rise_yes A n c ps W (hp.next hb) hok.up hn1
 clear hX hE same hp hok hB5 hX5
 have t1 : decide (1099511627776 < T) = false := decide_eq_false (by omega)
 go_enter Tryz.func96, Tryz.ntmps96
 go_wp2_with fail
 refine hgo.mono ?_
 rintro e w' ⟨rfl, rfl⟩
 clear hgo
 by_cases hle : T ≤ last
 · have t0 : decide (T ≤ last) = true := decide_eq_true hle
   clear hle hri
   go_wp2_with fail
   go_quiet (fail)
   go_wp2_with fail
   go_ret
   exact ⟨⟨_, rfl⟩, HS.out _ (HB5.out.2.trans (bdrewN (Below.refl _ _) _))⟩
 · have t0 : decide (T ≤ last) = false := decide_eq_false hle
   go_wp2_with fail
   go_quiet (fail)
   obtain ⟨w1, hw1⟩ : ∃ w1, w5.drewN nq = w1 := ⟨_, rfl⟩
   have hb1 : Below w5.heap.size w5 w1 := by rw [← hw1]; exact bdrewN (Below.refl _ _) _
   rw [hw1]
   have HB1 := Lib.hid (And.intro (HB5.out.2.trans (hb1.mono HB5.out.2.size)) (HB5.out.1.next hb1 HB5.out.1.lt))
   have hr1 := hri w1 HB1.out.1
   clear hri hb1 hw1 c0 c1 c2 d0 d1 hb5
   obtain ⟨d0, d1⟩ := HB1.out.2.c2
   go_wp2_with fail
   refine hr1.mono ?_
   rintro e w' ⟨rfl, q, rfl⟩
   obtain ⟨w2, hw2⟩ : ∃ w2, w1.drewN q = w2 := ⟨_, rfl⟩
   have hb2 : Below w1.heap.size w1 w2 := by rw [← hw2]; exact bdrewN (Below.refl _ _) _
   rw [hw2]
   have HB2 := Lib.hid (And.intro (HB1.out.1.trans (hb2.mono HB1.out.1.size)) (HB1.out.2.next hb2 HB1.out.2.lt))
   clear hr1 hb2 hw2 d0 d1
   obtain ⟨d0, d1⟩ := HB2.out.2.c2
   have hp2 := HP.out.next HB2.out.1
   obtain ⟨p, rfl⟩ : ∃ p, n = p + 1 := ⟨n - 1, by omega⟩
   obtain ⟨x0, hx0⟩ : ∃ x, ps[0]'(by omega) = x := ⟨_, rfl⟩
   obtain ⟨xp, hxp⟩ : ∃ x, ps[p]'(by omega) = x := ⟨_, rfl⟩
   obtain ⟨ad, rfl, had, e0, _⟩ := two_get put_two hp2.rd (k := 0) (by omega) (u := .int .i64 x0.lba) (v := .slice x0.A x0.n x0.c) (by rw [hx0]; rfl)
   have e1 : w2.cell? (ad.add (p * 2)) = some (.int .i64 xp.lba) := by
    obtain ⟨ad2, e, _, cc, _⟩ := two_get put_two hp2.rd (k := p) (by omega) (u := .int .i64 xp.lba) (v := .slice xp.A xp.n xp.c) (by rw [hxp]; rfl)
    injection e with e; subst e
    exact cc
   have e0 : w2.cell? ad = some (.int .i64 x0.lba) := by simpa [Addr.add] using e0
   have hX2 := HX.out.1.ag (.of_below HB2.out.1)
   have r0 := HOK.out.ps x0 (by rw [← hx0]; exact List.getElem_mem _)
   have rp := HOK.out.ps xp (by rw [← hxp]; exact List.getElem_mem _)
   have hb0 := eblock_any gm (.map (some bm)) last x0.lba w2 hX2.bx ⟨r0.1, r0.2.1⟩
   have hbp := eblock_any gm (.map (some bm)) last xp.lba w2 hX2.bx ⟨rp.1, rp.2.1⟩
   have hcf := has_gen (some ad) (p + 1) c ps 161 #[] lenB w2 hp2 (enters_of Tryz.func161 (by kernel_rfl) rfl) (fun y _ w' _ => apc_any y w')
   have n0 : (0 : Int) < (p : Int) + 1 := by omega
   have n1 : (0 : Int) ≤ (p : Int) := by omega
   have n2 : (p : Int) < (p : Int) + 1 := by omega
   have w0 : wrap64 ((p : Int) + 1 - 1) = (p : Int) := by unfold wrap64; omega
   have HN40 := Lib.hid (show ∀ y ∈ ps, 0 ≤ y.lba ∧ y.lba < 258 ∧ y.n = 40 from HOK.out.ps)
   clear hp2 hX2 r0 rp hx0 hxp
   go_wp2_with fail
   refine hb0.mono ?_
   rintro e w' ⟨rfl, rfl⟩
   clear hb0
   go_wp2_with fail
   refine hbp.mono ?_
   rintro e w' ⟨rfl, rfl⟩
   clear hbp
   go_wp2_with fail
   refine hcf.mono ?_
   rintro e w3 ⟨⟨r3, rfl, hr3⟩, hb3⟩
   obtain rfl : r3 = false := by
    cases r3 with
    | false => rfl
    | true =>
      obtain ⟨y, hy, hb⟩ := hr3.1 rfl
      have := (HN40.out y hy).2.2
      simp [lenB, this] at hb
   have HB3 := Lib.hid (And.intro (HB2.out.1.trans (hb3.mono HB2.out.1.size)) (HB2.out.2.next hb3 HB2.out.2.lt))
   clear hcf hr3 hb3 e0 e1 d0 d1
   obtain ⟨d0, d1⟩ := HB3.out.2.c2
   have HX3 := Lib.hid (And.intro (HX.out.1.ag (.of_below HB3.out.1)) (HX.out.2.2.next HB3.out.1.size))
   have HNF := Lib.hid (show ¬ F w.heap.size from fun q => by have := HX.out.2.2 _ q; omega)
   have HRd := Lib.hid (HP.out.next HB3.out.1).rd
   have HYs := Lib.hid (fun y hy => ((HP.out.y y hy).ag (F := fun _ => True) (.of_below HB3.out.1)))
   have hadF := hAF ad rfl
   go_wp2_with fail
   go_loopw [58] (fun iv wr => ∃ k sk : Nat, k ≤ p + 1 ∧ iv = .int .i64 (k : Int) ∧ ∃ fk Fk, Hid (ExtX wr Fk gm bm sk (N + k) last fk ∧ Kf F w3 wr ∧ Sb w3 F Fk ∧ In wr Fk)) (fun iv _ => p + 1 - (intOf iv).toNat)
   case atStart => exact ⟨0, s, Nat.zero_le _, rfl, f, F, HX3.out.1, .refl _ _, .refl _ _, HX3.out.2⟩
   case round =>
    clear d0 d1 n0 n1 n2 w0
    obtain ⟨k, sk, hk, rfl, fk, Fk, HL⟩ := hrel
    by_cases hlt : k < p + 1
    · have agw : Ag (fun b => ¬ F b) w3 wr := HL.out.2.1.ag (fun b q r => q r)
      obtain ⟨x, hpx⟩ : ∃ p, ps[k]'(by omega) = p := ⟨_, rfl⟩
      have hmx : x ∈ ps := by rw [← hpx]; exact List.getElem_mem _
      obtain ⟨adx, eAx, hadx, e0, e1⟩ := two_get put_two (Rd.ag HRd.out agw (fun a e => by injection e with e; rw [← e]; exact hadF)) (k := k) (by omega) (u := .int .i64 x.lba) (v := .slice x.A x.n x.c) (by rw [hpx]; rfl)
      injection eAx with eAx
      subst eAx
      have hxr := HN40.out x hmx
      have hxy := (HYs.out x hmx).ag (F := fun b => ¬ F b) agw
      have btx := Bk.ag (F := fun b => ¬ F b) HB3.out.2 agw HNF.out
      obtain ⟨xl, xA, xn, xc, xb⟩ := x
      simp only at hxr hxy e0 e1
      obtain ⟨hx0, hx1, rfl⟩ := hxr
      have hxw : wf64 xl := wf_of (by omega) (by omega)
      have n0 : (k : Int) < ((p + 1 : Nat) : Int) := by omega
      have n0' : (k : Int) < (p : Int) + 1 := by omega
      have n1 : (0 : Int) ≤ (k : Int) := by omega
      clear hpx hmx
      obtain ⟨w6, hw6⟩ : ∃ w6, wr.alloc (.cells #[.int .i64 xl, .slice xA 40 xc] 50) = w6 := ⟨_, rfl⟩
      have hB6 : Bk w6 wr.heap.size 50 [.int .i64 xl, .slice xA 40 xc] := by rw [← hw6]; exact Bk.new wr _ _
      have hb6 : Below wr.heap.size wr w6 := by rw [← hw6]; exact (Below.refl _ _).alloc (Nat.le_refl _) _
      obtain ⟨d0, d1⟩ := hB6.c2
      have hX6 := HL.out.1.ag (.of_below hb6)
      obtain ⟨rA, m, rc, vs, ha⟩ := hX6.at_ xl
      have hav := ha.val
      have bt6 := btx.next hb6 btx.lt
      have KK := Lib.hid (fun (w' : World) (hS : PuS (.slice rA m rc) Fk w6 w') => (show w'.cell? ⟨gm, 1, none⟩ = some (.map (some bm)) ∧ w'.cell? ⟨wr.heap.size, 0, none⟩ = some (.int .i64 xl) ∧ w'.cell? ⟨wr.heap.size, 1, none⟩ = some (.slice xA 40 xc) ∧ w'.cell? ⟨w.heap.size, 0, none⟩ = some (.int .i64 T) ∧
        (Instr.lookup 250 (.map (some bm)) (.int .i64 xl) false).run Tryz.prog w' = .ok (.slice rA m rc) w' from
       ⟨(Bk.ag hX6.bx hS.ag (fun e => own_ne_bk ha.own hX6.bx (by decide) e)).cell (i := 1) (by simp), (Bk.ag hB6 hS.ag (fun e => own_ne_bk ha.own hB6 (by decide) e)).cell (i := 0) (by simp), (Bk.ag hB6 hS.ag (fun e => own_ne_bk ha.own hB6 (by decide) e)).cell (i := 1) (by simp),
        (Bk.ag bt6 hS.ag (fun e => own_ne_bk ha.own bt6 (by decide) e)).cell (i := 0) (by simp), by rw [(hX6.im10 ha hS).look lawI underI underMV (zeroV w') hxw, hav]⟩))
      have HA := Lib.hid (And.intro hX6 (And.intro ha (And.intro hb6 (hxy.ag (F := fun _ => True) (.of_below hb6)))))
      have hmN : m ≤ 100000 := Nat.le_trans ha.le hX6.big
      clear hB6 hX6 ha hav bt6 btx hb6 hxy d0 d1 agw
      go_wp2_with fail
      have Kq := KK
      refine anyL_start (PuS (.slice rA m rc) Fk w6) 21 (by kernel_rfl) (PuS.of_below (bdrew (Below.refl _ _))) (fun hHeld => ?_)
      refine kL 0 ?_; refine kL 1 ?_; refine kL 2 ?_; refine kL 3 ?_; refine kL 4 ?_; refine kL 5 ?_; refine kL 6 ?_; refine kL 7 ?_; refine kL 8 ?_; refine kL 9 ?_; refine kL 10 ?_; refine kL 11 ?_
      refine kL 12 ?_; refine kL 13 ?_; refine kL 14 ?_; refine kL 15 ?_; refine kL 16 ?_
      refine rL 17 (fun K hK => ?_)
      go_simp
      refine (clone_any xA 40 xc 0 (xb.map (Value.int .u8)) _ (by rw [List.length_map]; exact HA.out.2.2.2.b.len) (HA.out.2.2.2.ag (F := fun _ => False) (.of_below (bdrew (Below.refl _ _)))).b.rd one_int (by omega) (Nat.zero_le _)).mono ?_
      rintro e w8 ⟨⟨vc, rfl, hvc⟩, hb8⟩
      have hB8 : Below w6.heap.size w6 w8 := (bdrew (Below.refl _ _)).trans hb8
      obtain ⟨yA, yc, rfl⟩ := own_shape hvc
      have HY8 := Lib.hid (byt_y HA.out.2.2.2 hvc)
      clear hvc hb8
      go_simp
      refine hK.out _ _ (fun _ => PuS.of_below (v := .slice rA m rc) (F := Fk) hB8) ?_
      clear hK K hHeld
      have hHeld := PuS.of_below (v := .slice rA m rc) (F := Fk) hB8
      try simp only [Act.put, List.setIfInBounds_toArray, List.set_cons_zero, List.set_cons_succ]
      refine kL 18 ?_
      refine rL 19 (fun K hK => ?_)
      go_simp
      refine hK.out _ _ (fun _ => PuS.of_below (v := .slice rA m rc) (F := Fk) (hB8.alloc hB8.size (.cells #[.int .i64 T, .slice yA 40 yc] 258))) ?_
      clear hK K hHeld
      have hHeld := PuS.of_below (v := .slice rA m rc) (F := Fk) (hB8.alloc hB8.size (.cells #[.int .i64 T, .slice yA 40 yc] 258))
      try simp only [Act.put, List.setIfInBounds_toArray, List.set_cons_zero, List.set_cons_succ]
      refine rL 20 (fun K hK => ?_)
      obtain ⟨w9, hw9⟩ : ∃ w9, w8.alloc (.cells #[.int .i64 T, .slice yA 40 yc] 258) = w9 := ⟨_, rfl⟩
      have hB9 : Below w6.heap.size w6 w9 := by rw [← hw9]; exact hB8.alloc hB8.size _
      have hk9 : Bk w9 w8.heap.size 258 [.int .i64 T, .slice yA 40 yc] := by rw [← hw9]; exact Bk.new w8 _ _
      have hb89 : Below w8.heap.size w8 w9 := by rw [← hw9]; exact (Below.refl w8.heap.size w8).alloc (Nat.le_refl _) _
      have HY9 := Lib.hid (HY8.out.ag (F := fun _ => True) (.of_below hb89))
      rw [hw9]
      refine if_wanted rfl (wp_appM w9 _ _ 256 rfl 0 258 xi xz 2 32 Tryz.underlying256 hxi hxz hx5 hx56 hxc (by omega) (.slice rA m rc) m (vs.flatMap VerD.cells) (by rfl) (own_bel' HA.out.2.1.own hB9) w9.heap.size (some ⟨w8.heap.size, 0, none⟩) 1 1 [.int .i64 T, .slice yA 40 yc] (by rfl) rfl hk9.rd (by intro u hu; simp at hu; rcases hu with rfl | rfl <;> rfl) (by omega) (by omega) (Nat.zero_le _) ?_)
      intro v10 w10 hO10 hG10 hv10
      have hS10 := PuS.grown HA.out.1 HA.out.2.1 hB9 hG10
      have HO10 := Lib.hid (And.intro hO10 (And.intro hG10 hv10))
      have HB9 := Lib.hid hB9
      clear hO10 hG10 hv10 hB9 hk9 hb89
      refine hK.out _ _ (fun _ => hS10) ?_
      clear hK K hHeld
      have hHeld := hS10
      try simp only [Act.put, List.setIfInBounds_toArray, List.set_cons_zero, List.set_cons_succ]
      refine rL 21 (fun K hK => ?_)
      refine if_wanted rfl (wp_iupd _ _ _ _ 250 rfl 3 256 lawI underI underMV bm sk fk (by rfl) (HA.out.1.im10 HA.out.2.1 hHeld) (Nat.le_trans HA.out.1.size (by omega)) xl v10 (by rfl) (by rfl) hxw ?_)
      intro w11 hI11 hG11
      have HE := Lib.hid (HA.out.1.push (HL.out.2.2.2.next HA.out.2.2.1.size) ⟨hx0, hx1⟩ HA.out.2.1 HB9.out HY9.out HO10.out.1 HO10.out.2.1 HO10.out.2.2 hI11 hG11 (by omega))
      clear hI11 hG11
      refine hK.out _ _ (fun h => absurd rfl h) ?_
      clear hK K
      try simp only [Act.put, List.setIfInBounds_toArray, List.set_cons_zero, List.set_cons_succ]
      refine anyL_done (by kernel_rfl) ?_ _
      clear Kq
      go_wp2_with fail
      obtain ⟨F2, hX2, hk2, hs2, hi2⟩ := HE.out
      have HE2 := Lib.hid (show ExtX w11 F2 gm bm (sized sk (fk xl)) (N + (k + 1)) last (upd fk xl (some v10)) ∧ Kf F w3 w11 ∧ Sb w3 F F2 ∧ In w11 F2 from
       ⟨hX2, HL.out.2.1.trans ((Kf.of_below (F := Fk) HA.out.2.2.1).trans (G := Fk) hk2 (fun b q => .inl q)) HL.out.2.2.1, HL.out.2.2.1.trans (w := wr) (fun b q => (hs2 b q).imp id (fun r => Nat.le_trans HA.out.2.2.1.size r)) HL.out.2.1.size, hi2⟩)
      clear hX2 hk2 hs2 hi2
      go_roundw
      case rel => exact ⟨k + 1, _, by omega, by go_num, _, F2, HE2.out⟩
      case measure => simp [intOf]; omega
    · obtain rfl : k = p + 1 := by omega
      have n0 : ¬ ((p + 1 : Nat) : Int) < ((p + 1 : Nat) : Int) := by omega
      have n0' : ¬ (p : Int) + 1 < (p : Int) + 1 := by omega
      have agw : Ag (fun b => ¬ F b) w3 wr := HL.out.2.1.ag (fun b q r => q r)
      have btx := Bk.ag (F := fun b => ¬ F b) HB3.out.2 agw HNF.out
      have d0 := btx.cell (i := 0) (by simp)
      simp only [List.getElem_cons_zero] at d0
      obtain ⟨c0, c1, c2⟩ := HL.out.1.bx.c3
      have f2 := HL.out.1.bx.free 2
      have HE := Lib.hid (HL.out.1.setLast T (by omega))
      have HKF := Lib.hid (And.intro ((Kf.of_below (F := F) HB3.out.1).trans (G := F) HL.out.2.1 (fun b q => .inl q)) (Sb.trans (F := F) (F' := F) (.refl w F) HL.out.2.2.1 HB3.out.1.size))
      clear btx agw
      go_wp2_with fail
      go_ret
      refine ⟨⟨_, rfl⟩, Fk, T, ⟨bm, sk, fk, (HE.out.1).mono (by omega) hN, fun e => by omega⟩, HKF.out.1.trans (G := Fk) HE.out.2 (fun b q => HKF.out.2 b q), HKF.out.2, fun b q => ?_⟩
      have := HL.out.2.2.2 b q
      simpa using this
end
section
open Go.RowKit Go.Maps Go.ChangeMaps Go.MapKept
open Go.WideElems (Fit rd rg pl rd_key rd_val rg_of rd_mk other_key)
theorem born_len {l : List MapEntry} {j : Nat} {e0 e' : MapEntry} (h : l[j]? = some e0) (hb : e'.born = e0.born) (q : Nat → Bool) : ((l.set j e').filter fun e => q e.born).length = (l.filter fun e => q e.born).length := by
 have key : ∀ l : List MapEntry, (l.filter fun e => q e.born).length = ((l.map (·.born)).filter q).length := fun l => by
  induction l with
  | nil => rfl
  | cons a l ih => simp only [List.filter_cons, List.map_cons]; split <;> simp [ih]
 rw [key, key, List.map_set, hb]
 congr 2
 apply List.ext_getElem?
 intro i
 rw [List.getElem?_set]
 split
 · next e =>
   subst e
   split
   · rw [List.getElem?_map, h]; rfl
   · next h2 => rw [List.getElem?_eq_none (by omega)]
 · rfl
theorem IR.over {w : World} {P : Program} {k t e : TypeId} {b r s cnt : Nat} {f : Int → Option Value} {left : Lit → Bool} (h : IR w P k b r s f left cnt) (K : Keyed P k) (hk : P.underlying k = some (.int .i64)) (ht : P.underlying t = some (.map k e)) {x : Int} (hx : wf64 x) {v0 : Value} (hf : f x = some v0) (v : Value) (hs : s ≤ 1000000) :
  ∃ w', (Instr.mapUpdate t (.map (some b)) (.int .i64 x) v).run P w = .ok () w' ∧ IR w' P k b r s (upd f x (some v)) left cnt ∧ w.grownBy w' (some b) := by
 have hne : r ≠ b := by obtain ⟨D, h, _⟩ := h; exact h.ne
 have hIM := h.im
 obtain ⟨D, hR, hsz, hat⟩ := h
 have hown := hR.owns
 obtain ⟨es, cl, si, se, c0, hb, F, hle, hD, hr, hold, hcnt, hl1, hl2, hsc, hsk⟩ := hR
 have hkey := key64 hk hx
 have hhas : Maps.has D (.int .i64 x) = true := Maps.has_true_of_atKey (y := .held v0) (fun z => by rw [hat x hx, hf]; rfl)
 obtain ⟨w2, hrun2, hput2, hg2⟩ := hown.update K ht (by simp only [maxLen]; omega) hkey (val := v) (d := .held v) (ps := []) rfl
 have hIM2 := IMd.put (w := w) (b := b) (s := s) (D := D) (f := f) ⟨hown, hsz, hat⟩ K hk hx v hput2
 rw [hf] at hIM2
 obtain ⟨es1, cl1, hrun1, F1, hput1, _, _, _⟩ := Maps.fit_store (R' := RVal) K ht hb F (by simp only [maxLen]; omega) (fun _ _ _ _ hz => hz) hkey (val := v) (yv := (.held v, [])) rfl
 rcases K.find w hkey es.toList F.keys with ⟨h1, h2⟩ | ⟨j, e0, h1, h2, h3⟩
 · exfalso
   rw [hD] at hhas
   obtain ⟨p, hp, hpk⟩ := List.any_eq_true.1 hhas
   obtain ⟨y, hy, rfl⟩ := List.mem_map.1 (mem_sorted.1 hp)
   obtain ⟨z, hz⟩ := F.reads y hy
   rw [rg_of hz] at hpk
   have := WideAt.sameKey_eq hpk
   exact h2 y hy (K.inj (this ▸ rd_key hz) hkey)
 · have hj : es[j]? = some e0 := by simpa using h2
   have hrun : (Instr.mapUpdate t (.map (some b)) (.int .i64 x) v).run P w = .ok () (setBlock w b (.map (es.modify j (fun e' => { e' with key := .int .i64 x, val := v })) cl)) := by
    simp [Instr.mapUpdate, run_underlying ht, MapKept.run_getObj_map hb, K.check w false hkey, h1, hj, h3, K.stays w hkey, MapKept.run_setObj_map _ hb, Result.andThen, setBlock]
   have e1 := hrun1.symm.trans hrun
   injection e1 with _ e1
   have e2 := congrArg (fun W : World => W.heap[b]?) e1
   simp only [heap_setBlock_same hb] at e2
   injection e2 with e2
   injection e2 with e2 e3
   have hlist : es1.toList = es.toList.set j { e0 with key := .int .i64 x, val := v } := by rw [e2, Array.toList_modify, modify_eq_set _ _ _ _ h2]
   have hjl : j < es.toList.length := (List.getElem?_eq_some_iff.1 h2).1
   have he0 : e0 ∈ es.toList := (List.getElem?_eq_some_iff.1 h2).2 ▸ List.getElem_mem hjl
   have rgk : (rg P k RVal { e0 with key := .int .i64 x, val := v }).1 = .int .i64 x := by rw [rg_of (rd_mk hkey (show RVal v = some (.held v, []) from rfl))]
   have rg0 : (rg P k RVal e0).1 = .int .i64 x := by
    obtain ⟨z, hz⟩ := F.reads e0 he0
    rw [rg_of hz]
    have := rd_key hz
    rw [h3, hkey] at this
    exact (Option.some.inj this).symm
   have who : ∀ y ∈ es1.toList, y = { e0 with key := .int .i64 x, val := v } ∨ y ∈ es.toList := fun y hy => by
    rw [hlist] at hy
    rcases List.mem_or_eq_of_mem_set hy with q | q
    · exact .inr q
    · exact .inl q
   refine ⟨_, hrun1, ?_, ⟨rfl, rfl, rfl, by simp [setBlock], fun i _ hi => heap_setBlock_other hb _ (fun q => hi (by rw [q]))⟩⟩
   obtain ⟨D2, hI2a, hI2b, hI2c⟩ := hIM2
   refine ⟨.map ((es1.toList.map (rg P k RVal)).foldr DataW.insert []), ⟨es1, cl1, si, se, c0, heap_setBlock_same hb _, F1, ?_, rfl, (heap_setBlock_other hb _ hne).trans hr, fun y hy => ?_, ?_, fun y hy => ?_, fun kl hkl => ?_, hsc, by rw [e3]; exact hsk⟩, ?_, fun y hy z => ?_⟩
   · have : es1.size = es.size := by rw [e2]; simp
     omega
   · rcases who y hy with rfl | q
     · exact hold e0 he0
     · exact hold y q
   · have e4 : ∀ a : Array MapEntry, (leftOf a se).size = (a.toList.filter fun e => !se.contains e.born).length := fun a => by
      unfold leftOf
      rw [← Array.toList_filter, Array.length_toList]
     rw [← hcnt, e4, e4, hlist]
     exact born_len (e' := { e0 with key := .int .i64 x, val := v }) h2 rfl (fun n => !se.contains n)
   · rcases who y hy with rfl | q
     · rw [rgk, ← rg0]; exact hl1 e0 he0
     · exact hl1 y q
   · obtain ⟨y, hy, hyk⟩ := hl2 kl hkl
     by_cases q : y.key = e0.key
     · refine ⟨{ e0 with key := .int .i64 x, val := v }, by rw [hlist]; exact List.mem_iff_getElem?.2 ⟨j, by rw [List.getElem?_set, if_pos rfl, if_pos hjl]⟩, ?_⟩
       rw [rgk, ← hyk]
       obtain ⟨z, hz⟩ := F.reads y hy
       rw [rg_of hz]
       have := rd_key hz
       rw [q, h3, hkey] at this
       exact Option.some.inj this
     · refine ⟨y, ?_, hyk⟩
       rw [hlist]
       obtain ⟨i, hi, hiy⟩ := List.getElem_of_mem hy
       have hij : j ≠ i := fun q2 => by
        subst q2
        rw [List.getElem?_eq_getElem hi, hiy] at h2
        exact q (by rw [Option.some.inj h2])
       exact List.mem_iff_getElem?.2 ⟨i, by rw [List.getElem?_set, if_neg hij, List.getElem?_eq_getElem hi, hiy]⟩
   · have q := hput1
     rw [hput1, ← DataW.put_eq, ← hD]
     have h5 := Maps.size_put (hown.tidy K) (.held v) (k := .int .i64 x)
     rw [hhas] at h5
     simpa [hsz] using h5
   · rw [hput1, ← DataW.put_eq, ← hD]
     by_cases e5 : y = x
     · subst e5; rw [upd_same, atKey_put_same hown.isMap (by simp [WideAt.IsKeyLit])]; rfl
     · rw [upd_other _ _ e5, atKey_put_other (fun e6 => by injection e6 with _ e6; exact e5 e6)]; exact hat y hy z
section
variable {P : Program} (w : World) {ops : Array Oper} {rest : List Oper} {o : Oper} {a : Act} {Q : Exit → Act → World → Prop}
theorem wp_iover {K : Act → World → Prop} (m x v : Operand) (t : TypeId) (hop : o.op = Op.mapUpdate t m x v) (k e : TypeId) (KK : Keyed P k) (hk : P.underlying k = some (.int .i64)) (ht : P.underlying t = some (.map k e)) (b r s cnt : Nat) (f : Int → Option Value) (left : Lit → Bool)
  (hm : a.eval m = .map (some b)) (h : IR w P k b r s f left cnt) (hs : s ≤ 1000000) (key : Int) (val v0 : Value) (hx : a.eval x = .int .i64 key) (hv : a.eval v = val) (hw : wf64 key) (hf : f key = some v0)
  (hK : ∀ w', IR w' P k b r s (upd f key (some val)) left cnt → w.grownBy w' (some b) → K (a.put o.dst undef) w') : o.wp P a w K Q := by
 obtain ⟨w', hrun, h1, h2⟩ := h.over KK hk ht hw hf val hs
 unfold Oper.wp
 simp [execOp, hop, hm, hx, hv, hrun, Result.andThen]
 exact hK w' h1 h2
end
end
section
open Go.RowKit Go.Maps
theorem ver_one {l : List VerD} : ∀ u ∈ l.flatMap VerD.cells, u.oneCell' = true := fun u hu => by
 obtain ⟨x, _, hx⟩ := List.mem_flatMap.1 hu
 simp [VerD.cells] at hx
 rcases hx with rfl | rfl <;> rfl
theorem clone_ver (ad : Addr) (n c : Nat) (vs : List VerD) (w : World) (hl : vs.length = n) (h : Rd w w.heap.size (some ad) (vs.flatMap VerD.cells)) (hn : n ≤ 100000) :
  Calls Tryz.prog 166 #[.slice (some ad) n c] w fun e w' => (∃ v, e = .returned v ∧ w'.ownsRow w.heap.size 258 2 v n (vs.flatMap VerD.cells)) ∧ Below w.heap.size w w' := by
 obtain ⟨xi, xz, hxi, hxz, hx5, hx56, hxc⟩ := infoVer
 have q : ∀ (w : World) (a : Option Addr) (n c n' c' : Nat), (binOp .eql 256 (.slice a n c) (.slice none n' c')).run Tryz.prog w = .ok (.bool a.isNone) w := fun w a n c n' c' => Lib.run_eql_slice_nil w _ _ a n c n' c' Tryz.underlying256
 have HR := Lib.hid h
 have HN := Lib.hid hn
 clear h hn
 go_enter Tryz.func166, Tryz.ntmps166
 go_wp2_with (at_builtin; go_must (refine wpList_appM _ rfl _ _ 256 rfl w.heap.size 258 xi xz 2 32 Tryz.underlying256 hxi hxz hx5 hx56 hxc (by omega) _ 0 [] (by rfl) (by exact World.ownsRow_lit w #[] 0 (Nat.le_refl _) (by decide) rfl) w.heap.size (some ad) n c (vs.flatMap VerD.cells) (by rfl) (by rw [flat_len ver_two, hl]) (by exact HR.out.alloc (Nat.le_refl _) _) ver_one (by have := HN.out; omega) (by have := HN.out; omega) (by simp) ?_); intro v1 w1 hO1 hG1 hv1)
 have HB : Below w.heap.size w w1 := ((Below.refl _ _).alloc (Nat.le_refl _) _).grown hG1 (by simp) (fun g hg => Nat.le_of_eq (Option.some.inj (show some w.heap.size = some g from hg)))
 have HE := Lib.hid (show w1.ownsRow w.heap.size 258 2 v1 n (vs.flatMap VerD.cells) from by simpa using hO1)
 clear hO1 hG1 hv1
 go_ret
 exact ⟨⟨v1, rfl, HE.out⟩, HB⟩
theorem flat_drop {α : Type} {f : α → List Value} (hs : ∀ x, (f x).length = 2) : ∀ (l : List α) (k : Nat), (l.flatMap f).drop (k * 2) = (l.drop k).flatMap f
 | l, 0 => by simp
 | [], k + 1 => by simp
 | x :: l, k + 1 => by
   have ih := flat_drop hs l k
   rw [List.flatMap_cons, List.drop_succ_cons, ← ih, show (k + 1) * 2 = (f x).length + k * 2 by rw [hs]; omega, List.drop_append]
   simp
theorem iter_kf {w w' : World} {P : Program} {k : TypeId} {b r s cnt : Nat} {f : Int → Option Value} {left : Lit → Bool} (h : IR w P k b r s f left cnt) (hg : w.grownBy w' (some r)) : Kf (fun b => b = r) w w' := by
 obtain ⟨D, ⟨es, cl, si, se, c0, _, _, _, _, hr, _⟩, _⟩ := h
 exact ⟨hg.os, hg.tape, hg.output, hg.size, fun b ob ho hn => by
  rw [hg.block b (lt_of ho) (fun e => by
   injection e with e
   rcases hn with q | ⟨cs, fr, q⟩
   · exact q e
   · rw [e, hr] at ho
     injection ho with ho
     rw [q] at ho
     cases ho)]
  exact ho⟩
theorem ExtX.reset {w2 w8 w9 : World} {F : Foot} {gm bm s N n : Nat} {last y : Int} {f : Int → Option Value} {v : Value} {us : List VerD} (h : ExtX w2 F gm bm s N last f) (hI : In w2 F) (hy : 0 ≤ y ∧ y < 258) (hb : Below w2.heap.size w2 w8) (hl : us.length = n) (ho : w8.ownsRow w2.heap.size 258 2 v n (us.flatMap VerD.cells)) (hn : 0 < n) (hnN : n ≤ N) (hu : ∀ u ∈ us, IsY w2 u.A 40 u.c u.bs)
  (hi : IM w9 Tryz.prog 3 bm s (upd f y (some v))) (hg : w8.grownBy w9 (some bm)) : ∃ F', ExtX w9 F' gm bm s N last (upd f y (some v)) ∧ Kf F w2 w9 ∧ Sb w2 F F' ∧ In w9 F' ∧ ∀ b, F' b → F b ∨ w2.heap.size ≤ b := by
 have h8 := h.ag (.of_below hb)
 have k9 := upd_kf h8.im hg
 have kall : Kf F w2 w9 := (Kf.of_below (F := F) hb).trans (G := F) (k9.mono (fun b q => by rw [q]; exact h.f1)) (fun b q => .inl q)
 have a9 : Ag (fun b => b ≠ bm) w8 w9 := k9.ag (fun b q r => q r)
 have cells_ne : ∀ (g : Nat) (cs : Array Value) (t : TypeId) (fr : Nat × Nat), w8.heap[g]? = some (.cells cs t fr) → g ≠ bm := fun g cs t fr hg e => by
  obtain ⟨es, cl, hm⟩ := h8.im.at_
  rw [e, hm] at hg; cases hg
 have row9 : ∀ {B m : Nat} {u : Value} {xs : List Value}, w8.ownsRow B 258 2 u m xs → w9.ownsRow B 258 2 u m xs := fun q => own_ag q a9 (fun g e => by obtain ⟨_, _, hh⟩ := own_at q e; exact cells_ne g _ _ _ hh)
 have hnew : ∀ g, v.ownBlock = some g → w2.heap.size ≤ g := fun g e => own_at_ge ho e
 have old : ∀ x u, f x = some u → ∃ g, u.ownBlock = some g ∧ g < w2.heap.size := fun x u hu => by
  obtain ⟨vs, h1, _, h3, _, hF⟩ := h.row x u hu
  rcases h3.2 with ⟨_, h0⟩ | ⟨g, cap, cur, e, _⟩
  · omega
  · exact ⟨g, by rw [e]; rfl, hI g (hF g (by rw [e]; rfl))⟩
 have apart : ∀ x u, f x = some u → u.ownBlock ≠ v.ownBlock := fun x u hu e => by
  obtain ⟨g, hg1, hg2⟩ := old x u hu
  have := hnew g (e.symm.trans hg1)
  omega
 have hsb : ∀ b, orF F (fun b => v.ownBlock = some b) b → F b ∨ w2.heap.size ≤ b := fun b q => q.imp id (hnew b)
 refine ⟨orF F (fun b => v.ownBlock = some b), ⟨Bk.ag h8.bx a9 (cells_ne gm _ _ _ h8.bx), hi, fun x u hxu => ?_, fun x z u u' hn hxu hzu => ?_, fun x hx => ?_, h.pos, h.big, .inl h.f0, .inl h.f1⟩, kall, hsb, fun b q => ?_, hsb⟩
 · by_cases e : x = y
   · subst e
     rw [upd_same] at hxu
     injection hxu with hxu
     subst hxu
     rw [← hl] at ho hn hnN
     exact ⟨us, hn, hnN, ownsRow_base_a (row9 ho) (Nat.zero_le _), fun u hu' => ((hu u hu').ag (F := fun _ => False) (kall.ag (fun _ q => q.elim))), fun g q => .inr q⟩
   · rw [upd_other _ _ e] at hxu
     obtain ⟨vs, h1, h2, h3, h4, h5⟩ := h8.row x u hxu
     exact ⟨vs, h1, h2, row9 h3, fun u hu => (h4 u hu).ag a9, fun g q => .inl (h5 g q)⟩
 · by_cases e1 : x = y <;> by_cases e2 : z = y
   · exact absurd (e1.trans e2.symm) hn
   · subst e1
     rw [upd_same] at hxu; rw [upd_other _ _ e2] at hzu
     injection hxu with hxu; subst hxu
     exact fun e => apart z u' hzu e.symm
   · subst e2
     rw [upd_same] at hzu; rw [upd_other _ _ e1] at hxu
     injection hzu with hzu; subst hzu
     exact apart x u hxu
   · rw [upd_other _ _ e1] at hxu; rw [upd_other _ _ e2] at hzu
     exact h.dj x z u u' hn hxu hzu
 · unfold upd at hx
   split at hx
   · next e => rw [e]; exact hy
   · exact h.rng x hx
 · rcases q with q | q
   · exact Nat.lt_of_lt_of_le (hI b q) kall.size
   · obtain ⟨_, _, hh⟩ := own_at ho q
     exact Nat.lt_of_lt_of_le (lt_of hh) k9.size
theorem prune_any (F : Foot) (gm N : Nat) (last a : Int) (w : World) (h : ExtP w F gm N last) (hI : In w F) :
  Calls Tryz.prog 106 #[.pointer (some ⟨gm, 0, none⟩), .int .i64 a] w fun e w' => (∃ r : Int, e = .returned (.int .i64 r)) ∧ ∃ F', ExtP w' F' gm N last ∧ Kf F w w' ∧ Sb w F F' ∧ In w' F' := by
 obtain ⟨bm, s, f, hX, hE⟩ := h
 have hgo := egone_any gm _ last w hX.bx
 obtain ⟨c0, c1, c2⟩ := hX.bx.c3
 have HX := Lib.hid (And.intro hX (And.intro hE hI))
 clear hX hE
 go_enter Tryz.func106, Tryz.ntmps106
 go_wp2_with fail
 refine hgo.mono ?_
 rintro e w' ⟨rfl, rfl⟩
 clear hgo
 go_wp2_with (at_range; go_must (refine wpList_irange _ rfl _ 250 rfl 3 256 lawI underMV bm s f (by rfl) (by exact HX.out.1.im) ?_); intro w1 left hR1 hG1 hs1)
 have hb1 : Below w.heap.size w w1 := ⟨hG1.os, hG1.tape, hG1.output, hG1.size, fun b hb => hG1.block b hb (by simp)⟩
 have HR := Lib.hid (And.intro hR1 (And.intro (HX.out.1.ag (.of_below hb1)) (And.intro (HX.out.2.2.next hb1.size) (And.intro (Kf.of_below (F := F) hb1) (show ¬ F w.heap.size from fun q => by have := HX.out.2.2 _ q; omega)))))
 clear hG1 hs1 hR1 hb1 c0 c1 c2
 try go_frame
 go_loopw [4] (fun nv wr => ∃ (x : Int) (left : Lit → Bool) (cnt : Nat), nv = .int .i64 x ∧ ∃ fk Fk, IR wr Tryz.prog 3 bm w.heap.size s fk left cnt ∧ Hid (ExtX wr Fk gm bm s N last fk ∧ (last = 0 → ∀ y, fk y = none) ∧ Kf F w wr ∧ Sb w F Fk ∧ In wr Fk ∧ ¬ Fk w.heap.size)) (fun _ wr => wr.rangeLeft bm w.heap.size)
 case atStart => exact ⟨0, left, s, rfl, f, F, HR.out.1, HR.out.2.1, HX.out.2.1, HR.out.2.2.2.1, .refl _ _, HR.out.2.2.1, HR.out.2.2.2.2⟩
 case round =>
  obtain ⟨x, left, cnt, rfl, fk, Fk, hR, HL⟩ := hrel
  have HRR := Lib.hid hR
  clear hR
  go_wp2_with (at_next; go_must (refine wpList_inext _ rfl _ rfl 3 lawI underI bm w.heap.size s fk left cnt (by rfl) (by exact HRR.out) ?_ ?_))
  · go_wp2_with fail
    go_ret
    exact ⟨⟨_, rfl⟩, Fk, ⟨bm, s, fk, HL.out.1, HL.out.2.1⟩, HL.out.2.2.1, HL.out.2.2.2.1, HL.out.2.2.2.2.1⟩
  · intro y c w2 left2 cnt2 hyw hyc hR2 hlt2 hG2 hs2 hen
    have hkI : Kf (fun b => b = w.heap.size) wr w2 := iter_kf HRR.out hG2
    have hX2 : ExtX w2 Fk gm bm s N last fk := HL.out.1.ag (hkI.ag (fun b q r => HL.out.2.2.2.2.2 (r ▸ q)))
    obtain ⟨rA, m, rc, vs, ha⟩ := hX2.at_ y
    have hcv := ha.val
    rw [hyc] at hcv
    simp only [Option.getD_some] at hcv
    subst hcv
    have hat := eat_any Fk gm bm s N m rc last y a fk rA vs w2 hX2 hyw ha
    have hKF2 : Kf F w w2 := HL.out.2.2.1.trans (G := fun b => b = w.heap.size) hkI (fun b q => .inr (by have q : b = w.heap.size := q; omega))
    have HK := Lib.hid (And.intro hKF2 (HL.out.2.2.2.2.1.next hkI.size))
    have hyr := hX2.rng y (by rw [hyc]; rfl)
    have HA := Lib.hid (And.intro hX2 (And.intro ha (And.intro hR2 (And.intro hlt2 hkI))))
    clear hX2 hR2 hlt2 hG2 hs2 hkI hKF2
    go_wp2_with fail
    refine hat.mono ?_
    rintro e w' ⟨⟨i, rfl, hi0, hi1⟩, rfl⟩
    clear hat
    by_cases hi : 0 < i
    · have t0 : decide (0 < i) = true := decide_eq_true hi
      obtain ⟨k, rfl⟩ : ∃ k : Nat, i = (k : Int) := ⟨i.toNat, by omega⟩
      have n0 : (0 : Int) ≤ (k : Int) := by omega
      have n1 : (k : Int) ≤ (m : Int) := by omega
      have n2 : (k : Int) < (m : Int) := by omega
      have n3 : (m : Int) ≤ (rc : Int) := by have := (own_caps ha.own).1; omega
      have n4 : rc ≠ k := by omega
      have n5 : ¬ (rc = k) := by omega
      obtain ⟨c0, c1, c2⟩ := HA.out.1.bx.c3
      obtain ⟨v0, hv0⟩ : ∃ v, vs[0]'(by have := ha.len; omega) = v := ⟨_, rfl⟩
      obtain ⟨ad, rfl, had, _, _⟩ := two_get ver_two (rd_of_own ha.own) (k := 0) (by have := ha.len; omega) (u := .int .i64 v0.t) (v := .slice v0.A 40 v0.c) (by rw [hv0]; rfl)
      have hrd : Rd w2 w2.heap.size (some (ad.add (k * 2))) ((vs.drop k).flatMap VerD.cells) := by
       have h1 := (rd_of_own ha.own).drop (k := k * 2) (c := m * 2 + 1) (n := m * 2) (by rw [flat_len ver_two, ha.len]) (by omega) (by omega)
       rw [if_neg (by omega), flat_drop ver_two] at h1
       exact h1
      have hdl : (vs.drop k).length = m - k := by rw [List.length_drop, ha.len]
      have hmN : m ≤ N := ha.le
      have hNb : N ≤ 100000 := HA.out.1.big
      have HD := Lib.hid (And.intro hdl (And.intro hrd (show ∀ u ∈ vs.drop k, IsY w2 u.A 40 u.c u.bs from fun u hu => ha.y u (List.mem_of_mem_drop hu))))
      have KK := Lib.hid (fun (w' : World) (hS : Below w2.heap.size w2 w') => (show w'.cell? ⟨gm, 1, none⟩ = some (.map (some bm)) from (HA.out.1.bx.next hS HA.out.1.bx.lt).cell (i := 1) (by simp)))
      clear ha hv0 hrd hdl
      go_wp2_with fail
      have Kq := KK
      refine anyL_start (fun w' => Below w2.heap.size w2 w') 9 (by kernel_rfl) (bdrew (Below.refl _ _)) (fun hHeld => ?_)
      refine kL 0 ?_; refine kL 1 ?_; refine kL 2 ?_; refine kL 3 ?_; refine kL 4 ?_; refine kL 5 ?_; refine kL 6 ?_; refine kL 7 ?_
      refine rL 8 (fun K hK => ?_)
      go_simp
      refine (clone_ver (ad.add (k * 2)) (m - k) (rc - k) (vs.drop k) _ HD.out.1 (HD.out.2.1.drew) (by omega)).mono ?_
      rintro e w8 ⟨⟨v8, rfl, ho8⟩, hb8⟩
      have hB8 : Below w2.heap.size w2 w8 := (bdrew (Below.refl _ _)).trans hb8
      have HO8 := Lib.hid ho8
      clear ho8 hb8
      go_simp
      refine hK.out _ _ (fun _ => hB8) ?_
      clear hK K hHeld
      have hHeld := hB8
      try simp only [Act.put, List.setIfInBounds_toArray, List.set_cons_zero, List.set_cons_succ]
      refine rL 9 (fun K hK => ?_)
      refine if_wanted rfl (wp_iover _ _ _ _ 250 rfl 3 256 lawI underI underMV bm w.heap.size s cnt2 fk left2 (by rfl) (HA.out.2.2.1.below hHeld) (Nat.le_trans HA.out.1.size (by omega)) y v8 _ (by rfl) (by rfl) hyw hyc ?_)
      intro w9 hI9 hG9
      have HE := Lib.hid (And.intro hI9 (HA.out.1.reset HK.out.2 hyr hHeld HD.out.1 HO8.out (by omega) (by omega) HD.out.2.2 hI9.im hG9))
      clear hI9 hG9
      refine hK.out _ _ (fun h => absurd rfl h) ?_
      clear hK K
      try simp only [Act.put, List.setIfInBounds_toArray, List.set_cons_zero, List.set_cons_succ]
      refine anyL_done (by kernel_rfl) ?_ _
      clear Kq
      obtain ⟨F2, hX9, hk9, hs9, hi9, hf9⟩ := HE.out.2
      have HE2 := Lib.hid (show ExtX w9 F2 gm bm s N last (upd fk y (some v8)) ∧ (last = 0 → ∀ z, upd fk y (some v8) z = none) ∧ Kf F w w9 ∧ Sb w F F2 ∧ In w9 F2 ∧ ¬ F2 w.heap.size from
       ⟨hX9, (fun e => by have := HL.out.2.1 e y; rw [hyc] at this; cases this), HK.out.1.trans hk9 HL.out.2.2.2.1, HL.out.2.2.2.1.trans (w := w2) hs9 HK.out.1.size, hi9, fun q => (hf9 _ q).elim HL.out.2.2.2.2.2 (fun r => by have := HRR.out.lt; have := HA.out.2.2.2.2.size; omega)⟩)
      have HE3 := Lib.hid HE.out.1
      clear hX9 hk9 hs9 hi9 hf9 HE c0 c1 c2
      go_wp2_with fail
      go_roundw
      case rel => exact ⟨_, left2, cnt2, rfl, _, F2, HE3.out, HE2.out⟩
      case measure => rw [HE3.out.left_eq, HRR.out.left_eq]; exact HA.out.2.2.2.1
    · have t0 : decide (0 < i) = false := decide_eq_false hi
      go_wp2_with fail
      go_roundw
      case rel => exact ⟨_, left2, cnt2, rfl, fk, Fk, HA.out.2.2.1, HA.out.1, HL.out.2.1, HK.out.1, HL.out.2.2.2.1, HK.out.2, HL.out.2.2.2.2.2⟩
      case measure => rw [HA.out.2.2.1.left_eq, HRR.out.left_eq]; exact HA.out.2.2.2.1
end
section
structure TX where
 st : Nat
 time : Nat
 at' : Nat
 keys : List Int
structure MS where
 last : Nat
 given : Nat
 num : Nat
 read : Bool
 txs : List TX
 queue : List Nat
def KeysOk (ks : List Int) : Prop := ks.Pairwise (· < ·) ∧ ks.length ≤ 16 ∧ ∀ x ∈ ks, 0 ≤ x ∧ x < 258
structure GoodM (m : MS) : Prop where
 lg : m.last ≤ m.given
 atl : ∀ (i : Nat) (t : TX), m.txs[i]? = some t → t.at' ≤ m.last
 com : ∀ (i : Nat) (t : TX), m.txs[i]? = some t → t.st = 3 → t.time ≤ m.last ∧ (t.keys ≠ [] → t.at' < t.time)
 que : ∀ i ∈ m.queue, ∃ t : TX, m.txs[i]? = some t ∧ t.st = 2 ∧ t.at' < t.time ∧ m.last < t.time ∧ t.time ≤ m.given ∧ t.keys ≠ []
 srt : m.queue.Pairwise fun i j => ∀ (t u : TX), m.txs[i]? = some t → m.txs[j]? = some u → t.time < u.time
 rng : ∀ (i : Nat) (t : TX), m.txs[i]? = some t → 1 ≤ t.st ∧ t.st ≤ 4 ∧ KeysOk t.keys
 cap : m.given ≤ 1000 ∧ m.num ≤ 1000
structure Ext (m m' : MS) : Prop where
 last : m.last ≤ m'.last
 tx : ∀ (i : Nat) (t : TX), m.txs[i]? = some t → ∃ t' : TX, m'.txs[i]? = some t' ∧ t'.at' = t.at' ∧ (3 ≤ t.st → t' = t) ∧ (t.st ≠ 1 → t'.st ≠ 1)
theorem Ext.refl (m : MS) : Ext m m := ⟨Nat.le_refl _, fun i t h => ⟨t, h, rfl, fun _ => rfl, id⟩⟩
theorem Ext.trans {a b c : MS} (h : Ext a b) (k : Ext b c) : Ext a c := ⟨Nat.le_trans h.last k.last, fun i t e => by
 obtain ⟨t1, e1, a1, d1, o1⟩ := h.tx i t e
 obtain ⟨t2, e2, a2, d2, o2⟩ := k.tx i t1 e1
 refine ⟨t2, e2, a2.trans a1, fun h3 => ?_, fun hn => o2 (o1 hn)⟩
 have := d1 h3; subst this
 exact d2 h3⟩
def MS.begin (m : MS) : MS := { m with txs := m.txs ++ [⟨1, 0, m.last, []⟩] }
def MS.put (m : MS) (i : Nat) (t : TX) : MS := { m with txs := m.txs.set i t }
def MS.pend (m : MS) (i : Nat) (t : TX) : MS := { m with given := m.given + 1, txs := m.txs.set i ⟨2, m.given + 1, t.at', t.keys⟩, queue := m.queue ++ [i] }
theorem get_app {α : Type} {l : List α} {x y : α} {i : Nat} (h : (l ++ [x])[i]? = some y) : l[i]? = some y ∨ i = l.length ∧ y = x := by
 rcases Nat.lt_or_ge i l.length with g | g
 · rw [List.getElem?_append_left g] at h; exact .inl h
 · rw [List.getElem?_append_right g] at h
   rcases Nat.eq_zero_or_pos (i - l.length) with e | e
   · rw [e] at h; simp at h; exact .inr ⟨by omega, h.symm⟩
   · rw [List.getElem?_eq_none (by simp; omega)] at h; cases h
theorem get_lt {α : Type} {l : List α} {x : α} {i : Nat} (h : l[i]? = some x) : i < l.length := (List.getElem?_eq_some_iff.1 h).1
theorem get_set {α : Type} {l : List α} {x y : α} {i j : Nat} (h : (l.set i x)[j]? = some y) : (j = i ∧ y = x) ∨ (j ≠ i ∧ l[j]? = some y) := by
 rw [List.getElem?_set] at h
 by_cases e : i = j
 · rw [if_pos e] at h
   by_cases g : i < l.length
   · rw [if_pos g] at h; exact .inl ⟨e.symm, (Option.some.inj h).symm⟩
   · rw [if_neg g] at h; cases h
 · rw [if_neg e] at h; exact .inr ⟨fun q => e q.symm, h⟩
theorem GoodM.begin {m : MS} (h : GoodM m) : GoodM m.begin ∧ Ext m m.begin := by
 have keep : ∀ (i : Nat) (t : TX), m.txs[i]? = some t → m.begin.txs[i]? = some t := fun i t e => by
  show (m.txs ++ [_])[i]? = _
  rw [List.getElem?_append_left (get_lt e)]; exact e
 refine ⟨⟨h.lg, fun i t e => ?_, fun i t e => ?_, fun i hi => ?_, ?_, fun i t e => ?_, h.cap⟩, Nat.le_refl _, fun i t e => ⟨t, keep i t e, rfl, fun _ => rfl, id⟩⟩
 · rcases get_app e with q | ⟨_, rfl⟩
   · exact h.atl i t q
   · exact Nat.le_refl _
 · rcases get_app e with q | ⟨_, rfl⟩
   · exact h.com i t q
   · intro q; cases q
 · obtain ⟨t, e, r⟩ := h.que i hi
   exact ⟨t, keep i t e, r⟩
 · refine List.Pairwise.imp_of_mem ?_ h.srt
   intro i j hi hj hp t u e1 e2
   obtain ⟨t', e1', _⟩ := h.que i hi
   obtain ⟨u', e2', _⟩ := h.que j hj
   rw [keep i t' e1'] at e1
   rw [keep j u' e2'] at e2
   injection e1 with e1; injection e2 with e2
   subst e1 e2
   exact hp _ _ e1' e2'
 · rcases get_app e with q | ⟨_, rfl⟩
   · exact h.rng i t q
   · exact ⟨Nat.le_refl 1, show (1 : Nat) ≤ 4 by decide, List.Pairwise.nil, Nat.zero_le _, by simp⟩
theorem GoodM.put {m : MS} (h : GoodM m) {i : Nat} {t t' : TX} (hi : m.txs[i]? = some t) (ho : t.st = 1) (ha : t'.at' = t.at') (hk : KeysOk t'.keys)
  (hs : t'.st = 1 ∨ t'.st = 4 ∨ (t'.st = 3 ∧ t'.keys = [] ∧ t'.time = t.at')) : GoodM (m.put i t') ∧ Ext m (m.put i t') := by
 have hl := get_lt hi
 have hnq : i ∉ m.queue := fun q => by
  obtain ⟨u, e, s, _⟩ := h.que i q
  rw [hi] at e; injection e with e; subst e
  omega
 have keep : ∀ (j : Nat) (u : TX), j ≠ i → m.txs[j]? = some u → (m.put i t').txs[j]? = some u := fun j u hn e => by
  show (m.txs.set i t')[j]? = _
  rw [List.getElem?_set, if_neg (fun q => hn q.symm)]; exact e
 have at_i : (m.put i t').txs[i]? = some t' := by
  show (m.txs.set i t')[i]? = _
  rw [List.getElem?_set, if_pos rfl, if_pos hl]
 refine ⟨⟨h.lg, fun j u e => ?_, fun j u e => ?_, fun j hj => ?_, ?_, fun j u e => ?_, h.cap⟩, Nat.le_refl _, fun j u e => ?_⟩
 · rcases get_set e with ⟨rfl, rfl⟩ | ⟨_, q⟩
   · rw [ha]; exact h.atl _ _ hi
   · exact h.atl _ _ q
 · rcases get_set e with ⟨rfl, rfl⟩ | ⟨_, q⟩
   · intro h3
     rcases hs with s | s | ⟨_, s, q⟩
     · omega
     · omega
     · exact ⟨by rw [q]; exact h.atl _ _ hi, fun n => absurd s n⟩
   · exact h.com _ _ q
 · obtain ⟨u, e, r⟩ := h.que j hj
   exact ⟨u, keep j u (fun q => hnq (q ▸ hj)) e, r⟩
 · refine List.Pairwise.imp_of_mem ?_ h.srt
   intro a b hia hib hp x y e1 e2
   rcases get_set e1 with ⟨rfl, _⟩ | ⟨_, q1⟩
   · exact absurd hia hnq
   · rcases get_set e2 with ⟨rfl, _⟩ | ⟨_, q2⟩
     · exact absurd hib hnq
     · exact hp _ _ q1 q2
 · rcases get_set e with ⟨rfl, rfl⟩ | ⟨_, q⟩
   · exact ⟨by omega, by omega, hk⟩
   · exact h.rng _ _ q
 · by_cases e' : j = i
   · subst e'
     rw [hi] at e; injection e with e; subst e
     exact ⟨t', at_i, ha, fun q => absurd q (by omega), fun q => absurd ho q⟩
   · exact ⟨u, keep j u e' e, rfl, fun _ => rfl, id⟩
theorem GoodM.pend {m : MS} (h : GoodM m) {i : Nat} {t : TX} (hi : m.txs[i]? = some t) (ho : t.st = 1) (hk : t.keys ≠ []) (hc : m.given < 1000) : GoodM (m.pend i t) ∧ Ext m (m.pend i t) := by
 have hl := get_lt hi
 have hnq : i ∉ m.queue := fun q => by
  obtain ⟨u, e, s, _⟩ := h.que i q
  rw [hi] at e; injection e with e; subst e
  omega
 have keep : ∀ (j : Nat) (u : TX), j ≠ i → m.txs[j]? = some u → (m.pend i t).txs[j]? = some u := fun j u hn e => by
  show (m.txs.set i _)[j]? = _
  rw [List.getElem?_set, if_neg (fun q => hn q.symm)]; exact e
 have at_i : (m.pend i t).txs[i]? = some ⟨2, m.given + 1, t.at', t.keys⟩ := by
  show (m.txs.set i _)[i]? = _
  rw [List.getElem?_set, if_pos rfl, if_pos hl]
 refine ⟨⟨Nat.le_trans h.lg (Nat.le_succ _), fun j u e => ?_, fun j u e => ?_, fun j hj => ?_, ?_, fun j u e => ?_, show m.given + 1 ≤ 1000 by omega, h.cap.2⟩, Nat.le_refl _, fun j u e => ?_⟩
 · rcases get_set e with ⟨rfl, rfl⟩ | ⟨_, q⟩
   · exact show t.at' ≤ m.last from h.atl _ _ hi
   · exact h.atl _ _ q
 · rcases get_set e with ⟨rfl, rfl⟩ | ⟨_, q⟩
   · intro h3; cases h3
   · exact h.com _ _ q
 · rcases List.mem_append.1 hj with q | q
   · obtain ⟨u, e, s1, s2, s3, s4, s5⟩ := h.que j q
     exact ⟨u, keep j u (fun q' => hnq (q' ▸ q)) e, s1, s2, s3, Nat.le_trans s4 (Nat.le_succ _), s5⟩
   · obtain rfl : j = i := by simpa using q
     have := h.atl _ _ hi
     have := h.lg
     exact ⟨_, at_i, rfl, show t.at' < m.given + 1 by omega, show m.last < m.given + 1 by omega, Nat.le_refl _, hk⟩
 · refine List.pairwise_append.2 ⟨?_, by simp, fun a ha b hb => ?_⟩
   · refine List.Pairwise.imp_of_mem ?_ h.srt
     intro a b hia hib hp x y e1 e2
     rcases get_set e1 with ⟨rfl, _⟩ | ⟨_, q1⟩
     · exact absurd hia hnq
     · rcases get_set e2 with ⟨rfl, _⟩ | ⟨_, q2⟩
       · exact absurd hib hnq
       · exact hp _ _ q1 q2
   · obtain rfl : b = i := by simpa using hb
     intro x y e1 e2
     rw [at_i] at e2; injection e2 with e2; subst e2
     obtain ⟨u, e, _, _, _, s4, _⟩ := h.que a ha
     rw [keep a u (fun q' => hnq (q' ▸ ha)) e] at e1
     injection e1 with e1; subst e1
     exact Nat.lt_succ_of_le s4
 · rcases get_set e with ⟨rfl, rfl⟩ | ⟨_, q⟩
   · exact ⟨show (1 : Nat) ≤ 2 by decide, show (2 : Nat) ≤ 4 by decide, (h.rng _ _ hi).2.2⟩
   · exact h.rng _ _ q
 · by_cases e' : j = i
   · subst e'
     rw [hi] at e; injection e with e; subst e
     exact ⟨_, at_i, rfl, fun q => absurd q (by omega), fun q => absurd ho q⟩
   · exact ⟨u, keep j u e' e, rfl, fun _ => rfl, id⟩
def TX.done (t : TX) (ok : Bool) : TX := if ok then { t with st := 3 } else { t with st := 4, time := 0 }
def MS.pop (m : MS) (ok : Bool) : MS := match m.queue with
 | [] => m
 | i :: q => match m.txs[i]? with
   | none => m
   | some t => { m with txs := m.txs.set i (t.done ok), last := if ok then t.time else m.last, queue := q }
def MS.pops (m : MS) (ok : Bool) : Nat → MS
 | 0 => m
 | n + 1 => (m.pop ok).pops ok n
theorem pop_eq {m : MS} {i : Nat} {q : List Nat} {t : TX} (ok : Bool) (hq : m.queue = i :: q) (hi : m.txs[i]? = some t) : m.pop ok = { m with txs := m.txs.set i (t.done ok), last := if ok then t.time else m.last, queue := q } := by
 unfold MS.pop; rw [hq]; simp only [hi]
theorem GoodM.pop {m : MS} (h : GoodM m) {i : Nat} {q : List Nat} (ok : Bool) (hq : m.queue = i :: q) : GoodM (m.pop ok) ∧ Ext m (m.pop ok) := by
 obtain ⟨t, hi, s2, s3, s4, s5, s6⟩ := h.que i (by rw [hq]; exact List.mem_cons_self)
 have hl := get_lt hi
 have hsrt := h.srt
 rw [hq, List.pairwise_cons] at hsrt
 have hnq : i ∉ q := fun r => by
  have := hsrt.1 i r t t hi hi
  omega
 rw [pop_eq ok hq hi]
 have keep : ∀ (j : Nat) (u : TX), j ≠ i → m.txs[j]? = some u → (m.txs.set i (t.done ok))[j]? = some u := fun j u hn e => by
  rw [List.getElem?_set, if_neg (fun r => hn r.symm)]; exact e
 have at_i : (m.txs.set i (t.done ok))[i]? = some (t.done ok) := by rw [List.getElem?_set, if_pos rfl, if_pos hl]
 have hlast : m.last ≤ (if ok then t.time else m.last) := by split <;> omega
 have hda : (t.done ok).at' = t.at' := by unfold TX.done; split <;> rfl
 have hdk : (t.done ok).keys = t.keys := by unfold TX.done; split <;> rfl
 have hds : (t.done ok).st = 3 ∧ ok = true ∧ (t.done ok).time = t.time ∨ (t.done ok).st = 4 := by
  unfold TX.done; cases ok
  · exact .inr rfl
  · exact .inl ⟨rfl, rfl, rfl⟩
 refine ⟨⟨?_, fun j u e => ?_, fun j u e => ?_, fun j hj => ?_, ?_, fun j u e => ?_, h.cap⟩, hlast, fun j u e => ?_⟩
 · show (if ok then t.time else m.last) ≤ m.given
   have := h.lg
   split <;> omega
 · rcases get_set e with ⟨rfl, rfl⟩ | ⟨_, r⟩
   · rw [hda]; exact Nat.le_trans (h.atl _ _ hi) hlast
   · exact Nat.le_trans (h.atl _ _ r) hlast
 · rcases get_set e with ⟨rfl, rfl⟩ | ⟨_, r⟩
   · intro h3
     rcases hds with ⟨_, hok, ht⟩ | d
     · refine ⟨?_, fun _ => by rw [hda, ht]; exact s3⟩
       rw [ht]; show t.time ≤ (if ok then t.time else m.last); rw [if_pos hok]; exact Nat.le_refl _
     · omega
   · intro h3
     exact ⟨Nat.le_trans (h.com _ _ r h3).1 hlast, (h.com _ _ r h3).2⟩
 · have hjq : j ∈ m.queue := by rw [hq]; exact List.mem_cons_of_mem _ hj
   obtain ⟨u, e, r2, r3, r4, r5, r6⟩ := h.que j hjq
   refine ⟨u, keep j u (fun r => hnq (r ▸ hj)) e, r2, r3, ?_, r5, r6⟩
   show (if ok then t.time else m.last) < u.time
   have := hsrt.1 j hj t u hi e
   split <;> omega
 · show q.Pairwise _
   refine List.Pairwise.imp_of_mem ?_ hsrt.2
   intro a b hia hib hp x y e1 e2
   rcases get_set e1 with ⟨rfl, _⟩ | ⟨_, q1⟩
   · exact absurd hia hnq
   · rcases get_set e2 with ⟨rfl, _⟩ | ⟨_, q2⟩
     · exact absurd hib hnq
     · exact hp _ _ q1 q2
 · rcases get_set e with ⟨rfl, rfl⟩ | ⟨_, r⟩
   · refine ⟨by omega, by omega, ?_⟩
     rw [hdk]; exact (h.rng _ _ hi).2.2
   · exact h.rng _ _ r
 · by_cases e' : j = i
   · subst e'
     rw [hi] at e; injection e with e; subst e
     exact ⟨_, at_i, hda, fun r => absurd r (by omega), fun _ => by omega⟩
   · exact ⟨u, keep j u e' e, rfl, fun _ => rfl, id⟩
theorem GoodM.pops {m : MS} (h : GoodM m) (ok : Bool) : ∀ n, n ≤ m.queue.length → GoodM (m.pops ok n) ∧ Ext m (m.pops ok n) := by
 intro n
 induction n generalizing m with
 | zero => intro _; exact ⟨h, Ext.refl m⟩
 | succ n ih =>
   intro hn
   match hq : m.queue with
   | [] => rw [hq] at hn; simp at hn
   | i :: q =>
     obtain ⟨h1, e1⟩ := h.pop ok hq
     obtain ⟨t, hi, _⟩ := h.que i (by rw [hq]; exact List.mem_cons_self)
     have hl : (m.pop ok).queue = q := by rw [pop_eq ok hq hi]
     obtain ⟨h2, e2⟩ := ih h1 (by rw [hl]; rw [hq] at hn; simpa using hn)
     exact ⟨h2, e1.trans e2⟩
theorem GoodM.num {m : MS} (h : GoodM m) {k : Nat} (hk : k ≤ 1000) : GoodM { m with num := k } ∧ Ext m { m with num := k } :=
 ⟨⟨h.lg, h.atl, h.com, h.que, h.srt, h.rng, h.cap.1, hk⟩, ⟨Nat.le_refl _, (Ext.refl m).tx⟩⟩
theorem GoodM.readonly {m : MS} (h : GoodM m) (r : Bool) : GoodM { m with read := r } ∧ Ext m { m with read := r } :=
 ⟨⟨h.lg, h.atl, h.com, h.que, h.srt, h.rng, h.cap⟩, ⟨Nat.le_refl _, (Ext.refl m).tx⟩⟩
structure BG where
 fr : Nat
 til : Nat
structure GoodB (m : MS) (bg : List BG) (ev : Nat) : Prop where
 gm : GoodM m
 len : bg.length = m.txs.length
 ev : ∀ (i : Nat) (b : BG), bg[i]? = some b → b.fr ≤ ev ∧ b.til ≤ ev
 dec : ∀ (i : Nat) (b : BG) (t : TX), bg[i]? = some b → m.txs[i]? = some t → b.til ≠ 0 → 3 ≤ t.st
 real : ∀ (i k : Nat) (b c : BG) (t u : TX), bg[i]? = some b → bg[k]? = some c → m.txs[i]? = some t → m.txs[k]? = some u → c.til ≠ 0 → c.til ≤ b.fr → u.st = 3 → u.time ≤ t.at'
theorem GoodB.next {m : MS} {bg : List BG} {ev : Nat} (h : GoodB m bg ev) : GoodB m bg (ev + 1) := ⟨h.gm, h.len, fun i b e => ⟨Nat.le_succ_of_le (h.ev i b e).1, Nat.le_succ_of_le (h.ev i b e).2⟩, h.dec, h.real⟩
theorem GoodB.begin {m : MS} {bg : List BG} {ev : Nat} (h : GoodB m bg ev) : GoodB m.begin (bg ++ [⟨ev, 0⟩]) ev := by
 refine ⟨h.gm.begin.1, ?_, fun i b e => ?_, fun i b t e1 e2 hn => ?_, fun i k b c t u e1 e2 e3 e4 hn hle h3 => ?_⟩
 · show (bg ++ [_]).length = (m.txs ++ [_]).length
   rw [List.length_append, List.length_append, h.len]; rfl
 · rcases get_app e with q | ⟨_, rfl⟩
   · exact h.ev i b q
   · exact ⟨Nat.le_refl _, Nat.zero_le _⟩
 · rcases get_app e1 with q | ⟨_, rfl⟩
   · rcases get_app e2 with r | ⟨r, _⟩
     · exact h.dec i b t q r hn
     · have := get_lt q; have := h.len; omega
   · exact absurd rfl hn
 · rcases get_app e2 with q2 | ⟨_, rfl⟩
   · rcases get_app e4 with q4 | ⟨q4, _⟩
     · rcases get_app e1 with q1 | ⟨q1, rfl⟩
       · rcases get_app e3 with q3 | ⟨q3, _⟩
         · exact h.real i k b c t u q1 q2 q3 q4 hn hle h3
         · have := get_lt q1; have := h.len; omega
       · rcases get_app e3 with q3 | ⟨_, rfl⟩
         · have := get_lt q3; have := h.len; omega
         · exact (h.gm.com k u q4 h3).1
     · have := get_lt q2; have := h.len; omega
   · exact absurd rfl hn
theorem GoodB.ext {m m' : MS} {bg : List BG} {ev : Nat} (h : GoodB m bg ev) (hm : GoodM m') (he : Ext m m') (hl : m'.txs.length = m.txs.length) : GoodB m' bg ev := by
 have back : ∀ (i : Nat) (t' : TX), m'.txs[i]? = some t' → ∃ t : TX, m.txs[i]? = some t ∧ t'.at' = t.at' ∧ (3 ≤ t.st → t' = t) := fun i t' e => by
  have hi := get_lt e
  rw [hl] at hi
  obtain ⟨t2, e2, a, d, _⟩ := he.tx i _ (List.getElem?_eq_getElem hi)
  rw [e] at e2; injection e2 with e2; subst e2
  exact ⟨_, List.getElem?_eq_getElem hi, a, d⟩
 refine ⟨hm, h.len.trans hl.symm, h.ev, fun i b t' e1 e2 hn => ?_, fun i k b c t' u' e1 e2 e3 e4 hn hle h3 => ?_⟩
 · obtain ⟨t, e, _, d⟩ := back i t' e2
   have h3 := h.dec i b t e1 e hn
   rw [d h3]; exact h3
 · obtain ⟨t, e, a, _⟩ := back i t' e3
   obtain ⟨u, e', _, d⟩ := back k u' e4
   have hd := h.dec k c u e2 e' hn
   have := d hd; subst this
   rw [a]
   exact h.real i k b c t u' e1 e2 e e' hn hle h3
theorem GoodB.told {m : MS} {bg : List BG} {ev k : Nat} {c : BG} {u : TX} (h : GoodB m bg ev) (hk : bg[k]? = some c) (hu : m.txs[k]? = some u) (hd : 3 ≤ u.st) (hlt : ∀ (i : Nat) (b : BG), bg[i]? = some b → b.fr < ev) : GoodB m (bg.set k ⟨c.fr, ev⟩) ev := by
 have fr : ∀ (i : Nat) (b : BG), (bg.set k ⟨c.fr, ev⟩)[i]? = some b → ∃ b0 : BG, bg[i]? = some b0 ∧ b0.fr = b.fr := fun i b e => by
  rcases get_set e with ⟨rfl, rfl⟩ | ⟨_, q⟩
  · exact ⟨c, hk, rfl⟩
  · exact ⟨b, q, rfl⟩
 refine ⟨h.gm, by rw [List.length_set]; exact h.len, fun i b e => ?_, fun i b t e1 e2 hn => ?_, fun i j b d t x e1 e2 e3 e4 hn hle h3 => ?_⟩
 · rcases get_set e with ⟨rfl, rfl⟩ | ⟨_, q⟩
   · exact ⟨(h.ev _ c hk).1, Nat.le_refl _⟩
   · exact h.ev i b q
 · rcases get_set e1 with ⟨rfl, rfl⟩ | ⟨_, q⟩
   · rw [hu] at e2; injection e2 with e2; subst e2; exact hd
   · exact h.dec i b t q e2 hn
 · obtain ⟨b0, eb, ef⟩ := fr i b e1
   rcases get_set e2 with ⟨rfl, rfl⟩ | ⟨_, q⟩
   · have := hlt i b0 eb
     have : ev ≤ b.fr := hle
     omega
   · exact h.real i j b0 d t x eb q e3 e4 hn (by omega) h3
theorem GoodB.said {m : MS} {bg : List BG} {ev : Nat} (h : GoodB m bg ev) {i k : Nat} {b c : BG} {t u : TX} (e1 : bg[i]? = some b) (e2 : bg[k]? = some c) (e3 : m.txs[i]? = some t) (e4 : m.txs[k]? = some u) (h3 : u.st = 3) (hn : c.til ≠ 0) (hle : c.til ≤ b.fr) :
  u.time ≤ t.at' ∧ (t.st = 3 → t.keys ≠ [] → u.time < t.time) := by
 have h1 := h.real i k b c t u e1 e2 e3 e4 hn hle h3
 exact ⟨h1, fun s kk => Nat.lt_of_le_of_lt h1 ((h.gm.com i t e3 s).2 kk)⟩
end
section
open Go.RowKit Go.Maps
structure RdD where
 lba : Int
 A : Option Addr
 c : Nat
 bs : List Int
 own : Bool
def RdD.cells (x : RdD) : List Value := [.int .i64 x.lba, .slice x.A 40 x.c, .bool x.own]
theorem rd_three (p : RdD) : p.cells.length = 3 := rfl
structure ViewX (w : World) (F Fs : Foot) (vb gm bb sb nr : Nat) (at' : Int) (rv : Value) (rs : List RdD) : Prop where
 bx : Bk w vb 269 [.pointer (some ⟨gm, 0, none⟩), .pointer (some ⟨bb, 0, none⟩), .int .i64 at', .pointer (some ⟨sb, 0, none⟩), rv]
 set : SetP w Fs sb 64
 own : w.ownsRow 0 125 3 rv rs.length (rs.flatMap RdD.cells)
 y : ∀ r ∈ rs, IsY w r.A 40 r.c r.bs
 le : rs.length ≤ nr
 big : nr ≤ 100000
 sub : ∀ b, Fs b → F b
 ns : ¬ Fs vb
 fr : ∀ g, rv.ownBlock = some g → F g ∧ ¬ Fs g
 f0 : F vb
def ViewP (w : World) (F : Foot) (vb gm bb nr : Nat) (at' : Int) : Prop := ∃ Fs sb rv rs, ViewX w F Fs vb gm bb sb nr at' rv rs
theorem ViewX.ag {w w' : World} {F Fs : Foot} {vb gm bb sb nr : Nat} {at' : Int} {rv : Value} {rs : List RdD} (h : ViewX w F Fs vb gm bb sb nr at' rv rs) (k : Ag F w w') : ViewX w' F Fs vb gm bb sb nr at' rv rs :=
 ⟨Bk.ag h.bx k h.f0, h.set.ag (k.mono h.sub), own_ag h.own k (fun g e => (h.fr g e).1), fun r hr => (h.y r hr).ag k, h.le, h.big, h.sub, h.ns, h.fr, h.f0⟩
theorem ViewP.ag {w w' : World} {F : Foot} {vb gm bb nr : Nat} {at' : Int} (h : ViewP w F vb gm bb nr at') (k : Ag F w w') : ViewP w' F vb gm bb nr at' := by
 obtain ⟨Fs, sb, rv, rs, h⟩ := h; exact ⟨Fs, sb, rv, rs, h.ag k⟩
theorem three_get {w : World} {B : Nat} {A : Option Addr} {l : List RdD} (h : Rd w B A (l.flatMap RdD.cells)) {k : Nat} (hk : k < l.length) {x : RdD} (hx : l[k] = x) :
  ∃ ad, A = some ad ∧ ad.block < B ∧ w.cell? (ad.add (k * 3)) = some (.int .i64 x.lba) ∧ w.cell? ⟨(ad.add (k * 3)).block, (ad.add (k * 3)).off + 1, none⟩ = some (.slice x.A 40 x.c) ∧ w.cell? ⟨(ad.add (k * 3)).block, (ad.add (k * 3)).off + 2, none⟩ = some (.bool x.own) := by
 obtain ⟨ad, e, hb, hc⟩ := h (by rw [flat_len rd_three]; omega)
 have h0 := hc (k * 3) (.int .i64 x.lba) (by have := flat_get rd_three hk (j := 0) (by omega); rw [Nat.add_zero] at this; rw [this, hx]; rfl)
 have h1 := hc (k * 3 + 1) (.slice x.A 40 x.c) (by rw [flat_get rd_three hk (by omega), hx]; rfl)
 have h2 := hc (k * 3 + 2) (.bool x.own) (by rw [flat_get rd_three hk (by omega), hx]; rfl)
 rw [← add_twice] at h1 h2
 exact ⟨ad, e, hb, h0, h1, h2⟩
theorem infoRd0 : (Tryz.prog.info? 125).map (fun i => (i.size, i.bytes, i.zero.map (·.cells.size))) = some (3, 40, some 3) := by kernel_rfl
theorem infoRd : ∃ i z, Tryz.prog.info? 125 = some i ∧ i.zero = some z ∧ i.size = 3 ∧ i.bytes = 40 ∧ z.cells.size = 3 := by
 have h := infoRd0
 cases hi : Tryz.prog.info? 125 with
 | none => rw [hi] at h; cases h
 | some i =>
   rw [hi] at h
   simp at h
   obtain ⟨h1, h2, z, hz, h3⟩ := h
   exact ⟨i, z, rfl, hz, h1, h2, h3⟩
theorem viewnew_any (gm bb : Nat) (at' : Int) (w : World) :
  Calls Tryz.prog 226 #[.pointer (some ⟨gm, 0, none⟩), .pointer (some ⟨bb, 0, none⟩), .int .i64 at'] w fun e w' => (∃ vb, e = .returned (.pointer (some ⟨vb, 0, none⟩)) ∧ ViewP w' (fun b => w.heap.size ≤ b ∧ b < w'.heap.size) vb gm bb 0 at' ∧ w.heap.size ≤ vb ∧ vb < w'.heap.size) ∧ Below w.heap.size w w' := by
 have hn := inew_any 64 w
 go_enter Tryz.func226, Tryz.ntmps226
 go_wp2_with fail
 refine hn.mono ?_
 rintro e w1 ⟨⟨gs, rfl, hs, hg1, hg2⟩, hb1⟩
 have HS := Lib.hid (And.intro hs (And.intro hg1 (And.intro hg2 hb1)))
 clear hn hs hg1 hg2 hb1
 go_wp2_with fail
 go_ret
 obtain ⟨hs, hg1, hg2, hb1⟩ := HS.out
 have hz := hb1.size
 refine ⟨⟨w1.heap.size, rfl, ⟨fun b => b = gs, gs, .slice none 0 0, [], ?_⟩, by omega, by simp⟩, hb1.trans (((Below.refl _ _).alloc (Nat.le_refl _) _).mono hb1.size)⟩
 refine ⟨Bk.new w1 _ _, hs.ag (.of_below ((Below.refl _ _).alloc (Nat.le_refl _) _)), ⟨rfl, .inl ⟨rfl, rfl⟩⟩, by simp, Nat.le_refl _, by omega, fun b q => ?_, fun q => ?_, (fun g e => by cases e), ?_⟩
 · have q : b = gs := q
   subst q
   exact ⟨hg1, by simp; omega⟩
 · have q : w1.heap.size = gs := q
   omega
 · exact ⟨by omega, by simp⟩
theorem viewset_any (F : Foot) (vb gm bb nr : Nat) (at' : Int) (w : World) (h : ViewP w F vb gm bb nr at') :
  Calls Tryz.prog 326 #[.pointer (some ⟨vb, 0, none⟩)] w fun e w' => (∃ gs, e = .returned (.pointer (some ⟨gs, 0, none⟩)) ∧ ∃ F', SetP w' F' gs 64 ∧ ∀ b, F' b → w.heap.size ≤ b ∧ b < w'.heap.size) ∧ Below w.heap.size w w' := by
 obtain ⟨Fs, sb, rv, rs, h⟩ := h
 have hn := inew_any 64 w
 have HX := Lib.hid h
 clear h
 go_enter Tryz.func326, Tryz.ntmps326
 go_wp2_with fail
 refine hn.mono ?_
 rintro e w1 ⟨⟨gs, rfl, hs, hg1, hg2⟩, hb1⟩
 have hx1 := HX.out.ag (.of_below hb1)
 obtain ⟨v, xs, hsx⟩ := hx1.set
 have hxe := extents_any Fs sb 64 0 v xs w1 hsx (by omega) (Nat.zero_le _)
 have hlx := hsx.2.2.1
 obtain ⟨c0, c1, c2, c3, c4⟩ := hx1.bx.c5
 have HS := Lib.hid (And.intro hs (And.intro hg1 (And.intro hg2 hb1)))
 clear hn hs hg1 hg2 hb1 hsx hx1
 go_wp2_with fail
 refine hxe.mono ?_
 rintro e w2 ⟨⟨u, rfl, hu⟩, hb2⟩
 obtain ⟨uA, uc, rfl, hex⟩ := ExO.is hu
 obtain ⟨N, hN⟩ : ∃ N, xs.length = N := ⟨_, rfl⟩
 rw [hN] at hex hlx ⊢
 obtain ⟨v2, ys, hsy⟩ := HS.out.1.ag (.of_below hb2)
 have had := add_any (fun b => b = gs) gs 64 N uc v2 ys xs uA w2 hsy (by omega) hex (by omega) (fun b q => by have q : b = gs := q; subst q; exact Nat.lt_of_lt_of_le HS.out.2.2.1 hb2.size)
 have HB2 := Lib.hid hb2
 clear hxe hu hex hsy hb2 c0 c1 c2 c3 c4 hN
 go_wp2_with fail
 refine had.mono ?_
 rintro e w3 ⟨⟨r, rfl⟩, F2, hs2, hk2, hsb, hin2⟩
 have HE := Lib.hid (show SetP w3 F2 gs 64 ∧ (∀ b, F2 b → w.heap.size ≤ b ∧ b < w3.heap.size) ∧ Below w.heap.size w w3 from by
  have h12 := HS.out.2.2.2.trans (HB2.out.mono HS.out.2.2.2.size)
  have hk3 : Below w.heap.size w2 w3 := hk2.below (fun b q => by have q : b = gs := q; subst q; exact HS.out.2.1) h12.size
  exact ⟨hs2, fun b q => ⟨(hsb b q).elim (fun e => by have e : b = gs := e; subst e; exact HS.out.2.1) (fun r => Nat.le_trans h12.size r), hin2 b q⟩, h12.trans hk3⟩)
 clear had hs2 hk2 hsb hin2
 go_wp2_with fail
 go_ret
 exact ⟨⟨_, rfl, F2, HE.out.1, HE.out.2.1⟩, HE.out.2.2⟩
theorem viewreads_any (F : Foot) (vb gm bb nr : Nat) (at' : Int) (w : World) (h : ViewP w F vb gm bb nr at') :
  Calls Tryz.prog 115 #[.pointer (some ⟨vb, 0, none⟩)] w fun e w' => (∃ A n c, e = .returned (.slice A n c)) ∧ Below w.heap.size w w' := by
 obtain ⟨Fs, sb, rv, rs, h⟩ := h
 obtain ⟨xi, xz, hxi, hxz, hx5, hx56, hxc⟩ := infoRd
 obtain ⟨rA, rc, hrv⟩ := own_shape h.own
 subst hrv
 obtain ⟨n, hn⟩ : ∃ n, rs.length = n := ⟨_, rfl⟩
 have hle := h.le
 have hbig := h.big
 have hrd := rd_of_own h.own
 have hcp := own_caps h.own
 have hbx := h.bx
 have HY := Lib.hid h.y
 rw [hn] at hle hcp hbx
 clear h
 obtain ⟨c0, c1, c2, c3, c4⟩ := hbx.c5
 have hmx : maxLen ≤ 9223372036854775807 := by decide
 go_enter Tryz.func115, Tryz.ntmps115
 go_wp2_with fail
 go_loopw [2, 12] (fun pv iv wr => ∃ k : Nat, k ≤ n ∧ iv = .int .i64 (k : Int) ∧ Below w.heap.size w wr ∧ ∃ xs, Hid (wr.ownsRow w.heap.size 125 3 pv k xs)) (fun _ iv _ => n - (intOf iv).toNat)
 case atStart => exact ⟨0, Nat.zero_le _, rfl, Below.refl _ _, [], rfl, .inl ⟨rfl, rfl⟩⟩
 case round =>
  obtain ⟨k, hk, rfl, hW, xs, HO⟩ := hrel
  clear c0 c1 c2 c3 c4
  by_cases hlt : k < n
  · obtain ⟨x, hx⟩ : ∃ x, rs[k]'(by omega) = x := ⟨_, rfl⟩
    obtain ⟨ad, rfl, had, e0, e1, e2⟩ := three_get (hrd.next (Nat.le_refl _) hW) (k := k) (by omega) hx
    have hxy := (HY.out x (by rw [← hx]; exact List.getElem_mem _)).ag (F := fun _ => True) (.of_below hW)
    have n0 : (k : Int) < (n : Int) := by omega
    have n1 : (0 : Int) ≤ (k : Int) := by omega
    obtain ⟨xl, xA, xc, xb, xo⟩ := x
    simp only at e0 e1 e2 hxy
    clear hx
    obtain ⟨w6, hw6⟩ : ∃ w6, wr.alloc (.cells #[.int .i64 xl, .slice xA 40 xc, .bool xo] 125) = w6 := ⟨_, rfl⟩
    have hB6 : Bk w6 wr.heap.size 125 [.int .i64 xl, .slice xA 40 xc, .bool xo] := by rw [← hw6]; exact Bk.new wr _ _
    have hb6 : Below wr.heap.size wr w6 := by rw [← hw6]; exact (Below.refl _ _).alloc (Nat.le_refl _) _
    obtain ⟨d0, d1, d2⟩ := hB6.c3
    have hc := clone_any xA 40 xc 0 (xb.map (Value.int .u8)) w6 (by rw [List.length_map]; exact hxy.b.len) ((hxy.ag (F := fun _ => True) (.of_below hb6)).b.rd) one_int (by omega) (Nat.zero_le _)
    have HB6 := Lib.hid (And.intro hB6 hb6)
    have HW := Lib.hid hW
    clear hB6 hxy hW hb6
    go_wp2_with fail
    refine hc.mono ?_
    rintro e w7 ⟨⟨v7, rfl, ho7⟩, hb7⟩
    obtain ⟨yA, yc, rfl⟩ := own_shape ho7
    have hB7 := HB6.out.1.next hb7 HB6.out.1.lt
    have f1 := hB7.free 1
    have g1 := hB7.cell (i := 1) (by simp)
    simp only [List.getElem_cons_zero, List.getElem_cons_succ] at g1
    obtain ⟨w8, hw8⟩ : ∃ w8, w7.setCell ⟨wr.heap.size, 1, none⟩ (.slice yA 40 yc) = w8 := ⟨_, rfl⟩
    have hB8 : Bk w8 wr.heap.size 125 [.int .i64 xl, .slice yA 40 yc, .bool xo] := by rw [← hw8]; have := hB7.set 1 (.slice yA 40 yc); simpa using this
    have hb8 : Below wr.heap.size wr w8 := by rw [← hw8]; exact (HB6.out.2.trans (hb7.mono HB6.out.2.size)).setCell (p := ⟨wr.heap.size, 1, none⟩) (Nat.le_refl _) _
    obtain ⟨q0, q1, q2⟩ := hB8.c3
    obtain ⟨w9, hw9⟩ : ∃ w9, w8.alloc (.cells #[.int .i64 xl, .slice yA 40 yc, .bool xo] 125) = w9 := ⟨_, rfl⟩
    have hB9 : Bk w9 w8.heap.size 125 [.int .i64 xl, .slice yA 40 yc, .bool xo] := by rw [← hw9]; exact Bk.new _ _ _
    have hb9 : Below wr.heap.size wr w9 := by rw [← hw9]; exact hb8.alloc hb8.size _
    have HB9 := Lib.hid (And.intro hB9 hb9)
    have HO9 := Lib.hid (own_bel' HO.out hb9)
    clear hc ho7 hb7 hB7 hB8 hb8 hB9 hb9 e0 e1 e2 d0 d1 d2
    go_wp2_with (at_builtin; go_must (refine wpList_appS _ rfl _ _ 57 rfl w.heap.size 125 xi xz 3 40 Tryz.underlying57 hxi hxz hx5 hx56 hxc (by decide) _ _ _ (by rfl) (by exact HO9.out) _ [.int .i64 xl, .slice yA 40 yc, .bool xo] (by rfl) (by exact HB9.out.1) rfl (by intro u hu; simp at hu; rcases hu with rfl | rfl | rfl <;> rfl) (by omega) (by decide) (by exact Nat.le_trans HW.out.size HB9.out.2.size) ?_); intro v10 w10 hO10 hG10 hn10)
    have HE := Lib.hid (And.intro hO10 ((HW.out.trans (HB9.out.2.mono HW.out.size)).grown hG10 (Nat.le_trans HW.out.size HB9.out.2.size) (fun g hg => own_at_ge HO9.out hg)))
    clear hO10 hG10 hn10
    go_roundw
    case rel => exact ⟨k + 1, by omega, by go_num, HE.out.2, _, HE.out.1⟩
    case measure => simp [intOf]; omega
  · obtain rfl : k = n := by omega
    have n0 : ¬ (k : Int) < (k : Int) := by omega
    obtain ⟨oA, oc, rfl⟩ := own_shape HO.out
    go_wp2_with fail
    go_ret
    exact ⟨⟨_, _, _, rfl⟩, hW⟩
end
section
open Go.RowKit Go.Maps
theorem wpList_copyY {w : World} {ops : Array Oper} {rest : List Oper} {o : Oper} {a : Act} {Q : Exit → Act → World → Prop} (hgd : o.guard = none) (d s : Operand)
  (ho : o.op = .call { callee := .builtin .copy, args := #[d, s], argTypes := #[47, 47] }) (g n cap off dc : Nat) (hd : a.eval d = .slice (some ⟨g, off, none⟩) 40 dc) (sA : Option Addr) (sc : Nat) (sbs : List Int) (hs : a.eval s = .slice sA 40 sc) (hy : IsY w sA 40 sc sbs)
  (B : Nat) (bs : List Int) (hb : Byt w B (.slice (some ⟨g, 0, none⟩) n cap) bs) (hl : bs.length = n) (hoff : off + 40 ≤ n)
  (h : ∀ w' bs', Byt w' B (.slice (some ⟨g, 0, none⟩) n cap) bs' → bs'.length = n → w.grownBy w' (some g) → wpList Tryz.prog ops Q rest (a.put o.dst (goInt ((40 : Nat) : Int))) w') : wpList Tryz.prog ops Q (o :: rest) a w := by
 have hsl : (sbs.map (Value.int .u8)).length = 40 := by rw [List.length_map]; exact hy.b.len
 obtain ⟨ad, rfl, _, hsc⟩ := hy.b.rd (by omega)
 rcases hb.1.2 with ⟨h0, _⟩ | ⟨g', cap', cur, hv, hB, hh, hnc, hcm, hcs, ht⟩
 · cases h0
 · injection hv with h1 h2 h3
   injection h1 with h1
   injection h1 with h1 _
   subst h1 h3
   rw [hl, Nat.mul_one] at ht
   rw [hl] at hnc
   have hcl : cur.toList = bs.map (Value.int .u8) ++ cur.toList.drop n := by rw [← ht, List.take_append_drop]
   have hbl : (bs.map (Value.int .u8)).length = n := by rw [List.length_map]; exact hl
   have hinfo : (Tryz.prog.info? 5).map (·.size) = some 1 := by
    obtain ⟨i0, hi, hz0, hz1, hz2⟩ := info_parts infoB
    rw [hi]; simp [hz1]
   refine wpList_copy_own hgd d s _ _ ho 5 Tryz.underlying47 hinfo g off 40 dc ad 40 sc hd hs cur 5 hh (sbs.map (Value.int .u8)) (by rw [hsl]; rfl) hsc (by rw [hsl, hcs]; omega) one_int ?_
   rw [hsl]
   have e1 : (bs.map (Value.int .u8) ++ cur.toList.drop n).take off = (bs.map (Value.int .u8)).take off := by rw [List.take_append_of_le_length (by omega)]
   have e2 : (bs.map (Value.int .u8) ++ cur.toList.drop n).drop (off + 40) = (bs.map (Value.int .u8)).drop (off + 40) ++ cur.toList.drop n := by rw [List.drop_append_of_le_length (by omega)]
   have hbyl := hy.b.len
   have hlen : (bs.take off ++ (sbs ++ bs.drop (off + 40))).length = n := by
    simp only [List.length_append, List.length_take, List.length_drop, hbyl, hl]; omega
   have htake : (cur.toList.take off ++ (sbs.map (Value.int .u8) ++ cur.toList.drop (off + 40))).take n = (bs.take off ++ (sbs ++ bs.drop (off + 40))).map (Value.int .u8) := by
    rw [hcl, e1, e2, List.map_append, List.map_append, List.map_take, List.map_drop, ← List.append_assoc, ← List.append_assoc, List.append_assoc ((bs.map (Value.int .u8)).take off)]
    rw [List.take_append_of_le_length (by simp only [List.length_append, List.length_take, List.length_drop, hsl, hbl]; omega)]
    exact List.take_of_length_le (by simp only [List.length_append, List.length_take, List.length_drop, hsl, hbl]; omega)
   have hsize : (cur.toList.take off ++ (sbs.map (Value.int .u8) ++ cur.toList.drop (off + 40))).length = cap * 1 := by
    simp only [List.length_append, List.length_take, List.length_drop, hsl, Array.length_toList, hcs]
    omega
   have hwf : ∀ x ∈ bs.take off ++ (sbs ++ bs.drop (off + 40)), 0 ≤ x ∧ x < 256 := fun x hx => by
    rcases List.mem_append.1 hx with q | q
    · exact hb.2 x (List.mem_of_mem_take q)
    · rcases List.mem_append.1 q with q | q
      · exact hy.b.wf x q
      · exact hb.2 x (List.mem_of_mem_drop q)
   generalize cur.toList.take off ++ (sbs.map (Value.int .u8) ++ cur.toList.drop (off + 40)) = X at htake hsize ⊢
   generalize bs.take off ++ (sbs ++ bs.drop (off + 40)) = Y at htake hlen hwf
   have hnew : (w.setRow g X.toArray).heap[g]? = some (.cells X.toArray 5 (0, 0)) := setRow_heap w g cur _ _ _ hh
   have hgr : w.grownBy (w.setRow g X.toArray) (some g) := ⟨rfl, rfl, rfl, by simp [World.setRow], fun k _ hk => setRow_other w g k _ (fun e => hk (by rw [e]))⟩
   generalize w.setRow g X.toArray = W at hnew hgr ⊢
   have hB2 : Byt W B (.slice (some ⟨g, 0, none⟩) n cap) Y := by
    refine ⟨?_, hwf⟩
    rw [hlen]
    exact ⟨by rw [List.length_map, hlen, Nat.mul_one], .inr ⟨g, cap, _, rfl, hB, hnew, hnc, hcm, hsize, by rw [Nat.mul_one]; exact htake⟩⟩
   exact h W Y hB2 hlen hgr
end
section
open Go.RowKit Go.Maps
section
variable {w wr wA wB wC wD : World} {F Fs Fk : Foot} {vb gm bb sb nr go : Nat} {at' : Int} {rv rv' : Value} {rs : List RdD}
theorem Kf.growNew {a w w' : World} {F : Foot} {g : Nat} (h : Kf F a w) (hg : w.grownBy w' (some g)) (hn : a.heap.size ≤ g) : Kf F a w' :=
 ⟨hg.os.trans h.os, hg.tape.trans h.tape, hg.output.trans h.output, Nat.le_trans h.size hg.size, fun b ob hb hq => by
  have := lt_of hb
  rw [hg.block b (lt_of (h.keep b ob hb hq)) (fun e => by injection e with e; omega)]
  exact h.keep b ob hb hq⟩
theorem IsY.but {A : Option Addr} {n c : Nat} {bs : List Int} (h : IsY w A n c bs) (hg : w.grownBy wr (some go)) (hn : ∀ ad, A = some ad → ad.block ≠ go) : IsY wr A n c bs := by
 have keep : ∀ ad, A = some ad → 0 < n → wr.heap[ad.block]? = w.heap[ad.block]? := fun ad e hn' => by
  obtain ⟨ob, ho, _⟩ := h.y ad e hn'
  exact hg.block _ (lt_of ho) (fun q => by injection q with q; exact hn ad e q)
 refine ⟨⟨h.b.len, fun hl => ?_, h.b.wf, h.b.cap, h.b.big⟩, fun ad e hn' => ?_⟩
 · obtain ⟨ad, e, hb, hc⟩ := h.b.rd hl
   refine ⟨ad, e, Nat.lt_of_lt_of_le hb hg.size, fun j u hu => ?_⟩
   rw [World.cell?_of_block (w := w) (w' := wr) (by rw [add_block]; exact keep ad e (by have := h.b.len; rw [List.length_map] at hl; omega))]
   exact hc j u hu
 · obtain ⟨ob, ho, hd⟩ := h.y ad e hn'
   exact ⟨ob, (keep ad e hn').trans ho, hd⟩
theorem own_but {B e s n : Nat} {v : Value} {xs : List Value} (h : w.ownsRow B e s v n xs) (hg : w.grownBy wr (some go)) (hn : ∀ g, v.ownBlock = some g → g ≠ go) : wr.ownsRow B e s v n xs := by
 rcases h.2 with h0 | ⟨g, cap, cur, hv, hb, hh, hr⟩
 · exact ⟨h.1, .inl h0⟩
 · exact ⟨h.1, .inr ⟨g, cap, cur, hv, hb, (hg.block g (lt_of hh) (fun q => by injection q with q; exact hn g (by rw [hv]; rfl) q)).trans hh, hr⟩⟩
theorem bk_but {g t : Nat} {cs : List Value} (h : Bk w g t cs) (hg : w.grownBy wr (some go)) (hn : g ≠ go) : Bk wr g t cs := (hg.block g h.lt (fun q => by injection q with q; exact hn q)).trans h
theorem SetP.but {most : Nat} {gs : Nat} (h : SetP w Fs gs most) (hg : w.grownBy wr (some go)) (hn : ¬ Fs go) : SetP wr Fs gs most := by
 obtain ⟨v, xs, h1, h2, h3, h4, h5⟩ := h
 exact ⟨v, xs, bk_but h1 hg (fun e => hn (e ▸ h4)), own_but h2 hg (fun g q e => hn (e ▸ h5 g q)), h3, h4, h5⟩
def Away (rs : List RdD) (go : Nat) : Prop := ∀ r ∈ rs, ∀ ad, r.A = some ad → ad.block ≠ go
theorem ViewX.but (h : ViewX w F Fs vb gm bb sb nr at' rv rs) (hg : w.grownBy wr (some go)) (hn : ¬ F go) (ha : Away rs go) : ViewX wr F Fs vb gm bb sb nr at' rv rs :=
 ⟨bk_but h.bx hg (fun e => hn (e ▸ h.f0)), h.set.but hg (fun q => hn (h.sub _ q)), own_but h.own hg (fun g q e => hn (e ▸ (h.fr g q).1)), fun r hr => (h.y r hr).but hg (ha r hr), h.le, h.big, h.sub, h.ns, h.fr, h.f0⟩
theorem ViewX.away (h : ViewX w F Fs vb gm bb sb nr at' rv rs) (hn : w.heap.size ≤ go) : Away rs go := fun r hr ad e q => by
 obtain ⟨ob, ho, _⟩ := (h.y r hr).y ad e (by decide)
 have := lt_of ho
 omega
theorem ViewX.push (h : ViewX wA F Fs vb gm bb sb nr at' rv rs) (hI : In wA F) (hb : Below wA.heap.size wA wB) (r : RdD) (hy : IsY wB r.A 40 r.c r.bs) (ho : wC.ownsRow 0 125 3 rv' (rs.length + 1) (rs.flatMap RdD.cells ++ r.cells)) (hg : wB.grownBy wC rv.ownBlock)
  (hv : rv'.ownBlock = rv.ownBlock ∨ rv'.ownBlock = some wB.heap.size) (e : wD = wC.setCell ⟨vb, 4, none⟩ rv') (hbig : nr + 1 ≤ 100000) :
  ViewX wD (orF F (fun b => rv'.ownBlock = some b)) Fs vb gm bb sb (nr + 1) at' rv' (rs ++ [r]) ∧ Kf F wA wD ∧ Sb wA F (orF F (fun b => rv'.ownBlock = some b)) ∧ In wD (orF F (fun b => rv'.ownBlock = some b)) := by
 have hB := h.ag (.of_below hb)
 have kBC : Kf (fun b => rv.ownBlock = some b) wB wC := (Kf.refl _ wB).grown hB.own hg (fun g q => .inl ⟨q, by decide⟩)
 have bC : Bk wC vb 269 [.pointer (some ⟨gm, 0, none⟩), .pointer (some ⟨bb, 0, none⟩), .int .i64 at', .pointer (some ⟨sb, 0, none⟩), rv] :=
  Bk.ag (F := fun b => b = vb) hB.bx (kBC.ag (fun b q s => by have q : b = vb := q; subst q; exact own_ne_bk hB.own hB.bx (by decide) s)) rfl
 have kCD : Kf (fun b => b = vb) wC wD := by rw [e]; exact (Kf.refl (fun b => b = vb) wC).set bC (by decide) (.inl rfl) 4 rv'
 have hrvF : ∀ g, rv.ownBlock = some g → F g := fun g q => (h.fr g q).1
 have kall : Kf F wA wD := ((Kf.of_below (F := F) hb).trans (G := F) (kBC.mono hrvF) (fun b q => .inl q)).trans (G := F) (kCD.mono (fun b q => by have q : b = vb := q; rw [q]; exact h.f0)) (fun b q => .inl q)
 have hnew : ∀ g, rv'.ownBlock = some g → F g ∧ ¬ Fs g ∨ wA.heap.size ≤ g := fun g q => by
  rcases hv with s | s
  · exact .inl (h.fr g (s.symm.trans q))
  · rw [s] at q; injection q with q; have := hb.size; exact .inr (by omega)
 have hsb : Sb wA F (orF F (fun b => rv'.ownBlock = some b)) := fun b q => q.elim .inl (fun s => (hnew b s).imp And.left id)
 have yD : ∀ {A : Option Addr} {n c : Nat} {bs : List Int}, IsY wB A n c bs → IsY wD A n c bs := fun q => (q.ag (F := fun _ => False) (kBC.ag (fun _ s => s.elim))).ag (F := fun _ => False) (kCD.ag (fun _ s => s.elim))
 refine ⟨⟨?_, ?_, ?_, fun x hx => ?_, by rw [List.length_append]; have := h.le; simp; omega, hbig, fun b q => .inl (h.sub b q), h.ns, fun g q => ⟨.inr q, ?_⟩, .inl h.f0⟩, kall, hsb, fun b q => ?_⟩
 · have := bC.set 4 rv'
   rw [e]; simpa using this
 · refine (hB.set.ag (kBC.ag (fun b q s => (h.fr b s).2 q))).ag (kCD.ag (fun b q s => ?_))
   have s : b = vb := s
   exact h.ns (s ▸ q)
 · have h1 := own_ag (F := fun b => b ≠ vb) ho (kCD.ag (fun b q s => q s)) (fun g q s => own_ne_bk ho bC (by decide) (s ▸ q))
   rw [List.length_append, List.flatMap_append]
   simpa using h1
 · rcases List.mem_append.1 hx with q | q
   · exact yD (hB.y x q)
   · obtain rfl : x = r := by simpa using q
     exact yD hy
 · rcases hnew g q with s | s
   · exact s.2
   · intro t
     have := hI g (h.sub g t)
     omega
 · rcases q with q | q
   · exact Nat.lt_of_lt_of_le (hI b q) kall.size
   · obtain ⟨_, _, hh⟩ := own_at ho q
     exact Nat.lt_of_lt_of_le (lt_of hh) kCD.size
end
theorem ViewX.up {w : World} {F Fs : Foot} {vb gm bb sb nr m : Nat} {at' : Int} {rv : Value} {rs : List RdD} (h : ViewX w F Fs vb gm bb sb nr at' rv rs) (hm : nr ≤ m) (hb : m ≤ 100000) : ViewX w F Fs vb gm bb sb m at' rv rs :=
 ⟨h.bx, h.set, h.own, h.y, Nat.le_trans h.le hm, hb, h.sub, h.ns, h.fr, h.f0⟩
end
end Go.Proofs.YthhndleddlmgiaaGreatDoor.Tp
