/- Contracts of the program's functions, and laws on memory: a part of the proof of TopRoom. -/
import Derived.Test.YthhndleddlmgiaaGreatDoorZH
import Derived.Test.YthhndleddlmgiaaGreatDoorProg
import Derived.LoopTactic
import Derived.LoopN
import Derived.Lib.Hide
import Derived.Deep.DeepMust
import Derived.Laws.MakeOwn
import Derived.Laws.Entries
import Derived.WalkSpells
import Derived.WalkMore
import Derived.IntWalk
import Derived.Deep.QuietTactic
import Derived.BigQuiet
import Derived.Shelf.Abstract
import GoSem.Claim
namespace Go.Proofs.YthhndleddlmgiaaGreatDoor.Tp
set_option maxHeartbeats 8000000
set_option maxRecDepth 100000
set_option linter.unusedSimpArgs false
set_option linter.unusedVariables false
section
open Go.RowKit Go.Maps
theorem underMT : Tryz.prog.underlying 170 = some (.map 3 200) := Tryz.underlying170
theorem zeroPT (w : World) : (zeroValue 200).run Tryz.prog w = .ok (.pointer none) w := by kernel_rfl
theorem mcells_at {w : World} {mb gm kb am out : Nat} {qv : Value} {m : MS} (h : Bk w mb 172 (mcells gm kb am qv out m)) :
  w.cell? ⟨mb, 0, none⟩ = some (.pointer (some ⟨gm, 0, none⟩)) ∧ w.cell? ⟨mb, 1, none⟩ = some (.pointer (some ⟨kb, 0, none⟩)) ∧ w.cell? ⟨mb, 2, none⟩ = some (.map (some am)) ∧ w.cell? ⟨mb, 3, none⟩ = some qv ∧ w.cell? ⟨mb, 4, none⟩ = some (.int .i64 (out : Int)) ∧
  w.cell? ⟨mb, 5, none⟩ = some (.int .i64 (m.num : Int)) ∧ w.cell? ⟨mb, 6, none⟩ = some (.int .i64 0) ∧ w.cell? ⟨mb, 7, none⟩ = some (.int .i64 (m.last : Int)) ∧ w.cell? ⟨mb, 8, none⟩ = some (.int .i64 (m.given : Int)) ∧ w.cell? ⟨mb, 9, none⟩ = some (.bool m.read) :=
 ⟨h.cell (i := 0) (by simp [mcells]), h.cell (i := 1) (by simp [mcells]), h.cell (i := 2) (by simp [mcells]), h.cell (i := 3) (by simp [mcells]), h.cell (i := 4) (by simp [mcells]), h.cell (i := 5) (by simp [mcells]), h.cell (i := 6) (by simp [mcells]), h.cell (i := 7) (by simp [mcells]), h.cell (i := 8) (by simp [mcells]), h.cell (i := 9) (by simp [mcells])⟩
theorem tcells_at {w : World} {t : TX} {code : Int} {e : TE} (h : Bk w e.tb 205 (tcells t code e)) :
  w.cell? ⟨e.tb, 0, none⟩ = some (.int .i64 (t.st : Int)) ∧ w.cell? ⟨e.tb, 1, none⟩ = some (.int .i64 (t.time : Int)) ∧ w.cell? ⟨e.tb, 2, none⟩ = some (.int .i64 code) ∧ w.cell? ⟨e.tb, 3, none⟩ = some (.int .i64 (t.at' : Int)) ∧ w.cell? ⟨e.tb, 4, none⟩ = some (.pointer (some ⟨e.bb, 0, none⟩)) ∧ w.cell? ⟨e.tb, 5, none⟩ = some (.pointer (some ⟨e.vb, 0, none⟩)) :=
 ⟨h.cell (i := 0) (by simp [tcells]), h.cell (i := 1) (by simp [tcells]), h.cell (i := 2) (by simp [tcells]), h.cell (i := 3) (by simp [tcells]), h.cell (i := 4) (by simp [tcells]), h.cell (i := 5) (by simp [tcells])⟩
theorem wfN {i : Nat} (h : i ≤ 1000000) : wf64 ((i : Int) + 1) := wf_of (by omega) (by omega)
theorem ManX.look_ok {w : World} {F : Foot} {Ft : Nat → Foot} {mb gm kb am : Nat} {qv : Value} {out : Nat} {m : MS} {es : List TE} {N R : Nat} (h : ManX w F Ft mb gm kb am qv out m es N R) {i : Nat} {e : TE} (he : es[i]? = some e) (hi : i ≤ 1000000) :
  (Instr.lookup 170 (.map (some am)) (.int .i64 ((i : Int) + 1)) true).run Tryz.prog w = .ok (.tuple #[.pointer (some ⟨e.tb, 0, none⟩), .bool true]) w ∧ (Instr.lookup 170 (.map (some am)) (.int .i64 ((i : Int) + 1)) false).run Tryz.prog w = .ok (.pointer (some ⟨e.tb, 0, none⟩)) w := by
 have h1 := h.all.look_ok lawI underI underMT (zeroPT w) (wfN hi)
 have h2 := h.all.look lawI underI underMT (zeroPT w) (wfN hi)
 rw [allF_at he] at h1 h2
 exact ⟨h1, h2⟩
theorem mgone_any (mb gm kb am out : Nat) (qv : Value) (m : MS) (w : World) (h : Bk w mb 172 (mcells gm kb am qv out m)) :
  Calls Tryz.prog 88 #[.pointer (some ⟨mb, 0, none⟩)] w fun e w' => e = .returned (.bool false) ∧ w = w' := by
 obtain ⟨c0, _⟩ := mcells_at h
 clear h
 go_enter Tryz.func88, Tryz.ntmps88
 go_wp2_with fail
 go_ret
 exact ⟨rfl, rfl⟩
theorem mlast_any (mb gm kb am out : Nat) (qv : Value) (m : MS) (w : World) (h : Bk w mb 172 (mcells gm kb am qv out m)) :
  Calls Tryz.prog 101 #[.pointer (some ⟨mb, 0, none⟩)] w fun e w' => e = .returned (.int .i64 (m.last : Int)) ∧ w = w' := by
 have hg := mgone_any mb gm kb am out qv m w h
 obtain ⟨_, _, _, _, _, _, _, c7, _⟩ := mcells_at h
 clear h
 go_enter Tryz.func101, Tryz.ntmps101
 go_wp2_with fail
 refine hg.mono ?_
 rintro e w' ⟨rfl, rfl⟩
 clear hg
 go_wp2_with fail
 go_ret
 exact ⟨rfl, rfl⟩
theorem mqueue_any (F : Foot) (Ft : Nat → Foot) (mb gm kb am : Nat) (qv : Value) (out : Nat) (m : MS) (es : List TE) (N R : Nat) (w : World) (h : ManX w F Ft mb gm kb am qv out m es N R) :
  Calls Tryz.prog 195 #[.pointer (some ⟨mb, 0, none⟩)] w fun e w' => e = .returned (.int .i64 (m.queue.length : Int)) ∧ w = w' := by
 have hg := mgone_any mb gm kb am out qv m w h.bx
 obtain ⟨_, _, _, c3, _⟩ := mcells_at h.bx
 obtain ⟨qA, qc, hq⟩ := own_shape h.own
 rw [hq] at c3
 clear h hq
 go_enter Tryz.func195, Tryz.ntmps195
 go_wp2_with fail
 refine hg.mono ?_
 rintro e w' ⟨rfl, rfl⟩
 clear hg
 go_wp2_with fail
 go_ret
 exact ⟨rfl, rfl⟩
theorem mopen_any (F : Foot) (Ft : Nat → Foot) (mb gm kb am : Nat) (qv : Value) (out : Nat) (m : MS) (es : List TE) (N R : Nat) (w : World) (h : ManX w F Ft mb gm kb am qv out m es N R) :
  Calls Tryz.prog 194 #[.pointer (some ⟨mb, 0, none⟩)] w fun e w' => (∃ k : Nat, e = .returned (.int .i64 (k : Int)) ∧ (m.txs = [] → k = 0)) ∧ Below w.heap.size w w' := by
 have hg := mgone_any mb gm kb am out qv m w h.bx
 obtain ⟨_, c1, _⟩ := mcells_at h.bx
 obtain ⟨s, tb, f, hb⟩ := h.book
 have hc := bookcount_any _ _ _ _ _ _ w hb
 have HS := Lib.hid (show m.txs = [] → s = 0 from fun q => by have h1 := hb.le; have h2 := h.len; rw [q, List.length_nil] at h2; omega)
 clear h hb
 go_enter Tryz.func194, Tryz.ntmps194
 go_wp2_with fail
 refine hg.mono ?_
 rintro e w' ⟨rfl, rfl⟩
 clear hg
 go_wp2_with fail
 refine hc.mono ?_
 rintro e w1 ⟨rfl, hb1⟩
 go_wp2_with fail
 go_ret
 exact ⟨⟨_, rfl, HS.out⟩, hb1⟩
theorem mreadonly_any (F : Foot) (Ft : Nat → Foot) (mb gm kb am : Nat) (qv : Value) (out : Nat) (m : MS) (es : List TE) (N R : Nat) (yes : Bool) (w : World) (h : ManX w F Ft mb gm kb am qv out m es N R) :
  Calls Tryz.prog 108 #[.pointer (some ⟨mb, 0, none⟩), .bool yes] w fun e w' => e = .returned (.tuple #[]) ∧ ManX w' F Ft mb gm kb am qv out { m with read := yes } es N R ∧ Kf F w w' := by
 have hg := mgone_any mb gm kb am out qv m w h.bx
 have f9 := h.bx.free 9
 obtain ⟨w2, hw2⟩ : ∃ w2, w.setCell ⟨mb, 9, none⟩ (.bool yes) = w2 := ⟨_, rfl⟩
 have HE := Lib.hid (show ManX w2 F Ft mb gm kb am qv out { m with read := yes } es N R ∧ Kf F w w2 from by
  rw [← hw2]
  exact h.cell ((Kf.refl (fun b => b = mb) w).set h.bx (by decide) (.inl rfl) 9 _) { m with read := yes } out (by have := h.bx.set 9 (.bool yes); simpa [mcells] using this) rfl rfl id)
 obtain ⟨_, _, _, _, _, _, _, _, _, c9⟩ := mcells_at h.bx
 clear h
 go_enter Tryz.func108, Tryz.ntmps108
 go_wp2_with fail
 refine hg.mono ?_
 rintro e w' ⟨rfl, rfl⟩
 clear hg
 go_wp2_with fail
 go_end0
 exact ⟨rfl, HE.out⟩
theorem topen_any (F : Foot) (Ft : Nat → Foot) (mb gm kb am : Nat) (qv : Value) (out : Nat) (m : MS) (es : List TE) (N R i : Nat) (t : TX) (x : TE) (w : World) (h : ManX w F Ft mb gm kb am qv out m es N R) (ht : m.txs[i]? = some t) (hx : es[i]? = some x) (hi : i ≤ 1000000) :
  Calls Tryz.prog 227 #[.pointer (some ⟨mb, 0, none⟩), .int .i64 ((i : Int) + 1)] w fun e w' => e = .returned (.pointer (if t.st = 1 then some ⟨x.tb, 0, none⟩ else none)) ∧ w = w' := by
 have hg := mgone_any mb gm kb am out qv m w h.bx
 obtain ⟨_, _, c2, _⟩ := mcells_at h.bx
 have hlk := (h.look_ok hx hi).1
 obtain ⟨code, hb⟩ := (h.tx i t x ht hx).bx
 obtain ⟨d0, _⟩ := tcells_at hb
 clear h hb
 by_cases h1 : t.st = 1
 · rw [if_pos h1]
   rw [h1] at d0
   go_enter Tryz.func227, Tryz.ntmps227
   go_wp2_with fail
   refine hg.mono ?_
   rintro e w' ⟨rfl, rfl⟩
   clear hg
   go_wp2_with fail
   go_ret
   exact ⟨rfl, rfl⟩
 · rw [if_neg h1]
   have n1 : ¬ ((t.st : Int) = 1) := by omega
   have n2 : ((t.st : Int) == 1) = false := by simpa using n1
   have n3 : ((t.st : Int) != 1) = true := by simpa using n1
   go_enter Tryz.func227, Tryz.ntmps227
   go_wp2_with fail
   refine hg.mono ?_
   rintro e w' ⟨rfl, rfl⟩
   clear hg
   go_wp2_with fail
   go_ret
   exact ⟨rfl, rfl⟩
theorem mresult_any (F : Foot) (Ft : Nat → Foot) (mb gm kb am : Nat) (qv : Value) (out : Nat) (m : MS) (es : List TE) (N R i : Nat) (t : TX) (x : TE) (w : World) (h : ManX w F Ft mb gm kb am qv out m es N R) (ht : m.txs[i]? = some t) (hx : es[i]? = some x) (hi : i ≤ 1000000) :
  Calls Tryz.prog 230 #[.pointer (some ⟨mb, 0, none⟩), .int .i64 ((i : Int) + 1)] w fun e w' => (∃ code : Int, e = .returned (.tuple #[.int .i64 (t.st : Int), .int .i64 (t.time : Int), .int .i64 code])) ∧ Below w.heap.size w w' := by
 have hg := mgone_any mb gm kb am out qv m w h.bx
 obtain ⟨_, _, c2, _⟩ := mcells_at h.bx
 have hlk := (h.look_ok hx hi).1
 obtain ⟨code, hb⟩ := (h.tx i t x ht hx).bx
 obtain ⟨d0, d1, d2, _⟩ := tcells_at hb
 clear h hb
 go_enter Tryz.func230, Tryz.ntmps230
 go_wp2_with fail
 refine hg.mono ?_
 rintro e w' ⟨rfl, rfl⟩
 clear hg
 go_wp2_with fail
 go_quiet (fail)
 go_wp2_with fail
 go_ret3
 exact ⟨⟨_, rfl⟩, bdrewN (Below.refl _ _) _⟩
theorem mend_any (F : Foot) (Ft : Nat → Foot) (mb gm kb am : Nat) (qv : Value) (out : Nat) (m : MS) (es : List TE) (N R i st : Nat) (sI code : Int) (t : TX) (x : TE) (w : World) (h : ManX w F Ft mb gm kb am qv out m es N R) (ht : m.txs[i]? = some t) (hx : es[i]? = some x) (hi : i ≤ 1000000) (hs : sI = (st : Int)) :
  Calls Tryz.prog 95 #[.pointer (some ⟨mb, 0, none⟩), .int .i64 ((i : Int) + 1), .int .i64 sI, .int .i64 code] w fun e w' => e = .returned (.tuple #[]) ∧ ManX w' F Ft mb gm kb am qv out (m.put i { t with st := st, time := if st = 4 then 0 else t.time }) es N R ∧ Kf F w w' := by
 obtain ⟨c0, c1, c2, _⟩ := mcells_at h.bx
 have hlk := (h.look_ok hx hi).2
 obtain ⟨code0, hb⟩ := (h.tx i t x ht hx).bx
 have f0 := hb.free 0
 have f2 := hb.free 2
 obtain ⟨w2, hw2⟩ : ∃ w2, w.setCell ⟨x.tb, 0, none⟩ (.int .i64 sI) = w2 := ⟨_, rfl⟩
 have hb2 : Bk w2 x.tb 205 (tcells { t with st := st } code0 x) := by rw [← hw2]; have := hb.set 0 (.int .i64 sI); simpa [tcells, hs] using this
 have k2 : Kf (fun b => b = x.tb) w w2 := by rw [← hw2]; exact (Kf.refl (fun b => b = x.tb) w).set hb (by decide) (.inl rfl) 0 _
 have f22 := hb2.free 2
 obtain ⟨w3, hw3⟩ : ∃ w3, w2.setCell ⟨x.tb, 2, none⟩ (.int .i64 code) = w3 := ⟨_, rfl⟩
 have hb3 : Bk w3 x.tb 205 (tcells { t with st := st } code x) := by rw [← hw3]; have := hb2.set 2 (.int .i64 code); simpa [tcells] using this
 have k3 : Kf (fun b => b = x.tb) w w3 := by rw [← hw3]; exact k2.set hb2 (by decide) (.inl rfl) 2 _
 have f31 := hb3.free 1
 obtain ⟨w4, hw4⟩ : ∃ w4, w3.setCell ⟨x.tb, 1, none⟩ (.int .i64 0) = w4 := ⟨_, rfl⟩
 have hb4 : Bk w4 x.tb 205 (tcells { t with st := st, time := 0 } code x) := by rw [← hw4]; have := hb3.set 1 (.int .i64 0); simpa [tcells] using this
 have k4 : Kf (fun b => b = x.tb) w w4 := by rw [← hw4]; exact k3.set hb3 (by decide) (.inl rfl) 1 _
 have e3 := h.state (t' := { t with st := st }) ht hx k3 hb3 rfl rfl
 have e4 := h.state (t' := { t with st := st, time := 0 }) ht hx k4 hb4 rfl rfl
 have hwf := wfN hi
 have fin : ∀ (W : World) (M : MS), ManX W F Ft mb gm kb am qv out M es N R ∧ Kf F w W → Calls Tryz.prog 156 #[.pointer (some ⟨kb, 0, none⟩), .int .i64 ((i : Int) + 1)] W fun e w' => (∃ r : Int, e = .returned (.int .i64 r)) ∧ ManX w' F Ft mb gm kb am qv out M es N R ∧ Kf F w w' := fun W M hW => by
  obtain ⟨s, tb, f, hbk⟩ := hW.1.book
  refine (bookclose_any _ _ _ _ _ _ _ W hbk hwf).mono ?_
  rintro e w' ⟨⟨r, rfl⟩, ⟨s', _, hbk'⟩, hk⟩
  obtain ⟨g1, g2⟩ := hW.1.bookd hk hbk'
  exact ⟨⟨r, rfl⟩, g1, hW.2.trans g2 (fun b q => .inl q)⟩
 have c31 : w3.cell? ⟨mb, 1, none⟩ = some (.pointer (some ⟨kb, 0, none⟩)) := (mcells_at e3.1.bx).2.1
 have c41 : w4.cell? ⟨mb, 1, none⟩ = some (.pointer (some ⟨kb, 0, none⟩)) := (mcells_at e4.1.bx).2.1
 have fin3 := fin w3 _ e3
 have fin4 := fin w4 _ e4
 have d0 := (tcells_at hb).1
 have d2 := (tcells_at hb2).2.2.1
 have d1 := (tcells_at hb3).2.1
 clear h hb hb2 hb3 hb4 e3 e4 fin k2 k3 k4 hwf
 by_cases h4 : sI = 4
 · rw [if_pos (by omega)]
   clear hs
   subst h4
   clear fin3 c31
   go_enter Tryz.func95, Tryz.ntmps95
   go_wp2_with fail
   refine fin4.mono ?_
   rintro e w' ⟨⟨r, rfl⟩, g⟩
   go_wp2_with fail
   go_end0
   exact ⟨rfl, g⟩
 · rw [if_neg (by omega)]
   have n1 : (sI == 4) = false := by simpa using h4
   clear hs
   clear fin4 c41
   go_enter Tryz.func95, Tryz.ntmps95
   go_wp2_with fail
   refine fin3.mono ?_
   rintro e w' ⟨⟨r, rfl⟩, g⟩
   go_wp2_with fail
   go_end0
   exact ⟨rfl, g⟩
end
section
open Go.RowKit Go.Maps
theorem mabort_any (F : Foot) (Ft : Nat → Foot) (mb gm kb am : Nat) (qv : Value) (out : Nat) (m : MS) (es : List TE) (N R i : Nat) (t : TX) (x : TE) (w : World) (h : ManX w F Ft mb gm kb am qv out m es N R) (ht : m.txs[i]? = some t) (hx : es[i]? = some x) (hi : i ≤ 1000000) :
  Calls Tryz.prog 170 #[.pointer (some ⟨mb, 0, none⟩), .int .i64 ((i : Int) + 1)] w fun e w' => (t.st = 1 ∧ e = .returned (.int .i64 0) ∧ ManX w' F Ft mb gm kb am qv out (m.put i { t with st := 4, time := 0 }) es N R ∧ Kf F w w') ∨ (t.st ≠ 1 ∧ e = .returned (.int .i64 5) ∧ w = w') := by
 have ho := topen_any F Ft mb gm kb am qv out m es N R i t x w h ht hx hi
 have he := mend_any F Ft mb gm kb am qv out m es N R i 4 4 0 t x w h ht hx hi rfl
 rw [if_pos rfl] at he
 clear h
 by_cases h1 : t.st = 1
 · rw [if_pos h1] at ho
   go_enter Tryz.func170, Tryz.ntmps170
   go_wp2_with fail
   refine ho.mono ?_
   rintro e w' ⟨rfl, rfl⟩
   clear ho
   go_wp2_with fail
   refine he.mono ?_
   rintro e w' ⟨rfl, g⟩
   clear he
   go_wp2_with fail
   go_ret
   exact .inl ⟨h1, rfl, g⟩
 · rw [if_neg h1] at ho
   go_enter Tryz.func170, Tryz.ntmps170
   go_wp2_with fail
   refine ho.mono ?_
   rintro e w' ⟨rfl, rfl⟩
   clear ho
   go_wp2_with fail
   go_ret
   exact .inr ⟨h1, rfl, rfl⟩
def mwPost (w : World) (F : Foot) (Ft : Nat → Foot) (mb gm kb am : Nat) (qv : Value) (out : Nat) (m : MS) (es : List TE) (N R i : Nat) (t : TX) (n : Nat) (ps : List PutD) (e : Ending) (w' : World) : Prop :=
 ∃ r : Int, e = .returned (.int .i64 r) ∧ ((t.st ≠ 1 ∧ w = w') ∨ (t.st = 1 ∧ ∃ ks', ManX w' F Ft mb gm kb am qv out (m.put i { t with keys := ks' }) es N R ∧ Kf F w w' ∧ KeysOk ks' ∧ (t.keys = [] → n = 1 → (∀ p ∈ ps, 0 ≤ p.lba ∧ p.lba < 258 ∧ p.n = 40) → r = 0 ∧ ks' ≠ [])))
theorem BufP.ok {w : World} {F : Foot} {bb : Nat} {ks : List Int} (h : BufP w F bb ks) : KeysOk ks := by
 obtain ⟨mb, s, f, h⟩ := h
 exact ⟨h.keys.up, by rw [h.keys.len]; exact h.le, h.rng⟩
theorem mwrite_any (F : Foot) (Ft : Nat → Foot) (mb gm kb am : Nat) (qv : Value) (out : Nat) (m : MS) (es : List TE) (N R i n c : Nat) (t : TX) (x : TE) (A : Option Addr) (ps : List PutD) (w : World) (h : ManX w F Ft mb gm kb am qv out m es N R) (ht : m.txs[i]? = some t) (hx : es[i]? = some x) (hi : i ≤ 1000000) (hp : IsPs w A n c ps) (hn : n ≤ 20000) :
  Calls Tryz.prog 169 #[.pointer (some ⟨mb, 0, none⟩), .int .i64 ((i : Int) + 1), .slice A n c] w fun e w' => mwPost w F Ft mb gm kb am qv out m es N R i t n ps e w' := by
 have ho := topen_any F Ft mb gm kb am qv out m es N R i t x w h ht hx hi
 have htx := h.tx i t x ht hx
 obtain ⟨code, hb⟩ := htx.bx
 obtain ⟨_, _, _, _, d4, _⟩ := tcells_at hb
 obtain ⟨wb, s, f, hbf⟩ := htx.buf
 have hw := bwrite_any _ x.bb wb s n c t.keys f A ps w hbf hp hn
 have HK := Lib.hid (show t.keys = [] → s = 0 from fun q => by have := hbf.keys.len; rw [q] at this; exact this.symm)
 have HX := Lib.hid h
 clear h hb htx hbf hp
 by_cases h1 : t.st = 1
 · rw [if_pos h1] at ho
   go_enter Tryz.func169, Tryz.ntmps169
   go_wp2_with fail
   refine ho.mono ?_
   rintro e w' ⟨rfl, rfl⟩
   clear ho
   go_wp2_with fail
   refine hw.mono ?_
   rintro e w1 ⟨r, rfl, ⟨ks', hbp, hok⟩, hk⟩
   have HE := Lib.hid (HX.out.bufd ht hx hk hbp)
   have HO := Lib.hid (And.intro hbp.ok hok)
   clear hw hbp hok hk
   go_wp2_with fail
   go_ret
   exact ⟨_, rfl, .inr ⟨h1, ks', HE.out.1, HE.out.2, HO.out.1, fun a b c => HO.out.2 (HK.out a) b c⟩⟩
 · rw [if_neg h1] at ho
   go_enter Tryz.func169, Tryz.ntmps169
   go_wp2_with fail
   refine ho.mono ?_
   rintro e w' ⟨rfl, rfl⟩
   clear ho
   go_wp2_with fail
   go_ret
   exact ⟨_, rfl, .inl ⟨h1, rfl⟩⟩
end
section
open Go.RowKit Go.Maps
def mrPost (w : World) (F : Foot) (mb gm kb am : Nat) (qv : Value) (out : Nat) (m : MS) (es : List TE) (N R : Nat) (e : Ending) (w' : World) : Prop :=
 (∃ v, ∃ r : Int, e = .returned (.tuple #[v, .int .i64 r]) ∧ ∃ bs, Byt w' w.heap.size v bs ∧ bs.length ≤ 640) ∧ ∃ F' Ft', ManX w' F' Ft' mb gm kb am qv out m es N (R + 16) ∧ Kf F w w' ∧ Sb w F F' ∧ In w' F'
theorem mr_of {w W w7 : World} {F F' : Foot} {Ft' : Nat → Foot} {mb gm kb am : Nat} {qv : Value} {out : Nat} {m : MS} {es : List TE} {N R : Nat} {v : Value} {r : Int} {bs : List Int} (hb : Below w.heap.size w W)
  (h : ManX w7 F' Ft' mb gm kb am qv out m es N (R + 16) ∧ Kf F W w7 ∧ Sb W F F' ∧ In w7 F') (hbs : Byt w7 w.heap.size v bs) (hbl : bs.length ≤ 640) : mrPost w F mb gm kb am qv out m es N R (.returned (.tuple #[v, .int .i64 r])) w7 :=
 ⟨⟨v, r, rfl, bs, hbs, hbl⟩, F', Ft', h.1, (Kf.of_below hb).trans h.2.1 (fun b q => .inl q), fun b q => (h.2.2.1 b q).imp id (Nat.le_trans hb.size), h.2.2.2⟩
theorem mread_any (F : Foot) (Ft : Nat → Foot) (mb gm kb am : Nat) (qv : Value) (out : Nat) (m : MS) (es : List TE) (N R i : Nat) (t : TX) (x : TE) (f l : Int) (w : World) (h : ManX w F Ft mb gm kb am qv out m es N R) (ht : m.txs[i]? = some t) (hx : es[i]? = some x) (hi : i ≤ 1000000) (hR : R + 16 ≤ 100000) :
  Calls Tryz.prog 168 #[.pointer (some ⟨mb, 0, none⟩), .int .i64 ((i : Int) + 1), .agg #[.int .i64 f, .int .i64 l]] w fun e w' => mrPost w F mb gm kb am qv out m es N R e w' := by
 obtain ⟨w5, hw5⟩ : ∃ w5, w.alloc (.cells #[.int .i64 f, .int .i64 l] 197) = w5 := ⟨_, rfl⟩
 have hB5 : Bk w5 w.heap.size 197 [.int .i64 f, .int .i64 l] := by rw [← hw5]; exact Bk.new w _ _
 have hb5 : Below w.heap.size w w5 := by rw [← hw5]; exact (Below.refl _ _).alloc (Nat.le_refl _) _
 obtain ⟨d0, d1⟩ := hB5.c2
 have h5 := h.next hb5
 have ho := topen_any F Ft mb gm kb am qv out m es N R i t x w5 h5 ht hx hi
 obtain ⟨code, hb⟩ := (h5.tx i t x ht hx).bx
 have KK := Lib.hid (fun (w' : World) (hS : Below w5.heap.size w5 w') => And.intro ((tcells_at (hb.next hS hb.lt)).2.2.2.2.2) (And.intro ((hB5.next hS hB5.lt).cell (i := 0) (by simp)) ((hB5.next hS hB5.lt).cell (i := 1) (by simp))))
 have HX := Lib.hid h5
 have HB5 := Lib.hid hb5
 have HN := Lib.hid (h.fam.lt)
 clear h h5 hB5 hb5 hb d0 d1
 by_cases h1 : t.st = 1
 · rw [if_pos h1] at ho
   have k5 := KK.out w5 (Below.refl _ _)
   go_enter Tryz.func168, Tryz.ntmps168
   go_wp2_with fail
   refine ho.mono ?_
   rintro e w' ⟨rfl, rfl⟩
   clear ho
   go_wp2_with fail
   have Kq := KK
   refine anyM_start (fun w' => Below w5.heap.size w5 w') [5] (by kernel_rfl) (bdrew (Below.refl _ _)) (fun hHeld => ?_)
   refine kR 0 ?_; refine kR 1 ?_; refine kR 2 ?_
   refine kM 3 ?_; refine kM 4 ?_
   refine rM 5 (fun K hK => ?_)
   go_simp
   have hW := HX.out.next hHeld
   have hbW := HB5.out.trans (hHeld.mono HB5.out.size)
   obtain ⟨el, hel, _⟩ := hW.ext
   have htW := hW.tx i t x ht hx
   refine (viewread_any _ _ _ x.vb gm x.bb R N (t.at' : Int) el f l t.keys _ htW.view hel htW.buf (hW.fam.inn _) (hW.fam.dis _ _ (by omega)) (hW.fam.dis _ _ (by omega)) hR).mono ?_
   rintro e w7 ⟨⟨v, r, rfl, bs, hbs, hbl⟩, G, hv, hk, hsb, hin⟩
   have HE := Lib.hid (mr_of hbW (hW.viewd ht hx hk hsb hin hv (by omega) hR) (hbs.base hbW.size) hbl (r := r))
   clear hW hbW hel htW hv hk hsb hin hbs hbl
   go_simp
   refine hK.out _ _ (fun h => absurd (by decide) h) ?_
   clear hK K
   try simp only [Act.put, List.setIfInBounds_toArray, List.set_cons_zero, List.set_cons_succ]
   refine kR 6 ?_; refine kR 7 ?_; refine kR 8 ?_; refine kR 9 ?_
   refine anyM_done (by kernel_rfl) ?_ _
   clear Kq
   go_wp2_with fail
   go_ret2
   exact HE.out
 · rw [if_neg h1] at ho
   have HE := Lib.hid (show ∀ v : Value, v = .slice none 0 0 → mrPost w F mb gm kb am qv out m es N R (.returned (.tuple #[v, .int .i64 5])) w5 from fun v hv =>
    ⟨⟨v, _, rfl, [], ⟨⟨rfl, .inl ⟨hv, rfl⟩⟩, by simp⟩, by simp⟩, F, Ft, HX.out.up (Nat.le_refl _) (by obtain ⟨el, ⟨bm, s, f, he, _⟩, _⟩ := HX.out.ext; exact he.big) (by omega) hR, .of_below HB5.out, .refl _ _, HX.out.fam.lt⟩)
   go_enter Tryz.func168, Tryz.ntmps168
   go_wp2_with fail
   refine ho.mono ?_
   rintro e w' ⟨rfl, rfl⟩
   clear ho
   go_wp2_with fail
   go_ret2
   exact HE.out _ rfl
end
section
open Go.RowKit Go.Maps
theorem enCk : ∀ args w, (callFunc 215 args).run Tryz.prog w = .ok (.enter 215 args) w := enters_of Tryz.func215 (by kernel_rfl) rfl
theorem bck_nums {k n : Nat} (hlt : k < n) (hn : n ≤ 8) : (k : Int) < (n : Int) ∧ (0 : Int) ≤ (k : Int) ∧ IntKind.i64.wrap (k : Int) = (k : Int) ∧ wrap64 ((k : Int) + 1) = (k : Int) + 1 :=
 ⟨by omega, by omega, IntWalk.i64_in _ (by omega), by unfold wrap64; omega⟩
theorem bck_n {m : Nat} (h : m ≤ 16) : decide (16 < (m : Int)) = false ∧ ¬ 16 < (m : Int) := ⟨decide_eq_false (by omega), by omega⟩
theorem bck_0 {k : Nat} (h : k = 0) : decide ((0 : Int) < (k : Int)) = false ∧ decide (0 < k) = false := ⟨decide_eq_false (by omega), decide_eq_false (by omega)⟩
theorem bck_1 {k n : Nat} (h : k ≠ 0) (hlt : k < n) (hn : n ≤ 8) : ∃ k1 : Nat, k1 < n ∧ decide ((0 : Int) < (k : Int)) = true ∧ decide (0 < k) = true ∧ wrap64 ((k : Int) - 1) = (k1 : Int) ∧ IntKind.i64.wrap ((k : Int) - 1) = (k1 : Int) ∧ (0 : Int) ≤ (k1 : Int) ∧ (k1 : Int) < (n : Int) :=
 ⟨k - 1, by omega, decide_eq_true (by omega), decide_eq_true (by omega), by unfold wrap64; omega, (IntWalk.i64_in _ (by omega)).trans (by omega), by omega, by omega⟩
theorem bck_t {a b : Int} (ha : 1 ≤ a ∧ a ≤ 1000) (hb : 1 ≤ b ∧ b ≤ 1000) : decide (65535 < wrap64 (a - b)) = false ∧ decide (65535 < IntKind.i64.wrap (a - b)) = false :=
 ⟨decide_eq_false (by unfold wrap64; omega), decide_eq_false (by rw [IntWalk.i64_in _ (by omega)]; omega)⟩
theorem two_at {ts : List TxD} {w : World} {B : Nat} {adx : Addr} (hr : Rd w B (some adx) (ts.flatMap TxD.cells)) {k1 : Nat} (h : k1 < ts.length) : ∃ y ∈ ts, w.cell? (adx.add (k1 * 2)) = some (.int .i64 y.time) ∧ adx.block < B := by
 obtain ⟨ad, e, hb, g0, _⟩ := two_get tx_two hr h (u := .int .i64 ts[k1].time) (v := .slice ts[k1].A ts[k1].n ts[k1].c) rfl
 injection e with e
 subst e
 exact ⟨ts[k1], List.getElem_mem h, g0, hb⟩
def CWI (w7 : World) (g n c : Nat) (num : Int) (adx : Addr) (c5 c6 c7 c8 c9 c10 c11 c12 c13 c14 c15 c16 c17 c18 c19 c20 c21 c22 c23 c24 c25 c26 c27 c28 c29 c30 c31 c32 c33 c34 c35 c36 : Value) (a : Act) (wr : World) : Prop :=
 ∃ u2 u3 u4 u39 u40 u41 u42 u43 u44 u45 u46 u47 u48 u49 u50 u51 u52 u53 u54 u55 u56 u57 u58 u59 u60 u61 u62 u63 u64 u65 u66 u67 u68 u69 u70 : Value, (∃ k : Nat, k ≤ n ∧ u39 = .int .i64 (k : Int) ∧ Below w7.heap.size w7 wr) ∧ a = ⟨#[.agg #[.int .i64 num, .slice (some adx) n c], .pointer (some ⟨g, 0, none⟩), u2, u3, u4, c5, c6, c7, c8, c9, c10, c11, c12, c13, c14, c15, c16, c17, c18, c19, c20, c21, c22, c23, c24, c25, c26, c27, c28, c29, c30, c31, c32, c33, c34, c35, c36, .slice (some adx) n c, .int .i64 (n : Int), u39, u40, u41, u42, u43, u44, u45, u46, u47, u48, u49, u50, u51, u52, u53, u54, u55, u56, u57, u58, u59, u60, u61, u62, u63, u64, u65, u66, u67, u68, u69, u70], []⟩
theorem CWI.mk {w7 wr : World} {g n c : Nat} {num : Int} {adx : Addr} {c5 c6 c7 c8 c9 c10 c11 c12 c13 c14 c15 c16 c17 c18 c19 c20 c21 c22 c23 c24 c25 c26 c27 c28 c29 c30 c31 c32 c33 c34 c35 c36 : Value} {u2 u3 u4 u39 u40 u41 u42 u43 u44 u45 u46 u47 u48 u49 u50 u51 u52 u53 u54 u55 u56 u57 u58 u59 u60 u61 u62 u63 u64 u65 u66 u67 u68 u69 u70 : Value} (h : ∃ k : Nat, k ≤ n ∧ u39 = .int .i64 (k : Int) ∧ Below w7.heap.size w7 wr) : CWI w7 g n c num adx c5 c6 c7 c8 c9 c10 c11 c12 c13 c14 c15 c16 c17 c18 c19 c20 c21 c22 c23 c24 c25 c26 c27 c28 c29 c30 c31 c32 c33 c34 c35 c36 ⟨#[.agg #[.int .i64 num, .slice (some adx) n c], .pointer (some ⟨g, 0, none⟩), u2, u3, u4, c5, c6, c7, c8, c9, c10, c11, c12, c13, c14, c15, c16, c17, c18, c19, c20, c21, c22, c23, c24, c25, c26, c27, c28, c29, c30, c31, c32, c33, c34, c35, c36, .slice (some adx) n c, .int .i64 (n : Int), u39, u40, u41, u42, u43, u44, u45, u46, u47, u48, u49, u50, u51, u52, u53, u54, u55, u56, u57, u58, u59, u60, u61, u62, u63, u64, u65, u66, u67, u68, u69, u70], []⟩ wr := ⟨u2, u3, u4, u39, u40, u41, u42, u43, u44, u45, u46, u47, u48, u49, u50, u51, u52, u53, u54, u55, u56, u57, u58, u59, u60, u61, u62, u63, u64, u65, u66, u67, u68, u69, u70, h, rfl⟩
def cmu (n : Nat) (a : Act) (_ : World) : Nat := n - (intOf (a.tmps.getD 39 undef)).toNat
theorem cmu_eq {n : Nat} {num : Int} {g c : Nat} {adx : Addr} {w : World} {x : Int} {c5 c6 c7 c8 c9 c10 c11 c12 c13 c14 c15 c16 c17 c18 c19 c20 c21 c22 c23 c24 c25 c26 c27 c28 c29 c30 c31 c32 c33 c34 c35 c36 u2 u3 u4 u40 u41 u42 u43 u44 u45 u46 u47 u48 u49 u50 u51 u52 u53 u54 u55 u56 u57 u58 u59 u60 u61 u62 u63 u64 u65 u66 u67 u68 u69 u70 : Value} : cmu n ⟨#[.agg #[.int .i64 num, .slice (some adx) n c], .pointer (some ⟨g, 0, none⟩), u2, u3, u4, c5, c6, c7, c8, c9, c10, c11, c12, c13, c14, c15, c16, c17, c18, c19, c20, c21, c22, c23, c24, c25, c26, c27, c28, c29, c30, c31, c32, c33, c34, c35, c36, .slice (some adx) n c, .int .i64 (n : Int), .int .i64 x, u40, u41, u42, u43, u44, u45, u46, u47, u48, u49, u50, u51, u52, u53, u54, u55, u56, u57, u58, u59, u60, u61, u62, u63, u64, u65, u66, u67, u68, u69, u70], []⟩ w = n - x.toNat := rfl
theorem ck_0 (w7 wr : World) (g n c k : Nat) (num : Int) (adx : Addr) (ts : List TxD) (c5 c6 c7 c8 c9 c10 c11 c12 c13 c14 c15 c16 c17 c18 c19 c20 c21 c22 c23 c24 c25 c26 c27 c28 c29 c30 c31 c32 c33 c34 c35 c36 u2 u3 u4 u40 u41 u42 u43 u44 u45 u46 u47 u48 u49 u50 u51 u52 u53 u54 u55 u56 u57 u58 u59 u60 u61 u62 u63 u64 u65 u66 u67 u68 u69 u70 : Value) (Q0 : Exit → Act → World → Prop) (hpan : ∀ c a d v w, Q0 (.panic c) (Act.put a d v) w → Q0 (.panic c) a w)
  (h7 : IsTs w7 (some adx) n c ts) (hok : OkB num ts) (hB7 : Bk w7 g 101 [.int .i64 num, .slice (some adx) n c]) (hW : Below w7.heap.size w7 wr) (hlt : k < n) (h0 : k = 0) :
  Code.wp Tryz.prog (loopOf Tryz.f154) (Exit.then (fun a' w'' => CWI w7 g n c num adx c5 c6 c7 c8 c9 c10 c11 c12 c13 c14 c15 c16 c17 c18 c19 c20 c21 c22 c23 c24 c25 c26 c27 c28 c29 c30 c31 c32 c33 c34 c35 c36 a' w'' ∧ cmu n a' w'' < cmu n ⟨#[.agg #[.int .i64 num, .slice (some adx) n c], .pointer (some ⟨g, 0, none⟩), u2, u3, u4, c5, c6, c7, c8, c9, c10, c11, c12, c13, c14, c15, c16, c17, c18, c19, c20, c21, c22, c23, c24, c25, c26, c27, c28, c29, c30, c31, c32, c33, c34, c35, c36, .slice (some adx) n c, .int .i64 (n : Int), .int .i64 (k : Int), u40, u41, u42, u43, u44, u45, u46, u47, u48, u49, u50, u51, u52, u53, u54, u55, u56, u57, u58, u59, u60, u61, u62, u63, u64, u65, u66, u67, u68, u69, u70], []⟩ wr) Q0) ⟨#[.agg #[.int .i64 num, .slice (some adx) n c], .pointer (some ⟨g, 0, none⟩), u2, u3, u4, c5, c6, c7, c8, c9, c10, c11, c12, c13, c14, c15, c16, c17, c18, c19, c20, c21, c22, c23, c24, c25, c26, c27, c28, c29, c30, c31, c32, c33, c34, c35, c36, .slice (some adx) n c, .int .i64 (n : Int), .int .i64 (k : Int), u40, u41, u42, u43, u44, u45, u46, u47, u48, u49, u50, u51, u52, u53, u54, u55, u56, u57, u58, u59, u60, u61, u62, u63, u64, u65, u66, u67, u68, u69, u70], []⟩ wr := by
 have HX := Lib.hid (And.intro h7 (And.intro hok h7.len))
 have HN := Lib.hid (show n ≤ 8 by rw [← h7.len]; exact hok.len.2)
 have HB7 := Lib.hid hB7
 clear h7 hok hB7
 conv => arg 2; whnf
 have hl := HX.out.2.2
 have hr := HX.out.1.rd.next (Nat.le_refl _) hW
 obtain ⟨x, hpx⟩ : ∃ p, ts[k]'(by omega) = p := ⟨_, rfl⟩
 have hmx : x ∈ ts := by rw [← hpx]; exact List.getElem_mem _
 obtain ⟨adx, eAx, hadx, e0, e1⟩ := two_get tx_two (hr) (k := k) (by omega) (u := .int .i64 x.time) (v := .slice x.A x.n x.c) (by rw [hpx]; rfl)
 obtain ⟨n1, n2, wk, m2⟩ := bck_nums hlt HN.out
 have hxo := HX.out.2.1.tx x hmx
 have hps := HX.out.1.y x hmx
 obtain ⟨w8, hw8⟩ : ∃ w8, wr.alloc (.cells #[.int .i64 x.time, .slice x.A x.n x.c] 182) = w8 := ⟨_, rfl⟩
 have hB8 : Bk w8 wr.heap.size 182 [.int .i64 x.time, .slice x.A x.n x.c] := by rw [← hw8]; exact Bk.new wr _ _
 have hb8 : Below wr.heap.size wr w8 := by rw [← hw8]; exact (Below.refl _ _).alloc (Nat.le_refl _) _
 obtain ⟨d0, d1⟩ := hB8.c2
 have hb78 := hW.trans (hb8.mono hW.size)
 have HPS := Lib.hid (hps.next hb78)
 have hB78 := HB7.out.next hb78 HB7.out.lt
 have hxt := hxo.time
 have hxn := hxo.n
 have HXP := Lib.hid hxo.ps
 obtain ⟨t0, t0'⟩ := bck_n hxn.2
 have HB8 := Lib.hid hb78
 have KK := Lib.hid (fun (w' : World) (hS : Below w8.heap.size w8 w') => And.intro ((hB8.next hS hB8.lt).cell (i := 0) (by simp)) (And.intro ((hB8.next hS hB8.lt).cell (i := 1) (by simp)) (And.intro ((hB78.next hS hB78.lt).cell (i := 0) (by simp)) ((hB78.next hS hB78.lt).cell (i := 1) (by simp)))))
 obtain ⟨t1, t1n⟩ := bck_0 h0
 have HK := Lib.hid hlt
 injection eAx with eAx
 subst eAx
 clear hpx hmx hr hps hxo hB8 hB78 hb8 hb78 hW hxt hxn h0 hlt
 go_wp2_with fail
 have Kq := KK
 refine wp_region_held_drew (S := fun w' => Below w8.heap.size w8 w') (by kernel_rfl) (bdrew (Below.refl _ _)) (fun hHeld => ?_)
 refine kF 0 ?_; refine kF 1 ?_; refine kF 2 ?_
 refine kS 3 ?_; refine kS 4 ?_; refine kS 5 ?_; refine kS 6 ?_; refine kS 7 ?_; refine kS 8 ?_; refine kS 9 ?_; refine kS 10 ?_; refine kS 11 ?_; refine kS 12 ?_; refine kS 13 ?_
 refine kF 14 ?_; refine kF 15 ?_; refine kF 16 ?_; refine kF 17 ?_; refine kF 18 ?_; refine kF 19 ?_; refine kF 20 ?_; refine kF 21 ?_; refine kF 22 ?_; refine kF 23 ?_
 refine rF 24 (fun K hK => ?_)
 go_simp
 refine (has_gen x.A x.n x.c x.ps 215 #[] (fun _ => false) _ (HPS.out.next hHeld) enCk (fun p hp w' _ => bclo_yes p.lba p.A p.n p.c w' (HXP.out p hp))).mono ?_
 rintro e w9 ⟨⟨rb, rfl, hrb⟩, hb9⟩
 obtain rfl : rb = false := by
  cases rb with
  | false => rfl
  | true => obtain ⟨_, _, q⟩ := hrb.1 rfl; cases q
 have hS9 : Below w8.heap.size w8 w9 := hHeld.trans (hb9.mono hHeld.size)
 have HS9 := Lib.hid (HB8.out.trans (hS9.mono HB8.out.size))
 clear hrb hb9
 go_simp
 refine hK.out _ _ (hS9) (fun hHeld2 => ?_)
 clear hK K hHeld
 have hHeld := hHeld2
 clear hHeld2
 try simp only [Act.put, List.setIfInBounds_toArray, List.set_cons_zero, List.set_cons_succ]
 refine kF 25 ?_
 refine wpAnyH_done (by kernel_rfl) ?_ _
 clear Kq
 clear d0 d1 e0 e1 wk
 go_wp2_with fail
 refine ⟨?_, ?_⟩
 · refine CWI.mk ?_
   exact ⟨k + 1, HK.out, int_succ (by first | rfl | exact m2), HS9.out⟩
 · rw [cmu_eq, cmu_eq]
   exact sub_lt1 HK.out (by first | rfl | exact m2)
theorem ck_1 (w7 wr : World) (g n c k : Nat) (num : Int) (adx : Addr) (ts : List TxD) (c5 c6 c7 c8 c9 c10 c11 c12 c13 c14 c15 c16 c17 c18 c19 c20 c21 c22 c23 c24 c25 c26 c27 c28 c29 c30 c31 c32 c33 c34 c35 c36 u2 u3 u4 u40 u41 u42 u43 u44 u45 u46 u47 u48 u49 u50 u51 u52 u53 u54 u55 u56 u57 u58 u59 u60 u61 u62 u63 u64 u65 u66 u67 u68 u69 u70 : Value) (Q0 : Exit → Act → World → Prop) (hpan : ∀ c a d v w, Q0 (.panic c) (Act.put a d v) w → Q0 (.panic c) a w)
  (h7 : IsTs w7 (some adx) n c ts) (hok : OkB num ts) (hB7 : Bk w7 g 101 [.int .i64 num, .slice (some adx) n c]) (hW : Below w7.heap.size w7 wr) (hlt : k < n) (h0 : k ≠ 0) :
  Code.wp Tryz.prog (loopOf Tryz.f154) (Exit.then (fun a' w'' => CWI w7 g n c num adx c5 c6 c7 c8 c9 c10 c11 c12 c13 c14 c15 c16 c17 c18 c19 c20 c21 c22 c23 c24 c25 c26 c27 c28 c29 c30 c31 c32 c33 c34 c35 c36 a' w'' ∧ cmu n a' w'' < cmu n ⟨#[.agg #[.int .i64 num, .slice (some adx) n c], .pointer (some ⟨g, 0, none⟩), u2, u3, u4, c5, c6, c7, c8, c9, c10, c11, c12, c13, c14, c15, c16, c17, c18, c19, c20, c21, c22, c23, c24, c25, c26, c27, c28, c29, c30, c31, c32, c33, c34, c35, c36, .slice (some adx) n c, .int .i64 (n : Int), .int .i64 (k : Int), u40, u41, u42, u43, u44, u45, u46, u47, u48, u49, u50, u51, u52, u53, u54, u55, u56, u57, u58, u59, u60, u61, u62, u63, u64, u65, u66, u67, u68, u69, u70], []⟩ wr) Q0) ⟨#[.agg #[.int .i64 num, .slice (some adx) n c], .pointer (some ⟨g, 0, none⟩), u2, u3, u4, c5, c6, c7, c8, c9, c10, c11, c12, c13, c14, c15, c16, c17, c18, c19, c20, c21, c22, c23, c24, c25, c26, c27, c28, c29, c30, c31, c32, c33, c34, c35, c36, .slice (some adx) n c, .int .i64 (n : Int), .int .i64 (k : Int), u40, u41, u42, u43, u44, u45, u46, u47, u48, u49, u50, u51, u52, u53, u54, u55, u56, u57, u58, u59, u60, u61, u62, u63, u64, u65, u66, u67, u68, u69, u70], []⟩ wr := by
 have HX := Lib.hid (And.intro h7 (And.intro hok h7.len))
 have HN := Lib.hid (show n ≤ 8 by rw [← h7.len]; exact hok.len.2)
 have HB7 := Lib.hid hB7
 clear h7 hok hB7
 conv => arg 2; whnf
 have hl := HX.out.2.2
 have hr := HX.out.1.rd.next (Nat.le_refl _) hW
 obtain ⟨x, hpx⟩ : ∃ p, ts[k]'(by omega) = p := ⟨_, rfl⟩
 have hmx : x ∈ ts := by rw [← hpx]; exact List.getElem_mem _
 obtain ⟨adx, eAx, hadx, e0, e1⟩ := two_get tx_two (hr) (k := k) (by omega) (u := .int .i64 x.time) (v := .slice x.A x.n x.c) (by rw [hpx]; rfl)
 obtain ⟨n1, n2, wk, m2⟩ := bck_nums hlt HN.out
 have hxo := HX.out.2.1.tx x hmx
 have hps := HX.out.1.y x hmx
 obtain ⟨w8, hw8⟩ : ∃ w8, wr.alloc (.cells #[.int .i64 x.time, .slice x.A x.n x.c] 182) = w8 := ⟨_, rfl⟩
 have hB8 : Bk w8 wr.heap.size 182 [.int .i64 x.time, .slice x.A x.n x.c] := by rw [← hw8]; exact Bk.new wr _ _
 have hb8 : Below wr.heap.size wr w8 := by rw [← hw8]; exact (Below.refl _ _).alloc (Nat.le_refl _) _
 obtain ⟨d0, d1⟩ := hB8.c2
 have hb78 := hW.trans (hb8.mono hW.size)
 have HPS := Lib.hid (hps.next hb78)
 have hB78 := HB7.out.next hb78 HB7.out.lt
 have hxt := hxo.time
 have hxn := hxo.n
 have HXP := Lib.hid hxo.ps
 obtain ⟨t0, t0'⟩ := bck_n hxn.2
 have HB8 := Lib.hid hb78
 have KK := Lib.hid (fun (w' : World) (hS : Below w8.heap.size w8 w') => And.intro ((hB8.next hS hB8.lt).cell (i := 0) (by simp)) (And.intro ((hB8.next hS hB8.lt).cell (i := 1) (by simp)) (And.intro ((hB78.next hS hB78.lt).cell (i := 0) (by simp)) ((hB78.next hS hB78.lt).cell (i := 1) (by simp)))))
 obtain ⟨k1, hk1, t1, t1n, m3, m3', m4, m5⟩ := bck_1 h0 hlt HN.out
 have hr1 := HX.out.1.rd.next (Nat.le_refl _) (hW.trans (hb8.mono hW.size))
 injection eAx with eAx
 subst eAx
 obtain ⟨y, hym, hk1b, had1⟩ := two_at hr1 (k1 := k1) (by rw [HX.out.2.2]; exact hk1)
 obtain ⟨t2, t2'⟩ := bck_t hxt (HX.out.2.1.tx y hym).time
 have KK2 := Lib.hid (fun (w' : World) (hS : Below w8.heap.size w8 w') => (show w'.cell? (adx.add (k1 * 2)) = some (.int .i64 y.time) from by
  rw [World.cell?_of_block (w := w8) (w' := w') (by rw [add_block]; exact hS.block _ (Nat.lt_of_lt_of_le had1 HB8.out.size))]; exact hk1b))
 have HK := Lib.hid hlt
 clear hpx hmx hr hps hxo hB8 hB78 hb8 hb78 hW hxt hxn h0 hlt hr1 hym had1 hk1 hk1b
 go_wp2_with fail
 have Kq := Lib.hid (fun (w' : World) hS => And.intro (KK.out w' hS) (KK2.out w' hS))
 refine wp_region_held_drew (S := fun w' => Below w8.heap.size w8 w') (by kernel_rfl) (bdrew (Below.refl _ _)) (fun hHeld => ?_)
 refine kF 0 ?_; refine kF 1 ?_; refine kF 2 ?_; refine kF 3 ?_; refine kF 4 ?_; refine kF 5 ?_; refine kF 6 ?_; refine kF 7 ?_; refine kF 8 ?_; refine kF 9 ?_; refine kF 10 ?_; refine kF 11 ?_
 refine kF 12 ?_; refine kF 13 ?_; refine kF 14 ?_; refine kF 15 ?_; refine kF 16 ?_; refine kF 17 ?_; refine kF 18 ?_; refine kF 19 ?_; refine kF 20 ?_; refine kF 21 ?_; refine kF 22 ?_; refine kF 23 ?_
 refine rF 24 (fun K hK => ?_)
 go_simp
 refine (has_gen x.A x.n x.c x.ps 215 #[] (fun _ => false) _ (HPS.out.next hHeld) enCk (fun p hp w' _ => bclo_yes p.lba p.A p.n p.c w' (HXP.out p hp))).mono ?_
 rintro e w9 ⟨⟨rb, rfl, hrb⟩, hb9⟩
 obtain rfl : rb = false := by
  cases rb with
  | false => rfl
  | true => obtain ⟨_, _, q⟩ := hrb.1 rfl; cases q
 have hS9 : Below w8.heap.size w8 w9 := hHeld.trans (hb9.mono hHeld.size)
 have HS9 := Lib.hid (HB8.out.trans (hS9.mono HB8.out.size))
 clear hrb hb9
 go_simp
 refine hK.out _ _ (hS9) (fun hHeld2 => ?_)
 clear hK K hHeld
 have hHeld := hHeld2
 clear hHeld2
 try simp only [Act.put, List.setIfInBounds_toArray, List.set_cons_zero, List.set_cons_succ]
 refine kF 25 ?_
 refine wpAnyH_done (by kernel_rfl) ?_ _
 clear Kq
 clear d0 d1 e0 e1 wk
 go_wp2_with fail
 refine ⟨?_, ?_⟩
 · refine CWI.mk ?_
   exact ⟨k + 1, HK.out, int_succ (by first | rfl | exact m2), HS9.out⟩
 · rw [cmu_eq, cmu_eq]
   exact sub_lt1 HK.out (by first | rfl | exact m2)
end
section
open Go.RowKit Go.Maps
theorem ck_end (n k g c : Nat) (num : Int) (adx : Addr) (w'' : World) (c5 c6 c7 c8 c9 c10 c11 c12 c13 c14 c15 c16 c17 c18 c19 c20 c21 c22 c23 c24 c25 c26 c27 c28 c29 c30 c31 c32 c33 c34 c35 c36 u2 u3 u4 u40 u41 u42 u43 u44 u45 u46 u47 u48 u49 u50 u51 u52 u53 u54 u55 u56 u57 u58 u59 u60 u61 u62 u63 u64 u65 u66 u67 u68 u69 u70 : Value) (Q : Exit → Act → World → Prop) (hk : k = n) (h : ∀ u2 u3 u4 u39 u40 u41 u42 u43 u44 u45 u46 u47 u48 u49 u50 u51 u52 u53 u54 u55 u56 u57 u58 u59 u60 u61 u62 u63 u64 u65 u66 u67 u68 u69 u70 : Value, Q (.exit 0) ⟨#[.agg #[.int .i64 num, .slice (some adx) n c], .pointer (some ⟨g, 0, none⟩), u2, u3, u4, c5, c6, c7, c8, c9, c10, c11, c12, c13, c14, c15, c16, c17, c18, c19, c20, c21, c22, c23, c24, c25, c26, c27, c28, c29, c30, c31, c32, c33, c34, c35, c36, .slice (some adx) n c, .int .i64 (n : Int), u39, u40, u41, u42, u43, u44, u45, u46, u47, u48, u49, u50, u51, u52, u53, u54, u55, u56, u57, u58, u59, u60, u61, u62, u63, u64, u65, u66, u67, u68, u69, u70], []⟩ w'') :
  Code.wp Tryz.prog (loopOf Tryz.f154) Q ⟨#[.agg #[.int .i64 num, .slice (some adx) n c], .pointer (some ⟨g, 0, none⟩), u2, u3, u4, c5, c6, c7, c8, c9, c10, c11, c12, c13, c14, c15, c16, c17, c18, c19, c20, c21, c22, c23, c24, c25, c26, c27, c28, c29, c30, c31, c32, c33, c34, c35, c36, .slice (some adx) n c, .int .i64 (n : Int), .int .i64 (k : Int), u40, u41, u42, u43, u44, u45, u46, u47, u48, u49, u50, u51, u52, u53, u54, u55, u56, u57, u58, u59, u60, u61, u62, u63, u64, u65, u66, u67, u68, u69, u70], []⟩ w'' := by
 subst hk
 have n0 : ¬ (k : Int) < (k : Int) := by omega
 conv => arg 2; whnf
 go_wp2_with fail
 exact h _ _ _ _ _ _ _ _ _ _ _ _ _ _ _ _ _ _ _ _ _ _ _ _ _ _ _ _ _ _ _ _ _ _ _
theorem ck_loop (w7 wr : World) (g n c : Nat) (num : Int) (adx : Addr) (ts : List TxD) (c5 c6 c7 c8 c9 c10 c11 c12 c13 c14 c15 c16 c17 c18 c19 c20 c21 c22 c23 c24 c25 c26 c27 c28 c29 c30 c31 c32 c33 c34 c35 c36 u2 u3 u4 u39 u40 u41 u42 u43 u44 u45 u46 u47 u48 u49 u50 u51 u52 u53 u54 u55 u56 u57 u58 u59 u60 u61 u62 u63 u64 u65 u66 u67 u68 u69 u70 : Value) (Q0 : Exit → Act → World → Prop) (hpan : ∀ c a d v w, Q0 (.panic c) (Act.put a d v) w → Q0 (.panic c) a w)
  (h7 : IsTs w7 (some adx) n c ts) (hok : OkB num ts) (hB7 : Bk w7 g 101 [.int .i64 num, .slice (some adx) n c]) (h0 : ∃ k : Nat, k ≤ n ∧ u39 = .int .i64 (k : Int) ∧ Below w7.heap.size w7 wr)
  (hexit : ∀ (u2 u3 u4 u39 u40 u41 u42 u43 u44 u45 u46 u47 u48 u49 u50 u51 u52 u53 u54 u55 u56 u57 u58 u59 u60 u61 u62 u63 u64 u65 u66 u67 u68 u69 u70 : Value) (w' : World), Below w7.heap.size w7 w' → Q0 (.exit 0) ⟨#[.agg #[.int .i64 num, .slice (some adx) n c], .pointer (some ⟨g, 0, none⟩), u2, u3, u4, c5, c6, c7, c8, c9, c10, c11, c12, c13, c14, c15, c16, c17, c18, c19, c20, c21, c22, c23, c24, c25, c26, c27, c28, c29, c30, c31, c32, c33, c34, c35, c36, .slice (some adx) n c, .int .i64 (n : Int), u39, u40, u41, u42, u43, u44, u45, u46, u47, u48, u49, u50, u51, u52, u53, u54, u55, u56, u57, u58, u59, u60, u61, u62, u63, u64, u65, u66, u67, u68, u69, u70], []⟩ w') :
  Code.wp Tryz.prog (Code.loop (loopOf Tryz.f154)) Q0 ⟨#[.agg #[.int .i64 num, .slice (some adx) n c], .pointer (some ⟨g, 0, none⟩), u2, u3, u4, c5, c6, c7, c8, c9, c10, c11, c12, c13, c14, c15, c16, c17, c18, c19, c20, c21, c22, c23, c24, c25, c26, c27, c28, c29, c30, c31, c32, c33, c34, c35, c36, .slice (some adx) n c, .int .i64 (n : Int), u39, u40, u41, u42, u43, u44, u45, u46, u47, u48, u49, u50, u51, u52, u53, u54, u55, u56, u57, u58, u59, u60, u61, u62, u63, u64, u65, u66, u67, u68, u69, u70], []⟩ wr := by
 refine wp_loop (CWI w7 g n c num adx c5 c6 c7 c8 c9 c10 c11 c12 c13 c14 c15 c16 c17 c18 c19 c20 c21 c22 c23 c24 c25 c26 c27 c28 c29 c30 c31 c32 c33 c34 c35 c36) (cmu n) (CWI.mk h0) (fun a w'' hI => ?_)
 unfold CWI at hI
 obtain ⟨v2, hI⟩ := hI
 obtain ⟨v3, hI⟩ := hI
 obtain ⟨v4, hI⟩ := hI
 obtain ⟨v39, hI⟩ := hI
 obtain ⟨v40, hI⟩ := hI
 obtain ⟨v41, hI⟩ := hI
 obtain ⟨v42, hI⟩ := hI
 obtain ⟨v43, hI⟩ := hI
 obtain ⟨v44, hI⟩ := hI
 obtain ⟨v45, hI⟩ := hI
 obtain ⟨v46, hI⟩ := hI
 obtain ⟨v47, hI⟩ := hI
 obtain ⟨v48, hI⟩ := hI
 obtain ⟨v49, hI⟩ := hI
 obtain ⟨v50, hI⟩ := hI
 obtain ⟨v51, hI⟩ := hI
 obtain ⟨v52, hI⟩ := hI
 obtain ⟨v53, hI⟩ := hI
 obtain ⟨v54, hI⟩ := hI
 obtain ⟨v55, hI⟩ := hI
 obtain ⟨v56, hI⟩ := hI
 obtain ⟨v57, hI⟩ := hI
 obtain ⟨v58, hI⟩ := hI
 obtain ⟨v59, hI⟩ := hI
 obtain ⟨v60, hI⟩ := hI
 obtain ⟨v61, hI⟩ := hI
 obtain ⟨v62, hI⟩ := hI
 obtain ⟨v63, hI⟩ := hI
 obtain ⟨v64, hI⟩ := hI
 obtain ⟨v65, hI⟩ := hI
 obtain ⟨v66, hI⟩ := hI
 obtain ⟨v67, hI⟩ := hI
 obtain ⟨v68, hI⟩ := hI
 obtain ⟨v69, hI⟩ := hI
 obtain ⟨v70, hI⟩ := hI
 obtain ⟨⟨k, hk, e39, hW⟩, rfl⟩ := hI
 subst e39
 rcases Nat.lt_or_ge k n with hlt | hge
 · by_cases h0 : k = 0
   · exact ck_0 w7 w'' g n c k num adx ts _ _ _ _ _ _ _ _ _ _ _ _ _ _ _ _ _ _ _ _ _ _ _ _ _ _ _ _ _ _ _ _ _ _ _ _ _ _ _ _ _ _ _ _ _ _ _ _ _ _ _ _ _ _ _ _ _ _ _ _ _ _ _ _ _ _ Q0 hpan h7 hok hB7 hW hlt h0
   · exact ck_1 w7 w'' g n c k num adx ts _ _ _ _ _ _ _ _ _ _ _ _ _ _ _ _ _ _ _ _ _ _ _ _ _ _ _ _ _ _ _ _ _ _ _ _ _ _ _ _ _ _ _ _ _ _ _ _ _ _ _ _ _ _ _ _ _ _ _ _ _ _ _ _ _ _ Q0 hpan h7 hok hB7 hW hlt h0
 · have e : k = n := by omega
   exact ck_end n k g c num adx w'' _ _ _ _ _ _ _ _ _ _ _ _ _ _ _ _ _ _ _ _ _ _ _ _ _ _ _ _ _ _ _ _ _ _ _ _ _ _ _ _ _ _ _ _ _ _ _ _ _ _ _ _ _ _ _ _ _ _ _ _ _ _ _ _ _ _ _ e (fun u2 u3 u4 u39 u40 u41 u42 u43 u44 u45 u46 u47 u48 u49 u50 u51 u52 u53 u54 u55 u56 u57 u58 u59 u60 u61 u62 u63 u64 u65 u66 u67 u68 u69 u70 => hexit u2 u3 u4 u39 u40 u41 u42 u43 u44 u45 u46 u47 u48 u49 u50 u51 u52 u53 u54 u55 u56 u57 u58 u59 u60 u61 u62 u63 u64 u65 u66 u67 u68 u69 u70 w'' hW)
theorem bcheck_yes (num : Int) (A : Option Addr) (n c : Nat) (ts : List TxD) (w : World) (h : IsTs w A n c ts) (hok : OkB num ts) :
  Calls Tryz.prog 154 #[.agg #[.int .i64 num, .slice A n c]] w fun e w' => e = .returned (.int .i64 0) ∧ Below w.heap.size w w' := by
 have hl := h.len
 have hn8 : 1 ≤ n ∧ n ≤ 8 := by rw [← hl]; exact hok.len
 obtain ⟨w5, hw5⟩ : ∃ w5, w.alloc (.cells #[.int .i64 num, .slice A n c] 101) = w5 := ⟨_, rfl⟩
 have hB5 : Bk w5 w.heap.size 101 [.int .i64 num, .slice A n c] := by rw [← hw5]; exact Bk.new w _ _
 have hb5 : Below w.heap.size w w5 := by rw [← hw5]; exact (Below.refl _ _).alloc (Nat.le_refl _) _
 obtain ⟨d0, d1⟩ := hB5.c2
 have h5 := h.next hb5
 have ho := order_yes A n c ts w5 h5 hok.tx hok.up
 obtain ⟨S, hS⟩ : ∃ S, 1 + (ts.map (·.n)).sum = S := ⟨_, rfl⟩
 have hS33 : S ≤ 33 := by have := hok.sum; omega
 have hbl := fun w' (hb : Below w5.heap.size w5 w') => bblocks_any num A n c S ts w' (h5.next hb) hok.sum hS
 have hnum := hok.num
 have t0 : decide (num < 1) = false := decide_eq_false (by omega)
 have t1 : decide (1099511627776 < num) = false := decide_eq_false (by omega)
 have t2 : ((n : Int) == 0) = false := by simp; omega
 have t3 : decide (8 < (n : Int)) = false := decide_eq_false (by omega)
 have t4 : decide (33 < (S : Int)) = false := decide_eq_false (by omega)
 have t2' : decide ((n : Int) = 0) = false := decide_eq_false (by omega)
 have hn0 : ¬ n = 0 := by omega
 have HX := Lib.hid (And.intro h5 (And.intro hok hl))
 have HB5 := Lib.hid (And.intro hB5 hb5)
 have HN := Lib.hid hn8
 clear h h5 hok hB5 hb5 hS hS33 hnum hn8 hl
 go_enter Tryz.func154, Tryz.ntmps154
 go_wp2_with fail
 refine ho.mono ?_
 rintro e w6 ⟨rfl, hb6⟩
 have hB6 := HB5.out.1.next hb6 HB5.out.1.lt
 have hbl6 := hbl w6 hb6
 have HB6 := Lib.hid (And.intro hb6 hB6)
 clear ho hbl hb6 d0 d1
 obtain ⟨d0, d1⟩ := hB6.c2
 clear hB6
 go_wp2_with fail
 refine hbl6.mono ?_
 rintro e w7 ⟨rfl, hb7⟩
 have HB7 := Lib.hid (And.intro (HB6.out.1.trans (hb7.mono HB6.out.1.size)) (HB6.out.2.next hb7 HB6.out.2.lt))
 clear hbl6 hb7 d0 d1
 have hB7 := HB7.out.2
 obtain ⟨d0, d1⟩ := hB7.c2
 clear hB7
 go_wp2_with fail
 have h7 := HX.out.1.next HB7.out.1
 obtain ⟨adx, hA, _⟩ := h7.rd (by rw [flat_len tx_two, HX.out.2.2]; have := HN.out; omega)
 subst hA
 have HE7 := Lib.hid (HB5.out.2.trans (HB7.out.1.mono HB5.out.2.size))
 clear t0 t1 t2 t3 t4 t2' hn0 d0 d1
 refine ck_loop w7 w7 w.heap.size n c num adx ts _ _ _ _ _ _ _ _ _ _ _ _ _ _ _ _ _ _ _ _ _ _ _ _ _ _ _ _ _ _ _ _ _ _ _ _ _ _ _ _ _ _ _ _ _ _ _ _ _ _ _ _ _ _ _ _ _ _ _ _ _ _ _ _ _ _ _ _ (fun _ _ d _ _ h => by cases d <;> exact h) h7 HX.out.2.1 HB7.out.2 ⟨0, Nat.zero_le _, rfl, Below.refl _ _⟩ ?_
 intro u2 u3 u4 u39 u40 u41 u42 u43 u44 u45 u46 u47 u48 u49 u50 u51 u52 u53 u54 u55 u56 u57 u58 u59 u60 u61 u62 u63 u64 u65 u66 u67 u68 u69 u70 wr hW
 have HW := Lib.hid (HE7.out.trans (hW.mono HE7.out.size))
 clear hW
 go_wp2_with fail
 go_ret
 exact ⟨rfl, HW.out⟩
end
section
open Go.RowKit Go.Maps
theorem PutsOf.ag {w w' : World} {F : Foot} {B : Nat} {v : Value} {ks : List Int} {ps : List PutD} (h : PutsOf w B v ks ps) (k : Ag F w w') (hF : ∀ g, v.ownBlock = some g → F g) : PutsOf w' B v ks ps :=
 ⟨own_ag h.own k hF, h.lba, h.n40, fun p hp => (h.y p hp).ag k, h.new⟩
structure WaitL (w wr : World) (m : MS) (pv : Value) (ts : List TxD) (k : Nat) : Prop where
 own : wr.ownsRow w.heap.size 182 2 pv k (ts.flatMap TxD.cells)
 y : ∀ x ∈ ts, x.n = x.ps.length ∧ PutsOf wr w.heap.size (.slice x.A x.n x.c) (x.ps.map PutD.lba) x.ps
 at_ : ∀ (j i : Nat) (t : TX) (x : TxD), m.queue[j]? = some i → m.txs[i]? = some t → ts[j]? = some x → x.time = (t.time : Int) ∧ x.ps.map PutD.lba = t.keys
 len : ts.length = k
theorem WaitL.next {w wr w9 : World} {m : MS} {pv : Value} {ts : List TxD} {k : Nat} (h : WaitL w wr m pv ts k) (hb : Below wr.heap.size wr w9) : WaitL w w9 m pv ts k :=
 ⟨own_bel' h.own hb, fun x hx => ⟨(h.y x hx).1, (h.y x hx).2.next hb⟩, h.at_, h.len⟩
theorem WaitL.push {w wr w9 w10 : World} {m : MS} {pv pv' : Value} {ts : List TxD} {k i : Nat} {t : TX} (h : WaitL w wr m pv ts k) (hb : Below wr.heap.size wr w9) (hw : w.heap.size ≤ wr.heap.size) (hq : m.queue[k]? = some i) (ht : m.txs[i]? = some t) {ps : List PutD} {A : Option Addr} {c : Nat} (hp : PutsOf w9 wr.heap.size (.slice A t.keys.length c) t.keys ps)
  (ho : w10.ownsRow w.heap.size 182 2 pv' (k + 1) (ts.flatMap TxD.cells ++ [.int .i64 (t.time : Int), .slice A t.keys.length c])) (hg : w9.grownBy w10 pv.ownBlock) : WaitL w w10 m pv' (ts ++ [⟨(t.time : Int), A, t.keys.length, c, ps⟩]) (k + 1) := by
 have h9 := h.next hb
 have ag : Ag (fun b => pv.ownBlock ≠ some b) w9 w10 := Ag.grown h9.own (by decide) hg (fun g e q => q e)
 have keep : ∀ {B : Nat} {v : Value} {ks : List Int} {qs : List PutD}, PutsOf w9 B v ks qs → PutsOf w10 B v ks qs := fun q => q.ag ag (fun g e => own_ne_own q.own h9.own (by decide) e)
 refine ⟨?_, fun x hx => ?_, fun j i' t' x hj ht' hx => ?_, by rw [List.length_append, h.len]; rfl⟩
 · rw [List.flatMap_append]; simpa [TxD.cells] using ho
 · rcases List.mem_append.1 hx with s | s
   · exact ⟨(h9.y x s).1, keep (h9.y x s).2⟩
   · obtain rfl : x = _ := by simpa using s
     refine ⟨hp.len.symm, ?_⟩
     show PutsOf w10 w.heap.size (.slice A t.keys.length c) (ps.map PutD.lba) ps
     rw [hp.lba]
     exact keep (hp.base hw)
 · rcases get_app hx with s | ⟨s, rfl⟩
   · exact h.at_ j i' t' x hj ht' s
   · rw [h.len] at s
     subst s
     rw [hq] at hj; injection hj with hj; subst hj
     rw [ht] at ht'; injection ht' with ht'; subst ht'
     exact ⟨rfl, hp.lba⟩
theorem WaitL.wait {w wr : World} {m : MS} {pv : Value} {ts : List TxD} (h : WaitL w wr m pv ts m.queue.length) : WaitX w.heap.size m ts :=
 ⟨h.len, fun j i t x hj ht hx => by
  obtain ⟨a, b⟩ := h.at_ j i t x hj ht hx
  have hm := List.mem_of_getElem? hx
  have hy := h.y x hm
  exact ⟨a, b, by rw [hy.1, ← b, List.length_map], hy.2.n40⟩, fun x hx ad q => own_at_ge (h.y x hx).2.own (by rw [q]; rfl)⟩
theorem WaitL.ps {w wr : World} {m : MS} {pv : Value} {ts : List TxD} {k : Nat} (h : WaitL w wr m pv ts k) : ∀ x ∈ ts, IsPs wr x.A x.n x.c x.ps := fun x hx => by
 have hy := h.y x hx
 obtain ⟨A, c, e, q⟩ := hy.2.is
 injection e with e1 e2 e3
 rw [e1, e2, e3]
 exact q
end
section
open Go.RowKit Go.Maps
theorem infoTx0 : (Tryz.prog.info? 182).map (fun i => (i.size, i.bytes, i.zero.map (·.cells.size))) = some (2, 32, some 2) := by kernel_rfl
theorem infoTx : ∃ i z, Tryz.prog.info? 182 = some i ∧ i.zero = some z ∧ i.size = 2 ∧ i.bytes = 32 ∧ z.cells.size = 2 := by
 have h := infoTx0
 cases hi : Tryz.prog.info? 182 with
 | none => rw [hi] at h; cases h
 | some i =>
   rw [hi] at h
   simp at h
   obtain ⟨h1, h2, z, hz, h3⟩ := h
   exact ⟨i, z, rfl, hz, h1, h2, h3⟩
theorem waiting_any (F : Foot) (Ft : Nat → Foot) (mb gm kb am : Nat) (qv : Value) (out : Nat) (m : MS) (es : List TE) (N R : Nat) (w : World) (h : ManX w F Ft mb gm kb am qv out m es N R) (hq : ∀ i ∈ m.queue, ∃ t, m.txs[i]? = some t) (hl : es.length ≤ 100000) (hql : m.queue.length ≤ 100000) :
  Calls Tryz.prog 89 #[.pointer (some ⟨mb, 0, none⟩)] w fun e w' => (∃ v ts, e = .returned v ∧ WaitL w w' m v ts m.queue.length) ∧ Below w.heap.size w w' := by
 obtain ⟨xi, xz, hxi, hxz, hx5, hx56, hxc⟩ := infoTx
 obtain ⟨_, _, c2, c3, _⟩ := mcells_at h.bx
 obtain ⟨qA, qc, hqv⟩ := own_shape h.own
 have hown := h.own
 rw [hqv] at c3 hown
 have hrd := rd_of_own hown
 obtain ⟨n, hn⟩ : ∃ n, m.queue.length = n := ⟨_, rfl⟩
 have HX := Lib.hid h
 have HQ := Lib.hid (And.intro hq (And.intro hl (And.intro hn hrd)))
 rw [hn] at c3 hql ⊢
 clear h hq hown hrd hqv hn hl
 go_enter Tryz.func89, Tryz.ntmps89
 go_wp2_with fail
 go_loopw [2, 11] (fun pv iv wr => ∃ k ts, k ≤ n ∧ iv = .int .i64 (k : Int) ∧ Below w.heap.size w wr ∧ Hid (WaitL w wr m pv ts k)) (fun _ iv _ => n - (intOf iv).toNat)
 case atStart => exact ⟨0, [], Nat.zero_le _, rfl, Below.refl _ _, ⟨rfl, .inl ⟨rfl, rfl⟩⟩, by simp, (fun j i t x _ _ q => by simp at q), rfl⟩
 case round =>
  obtain ⟨k, ts, hk, rfl, hW, HWL⟩ := hrel
  clear c2 c3
  by_cases hlt : k < n
  · obtain ⟨i, hi⟩ : ∃ i, m.queue[k]? = some i := ⟨_, List.getElem?_eq_getElem (by have := HQ.out.2.2.1; omega)⟩
    obtain ⟨t, ht⟩ := HQ.out.1 i (List.mem_of_getElem? hi)
    have hW0 := HX.out.next hW
    obtain ⟨x, hx⟩ : ∃ x, es[i]? = some x := ⟨_, List.getElem?_eq_getElem (by rw [HX.out.len]; exact get_lt ht)⟩
    have hil : i ≤ 1000000 := by have := get_lt hx; have := HQ.out.2.1; omega
    obtain ⟨qad, rfl, hqb, hqc⟩ := HQ.out.2.2.2.next (Nat.le_refl _) hW (by rw [List.length_map]; have := HQ.out.2.2.1; omega)
    have e0 : wr.cell? (qad.add k) = some (.int .i64 ((i : Int) + 1)) := hqc k _ (by rw [List.getElem?_map, hi]; rfl)
    obtain ⟨_, _, c2, _⟩ := mcells_at hW0.bx
    have hlk := (hW0.look_ok hx hil).2
    obtain ⟨code, hb⟩ := (hW0.tx i t x ht hx).bx
    have HI := Lib.hid (And.intro hi (And.intro ht hx))
    have KK := Lib.hid (fun (w' : World) (hS : Below w.heap.size w w') => And.intro (tcells_at ((HX.out.next hS).tx i t x ht hx).bx.choose_spec).2.1 (tcells_at ((HX.out.next hS).tx i t x ht hx).bx.choose_spec).2.2.2.2.1)
    have n1 : (k : Int) < (n : Int) := by omega
    have n2 : (0 : Int) ≤ (k : Int) := by omega
    have HW := Lib.hid hW
    have HK := Lib.hid (And.intro hlt hql)
    clear hW0 hb hqc hqb hi ht hx hW
    have m2 : wrap64 ((k : Int) + 1) = (k : Int) + 1 := by have := HK.out; unfold wrap64; omega
    obtain ⟨pA, pc, rfl⟩ := own_shape HWL.out.own
    go_wp2_with fail
    have Kq := KK
    refine wp_region_held_drew (S := fun w' => Below w.heap.size w w') (by kernel_rfl) (bdrew HW.out) (fun hHeld => ?_)
    refine kF 0 ?_; refine kF 1 ?_; refine kF 2 ?_; refine kF 3 ?_; refine kF 4 ?_; refine kF 5 ?_; refine kF 6 ?_; refine kF 7 ?_; refine kF 8 ?_
    refine rF 9 (fun K hK => ?_)
    go_simp
    have hWd := HX.out.next (bdrew HW.out)
    refine (puts_any _ x.bb wr.heap.size t.keys _ (hWd.tx i t x HI.out.2.1 HI.out.2.2).buf (Nat.le_refl _)).mono ?_
    rintro e w8 ⟨⟨v8, rfl, ps, hps⟩, hb8⟩
    obtain ⟨yA, yc, rfl⟩ := own_shape hps.own
    have hb08 : Below wr.heap.size wr w8 := (bdrew (Below.refl _ _)).trans hb8
    have hS8 : Below w.heap.size w w8 := HW.out.trans (hb08.mono HW.out.size)
    have HP8 := Lib.hid (And.intro hps (And.intro hb08 hS8))
    clear hWd hps hb8 hb08
    go_simp
    refine hK.out _ _ (hS8) (fun hHeld2 => ?_)
    clear hK K hHeld
    have hHeld := hHeld2
    clear hHeld2
    try simp only [Act.put, List.setIfInBounds_toArray, List.set_cons_zero, List.set_cons_succ]
    refine kF 10 ?_
    refine rF 11 (fun K hK => ?_)
    go_simp
    refine hK.out _ _ (HP8.out.2.2.alloc HP8.out.2.2.size (.cells #[.int .i64 (t.time : Int), .slice yA t.keys.length yc] 182)) (fun hHeld2 => ?_)
    clear hK K hHeld
    have hHeld := hHeld2
    clear hHeld2
    try simp only [Act.put, List.setIfInBounds_toArray, List.set_cons_zero, List.set_cons_succ]
    refine rF 12 (fun K hK => ?_)
    obtain ⟨w9, hw9⟩ : ∃ w9, w8.alloc (.cells #[.int .i64 (t.time : Int), .slice yA t.keys.length yc] 182) = w9 := ⟨_, rfl⟩
    have hk9 : Bk w9 w8.heap.size 182 [.int .i64 (t.time : Int), .slice yA t.keys.length yc] := by rw [← hw9]; exact Bk.new w8 _ _
    have hb89 : Below w8.heap.size w8 w9 := by rw [← hw9]; exact (Below.refl w8.heap.size w8).alloc (Nat.le_refl _) _
    have hb9 := HP8.out.2.1.trans (hb89.mono HP8.out.2.1.size)
    have h9 := HWL.out.next hb9
    try rw [hw9]
    refine if_wanted rfl (wp_appM w9 _ _ 99 rfl w.heap.size 182 xi xz 2 32 Tryz.underlying99 hxi hxz hx5 hx56 hxc (by omega) (.slice pA k pc) k (ts.flatMap TxD.cells) (by rfl) h9.own w9.heap.size (some ⟨w8.heap.size, 0, none⟩) 1 1 [.int .i64 (t.time : Int), .slice yA t.keys.length yc] (by rfl) rfl hk9.rd (by intro u hu; simp at hu; rcases hu with rfl | rfl <;> rfl) (by have := HK.out; omega) (by have := HK.out; omega) (HW.out.trans (hb9.mono HW.out.size)).size ?_)
    intro v10 w10 hO10 hG10 hv10
    have hS10 : Below w.heap.size w w10 := (HW.out.trans (hb9.mono HW.out.size)).grown hG10 (HW.out.trans (hb9.mono HW.out.size)).size (fun g e => own_at_ge h9.own e)
    have HE := Lib.hid (And.intro (HWL.out.push hb9 HW.out.size HI.out.1 HI.out.2.1 (HP8.out.1.next hb89) hO10 hG10) hS10)
    clear hO10 hG10 hv10 h9 hb9 hb89 hk9
    refine hK.out _ _ (hS10) (fun hHeld2 => ?_)
    clear hK K hHeld
    have hHeld := hHeld2
    clear hHeld2
    try simp only [Act.put, List.setIfInBounds_toArray, List.set_cons_zero, List.set_cons_succ]
    refine kF 13 ?_
    refine wpAnyH_done (by kernel_rfl) ?_ _
    clear Kq
    clear e0 c2 hlk n1 n2 hS8 hS10
    go_wp2_with fail
    go_roundw
    case rel => exact ⟨k + 1, _, HK.out.1, int_succ (by first | rfl | exact m2), HE.out.2, HE.out.1⟩
    case measure => exact sub_lt1 HK.out.1 (by first | rfl | exact m2)
  · obtain rfl : k = n := by omega
    have n1 : ¬ (k : Int) < (k : Int) := by omega
    obtain ⟨oA, oc, rfl⟩ := own_shape HWL.out.own
    go_wp2_with fail
    go_ret
    exact ⟨⟨_, rfl, ts, HWL.out⟩, hW⟩
end
section
open Go.RowKit Go.Maps
theorem may_tx (F : Foot) (Ft : Nat → Foot) (mb gm kb am : Nat) (qv : Value) (out : Nat) (m : MS) (es : List TE) (N R i : Nat) (t : TX) (x : TE) (w : World) (h : ManX w F Ft mb gm kb am qv out m es N R) (ht : m.txs[i]? = some t) (hx : es[i]? = some x) (hq : ∀ i ∈ m.queue, ∃ t, m.txs[i]? = some t) (hl : es.length ≤ 100000) (hql : m.queue.length ≤ 100000) (hg : m.given ≤ 1000) :
  Calls Tryz.prog 276 #[.pointer (some ⟨mb, 0, none⟩), .pointer (some ⟨x.tb, 0, none⟩)] w fun e w' => (∃ r : Int, e = .returned (.int .i64 r) ∧ (m.read = false → m.queue = [] → m.last = 0 → r = 0)) ∧ Below w.heap.size w w' := by
 obtain ⟨c0, _, _, _, _, _, _, _, c8, c9⟩ := mcells_at h.bx
 obtain ⟨code, hb⟩ := (h.tx i t x ht hx).bx
 have HX := Lib.hid h
 have HI := Lib.hid (And.intro ht (And.intro hx (And.intro hq (And.intro hl (And.intro hql hg)))))
 cases hr : m.read with
 | true =>
   rw [hr] at c9
   go_enter Tryz.func276, Tryz.ntmps276
   go_wp2_with fail
   go_ret
   exact ⟨⟨_, rfl, fun q => by cases q⟩, Below.refl _ _⟩
 | false =>
   rw [hr] at c9
   go_enter Tryz.func276, Tryz.ntmps276
   have HK := Lib.hid (show t.keys.length ≤ 16 from (h.tx i t x ht hx).buf.ok.2.1)
   have KK := Lib.hid (fun (w' : World) (hS : Below w.heap.size w w') => And.intro (mcells_at (HX.out.next hS).bx).1 (And.intro (tcells_at ((HX.out.next hS).tx i t x ht hx).bx.choose_spec).2.2.2.1 (And.intro (tcells_at ((HX.out.next hS).tx i t x ht hx).bx.choose_spec).2.2.2.2.1 (tcells_at ((HX.out.next hS).tx i t x ht hx).bx.choose_spec).2.2.2.2.2)))
   clear h hb ht hx hq hl hql hg hr
   go_wp2_with fail
   have Kq := KK
   refine wp_region_held_drew (S := fun w' => Below w.heap.size w w') (by kernel_rfl) (bdrew (Below.refl _ _)) (fun hHeld => ?_)
   refine kF 0 ?_; refine kF 1 ?_; refine kF 2 ?_; refine kF 3 ?_; refine kF 4 ?_; refine kF 6 ?_; refine kF 7 ?_; refine kF 8 ?_; refine kF 9 ?_; refine kF 10 ?_; refine kF 11 ?_; refine kF 12 ?_
   refine kF 13 ?_; refine kF 15 ?_; refine kF 16 ?_; refine kF 17 ?_; refine kF 18 ?_
   refine rF 5 (fun K hK => ?_)
   go_simp
   have hWd := HX.out.next hHeld
   refine (waiting_any F Ft mb gm kb am qv out m es N R _ hWd HI.out.2.2.1 HI.out.2.2.2.1 HI.out.2.2.2.2.1).mono ?_
   rintro e w1 ⟨⟨v1, ts, rfl, hwl⟩, hb1⟩
   obtain ⟨qA, qc, rfl⟩ := own_shape hwl.own
   have hS1 : Below w.heap.size w w1 := hHeld.trans (hb1.mono hHeld.size)
   have HT := Lib.hid (And.intro (show IsTs w1 qA m.queue.length qc ts from ⟨hwl.len, rd_of_own hwl.own, hwl.ps, (own_caps hwl.own).1, (own_caps hwl.own).2⟩) hS1)
   clear hWd hwl hb1
   go_simp
   refine hK.out _ _ (hS1) (fun hHeld2 => ?_)
   clear hK K hHeld
   have hHeld := hHeld2
   clear hHeld2
   try simp only [Act.put, List.setIfInBounds_toArray, List.set_cons_zero, List.set_cons_succ]
   refine rF 14 (fun K hK => ?_)
   go_simp
   refine (viewset_any _ x.vb gm x.bb R (t.at' : Int) _ ((HX.out.next hHeld).tx i t x HI.out.1 HI.out.2.1).view).mono ?_
   rintro e w2 ⟨⟨g1, rfl, F1, hs1, _⟩, hb2⟩
   have hS2 : Below w.heap.size w w2 := hHeld.trans (hb2.mono hHeld.size)
   have HV := Lib.hid (And.intro (HT.out.1.next hb2) (And.intro hs1 hS2))
   clear hs1 hb2
   go_simp
   refine hK.out _ _ (hS2) (fun hHeld2 => ?_)
   clear hK K hHeld
   have hHeld := hHeld2
   clear hHeld2
   try simp only [Act.put, List.setIfInBounds_toArray, List.set_cons_zero, List.set_cons_succ]
   refine rF 19 (fun K hK => ?_)
   go_simp
   refine (bufset_any _ x.bb t.keys _ ((HX.out.next hHeld).tx i t x HI.out.1 HI.out.2.1).buf).mono ?_
   rintro e w3 ⟨⟨g2, rfl, F2, hs2, _⟩, hb3⟩
   have hS3 : Below w.heap.size w w3 := hHeld.trans (hb3.mono hHeld.size)
   have HB := Lib.hid (And.intro (HV.out.1.next hb3) (And.intro (HV.out.2.1.ag (F := F1) (.of_below hb3)) (And.intro hs2 hS3)))
   clear hs2 hb3
   go_simp
   refine hK.out _ _ (hS3) (fun hHeld2 => ?_)
   clear hK K hHeld
   have hHeld := hHeld2
   clear hHeld2
   try simp only [Act.put, List.setIfInBounds_toArray, List.set_cons_zero, List.set_cons_succ]
   refine rF 20 (fun K hK => ?_)
   go_simp
   obtain ⟨el, ⟨bm, s, f, hext, hem⟩, hle⟩ := (HX.out.next hHeld).ext
   refine (vcheck_any _ F1 F2 gm bm s N m.queue.length qc g1 g2 64 t.keys.length el (t.at' : Int) f qA ts _ hext HB.out.1 HB.out.2.1 HB.out.2.2.1 (by omega) (Nat.le_trans HK.out (by omega))).mono ?_
   rintro e w4 ⟨⟨r, rfl, hr4⟩, hb4⟩
   have hS4 : Below w.heap.size w w4 := hHeld.trans (hb4.mono hHeld.size)
   have HC := Lib.hid (And.intro (fun (q1 : m.queue = []) (q2 : m.last = 0) => hr4 (by rw [q1]; rfl) (hem (hle q2))) hS4)
   clear hext hem hle hr4 hb4
   go_simp
   refine hK.out _ _ (hS4) (fun hHeld2 => ?_)
   clear hK K hHeld
   have hHeld := hHeld2
   clear hHeld2
   try simp only [Act.put, List.setIfInBounds_toArray, List.set_cons_zero, List.set_cons_succ]
   refine kF 21 ?_
   refine wpAnyH_done (by kernel_rfl) ?_ _
   clear Kq
   have c8' := (mcells_at (HX.out.next HC.out.2).bx).2.2.2.2.2.2.2.2.1
   clear c0 c8 c9
   have hgv : ¬ (1099511627776 : Int) ≤ (m.given : Int) := by have := HI.out.2.2.2.2.2; omega
   have hgd : decide ((1099511627776 : Int) ≤ (m.given : Int)) = false := decide_eq_false hgv
   by_cases h0 : r = 0
   · subst h0
     go_wp2_with fail
     go_ret
     exact ⟨⟨_, rfl, fun _ _ => rfl⟩, HC.out.2⟩
   · have n1 : (r == 0) = false := by simpa using h0
     have n2 : (r != 0) = true := by simpa using h0
     go_wp2_with fail
     go_ret
     exact ⟨⟨_, rfl, fun q1 q2 => HC.out.1 q1 q2⟩, HC.out.2⟩
end
section
open Go.RowKit Go.Maps
theorem bk_but' {w w' : World} {o : Option Nat} {g t : Nat} {cs : List Value} (h : Bk w g t cs) (hG : w.grownBy w' o) (ha : o ≠ some g) : Bk w' g t cs := (hG.block g h.lt (fun r => ha r.symm)).trans h
theorem MS.put_put (m : MS) (i : Nat) (a b : TX) : (m.put i a).put i b = m.put i b := by unfold MS.put; simp
theorem MS.put_at {m : MS} {i : Nat} {t : TX} (h : m.txs[i]? = some t) (u : TX) : (m.put i u).txs[i]? = some u := by
 show (m.txs.set i u)[i]? = _
 rw [List.getElem?_set, if_pos rfl, if_pos (get_lt h)]
section
variable {w w' w5 w6 : World} {F : Foot} {Ft : Nat → Foot} {mb gm kb am : Nat} {qv qv' : Value} {out : Nat} {m : MS} {es : List TE} {N R : Nat}
theorem ManX.qpush (h : ManX w F Ft mb gm kb am qv out m es N R) {i : Nat} (hb : Below w.heap.size w w5) (ho : w6.ownsRow 0 3 1 qv' (m.queue.length + 1) (m.queue.map qcell ++ [qcell i])) (hg : w5.grownBy w6 qv.ownBlock) (hv : qv'.ownBlock = qv.ownBlock ∨ qv'.ownBlock = some w5.heap.size) (e : w' = w6.setCell ⟨mb, 3, none⟩ qv') :
  ∃ F' Ft', ManX w' F' Ft' mb gm kb am qv' out { m with queue := m.queue ++ [i] } es N R ∧ Kf F w w' ∧ Sb w F F' ∧ In w' F' := by
 have h5 := h.next hb
 have k56 : Kf (fun b => qv.ownBlock = some b) w5 w6 := (Kf.refl _ w5).grown h5.own hg (fun g q => .inl ⟨q, by decide⟩)
 have b6 : Bk w6 mb 172 (mcells gm kb am qv out m) := Bk.ag (F := fun b => b = mb) h5.bx (k56.ag (fun b q s => by have q : b = mb := q; subst q; exact h5.q_ne.1 s)) rfl
 have k6 : Kf (fun b => b = mb) w6 w' := by rw [e]; exact (Kf.refl (fun b => b = mb) w6).set b6 (by decide) (.inl rfl) 3 qv'
 have b' : Bk w' mb 172 (mcells gm kb am qv' out { m with queue := m.queue ++ [i] }) := by rw [e]; exact b6.set 3 qv'
 have k5 : Kf (Ft 0) w5 w' := (k56.mono h5.f2).trans (G := Ft 0) (k6.mono (fun b q => by have q : b = mb := q; rw [q]; exact h5.f0)) (fun b q => .inl q)
 have hnew : ∀ b, qv'.ownBlock = some b → Ft 0 b ∨ w5.heap.size ≤ b := fun b q => by
  rcases hv with s | s
  · exact .inl (h5.f2 b (s.symm.trans q))
  · rw [s] at q; injection q with q; exact .inr (by omega)
 have hin : In w' (orF (Ft 0) (fun b => qv'.ownBlock = some b)) := fun b q => by
  rcases q with q | q
  · exact Nat.lt_of_lt_of_le (h5.fam.inn 0 b q) k5.size
  · obtain ⟨_, _, hh⟩ := own_at ho q
    exact Nat.lt_of_lt_of_le (lt_of hh) k6.size
 have hall : IM w' Tryz.prog 3 am es.length (allF es) := (h5.all.ag (F := fun b => b = am) (k56.ag (fun b q s => by have q : b = am := q; subst q; exact h5.q_ne.2 s)) rfl).ag (F := fun b => b = am) (k6.ag (fun b q s => by have q : b = am := q; have s : b = mb := s; exact h5.am_ne (s.symm.trans q))) rfl
 have ho' : w'.ownsRow 0 3 1 qv' (m.queue ++ [i]).length ((m.queue ++ [i]).map qcell) := by
  have := own_ag (F := fun b => b ≠ mb) ho (k6.ag (fun b q s => q s)) (fun g q s => own_ne_bk ho b6 (by decide) (s ▸ q))
  rw [List.length_append, List.map_append]; exact this
 obtain ⟨g1, g2, g3, g4⟩ := h5.row k5 (Sb.or (fun b q => hnew b q)) hin (fun b q => .inl q) hall { m with queue := m.queue ++ [i] } out b' ho' (fun b q => .inr q) rfl id
 exact ⟨_, _, g1, (Kf.of_below (F := F) hb).trans (G := F) g2 (fun b q => .inl q), fun b q => (g3 b q).imp id (fun r => Nat.le_trans hb.size r), g4⟩
theorem ManX.taken (h : ManX w F Ft mb gm kb am qv out m es N R) {N' : Nat} {el : Int} {G : Foot} (k : Kf (Ft 1) w w5) (hG : Sb w (Ft 1) G) (hi : In w5 G) (he : ExtP w5 G gm N' el) {T : Nat} (hT : 0 < T) (e : w' = w5.setCell ⟨mb, 7, none⟩ (.int .i64 (T : Int))) :
  ∃ F' Ft', ManX w' F' Ft' mb gm kb am qv out { m with last := T } es N' R ∧ Kf F w w' ∧ Sb w F F' ∧ In w' F' := by
 have b5 : Bk w5 mb 172 (mcells gm kb am qv out m) := Bk.ag h.bx (h.fam.ag k (by decide : (0 : Nat) ≠ 1)) h.f0
 have k6 : Kf (fun b => b = mb) w5 w' := by rw [e]; exact (Kf.refl (fun b => b = mb) w5).set b5 (by decide) (.inl rfl) 7 _
 have b' : Bk w' mb 172 (mcells gm kb am qv out { m with last := T }) := by rw [e]; exact b5.set 7 (.int .i64 (T : Int))
 have hf5 := h.fam.step k.size hG hi
 have pe : ∀ j, j ≠ 1 → putF Ft 1 G j = Ft j := fun j hn => putF_other Ft G hn
 have k6' : Kf (putF Ft 1 G 0) w5 w' := k6.mono (fun b q => by have q : b = mb := q; rw [q, pe 0 (by decide)]; exact h.f0)
 have a : ∀ j, j ≠ 1 → Ag (Ft j) w w5 := fun j hn => h.fam.ag k hn
 have a6 : ∀ j, j ≠ 0 → Ag (putF Ft 1 G j) w5 w' := fun j hn => hf5.ag k6' hn
 have kk : Kf F w w' := (h.fam.kf k).trans (G := F) (k6.mono (fun b q => by have q : b = mb := q; rw [q]; exact h.inF)) (fun b q => .inl q)
 have hf := hf5.next k6.size
 obtain ⟨s, hs⟩ := h.book
 refine ⟨orF F G, putF Ft 1 G, ⟨hf, fun j hj b => by rw [pe j (by omega)]; exact h.rest j hj b, b', ⟨el, by rw [putF_same]; have := a6 1 (by decide); rw [putF_same] at this; exact he.ag this, fun q => absurd q (Nat.pos_iff_ne_zero.1 hT)⟩, ⟨s, by rw [pe 2 (by decide)]; have := a6 2 (by decide); rw [pe 2 (by decide)] at this; exact (hs.ag (a 2 (by decide))).ag this⟩, (h.all.ag (a 0 (by decide)) h.f1).ag (F := fun b => b = am) (k6.ag (fun b q s => by have q : b = am := q; have s : b = mb := s; exact h.am_ne (s.symm.trans q))) rfl, own_ag (F := fun b => b ≠ mb) (own_ag h.own (a 0 (by decide)) h.f2) (k6.ag (fun b q s => q s)) (fun g q s => h.q_ne.1 (s ▸ q)), fun i t x q r => ?_, h.len, by rw [pe 0 (by decide)]; exact h.f0, by rw [pe 0 (by decide)]; exact h.f1, fun b q => by rw [pe 0 (by decide)]; exact h.f2 b q⟩, kk, h.fam.sb hG, hf.lt⟩
 have hy := (h.tx i t x q r).ag (w' := w5) (a _ (by omega)) (a _ (by omega)) (a _ (by omega))
 have hz : ∀ j, j ≠ 0 → j ≠ 1 → Ag (Ft j) w5 w' := fun j h0 h1 => by have := a6 j h0; rw [pe j h1] at this; exact this
 have hy := hy.ag (w' := w') (hz _ (by omega) (by omega)) (hz _ (by omega) (by omega)) (hz _ (by omega) (by omega))
 exact ⟨hy.bx, by rw [pe _ (by omega)]; exact hy.buf, by rw [pe _ (by omega)]; exact hy.view, by rw [pe _ (by omega)]; exact hy.f⟩
end
def cmR (m : MS) (i : Nat) (t : TX) (r : Int) (m' : MS) : Prop :=
 (t.st ≠ 1 ∧ r = 5 ∧ m' = m) ∨ (t.st = 1 ∧ ((t.keys = [] ∧ r = 0 ∧ m' = m.put i { t with st := 3, time := t.at' }) ∨ (t.keys ≠ [] ∧ ((r ≠ 0 ∧ ¬ (m.read = false ∧ m.queue = [] ∧ m.last = 0) ∧ m' = m.put i { t with st := 4, time := 0 }) ∨ (r = 0 ∧ m' = m.pend i t)))))
def cmPost (w : World) (F : Foot) (mb gm kb am out : Nat) (m : MS) (es : List TE) (N R i : Nat) (t : TX) (e : Ending) (w' : World) : Prop :=
 ∃ r : Int, e = .returned (.int .i64 r) ∧ ∃ F' Ft' qv' m', ManX w' F' Ft' mb gm kb am qv' out m' es N R ∧ Kf F w w' ∧ Sb w F F' ∧ In w' F' ∧ cmR m i t r m'
theorem pops_succ (ok : Bool) : ∀ (n : Nat) (m : MS), m.pops ok (n + 1) = (m.pops ok n).pop ok
 | 0, m => rfl
 | n + 1, m => pops_succ ok n (m.pop ok)
end
section
open Go.RowKit Go.Maps
structure Man (w : World) (F : Foot) (mb : Nat) (m : MS) (g : Nat) : Prop where
 x : ∃ Ft gm kb am qv es, ManX w F Ft mb gm kb am qv 0 m es (128 * g) (16 * g)
 good : GoodM m
 giv : m.given ≤ g
 num : m.num ≤ g
 txs : m.txs.length ≤ g
 big : g ≤ 700
section
variable {w w' : World} {F F' : Foot} {mb g : Nat} {m m' : MS}
theorem Man.ag (h : Man w F mb m g) (k : Ag F w w') : Man w' F mb m g := by
 obtain ⟨Ft, gm, kb, am, qv, es, hx⟩ := h.x
 exact ⟨⟨Ft, gm, kb, am, qv, es, hx.ag k⟩, h.good, h.giv, h.num, h.txs, h.big⟩
theorem Man.next (h : Man w F mb m g) (k : Below w.heap.size w w') : Man w' F mb m g := h.ag (.of_below k)
theorem Man.inn (h : Man w F mb m g) : In w F := by
 obtain ⟨Ft, gm, kb, am, qv, es, hx⟩ := h.x
 exact hx.fam.lt
theorem Man.up (h : Man w F mb m g) (hg : g + 1 ≤ 700) : Man w F mb m (g + 1) := by
 obtain ⟨Ft, gm, kb, am, qv, es, hx⟩ := h.x
 exact ⟨⟨Ft, gm, kb, am, qv, es, hx.up (by omega) (by omega) (by omega) (by omega)⟩, h.good, Nat.le_succ_of_le h.giv, Nat.le_succ_of_le h.num, Nat.le_succ_of_le h.txs, hg⟩
structure ManR (w w' : World) (F : Foot) (mb : Nat) (m' : MS) (g : Nat) : Prop where
 p : ∃ F', Man w' F' mb m' (g + 1) ∧ Kf F w w' ∧ Sb w F F' ∧ In w' F'
theorem ManR.of_same (h : Man w F mb m g) (hg : g + 1 ≤ 700) (hb : Below w.heap.size w w') : ManR w w' F mb m g :=
 ⟨F, (h.up hg).next hb, .of_below hb, fun b q => .inl q, h.inn.next hb.size⟩
theorem ManR.of (h : Man w F mb m g) (hg : g + 1 ≤ 700) {Ft' : Nat → Foot} {gm kb am : Nat} {qv : Value} {es : List TE} {N R : Nat} (hx : ManX w' F' Ft' mb gm kb am qv 0 m' es N R) (hN : N ≤ 128 * (g + 1)) (hR : R ≤ 16 * (g + 1)) (k : Kf F w w') (hs : Sb w F F') (hi : In w' F') (hm : GoodM m') (h1 : m'.given ≤ g + 1) (h2 : m'.num ≤ g + 1) (h3 : m'.txs.length ≤ g + 1) : ManR w w' F mb m' g :=
 ⟨F', ⟨⟨Ft', gm, kb, am, qv, es, hx.up hN (by omega) hR (by omega)⟩, hm, h1, h2, h3, hg⟩, k, hs, hi⟩
end
def stcells (gd mb gs pos num : Nat) : List Value := [.pointer (some ⟨gd, 0, none⟩), .int .i64 0, .int .i64 3, .int .i64 6, .int .i64 7, .pointer (some ⟨mb, 0, none⟩), .pointer (some ⟨gs, 0, none⟩), .int .i64 (pos : Int), .int .i64 (num : Int), .bool false]
structure StoX (w : World) (F : Foot) (Ft : Nat → Foot) (sb gd mb gs pos num count : Nat) (ns : List Nat) (m : MS) (g : Nat) : Prop where
 fam : Fam w F Ft
 bx : Bk w sb 108 (stcells gd mb gs pos num)
 man : Man w (Ft 1) mb m g
 dev : Dev w (Ft 2) gd ns
 slo : ∃ inn v bs, SloX w gd gs inn v bs count
 f0 : Ft 0 sb
 f3 : Ft 3 gs
 z6 : ns[6]? = some (zc pos 0)
 z7 : ns[7]? = some (zc pos 1)
 pos : pos ≤ 192
 num : num ≤ g
 cnt : count ≤ g
def Sto (w : World) (F : Foot) (sb pos : Nat) (m : MS) (g : Nat) : Prop := ∃ Ft gd mb gs num count ns, StoX w F Ft sb gd mb gs pos num count ns m g
section
variable {w w' : World} {F : Foot} {Ft : Nat → Foot} {sb gd mb gs pos num count g : Nat} {ns : List Nat} {m m' : MS}
theorem StoX.ag (h : StoX w F Ft sb gd mb gs pos num count ns m g) (k : Ag F w w') : StoX w' F Ft sb gd mb gs pos num count ns m g := by
 have a : ∀ i, Ag (Ft i) w w' := fun i => k.mono (h.fam.sub i)
 obtain ⟨inn, v, bs, hs⟩ := h.slo
 exact ⟨h.fam.next k.size, Bk.ag h.bx (a 0) h.f0, h.man.ag (a 1), h.dev.ag (a 2), ⟨inn, v, bs, hs.ag (a 3) h.f3⟩, h.f0, h.f3, h.z6, h.z7, h.pos, h.num, h.cnt⟩
theorem StoX.next (h : StoX w F Ft sb gd mb gs pos num count ns m g) (k : Below w.heap.size w w') : StoX w' F Ft sb gd mb gs pos num count ns m g := h.ag (.of_below k)
theorem StoX.up (h : StoX w F Ft sb gd mb gs pos num count ns m g) (hg : g + 1 ≤ 700) : StoX w F Ft sb gd mb gs pos num count ns m (g + 1) :=
 ⟨h.fam, h.bx, h.man.up hg, h.dev, h.slo, h.f0, h.f3, h.z6, h.z7, h.pos, Nat.le_succ_of_le h.num, Nat.le_succ_of_le h.cnt⟩
theorem Sto.ag (h : Sto w F sb pos m g) (k : Ag F w w') : Sto w' F sb pos m g := by
 obtain ⟨Ft, gd, mb, gs, num, count, ns, h⟩ := h; exact ⟨Ft, gd, mb, gs, num, count, ns, h.ag k⟩
theorem Sto.up (h : Sto w F sb pos m g) (hg : g + 1 ≤ 700) : Sto w F sb pos m (g + 1) := by
 obtain ⟨Ft, gd, mb, gs, num, count, ns, h⟩ := h; exact ⟨Ft, gd, mb, gs, num, count, ns, h.up hg⟩
def StoR (w w' : World) (F : Foot) (sb pos : Nat) (m' : MS) (g : Nat) : Prop := ∃ F', Sto w' F' sb pos m' g ∧ Kf F w w' ∧ Sb w F F' ∧ In w' F'
theorem StoR.pre {w5 : World} (hb : Below w.heap.size w w5) (h : StoR w5 w' F sb pos m g) : StoR w w' F sb pos m g := by
 obtain ⟨F', h1, h2, h3, h4⟩ := h
 exact ⟨F', h1, (Kf.of_below (F := F) hb).trans h2 (fun b q => .inl q), fun b q => (h3 b q).imp id (Nat.le_trans hb.size), h4⟩
theorem StoX.same (h : StoX w F Ft sb gd mb gs pos num count ns m g) (hg : g + 1 ≤ 700) (hb : Below w.heap.size w w') : StoR w w' F sb pos m (g + 1) :=
 ⟨F, ⟨Ft, gd, mb, gs, num, count, ns, (h.up hg).next hb⟩, .of_below hb, fun b q => .inl q, h.fam.lt.next hb.size⟩
theorem StoX.mand (h : StoX w F Ft sb gd mb gs pos num count ns m g) (hr : ManR w w' (Ft 1) mb m' g) : ∃ F' Ft', StoX w' F' Ft' sb gd mb gs pos num count ns m' (g + 1) ∧ Kf F w w' ∧ Sb w F F' ∧ In w' F' := by
 obtain ⟨G, hm, k, hG, hi⟩ := hr.p
 have hf := h.fam.step k.size hG hi
 have a : ∀ j, j ≠ 1 → Ag (Ft j) w w' := fun j hn => h.fam.ag k hn
 have pe : ∀ j, j ≠ 1 → putF Ft 1 G j = Ft j := fun j hn => putF_other Ft G hn
 obtain ⟨inn, v, bs, hs⟩ := h.slo
 exact ⟨orF F G, putF Ft 1 G, ⟨hf, Bk.ag h.bx (a 0 (by decide)) h.f0, by rw [putF_same]; exact hm, by rw [pe 2 (by decide)]; exact h.dev.ag (a 2 (by decide)), ⟨inn, v, bs, hs.ag (a 3 (by decide)) h.f3⟩, by rw [pe 0 (by decide)]; exact h.f0, by rw [pe 3 (by decide)]; exact h.f3, h.z6, h.z7, h.pos, Nat.le_succ_of_le h.num, Nat.le_succ_of_le h.cnt⟩, h.fam.kf k, h.fam.sb hG, hf.lt⟩
theorem StoX.mandR (h : StoX w F Ft sb gd mb gs pos num count ns m g) (hr : ManR w w' (Ft 1) mb m' g) : StoR w w' F sb pos m' (g + 1) := by
 obtain ⟨F', Ft', h1, h2⟩ := h.mand hr
 exact ⟨F', ⟨Ft', gd, mb, gs, num, count, ns, h1⟩, h2⟩
theorem StoX.devd (h : StoX w F Ft sb gd mb gs pos num count ns m g) {G : Foot} {ns' : List Nat} {pos' num' count' : Nat} {w5 : World} (k : Kf (fun b => Ft 2 b ∨ b = gs) w w5) (hG : Sb w (Ft 2) G) (hi : In w5 G) (hd : Dev w5 G gd ns') (hs : ∃ inn v bs, SloX w5 gd gs inn v bs count') (k6 : Kf (fun b => b = sb) w5 w') (hb : Bk w' sb 108 (stcells gd mb gs pos' num')) (h6 : ns'[6]? = some (zc pos' 0)) (h7 : ns'[7]? = some (zc pos' 1)) (hp : pos' ≤ 192) (hn : num' ≤ g) (hc : count' ≤ g) :
  ∃ F' Ft', StoX w' F' Ft' sb gd mb gs pos' num' count' ns' m g ∧ Kf F w w' ∧ Sb w F F' ∧ In w' F' := by
 have d03 : sb ≠ gs := fun e => h.fam.dis 0 3 (by decide) sb h.f0 (e ▸ h.f3)
 have d2 : ∀ b, Ft 2 b → b ≠ gs ∧ b ≠ sb := fun b q => ⟨fun e => h.fam.dis 2 3 (by decide) b q (e ▸ h.f3), fun e => h.fam.dis 2 0 (by decide) b q (e ▸ h.f0)⟩
 have d1 : ∀ b, Ft 1 b → ¬ (Ft 2 b ∨ b = gs) ∧ b ≠ sb := fun b q => ⟨fun e => e.elim (fun r => h.fam.dis 1 2 (by decide) b q r) (fun e => h.fam.dis 1 3 (by decide) b q (e ▸ h.f3)), fun e => h.fam.dis 1 0 (by decide) b q (e ▸ h.f0)⟩
 have hlt : sb < w.heap.size := h.fam.inn 0 sb h.f0
 have hlg : gs < w.heap.size := h.fam.inn 3 gs h.f3
 have nG : ∀ b, G b → b ≠ sb ∧ b ≠ gs := fun b q => by
  rcases hG b q with r | r
  · exact ⟨(d2 b r).2, (d2 b r).1⟩
  · omega
 have hf := h.fam.step (Nat.le_trans k.size k6.size) hG (hi.next k6.size)
 have pe : ∀ j, j ≠ 2 → putF Ft 2 G j = Ft j := fun j hn => putF_other Ft G hn
 obtain ⟨inn, v, bs, hs⟩ := hs
 refine ⟨orF F G, putF Ft 2 G, ⟨hf, hb, ?_, ?_, ⟨inn, v, bs, hs.ag (F := fun b => b = gs) (k6.ag (fun b q r => d03 (r.symm.trans q))) rfl⟩, by rw [pe 0 (by decide)]; exact h.f0, by rw [pe 3 (by decide)]; exact h.f3, h6, h7, hp, hn, hc⟩, ?_, h.fam.sb hG, hf.lt⟩
 · rw [pe 1 (by decide)]
   exact (h.man.ag (k.ag (fun b q => (d1 b q).1))).ag (k6.ag (fun b q => (d1 b q).2))
 · rw [putF_same]; exact hd.ag (k6.ag (fun b q => (nG b q).1))
 · refine (k.mono (G := F) (fun b q => q.elim (h.fam.sub 2 b) (fun e => e ▸ h.fam.sub 3 _ h.f3))).trans (G := F) (k6.mono (fun b q => ?_)) (fun b q => .inl q)
   have q : b = sb := q
   rw [q]; exact h.fam.sub 0 _ h.f0
end
end
section
open Go.RowKit Go.Maps
section
variable {w : World} {F : Foot} {mb g : Nat} {m : MS}
theorem entry {Ft : Nat → Foot} {gm kb am : Nat} {qv : Value} {out : Nat} {es : List TE} {N R : Nat} (h : ManX w F Ft mb gm kb am qv out m es N R) {i : Nat} {t : TX} (ht : m.txs[i]? = some t) : ∃ x, es[i]? = some x :=
 ⟨_, List.getElem?_eq_getElem (by rw [h.len]; exact get_lt ht)⟩
theorem mLast (h : Man w F mb m g) : Calls Tryz.prog 101 #[.pointer (some ⟨mb, 0, none⟩)] w fun e w' => e = .returned (.int .i64 (m.last : Int)) ∧ w = w' := by
 obtain ⟨Ft, gm, kb, am, qv, es, hx⟩ := h.x
 exact mlast_any _ _ _ _ _ _ _ _ hx.bx
theorem mQueue (h : Man w F mb m g) : Calls Tryz.prog 195 #[.pointer (some ⟨mb, 0, none⟩)] w fun e w' => e = .returned (.int .i64 (m.queue.length : Int)) ∧ w = w' := by
 obtain ⟨Ft, gm, kb, am, qv, es, hx⟩ := h.x
 exact mqueue_any _ _ _ _ _ _ _ _ _ _ _ _ _ hx
theorem mOpen (h : Man w F mb m g) : Calls Tryz.prog 194 #[.pointer (some ⟨mb, 0, none⟩)] w fun e w' => (∃ k : Nat, e = .returned (.int .i64 (k : Int)) ∧ (m.txs = [] → k = 0)) ∧ Below w.heap.size w w' := by
 obtain ⟨Ft, gm, kb, am, qv, es, hx⟩ := h.x
 exact mopen_any _ _ _ _ _ _ _ _ _ _ _ _ _ hx
theorem mResult (h : Man w F mb m g) {i : Nat} {t : TX} (ht : m.txs[i]? = some t) : Calls Tryz.prog 230 #[.pointer (some ⟨mb, 0, none⟩), .int .i64 ((i : Int) + 1)] w fun e w' => (∃ code : Int, e = .returned (.tuple #[.int .i64 (t.st : Int), .int .i64 (t.time : Int), .int .i64 code])) ∧ Below w.heap.size w w' := by
 obtain ⟨Ft, gm, kb, am, qv, es, hx⟩ := h.x
 obtain ⟨x, he⟩ := entry hx ht
 exact mresult_any _ _ _ _ _ _ _ _ _ _ _ _ i t x w hx ht he (by have := get_lt ht; have := h.txs; have := h.big; omega)
theorem mReadOnly (h : Man w F mb m g) (hg : g + 1 ≤ 700) (yes : Bool) : Calls Tryz.prog 108 #[.pointer (some ⟨mb, 0, none⟩), .bool yes] w fun e w' => e = .returned (.tuple #[]) ∧ ManR w w' F mb { m with read := yes } g := by
 obtain ⟨Ft, gm, kb, am, qv, es, hx⟩ := h.x
 refine (mreadonly_any F Ft mb gm kb am qv 0 m es _ _ yes w hx).mono ?_
 rintro e w' ⟨rfl, h1, h2⟩
 exact ⟨rfl, ManR.of h hg h1 (by omega) (by omega) h2 (fun b q => .inl q) h1.fam.lt (h.good.readonly yes).1 (Nat.le_succ_of_le h.giv) (Nat.le_succ_of_le h.num) (Nat.le_succ_of_le h.txs)⟩
theorem ManR.put (h : Man w F mb m g) (hg : g + 1 ≤ 700) {w' : World} {Ft : Nat → Foot} {gm kb am : Nat} {qv : Value} {es : List TE} {i : Nat} {t t' : TX} (ht : m.txs[i]? = some t) (hx : ManX w' F Ft mb gm kb am qv 0 (m.put i t') es (128 * g) (16 * g)) (k : Kf F w w') (ho : t.st = 1) (ha : t'.at' = t.at') (hk : KeysOk t'.keys)
  (hs : t'.st = 1 ∨ t'.st = 4 ∨ (t'.st = 3 ∧ t'.keys = [] ∧ t'.time = t.at')) : ManR w w' F mb (m.put i t') g :=
 ManR.of h hg hx (by omega) (by omega) k (fun b q => .inl q) hx.fam.lt (h.good.put ht ho ha hk hs).1 (Nat.le_succ_of_le h.giv) (Nat.le_succ_of_le h.num) (by show (m.txs.set i t').length ≤ _; rw [List.length_set]; exact Nat.le_succ_of_le h.txs)
theorem mAbort (h : Man w F mb m g) (hg : g + 1 ≤ 700) {i : Nat} {t : TX} (ht : m.txs[i]? = some t) : Calls Tryz.prog 170 #[.pointer (some ⟨mb, 0, none⟩), .int .i64 ((i : Int) + 1)] w fun e w' => ∃ r : Int, e = .returned (.int .i64 r) ∧ ((t.st = 1 ∧ r = 0 ∧ ManR w w' F mb (m.put i { t with st := 4, time := 0 }) g) ∨ (t.st ≠ 1 ∧ r = 5 ∧ ManR w w' F mb m g)) := by
 obtain ⟨Ft, gm, kb, am, qv, es, hx⟩ := h.x
 obtain ⟨x, he⟩ := entry hx ht
 refine (mabort_any F Ft mb gm kb am qv 0 m es _ _ i t x w hx ht he (by have := get_lt ht; have := h.txs; have := h.big; omega)).mono ?_
 rintro e w' (⟨h1, h2, h3, h4⟩ | ⟨h1, h2, rfl⟩)
 · exact ⟨0, h2, .inl ⟨h1, rfl, ManR.put h hg ht h3 h4 h1 rfl (h.good.rng i t ht).2.2 (.inr (.inl rfl))⟩⟩
 · exact ⟨5, h2, .inr ⟨h1, rfl, ManR.of_same h hg (Below.refl _ _)⟩⟩
def wrR (m : MS) (i : Nat) (t : TX) (n : Nat) (ps : List PutD) (r : Int) (m' : MS) : Prop :=
 (t.st ≠ 1 ∧ m' = m) ∨ (t.st = 1 ∧ ∃ ks', m' = m.put i { t with keys := ks' } ∧ KeysOk ks' ∧ (t.keys = [] → n = 1 → (∀ p ∈ ps, 0 ≤ p.lba ∧ p.lba < 258 ∧ p.n = 40) → r = 0 ∧ ks' ≠ []))
theorem mWrite (h : Man w F mb m g) (hg : g + 1 ≤ 700) {i : Nat} {t : TX} (ht : m.txs[i]? = some t) {A : Option Addr} {n c : Nat} {ps : List PutD} (hp : IsPs w A n c ps) (hn : n ≤ 20000) : Calls Tryz.prog 169 #[.pointer (some ⟨mb, 0, none⟩), .int .i64 ((i : Int) + 1), .slice A n c] w fun e w' => ∃ r : Int, e = .returned (.int .i64 r) ∧ ∃ m', wrR m i t n ps r m' ∧ ManR w w' F mb m' g := by
 obtain ⟨Ft, gm, kb, am, qv, es, hx⟩ := h.x
 obtain ⟨x, he⟩ := entry hx ht
 refine (mwrite_any F Ft mb gm kb am qv 0 m es _ _ i n c t x A ps w hx ht he (by have := get_lt ht; have := h.txs; have := h.big; omega) hp hn).mono ?_
 rintro e w' ⟨r, rfl, hr⟩
 refine ⟨r, rfl, ?_⟩
 rcases hr with ⟨h1, rfl⟩ | ⟨h1, ks', h3, h4, h5, h6⟩
 · exact ⟨m, .inl ⟨h1, rfl⟩, ManR.of_same h hg (Below.refl _ _)⟩
 · exact ⟨_, .inr ⟨h1, ks', rfl, h5, h6⟩, ManR.put h hg ht h3 h4 h1 rfl h5 (.inl h1)⟩
theorem mRead (h : Man w F mb m g) (hg : g + 1 ≤ 700) {i : Nat} {t : TX} (ht : m.txs[i]? = some t) (f l : Int) : Calls Tryz.prog 168 #[.pointer (some ⟨mb, 0, none⟩), .int .i64 ((i : Int) + 1), .agg #[.int .i64 f, .int .i64 l]] w fun e w' => (∃ v, ∃ r : Int, e = .returned (.tuple #[v, .int .i64 r]) ∧ ∃ bs, Byt w' w.heap.size v bs ∧ bs.length ≤ 640) ∧ ManR w w' F mb m g := by
 obtain ⟨Ft, gm, kb, am, qv, es, hx⟩ := h.x
 obtain ⟨x, he⟩ := entry hx ht
 have hb := h.big
 refine (mread_any F Ft mb gm kb am qv 0 m es _ _ i t x f l w hx ht he (by have := get_lt ht; have := h.txs; omega) (by omega)).mono ?_
 rintro e w' ⟨h1, F', Ft', h2, h3, h4, h5⟩
 exact ⟨h1, ManR.of h hg h2 (by omega) (by omega) h3 h4 h5 h.good (Nat.le_succ_of_le h.giv) (Nat.le_succ_of_le h.num) (Nat.le_succ_of_le h.txs)⟩
end
end
section
open Go.RowKit Go.Maps
theorem infoI0 : (Tryz.prog.info? 3).map (fun i => (i.size, i.bytes, i.zero.map (·.cells.size))) = some (1, 8, some 1) := by kernel_rfl
theorem infoI : ∃ i z, Tryz.prog.info? 3 = some i ∧ i.zero = some z ∧ i.size = 1 ∧ i.bytes = 8 ∧ z.cells.size = 1 := by
 have h := infoI0
 cases hi : Tryz.prog.info? 3 with
 | none => rw [hi] at h; cases h
 | some i =>
   rw [hi] at h
   simp at h
   obtain ⟨h1, h2, z, hz, h3⟩ := h
   exact ⟨i, z, rfl, hz, h1, h2, h3⟩
theorem mcommit_any (F : Foot) (Ft : Nat → Foot) (mb gm kb am : Nat) (qv : Value) (out : Nat) (m : MS) (es : List TE) (N R i : Nat) (t : TX) (x : TE) (w : World) (h : ManX w F Ft mb gm kb am qv out m es N R) (ht : m.txs[i]? = some t) (hx : es[i]? = some x) (hi : i ≤ 1000000) (hq : ∀ i ∈ m.queue, ∃ t, m.txs[i]? = some t) (hl : es.length ≤ 100000) (hql : m.queue.length ≤ 100000) (hg : m.given ≤ 1000) :
  Calls Tryz.prog 231 #[.pointer (some ⟨mb, 0, none⟩), .int .i64 ((i : Int) + 1)] w fun e w' => cmPost w F mb gm kb am out m es N R i t e w' := by
 have ho := topen_any F Ft mb gm kb am qv out m es N R i t x w h ht hx hi
 have htx := h.tx i t x ht hx
 obtain ⟨code, hb⟩ := htx.bx
 obtain ⟨_, _, _, d3, d4, _⟩ := tcells_at hb
 have hbl := buflen_any _ x.bb t.keys w htx.buf
 have HX := Lib.hid h
 have HI := Lib.hid (And.intro ht (And.intro hx (And.intro hi (And.intro hq (And.intro hl (And.intro hql hg))))))
 clear h ht hx hq hl hql hg hb htx hi
 by_cases h1 : t.st = 1
 rotate_left
 · rw [if_neg h1] at ho
   clear hbl
   go_enter Tryz.func231, Tryz.ntmps231
   go_wp2_with fail
   refine ho.mono ?_
   rintro e w' ⟨rfl, rfl⟩
   clear ho
   go_wp2_with fail
   go_ret
   exact ⟨_, rfl, F, Ft, qv, m, HX.out, Kf.refl _ _, fun b q => .inl q, HX.out.fam.lt, .inl ⟨h1, rfl, rfl⟩⟩
 rw [if_pos h1] at ho
 by_cases hk : t.keys = []
 · have hl0 : t.keys.length = 0 := by rw [hk]; rfl
   rw [hl0] at hbl
   go_enter Tryz.func231, Tryz.ntmps231
   go_wp2_with fail
   refine ho.mono ?_
   rintro e w' ⟨rfl, rfl⟩
   clear ho
   go_wp2_with fail
   refine hbl.mono ?_
   rintro e w1 ⟨rfl, hb1⟩
   clear hbl d3 d4
   have hX1 := HX.out.next hb1
   obtain ⟨code1, hb⟩ := (hX1.tx i t x HI.out.1 HI.out.2.1).bx
   obtain ⟨_, _, _, d3, _, _⟩ := tcells_at hb
   have f1 := hb.free 1
   obtain ⟨w2, hw2⟩ : ∃ w2, w1.setCell ⟨x.tb, 1, none⟩ (.int .i64 (t.at' : Int)) = w2 := ⟨_, rfl⟩
   have hb2 : Bk w2 x.tb 205 (tcells { t with time := t.at' } code1 x) := by rw [← hw2]; exact hb.set 1 _
   have k2 : Kf (fun b => b = x.tb) w1 w2 := by rw [← hw2]; exact (Kf.refl (fun b => b = x.tb) w1).set hb (by decide) (.inl rfl) 1 _
   have e2 := hX1.state (t' := { t with time := t.at' }) HI.out.1 HI.out.2.1 k2 hb2 rfl rfl
   have he := mend_any F Ft mb gm kb am qv out (m.put i { t with time := t.at' }) es N R i 3 3 0 _ x w2 e2.1 (MS.put_at HI.out.1 _) HI.out.2.1 HI.out.2.2.1 rfl
   rw [if_neg (by decide), MS.put_put] at he
   have HE := Lib.hid ((Kf.of_below (F := F) hb1).trans e2.2 (fun b q => .inl q))
   clear hb hb2 k2 e2 hX1 hb1
   go_wp2_with fail
   refine he.mono ?_
   rintro e w3 ⟨rfl, hm3, hk3⟩
   have HM := Lib.hid (And.intro hm3 (HE.out.trans hk3 (fun b q => .inl q)))
   clear he hm3 hk3
   go_wp2_with fail
   go_ret
   exact ⟨_, rfl, F, Ft, qv, _, HM.out.1, HM.out.2, fun b q => .inl q, HM.out.1.fam.lt, .inr ⟨h1, .inl ⟨hk, rfl, rfl⟩⟩⟩
 obtain ⟨L, hL⟩ : ∃ L, t.keys.length = L + 1 := by
  cases h2 : t.keys with
  | nil => exact absurd h2 hk
  | cons a l => exact ⟨l.length, rfl⟩
 rw [hL] at hbl
 have n1 : (((L + 1 : Nat) : Int) == 0) = false := by
  have : ¬ ((L + 1 : Nat) : Int) = 0 := by omega
  simpa using this
 have HL := Lib.hid (And.intro h1 hk)
 clear hL hk
 go_enter Tryz.func231, Tryz.ntmps231
 go_wp2_with fail
 refine ho.mono ?_
 rintro e w' ⟨rfl, rfl⟩
 clear ho
 go_wp2_with fail
 refine hbl.mono ?_
 rintro e w1 ⟨rfl, hb1⟩
 clear hbl d3 d4
 have hX1 := HX.out.next hb1
 have hmay := may_tx F Ft mb gm kb am qv out m es N R i t x w1 hX1 HI.out.1 HI.out.2.1 HI.out.2.2.2.1 HI.out.2.2.2.2.1 HI.out.2.2.2.2.2.1 HI.out.2.2.2.2.2.2
 have HB1 := Lib.hid hb1
 clear hX1 hb1
 go_wp2_with fail
 refine hmay.mono ?_
 rintro e w2 ⟨⟨r, rfl, hr⟩, hb2⟩
 have HB2 := Lib.hid (And.intro (HB1.out.trans (hb2.mono HB1.out.size)) hr)
 clear hmay hr hb2
 have hX2 := HX.out.next HB2.out.1
 by_cases h0 : r = 0
 rotate_left
 · have n2 : (r == 0) = false := by simpa using h0
   have n3 : (r != 0) = true := by simpa using h0
   have he := mend_any F Ft mb gm kb am qv out m es N R i 4 4 r t x w2 hX2 HI.out.1 HI.out.2.1 HI.out.2.2.1 rfl
   rw [if_pos rfl] at he
   clear hX2
   go_wp2_with fail
   refine he.mono ?_
   rintro e w3 ⟨rfl, hm3, hk3⟩
   have HM := Lib.hid (And.intro hm3 ((Kf.of_below (F := F) HB2.out.1).trans hk3 (fun b q => .inl q)))
   clear he hm3 hk3
   go_wp2_with fail
   go_ret
   exact ⟨_, rfl, F, Ft, qv, _, HM.out.1, HM.out.2, fun b q => .inl q, HM.out.1.fam.lt, .inr ⟨HL.out.1, .inr ⟨HL.out.2, .inl ⟨h0, fun q => h0 (HB2.out.2 q.1 q.2.1 q.2.2), rfl⟩⟩⟩⟩
 subst h0
 obtain ⟨xi, xz, hxi, hxz, hx5, hx56, hxc⟩ := infoI
 have gg : ((m.given + 1 : Nat) : Int) = (m.given : Int) + 1 := rfl
 have m1 : wrap64 ((m.given : Int) + 1) = (m.given : Int) + 1 := by have := HI.out.2.2.2.2.2.2; unfold wrap64; omega
 have m2 : IntKind.i64.wrap ((m.given : Int) + 1) = (m.given : Int) + 1 := IntWalk.i64_in _ (by have := HI.out.2.2.2.2.2.2; omega)
 obtain ⟨_, _, _, _, _, _, _, _, c8, _⟩ := mcells_at hX2.bx
 have f8 := hX2.bx.free 8
 obtain ⟨w3, hw3⟩ : ∃ w3, w2.setCell ⟨mb, 8, none⟩ (.int .i64 ((m.given : Int) + 1)) = w3 := ⟨_, rfl⟩
 have hb3 : Bk w3 mb 172 (mcells gm kb am qv out { m with given := m.given + 1 }) := by rw [← hw3]; exact hX2.bx.set 8 (.int .i64 ((m.given : Int) + 1))
 have k3 : Kf (fun b => b = mb) w2 w3 := by rw [← hw3]; exact (Kf.refl (fun b => b = mb) w2).set hX2.bx (by decide) (.inl rfl) 8 _
 have e3 := hX2.cell k3 { m with given := m.given + 1 } out hb3 rfl rfl id
 obtain ⟨_, _, _, _, _, _, _, _, c8', _⟩ := mcells_at hb3
 rw [show (({ m with given := m.given + 1 } : MS).given : Int) = (m.given : Int) + 1 from rfl] at c8'
 obtain ⟨code3, hbt⟩ := (e3.1.tx i t x HI.out.1 HI.out.2.1).bx
 have f0 := hbt.free 0
 have g0 := (tcells_at hbt).1
 obtain ⟨w4, hw4⟩ : ∃ w4, w3.setCell ⟨x.tb, 0, none⟩ (.int .i64 2) = w4 := ⟨_, rfl⟩
 have hb4 : Bk w4 x.tb 205 (tcells { t with st := 2 } code3 x) := by rw [← hw4]; exact hbt.set 0 (.int .i64 2)
 have k4 : Kf (fun b => b = x.tb) w3 w4 := by rw [← hw4]; exact (Kf.refl (fun b => b = x.tb) w3).set hbt (by decide) (.inl rfl) 0 _
 have f1 := hb4.free 1
 have g1 := (tcells_at hb4).2.1
 obtain ⟨w5, hw5⟩ : ∃ w5, w4.setCell ⟨x.tb, 1, none⟩ (.int .i64 ((m.given : Int) + 1)) = w5 := ⟨_, rfl⟩
 have hb5 : Bk w5 x.tb 205 (tcells ⟨2, m.given + 1, t.at', t.keys⟩ code3 x) := by rw [← hw5]; exact hb4.set 1 (.int .i64 ((m.given : Int) + 1))
 have k5 : Kf (fun b => b = x.tb) w3 w5 := by rw [← hw5]; exact k4.set hb4 (by decide) (.inl rfl) 1 _
 have e5 := e3.1.state (t' := ⟨2, m.given + 1, t.at', t.keys⟩) HI.out.1 HI.out.2.1 k5 hb5 rfl rfl
 obtain ⟨_, _, _, c3, _⟩ := mcells_at e5.1.bx
 obtain ⟨qA, qc, hq⟩ := own_shape e5.1.own
 rw [hq] at c3
 have HE := Lib.hid (And.intro e5.1 (((Kf.of_below (F := F) HB2.out.1).trans e3.2 (fun b q => .inl q)).trans e5.2 (fun b q => .inl q)))
 rw [hq] at HE
 obtain ⟨w6, hw6⟩ : ∃ w6, w5.alloc (.cells #[.int .i64 ((i : Int) + 1)] 3) = w6 := ⟨_, rfl⟩
 have hB6 : Bk w6 w5.heap.size 3 [.int .i64 ((i : Int) + 1)] := by rw [← hw6]; exact Bk.new w5 _ _
 have hb6 : Below w5.heap.size w5 w6 := by rw [← hw6]; exact (Below.refl _ _).alloc (Nat.le_refl _) _
 have hO6 := (HE.out.1.next hb6).own
 have HB6 := Lib.hid (And.intro hb6 hB6)
 have HM6 := Lib.hid (And.intro (HE.out.1.next hb6).bx (HE.out.1.next hb6).q_ne.1)
 obtain ⟨qn, hqn⟩ : ∃ qn, m.queue.length = qn := ⟨_, rfl⟩
 have hql : qn ≤ 100000 := by rw [← hqn]; exact HI.out.2.2.2.2.2.1
 have HO6 := Lib.hid hO6
 simp only [MS.put] at HO6 c3 HM6
 rw [hqn] at HO6 c3 HM6
 clear hX2 hb3 k3 e3 hbt hb4 k4 hb5 k5 e5 hb6 hB6 hO6
 go_wp2_with (at_builtin; go_must (refine wpList_appS _ rfl _ _ 29 rfl 0 3 xi xz 1 8 Tryz.underlying29 hxi hxz hx5 hx56 hxc (by decide) _ _ _ (by rfl) (by exact HO6.out) _ [.int .i64 ((i : Int) + 1)] (by rfl) (by exact HB6.out.2) rfl (by intro u hu; simp at hu; rcases hu with rfl <;> rfl) (by omega) (by decide) (by exact Nat.zero_le _) ?_); intro v7 w7 hO7 hG7 hv7; have hG7 : w6.grownBy w7 (Value.slice qA qn qc).ownBlock := hG7; have hv7 : v7.ownBlock = (Value.slice qA qn qc).ownBlock ∨ v7.ownBlock = some w6.heap.size := hv7; obtain ⟨zA, zc, rfl⟩ := own_shape hO7; have b7 := bk_but' HM6.out.1 hG7 HM6.out.2; obtain ⟨_, _, _, q3, _⟩ := mcells_at b7; have q3f := b7.free 3)
 have HF := Lib.hid (And.intro hO7 (And.intro hG7 hv7))
 clear hO7 hG7 hv7 b7
 go_ret
 subst hqn
 obtain ⟨F', Ft', g1, g2, g3, g4⟩ := HE.out.1.qpush (i := i) HB6.out.1 HF.out.1 HF.out.2.1 HF.out.2.2 rfl
 exact ⟨0, rfl, F', Ft', _, m.pend i t, g1, HE.out.2.trans g2 (fun b q => .inl q), fun b q => (g3 b q).imp id (Nat.le_trans HE.out.2.size), g4, .inr ⟨HL.out.1, .inr ⟨HL.out.2, .inr ⟨rfl, rfl⟩⟩⟩⟩
end
section
theorem cflat_set {α V : Type} {f : α → List V} {n : Nat} (hf : ∀ a, (f a).length = n) {i : Nat} (hi : i < n) {a' : α} {u : V} : ∀ (l : List α) (j : Nat) (hj : j < l.length), f a' = (f l[j]).set i u → (l.flatMap f).set (j * n + i) u = (l.set j a').flatMap f
 | [], j, hj, _ => absurd hj (Nat.not_lt_zero j)
 | a :: l, 0, hj, h => by
   have h : f a' = (f a).set i u := h
   simp only [List.flatMap_cons, List.set_cons_zero, Nat.zero_mul, Nat.zero_add]
   rw [List.set_append_left _ _ (by rw [hf]; exact hi), h]
 | a :: l, j + 1, hj, h => by
   have ih := cflat_set hf hi l j (by simpa using hj) h
   simp only [List.flatMap_cons, List.set_cons_succ]
   rw [List.set_append_right _ _ (by rw [hf]; have : n ≤ (j + 1) * n := Nat.le_mul_of_pos_left n (Nat.succ_pos j); omega), hf, show (j + 1) * n + i - n = j * n + i by rw [Nat.succ_mul]; omega, ih]
theorem cflat_at {α V : Type} {f : α → List V} {n : Nat} (hf : ∀ a, (f a).length = n) {i : Nat} (hi : i < n) : ∀ (l : List α) (j : Nat) (hj : j < l.length), (l.flatMap f)[j * n + i]? = (f l[j])[i]?
 | [], j, hj => absurd hj (Nat.not_lt_zero j)
 | a :: l, 0, hj => by
   simp only [List.flatMap_cons, Nat.zero_mul, Nat.zero_add, List.getElem_cons_zero]
   rw [List.getElem?_append_left (by rw [hf]; exact hi)]
 | a :: l, j + 1, hj => by
   have ih := cflat_at hf hi l j (by simpa using hj)
   simp only [List.flatMap_cons, List.getElem_cons_succ]
   rw [List.getElem?_append_right (by rw [hf]; have : n ≤ (j + 1) * n := Nat.le_mul_of_pos_left n (Nat.succ_pos j); omega), hf, show (j + 1) * n + i - n = j * n + i by rw [Nat.succ_mul]; omega, ih]
theorem cflat_len {α V : Type} {f : α → List V} {n : Nat} (hf : ∀ a, (f a).length = n) (l : List α) : (l.flatMap f).length = l.length * n := by
 induction l with
 | nil => simp
 | cons a l ih => simp only [List.flatMap_cons, List.length_append, hf, ih, List.length_cons, Nat.succ_mul]; omega
theorem mid_set {V : Type} {a b c d u : V} {l : List V} {k : Nat} (hk : k < l.length) : ([a, b] ++ l ++ [c, d]).set (2 + k) u = [a, b] ++ l.set k u ++ [c, d] := by
 rw [List.append_assoc, List.append_assoc, List.set_append_right _ _ (by simp), show 2 + k - [a, b].length = k by simp, List.set_append_left _ _ hk]
theorem mid_at {V : Type} {a b c d : V} {l : List V} {k : Nat} (hk : k < l.length) : ([a, b] ++ l ++ [c, d])[2 + k]? = l[k]? := by
 rw [List.append_assoc, List.getElem?_append_right (by simp), show 2 + k - [a, b].length = k by simp, List.getElem?_append_left hk]
end
end Go.Proofs.YthhndleddlmgiaaGreatDoor.Tp
