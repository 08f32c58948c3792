/- Contracts of the program's functions, and laws on memory: a part of the proof of TopRoom. -/
import Derived.Test.YthhndleddlmgiaaGreatDoorZI
import Derived.Test.YthhndleddlmgiaaGreatDoorProg
import Derived.LoopTactic
import Derived.LoopN
import Derived.Lib.Hide
import Derived.Deep.DeepMust
import Derived.Laws.MakeOwn
import Derived.Laws.Entries
import Derived.WalkSpells
import Derived.WalkMore
import Derived.IntWalk
import Derived.Deep.QuietTactic
import Derived.BigQuiet
import Derived.Shelf.Abstract
import Derived.Laws.ResultCell
namespace Go.Proofs.YthhndleddlmgiaaGreatDoor.Tp
set_option maxHeartbeats 8000000
set_option maxRecDepth 100000
set_option linter.unusedSimpArgs false
set_option linter.unusedVariables false
section
open Go.RowKit Go.Maps
structure OpD where
 kind : Int
 h : Int
 lba : Int
 len : Int
 A : Option Addr
 n : Nat
 c : Nat
 ps : List PutD
def OpD.cells (o : OpD) : List Value := [.int .i64 o.kind, .int .i64 o.h, .int .i64 o.lba, .int .i64 o.len, .slice o.A o.n o.c]
theorem op_five (o : OpD) : o.cells.length = 5 := rfl
def bptr (e : Nat) : Value := .pointer (some ⟨e, 0, none⟩)
def bcells (i : Nat) (b : BG) : List Value := [.int .i64 ((i : Int) + 1), .int .i64 (b.fr : Int), .int .i64 (b.til : Int), .int .i64 0, .int .i64 0, .int .i64 0, .int .i64 0, .int .i64 0, .slice none 0 0, .slice none 0 0]
structure CLD where
 ov : Value
 bv : Value
 av : Value
 asked : Bool
 ops : List OpD
 bgs : List Nat
 na : Nat
def CLD.cells (c : CLD) : List Value := [c.ov, c.bv, c.av, .bool c.asked]
theorem cl_four (c : CLD) : c.cells.length = 4 := rfl
structure ClX (w : World) (F : Foot) (c : CLD) (m : MS) (es : List Nat) : Prop where
 ops : OwnO w 45 5 c.ov c.ops.length (c.ops.flatMap OpD.cells)
 puts : ∀ o ∈ c.ops, IsPs w o.A o.n o.c o.ps
 beg : w.ownsRow 0 82 1 c.bv c.bgs.length (c.bgs.map fun k => bptr (es.getD k 0))
 ans : ∃ xs, w.ownsRow 0 52 5 c.av c.na xs
 bin : ∀ k ∈ c.bgs, k < es.length
 ask : c.asked = true → ∃ o l, c.ops = o :: l ∧ o.kind = 4 ∧ ∃ i k t, o.h = (i : Nat) ∧ c.bgs[i]? = some k ∧ m.txs[k]? = some t ∧ t.st ≠ 1
 len : c.ops.length ≤ 200
 fo : ∀ g, c.ov.ownBlock = some g → F g
 fb : ∀ g, c.bv.ownBlock = some g → F g
 fa : ∀ g, c.av.ownBlock = some g → F g
 fp : ∀ o ∈ c.ops, ∀ ad, o.A = some ad → F ad.block
 py : ∀ o ∈ c.ops, ∀ ad, o.A = some ad → ∃ cs fr, w.heap[ad.block]? = some (.cells cs 50 fr)
def sccells (dp : Value) (st : Nat) (cls : List CLD) (alv : Value) (ev : Nat) : List Value := [dp, .pointer (some ⟨st, 0, none⟩)] ++ cls.flatMap CLD.cells ++ [alv, .int .i64 (ev : Int)]
structure SchX (w : World) (F : Foot) (Ft : Nat → Foot) (sb st : Nat) (dp alv : Value) (cls : List CLD) (al es : List Nat) (bg : List BG) (m : MS) (ev pos g : Nat) : Prop where
 fam : Fam w F Ft
 bx : Bk w sb 71 (sccells dp st cls alv ev)
 sto : Sto w (Ft 1) st pos m g
 all : w.ownsRow 0 82 1 alv al.length (al.map bptr)
 beg : ∀ (i e : Nat) (b : BG), es[i]? = some e → bg[i]? = some b → Bk w e 85 (bcells i b)
 nd : ∀ (i j x : Nat), es[i]? = some x → es[j]? = some x → i = j
 cl8 : cls.length = 8
 cl : ∀ (j : Nat) (c : CLD), cls[j]? = some c → ClX w (Ft (3 + j)) c m es
 len : es.length = bg.length
 f0 : Ft 0 sb
 f1 : ∀ b, alv.ownBlock = some b → Ft 0 b
 f2 : ∀ e ∈ es, Ft 2 e
section
variable {w w' : World} {F : Foot} {Ft : Nat → Foot} {sb st : Nat} {dp alv : Value} {cls : List CLD} {al es : List Nat} {bg : List BG} {m m' : MS} {ev pos g : Nat}
theorem ClX.ag {c : CLD} (h : ClX w F c m es) (k : Ag F w w') : ClX w' F c m es := by
 obtain ⟨xs, ha⟩ := h.ans
 exact ⟨h.ops.ag k h.fo, fun o ho => (h.puts o ho).ag k (h.fp o ho), own_ag h.beg k h.fb, ⟨xs, own_ag ha k h.fa⟩, h.bin, h.ask, h.len, h.fo, h.fb, h.fa, h.fp, fun o ho ad e => by
  obtain ⟨cs, fr, q⟩ := h.py o ho ad e
  exact ⟨cs, fr, k.keep _ _ q (.inl (h.fp o ho ad e))⟩⟩
theorem ClX.man {c : CLD} (h : ClX w F c m es) (he : Ext m m') : ClX w F c m' es :=
 ⟨h.ops, h.puts, h.beg, h.ans, h.bin, fun q => by
  obtain ⟨o, l, e1, e2, i, k, t, e3, e4, e5, e6⟩ := h.ask q
  obtain ⟨t', e7, _, _, e8⟩ := he.tx k t e5
  exact ⟨o, l, e1, e2, i, k, t', e3, e4, e7, e8 e6⟩, h.len, h.fo, h.fb, h.fa, h.fp, h.py⟩
theorem ClX.more {c : CLD} (h : ClX w F c m es) (e : Nat) : ClX w F c m (es ++ [e]) :=
 ⟨h.ops, h.puts, by
  have : (c.bgs.map fun k => bptr ((es ++ [e]).getD k 0)) = c.bgs.map fun k => bptr (es.getD k 0) := by
   apply List.map_congr_left
   intro k hk
   rw [List.getD_eq_getElem?_getD, List.getD_eq_getElem?_getD, List.getElem?_append_left (h.bin k hk)]
  rw [this]; exact h.beg, h.ans, fun k hk => by rw [List.length_append]; exact Nat.lt_add_right _ (h.bin k hk), h.ask, h.len, h.fo, h.fb, h.fa, h.fp, h.py⟩
theorem SchX.ag (h : SchX w F Ft sb st dp alv cls al es bg m ev pos g) (k : Ag F w w') : SchX w' F Ft sb st dp alv cls al es bg m ev pos g := by
 have a : ∀ i, Ag (Ft i) w w' := fun i => k.mono (h.fam.sub i)
 exact ⟨h.fam.next k.size, Bk.ag h.bx (a 0) h.f0, h.sto.ag (a 1), own_ag h.all (a 0) h.f1, fun i e b q r => Bk.ag (h.beg i e b q r) (a 2) (h.f2 e (List.mem_of_getElem? q)), h.nd, h.cl8, fun j c q => (h.cl j c q).ag (a _), h.len, h.f0, h.f1, h.f2⟩
theorem SchX.next (h : SchX w F Ft sb st dp alv cls al es bg m ev pos g) (k : Below w.heap.size w w') : SchX w' F Ft sb st dp alv cls al es bg m ev pos g := h.ag (.of_below k)
theorem SchX.inF (h : SchX w F Ft sb st dp alv cls al es bg m ev pos g) : F sb := h.fam.sub 0 _ h.f0
theorem cl_len (cls : List CLD) (h : cls.length = 8) : (cls.flatMap CLD.cells).length = 32 := by rw [cflat_len cl_four, h]
theorem sc_at (h8 : cls.length = 8) {j i : Nat} {c : CLD} {u : Value} (hj : cls[j]? = some c) (hi : i < 4) (hu : c.cells[i]? = some u) : (sccells dp st cls alv ev)[2 + (j * 4 + i)]? = some u := by
 have hl := get_lt hj
 unfold sccells
 rw [mid_at (by rw [cl_len cls h8]; omega), cflat_at cl_four hi cls j hl]
 rw [List.getElem?_eq_getElem hl] at hj
 injection hj with hj
 rw [hj]; exact hu
theorem sc_set (h8 : cls.length = 8) {j i : Nat} {c c' : CLD} {u : Value} (hj : cls[j]? = some c) (hi : i < 4) (hu : c'.cells = c.cells.set i u) : (sccells dp st cls alv ev).set (2 + (j * 4 + i)) u = sccells dp st (cls.set j c') alv ev := by
 have hl := get_lt hj
 unfold sccells
 rw [mid_set (by rw [cl_len cls h8]; omega), cflat_set cl_four hi cls j hl]
 rw [List.getElem?_eq_getElem hl] at hj
 injection hj with hj
 rw [hj]; exact hu
theorem sc_all (h8 : cls.length = 8) : (sccells dp st cls alv ev)[34]? = some alv := by
 unfold sccells
 rw [List.getElem?_append_right (by simp [cl_len cls h8]), List.length_append, cl_len cls h8]; rfl
theorem sc_ev (h8 : cls.length = 8) : (sccells dp st cls alv ev)[35]? = some (.int .i64 (ev : Int)) := by
 unfold sccells
 rw [List.getElem?_append_right (by simp [cl_len cls h8]), List.length_append, cl_len cls h8]; rfl
theorem sc_setEv (h8 : cls.length = 8) (ev' : Nat) : (sccells dp st cls alv ev).set 35 (.int .i64 (ev' : Int)) = sccells dp st cls alv ev' := by
 unfold sccells
 rw [List.set_append_right _ _ (by simp [cl_len cls h8]), List.length_append, cl_len cls h8]; rfl
theorem sc_setAll (h8 : cls.length = 8) (u : Value) : (sccells dp st cls alv ev).set 34 u = sccells dp st cls u ev := by
 unfold sccells
 rw [List.set_append_right _ _ (by simp [cl_len cls h8]), List.length_append, cl_len cls h8]; rfl
theorem Bk.at' {g t i : Nat} {cs : List Value} {u : Value} (h : Bk w g t cs) (hu : cs[i]? = some u) : w.cell? ⟨g, i, none⟩ = some u := by
 obtain ⟨hi, e⟩ := List.getElem?_eq_some_iff.1 hu
 rw [← e]; exact h.cell hi
theorem SchX.all_ne (h : SchX w F Ft sb st dp alv cls al es bg m ev pos g) : alv.ownBlock ≠ some sb := own_ne_bk h.all h.bx (by decide)
theorem SchX.block (h : SchX w F Ft sb st dp alv cls al es bg m ev pos g) (k : Kf (fun b => b = sb) w w') {cls' : List CLD} {ev' : Nat} (hb : Bk w' sb 71 (sccells dp st cls' alv ev')) (h8 : cls'.length = 8) (hc : ∀ (j : Nat) (c : CLD), cls'[j]? = some c → ClX w (Ft (3 + j)) c m es) :
  SchX w' F Ft sb st dp alv cls' al es bg m ev' pos g ∧ Kf F w w' := by
 have k0 : Kf (Ft 0) w w' := k.mono (fun b q => by have q : b = sb := q; rw [q]; exact h.f0)
 have a : ∀ i, i ≠ 0 → Ag (Ft i) w w' := fun i hn => h.fam.ag k0 hn
 exact ⟨⟨h.fam.next k.size, hb, h.sto.ag (a 1 (by decide)), own_ag (F := fun b => b ≠ sb) h.all (k.ag (fun b q r => q r)) (fun g q r => h.all_ne (r ▸ q)), fun i e b q r => Bk.ag (h.beg i e b q r) (a 2 (by decide)) (h.f2 e (List.mem_of_getElem? q)), h.nd, h8, fun j c q => (hc j c q).ag (a _ (by omega)), h.len, h.f0, h.f1, h.f2⟩, h.fam.kf k0⟩
theorem SchX.stod (h : SchX w F Ft sb st dp alv cls al es bg m ev pos g) {pos' : Nat} (hr : StoR w w' (Ft 1) st pos' m' (g + 1)) (he : Ext m m') :
  ∃ F' Ft', SchX w' F' Ft' sb st dp alv cls al es bg m' ev pos' (g + 1) ∧ Kf F w w' ∧ Sb w F F' ∧ In w' F' ∧ ∀ j, j ≠ 1 → Ft' j = Ft j := by
 obtain ⟨G, hs, k, hG, hi⟩ := hr
 have hf := h.fam.step k.size hG hi
 have a : ∀ j, j ≠ 1 → Ag (Ft j) w w' := fun j hn => h.fam.ag k hn
 have pe : ∀ j, j ≠ 1 → putF Ft 1 G j = Ft j := fun j hn => putF_other Ft G hn
 exact ⟨orF F G, putF Ft 1 G, ⟨hf, Bk.ag h.bx (a 0 (by decide)) h.f0, by rw [putF_same]; exact hs, own_ag h.all (a 0 (by decide)) h.f1, fun i e b q r => Bk.ag (h.beg i e b q r) (a 2 (by decide)) (h.f2 e (List.mem_of_getElem? q)), h.nd, h.cl8, fun j c q => by rw [pe _ (by omega)]; exact ((h.cl j c q).ag (a _ (by omega))).man he, h.len, by rw [pe 0 (by decide)]; exact h.f0, fun b q => by rw [pe 0 (by decide)]; exact h.f1 b q, fun e q => by rw [pe 2 (by decide)]; exact h.f2 e q⟩, h.fam.kf k, h.fam.sb hG, hf.lt, pe⟩
theorem SchX.told (h : SchX w F Ft sb st dp alv cls al es bg m ev pos g) {i e : Nat} {b : BG} (he : es[i]? = some e) (hb : bg[i]? = some b) {tn : Nat} (ew : w' = w.setCell ⟨e, 2, none⟩ (.int .i64 (tn : Int))) :
  SchX w' F Ft sb st dp alv cls al es (bg.set i ⟨b.fr, tn⟩) m ev pos g ∧ Kf F w w' := by
 have hbk := h.beg i e b he hb
 have hb' : Bk w' e 85 (bcells i ⟨b.fr, tn⟩) := by rw [ew]; exact hbk.set 2 (.int .i64 (tn : Int))
 have k : Kf (fun b => b = e) w w' := by rw [ew]; exact (Kf.refl (fun b => b = e) w).set hbk (by decide) (.inl rfl) 2 _
 have k2 : Kf (Ft 2) w w' := k.mono (fun b q => by have q : b = e := q; rw [q]; exact h.f2 e (List.mem_of_getElem? he))
 have a : ∀ j, j ≠ 2 → Ag (Ft j) w w' := fun j hn => h.fam.ag k2 hn
 refine ⟨⟨h.fam.next k.size, Bk.ag h.bx (a 0 (by decide)) h.f0, h.sto.ag (a 1 (by decide)), own_ag h.all (a 0 (by decide)) h.f1, fun j x c q r => ?_, h.nd, h.cl8, fun j c q => (h.cl j c q).ag (a _ (by omega)), by rw [List.length_set]; exact h.len, h.f0, h.f1, h.f2⟩, h.fam.kf k2⟩
 rcases get_set r with ⟨rfl, rfl⟩ | ⟨hn, r⟩
 · rw [he] at q; injection q with q; subst q; exact hb'
 · refine Bk.ag (F := fun b => b ≠ e) (h.beg j x c q r) (k.ag (fun b q r => q r)) (fun ex => hn (h.nd j i x q (by rw [ex]; exact he)))
theorem SchX.cld (h : SchX w F Ft sb st dp alv cls al es bg m ev pos g) {j : Nat} {c c' : CLD} {G : Foot} {w5 : World} (hj : cls[j]? = some c) (k : Kf (Ft (3 + j)) w w5) (hG : Sb w (Ft (3 + j)) G) (hi : In w5 G) (hx : ClX w5 G c' m es) (k6 : Kf (fun b => b = sb) w5 w') (hb : Bk w' sb 71 (sccells dp st (cls.set j c') alv ev)) :
  ∃ F' Ft', SchX w' F' Ft' sb st dp alv (cls.set j c') al es bg m ev pos g ∧ Kf F w w' ∧ Sb w F F' ∧ In w' F' := by
 have hf5 := h.fam.step k.size hG hi
 have pe : ∀ i, i ≠ 3 + j → putF Ft (3 + j) G i = Ft i := fun i hn => putF_other Ft G hn
 have k6' : Kf (putF Ft (3 + j) G 0) w5 w' := k6.mono (fun b q => by have q : b = sb := q; rw [q, pe 0 (by omega)]; exact h.f0)
 have a : ∀ i, i ≠ 3 + j → Ag (Ft i) w w5 := fun i hn => h.fam.ag k hn
 have a6 : ∀ i, i ≠ 0 → Ag (putF Ft (3 + j) G i) w5 w' := fun i hn => hf5.ag k6' hn
 have z : ∀ i, i ≠ 0 → i ≠ 3 + j → Ag (Ft i) w5 w' := fun i h0 h1 => by have := a6 i h0; rw [pe i h1] at this; exact this
 have kk : Kf F w w' := (h.fam.kf k).trans (G := F) (k6.mono (fun b q => by have q : b = sb := q; rw [q]; exact h.inF)) (fun b q => .inl q)
 have hf := hf5.next k6.size
 refine ⟨orF F G, putF Ft (3 + j) G, ⟨hf, hb, by rw [pe 1 (by omega)]; exact (h.sto.ag (a 1 (by omega))).ag (z 1 (by decide) (by omega)), own_ag (F := fun b => b ≠ sb) (own_ag h.all (a 0 (by omega)) h.f1) (k6.ag (fun b q r => q r)) (fun g q r => h.all_ne (r ▸ q)), fun i e b q r => Bk.ag (Bk.ag (h.beg i e b q r) (a 2 (by omega)) (h.f2 e (List.mem_of_getElem? q))) (z 2 (by decide) (by omega)) (h.f2 e (List.mem_of_getElem? q)), h.nd, by rw [List.length_set]; exact h.cl8, fun i x q => ?_, h.len, by rw [pe 0 (by omega)]; exact h.f0, fun b q => by rw [pe 0 (by omega)]; exact h.f1 b q, fun e q => by rw [pe 2 (by omega)]; exact h.f2 e q⟩, kk, h.fam.sb hG, hf.lt⟩
 rcases get_set q with ⟨rfl, rfl⟩ | ⟨hn, q⟩
 · rw [putF_same]; have := a6 (3 + i) (by omega); rw [putF_same] at this; exact hx.ag this
 · rw [pe _ (by omega)]; exact ((h.cl i x q).ag (a _ (by omega))).ag (z _ (by omega) (by omega))
theorem SchX.newb (h : SchX w F Ft sb st dp alv cls al es bg m ev pos g) (k : Below w.heap.size w w') {e : Nat} {b : BG} (hb : Bk w' e 85 (bcells es.length b)) (he : w.heap.size ≤ e) :
  ∃ F' Ft', SchX w' F' Ft' sb st dp alv cls al (es ++ [e]) (bg ++ [b]) m ev pos g ∧ Sb w F F' ∧ In w' F' ∧ ∀ j, j ≠ 2 → Ft' j = Ft j := by
 have hG : Sb w (Ft 2) (orF (Ft 2) (fun b => b = e)) := fun b q => q.elim .inl (fun r => .inr (by have r : b = e := r; omega))
 have hi : In w' (orF (Ft 2) (fun b => b = e)) := fun b q => q.elim (fun r => Nat.lt_of_lt_of_le (h.fam.inn 2 b r) k.size) (fun r => by have r : b = e := r; rw [r]; exact hb.lt)
 have hf := h.fam.step k.size hG hi
 have pe : ∀ j, j ≠ 2 → putF Ft 2 (orF (Ft 2) (fun b => b = e)) j = Ft j := fun j hn => putF_other Ft _ hn
 have h' := h.next k
 refine ⟨_, _, ⟨hf, h'.bx, by rw [pe 1 (by decide)]; exact h'.sto, h'.all, fun i x c q r => ?_, fun i j x q r => ?_, h.cl8, fun j c q => by rw [pe _ (by omega)]; exact (h'.cl j c q).more e, by rw [List.length_append, List.length_append, h.len]; rfl, by rw [pe 0 (by decide)]; exact h.f0, fun b q => by rw [pe 0 (by decide)]; exact h.f1 b q, fun x q => ?_⟩, h.fam.sb hG, hf.lt, pe⟩
 · rcases get_app q with q1 | ⟨q1, rfl⟩
   · rcases get_app r with r1 | ⟨r1, _⟩
     · exact h'.beg i x c q1 r1
     · have := get_lt q1; have := h.len; omega
   · rcases get_app r with r1 | ⟨_, rfl⟩
     · have := get_lt r1; have := h.len; omega
     · rw [q1]; exact hb
 · have old : ∀ {i : Nat} {x : Nat}, es[i]? = some x → x < w.heap.size := fun q => h.fam.inn 2 _ (h.f2 _ (List.mem_of_getElem? q))
   rcases get_app q with q | ⟨q, q2⟩
   · rcases get_app r with r | ⟨_, r2⟩
     · exact h.nd i j x q r
     · have := old q; omega
   · rcases get_app r with r | ⟨r, _⟩
     · have := old r; omega
     · omega
 · rw [putF_same]
   rcases List.mem_append.1 q with q | q
   · exact .inl (h.f2 x q)
   · exact .inr (by simpa using q)
theorem SchX.alls (h : SchX w F Ft sb st dp alv cls al es bg m ev pos g) {w5 : World} {alv' : Value} {al' : List Nat} (ho : w5.ownsRow 0 82 1 alv' al'.length (al'.map bptr)) (hg : w.grownBy w5 alv.ownBlock) (hv : alv'.ownBlock = alv.ownBlock ∨ alv'.ownBlock = some w.heap.size) (e : w' = w5.setCell ⟨sb, 34, none⟩ alv') :
  ∃ F' Ft', SchX w' F' Ft' sb st dp alv' cls al' es bg m ev pos g ∧ Kf F w w' ∧ Sb w F F' ∧ In w' F' := by
 have k5 : Kf (fun b => alv.ownBlock = some b) w w5 := (Kf.refl _ w).grown h.all hg (fun g q => .inl ⟨q, by decide⟩)
 have b5 : Bk w5 sb 71 (sccells dp st cls alv ev) := Bk.ag (F := fun b => b = sb) h.bx (k5.ag (fun b q s => by have q : b = sb := q; subst q; exact h.all_ne s)) rfl
 have k6 : Kf (fun b => b = sb) w5 w' := by rw [e]; exact (Kf.refl (fun b => b = sb) w5).set b5 (by decide) (.inl rfl) 34 alv'
 have b' : Bk w' sb 71 (sccells dp st cls alv' ev) := by rw [e]; have := b5.set 34 alv'; rw [sc_setAll h.cl8] at this; exact this
 have k0 : Kf (Ft 0) w w' := (k5.mono h.f1).trans (G := Ft 0) (k6.mono (fun b q => by have q : b = sb := q; rw [q]; exact h.f0)) (fun b q => .inl q)
 have a : ∀ i, i ≠ 0 → Ag (Ft i) w w' := fun i hn => h.fam.ag k0 hn
 have hG : Sb w (Ft 0) (orF (Ft 0) (fun b => alv'.ownBlock = some b)) := Sb.or (fun b q => by
  rcases hv with s | s
  · exact .inl (h.f1 b (s.symm.trans q))
  · rw [s] at q; injection q with q; exact .inr (by omega))
 have hi : In w' (orF (Ft 0) (fun b => alv'.ownBlock = some b)) := fun b q => by
  rcases q with q | q
  · exact Nat.lt_of_lt_of_le (h.fam.inn 0 b q) k0.size
  · obtain ⟨_, _, hh⟩ := own_at ho q
    exact Nat.lt_of_lt_of_le (lt_of hh) k6.size
 have hf := h.fam.step k0.size hG hi
 have pe : ∀ j, j ≠ 0 → putF Ft 0 (orF (Ft 0) (fun b => alv'.ownBlock = some b)) j = Ft j := fun j hn => putF_other Ft _ hn
 exact ⟨_, _, ⟨hf, b', by rw [pe 1 (by decide)]; exact h.sto.ag (a 1 (by decide)), own_ag (F := fun b => b ≠ sb) ho (k6.ag (fun b q r => q r)) (fun g q r => own_ne_bk ho b5 (by decide) (r ▸ q)), fun i e b q r => Bk.ag (h.beg i e b q r) (a 2 (by decide)) (h.f2 e (List.mem_of_getElem? q)), h.nd, h.cl8, fun j c q => by rw [pe _ (by omega)]; exact (h.cl j c q).ag (a _ (by omega)), h.len, by rw [putF_same]; exact .inl h.f0, fun b q => by rw [putF_same]; exact .inr q, fun e q => by rw [pe 2 (by decide)]; exact h.f2 e q⟩, h.fam.kf k0, h.fam.sb hG, hf.lt⟩
end
end
section
open Go.RowKit Go.Maps
section
variable {w w' w5 : World} {F : Foot} {Ft : Nat → Foot} {sb st : Nat} {dp alv : Value} {cls : List CLD} {al es : List Nat} {bg : List BG} {m : MS} {ev pos g j : Nat} {c : CLD}
theorem heap_ty {b : Nat} {c1 c2 : Array Value} {t1 t2 : TypeId} {f1 f2 : Nat × Nat} (h1 : w.heap[b]? = some (.cells c1 t1 f1)) (h2 : w.heap[b]? = some (.cells c2 t2 f2)) : t1 = t2 := by
 rw [h1] at h2; injection h2 with h2; injection h2
theorem ClX.grownB (h : ClX w F c m es) (hg : w.grownBy w5 c.bv.ownBlock) {bv' : Value} {k : Nat} (hk : k < es.length) (ho : w5.ownsRow 0 82 1 bv' (c.bgs.length + 1) ((c.bgs.map fun k => bptr (es.getD k 0)) ++ [bptr (es.getD k 0)])) :
  ClX w5 (orF F (fun b => bv'.ownBlock = some b)) { c with bv := bv', bgs := c.bgs ++ [k] } m es := by
 obtain ⟨xs, ha⟩ := h.ans
 have ag : Ag (fun b => c.bv.ownBlock ≠ some b) w w5 := Ag.grown h.beg (by decide) hg (fun g q r => r q)
 have npy : ∀ o ∈ c.ops, ∀ ad, o.A = some ad → c.bv.ownBlock ≠ some ad.block := fun o hm ad q r => by
  obtain ⟨_, _, h1⟩ := h.py o hm ad q
  obtain ⟨_, _, h2⟩ := own_at h.beg r
  exact absurd (heap_ty h1 h2) (by decide)
 refine ⟨h.ops.ag ag (fun g q r => ?_), fun o hm => (h.puts o hm).ag ag (npy o hm), ?_, ⟨xs, own_ag ha ag (fun g q => own_ne_own ha h.beg (by decide) q)⟩, fun x hx => ?_, fun q => ?_, h.len, fun g q => .inl (h.fo g q), fun g q => .inr q, fun g q => .inl (h.fa g q), fun o hm ad q => .inl (h.fp o hm ad q), fun o hm ad q => ?_⟩
 · obtain ⟨_, _, h1⟩ := h.ops.at_ q
   obtain ⟨_, _, h2⟩ := own_at h.beg r
   exact absurd (heap_ty h1 h2) (by decide)
 · rw [List.length_append, List.map_append]; exact ho
 · rcases List.mem_append.1 hx with q | q
   · exact h.bin x q
   · obtain rfl : x = k := by simpa using q
     exact hk
 · obtain ⟨o, l, e1, e2, i, k', t, e3, e4, e5, e6⟩ := h.ask q
   exact ⟨o, l, e1, e2, i, k', t, e3, by show (c.bgs ++ [k])[i]? = _; rw [List.getElem?_append_left (get_lt e4)]; exact e4, e5, e6⟩
 · obtain ⟨cs, fr, h1⟩ := h.py o hm ad q
   exact ⟨cs, fr, ag.keep _ _ h1 (.inl (npy o hm ad q))⟩
theorem ClX.grownA (h : ClX w F c m es) {xs : List Value} (ha : w.ownsRow 0 52 5 c.av c.na xs) (hg : w.grownBy w5 c.av.ownBlock) {av' : Value} {ys : List Value} (ho : w5.ownsRow 0 52 5 av' (c.na + 1) ys) :
  ClX w5 (orF F (fun b => av'.ownBlock = some b)) { c with av := av', na := c.na + 1 } m es := by
 have ag : Ag (fun b => c.av.ownBlock ≠ some b) w w5 := Ag.grown ha (by decide) hg (fun g q r => r q)
 have npy : ∀ o ∈ c.ops, ∀ ad, o.A = some ad → c.av.ownBlock ≠ some ad.block := fun o hm ad q r => by
  obtain ⟨_, _, h1⟩ := h.py o hm ad q
  obtain ⟨_, _, h2⟩ := own_at ha r
  exact absurd (heap_ty h1 h2) (by decide)
 refine ⟨h.ops.ag ag (fun g q r => ?_), fun o hm => (h.puts o hm).ag ag (npy o hm), own_ag h.beg ag (fun g q => own_ne_own h.beg ha (by decide) q), ⟨ys, ho⟩, h.bin, h.ask, h.len, fun g q => .inl (h.fo g q), fun g q => .inl (h.fb g q), fun g q => .inr q, fun o hm ad q => .inl (h.fp o hm ad q), fun o hm ad q => ?_⟩
 · obtain ⟨_, _, h1⟩ := h.ops.at_ q
   obtain ⟨_, _, h2⟩ := own_at ha r
   exact absurd (heap_ty h1 h2) (by decide)
 · obtain ⟨cs, fr, h1⟩ := h.py o hm ad q
   exact ⟨cs, fr, ag.keep _ _ h1 (.inl (npy o hm ad q))⟩
theorem ClX.grownO (h : ClX w F c m es) {o : OpD} (hg : w.grownBy w5 c.ov.ownBlock) {ov' : Value} (hp : IsPs w o.A o.n o.c o.ps) (hpy : ∀ ad, o.A = some ad → ∃ cs fr, w.heap[ad.block]? = some (.cells cs 50 fr)) (ho : OwnO w5 45 5 ov' (c.ops.length + 1) (c.ops.flatMap OpD.cells ++ o.cells)) (hl : c.ops.length + 1 ≤ 200) :
  ClX w5 (orF F (fun b => ov'.ownBlock = some b ∨ ∃ ad, o.A = some ad ∧ b = ad.block)) { c with ov := ov', ops := c.ops ++ [o] } m es := by
 obtain ⟨xs, ha⟩ := h.ans
 have ag : Ag (fun b => c.ov.ownBlock ≠ some b) w w5 := by
  refine ⟨hg.size, fun b ob hb q => ?_⟩
  by_cases e : c.ov.ownBlock = some b
  · rcases q with q | q
    · exact absurd e q
    · obtain ⟨_, _, h1⟩ := h.ops.at_ e
      obtain ⟨cs, fr, rfl⟩ := q
      exact absurd (heap_ty h1 hb) (by decide)
  · rw [hg.block b (lt_of hb) (fun r => e r.symm)]; exact hb
 have nty : ∀ {b : Nat} {cs : Array Value} {t : TypeId} {fr : Nat × Nat}, w.heap[b]? = some (.cells cs t fr) → t ≠ 45 → c.ov.ownBlock ≠ some b := fun h1 hn r => by
  obtain ⟨_, _, h2⟩ := h.ops.at_ r
  exact hn (heap_ty h1 h2)
 have npy : ∀ x ∈ c.ops, ∀ ad, x.A = some ad → c.ov.ownBlock ≠ some ad.block := fun x hm ad q => by
  obtain ⟨_, _, h1⟩ := h.py x hm ad q
  exact nty h1 (by decide)
 have nnew : ∀ ad, o.A = some ad → c.ov.ownBlock ≠ some ad.block := fun ad q => by
  obtain ⟨_, _, h1⟩ := hpy ad q
  exact nty h1 (by decide)
 refine ⟨?_, fun x hm => ?_, own_ag h.beg ag (fun g q => ?_), ⟨xs, own_ag ha ag (fun g q => ?_)⟩, h.bin, fun q => ?_, by show (c.ops ++ [o]).length ≤ 200; rw [List.length_append]; exact hl, fun g q => .inr (.inl q), fun g q => .inl (h.fb g q), fun g q => .inl (h.fa g q), fun x hm ad q => ?_, fun x hm ad q => ?_⟩
 · show OwnO w5 _ 5 ov' (c.ops ++ [o]).length _
   rw [List.length_append, List.flatMap_append]; simpa using ho
 · rcases List.mem_append.1 hm with s | s
   · exact (h.puts x s).ag ag (npy x s)
   · obtain rfl : x = o := by simpa using s
     exact hp.ag ag nnew
 · obtain ⟨_, _, h1⟩ := own_at h.beg q
   exact nty h1 (by decide)
 · obtain ⟨_, _, h1⟩ := own_at ha q
   exact nty h1 (by decide)
 · obtain ⟨o', l, e1, e2, r⟩ := h.ask q
   exact ⟨o', l ++ [o], by show c.ops ++ [o] = _; rw [e1]; rfl, e2, r⟩
 · rcases List.mem_append.1 hm with s | s
   · exact .inl (h.fp x s ad q)
   · obtain rfl : x = o := by simpa using s
     exact .inr (.inr ⟨ad, q, rfl⟩)
 · rcases List.mem_append.1 hm with s | s
   · obtain ⟨cs, fr, h1⟩ := h.py x s ad q
     exact ⟨cs, fr, ag.keep _ _ h1 (.inl (npy x s ad q))⟩
   · obtain rfl : x = o := by simpa using s
     obtain ⟨cs, fr, h1⟩ := hpy ad q
     exact ⟨cs, fr, ag.keep _ _ h1 (.inl (nnew ad q))⟩
theorem ClX.tail (h : ClX w F c m es) {o : OpD} {l : List OpD} (ho : c.ops = o :: l) {gq off cap : Nat} (hov : c.ov = .slice (some ⟨gq, off, none⟩) (l.length + 1) cap) {ov' : Value} (hov' : ov' = .slice (some ⟨gq, if cap = 1 then off else off + 5, none⟩) l.length (cap - 1)) :
  ClX w F { c with ov := ov', ops := l, asked := false } m es := by
 have hops := h.ops
 rw [ho, hov] at hops
 have ht : OwnO w 45 5 ov' l.length (l.flatMap OpD.cells) := by
  rw [hov']
  by_cases e : cap = 1
  · rw [if_pos e]
    obtain rfl : l = [] := by
     obtain ⟨A, c', e1, e2, _⟩ := hops.shape
     injection e1 with _ _ e1
     have : l.length + 1 ≤ cap := by rw [e1]; simpa using e2
     exact List.eq_nil_of_length_eq_zero (by omega)
    subst e
    exact hops.empty (A := none) (c := 0) gq off 1
  · rw [if_neg e]
    have := hops.tail
    rwa [show (o :: l).flatMap OpD.cells = o.cells ++ l.flatMap OpD.cells from rfl, List.drop_left' (op_five o)] at this
 have mem : ∀ x ∈ l, x ∈ c.ops := fun x hx => by rw [ho]; exact List.mem_cons_of_mem _ hx
 refine ⟨ht, fun x hx => h.puts x (mem x hx), h.beg, h.ans, h.bin, (fun q => by cases q), ?_, fun g q => ?_, h.fb, h.fa, fun x hx => h.fp x (mem x hx), fun x hx => h.py x (mem x hx)⟩
 · have := h.len; rw [ho] at this; exact Nat.le_of_succ_le this
 · have q : ov'.ownBlock = some g := q
   rw [hov'] at q
   refine h.fo g ?_
   rw [hov]; exact q
theorem ClX.asks (h : ClX w F c m es) {o : OpD} {l : List OpD} (ho : c.ops = o :: l) (hk : o.kind = 4) {i k : Nat} {t : TX} (e1 : o.h = (i : Nat)) (e2 : c.bgs[i]? = some k) (e3 : m.txs[k]? = some t) (e4 : t.st ≠ 1) : ClX w F { c with asked := true } m es :=
 ⟨h.ops, h.puts, h.beg, h.ans, h.bin, fun _ => ⟨o, l, ho, hk, i, k, t, e1, e2, e3, e4⟩, h.len, h.fo, h.fb, h.fa, h.fp, h.py⟩
theorem own_sub {v v' : Value} {w : World} {B e s n : Nat} {xs : List Value} (ho : w5.ownsRow B e s v' n xs) {Fj : Foot} {g0 : Nat} (hF : ∀ b, v.ownBlock = some b → Fj b) (hv : v'.ownBlock = v.ownBlock ∨ v'.ownBlock = some g0) (hg : w.heap.size ≤ g0) (hin : ∀ b, Fj b → b < w5.heap.size) : Sb w Fj (orF Fj (fun b => v'.ownBlock = some b)) ∧ In w5 (orF Fj (fun b => v'.ownBlock = some b)) :=
 ⟨Sb.or (fun b q => by
  rcases hv with s | s
  · exact .inl (hF b (s.symm.trans q))
  · rw [s] at q; injection q with q; exact .inr (by omega)), fun b q => by
  rcases q with q | q
  · exact hin b q
  · obtain ⟨_, _, hh⟩ := own_at ho q
    exact lt_of hh⟩
theorem SchX.begc (h : SchX w F Ft sb st dp alv cls al es bg m ev pos g) (hj : cls[j]? = some c) {bv' : Value} {k : Nat} (hk : k < es.length) (ho : w5.ownsRow 0 82 1 bv' (c.bgs.length + 1) ((c.bgs.map fun k => bptr (es.getD k 0)) ++ [bptr (es.getD k 0)])) (hg : w.grownBy w5 c.bv.ownBlock) (hv : bv'.ownBlock = c.bv.ownBlock ∨ bv'.ownBlock = some w.heap.size) (e : w' = w5.setCell ⟨sb, 2 + (j * 4 + 1), none⟩ bv') :
  ∃ F' Ft', SchX w' F' Ft' sb st dp alv (cls.set j { c with bv := bv', bgs := c.bgs ++ [k] }) al es bg m ev pos g ∧ Kf F w w' ∧ Sb w F F' ∧ In w' F' := by
 have hc := h.cl j c hj
 have k5 : Kf (Ft (3 + j)) w w5 := ((Kf.refl (fun b => c.bv.ownBlock = some b) w).grown hc.beg hg (fun g q => .inl ⟨q, by decide⟩)).mono hc.fb
 have b5 : Bk w5 sb 71 (sccells dp st cls alv ev) := Bk.ag h.bx (h.fam.ag k5 (by omega : 0 ≠ 3 + j)) h.f0
 obtain ⟨s1, s2⟩ := own_sub (w := w) ho hc.fb hv (Nat.le_refl _) (fun b q => Nat.lt_of_lt_of_le (h.fam.inn _ b q) k5.size)
 refine h.cld hj k5 s1 s2 (hc.grownB hg hk ho) (by rw [e]; exact (Kf.refl (fun b => b = sb) w5).set b5 (by decide) (.inl rfl) _ _) ?_
 rw [e]
 have := b5.set (2 + (j * 4 + 1)) bv'
 rwa [sc_set (c' := { c with bv := bv', bgs := c.bgs ++ [k] }) h.cl8 hj (by decide) rfl] at this
theorem SchX.ansc (h : SchX w F Ft sb st dp alv cls al es bg m ev pos g) (hj : cls[j]? = some c) {av' : Value} {xs ys : List Value} (ha : w.ownsRow 0 52 5 c.av c.na xs) (ho : w5.ownsRow 0 52 5 av' (c.na + 1) ys) (hg : w.grownBy w5 c.av.ownBlock) (hv : av'.ownBlock = c.av.ownBlock ∨ av'.ownBlock = some w.heap.size) (e : w' = w5.setCell ⟨sb, 2 + (j * 4 + 2), none⟩ av') :
  ∃ F' Ft', SchX w' F' Ft' sb st dp alv (cls.set j { c with av := av', na := c.na + 1 }) al es bg m ev pos g ∧ Kf F w w' ∧ Sb w F F' ∧ In w' F' := by
 have hc := h.cl j c hj
 have k5 : Kf (Ft (3 + j)) w w5 := ((Kf.refl (fun b => c.av.ownBlock = some b) w).grown ha hg (fun g q => .inl ⟨q, by decide⟩)).mono hc.fa
 have b5 : Bk w5 sb 71 (sccells dp st cls alv ev) := Bk.ag h.bx (h.fam.ag k5 (by omega : 0 ≠ 3 + j)) h.f0
 obtain ⟨s1, s2⟩ := own_sub (w := w) ho hc.fa hv (Nat.le_refl _) (fun b q => Nat.lt_of_lt_of_le (h.fam.inn _ b q) k5.size)
 refine h.cld hj k5 s1 s2 (hc.grownA ha hg ho) (by rw [e]; exact (Kf.refl (fun b => b = sb) w5).set b5 (by decide) (.inl rfl) _ _) ?_
 rw [e]
 have := b5.set (2 + (j * 4 + 2)) av'
 rwa [sc_set (c' := { c with av := av', na := c.na + 1 }) h.cl8 hj (by decide) rfl] at this
theorem SchX.addc {w1 : World} (h : SchX w F Ft sb st dp alv cls al es bg m ev pos g) (hb : Below w.heap.size w w1) (hj : cls[j]? = some c) {ov' : Value} {o : OpD} (hp : IsPs w1 o.A o.n o.c o.ps) (hpy : ∀ ad, o.A = some ad → w.heap.size ≤ ad.block ∧ ∃ cs fr, w1.heap[ad.block]? = some (.cells cs 50 fr)) (ho : OwnO w5 45 5 ov' (c.ops.length + 1) (c.ops.flatMap OpD.cells ++ o.cells)) (hg : w1.grownBy w5 c.ov.ownBlock) (hv : ov'.ownBlock = c.ov.ownBlock ∨ ∀ b, ov'.ownBlock = some b → w1.heap.size ≤ b) (hl : c.ops.length + 1 ≤ 200) (e : w' = w5.setCell ⟨sb, 2 + (j * 4 + 0), none⟩ ov') :
  ∃ F' Ft', SchX w' F' Ft' sb st dp alv (cls.set j { c with ov := ov', ops := c.ops ++ [o] }) al es bg m ev pos g ∧ Kf F w w' ∧ Sb w F F' ∧ In w' F' := by
 have h1 := h.next hb
 have hc := h1.cl j c hj
 have k5 : Kf (Ft (3 + j)) w1 w5 := by
  refine ⟨hg.os, hg.tape, hg.output, hg.size, fun b ob hb q => ?_⟩
  by_cases e : c.ov.ownBlock = some b
  · rcases q with q | q
    · exact absurd (hc.fo b e) q
    · obtain ⟨_, _, h1⟩ := hc.ops.at_ e
      obtain ⟨cs, fr, rfl⟩ := q
      exact absurd (heap_ty h1 hb) (by decide)
  · rw [hg.block b (lt_of hb) (fun r => e r.symm)]; exact hb
 have k05 : Kf (Ft (3 + j)) w w5 := (Kf.of_below (F := Ft (3 + j)) hb).trans k5 (fun b q => .inl q)
 have b5 : Bk w5 sb 71 (sccells dp st cls alv ev) := Bk.ag h.bx (h.fam.ag k05 (by omega : 0 ≠ 3 + j)) h.f0
 have hx := hc.grownO hg hp (fun ad q => (hpy ad q).2) ho hl
 have s1 : Sb w (Ft (3 + j)) (orF (Ft (3 + j)) (fun b => ov'.ownBlock = some b ∨ ∃ ad, o.A = some ad ∧ b = ad.block)) := Sb.or (fun b q => by
  rcases q with q | ⟨ad, q, rfl⟩
  · rcases hv with s | s
    · exact .inl (hc.fo b (s.symm.trans q))
    · exact .inr (Nat.le_trans hb.size (s b q))
  · exact .inr (hpy ad q).1)
 have s2 : In w5 (orF (Ft (3 + j)) (fun b => ov'.ownBlock = some b ∨ ∃ ad, o.A = some ad ∧ b = ad.block)) := fun b q => by
  rcases q with q | q | ⟨ad, q, rfl⟩
  · exact Nat.lt_of_lt_of_le (h.fam.inn _ b q) k05.size
  · obtain ⟨_, _, hh⟩ := ho.at_ q
    exact lt_of hh
  · obtain ⟨_, _, hh⟩ := (hpy ad q).2
    exact Nat.lt_of_lt_of_le (lt_of hh) k5.size
 refine h.cld hj k05 s1 s2 hx (by rw [e]; exact (Kf.refl (fun b => b = sb) w5).set b5 (by decide) (.inl rfl) _ _) ?_
 rw [e]
 have := b5.set (2 + (j * 4 + 0)) ov'
 rwa [sc_set (c' := { c with ov := ov', ops := c.ops ++ [o] }) h.cl8 hj (by decide) rfl] at this
end
end
section
open Go.RowKit Go.Maps
theorem cm_good {m m' : MS} {i : Nat} {t : TX} {r : Int} (h : GoodM m) (ht : m.txs[i]? = some t) (hc : m.given < 1000) (hr : cmR m i t r m') :
  GoodM m' ∧ Ext m m' ∧ m'.txs.length = m.txs.length ∧ m'.given ≤ m.given + 1 ∧ m'.num = m.num := by
 have hk := (h.rng i t ht).2.2
 have hl : ∀ u : TX, (m.txs.set i u).length = m.txs.length := fun u => List.length_set
 rcases hr with ⟨_, _, rfl⟩ | ⟨h1, ⟨h2, _, rfl⟩ | ⟨h2, ⟨_, _, rfl⟩ | ⟨_, rfl⟩⟩⟩
 · exact ⟨h, Ext.refl _, rfl, Nat.le_succ _, rfl⟩
 · obtain ⟨a, b⟩ := h.put (t' := { t with st := 3, time := t.at' }) ht h1 rfl hk (.inr (.inr ⟨rfl, h2, rfl⟩))
   exact ⟨a, b, hl _, Nat.le_succ _, rfl⟩
 · obtain ⟨a, b⟩ := h.put (t' := { t with st := 4, time := 0 }) ht h1 rfl hk (.inr (.inl rfl))
   exact ⟨a, b, hl _, Nat.le_succ _, rfl⟩
 · obtain ⟨a, b⟩ := h.pend ht h1 h2 hc
   exact ⟨a, b, hl _, Nat.le_refl _, rfl⟩
theorem wr_good {m m' : MS} {i n : Nat} {t : TX} {ps : List PutD} {r : Int} (h : GoodM m) (ht : m.txs[i]? = some t) (hr : wrR m i t n ps r m') :
  GoodM m' ∧ Ext m m' ∧ m'.txs.length = m.txs.length := by
 rcases hr with ⟨_, rfl⟩ | ⟨h1, ks', rfl, hk, _⟩
 · exact ⟨h, Ext.refl _, rfl⟩
 · obtain ⟨a, b⟩ := h.put (t' := { t with keys := ks' }) ht h1 rfl hk (.inl h1)
   exact ⟨a, b, List.length_set⟩
def flR (m : MS) (pos : Nat) (r : Int) (pos' : Nat) (m' : MS) : Prop :=
 (m.queue = [] ∧ r = 14 ∧ m' = m ∧ pos' = pos) ∨ (m.queue ≠ [] ∧ ∃ n L, 0 < n ∧ n ≤ m.queue.length ∧ L ≤ 33 ∧ ((pos + L ≤ 192 ∧ r = 0 ∧ pos' = pos + L ∧ m' = { m.pops true n with num := m.num + 1 }) ∨ (192 < pos + L ∧ r = 9 ∧ pos' = pos ∧ m' = m.pops false n)))
theorem pop_num (m : MS) (ok : Bool) : (m.pop ok).num = m.num ∧ (m.pop ok).given = m.given ∧ (m.pop ok).txs.length = m.txs.length ∧ (m.pop ok).read = m.read := by
 unfold MS.pop
 split
 · exact ⟨rfl, rfl, rfl, rfl⟩
 · split
   · exact ⟨rfl, rfl, rfl, rfl⟩
   · exact ⟨rfl, rfl, List.length_set, rfl⟩
theorem pops_num (ok : Bool) : ∀ (n : Nat) (m : MS), (m.pops ok n).num = m.num ∧ (m.pops ok n).given = m.given ∧ (m.pops ok n).txs.length = m.txs.length ∧ (m.pops ok n).read = m.read
 | 0, m => ⟨rfl, rfl, rfl, rfl⟩
 | n + 1, m => by
   obtain ⟨a, b, c, d⟩ := pops_num ok n (m.pop ok)
   obtain ⟨a', b', c', d'⟩ := pop_num m ok
   exact ⟨a.trans a', b.trans b', c.trans c', d.trans d'⟩
theorem fl_good {m m' : MS} {pos pos' : Nat} {r : Int} (h : GoodM m) (hn : m.num < 1000) (hr : flR m pos r pos' m') :
  GoodM m' ∧ Ext m m' ∧ m'.txs.length = m.txs.length ∧ m'.given = m.given ∧ m'.num ≤ m.num + 1 := by
 rcases hr with ⟨_, _, rfl, _⟩ | ⟨_, n, L, _, h2, _, ⟨_, _, _, rfl⟩ | ⟨_, _, _, rfl⟩⟩
 · exact ⟨h, Ext.refl _, rfl, rfl, Nat.le_succ _⟩
 · obtain ⟨a, b⟩ := h.pops true n h2
   obtain ⟨p1, p2, p3, _⟩ := pops_num true n m
   obtain ⟨c, d⟩ := a.num (k := m.num + 1) (by omega)
   exact ⟨c, b.trans d, p3, p2, Nat.le_refl _⟩
 · obtain ⟨a, b⟩ := h.pops false n h2
   obtain ⟨p1, p2, p3, _⟩ := pops_num false n m
   exact ⟨a, b, p3, p2, by rw [p1]; exact Nat.le_succ _⟩
theorem pops_queue (ok : Bool) : ∀ (n : Nat) (m : MS), GoodM m → n ≤ m.queue.length → (m.pops ok n).queue = m.queue.drop n
 | 0, m, _, _ => rfl
 | n + 1, m, h, hn => by
   match hq : m.queue with
   | [] => rw [hq] at hn; simp at hn
   | i :: q =>
     obtain ⟨t, hi, _⟩ := h.que i (by rw [hq]; exact List.mem_cons_self)
     have hl : (m.pop ok).queue = q := by rw [pop_eq ok hq hi]
     have := pops_queue ok n (m.pop ok) (h.pop ok hq).1 (by rw [hl]; rw [hq] at hn; simpa using hn)
     show ((m.pop ok).pops ok n).queue = _
     rw [this, hl]; rfl
theorem pops_keep (ok : Bool) : ∀ (n : Nat) (m : MS), GoodM m → n ≤ m.queue.length → ∀ i, i ∉ m.queue.take n → (m.pops ok n).txs[i]? = m.txs[i]?
 | 0, m, _, _, _, _ => rfl
 | n + 1, m, h, hn, i, hi => by
   match hq : m.queue with
   | [] => rw [hq] at hn; simp at hn
   | j :: q =>
     obtain ⟨t, hj, _⟩ := h.que j (by rw [hq]; exact List.mem_cons_self)
     rw [hq] at hi
     have e := pop_eq ok hq hj
     have := pops_keep ok n (m.pop ok) (h.pop ok hq).1 (by rw [e]; rw [hq] at hn; simpa using hn) i (by rw [e]; exact fun r => hi (by simp only [List.take_succ_cons]; exact List.mem_cons_of_mem _ r))
     show ((m.pop ok).pops ok n).txs[i]? = _
     rw [this, e]
     show (m.txs.set j (t.done ok))[i]? = _
     rw [List.getElem?_set, if_neg (fun r => hi (by simp only [List.take_succ_cons, r]; exact List.mem_cons_self))]
theorem queue_nodup {m : MS} (h : GoodM m) {n i : Nat} (hi : m.queue[n]? = some i) : i ∉ m.queue.take n := fun q => by
 obtain ⟨k, hk, e⟩ := List.getElem_of_mem q
 have hkn : k < n := by rw [List.length_take] at hk; omega
 have hn := get_lt hi
 have hs := h.srt
 rw [List.pairwise_iff_getElem] at hs
 have := hs k n (by omega) hn hkn
 obtain ⟨t, ht, _⟩ := h.que i (List.mem_of_getElem? hi)
 rw [List.getElem_take] at e
 rw [List.getElem?_eq_getElem hn] at hi
 rw [e, Option.some.inj hi] at this
 exact absurd (this t t ht ht) (Nat.lt_irrefl _)
theorem pops_step {m : MS} (h : GoodM m) (ok : Bool) {n i : Nat} (hi : m.queue[n]? = some i) : ∃ t, m.txs[i]? = some t ∧ (m.pops ok n).txs[i]? = some t ∧ t.st = 2 ∧ 0 < t.time ∧ m.pops ok (n + 1) = { m.pops ok n with txs := (m.pops ok n).txs.set i (t.done ok), last := if ok then t.time else (m.pops ok n).last, queue := m.queue.drop (n + 1) } := by
 have hn := get_lt hi
 have hg := (h.pops ok n (Nat.le_of_lt hn)).1
 have hq := pops_queue ok n m h (Nat.le_of_lt hn)
 have hc : (m.pops ok n).queue = i :: m.queue.drop (n + 1) := by
  rw [hq, List.drop_eq_getElem_cons hn]
  rw [List.getElem?_eq_getElem hn] at hi
  rw [Option.some.inj hi]
 obtain ⟨t, ht, h2, h3, h4, _⟩ := hg.que i (by rw [hc]; exact List.mem_cons_self)
 exact ⟨t, by rw [← pops_keep ok n m h (Nat.le_of_lt hn) i (queue_nodup h hi)]; exact ht, ht, h2, by omega, by rw [pops_succ, pop_eq ok hc ht]⟩
end
section
open Go.RowKit Go.Maps
theorem stcells_at {w : World} {sb gd mb gs pos num : Nat} (h : Bk w sb 108 (stcells gd mb gs pos num)) :
  w.cell? ⟨sb, 0, none⟩ = some (.pointer (some ⟨gd, 0, none⟩)) ∧ w.cell? ⟨sb, 3, none⟩ = some (.int .i64 6) ∧ w.cell? ⟨sb, 4, none⟩ = some (.int .i64 7) ∧ w.cell? ⟨sb, 5, none⟩ = some (.pointer (some ⟨mb, 0, none⟩)) ∧ w.cell? ⟨sb, 6, none⟩ = some (.pointer (some ⟨gs, 0, none⟩)) ∧ w.cell? ⟨sb, 7, none⟩ = some (.int .i64 (pos : Int)) ∧ w.cell? ⟨sb, 8, none⟩ = some (.int .i64 (num : Int)) ∧ w.cell? ⟨sb, 9, none⟩ = some (.bool false) :=
 ⟨h.cell (i := 0) (by simp [stcells]), h.cell (i := 3) (by simp [stcells]), h.cell (i := 4) (by simp [stcells]), h.cell (i := 5) (by simp [stcells]), h.cell (i := 6) (by simp [stcells]), h.cell (i := 7) (by simp [stcells]), h.cell (i := 8) (by simp [stcells]), h.cell (i := 9) (by simp [stcells])⟩
theorem stdead_any (sb gd mb gs pos num : Nat) (w : World) (h : Bk w sb 108 (stcells gd mb gs pos num)) :
  Calls Tryz.prog 41 #[.pointer (some ⟨sb, 0, none⟩)] w fun e w' => e = .returned (.bool false) ∧ w = w' := by
 obtain ⟨c0, _, _, _, _, _, _, c9⟩ := stcells_at h
 clear h
 go_enter Tryz.func41, Tryz.ntmps41
 go_wp2_with fail
 go_ret
 exact ⟨rfl, rfl⟩
theorem stman_any (sb gd mb gs pos num : Nat) (w : World) (h : Bk w sb 108 (stcells gd mb gs pos num)) :
  Calls Tryz.prog 58 #[.pointer (some ⟨sb, 0, none⟩)] w fun e w' => e = .returned (.pointer (some ⟨mb, 0, none⟩)) ∧ w = w' := by
 obtain ⟨_, _, _, c5, _⟩ := stcells_at h
 clear h
 go_enter Tryz.func58, Tryz.ntmps58
 go_wp2_with fail
 go_ret
 exact ⟨rfl, rfl⟩
theorem sLast {w : World} {F : Foot} {Ft : Nat → Foot} {sb gd mb gs pos num count g : Nat} {ns : List Nat} {m : MS} (h : StoX w F Ft sb gd mb gs pos num count ns m g) :
  Calls Tryz.prog 109 #[.pointer (some ⟨sb, 0, none⟩)] w fun e w' => e = .returned (.int .i64 (m.last : Int)) ∧ w = w' := by
 have hd := stman_any sb gd mb gs pos num w h.bx
 obtain ⟨_, _, _, c5, _⟩ := stcells_at h.bx
 have hm := mLast h.man
 have H := Lib.hid h
 clear h
 go_enter Tryz.func109, Tryz.ntmps109
 go_wp2_with fail
 refine hd.mono ?_
 rintro e w' ⟨rfl, rfl⟩
 clear hd
 go_wp2_with fail
 refine hm.mono ?_
 rintro e w' ⟨rfl, rfl⟩
 clear hm
 go_wp2_with fail
 go_ret
 exact ⟨rfl, rfl⟩
theorem sQueue {w : World} {F : Foot} {Ft : Nat → Foot} {sb gd mb gs pos num count g : Nat} {ns : List Nat} {m : MS} (h : StoX w F Ft sb gd mb gs pos num count ns m g) :
  Calls Tryz.prog 131 #[.pointer (some ⟨sb, 0, none⟩)] w fun e w' => e = .returned (.int .i64 (m.queue.length : Int)) ∧ w = w' := by
 have hd := stman_any sb gd mb gs pos num w h.bx
 obtain ⟨_, _, _, c5, _⟩ := stcells_at h.bx
 have hm := mQueue h.man
 have H := Lib.hid h
 clear h
 go_enter Tryz.func131, Tryz.ntmps131
 go_wp2_with fail
 refine hd.mono ?_
 rintro e w' ⟨rfl, rfl⟩
 clear hd
 go_wp2_with fail
 refine hm.mono ?_
 rintro e w' ⟨rfl, rfl⟩
 clear hm
 go_wp2_with fail
 go_ret
 exact ⟨rfl, rfl⟩
theorem sOpen {w : World} {F : Foot} {Ft : Nat → Foot} {sb gd mb gs pos num count g : Nat} {ns : List Nat} {m : MS} (h : StoX w F Ft sb gd mb gs pos num count ns m g) :
  Calls Tryz.prog 130 #[.pointer (some ⟨sb, 0, none⟩)] w fun e w' => (∃ k : Nat, e = .returned (.int .i64 (k : Int)) ∧ (m.txs = [] → k = 0)) ∧ Below w.heap.size w w' := by
 have hd := stman_any sb gd mb gs pos num w h.bx
 obtain ⟨_, _, _, c5, _⟩ := stcells_at h.bx
 have hm := mOpen h.man
 have H := Lib.hid h
 clear h
 go_enter Tryz.func130, Tryz.ntmps130
 go_wp2_with fail
 refine hd.mono ?_
 rintro e w' ⟨rfl, rfl⟩
 clear hd
 go_wp2_with fail
 refine hm.mono ?_
 rintro e w' ⟨⟨k, rfl, hk⟩, hb⟩
 clear hm
 go_wp2_with fail
 go_ret
 exact ⟨⟨k, rfl, hk⟩, hb⟩
theorem sResult {w : World} {F : Foot} {Ft : Nat → Foot} {sb gd mb gs pos num count g : Nat} {ns : List Nat} {m : MS} (h : StoX w F Ft sb gd mb gs pos num count ns m g) {i : Nat} {t : TX} (ht : m.txs[i]? = some t) :
  Calls Tryz.prog 171 #[.pointer (some ⟨sb, 0, none⟩), .int .i64 ((i : Int) + 1)] w fun e w' => (∃ code : Int, e = .returned (.tuple #[.int .i64 (t.st : Int), .int .i64 (t.time : Int), .int .i64 code])) ∧ Below w.heap.size w w' := by
 have hd := stman_any sb gd mb gs pos num w h.bx
 obtain ⟨_, _, _, c5, _⟩ := stcells_at h.bx
 have hm := mResult h.man ht
 have H := Lib.hid h
 clear h
 go_enter Tryz.func171, Tryz.ntmps171
 go_wp2_with fail
 refine hd.mono ?_
 rintro e w' ⟨rfl, rfl⟩
 clear hd
 go_wp2_with fail
 refine hm.mono ?_
 rintro e w' ⟨⟨code, rfl⟩, hb⟩
 clear hm
 go_wp2_with fail
 go_ret3
 exact ⟨⟨code, rfl⟩, hb⟩
theorem sReadOnly {w : World} {F : Foot} {Ft : Nat → Foot} {sb gd mb gs pos num count g : Nat} {ns : List Nat} {m : MS} (h : StoX w F Ft sb gd mb gs pos num count ns m g) (hg : g + 1 ≤ 700) (yes : Bool) :
  Calls Tryz.prog 50 #[.pointer (some ⟨sb, 0, none⟩), .bool yes] w fun e w' => e = .returned (.tuple #[]) ∧ StoR w w' F sb pos { m with read := yes } (g + 1) := by
 have hd := stman_any sb gd mb gs pos num w h.bx
 obtain ⟨_, _, _, c5, _⟩ := stcells_at h.bx
 have hm := mReadOnly h.man hg yes
 have H := Lib.hid h
 clear h
 go_enter Tryz.func50, Tryz.ntmps50
 go_wp2_with fail
 refine hd.mono ?_
 rintro e w' ⟨rfl, rfl⟩
 clear hd
 go_wp2_with fail
 refine hm.mono ?_
 rintro e w' ⟨rfl, hr⟩
 have HR := Lib.hid (H.out.mandR hr)
 clear hr
 clear hm
 go_wp2_with fail
 go_end0
 exact ⟨rfl, HR.out⟩
theorem sAbort {w : World} {F : Foot} {Ft : Nat → Foot} {sb gd mb gs pos num count g : Nat} {ns : List Nat} {m : MS} (h : StoX w F Ft sb gd mb gs pos num count ns m g) (hg : g + 1 ≤ 700) {i : Nat} {t : TX} (ht : m.txs[i]? = some t) :
  Calls Tryz.prog 113 #[.pointer (some ⟨sb, 0, none⟩), .int .i64 ((i : Int) + 1)] w fun e w' => ∃ r : Int, e = .returned (.int .i64 r) ∧ ((t.st = 1 ∧ r = 0 ∧ StoR w w' F sb pos (m.put i { t with st := 4, time := 0 }) (g + 1)) ∨ (t.st ≠ 1 ∧ r = 5 ∧ StoR w w' F sb pos m (g + 1))) := by
 have hd := stdead_any sb gd mb gs pos num w h.bx
 obtain ⟨_, _, _, c5, _⟩ := stcells_at h.bx
 have hm := mAbort h.man hg ht
 have H := Lib.hid h
 clear h
 go_enter Tryz.func113, Tryz.ntmps113
 go_wp2_with fail
 refine hd.mono ?_
 rintro e w' ⟨rfl, rfl⟩
 clear hd
 go_wp2_with fail
 refine hm.mono ?_
 rintro e w' ⟨r, rfl, hr⟩
 have HR := Lib.hid (hr.imp (fun a => And.intro a.1 (And.intro a.2.1 (H.out.mandR a.2.2))) (fun a => And.intro a.1 (And.intro a.2.1 (H.out.mandR a.2.2))))
 clear hr
 clear hm
 go_wp2_with fail
 go_ret
 exact ⟨r, rfl, HR.out⟩
theorem sWrite {w : World} {F : Foot} {Ft : Nat → Foot} {sb gd mb gs pos num count g : Nat} {ns : List Nat} {m : MS} (h : StoX w F Ft sb gd mb gs pos num count ns m g) (hg : g + 1 ≤ 700) {i : Nat} {t : TX} (ht : m.txs[i]? = some t) {A : Option Addr} {n c : Nat} {ps : List PutD} (hp : IsPs w A n c ps) (hn : n ≤ 20000) :
  Calls Tryz.prog 112 #[.pointer (some ⟨sb, 0, none⟩), .int .i64 ((i : Int) + 1), .slice A n c] w fun e w' => ∃ r : Int, e = .returned (.int .i64 r) ∧ ∃ m', wrR m i t n ps r m' ∧ StoR w w' F sb pos m' (g + 1) := by
 have hd := stdead_any sb gd mb gs pos num w h.bx
 obtain ⟨_, _, _, c5, _⟩ := stcells_at h.bx
 have hm := mWrite h.man hg ht hp hn
 have H := Lib.hid h
 clear h
 go_enter Tryz.func112, Tryz.ntmps112
 go_wp2_with fail
 refine hd.mono ?_
 rintro e w' ⟨rfl, rfl⟩
 clear hd
 go_wp2_with fail
 refine hm.mono ?_
 rintro e w' ⟨r, rfl, m', hw, hr⟩
 have HR := Lib.hid (And.intro hw (H.out.mandR hr))
 clear hr hw
 clear hm
 go_wp2_with fail
 go_ret
 exact ⟨r, rfl, m', HR.out⟩
theorem sRead {w : World} {F : Foot} {Ft : Nat → Foot} {sb gd mb gs pos num count g : Nat} {ns : List Nat} {m : MS} (h : StoX w F Ft sb gd mb gs pos num count ns m g) (hg : g + 1 ≤ 700) {i : Nat} {t : TX} (ht : m.txs[i]? = some t) (f l : Int) :
  Calls Tryz.prog 111 #[.pointer (some ⟨sb, 0, none⟩), .int .i64 ((i : Int) + 1), .agg #[.int .i64 f, .int .i64 l]] w fun e w' => (∃ v, ∃ r : Int, e = .returned (.tuple #[v, .int .i64 r]) ∧ ∃ bs, Byt w' w.heap.size v bs ∧ bs.length ≤ 640) ∧ StoR w w' F sb pos m (g + 1) := by
 obtain ⟨w5, hw5⟩ : ∃ w5, w.alloc (.cells #[.int .i64 f, .int .i64 l] 197) = w5 := ⟨_, rfl⟩
 have hB5 : Bk w5 w.heap.size 197 [.int .i64 f, .int .i64 l] := by rw [← hw5]; exact Bk.new w _ _
 have hb5 : Below w.heap.size w w5 := by rw [← hw5]; exact (Below.refl _ _).alloc (Nat.le_refl _) _
 obtain ⟨d0, d1⟩ := hB5.c2
 have h5 := h.next hb5
 have hd := stdead_any sb gd mb gs pos num w5 h5.bx
 have KK := Lib.hid (fun (w' : World) (hS : Below w5.heap.size w5 w') => And.intro (stcells_at (h5.next hS).bx).2.2.2.1 (And.intro ((hB5.next hS hB5.lt).cell (i := 0) (by simp)) ((hB5.next hS hB5.lt).cell (i := 1) (by simp))))
 have H := Lib.hid (And.intro h5 hb5)
 have HT := Lib.hid (And.intro hg ht)
 clear h h5 hb5 hB5 d0 d1 hg ht
 go_enter Tryz.func111, Tryz.ntmps111
 go_wp2_with fail
 refine hd.mono ?_
 rintro e w' ⟨rfl, rfl⟩
 clear hd
 go_wp2_with fail
 have Kq := KK
 refine anyM_start (fun w' => Below w5.heap.size w5 w') [6] (by kernel_rfl) (bdrew (Below.refl _ _)) (fun hHeld => ?_)
 refine kR 0 ?_; refine kR 1 ?_; refine kR 2 ?_; refine kR 4 ?_
 refine kM 3 ?_; refine kM 5 ?_
 refine rM 6 (fun K hK => ?_)
 go_simp
 have hS := H.out.1.next hHeld
 refine (mRead hS.man HT.out.1 HT.out.2 f l).mono ?_
 rintro e w7 ⟨⟨v, r, rfl, bs, hbs, hbl⟩, hr⟩
 have hb := H.out.2.trans (hHeld.mono H.out.2.size)
 have HR := Lib.hid (And.intro (hbs.base hb.size) (And.intro hbl (StoR.pre hb (hS.mandR hr))))
 obtain ⟨vA, vc, rfl⟩ := own_shape hbs.1
 clear hS hbs hbl hr hb
 go_simp
 refine hK.out _ _ (fun h => absurd (by decide) h) ?_
 clear hK K
 try simp only [Act.put, List.setIfInBounds_toArray, List.set_cons_zero, List.set_cons_succ]
 refine kR 7 ?_; refine kR 8 ?_; refine kR 9 ?_; refine kR 10 ?_
 refine anyM_done (by kernel_rfl) ?_ _
 clear Kq
 go_wp2_with fail
 go_ret2
 exact ⟨⟨_, r, rfl, bs, HR.out.1, HR.out.2.1⟩, HR.out.2.2⟩
end
section
open Go.RowKit Go.Maps
def ms0 : MS := ⟨0, 0, 0, false, [], []⟩
theorem good0 : GoodM ms0 := ⟨Nat.le_refl _, (fun i t h => by simp [ms0] at h), (fun i t h => by simp [ms0] at h), (fun i h => by simp [ms0] at h), List.Pairwise.nil, (fun i t h => by simp [ms0] at h), by decide, by decide⟩
def newF (F0 F1 F2 : Foot) : Nat → Foot := fun j => match j with
 | 0 => F0
 | 1 => F1
 | 2 => F2
 | _ => fun _ => False
theorem ManX.made {w w1 w2 w3 w4 : World} {gm kb : Nat} (he : ExtP w1 (fun b => w.heap.size ≤ b ∧ b < w1.heap.size) gm 0 0) (hb1 : Below w.heap.size w w1) (hk : BookP w2 (fun b => w1.heap.size ≤ b ∧ b < w2.heap.size) kb 0 0) (hb2 : Below w1.heap.size w1 w2)
  (e3 : w2.alloc (.map #[] 0) = w3) (e4 : w3.alloc (.cells (mcells gm kb w2.heap.size (.slice none 0 0) 0 ms0).toArray 172) = w4) :
  (∃ F Ft, ManX w4 F Ft w3.heap.size gm kb w2.heap.size (.slice none 0 0) 0 ms0 [] 0 0 ∧ ∀ b, F b → w.heap.size ≤ b ∧ b < w4.heap.size) ∧ Below w.heap.size w w4 := by
 have z1 := hb1.size
 have z2 := hb2.size
 have z3 : w3.heap.size = w2.heap.size + 1 := by rw [← e3]; simp
 have z4 : w4.heap.size = w3.heap.size + 1 := by rw [← e4]; simp
 have hb3 : Below w2.heap.size w2 w3 := by rw [← e3]; exact (Below.refl _ _).alloc (Nat.le_refl _) _
 have hb4 : Below w3.heap.size w3 w4 := by rw [← e4]; exact (Below.refl _ _).alloc (Nat.le_refl _) _
 have hb24 := hb3.trans (hb4.mono hb3.size)
 have hb14 := hb2.trans (hb24.mono hb2.size)
 refine ⟨⟨fun b => w.heap.size ≤ b ∧ b < w4.heap.size, newF (fun b => b = w2.heap.size ∨ b = w3.heap.size) (fun b => w.heap.size ≤ b ∧ b < w1.heap.size) (fun b => w1.heap.size ≤ b ∧ b < w2.heap.size), ⟨⟨fun b q => q.2, fun i b q => ?_, fun i j hn b q r => ?_⟩, fun j hj b => ?_, ?_, ⟨0, he.ag (.of_below hb14), fun _ => rfl⟩, ⟨0, hk.ag (.of_below hb24)⟩, ?_, ⟨rfl, .inl ⟨rfl, rfl⟩⟩, fun i t e q => by simp [ms0] at q, rfl, .inr rfl, .inl rfl, fun b q => by cases q⟩, fun b q => q⟩, hb1.trans (hb14.mono hb1.size)⟩
 · match i with
   | 0 => rcases q with q | q <;> constructor <;> omega
   | 1 => exact ⟨q.1, by have := q.2; omega⟩
   | 2 => exact ⟨by have := q.1; omega, by have := q.2; omega⟩
   | n + 3 => exact q.elim
 · have hi : ∀ {i : Nat}, newF (fun b => b = w2.heap.size ∨ b = w3.heap.size) (fun b => w.heap.size ≤ b ∧ b < w1.heap.size) (fun b => w1.heap.size ≤ b ∧ b < w2.heap.size) i b → (i = 0 ∧ w2.heap.size ≤ b) ∨ (i = 1 ∧ b < w1.heap.size) ∨ (i = 2 ∧ w1.heap.size ≤ b ∧ b < w2.heap.size) := fun {i} q => by
    match i with
    | 0 => exact .inl ⟨rfl, by rcases q with q | q <;> omega⟩
    | 1 => exact .inr (.inl ⟨rfl, q.2⟩)
    | 2 => exact .inr (.inr ⟨rfl, q.1, q.2⟩)
    | n + 3 => exact q.elim
   rcases hi q with h1 | h1 | h1 <;> rcases hi r with h2 | h2 | h2 <;> omega
 · match j with
   | 0 => simp at hj
   | 1 => simp at hj
   | 2 => simp at hj
   | n + 3 => exact id
 · rw [← e4]; exact Bk.new w3 _ _
 · have : IM w3 Tryz.prog 3 w2.heap.size 0 (fun _ => none) := by rw [← e3]; exact IM.made w2 _ _
   have h0 : (fun _ => none : Int → Option Value) = allF [] := by funext x; rw [allF_none]; simp; omega
   rw [h0] at this
   exact this.next hb4
theorem man_pruned {w w1 w2 : World} {F G : Foot} {Ft : Nat → Foot} {mb g gm kb am : Nat} {qv : Value} {es : List TE} {m : MS} {el : Int} (h : Man w F mb m g) (hg : g + 1 ≤ 700) (hb : Below w.heap.size w w1) (hx : ManX w F Ft mb gm kb am qv 0 m es (128 * g) (16 * g)) (k : Kf (Ft 1) w1 w2) (hG : Sb w1 (Ft 1) G) (hi : In w2 G) (he : ExtP w2 G gm (128 * g) el) (hl : m.last = 0 → el = 0) : ManR w w2 F mb m g := by
 obtain ⟨h1, h2, h3, h4⟩ := (hx.next hb).extd k hG hi he hl
 exact ManR.of h hg h1 (by omega) (by omega) ((Kf.of_below (F := F) hb).trans h2 (fun b q => .inl q)) (fun b q => (h3 b q).imp id (Nat.le_trans hb.size)) h4 h.good (Nat.le_succ_of_le h.giv) (Nat.le_succ_of_le h.num) (Nat.le_succ_of_le h.txs)
theorem mnew_any  (w : World) :
  Calls Tryz.prog 84 #[.int .i64 258, .int .i64 0] w fun e w' => (∃ mb, e = .returned (.tuple #[.pointer (some ⟨mb, 0, none⟩), .int .i64 0]) ∧ ∃ F, Man w' F mb ms0 0 ∧ ∀ b, F b → w.heap.size ≤ b ∧ b < w'.heap.size) ∧ Below w.heap.size w w' := by
 have hmm := @run_makeMap Tryz.prog
 have hn := extnew_any w
 go_enter Tryz.func84, Tryz.ntmps84
 go_wp2_with fail
 refine hn.mono ?_
 rintro e w1 ⟨⟨gm, rfl, he, _, _⟩, hb1⟩
 have hk := booknew_any w1
 have HE := Lib.hid (And.intro he hb1)
 clear hn he hb1
 go_wp2_with fail
 refine hk.mono ?_
 rintro e w2 ⟨⟨kb, rfl, hk, _, _⟩, hb2⟩
 have HK := Lib.hid (And.intro hk hb2)
 clear hk hb2
 obtain ⟨w3, hw3⟩ : ∃ w3, w2.alloc (.map #[] 0) = w3 := ⟨_, rfl⟩
 obtain ⟨w4, hw4⟩ : ∃ w4, w3.alloc (.cells #[.pointer (some ⟨gm, 0, none⟩), .pointer (some ⟨kb, 0, none⟩), .map (some w2.heap.size), .slice none 0 0, .int .i64 0, .int .i64 0, .int .i64 0, .int .i64 0, .int .i64 0, .bool false] 172) = w4 := ⟨_, rfl⟩
 have HM := Lib.hid (ManX.made HE.out.1 HE.out.2 HK.out.1 HK.out.2 hw3 hw4)
 go_wp2_with fail
 go_ret2
 obtain ⟨⟨F, Ft, h1, h2⟩, hb⟩ := HM.out
 exact ⟨⟨_, rfl, F, ⟨⟨Ft, _, _, _, _, _, h1⟩, good0, Nat.le_refl _, Nat.le_refl _, Nat.le_refl _, by decide⟩, h2⟩, hb⟩
theorem mload_any (F : Foot) (mb g : Nat) (w : World) (h : Man w F mb ms0 g) :
  Calls Tryz.prog 86 #[.pointer (some ⟨mb, 0, none⟩), .slice none 0 0] w fun e w' => e = .returned (.int .i64 0) ∧ w = w' := by
 obtain ⟨Ft, gm, kb, am, qv, es, hx⟩ := h.x
 have hg := mgone_any mb gm kb am 0 qv ms0 w hx.bx
 obtain ⟨_, _, c2, _, _, _, c6, _⟩ := mcells_at hx.bx
 have hl := hx.all
 have he : es = [] := List.eq_nil_of_length_eq_zero hx.len
 subst he
 have hlen : (Builtin.len_ #[170] 3 #[.map (some am)]).run Tryz.prog w = .ok (.int .i64 0) w := hl.len underMT _
 clear h hx hl
 go_enter Tryz.func86, Tryz.ntmps86
 go_wp2_with fail
 refine hg.mono ?_
 rintro e w' ⟨rfl, rfl⟩
 clear hg
 go_wp2_with fail
 go_ret
 exact ⟨rfl, rfl⟩
theorem mdump_any (F : Foot) (mb g B : Nat) (m : MS) (w : World) (h : Man w F mb m g) (hB : B ≤ w.heap.size) :
  Calls Tryz.prog 102 #[.pointer (some ⟨mb, 0, none⟩)] w fun e w' => (∃ v, e = .returned v ∧ ∃ ks, (∃ ps, PutsOf w' B v ks ps) ∧ ks.length ≤ 258 ∧ (∀ k ∈ ks, 0 ≤ k ∧ k < 258)) ∧ Below w.heap.size w w' := by
 obtain ⟨Ft, gm, kb, am, qv, es, hx⟩ := h.x
 have hg := mgone_any mb gm kb am 0 qv m w hx.bx
 obtain ⟨c0, _⟩ := mcells_at hx.bx
 obtain ⟨el, ⟨bm, s, f, hext, _⟩, _⟩ := hx.ext
 have hd := edump_any _ gm bm s _ B el f w hext hB
 clear h hx hext
 go_enter Tryz.func102, Tryz.ntmps102
 go_wp2_with fail
 refine hg.mono ?_
 rintro e w' ⟨rfl, rfl⟩
 clear hg
 go_wp2_with fail
 refine hd.mono ?_
 rintro e w' ⟨⟨v, rfl, ks, ⟨ps, hps⟩, h1, h2⟩, hb⟩
 obtain ⟨vA, vc, rfl⟩ := own_shape hps.own
 have HE := Lib.hid (And.intro hps (And.intro h1 (And.intro h2 hb)))
 clear hd hps h1 h2 hb
 go_wp2_with fail
 go_ret
 exact ⟨⟨_, rfl, ks, ⟨ps, HE.out.1⟩, HE.out.2.1, HE.out.2.2.1⟩, HE.out.2.2.2⟩
theorem mprune_any (F : Foot) (mb g : Nat) (m : MS) (w : World) (h : Man w F mb m g) (hgg : g + 1 ≤ 700) :
  Calls Tryz.prog 49 #[.pointer (some ⟨mb, 0, none⟩)] w fun e w' => (∃ r : Int, e = .returned (.int .i64 r)) ∧ ManR w w' F mb m g := by
 obtain ⟨Ft, gm, kb, am, qv, es, hx⟩ := h.x
 have hg := mgone_any mb gm kb am 0 qv m w hx.bx
 have KK := Lib.hid (fun (w' : World) (hS : Bk w' mb 172 (mcells gm kb am qv 0 m)) => And.intro (mcells_at hS).1 (And.intro (mcells_at hS).2.1 (mcells_at hS).2.2.2.2.2.2.2.1))
 have HX := Lib.hid hx
 have HM := Lib.hid (And.intro h hgg)
 clear h hx
 go_enter Tryz.func49, Tryz.ntmps49
 go_wp2_with fail
 refine hg.mono ?_
 rintro e w' ⟨rfl, rfl⟩
 clear hg
 go_wp2_with fail
 have Kq := KK
 refine wp_region_held_drew (S := fun w' => Bk w' mb 172 (mcells gm kb am qv 0 m)) (by kernel_rfl) (HX.out.bx.drew) (fun hHeld => ?_)
 refine kF 0 ?_; refine kF 1 ?_; refine kF 2 ?_; refine kF 3 ?_; refine kF 4 ?_; refine kF 5 ?_; refine kF 6 ?_; refine kF 7 ?_; refine kF 8 ?_; refine kF 9 ?_; refine kF 10 ?_; refine kF 11 ?_
 refine rF 12 (fun K hK => ?_)
 go_simp
 have hX1 := HX.out.next (bdrew (Below.refl w.heap.size w))
 obtain ⟨s, tb, f, hbk⟩ := hX1.book
 refine (booklow_any _ kb es.length s tb f (m.last : Int) _ hbk).mono ?_
 rintro e w1 ⟨⟨r1, rfl⟩, hb1⟩
 have HS1 := Lib.hid (show Below w.heap.size w w1 from (bdrew (Below.refl _ _)).trans hb1)
 have hS1 := (HX.out.next HS1.out).bx
 clear hX1 hbk hb1
 go_simp
 refine hK.out _ _ (hS1) (fun hHeld2 => ?_)
 clear hK K hHeld
 have hHeld := hHeld2
 clear hHeld2
 try simp only [Act.put, List.setIfInBounds_toArray, List.set_cons_zero, List.set_cons_succ]
 refine rF 13 (fun K hK => ?_)
 go_simp
 have hX2 := HX.out.next HS1.out
 obtain ⟨el, hel, hle⟩ := hX2.ext
 refine (prune_any _ gm _ el r1 _ hel (hX2.fam.inn 1)).mono ?_
 rintro e w2 ⟨⟨r2, rfl⟩, G, hG, hk, hsb, hin⟩
 have HR := Lib.hid (man_pruned HM.out.1 HM.out.2 HS1.out HX.out hk hsb hin hG hle)
 have hS2 := (hX2.extd hk hsb hin hG hle).1.bx
 clear hX2 hel hle hG hk hsb hin
 go_simp
 refine hK.out _ _ (hS2) (fun hHeld2 => ?_)
 clear hK K hHeld
 have hHeld := hHeld2
 clear hHeld2
 try simp only [Act.put, List.setIfInBounds_toArray, List.set_cons_zero, List.set_cons_succ]
 refine kF 14 ?_
 refine wpAnyH_done (by kernel_rfl) ?_ _
 clear Kq
 go_wp2_with fail
 go_ret
 exact ⟨⟨_, rfl⟩, HR.out⟩
end
section
open Go.RowKit Go.Maps
theorem man_begun {w w1 w2 w3 w4 w5 : World} {F : Foot} {Ft : Nat → Foot} {mb g gm kb am : Nat} {qv : Value} {es : List TE} {m : MS} (h : Man w F mb m g) (hg : g + 1 ≤ 700) (hx : ManX w F Ft mb gm kb am qv 0 m es (128 * g) (16 * g)) {bb vb s : Nat}
  (k1 : Kf (Ft 2) w w1) (hbk : BookP w1 (Ft 2) kb (es.length + 1) s) (hb12 : Below w1.heap.size w1 w2) (hbuf : BufP w2 (fun b => w1.heap.size ≤ b ∧ b < w2.heap.size) bb []) (hb23 : Below w2.heap.size w2 w3) (hv : ViewP w3 (fun b => w2.heap.size ≤ b ∧ b < w3.heap.size) vb gm bb 0 (m.last : Int))
  (e4 : w3.alloc (.cells #[.int .i64 1, .int .i64 0, .int .i64 0, .int .i64 (m.last : Int), .pointer (some ⟨bb, 0, none⟩), .pointer (some ⟨vb, 0, none⟩)] 205) = w4)
  (hM : IM w5 Tryz.prog 3 am (sized es.length (allF es ((es.length : Int) + 1))) (upd (allF es) ((es.length : Int) + 1) (some (.pointer (some ⟨w3.heap.size, 0, none⟩))))) (hgr : w4.grownBy w5 (some am)) : ManR w w5 F mb m.begin g := by
 have hb34 : Below w3.heap.size w3 w4 := by rw [← e4]; exact (Below.refl _ _).alloc (Nat.le_refl _) _
 have hb14 := hb12.trans ((hb23.trans (hb34.mono hb23.size)).mono hb12.size)
 have hb24 := hb23.trans (hb34.mono hb23.size)
 have z4 : w4.heap.size = w3.heap.size + 1 := by rw [← e4]; simp
 obtain ⟨F', Ft', h1, h2, h3, h4⟩ := hx.begun (e := ⟨w3.heap.size, bb, vb⟩) (s := s) k1 hbk hb14 (hbuf.ag (.of_below hb24)) (fun b q => ⟨q.1, Nat.lt_of_lt_of_le q.2 hb24.size⟩) ((hv.up (Nat.zero_le (16 * g)) (by have := h.big; omega)).ag (.of_below hb34)) (fun b q => ⟨Nat.le_trans hb12.size q.1, Nat.lt_of_lt_of_le q.2 hb34.size⟩)
  (by rw [← e4]; exact Bk.new w3 _ _) (Nat.le_trans hb12.size hb23.size) (fun q => by have := q.2; have := hb23.size; show False; simp only at *; omega) (fun q => by have := q.2; show False; simp only at *; omega) (fun b q r => by have := q.2; have := r.1; omega) hM hgr
 exact ManR.of h hg h1 (by omega) (by omega) h2 h3 h4 h.good.begin.1 (Nat.le_succ_of_le h.giv) (Nat.le_succ_of_le h.num) (by show (m.txs ++ [_]).length ≤ _; rw [List.length_append]; exact Nat.succ_le_succ h.txs)
theorem mbegin_any (F : Foot) (mb g : Nat) (m : MS) (w : World) (h : Man w F mb m g) (hgg : g + 1 ≤ 700) :
  Calls Tryz.prog 167 #[.pointer (some ⟨mb, 0, none⟩)] w fun e w' => (m.txs ≠ [] ∧ (∃ r : Int, r ≠ 0 ∧ e = .returned (.tuple #[.int .i64 0, .int .i64 r])) ∧ ManR w w' F mb m g) ∨ (e = .returned (.tuple #[.int .i64 ((m.txs.length : Int) + 1), .int .i64 0]) ∧ ManR w w' F mb m.begin g) := by
 obtain ⟨Ft, gm, kb, am, qv, es, hx⟩ := h.x
 have hg := mgone_any mb gm kb am 0 qv m w hx.bx
 have hbig := h.big
 have hlen := hx.len
 have htx := h.txs
 have hgood := h.good
 have hla : m.last ≤ 1000 := Nat.le_trans hgood.lg hgood.cap.1
 obtain ⟨s, tb, f, hbk0⟩ := hx.book
 have hsle : es.length = 0 → s = 0 := fun q => by have := hbk0.le; omega
 have KK := Lib.hid (fun (w' : World) (hS : Bk w' mb 172 (mcells gm kb am qv 0 m)) => And.intro (mcells_at hS).1 (And.intro (mcells_at hS).2.1 (And.intro (mcells_at hS).2.2.1 (mcells_at hS).2.2.2.2.2.2.2.1)))
 have HX := Lib.hid hx
 have HM := Lib.hid (And.intro h hgg)
 have HS := Lib.hid (And.intro hbk0 (And.intro hsle (And.intro hlen (And.intro htx (And.intro hla (And.intro hbig (And.intro (show (m.last : Int) ≤ 1000000 by omega) (show es.length + 1 ≤ 100000 by omega))))))))
 have HL := Lib.hid (And.intro (show es.length ≤ 1000000 by omega) (wfN (i := es.length) (by omega)))
 clear h hx hbk0 hsle hlen htx hla hbig hgood
 go_enter Tryz.func167, Tryz.ntmps167
 go_wp2_with fail
 refine hg.mono ?_
 rintro e w' ⟨rfl, rfl⟩
 clear hg
 go_wp2_with fail
 by_cases h16 : 16 ≤ s
 · have HC := Lib.hid h16
   clear h16
   have Kq := KK
   refine wp_region_held_drew (S := fun w' => Bk w' mb 172 (mcells gm kb am qv 0 m)) (by kernel_rfl) (HX.out.bx.drew) (fun hHeld => ?_)
   refine kF 0 ?_; refine kF 1 ?_; refine kF 2 ?_; refine kF 3 ?_; refine kF 4 ?_; refine kF 5 ?_; refine kF 6 ?_; refine kF 7 ?_
   refine rF 8 (fun K hK => ?_)
   go_simp
   refine (bookopen_any _ kb es.length s tb f (m.last : Int) _ (HS.out.1.ag (.of_below (bdrew (Below.refl w.heap.size w)))) ⟨Int.natCast_nonneg _, HS.out.2.2.2.2.2.2.1⟩ HS.out.2.2.2.2.2.2.2).mono ?_
   rintro e w1 (⟨_, rfl, hb1⟩ | ⟨hlt, _⟩)
   rotate_left
   · exact absurd hlt (Nat.not_lt.2 HC.out)
   have HS1 := Lib.hid (show Below w.heap.size w w1 from (bdrew (Below.refl _ _)).trans hb1)
   have hS1 := (HX.out.next HS1.out).bx
   clear hb1
   go_simp
   refine hK.out _ _ (hS1) (fun hHeld2 => ?_)
   clear hK K hHeld
   have hHeld := hHeld2
   clear hHeld2
   try simp only [Act.put, List.setIfInBounds_toArray, List.set_cons_zero, List.set_cons_succ]
   refine kF 9 ?_; refine kF 10 ?_; refine kF 11 ?_; refine kF 12 ?_; refine kF 13 ?_
   refine wpAnyH_done (by kernel_rfl) ?_ _
   clear Kq
   go_wp2_with fail
   go_ret2
   refine .inl ⟨fun q => ?_, ⟨6, by decide, rfl⟩, ManR.of_same HM.out.1 HM.out.2 HS1.out⟩
   have := HS.out.2.1 (by rw [HS.out.2.2.1, q]; rfl)
   have := HC.out
   omega
 have HC := Lib.hid (Nat.not_le.1 h16)
 clear h16
 have Kq := KK
 refine wp_region_held_drew (S := fun w' => Bk w' mb 172 (mcells gm kb am qv 0 m)) (by kernel_rfl) (HX.out.bx.drew) (fun hHeld => ?_)
 refine kF 0 ?_; refine kF 1 ?_; refine kF 2 ?_; refine kF 3 ?_; refine kF 4 ?_; refine kF 5 ?_; refine kF 6 ?_; refine kF 7 ?_
 refine rF 8 (fun K hK => ?_)
 go_simp
 refine (bookopen_any _ kb es.length s tb f (m.last : Int) _ (HS.out.1.ag (.of_below (bdrew (Below.refl w.heap.size w)))) ⟨Int.natCast_nonneg _, HS.out.2.2.2.2.2.2.1⟩ HS.out.2.2.2.2.2.2.2).mono ?_
 rintro e w1 (⟨hle, _⟩ | ⟨_, rfl, hb1, hk1⟩)
 · exact absurd hle (Nat.not_le.2 HC.out)
 rw [show ((es.length + 1 : Nat) : Int) = (es.length : Int) + 1 from rfl]
 have HB1 := Lib.hid (show BookP w1 (Ft 2) kb (es.length + 1) (s + 1) ∧ Kf (Ft 2) w w1 from ⟨hb1, (Kf.of_below (F := Ft 2) (bdrew (Below.refl _ _))).trans hk1 (fun b q => .inl q)⟩)
 have hS1 : Bk w1 mb 172 (mcells gm kb am qv 0 m) := Bk.ag HX.out.bx (HX.out.fam.ag HB1.out.2 (by decide : (0 : Nat) ≠ 2)) HX.out.f0
 clear hb1 hk1
 go_simp
 refine hK.out _ _ (hS1) (fun hHeld2 => ?_)
 clear hK K hHeld
 have hHeld := hHeld2
 clear hHeld2
 try simp only [Act.put, List.setIfInBounds_toArray, List.set_cons_zero, List.set_cons_succ]
 refine kF 9 ?_; refine kF 10 ?_; refine kF 11 ?_; refine kF 12 ?_; refine kF 13 ?_
 refine wpAnyH_done (by kernel_rfl) ?_ _
 clear Kq
 obtain ⟨k0, _⟩ := KK.out _ hS1
 obtain ⟨el, ⟨bm, sx, fx, hext, _⟩, _⟩ := HX.out.ext
 have hbl := eblocks_any gm _ _ w1 (hext.ag (HX.out.fam.ag HB1.out.2 (by decide : (1 : Nat) ≠ 2))).bx
 clear hext
 go_wp2_with fail
 refine hbl.mono ?_
 rintro e w' ⟨rfl, rfl⟩
 clear hbl
 go_wp2_with fail
 refine (bufnew_any _).mono ?_
 rintro e w2 ⟨⟨bb, rfl, hbuf, _, _⟩, hb2⟩
 have HB2 := Lib.hid (And.intro hbuf (And.intro hb2 (And.intro (hS1.next hb2 hS1.lt) trivial)))
 clear hbuf hb2 hS1 k0
 go_wp2_with fail
 have Kq := KK
 refine wp_region_held_drew (S := fun w' => Bk w' mb 172 (mcells gm kb am qv 0 m)) (by kernel_rfl) (HB2.out.2.2.1.drew) (fun hHeld => ?_)
 refine kF 0 ?_; refine kF 1 ?_; refine kF 2 ?_; refine kF 3 ?_; refine kF 4 ?_; refine kF 5 ?_; refine kF 6 ?_; refine kF 7 ?_; refine kF 8 ?_; refine kF 9 ?_; refine kF 10 ?_; refine kF 11 ?_
 refine kF 12 ?_; refine kF 13 ?_; refine kF 14 ?_; refine kF 15 ?_; refine kF 16 ?_; refine kF 17 ?_; refine kF 18 ?_
 refine rF 19 (fun K hK => ?_)
 go_simp
 refine (viewnew_any gm bb (m.last : Int) _).mono ?_
 rintro e w3 ⟨⟨vb, rfl, hv, _, _⟩, hb3⟩
 have hb23 : Below w2.heap.size w2 w3 := (bdrew (Below.refl _ _)).trans hb3
 have hS3 : Bk w3 mb 172 (mcells gm kb am qv 0 m) := HB2.out.2.2.1.next hb23 HB2.out.2.2.1.lt
 have HV3 := Lib.hid (And.intro hv hb23)
 clear hv hb3 hb23
 go_simp
 refine hK.out _ _ (hS3) (fun hHeld2 => ?_)
 clear hK K hHeld
 have hHeld := hHeld2
 clear hHeld2
 try simp only [Act.put, List.setIfInBounds_toArray, List.set_cons_zero, List.set_cons_succ]
 refine kF 20 ?_
 refine rF 21 (fun K hK => ?_)
 go_simp
 obtain ⟨w4, hw4⟩ : ∃ w4, w3.alloc (.cells #[.int .i64 1, .int .i64 0, .int .i64 0, .int .i64 (m.last : Int), .pointer (some ⟨bb, 0, none⟩), .pointer (some ⟨vb, 0, none⟩)] 205) = w4 := ⟨_, rfl⟩
 have hb34 : Below w3.heap.size w3 w4 := by rw [← hw4]; exact (Below.refl _ _).alloc (Nat.le_refl _) _
 have HW4 := Lib.hid (And.intro hw4 hb34)
 have hS4 : Bk w4 mb 172 (mcells gm kb am qv 0 m) := hHeld.next hb34 hHeld.lt
 have HI4 := Lib.hid ((((HX.out.all.ag (HX.out.fam.ag HB1.out.2 (by decide : (0 : Nat) ≠ 2)) HX.out.f1).next HB2.out.2.1).next HV3.out.2).next hb34)
 rw [hw4]
 clear hb34 hw4
 refine hK.out _ _ (hS4) (fun hHeld2 => ?_)
 clear hK K hHeld
 have hHeld := hHeld2
 clear hHeld2
 try simp only [Act.put, List.setIfInBounds_toArray, List.set_cons_zero, List.set_cons_succ]
 refine rF 22 (fun K hK => ?_)
 refine if_wanted rfl (wp_iupd _ _ _ _ 170 rfl 3 200 lawI underI underMT am es.length (allF es) (by rfl) HI4.out HL.out.1 ((es.length : Int) + 1) (.pointer (some ⟨w3.heap.size, 0, none⟩)) (by rfl) (by rfl) HL.out.2 ?_)
 intro w5 hI5 hG5
 have HR := Lib.hid (man_begun HM.out.1 HM.out.2 HX.out HB1.out.2 HB1.out.1 HB2.out.2.1 HB2.out.1 HV3.out.2 HV3.out.1 HW4.out.1 hI5 hG5)
 have hS5 : Bk w5 mb 172 (mcells gm kb am qv 0 m) := (hG5.block _ hHeld.lt (fun e => by injection e with e; exact HX.out.am_ne e)).trans hHeld
 clear hI5 hG5
 refine hK.out _ _ (hS5) (fun hHeld2 => ?_)
 clear hK K hHeld
 have hHeld := hHeld2
 clear hHeld2
 try simp only [Act.put, List.setIfInBounds_toArray, List.set_cons_zero, List.set_cons_succ]
 refine wpAnyH_done (by kernel_rfl) ?_ _
 clear Kq
 go_wp2_with fail
 go_ret2
 exact .inr ⟨by rw [← HS.out.2.2.1]; rfl, HR.out⟩
end
section
open Go.RowKit Go.Maps
theorem infoBa : (Tryz.prog.info? 101).map (·.size) = some 2 := by kernel_rfl
theorem res_batch {fn : Func} {p u : Tmp} (h : fn.results = #[.cell p 101, .tmp u]) (tmps : Array Value) (w : World) (g : Nat) (cs : List Value) (hp : tmps.getD p undef = .pointer (some ⟨g, 0, none⟩)) (hg : Bk w g 101 cs) (hl : cs.length = 2 := by rfl) :
  (results fn tmps).run Tryz.prog w = .ok (.tuple #[.agg cs.toArray, tmps.getD u undef]) w := by
 rw [results_cell_tmp h, hp]
 simp [asAddr, run_loadVar_row w g 101 101 cs.toArray (0, 0) _ hg Tryz.underlying101 rfl (by rw [infoBa]; simp [hl]), Result.andThen]
theorem flat_take {α V : Type} {f : α → List V} {n : Nat} (hf : ∀ a, (f a).length = n) : ∀ (l : List α) (k : Nat), (l.flatMap f).take (k * n) = (l.take k).flatMap f
 | [], k => by simp
 | a :: l, 0 => by simp
 | a :: l, k + 1 => by
   simp only [List.flatMap_cons, List.take_succ_cons]
   have := flat_take hf l k
   have hl : (f a).length = n := hf a
   rw [List.take_append, List.take_of_length_le (by rw [hl, Nat.succ_mul]; omega), hl, show (k + 1) * n - n = k * n by rw [Nat.succ_mul]; omega, this]
theorem IsTs.take {w : World} {A : Option Addr} {n c : Nat} {ts : List TxD} (h : IsTs w A n c ts) {k : Nat} (hk : k ≤ n) : IsTs w A k c (ts.take k) := by
 have hl := h.len
 refine ⟨by rw [List.length_take]; omega, ?_, fun t ht => h.y t (List.mem_of_mem_take ht), Nat.le_trans hk h.cap, h.big⟩
 have := h.rd.take (k * 2)
 rwa [flat_take tx_two ts k] at this
theorem WaitL.far {w wr w9 : World} {m : MS} {pv : Value} {ts : List TxD} {k g : Nat} (h : WaitL w wr m pv ts k) (kf : Kf (fun b => b = g) wr w9) (hg : g < w.heap.size) : WaitL w w9 m pv ts k := by
 have ag : Ag (fun b => w.heap.size ≤ b) wr w9 := kf.ag (fun b q r => by have r : b = g := r; omega)
 exact ⟨own_ag h.own ag (fun b q => own_at_ge h.own q), fun x hx => ⟨(h.y x hx).1, (h.y x hx).2.ag ag (fun b q => own_at_ge (h.y x hx).2.own q)⟩, h.at_, h.len⟩
theorem WaitL.is {w wr : World} {m : MS} {A : Option Addr} {c q : Nat} {ts : List TxD} (h : WaitL w wr m (.slice A q c) ts q) : IsTs wr A q c ts := ⟨h.len, rd_of_own h.own, h.ps, (own_caps h.own).1, (own_caps h.own).2⟩
structure BaX (w w' : World) (F : Foot) (Ft : Nat → Foot) (mb gm kb am : Nat) (qv : Value) (m : MS) (es : List TE) (N R n c : Nat) (A : Option Addr) (ts : List TxD) : Prop where
 pos : 0 < n
 le : n ≤ m.queue.length
 is : IsTs w' A n c ts
 ok : OkB ((m.num : Int) + 1) ts
 man : ManX w' F Ft mb gm kb am qv n m es N R
 kf : Kf F w w'
def baPost (w : World) (F : Foot) (Ft : Nat → Foot) (mb gm kb am : Nat) (qv : Value) (m : MS) (es : List TE) (N R : Nat) (e : Ending) (w' : World) : Prop :=
 (m.queue = [] ∧ e = .returned (.tuple #[.agg #[.int .i64 0, .slice none 0 0], .int .i64 14]) ∧ Below w.heap.size w w') ∨ (m.queue ≠ [] ∧ ∃ n c A ts, e = .returned (.tuple #[.agg #[.int .i64 ((m.num : Int) + 1), .slice A n c], .int .i64 0]) ∧ BaX w w' F Ft mb gm kb am qv m es N R n c A ts)
theorem mbatch_any (F : Foot) (Ft : Nat → Foot) (mb gm kb am : Nat) (qv : Value) (m : MS) (es : List TE) (N R : Nat) (w : World) (h : ManX w F Ft mb gm kb am qv 0 m es N R) (good : GoodM m) (hl : es.length ≤ 100000) (hql : m.queue.length ≤ 100000) (hnum : m.num < 1000) :
  Calls Tryz.prog 42 #[.pointer (some ⟨mb, 0, none⟩)] w fun e w' => baPost w F Ft mb gm kb am qv m es N R e w' := by
 obtain ⟨w0, hw0⟩ : ∃ w0, w.alloc (.cells #[.int .i64 0, .slice none 0 0] 101) = w0 := ⟨_, rfl⟩
 have hB0 : Bk w0 w.heap.size 101 [.int .i64 0, .slice none 0 0] := by rw [← hw0]; exact Bk.new w _ _
 have hb0 : Below w.heap.size w w0 := by rw [← hw0]; exact (Below.refl _ _).alloc (Nat.le_refl _) _
 have h0 := h.next hb0
 have hg := mgone_any mb gm kb am 0 qv m w0 h0.bx
 obtain ⟨_, _, _, c3, c4, _⟩ := mcells_at h0.bx
 obtain ⟨qA, qc, hqv⟩ := own_shape h0.own
 rw [hqv] at c3
 have HX := Lib.hid h
 have H0 := Lib.hid (And.intro h0 (And.intro hb0 hB0))
 have HG := Lib.hid (And.intro good (And.intro hl (And.intro hql hnum)))
 have f00 := hB0.free 0
 have z00 := hB0.cell (i := 0) (by simp)
 simp only [List.getElem_cons_zero] at z00
 have c4 : w0.cell? ⟨mb, 4, none⟩ = some (.int .i64 0) := c4
 obtain ⟨q, hq⟩ : ∃ q, m.queue.length = q := ⟨_, rfl⟩
 rw [hq] at c3
 have HQ := Lib.hid hq
 by_cases hq0 : m.queue = []
 · obtain rfl : q = 0 := by rw [← hq, hq0]; rfl
   obtain ⟨w8, hw8⟩ : ∃ w8, (w0.setCell ⟨w.heap.size, 0, none⟩ (.int .i64 0)).setCell ⟨w.heap.size, 1, none⟩ (.slice none 0 0) = w8 := ⟨_, rfl⟩
   have hB8 : Bk w8 w.heap.size 101 [.int .i64 0, .slice none 0 0] := by rw [← hw8]; exact (hB0.set 0 (.int .i64 0)).set 1 (.slice none 0 0)
   have hb8 : Below w.heap.size w w8 := by rw [← hw8]; exact (hb0.setCell (p := ⟨w.heap.size, 0, none⟩) (Nat.le_refl _) _).setCell (p := ⟨w.heap.size, 1, none⟩) (Nat.le_refl _) _
   have H8 := Lib.hid (And.intro hB8 (And.intro hb8 hq0))
   have f01 := (hB0.set 0 (.int .i64 0)).free 1
   have z01 := (hB0.set 0 (.int .i64 0)).cell (i := 1) (by simp)
   simp only [List.set_cons_zero, List.getElem_cons_succ, List.getElem_cons_zero] at z01
   clear h h0 good hl hql hnum hqv hB0 hb0 hB8 hb8 hq hq0
   go_enter Tryz.func42, Tryz.ntmps42
   go_wp2_with fail
   try rw [hw0]
   refine hg.mono ?_
   rintro e w' ⟨rfl, rfl⟩
   clear hg
   go_wp2_with fail
   (try simp only [Exit.inBlock, Exit.then, Exit.noGoto_ret])
   refine bodyPost_ret (res_batch rfl _ _ _ _ (by rfl) H8.out.1) rfl ?_
   exact .inl ⟨H8.out.2.2, rfl, H8.out.2.1⟩
 obtain ⟨q', rfl⟩ : ∃ q', q = q' + 1 := ⟨q - 1, by have : m.queue.length ≠ 0 := fun e => hq0 (List.length_eq_zero_iff.1 e); omega⟩
 have n1 : (((q' + 1 : Nat) : Int) == 0) = false := by
  have : ¬ ((q' + 1 : Nat) : Int) = 0 := by omega
  simpa using this
 have hwt := waiting_any F Ft mb gm kb am qv 0 m es N R w0 h0 (fun i hi => by obtain ⟨t, ht, _⟩ := good.que i hi; exact ⟨t, ht⟩) hl hql
 rw [hq] at hwt
 have HN := Lib.hid hq0
 clear h h0 good hl hql hnum hqv hB0 hb0 hq hq0 f00 z00
 go_enter Tryz.func42, Tryz.ntmps42
 go_wp2_with fail
 try rw [hw0]
 refine hg.mono ?_
 rintro e w' ⟨rfl, rfl⟩
 clear hg
 go_wp2_with fail
 refine hwt.mono ?_
 rintro e w1 ⟨⟨v1, ts, rfl, hwl⟩, hb1⟩
 obtain ⟨tA, tc, rfl⟩ := own_shape hwl.own
 have hok := (WaitL.wait (by rw [HQ.out]; exact hwl)).ok HG.out.1
 have hf := form_any tA (q' + 1) tc ts w1 hwl.is (fun t ht => (hok t ht).n.2)
 have h1 := H0.out.1.next hb1
 have H1 := Lib.hid (And.intro h1 (And.intro hwl (And.intro hok hb1)))
 clear hwt hwl hok h1 hb1 c3 c4
 go_wp2_with fail
 refine hf.mono ?_
 rintro e w2 ⟨⟨k, rfl, hk, hk8, hks, hk0⟩, hb2⟩
 have h2 := H1.out.1.next hb2
 have f4 := h2.bx.free 4
 have c42 : w2.cell? ⟨mb, 4, none⟩ = some (.int .i64 0) := (mcells_at h2.bx).2.2.2.2.1
 obtain ⟨w3, hw3⟩ : ∃ w3, w2.setCell ⟨mb, 4, none⟩ (.int .i64 (k : Int)) = w3 := ⟨_, rfl⟩
 have hb3 : Bk w3 mb 172 (mcells gm kb am qv k m) := by rw [← hw3]; exact h2.bx.set 4 (.int .i64 (k : Int))
 have k3 : Kf (fun b => b = mb) w2 w3 := by rw [← hw3]; exact (Kf.refl (fun b => b = mb) w2).set h2.bx (by decide) (.inl rfl) 4 _
 have e3 := h2.cell k3 m k hb3 rfl rfl id
 have hlt : mb < w.heap.size := HX.out.bx.lt
 have hB3 : Bk w3 w.heap.size 101 [.int .i64 0, .slice none 0 0] := Bk.ag (F := fun b => b ≠ mb) ((H0.out.2.2.next H1.out.2.2.2 H0.out.2.2.lt).next hb2 (Nat.lt_of_lt_of_le H0.out.2.2.lt H1.out.2.2.2.size)) (k3.ag (fun b q r => q r)) (by show w.heap.size ≠ mb; omega)
 have hw3' := (H1.out.2.1.next hb2).far k3 (Nat.lt_of_lt_of_le hlt H0.out.2.1.size)
 have kf3 : Kf F w w3 := (Kf.of_below (F := F) (H0.out.2.1.trans ((H1.out.2.2.2.trans (hb2.mono H1.out.2.2.2.size)).mono H0.out.2.1.size))).trans e3.2 (fun b q => .inl q)
 have H3 := Lib.hid (And.intro e3.1 (And.intro hw3' (And.intro kf3 (And.intro hB3 hlt))))
 have HK := Lib.hid (And.intro hk (And.intro hk8 (And.intro hks (hk0 (Nat.succ_pos _)))))
 have KK := Lib.hid (fun (w' : World) (hS : Bk w' mb 172 (mcells gm kb am qv k m)) => And.intro (mcells_at hS).2.2.2.2.1 (mcells_at hS).2.2.2.2.2.1)
 have m1 : wrap64 ((m.num : Int) + 1) = (m.num : Int) + 1 := by have := HG.out.2.2.2; unfold wrap64; omega
 have m2 : IntKind.i64.wrap ((m.num : Int) + 1) = (m.num : Int) + 1 := IntWalk.i64_in _ (by have := HG.out.2.2.2; omega)
 have p1 : (0 : Int) ≤ (k : Int) := by omega
 have p2 : (k : Int) ≤ (tc : Int) := by have := (own_caps H1.out.2.1.own).1; omega
 obtain ⟨wd, hwd⟩ : ∃ wd, w3.drew = wd := ⟨_, rfl⟩
 have hBd : Bk wd w.heap.size 101 [.int .i64 0, .slice none 0 0] := by rw [← hwd]; exact hB3.drew
 have f30 := hBd.free 0
 have f31 := (hBd.set 0 (.int .i64 ((m.num : Int) + 1))).free 1
 have z30 := hBd.cell (i := 0) (by simp)
 have z31 := (hBd.set 0 (.int .i64 ((m.num : Int) + 1))).cell (i := 1) (by simp)
 simp only [List.set_cons_zero, List.getElem_cons_succ, List.getElem_cons_zero] at z30 z31
 obtain ⟨w9, hw9⟩ : ∃ w9, (wd.setCell ⟨w.heap.size, 0, none⟩ (.int .i64 ((m.num : Int) + 1))).setCell ⟨w.heap.size, 1, none⟩ (.slice tA k tc) = w9 := ⟨_, rfl⟩
 have hB9 : Bk w9 w.heap.size 101 [.int .i64 ((m.num : Int) + 1), .slice tA k tc] := by rw [← hw9]; exact (hBd.set 0 (.int .i64 ((m.num : Int) + 1))).set 1 (.slice tA k tc)
 have k9 : Kf (fun b => b = w.heap.size) w3 w9 := by rw [← hw9]; exact ((show Kf (fun b => b = w.heap.size) w3 wd by rw [← hwd]; exact (Kf.refl (fun b => b = w.heap.size) w3).drew).set hBd (by decide) (.inl rfl) 0 _).set (hBd.set 0 (.int .i64 ((m.num : Int) + 1))) (by decide) (.inl rfl) 1 _
 have hm9 := e3.1.ag (k9.ag (fun b q r => by have := HX.out.fam.lt b q; have r : b = w.heap.size := r; omega))
 have hw9' := hw3'.far k9 H0.out.2.2.lt
 have kf9 : Kf F w w9 := kf3.trans (G := fun b => b = w.heap.size) k9 (fun b q => .inr (by have q : b = w.heap.size := q; omega))
 have hok9 := (WaitL.wait (by rw [HQ.out]; exact hw9')).okB HG.out.1 (k := k) (by rw [hw9'.len]; exact hk) hk8 (hk0 (Nat.succ_pos _)) hks (num := (m.num : Int) + 1) (by have := HG.out.2.2.2; omega)
 have H9 := Lib.hid (And.intro hB9 (show BaX w w9 F Ft mb gm kb am qv m es N R k tc tA (ts.take k) from ⟨hk0 (Nat.succ_pos _), by rw [HQ.out]; exact hk, hw9'.is.take hk, hok9, hm9, kf9⟩))
 have hS9 := hm9.bx
 clear hf h2 hb3 k3 e3 hlt hB3 hw3' kf3 hk hk8 hks hk0 hb2 hB9 k9 hm9 hw9' kf9 hok9 hBd
 go_wp2_with fail
 have Kq := KK
 refine wp_region_held_drew (S := fun w' => Bk w' mb 172 (mcells gm kb am qv k m)) (by kernel_rfl) (H3.out.1.bx.drew) (fun hHeld => ?_)
 rw [hwd] at hHeld ⊢
 refine kF 0 ?_; refine kF 1 ?_; refine kF 2 ?_; refine kF 3 ?_; refine kF 4 ?_; refine kF 5 ?_; refine kF 6 ?_; refine kF 7 ?_; refine kF 8 ?_; refine kF 9 ?_; refine kF 10 ?_; refine kF 11 ?_
 refine rF 12 (fun K hK => ?_)
 go_simp
 try rw [hw9]
 refine hK.out _ _ (hS9) (fun hHeld2 => ?_)
 clear hK K hHeld
 have hHeld := hHeld2
 clear hHeld2
 try simp only [Act.put, List.setIfInBounds_toArray, List.set_cons_zero, List.set_cons_succ]
 refine kF 13 ?_
 refine wpAnyH_done (by kernel_rfl) ?_ _
 clear Kq
 go_wp2_with fail
 (try simp only [Exit.inBlock, Exit.then, Exit.noGoto_ret])
 refine bodyPost_ret (res_batch rfl _ _ _ _ (by rfl) H9.out.1) rfl ?_
 exact .inr ⟨HN.out, _, _, _, _, rfl, H9.out.2⟩
end
section
open Go.RowKit Go.Maps
theorem WaitL.kf {w wr w9 : World} {m : MS} {pv : Value} {ts : List TxD} {k : Nat} {G : Foot} (h : WaitL w wr m pv ts k) (kf : Kf G wr w9) (hG : ∀ b, G b → b < w.heap.size) : WaitL w w9 m pv ts k := by
 have ag : Ag (fun b => w.heap.size ≤ b) wr w9 := kf.ag (fun b q r => by have := hG b r; omega)
 exact ⟨own_ag h.own ag (fun b q => own_at_ge h.own q), fun x hx => ⟨(h.y x hx).1, (h.y x hx).2.ag ag (fun b q => own_at_ge (h.y x hx).2.own q)⟩, h.at_, h.len⟩
theorem own_len {w : World} {B e s n q : Nat} {v : Value} {xs : List Value} (e' : n = q) (h : w.ownsRow B e s v n xs) : w.ownsRow B e s v q xs := e' ▸ h
theorem okt_time {x : TxD} {T : Nat} (e : x.time = (T : Int)) (h : OkT x) : OkT ⟨(T : Int), x.A, x.n, x.c, x.ps⟩ := by rw [← e]; exact h
theorem done_num {N n k : Nat} (h : N + 16 * n ≤ 100000) (hk : k < n) : N + 16 * (k + 1) ≤ 100000 ∧ N + 16 * k + 16 ≤ 100000 := by omega
def doneK (m : MS) (ok : Bool) (k : Nat) : MS := { m.pops ok k with queue := m.queue }
def doneM (m : MS) (ok : Bool) (n : Nat) : MS := if ok then { m.pops true n with num := m.num + 1 } else m.pops false n
structure DoL (w5 wr : World) (F : Foot) (mb gm kb am : Nat) (qv : Value) (n : Nat) (m : MS) (es : List TE) (N R : Nat) (ok : Bool) (k : Nat) : Prop where
 man : ∃ Fk Ftk, ManX wr Fk Ftk mb gm kb am qv n (doneK m ok k) es (N + 16 * k) R ∧ Sb w5 F Fk ∧ In wr Fk
 kf : Kf F w5 wr
section
variable {w5 wr w6 w7 w8 : World} {F : Foot} {mb gm kb am : Nat} {qv : Value} {n : Nat} {m : MS} {es : List TE} {N R k i : Nat} {ok : Bool} {t : TX}
theorem doneK_step (g : GoodM m) (hi : m.queue[k]? = some i) (h : m.txs[i]? = some t) : (doneK m ok k).txs[i]? = some t ∧ t.st = 2 ∧ 0 < t.time ∧ doneK m ok (k + 1) = { (doneK m ok k).put i (t.done ok) with last := if ok then t.time else (doneK m ok k).last } := by
 obtain ⟨t', h1, h2, h3, h4, h5⟩ := pops_step g ok hi
 rw [h] at h1; injection h1 with h1; subst h1
 refine ⟨h2, h3, h4, ?_⟩
 unfold doneK
 rw [h5]; rfl
theorem Kf.then {F Fk : Foot} (h : Kf F w5 wr) (k : Kf Fk wr w6) (hs : Sb w5 F Fk) : Kf F w5 w6 := h.trans k hs
theorem Sb.then {F Fk G : Foot} (hs : Sb w5 F Fk) (h : Sb wr Fk G) (hz : w5.heap.size ≤ wr.heap.size) : Sb w5 F G := fun b q => (h b q).elim (hs b) (fun r => .inr (Nat.le_trans hz r))
theorem DoL.no {Fk : Foot} {Ftk : Nat → Foot} (g : GoodM m) (hi : m.queue[k]? = some i) (ht : m.txs[i]? = some t) (kf : Kf F w5 wr) (hs : Sb w5 F Fk) (h : ManX w6 Fk Ftk mb gm kb am qv n ((doneK m false k).put i { t with st := 4, time := 0 }) es (N + 16 * k) R) (k6 : Kf Fk wr w6) (hb : N + 16 * (k + 1) ≤ 100000) (hR : R ≤ 100000) : DoL w5 w6 F mb gm kb am qv n m es N R false (k + 1) := by
 obtain ⟨_, _, _, e⟩ := doneK_step (ok := false) g hi ht
 refine ⟨⟨Fk, Ftk, ?_, hs, h.fam.lt⟩, kf.then k6 hs⟩
 rw [e]
 exact h.up (by omega) hb (Nat.le_refl _) hR
theorem DoL.yes {Fk Fe : Foot} {Fte : Nat → Foot} (g : GoodM m) (hi : m.queue[k]? = some i) (ht : m.txs[i]? = some t) (kf : Kf F w5 wr) (hs : Sb w5 F Fk) (kk : Kf Fk wr w7) (hsb : Sb wr Fk Fe) (h : ManX w8 Fe Fte mb gm kb am qv n ({ doneK m true k with last := t.time }.put i { t with st := 3, time := t.time }) es (N + 16 * k + 16) R) (k8 : Kf Fe w7 w8) : DoL w5 w8 F mb gm kb am qv n m es N R true (k + 1) := by
 obtain ⟨_, _, _, e⟩ := doneK_step (ok := true) g hi ht
 refine ⟨⟨Fe, Fte, ?_, hs.then hsb kf.size, h.fam.lt⟩, (kf.then kk hs).then k8 (hs.then hsb kf.size)⟩
 rw [e]
 exact h
end
theorem done_end {w5 wr w9 w10 : World} {F : Foot} {mb gm kb am : Nat} {qv v9 : Value} {n q : Nat} {m m' : MS} {es : List TE} {N R : Nat} {Fk : Foot} {Ftk : Nat → Foot} (h : ManX wr Fk Ftk mb gm kb am qv n m es N R) (hx : Kf F w5 wr ∧ Sb w5 F Fk ∧ m' = { m with queue := m.queue.drop n } ∧ m'.queue.length = q)
  (ho : w9.ownsRow wr.drew.heap.size 3 1 v9 q ((m.queue.drop n).map qcell)) (hb : Below wr.drew.heap.size wr.drew w9) (h9 : Bk w9 mb 172 (mcells gm kb am qv n m)) (e : w9.setCell ⟨mb, 3, none⟩ v9 = w10) :
  (∀ w11, w10.setCell ⟨mb, 4, none⟩ (.int .i64 0) = w11 → ∃ F' Ft' qv', ManX w11 F' Ft' mb gm kb am qv' 0 m' es N R ∧ Kf F w5 w11 ∧ Sb w5 F F' ∧ In w11 F') ∧ Bk w10 mb 172 (mcells gm kb am v9 n m) ∧ True := by
 obtain ⟨hk, hs, rfl, hq⟩ := hx
 have b10 : Bk w10 mb 172 (mcells gm kb am v9 n m) := by rw [← e]; exact h9.set 3 v9
 refine ⟨fun w11 e11 => ?_, b10, trivial⟩
 have hb9 : Below wr.heap.size wr w9 := (bdrew (Below.refl _ _)).trans hb
 have h9' := h.next hb9
 have b11 : Bk w11 mb 172 (mcells gm kb am v9 0 { m with queue := m.queue.drop n }) := by rw [← e11]; exact b10.set 4 (.int .i64 0)
 have k9 : Kf (fun b => b = mb) w9 w11 := by rw [← e11, ← e]; exact ((Kf.refl (fun b => b = mb) w9).set h9 (by decide) (.inl rfl) 3 _).set (by rw [e]; exact b10) (by decide) (.inl rfl) 4 _
 have kr : Kf (Ftk 0) wr w11 := (Kf.of_below (F := Ftk 0) hb9).trans (G := Ftk 0) (k9.mono (fun b q => by have q : b = mb := q; rw [q]; exact h.f0)) (fun b q => .inl q)
 have hz : wr.drew.heap.size = wr.heap.size := rfl
 have hlt : mb < wr.heap.size := h.bx.lt
 have hne : v9.ownBlock ≠ some mb := fun r => by have := own_at_ge ho r; omega
 have hG : Sb wr (Ftk 0) (orF (Ftk 0) (fun b => v9.ownBlock = some b)) := Sb.or (fun b r => .inr (own_at_ge ho r))
 have hi : In w11 (orF (Ftk 0) (fun b => v9.ownBlock = some b)) := fun b r => by
  rcases r with r | r
  · exact Nat.lt_of_lt_of_le (h.fam.inn 0 b r) kr.size
  · obtain ⟨_, _, hh⟩ := own_at ho r
    exact Nat.lt_of_lt_of_le (lt_of hh) k9.size
 have hall : IM w11 Tryz.prog 3 am es.length (allF es) := h9'.all.ag (F := fun b => b = am) (k9.ag (fun b q s => by have q : b = am := q; have s : b = mb := s; exact h.am_ne (s.symm.trans q))) rfl
 have ho' : w11.ownsRow 0 3 1 v9 (m.queue.drop n).length ((m.queue.drop n).map qcell) := by
  have := own_ag (F := fun b => b ≠ mb) (ownsRow_base_a ho (Nat.zero_le _)) (k9.ag (fun b q s => q s)) (fun g q s => hne (s ▸ q))
  rw [← hq] at this; exact this
 obtain ⟨g1, g2, g3, g4⟩ := h.row kr hG hi (fun b q => .inl q) hall { m with queue := m.queue.drop n } 0 b11 ho' (fun b q => .inr q) rfl id
 exact ⟨_, _, v9, g1, hk.then g2 hs, hs.then g3 hk.size, g4⟩
theorem clone_int (A : Option Addr) (n c : Nat) (xs : List Value) (w : World) (hl : xs.length = n * 1) (h : Rd w w.heap.size A xs) (h1 : ∀ u ∈ xs, u.oneCell' = true) (hn : n ≤ 100000) :
  Calls Tryz.prog 94 #[.slice A n c] w fun e w' => (∃ v, e = .returned v ∧ w'.ownsRow w.heap.size 3 1 v n xs) ∧ Below w.heap.size w w' := by
 obtain ⟨xi, xz, hxi, hxz, hx5, hx56, hxc⟩ := infoI
 have q : ∀ (w : World) (a : Option Addr) (n c n' c' : Nat), (binOp .eql 29 (.slice a n c) (.slice none n' c')).run Tryz.prog w = .ok (.bool a.isNone) w := fun w a n c n' c' => Lib.run_eql_slice_nil w _ _ a n c n' c' Tryz.underlying29
 cases A with
 | none =>
   have hx : xs = [] := by
    rcases Nat.eq_zero_or_pos xs.length with e | e
    · exact List.length_eq_zero_iff.1 e
    · obtain ⟨_, e, _⟩ := h e; cases e
   subst hx
   have hn0 : n = 0 := by simp at hl; omega
   subst hn0
   clear h hn hl h1
   go_enter Tryz.func94, Tryz.ntmps94
   go_wp2_with fail
   go_ret
   exact ⟨⟨_, rfl, rfl, .inl ⟨rfl, rfl⟩⟩, Below.refl _ _⟩
 | some ad =>
   have HR := Lib.hid (And.intro h h1)
   have HN := Lib.hid hn
   clear h hn h1
   go_enter Tryz.func94, Tryz.ntmps94
   go_wp2_with (at_builtin; go_must (refine wpList_appM _ rfl _ _ 29 rfl w.heap.size 3 xi xz 1 8 Tryz.underlying29 hxi hxz hx5 hx56 hxc (by omega) _ 0 [] (by rfl) (by exact World.ownsRow_lit w #[] 0 (Nat.le_refl _) (by decide) rfl) w.heap.size (some ad) n c xs (by rfl) (by exact hl) (by exact HR.out.1.alloc (Nat.le_refl _) _) HR.out.2 (by have := HN.out; omega) (by have := HN.out; omega) (by simp) ?_); intro v1 w1 hO1 hG1 hv1)
   have HB : Below w.heap.size w w1 := ((Below.refl _ _).alloc (Nat.le_refl _) _).grown hG1 (by simp) (fun g hg => Nat.le_of_eq (Option.some.inj (show some w.heap.size = some g from hg)))
   have HE := Lib.hid (show w1.ownsRow w.heap.size 3 1 v1 n xs from by simpa using hO1)
   clear hO1 hG1 hv1
   go_ret
   exact ⟨⟨v1, rfl, HE.out⟩, HB⟩
theorem wrap_succ {n : Nat} (h : n ≤ 1000000) : wrap64 ((n : Int) + 1) = (n : Int) + 1 := by unfold wrap64; omega
theorem wrap_succ2 {n : Nat} (h : n ≤ 1000000) : IntKind.i64.wrap ((n : Int) + 1) = (n : Int) + 1 := IntWalk.i64_in _ (by omega)
theorem round_num {k n : Nat} (h : k < n) (hn : n ≤ 100000) : (k : Int) < (n : Int) ∧ (0 : Int) ≤ (k : Int) ∧ wrap64 ((k : Int) + 1) = (k : Int) + 1 := ⟨by omega, by omega, by unfold wrap64; omega⟩
theorem done_round {w w5 wr : World} {F : Foot} {Ft : Nat → Foot} {mb gm kb am n k hc : Nat} {qv : Value} {m : MS} {es : List TE} {N R : Nat} {ok : Bool} {hA : Option Addr} (hX : ManX w F Ft mb gm kb am qv n m es N R) (g : GoodM m) (hl : es.length ≤ 100000) (hn : n ≤ m.queue.length) (hlt : k < n)
  (hrow : w5.ownsRow w.heap.size 3 1 (.slice hA n hc) n ((m.queue.map qcell).take n)) (h : DoL w5 wr F mb gm kb am qv n m es N R ok k) :
  ∃ i t Fk Ftk y adh, m.queue[k]? = some i ∧ m.txs[i]? = some t ∧ ManX wr Fk Ftk mb gm kb am qv n (doneK m ok k) es (N + 16 * k) R ∧ Sb w5 F Fk ∧ Kf F w5 wr ∧ (doneK m ok k).txs[i]? = some t ∧ 0 < t.time ∧ es[i]? = some y ∧ i ≤ 1000000 ∧ hA = some adh ∧ wr.cell? (adh.add k) = some (.int .i64 ((i : Int) + 1)) := by
 obtain ⟨i, hi⟩ : ∃ i, m.queue[k]? = some i := ⟨_, List.getElem?_eq_getElem (by omega)⟩
 obtain ⟨t, ht, _⟩ := g.que i (List.mem_of_getElem? hi)
 obtain ⟨⟨Fk, Ftk, hmk, hsb, hin⟩, hkf⟩ := h
 obtain ⟨e1, e2, e3, e4⟩ := doneK_step (ok := ok) g hi ht
 obtain ⟨y, hy⟩ := entry hmk e1
 have hr := own_ag (F := fun b => w.heap.size ≤ b) hrow (hkf.ag (fun b q r => by have := hX.fam.lt b r; omega)) (fun g q => own_at_ge hrow q)
 obtain ⟨adh, eH, hadh, ch⟩ := (rd_of_own hr).get (k := k) (by have := hr.1; omega)
 refine ⟨i, t, Fk, Ftk, y, adh, hi, ht, hmk, hsb, hkf, e1, e3, hy, by have := get_lt hy; omega, eH, ?_⟩
 rw [ch, List.getElem_take, List.getElem_map]
 have := (List.getElem?_eq_some_iff.1 hi).2
 rw [this]; rfl
theorem done_tx {w w5 wr : World} {F Fk : Foot} {Ft Ftk : Nat → Foot} {mb gm kb am n k q tc i : Nat} {qv : Value} {m : MS} {es : List TE} {N N' R : Nat} {tA : Option Addr} {ts : List TxD} {t : TX} {m2 : MS} (hX : ManX w F Ft mb gm kb am qv n m es N R) (g : GoodM m) (hq : m.queue.length = q) (hn : n ≤ m.queue.length) (hlt : k < n)
  (h5 : WaitL w w5 m (.slice tA q tc) ts q) (hkf : Kf F w5 wr) (hmk : ManX wr Fk Ftk mb gm kb am qv n m2 es N' R) (hsb : Sb w5 F Fk) (hi : m.queue[k]? = some i) (ht : m.txs[i]? = some t) :
  ∃ (x : TxD) (adt : Addr), tA = some adt ∧ wr.cell? (adt.add (k * 2)) = some (.int .i64 (t.time : Int)) ∧ wr.cell? ⟨(adt.add (k * 2)).block, (adt.add (k * 2)).off + 1, none⟩ = some (.slice x.A x.n x.c) ∧ adt.block < wr.heap.size ∧ IsPs wr x.A x.n x.c x.ps ∧ OkT ⟨(t.time : Int), x.A, x.n, x.c, x.ps⟩ ∧ (∀ ad, x.A = some ad → ¬ Ftk 1 ad.block) ∧
   ∀ w0 w7, Below wr.heap.size wr w0 → Kf (Ftk 1) w0 w7 → w7.cell? (adt.add (k * 2)) = some (.int .i64 (t.time : Int)) := by
 have hwl := h5.kf hkf hX.fam.lt
 have hkq : k < ts.length := by rw [hwl.len]; omega
 obtain ⟨x, hx⟩ : ∃ x, ts[k]? = some x := ⟨_, List.getElem?_eq_getElem hkq⟩
 have hxm := List.mem_of_getElem? hx
 have hxt := (hwl.at_ k i t x hi ht hx).1
 have hx' : ts[k] = x := (List.getElem?_eq_some_iff.1 hx).2
 obtain ⟨adt, eT, hadt, e0, e1⟩ := two_get tx_two hwl.is.rd (k := k) hkq (u := .int .i64 (t.time : Int)) (v := .slice x.A x.n x.c) (by rw [hx', ← hxt]; rfl)
 have hnF : ∀ b, w.heap.size ≤ b → b < w5.heap.size → ¬ Ftk 1 b := fun b q1 q2 r => by
  rcases hsb b (hmk.fam.sub 1 b r) with s | s
  · have := hX.fam.lt b s; omega
  · omega
 refine ⟨x, adt, eT, e0, e1, hadt, hwl.ps x hxm, okt_time hxt ((WaitL.wait (by rw [hq]; exact hwl)).ok g x hxm), fun ad q => ?_, fun w0 w7 hb k7 => ?_⟩
 · have h5 := (h5.y x hxm).2.own
   obtain ⟨_, _, hh⟩ := own_at (g := ad.block) h5 (by rw [q]; rfl)
   exact hnF _ (own_at_ge (g := ad.block) h5 (by rw [q]; rfl)) (lt_of hh)
 · have hw0 := hwl.next hb
   have ho7 := own_ag (F := fun b => w.heap.size ≤ b ∧ b < w5.heap.size) hw0.own (k7.ag (fun b q r => hnF b q.1 q.2 r)) (fun g q => ⟨own_at_ge hwl.own q, by obtain ⟨_, _, hh⟩ := own_at h5.own q; exact lt_of hh⟩)
   rw [eT] at ho7
   obtain ⟨ad', e', _, c', _⟩ := two_get tx_two (rd_of_own ho7) (k := k) hkq (u := .int .i64 (t.time : Int)) (v := .slice x.A x.n x.c) (by rw [hx', ← hxt]; rfl)
   injection e' with e'; subst e'; exact c'
theorem done_taken {wr w0 w7 w8 : World} {Fk G : Foot} {Ftk : Nat → Foot} {mb gm kb am n k i : Nat} {qv : Value} {m : MS} {es : List TE} {N R : Nat} {el : Int} {t : TX} {y : TE} (hmk : ManX w0 Fk Ftk mb gm kb am qv n (doneK m true k) es (N + 16 * k) R) (hb : Below wr.heap.size wr w0) (hG : ExtP w7 G gm (N + 16 * k + 16) el) (hk7 : Kf (Ftk 1) w0 w7) (hsb : Sb w0 (Ftk 1) G) (hin : In w7 G) (hT : 0 < t.time) (e : w7.setCell ⟨mb, 7, none⟩ (.int .i64 (t.time : Int)) = w8) (e1 : (doneK m true k).txs[i]? = some t) (hy : es[i]? = some y) (hi : i ≤ 1000000) :
  Bk w7 mb 172 (mcells gm kb am qv n (doneK m true k)) ∧ ∃ Fe Fte, ManX w8 Fe Fte mb gm kb am qv n { doneK m true k with last := t.time } es (N + 16 * k + 16) R ∧ Kf Fk wr w8 ∧ Sb wr Fk Fe ∧ Calls Tryz.prog 95 #[.pointer (some ⟨mb, 0, none⟩), .int .i64 ((i : Int) + 1), .int .i64 3, .int .i64 0] w8 fun e w' => e = .returned (.tuple #[]) ∧ ManX w' Fe Fte mb gm kb am qv n ({ doneK m true k with last := t.time }.put i { t with st := 3, time := t.time }) es (N + 16 * k + 16) R ∧ Kf Fe w8 w' := by
 obtain ⟨Fe, Fte, h1, h2, h3, _⟩ := hmk.taken hk7 hsb hin hG hT e.symm
 refine ⟨Bk.ag hmk.bx (hmk.fam.ag hk7 (by decide : (0 : Nat) ≠ 1)) hmk.f0, Fe, Fte, h1, (Kf.of_below (F := Fk) hb).trans h2 (fun b q => .inl q), fun b q => (h3 b q).imp id (Nat.le_trans hb.size), ?_⟩
 have he := mend_any Fe Fte mb gm kb am qv n { doneK m true k with last := t.time } es (N + 16 * k + 16) R i 3 3 0 t y w8 h1 e1 hy hi rfl
 rw [if_neg (by decide)] at he
 exact he
theorem doneM_no {m : MS} (g : GoodM m) {n : Nat} (hn : n ≤ m.queue.length) : doneM m false n = { doneK m false n with queue := (doneK m false n).queue.drop n } := by
 have := pops_queue false n m g hn
 show m.pops false n = { m.pops false n with queue := m.queue.drop n }
 rw [← this]
theorem doneM_yes {m : MS} (g : GoodM m) {n : Nat} (hn : n ≤ m.queue.length) : doneM m true n = { ({ doneK m true n with num := m.num + 1 } : MS) with queue := ({ doneK m true n with num := m.num + 1 } : MS).queue.drop n } := by
 have := pops_queue true n m g hn
 show { m.pops true n with num := m.num + 1 } = { ({ m.pops true n with num := m.num + 1 } : MS) with queue := m.queue.drop n }
 rw [← this]
theorem done_rest {wr : World} {mb gm kb am n q qc : Nat} {qA : Option Addr} {m M : MS} {es : List TE} {N R : Nat} {Fk : Foot} {Ftk : Nat → Foot} (h : ManX wr Fk Ftk mb gm kb am (.slice qA q qc) n M es N R) (e : M.queue = m.queue) (hq : m.queue.length = q) (hn : n ≤ m.queue.length) (hql : m.queue.length ≤ 100000) (hc : m.queue.length ≤ qc) :
  ((m.queue.drop n).map qcell).length = (q - n) * 1 ∧ Rd wr.drew wr.drew.heap.size (if qc = n then qA else qA.map (·.add n)) ((m.queue.drop n).map qcell) ∧ (∀ u ∈ (m.queue.drop n).map qcell, u.oneCell' = true) ∧ q - n ≤ 100000 := by
 have ho := h.own
 rw [e] at ho
 refine ⟨by rw [List.length_map, List.length_drop]; omega, ?_, fun u hu => by obtain ⟨i, _, rfl⟩ := List.mem_map.1 hu; rfl, by omega⟩
 rw [List.map_drop]
 have := (rd_of_own (own_len hq ho)).drop (k := n) (c := qc) (n := q) (by rw [List.length_map, hq]) (by omega) (by omega)
 exact this
def doOut (w w' : World) (F : Foot) (mb gm kb am : Nat) (m' : MS) (es : List TE) (N R : Nat) : Prop := ∃ F' Ft' qv', ManX w' F' Ft' mb gm kb am qv' 0 m' es N R ∧ Kf F w w' ∧ Sb w F F' ∧ In w' F'
theorem done_out {w w5 w11 : World} {F : Foot} {mb gm kb am : Nat} {m' : MS} {es : List TE} {N R : Nat} (hb : Below w.heap.size w w5) (h : ∃ F' Ft' qv', ManX w11 F' Ft' mb gm kb am qv' 0 m' es N R ∧ Kf F w5 w11 ∧ Sb w5 F F' ∧ In w11 F') : doOut w w11 F mb gm kb am m' es N R := by
 obtain ⟨F', Ft', qv', g1, g2, g3, g4⟩ := h
 exact ⟨F', Ft', qv', g1, (Kf.of_below (F := F) hb).trans g2 (fun b q => .inl q), fun b q => (g3 b q).imp id (Nat.le_trans hb.size), g4⟩
theorem done_inc {wr w6 : World} {mb gm kb am n : Nat} {qv : Value} {m : MS} {es : List TE} {N R : Nat} {Fk : Foot} {Ftk : Nat → Foot} (h : ManX wr Fk Ftk mb gm kb am qv n (doneK m true n) es N R) (e : wr.setCell ⟨mb, 5, none⟩ (.int .i64 ((m.num : Int) + 1)) = w6) : wr.cell? ⟨mb, 5, none⟩ = some (.int .i64 (m.num : Int)) ∧ wr.frozen? ⟨mb, 5, none⟩ = false ∧ ManX w6 Fk Ftk mb gm kb am qv n { doneK m true n with num := m.num + 1 } es N R ∧ Kf Fk wr w6 := by
 have hnum : (doneK m true n).num = m.num := (pops_num true n m).1
 have c5 := (mcells_at h.bx).2.2.2.2.2.1
 rw [hnum] at c5
 have hb6 : Bk w6 mb 172 (mcells gm kb am qv n { doneK m true n with num := m.num + 1 }) := by rw [← e]; exact h.bx.set 5 (.int .i64 ((m.num : Int) + 1))
 have k6 : Kf (fun b => b = mb) wr w6 := by rw [← e]; exact (Kf.refl (fun b => b = mb) wr).set h.bx (by decide) (.inl rfl) 5 _
 obtain ⟨g1, g2⟩ := h.cell k6 { doneK m true n with num := m.num + 1 } n hb6 rfl rfl id
 exact ⟨c5, h.bx.free 5, g1, g2⟩
end
end Go.Proofs.YthhndleddlmgiaaGreatDoor.Tp
