/- Contracts of the closure of Apply, of IndexFunc and ContainsFunc over Puts, and of Clone of bytes. -/
import Derived.Test.YtchhnjadnacniaaCmC
import Derived.Maps.OwnOps
namespace Go.Proofs.Ytchhnjadnacniaa.Cm
set_option linter.unusedSimpArgs false
set_option linter.unusedVariables false
open Go.RowKit

set_option maxHeartbeats 1000000 in
theorem clo_no (lba : Int) (A : Option Addr) (n c : Nat) (w : World) (h : n = 40) (hn : n ≤ maxLen) :
    Calls Try.prog 75 #[.agg #[.int .i64 lba, .slice A n c]] w fun e w' => e = .returned (.bool false) ∧ Below w.heap.size w w' := by
  have hbig : maxLen ≤ 9223372036854775807 := by decide
  have t0 : ((n : Int) != 40) = false := by simp; omega
  have t1 : (!((n : Int) == 40)) = false := by simp; omega
  have t2 : decide ((n : Int) ≠ 40) = false := by simp; omega
  have hB : Below w.heap.size w (w.alloc (.cells #[.int .i64 lba, .slice A n c] 86)) := (Below.refl _ _).alloc (Nat.le_refl _) _
  have c1 : (w.alloc (.cells #[.int .i64 lba, .slice A n c] 86)).cell? ⟨w.heap.size, 1, none⟩ = some (.slice A n c) := (Bk.new w _ [.int .i64 lba, .slice A n c]).cell (i := 1) (by simp)
  go_enter Try.func75, Try.ntmps75
  go_wp2_with fail
  go_ret
  exact ⟨by first | rfl | (simp; omega), (Below.refl _ _).alloc (Nat.le_refl _) _⟩
set_option maxHeartbeats 1000000 in
theorem clo_yes (lba : Int) (A : Option Addr) (n c : Nat) (w : World) (h : n ≠ 40) (hn : n ≤ maxLen) :
    Calls Try.prog 75 #[.agg #[.int .i64 lba, .slice A n c]] w fun e w' => e = .returned (.bool true) ∧ Below w.heap.size w w' := by
  have hbig : maxLen ≤ 9223372036854775807 := by decide
  have t0 : ((n : Int) != 40) = true := by simp; omega
  have t1 : (!((n : Int) == 40)) = true := by simp; omega
  have t2 : decide ((n : Int) ≠ 40) = true := by simp; omega
  have hB : Below w.heap.size w (w.alloc (.cells #[.int .i64 lba, .slice A n c] 86)) := (Below.refl _ _).alloc (Nat.le_refl _) _
  have c1 : (w.alloc (.cells #[.int .i64 lba, .slice A n c] 86)).cell? ⟨w.heap.size, 1, none⟩ = some (.slice A n c) := (Bk.new w _ [.int .i64 lba, .slice A n c]).cell (i := 1) (by simp)
  go_enter Try.func75, Try.ntmps75
  go_wp2_with fail
  go_ret
  exact ⟨by first | rfl | (simp; omega), (Below.refl _ _).alloc (Nat.le_refl _) _⟩
/-- is there a Put whose data are of another length? -/
def badLen (ps : List PutD) : Prop := ∃ p ∈ ps, p.n ≠ 40
def IndR (r : Int) (ps : List PutD) : Prop := (0 ≤ r ∧ badLen ps) ∨ (r = -1 ∧ ¬ badLen ps)
def HasR (e : Ending) (ps : List PutD) : Prop := (e = .returned (.bool true) ∧ badLen ps) ∨ (e = .returned (.bool false) ∧ ¬ badLen ps)
set_option maxHeartbeats 4000000 in
theorem index_any (A : Option Addr) (n c : Nat) (ps : List PutD) (w : World) (h : IsPuts w A n c ps) :
    Calls Try.prog 92 #[.slice A n c, .func (.func 75) #[] #[]] w fun e w' => (∃ r : Int, e = .returned (.int .i64 r) ∧ IndR r ps ∧ -1 ≤ r) ∧ Below w.heap.size w w' := by
  have hl := h.len
  have hnn := Nat.le_trans h.cap h.big
  have hbig : maxLen ≤ 9223372036854775807 := by decide
  go_enter Try.func92, Try.ntmps92
  go_wp2_with fail
  go_loopw [8] (fun i wr => ∃ k : Nat, k ≤ n ∧ i = .int .i64 k ∧ Below w.heap.size w wr ∧ Hid (∀ j, (hj : j < ps.length) → j < k → ps[j].n = 40)) (fun i _ => n - (intOf i).toNat)
  case atStart => exact ⟨0, Nat.zero_le _, rfl, Below.refl _ _, fun j hj h => absurd h (by omega)⟩
  case round =>
    obtain ⟨k, hk, rfl, hW, HU⟩ := hrel
    by_cases hlt : k < n
    · obtain ⟨p, hp⟩ : ∃ p, ps[k]'(by omega) = p := ⟨_, rfl⟩
      obtain ⟨ad, rfl, had, c0, c1⟩ := two_get put_two (h.rd.next (Nat.le_refl _) hW) (k := k) (by omega) (u := .int .i64 p.lba) (v := .slice p.A p.n p.c) (by rw [hp]; rfl)
      have hpn : p.n ≤ maxLen := h.dbig p (by rw [← hp]; exact List.getElem_mem _)
      have n0 : (k : Int) < (n : Int) := by omega
      have n1 : (0 : Int) ≤ (k : Int) := by omega
      have HP := Lib.hid hp
      clear hp
      by_cases h4 : p.n = 40
      · have HN := Lib.hid (show ∀ j, (hj : j < ps.length) → j < k + 1 → ps[j].n = 40 from fun j hj hjk => by
          rcases Nat.lt_or_ge j k with g | g
          · exact HU.out j hj g
          · obtain rfl : j = k := by omega
            rw [HP.out]; exact h4)
        have H4 := Lib.hid h4
        clear h4 HU
        go_wp2_with (go_at_call 75; refine (clo_no _ _ _ _ _ H4.out hpn).mono ?_; rintro e w' ⟨rfl, hb⟩)
        have hW2 := hW.trans (hb.mono hW.size)
        go_roundw
        case rel => exact ⟨k + 1, by omega, by go_num, hW2, HN⟩
        case measure => simp [intOf]; omega
      · have HN := Lib.hid (show badLen ps from ⟨p, by rw [← HP.out]; exact List.getElem_mem _, h4⟩)
        have H4 := Lib.hid h4
        clear h4 HU
        go_wp2_with (go_at_call 75; refine (clo_yes _ _ _ _ _ H4.out hpn).mono ?_; rintro e w' ⟨rfl, hb⟩)
        have hW2 := hW.trans (hb.mono hW.size)
        go_ret
        exact ⟨⟨k, rfl, .inl ⟨by omega, HN.out⟩, by omega⟩, hW2⟩
    · have HN := Lib.hid (show ¬ badLen ps from fun ⟨p, hp, h4⟩ => by
        obtain ⟨i, hi, rfl⟩ := List.getElem_of_mem hp
        exact h4 (HU.out i hi (by omega)))
      clear HU
      have n0 : ¬ (k : Int) < (n : Int) := by omega
      go_wp2_with fail
      go_ret
      exact ⟨⟨-1, rfl, .inr ⟨rfl, HN.out⟩, by omega⟩, hW⟩
set_option maxHeartbeats 4000000 in
theorem has_any (A : Option Addr) (n c : Nat) (ps : List PutD) (w : World) (h : IsPuts w A n c ps) :
    Calls Try.prog 74 #[.slice A n c, .func (.func 75) #[] #[]] w fun e w' => HasR e ps ∧ Below w.heap.size w w' := by
  go_enter Try.func74, Try.ntmps74
  go_wp2_with fail
  refine (index_any _ _ _ _ _ h).mono ?_
  rintro e w' ⟨⟨r, rfl, hr, h1⟩, hb⟩
  have HR := Lib.hid hr
  clear hr
  by_cases h0 : 0 ≤ r
  · have t0 : decide (0 ≤ r) = true := decide_eq_true h0
    have HN := Lib.hid (show badLen ps from by rcases HR.out with h | h; exact h.2; omega)
    go_wp2_with fail
    go_ret
    exact ⟨.inl ⟨rfl, HN.out⟩, hb⟩
  · have t0 : decide (0 ≤ r) = false := decide_eq_false h0
    have HN := Lib.hid (show ¬ badLen ps from by rcases HR.out with h | h; omega; exact h.2)
    go_wp2_with fail
    go_ret
    exact ⟨.inr ⟨rfl, HN.out⟩, hb⟩
theorem infoB : (Try.prog.info? 5).map (fun i => (i.zero, i.size, i.bytes)) = some (some (.int .u8 0), 1, 1) := by kernel_rfl
set_option maxRecDepth 100000 in
set_option maxHeartbeats 4000000 in
theorem clone_any (A : Option Addr) (n c B : Nat) (bs : List Value) (w : World) (hl : bs.length = n) (h : Rd w w.heap.size A bs) (h1 : ∀ u ∈ bs, u.oneCell' = true) (hn : n ≤ 1000000) (hB : B ≤ w.heap.size) :
    Calls Try.prog 53 #[.slice A n c] w fun e w' => (∃ v, e = .returned v ∧ w'.ownsRow B 5 1 v n bs) ∧ Below w.heap.size w w' := by
  obtain ⟨i0, hi, hz0, hz1, hz2⟩ := info_parts infoB
  have HN := Lib.hid hn
  have q : ∀ (w : World) (a : Option Addr) (n c n' c' : Nat), (binOp .eql 46 (.slice a n c) (.slice none n' c')).run Try.prog w = .ok (.bool a.isNone) w := fun w a n c n' c' => Lib.run_eql_slice_nil w _ _ a n c n' c' Try.underlying46
  clear hn
  rcases A with _ | ad
  · have h0 : bs = [] := by
      rcases Nat.eq_zero_or_pos bs.length with g | g
      · exact List.eq_nil_of_length_eq_zero g
      · obtain ⟨ad, e, _⟩ := h g
        cases e
    subst h0
    simp at hl
    subst hl
    go_enter Try.func53, Try.ntmps53
    go_wp2_with fail
    go_ret
    exact ⟨⟨_, rfl, rfl, .inl ⟨rfl, rfl⟩⟩, Below.refl _ _⟩
  · go_enter Try.func53, Try.ntmps53
    go_wp2_with (at_builtin; go_must (refine wpList_appN _ rfl _ _ 46 rfl B 5 i0 (.int .u8 0) 1 Try.underlying46 hi hz0 hz1 hz2 rfl _ 0 [] (by rfl) (by exact World.ownsRow_lit w #[] 0 hB (by decide) rfl) w.heap.size (some ad) n c bs (by rfl) hl (by exact h.alloc (Nat.le_refl _) _) h1 (by have := HN.out; omega) (by have := HN.out; omega) (by simp; omega) ?_); intro v1 w1 hO1 hG1)
    have HB : Below w.heap.size w w1 := ((Below.refl _ _).alloc (Nat.le_refl _) _).grown hG1 (by simp) (fun g hg => Nat.le_of_eq (Option.some.inj (show some w.heap.size = some g from hg)))
    go_ret
    exact ⟨⟨v1, rfl, by simpa using hO1⟩, HB⟩
end Go.Proofs.Ytchhnjadnacniaa.Cm
