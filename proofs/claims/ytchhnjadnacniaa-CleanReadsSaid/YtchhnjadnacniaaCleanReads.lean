/- CleanReads: what every snapshot from the horizon on reads is a live copy; what none reads is not: the law returns true, for every input. -/
import Derived.Test.YtchhnjadnacniaaCmP
namespace Go.Proofs.Ytchhnjadnacniaa.Cm
set_option linter.unusedSimpArgs false
set_option linter.unusedVariables false
open Go.RowKit Rk

theorem getT_some {l : List Int} {a t : Int} (h : getT l a = t) (ht : t ≠ 0) : ∃ k, ∃ hk : k < l.length, l[k] = t ∧ t ≤ a ∧ ∀ j, (hj : j < l.length) → k + 1 ≤ j → a < l[j] := by
  have key : ∀ n, n ≤ l.length → (∀ j, (hj : j < l.length) → n ≤ j → a < l[j]) → ∃ k, ∃ hk : k < l.length, l[k] = t ∧ t ≤ a ∧ ∀ j, (hj : j < l.length) → k + 1 ≤ j → a < l[j] := by
    intro n
    induction n with
    | zero => intro _ hu; rw [getT_zero fun j hj => hu j hj (by omega)] at h; exact absurd h.symm ht
    | succ n ih =>
      intro hn hu
      by_cases hle : l[n]'(by omega) ≤ a
      · rw [getT_at (by omega) (fun j hj hjk => hu j hj hjk) hle] at h
        exact ⟨n, by omega, h, h ▸ hle, hu⟩
      · refine ih (by omega) fun j hj hjn => ?_
        rcases Nat.lt_or_ge n j with g | g
        · exact hu j hj g
        · obtain rfl : j = n := by omega
          omega
  exact key l.length (Nat.le_refl _) fun j hj h => absurd hj (by omega)
theorem getV_between {g : Int → List Int} {lba a m t : Int} (h : getV g lba a = t) (ht : 0 < t) (h1 : t ≤ m) (h2 : m ≤ a) : getV g lba m = t := by
  unfold getV at h ⊢
  by_cases hl : 0 ≤ lba ∧ lba < 30
  · rw [if_pos hl] at h ⊢
    obtain ⟨k, hk, e, hle, hu⟩ := getT_some h (by omega)
    rw [getT_at hk (fun j hj hjk => by have := hu j hj hjk; omega) (by omega), e]
  · rw [if_neg hl] at h; omega
theorem getV_le {g : Int → List Int} {lba a t : Int} (h : getV g lba a = t) (ht : 0 < t) : t ≤ a := by
  unfold getV at h
  split at h
  · obtain ⟨k, hk, e, hle, hu⟩ := getT_some h (by omega)
    exact hle
  · omega
theorem meas_up {x : Int} (h : x ≤ 1001) (hw : wrap64 (x + 1) = x + 1) : (1002 - intOf (.int .i64 (wrap64 (x + 1)))).toNat < (1002 - intOf (.int .i64 x)).toNat := by rw [hw]; simp [intOf]; omega
/-- does a snapshot ahead of a read the time? -/
def readP (g : Int → List Int) (lba t hz a : Int) : Prop := ∃ x, hz ≤ x ∧ x < a ∧ getV g lba x = t ∧ 0 < t
theorem reads_law {g : Int → List Int} {lba t hz : Int} (h0 : 0 ≤ hz) (h1 : hz ≤ 1000) : (readP g lba t hz 1002 → liveB g hz ⟨lba, t⟩ = true) ∧ (liveB g hz ⟨lba, t⟩ = true → readP g lba t hz 1002 ∨ 1001 < t) := by
  unfold liveB
  constructor
  · rintro ⟨x, hx, hx2, hv, ht⟩
    have := getV_le hv ht
    exact decide_eq_true ⟨by show (1 : Int) ≤ t; omega, getV_between hv ht (by show t ≤ max t hz; omega) (by show max t hz ≤ x; omega)⟩
  · intro h
    have h := of_decide_eq_true h
    by_cases ht : 1001 < t
    · exact .inr ht
    · exact .inl ⟨max t hz, by omega, by omega, h.2, by have := h.1; show 0 < t; exact this⟩
set_option maxRecDepth 100000 in
set_option maxHeartbeats 4000000 in
theorem reads_true (A : Option Addr) (n c : Nat) (ts : List TxD) (hz lba t : Int) (w : World) (h : IsTxs w A n c ts) (_ : (Lit.int .i64 hz).wf = true) (_ : (Lit.int .i64 lba).wf = true) (_ : (Lit.int .i64 t).wf = true) :
    Calls Try.prog 6 #[.slice A n c, .int .i64 hz, .int .i64 lba, .int .i64 t] w fun e w' => e = .returned (.bool true) ∧ Below w.heap.size w w' := by
  go_enter Try.func6, Try.ntmps6
  go_wp2_with fail
  refine (small_any A none n c 0 0 ts [] w h (IsZs.none w)).mono ?_
  rintro e w1 ⟨⟨r, rfl, hr⟩, hb1⟩
  have HR := Lib.hid hr
  clear hr
  cases r
  · go_wp2_with fail
    refine (awake_any _).mono ?_
    rintro e w' ⟨rfl, hbA⟩
    go_wp2_with fail
    go_ret
    exact ⟨rfl, hb1.trans (hbA.mono hb1.size)⟩
  · by_cases h0 : hz < 0
    · have t0 : decide (hz < 0) = true := decide_eq_true h0
      clear h0
      go_wp2_with fail
      refine (awake_any _).mono ?_
      rintro e w' ⟨rfl, hbA⟩
      go_wp2_with fail
      go_ret
      exact ⟨rfl, hb1.trans (hbA.mono hb1.size)⟩
    · have t0 : decide (hz < 0) = false := decide_eq_false h0
      by_cases h1 : 1000 < hz
      · have t1 : decide (1000 < hz) = true := decide_eq_true h1
        clear h0 h1
        go_wp2_with fail
        refine (awake_any _).mono ?_
        rintro e w' ⟨rfl, hbA⟩
        go_wp2_with fail
        go_ret
        exact ⟨rfl, hb1.trans (hbA.mono hb1.size)⟩
      · have t1 : decide (1000 < hz) = false := decide_eq_false h1
        have HZ := Lib.hid (show 0 ≤ hz ∧ hz ≤ 1000 by omega)
        have HN := Lib.hid (HR.out rfl)
        have hmd := made_any A n c ts w1 (h.next hb1) HN.out.1
        clear h0 h1
        go_wp2_with fail
        refine hmd.mono ?_
        rintro e w2 ⟨gm, xm, rfl, hM⟩
        obtain ⟨g, hg⟩ : ∃ g, (foldT ts).2 = g := ⟨_, rfl⟩
        have hev := hM.ev
        rw [hg] at hev
        have hb2 := hb1.trans (hM.bel.mono hb1.size)
        have HE := Lib.hid (And.intro hev hb2)
        have hLAW := Lib.hid (reads_law (g := g) (lba := lba) (t := t) HZ.out.1 HZ.out.2)
        clear hM hg hev hb2 hmd
        go_wp2_with fail
        go_loopw [11, 12] (fun v a wr => ∃ (b : Bool) (x : Int), v = .bool b ∧ a = .int .i64 x ∧ hz ≤ x ∧ x ≤ 1002 ∧ Below w2.heap.size w2 wr ∧ Hid (b = true ↔ readP g lba t hz x)) (fun _ a _ => (1002 - intOf a).toNat)
        case atStart => exact ⟨false, hz, rfl, rfl, by omega, by have := HZ.out; omega, Below.refl _ _, Lib.hid (Iff.intro (fun e => by cases e) (fun hp => by obtain ⟨x, h1, h2, _⟩ := hp; omega))⟩
        case round =>
          obtain ⟨b, x, rfl, rfl, hx0, hx2, hW, HB⟩ := hrel
          by_cases hlt : x ≤ 1001
          · have t2 : decide (x ≤ 1001) = true := decide_eq_true hlt
            have hgt := get_any w1.heap.size gm _ _ _ lba x g wr (HE.out.1.next hW) (by have := HN.out.1; omega)
            have W2 := Lib.hid (show wrap64 (x + 1) = x + 1 by have := HZ.out.1; unfold wrap64; omega)
            have HX := Lib.hid (And.intro hx0 (And.intro hx2 hlt))
            clear hx0 hx2 hlt
            go_wp2_with fail
            refine hgt.mono ?_
            rintro e w3 ⟨⟨v, rfl, hv⟩, hb3⟩
            obtain ⟨y, hy⟩ : ∃ y, getV g lba x = y := ⟨_, rfl⟩
            rw [hy]
            have HY := Lib.hid hy
            have hW3 := hW.trans (hb3.mono hW.size)
            have HW := Lib.hid hW3
            clear hy hW3 hb3 hW hgt
            have END := Lib.hid (fun (b' : Bool) (hb' : b' = true ↔ b = true ∨ (y = t ∧ 0 < t)) => (show b' = true ↔ readP g lba t hz (x + 1) by
              rw [hb', HB.out]
              constructor
              · rintro (⟨z, z1, z2, z3⟩ | ⟨z1, z2⟩)
                · exact ⟨z, z1, by omega, z3⟩
                · exact ⟨x, HX.out.1, by omega, by rw [HY.out]; exact z1, z2⟩
              · rintro ⟨z, z1, z2, z3, z4⟩
                rcases Int.lt_or_le z x with q | q
                · exact .inl ⟨z, z1, q, z3, z4⟩
                · obtain rfl : z = x := by omega
                  exact .inr ⟨by rw [← HY.out]; exact z3, z4⟩))
            cases b
            · by_cases e : y = t
              · have e0 : decide (y = t) = true := decide_eq_true e
                have e1 : (y == t) = true := by rw [beq_iff_eq]; exact e
                by_cases p0 : 0 < y
                · have p1 : decide (0 < y) = true := decide_eq_true p0
                  have HQ := Lib.hid (END.out true (by constructor; intro _; exact .inr ⟨e, by omega⟩; intro _; rfl))
                  clear e p0
                  go_wp2_with fail
                  go_roundw
                  case rel => exact ⟨true, x + 1, rfl, by first | (rw [W2.out]) | rfl, by have := HX.out; omega, by have := HX.out; omega, HW.out, Lib.hid (by have := HQ.out; simpa using this)⟩
                  case measure => exact meas_up HX.out.2.2 W2.out
                · have p1 : decide (0 < y) = false := decide_eq_false p0
                  have HQ := Lib.hid (END.out false (by constructor; intro h; cases h; rintro (h | h); cases h; omega))
                  clear e p0
                  go_wp2_with fail
                  go_roundw
                  case rel => exact ⟨false, x + 1, rfl, by first | (rw [W2.out]) | rfl, by have := HX.out; omega, by have := HX.out; omega, HW.out, HQ⟩
                  case measure => exact meas_up HX.out.2.2 W2.out
              · have e0 : decide (y = t) = false := decide_eq_false e
                have e1 : (y == t) = false := by rw [beq_eq_false_iff_ne]; exact e
                have HQ := Lib.hid (END.out false (by constructor; intro h; cases h; rintro (h | h); cases h; exact absurd h.1 e))
                clear e
                go_wp2_with fail
                go_roundw
                case rel => exact ⟨false, x + 1, rfl, by first | (rw [W2.out]) | rfl, by have := HX.out; omega, by have := HX.out; omega, HW.out, HQ⟩
                case measure => exact meas_up HX.out.2.2 W2.out
            · have HQ := Lib.hid (END.out true (by constructor; intro _; exact .inl rfl; intro _; rfl))
              go_wp2_with fail
              go_roundw
              case rel => exact ⟨true, x + 1, rfl, by first | (rw [W2.out]) | rfl, by have := HX.out; omega, by have := HX.out; omega, HW.out, Lib.hid (by have := HQ.out; simpa using this)⟩
              case measure => exact meas_up HX.out.2.2 W2.out
          · have hx : x = 1002 := by omega
            rw [hx] at HB
            have HL := Lib.hid (live_any w1.heap.size gm _ _ _ g ⟨lba, t⟩ hz wr (HE.out.1.next hW) (by have := HN.out.1; omega))
            have t2 : decide (x ≤ 1001) = false := decide_eq_false hlt
            have HW := Lib.hid (HE.out.2.trans (hW.mono HE.out.2.size))
            clear hx hx0 hx2 hlt hW
            go_wp2_with fail
            refine HL.out.mono ?_
            rintro e w3 ⟨rfl, hb3⟩
            have hb4 := HW.out.trans (hb3.mono HW.out.size)
            obtain ⟨l, hl⟩ : ∃ l, liveB g hz ⟨lba, t⟩ = l := ⟨_, rfl⟩
            have hlaw := hLAW.out
            rw [hl] at hlaw ⊢
            have HLW := Lib.hid hlaw
            have HB4 := Lib.hid hb4
            clear hl hlaw hb3 hb4
            cases b
            · cases l
              · go_wp2_with fail
                refine (awake_any _).mono ?_
                rintro e w' ⟨rfl, hbA⟩
                go_wp2_with fail
                go_ret
                exact ⟨rfl, HB4.out.trans (hbA.mono HB4.out.size)⟩
              · have ht : 1001 < t := by
                  rcases HLW.out.2 rfl with h | h
                  · have := HB.out.2 h; cases this
                  · exact h
                have t3 : decide (1001 < t) = true := decide_eq_true ht
                clear ht
                go_wp2_with fail
                refine (awake_any _).mono ?_
                rintro e w' ⟨rfl, hbA⟩
                go_wp2_with fail
                go_ret
                exact ⟨rfl, HB4.out.trans (hbA.mono HB4.out.size)⟩
            · obtain rfl : l = true := HLW.out.1 (HB.out.1 rfl)
              go_wp2_with fail
              refine (awake_any _).mono ?_
              rintro e w' ⟨rfl, hbA⟩
              go_wp2_with fail
              go_ret
              exact ⟨rfl, HB4.out.trans (hbA.mono HB4.out.size)⟩
end Go.Proofs.Ytchhnjadnacniaa.Cm
