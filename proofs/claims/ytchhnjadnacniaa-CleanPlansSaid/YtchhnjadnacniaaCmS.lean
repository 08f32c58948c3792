/- The contracts of rows and copies of the clean laws; what a step of Run does. -/
import Derived.Test.YtchhnjadnacniaaCmR
namespace Go.Proofs.Ytchhnjadnacniaa.Cm
set_option linter.unusedSimpArgs false
set_option linter.unusedVariables false
open Go.RowKit Rk

/-- two lists of copies, are they the same? -/
def EqR {α : Type} (e : Ending) (x y : α) : Prop := (e = .returned (.bool true) ∧ x = y) ∨ (e = .returned (.bool false) ∧ x ≠ y)
theorem ext_get {α : Type} {a c : List α} (hl : a.length = c.length) (h : ∀ j, (hj : j < a.length) → a[j] = c[j]'(by omega)) : a = c := List.ext_getElem hl fun i h1 h2 => h i h1
set_option maxRecDepth 100000 in
set_option maxHeartbeats 4000000 in
theorem rows_any (A A2 : Option Addr) (n c m c2 : Nat) (xs ys : List CpD) (w : World) (ha : IsCps w A n c xs) (hb : IsCps w A2 m c2 ys) (hn : n ≤ 1000) :
    Calls Try.prog 30 #[.slice A n c, .slice A2 m c2] w fun e w' => EqR e xs ys ∧ ∃ q, w' = w.drewN q := by
  have hl := ha.len
  have hl2 := hb.len
  by_cases hnm : n = m
  · subst hnm
    go_enter Try.func30, Try.ntmps30
    go_wp2_with fail
    go_loopw [5] (fun i wr => ∃ k q : Nat, k ≤ n ∧ i = .int .i64 (k : Int) ∧ wr = w.drewN q ∧ Hid (∀ j, (hj : j < xs.length) → j < k → xs[j] = ys[j]'(by omega))) (fun i _ => n - (intOf i).toNat)
    case atStart => exact ⟨0, 0, Nat.zero_le _, rfl, rfl, Lib.hid (fun j hj h => absurd h (by omega))⟩
    case round =>
      obtain ⟨k, q, hk, rfl, rfl, HU⟩ := hrel
      by_cases hlt : k < n
      · obtain ⟨⟨xl, xt⟩, hx⟩ : ∃ x, xs[k]'(by omega) = x := ⟨_, rfl⟩
        obtain ⟨⟨yl, yt⟩, hy⟩ : ∃ y, ys[k]'(by omega) = y := ⟨_, rfl⟩
        obtain ⟨ad, rfl, _, c0, c1⟩ := two_get cp_two ha.rd (k := k) (by omega) (u := .int .i64 xl) (v := .int .i64 xt) (by rw [hx]; rfl)
        obtain ⟨ad2, rfl, _, d0, d1⟩ := two_get cp_two hb.rd (k := k) (by omega) (u := .int .i64 yl) (v := .int .i64 yt) (by rw [hy]; rfl)
        have n0 : (k : Int) < (n : Int) := by omega
        have n1 : (0 : Int) ≤ (k : Int) := by omega
        have HX := Lib.hid (And.intro hx hy)
        clear hx hy
        by_cases hd : xl = yl
        · subst hd
          by_cases hd : xt = yt
          · subst hd
            have HN := Lib.hid (show ∀ j, (hj : j < xs.length) → j < k + 1 → xs[j] = ys[j]'(by omega) from fun j hj h => by
              rcases Nat.lt_or_ge j k with g | g
              · exact HU.out j hj g
              · obtain rfl : j = k := by omega
                rw [HX.out.1, HX.out.2])
            go_wp2_with fail
            refine wp_region_held_drew (S := Drawn w) (by kernel_rfl) (by first | exact Drawn.of _ _ | exact Drawn.one _) (fun hHeld => ?_)
            refine wpAnyH_take (i := 0) (v := ?v1_0) (by simp only [List.getElem?_toArray, List.getElem?_cons_succ, List.getElem?_cons_zero]; rfl) (by kernel_rfl) (by kernel_rfl) (by kernel_rfl) (by exact fun _ _ _ h => h) (Or.inl ⟨by rfl, ?h1_0⟩) hHeld ?_
            case h1_0 => (intro w' hSw; obtain ⟨m, rfl⟩ := hSw; go_simp <;> with_reducible rfl)
            try simp only [Act.put, List.setIfInBounds_toArray, List.set_cons_zero, List.set_cons_succ]
            refine wpAnyH_take (i := 1) (v := ?v2_1) (by simp only [List.getElem?_toArray, List.getElem?_cons_succ, List.getElem?_cons_zero]; rfl) (by kernel_rfl) (by kernel_rfl) (by kernel_rfl) (by exact fun _ _ _ h => h) (Or.inl ⟨by rfl, ?h2_1⟩) hHeld ?_
            case h2_1 => (intro w' hSw; obtain ⟨m, rfl⟩ := hSw; go_simp <;> with_reducible rfl)
            try simp only [Act.put, List.setIfInBounds_toArray, List.set_cons_zero, List.set_cons_succ]
            refine wpAnyH_take (i := 2) (v := ?v3_2) (by simp only [List.getElem?_toArray, List.getElem?_cons_succ, List.getElem?_cons_zero]; rfl) (by kernel_rfl) (by kernel_rfl) (by kernel_rfl) (by exact fun _ _ _ h => h) (Or.inl ⟨by rfl, ?h3_2⟩) hHeld ?_
            case h3_2 => (intro w' hSw; obtain ⟨m, rfl⟩ := hSw; go_simp <;> with_reducible rfl)
            try simp only [Act.put, List.setIfInBounds_toArray, List.set_cons_zero, List.set_cons_succ]
            refine wpAnyH_take (i := 3) (v := ?v4_3) (by simp only [List.getElem?_toArray, List.getElem?_cons_succ, List.getElem?_cons_zero]; rfl) (by kernel_rfl) (by kernel_rfl) (by kernel_rfl) (by exact fun _ _ _ h => h) (Or.inl ⟨by rfl, ?h4_3⟩) hHeld ?_
            case h4_3 => (intro w' hSw; obtain ⟨m, rfl⟩ := hSw; go_simp <;> with_reducible rfl)
            try simp only [Act.put, List.setIfInBounds_toArray, List.set_cons_zero, List.set_cons_succ]
            refine wpAnyH_take (i := 4) (v := ?v5_4) (by simp only [List.getElem?_toArray, List.getElem?_cons_succ, List.getElem?_cons_zero]; rfl) (by kernel_rfl) (by kernel_rfl) (by kernel_rfl) (by exact fun _ _ _ h => h) (Or.inl ⟨by rfl, ?h5_4⟩) hHeld ?_
            case h5_4 => (intro w' hSw; obtain ⟨m, rfl⟩ := hSw; go_simp <;> with_reducible rfl)
            try simp only [Act.put, List.setIfInBounds_toArray, List.set_cons_zero, List.set_cons_succ]
            refine wpAnyH_take (i := 5) (v := ?v6_5) (by simp only [List.getElem?_toArray, List.getElem?_cons_succ, List.getElem?_cons_zero]; rfl) (by kernel_rfl) (by kernel_rfl) (by kernel_rfl) (by exact fun _ _ _ h => h) (Or.inl ⟨by rfl, ?h6_5⟩) hHeld ?_
            case h6_5 => (intro w' hSw; obtain ⟨m, rfl⟩ := hSw; go_simp <;> with_reducible rfl)
            try simp only [Act.put, List.setIfInBounds_toArray, List.set_cons_zero, List.set_cons_succ]
            refine wpAnyH_take (i := 6) (v := ?v7_6) (by simp only [List.getElem?_toArray, List.getElem?_cons_succ, List.getElem?_cons_zero]; rfl) (by kernel_rfl) (by kernel_rfl) (by kernel_rfl) (by exact fun _ _ _ h => h) (Or.inl ⟨by rfl, ?h7_6⟩) hHeld ?_
            case h7_6 => (intro w' hSw; obtain ⟨m, rfl⟩ := hSw; go_simp <;> with_reducible rfl)
            try simp only [Act.put, List.setIfInBounds_toArray, List.set_cons_zero, List.set_cons_succ]
            refine wpAnyH_take (i := 7) (v := ?v8_7) (by simp only [List.getElem?_toArray, List.getElem?_cons_succ, List.getElem?_cons_zero]; rfl) (by kernel_rfl) (by kernel_rfl) (by kernel_rfl) (by exact fun _ _ _ h => h) (Or.inl ⟨by rfl, ?h8_7⟩) hHeld ?_
            case h8_7 => (intro w' hSw; obtain ⟨m, rfl⟩ := hSw; go_simp <;> with_reducible rfl)
            try simp only [Act.put, List.setIfInBounds_toArray, List.set_cons_zero, List.set_cons_succ]
            refine wpAnyH_take (i := 8) (v := ?v9_8) (by simp only [List.getElem?_toArray, List.getElem?_cons_succ, List.getElem?_cons_zero]; rfl) (by kernel_rfl) (by kernel_rfl) (by kernel_rfl) (by exact fun _ _ _ h => h) (Or.inl ⟨by rfl, ?h9_8⟩) hHeld ?_
            case h9_8 => (intro w' hSw; obtain ⟨m, rfl⟩ := hSw; go_simp <;> with_reducible rfl)
            try simp only [Act.put, List.setIfInBounds_toArray, List.set_cons_zero, List.set_cons_succ]
            refine wpAnyH_done (by kernel_rfl) ?_ _
            go_wp2_with fail
            go_roundw
            case rel => exact ⟨k + 1, q + 1, hlt, by go_num, rfl, HN⟩
            case measure => exact meas hlt
          · have e0 : decide (xt = yt) = false := decide_eq_false hd
            have e1 : (xt == yt) = false := beq_eq_false_iff_ne.2 hd
            have HD := Lib.hid hd
            clear hd
            go_wp2_with fail
            refine wp_region_held_drew (S := Drawn w) (by kernel_rfl) (by first | exact Drawn.of _ _ | exact Drawn.one _) (fun hHeld => ?_)
            refine wpAnyH_take (i := 0) (v := ?v10_0) (by simp only [List.getElem?_toArray, List.getElem?_cons_succ, List.getElem?_cons_zero]; rfl) (by kernel_rfl) (by kernel_rfl) (by kernel_rfl) (by exact fun _ _ _ h => h) (Or.inl ⟨by rfl, ?h10_0⟩) hHeld ?_
            case h10_0 => (intro w' hSw; obtain ⟨m, rfl⟩ := hSw; go_simp <;> with_reducible rfl)
            try simp only [Act.put, List.setIfInBounds_toArray, List.set_cons_zero, List.set_cons_succ]
            refine wpAnyH_take (i := 1) (v := ?v11_1) (by simp only [List.getElem?_toArray, List.getElem?_cons_succ, List.getElem?_cons_zero]; rfl) (by kernel_rfl) (by kernel_rfl) (by kernel_rfl) (by exact fun _ _ _ h => h) (Or.inl ⟨by rfl, ?h11_1⟩) hHeld ?_
            case h11_1 => (intro w' hSw; obtain ⟨m, rfl⟩ := hSw; go_simp <;> with_reducible rfl)
            try simp only [Act.put, List.setIfInBounds_toArray, List.set_cons_zero, List.set_cons_succ]
            refine wpAnyH_take (i := 2) (v := ?v12_2) (by simp only [List.getElem?_toArray, List.getElem?_cons_succ, List.getElem?_cons_zero]; rfl) (by kernel_rfl) (by kernel_rfl) (by kernel_rfl) (by exact fun _ _ _ h => h) (Or.inl ⟨by rfl, ?h12_2⟩) hHeld ?_
            case h12_2 => (intro w' hSw; obtain ⟨m, rfl⟩ := hSw; go_simp <;> with_reducible rfl)
            try simp only [Act.put, List.setIfInBounds_toArray, List.set_cons_zero, List.set_cons_succ]
            refine wpAnyH_take (i := 3) (v := ?v13_3) (by simp only [List.getElem?_toArray, List.getElem?_cons_succ, List.getElem?_cons_zero]; rfl) (by kernel_rfl) (by kernel_rfl) (by kernel_rfl) (by exact fun _ _ _ h => h) (Or.inl ⟨by rfl, ?h13_3⟩) hHeld ?_
            case h13_3 => (intro w' hSw; obtain ⟨m, rfl⟩ := hSw; go_simp <;> with_reducible rfl)
            try simp only [Act.put, List.setIfInBounds_toArray, List.set_cons_zero, List.set_cons_succ]
            refine wpAnyH_take (i := 4) (v := ?v14_4) (by simp only [List.getElem?_toArray, List.getElem?_cons_succ, List.getElem?_cons_zero]; rfl) (by kernel_rfl) (by kernel_rfl) (by kernel_rfl) (by exact fun _ _ _ h => h) (Or.inl ⟨by rfl, ?h14_4⟩) hHeld ?_
            case h14_4 => (intro w' hSw; obtain ⟨m, rfl⟩ := hSw; go_simp <;> with_reducible rfl)
            try simp only [Act.put, List.setIfInBounds_toArray, List.set_cons_zero, List.set_cons_succ]
            refine wpAnyH_take (i := 5) (v := ?v15_5) (by simp only [List.getElem?_toArray, List.getElem?_cons_succ, List.getElem?_cons_zero]; rfl) (by kernel_rfl) (by kernel_rfl) (by kernel_rfl) (by exact fun _ _ _ h => h) (Or.inl ⟨by rfl, ?h15_5⟩) hHeld ?_
            case h15_5 => (intro w' hSw; obtain ⟨m, rfl⟩ := hSw; go_simp <;> with_reducible rfl)
            try simp only [Act.put, List.setIfInBounds_toArray, List.set_cons_zero, List.set_cons_succ]
            refine wpAnyH_take (i := 6) (v := ?v16_6) (by simp only [List.getElem?_toArray, List.getElem?_cons_succ, List.getElem?_cons_zero]; rfl) (by kernel_rfl) (by kernel_rfl) (by kernel_rfl) (by exact fun _ _ _ h => h) (Or.inl ⟨by rfl, ?h16_6⟩) hHeld ?_
            case h16_6 => (intro w' hSw; obtain ⟨m, rfl⟩ := hSw; go_simp <;> with_reducible rfl)
            try simp only [Act.put, List.setIfInBounds_toArray, List.set_cons_zero, List.set_cons_succ]
            refine wpAnyH_take (i := 7) (v := ?v17_7) (by simp only [List.getElem?_toArray, List.getElem?_cons_succ, List.getElem?_cons_zero]; rfl) (by kernel_rfl) (by kernel_rfl) (by kernel_rfl) (by exact fun _ _ _ h => h) (Or.inl ⟨by rfl, ?h17_7⟩) hHeld ?_
            case h17_7 => (intro w' hSw; obtain ⟨m, rfl⟩ := hSw; go_simp <;> with_reducible rfl)
            try simp only [Act.put, List.setIfInBounds_toArray, List.set_cons_zero, List.set_cons_succ]
            refine wpAnyH_take (i := 8) (v := ?v18_8) (by simp only [List.getElem?_toArray, List.getElem?_cons_succ, List.getElem?_cons_zero]; rfl) (by kernel_rfl) (by kernel_rfl) (by kernel_rfl) (by exact fun _ _ _ h => h) (Or.inl ⟨by rfl, ?h18_8⟩) hHeld ?_
            case h18_8 => (intro w' hSw; obtain ⟨m, rfl⟩ := hSw; go_simp <;> with_reducible rfl)
            try simp only [Act.put, List.setIfInBounds_toArray, List.set_cons_zero, List.set_cons_succ]
            refine wpAnyH_done (by kernel_rfl) ?_ _
            go_wp2_with fail
            go_ret
            exact ⟨.inr ⟨rfl, fun h => by subst h; have e := HX.out.1.symm.trans HX.out.2; injection e with e1 e2; exact HD.out e2⟩, q + 1, rfl⟩
        · have e0 : decide (xl = yl) = false := decide_eq_false hd
          have e1 : (xl == yl) = false := beq_eq_false_iff_ne.2 hd
          have HD := Lib.hid hd
          clear hd
          go_wp2_with fail
          refine wp_region_held_drew (S := Drawn w) (by kernel_rfl) (by first | exact Drawn.of _ _ | exact Drawn.one _) (fun hHeld => ?_)
          refine wpAnyH_take (i := 0) (v := ?v19_0) (by simp only [List.getElem?_toArray, List.getElem?_cons_succ, List.getElem?_cons_zero]; rfl) (by kernel_rfl) (by kernel_rfl) (by kernel_rfl) (by exact fun _ _ _ h => h) (Or.inl ⟨by rfl, ?h19_0⟩) hHeld ?_
          case h19_0 => (intro w' hSw; obtain ⟨m, rfl⟩ := hSw; go_simp <;> with_reducible rfl)
          try simp only [Act.put, List.setIfInBounds_toArray, List.set_cons_zero, List.set_cons_succ]
          refine wpAnyH_take (i := 1) (v := ?v20_1) (by simp only [List.getElem?_toArray, List.getElem?_cons_succ, List.getElem?_cons_zero]; rfl) (by kernel_rfl) (by kernel_rfl) (by kernel_rfl) (by exact fun _ _ _ h => h) (Or.inl ⟨by rfl, ?h20_1⟩) hHeld ?_
          case h20_1 => (intro w' hSw; obtain ⟨m, rfl⟩ := hSw; go_simp <;> with_reducible rfl)
          try simp only [Act.put, List.setIfInBounds_toArray, List.set_cons_zero, List.set_cons_succ]
          refine wpAnyH_take (i := 2) (v := ?v21_2) (by simp only [List.getElem?_toArray, List.getElem?_cons_succ, List.getElem?_cons_zero]; rfl) (by kernel_rfl) (by kernel_rfl) (by kernel_rfl) (by exact fun _ _ _ h => h) (Or.inl ⟨by rfl, ?h21_2⟩) hHeld ?_
          case h21_2 => (intro w' hSw; obtain ⟨m, rfl⟩ := hSw; go_simp <;> with_reducible rfl)
          try simp only [Act.put, List.setIfInBounds_toArray, List.set_cons_zero, List.set_cons_succ]
          refine wpAnyH_take (i := 3) (v := ?v22_3) (by simp only [List.getElem?_toArray, List.getElem?_cons_succ, List.getElem?_cons_zero]; rfl) (by kernel_rfl) (by kernel_rfl) (by kernel_rfl) (by exact fun _ _ _ h => h) (Or.inl ⟨by rfl, ?h22_3⟩) hHeld ?_
          case h22_3 => (intro w' hSw; obtain ⟨m, rfl⟩ := hSw; go_simp <;> with_reducible rfl)
          try simp only [Act.put, List.setIfInBounds_toArray, List.set_cons_zero, List.set_cons_succ]
          refine wpAnyH_take (i := 4) (v := ?v23_4) (by simp only [List.getElem?_toArray, List.getElem?_cons_succ, List.getElem?_cons_zero]; rfl) (by kernel_rfl) (by kernel_rfl) (by kernel_rfl) (by exact fun _ _ _ h => h) (Or.inl ⟨by rfl, ?h23_4⟩) hHeld ?_
          case h23_4 => (intro w' hSw; obtain ⟨m, rfl⟩ := hSw; go_simp <;> with_reducible rfl)
          try simp only [Act.put, List.setIfInBounds_toArray, List.set_cons_zero, List.set_cons_succ]
          refine wpAnyH_take (i := 5) (v := ?v24_5) (by simp only [List.getElem?_toArray, List.getElem?_cons_succ, List.getElem?_cons_zero]; rfl) (by kernel_rfl) (by kernel_rfl) (by kernel_rfl) (by exact fun _ _ _ h => h) (Or.inl ⟨by rfl, ?h24_5⟩) hHeld ?_
          case h24_5 => (intro w' hSw; obtain ⟨m, rfl⟩ := hSw; go_simp <;> with_reducible rfl)
          try simp only [Act.put, List.setIfInBounds_toArray, List.set_cons_zero, List.set_cons_succ]
          refine wpAnyH_take (i := 6) (v := ?v25_6) (by simp only [List.getElem?_toArray, List.getElem?_cons_succ, List.getElem?_cons_zero]; rfl) (by kernel_rfl) (by kernel_rfl) (by kernel_rfl) (by exact fun _ _ _ h => h) (Or.inl ⟨by rfl, ?h25_6⟩) hHeld ?_
          case h25_6 => (intro w' hSw; obtain ⟨m, rfl⟩ := hSw; go_simp <;> with_reducible rfl)
          try simp only [Act.put, List.setIfInBounds_toArray, List.set_cons_zero, List.set_cons_succ]
          refine wpAnyH_take (i := 7) (v := ?v26_7) (by simp only [List.getElem?_toArray, List.getElem?_cons_succ, List.getElem?_cons_zero]; rfl) (by kernel_rfl) (by kernel_rfl) (by kernel_rfl) (by exact fun _ _ _ h => h) (Or.inl ⟨by rfl, ?h26_7⟩) hHeld ?_
          case h26_7 => (intro w' hSw; obtain ⟨m, rfl⟩ := hSw; go_simp <;> with_reducible rfl)
          try simp only [Act.put, List.setIfInBounds_toArray, List.set_cons_zero, List.set_cons_succ]
          refine wpAnyH_take (i := 8) (v := ?v27_8) (by simp only [List.getElem?_toArray, List.getElem?_cons_succ, List.getElem?_cons_zero]; rfl) (by kernel_rfl) (by kernel_rfl) (by kernel_rfl) (by exact fun _ _ _ h => h) (Or.inl ⟨by rfl, ?h27_8⟩) hHeld ?_
          case h27_8 => (intro w' hSw; obtain ⟨m, rfl⟩ := hSw; go_simp <;> with_reducible rfl)
          try simp only [Act.put, List.setIfInBounds_toArray, List.set_cons_zero, List.set_cons_succ]
          refine wpAnyH_done (by kernel_rfl) ?_ _
          go_wp2_with fail
          go_ret
          exact ⟨.inr ⟨rfl, fun h => by subst h; have e := HX.out.1.symm.trans HX.out.2; injection e with e1 e2; exact HD.out e1⟩, q + 1, rfl⟩
      · have n0 : ¬ ((k : Int) < (n : Int)) := by omega
        have HN := Lib.hid (ext_get (by omega) fun j hj => HU.out j hj (by omega))
        clear HU hlt
        go_wp2_with fail
        go_ret
        exact ⟨.inl ⟨rfl, HN.out⟩, q, rfl⟩
  · have e0 : ((n : Int) != (m : Int)) = true := by simp; omega
    have e1 : (n != m) = true := by simpa using hnm
    have HN := Lib.hid (show xs ≠ ys from fun h => hnm (by rw [← hl, ← hl2, h]))
    clear hnm
    go_enter Try.func30, Try.ntmps30
    go_wp2_with fail
    go_ret
    exact ⟨.inr ⟨rfl, HN.out⟩, 0, rfl⟩
set_option maxRecDepth 100000 in
set_option maxHeartbeats 4000000 in
theorem copies_any (A A2 : Option Addr) (n c m c2 : Nat) (xs ys : List RoD) (w : World) (ha : IsZs w A n c xs) (hb : IsZs w A2 m c2 ys) (hn : n ≤ 1000) (hxn : ∀ x ∈ xs, x.n ≤ 1000) :
    Calls Try.prog 31 #[.slice A n c, .slice A2 m c2] w fun e w' => EqR e (css xs) (css ys) ∧ ∃ q, w' = w.drewN q := by
  have hl := ha.len
  have hl2 := hb.len
  by_cases hnm : n = m
  · subst hnm
    go_enter Try.func31, Try.ntmps31
    go_wp2_with fail
    go_loopw [5] (fun i wr => ∃ k q : Nat, k ≤ n ∧ i = .int .i64 (k : Int) ∧ wr = w.drewN q ∧ Hid (∀ j, (hj : j < xs.length) → j < k → xs[j].cs = (ys[j]'(by omega)).cs)) (fun i _ => n - (intOf i).toNat)
    case atStart => exact ⟨0, 0, Nat.zero_le _, rfl, rfl, Lib.hid (fun j hj h => absurd h (by omega))⟩
    case round =>
      obtain ⟨k, q, hk, rfl, rfl, HU⟩ := hrel
      by_cases hlt : k < n
      · obtain ⟨x, hx⟩ : ∃ x, xs[k]'(by omega) = x := ⟨_, rfl⟩
        obtain ⟨y, hy⟩ : ∃ y, ys[k]'(by omega) = y := ⟨_, rfl⟩
        obtain ⟨ad, rfl, _, c0⟩ := ha.rd.get (k := k) (by rw [List.length_map]; omega)
        obtain ⟨ad2, rfl, _, d0⟩ := hb.rd.get (k := k) (by rw [List.length_map]; omega)
        rw [List.getElem_map, hx] at c0
        rw [List.getElem_map, hy] at d0
        unfold RoD.cell at c0 d0
        have n0 : (k : Int) < (n : Int) := by omega
        have n1 : (0 : Int) ≤ (k : Int) := by omega
        have hxm : x ∈ xs := by rw [← hx]; exact List.getElem_mem _
        have hym : y ∈ ys := by rw [← hy]; exact List.getElem_mem _
        have HX := Lib.hid (And.intro hx (And.intro hy (And.intro hxm (And.intro hym (hxn x hxm)))))
        have HR := Lib.hid (fun q' => rows_any x.A y.A x.n x.c y.n y.c x.cs y.cs (w.drewN q') ((ha.rows x hxm).next (bdrewN (Below.refl _ _) _)) ((hb.rows y hym).next (bdrewN (Below.refl _ _) _)) (hxn x hxm))
        clear hx hy hxm hym
        go_wp2_with fail
        refine wp_region_held_drew (S := Drawn w) (by kernel_rfl) (by first | exact Drawn.of _ _ | exact Drawn.one _) (fun hHeld => ?_)
        refine wpAnyH_take (i := 0) (v := ?v28_0) (by simp only [List.getElem?_toArray, List.getElem?_cons_succ, List.getElem?_cons_zero]; rfl) (by kernel_rfl) (by kernel_rfl) (by kernel_rfl) (by exact fun _ _ _ h => h) (Or.inl ⟨by rfl, ?h28_0⟩) hHeld ?_
        case h28_0 => (intro w' hSw; obtain ⟨m, rfl⟩ := hSw; go_simp <;> with_reducible rfl)
        try simp only [Act.put, List.setIfInBounds_toArray, List.set_cons_zero, List.set_cons_succ]
        refine wpAnyH_take (i := 1) (v := ?v29_1) (by simp only [List.getElem?_toArray, List.getElem?_cons_succ, List.getElem?_cons_zero]; rfl) (by kernel_rfl) (by kernel_rfl) (by kernel_rfl) (by exact fun _ _ _ h => h) (Or.inl ⟨by rfl, ?h29_1⟩) hHeld ?_
        case h29_1 => (intro w' hSw; obtain ⟨m, rfl⟩ := hSw; go_simp <;> with_reducible rfl)
        try simp only [Act.put, List.setIfInBounds_toArray, List.set_cons_zero, List.set_cons_succ]
        refine wpAnyH_take (i := 2) (v := ?v30_2) (by simp only [List.getElem?_toArray, List.getElem?_cons_succ, List.getElem?_cons_zero]; rfl) (by kernel_rfl) (by kernel_rfl) (by kernel_rfl) (by exact fun _ _ _ h => h) (Or.inl ⟨by rfl, ?h30_2⟩) hHeld ?_
        case h30_2 => (intro w' hSw; obtain ⟨m, rfl⟩ := hSw; go_simp <;> with_reducible rfl)
        try simp only [Act.put, List.setIfInBounds_toArray, List.set_cons_zero, List.set_cons_succ]
        refine wpAnyH_take (i := 3) (v := ?v31_3) (by simp only [List.getElem?_toArray, List.getElem?_cons_succ, List.getElem?_cons_zero]; rfl) (by kernel_rfl) (by kernel_rfl) (by kernel_rfl) (by exact fun _ _ _ h => h) (Or.inl ⟨by rfl, ?h31_3⟩) hHeld ?_
        case h31_3 => (intro w' hSw; obtain ⟨m, rfl⟩ := hSw; go_simp <;> with_reducible rfl)
        try simp only [Act.put, List.setIfInBounds_toArray, List.set_cons_zero, List.set_cons_succ]
        refine wpAnyH_take (i := 4) (v := ?v32_4) (by simp only [List.getElem?_toArray, List.getElem?_cons_succ, List.getElem?_cons_zero]; rfl) (by kernel_rfl) (by kernel_rfl) (by kernel_rfl) (by exact fun _ _ _ h => h) (Or.inl ⟨by rfl, ?h32_4⟩) hHeld ?_
        case h32_4 => (intro w' hSw; obtain ⟨m, rfl⟩ := hSw; go_simp <;> with_reducible rfl)
        try simp only [Act.put, List.setIfInBounds_toArray, List.set_cons_zero, List.set_cons_succ]
        refine wpAnyH_take (i := 5) (v := ?v33_5) (by simp only [List.getElem?_toArray, List.getElem?_cons_succ, List.getElem?_cons_zero]; rfl) (by kernel_rfl) (by kernel_rfl) (by kernel_rfl) (by exact fun _ _ _ h => h) (Or.inl ⟨by rfl, ?h33_5⟩) hHeld ?_
        case h33_5 => (intro w' hSw; obtain ⟨m, rfl⟩ := hSw; go_simp <;> with_reducible rfl)
        try simp only [Act.put, List.setIfInBounds_toArray, List.set_cons_zero, List.set_cons_succ]
        refine wpAnyH_take (i := 6) (v := ?v34_6) (by simp only [List.getElem?_toArray, List.getElem?_cons_succ, List.getElem?_cons_zero]; rfl) (by kernel_rfl) (by kernel_rfl) (by kernel_rfl) (by exact fun _ _ _ h => h) (Or.inl ⟨by rfl, ?h34_6⟩) hHeld ?_
        case h34_6 => (intro w' hSw; obtain ⟨m, rfl⟩ := hSw; go_simp <;> with_reducible rfl)
        try simp only [Act.put, List.setIfInBounds_toArray, List.set_cons_zero, List.set_cons_succ]
        refine wpAnyH_take (i := 7) (v := ?v35_7) (by simp only [List.getElem?_toArray, List.getElem?_cons_succ, List.getElem?_cons_zero]; rfl) (by kernel_rfl) (by kernel_rfl) (by kernel_rfl) (by exact fun _ _ _ h => h) (Or.inl ⟨by rfl, ?h35_7⟩) hHeld ?_
        case h35_7 => (intro w' hSw; obtain ⟨m, rfl⟩ := hSw; go_simp <;> with_reducible rfl)
        try simp only [Act.put, List.setIfInBounds_toArray, List.set_cons_zero, List.set_cons_succ]
        refine wpAnyH_ready (rs := [8]) (by kernel_rfl) (by simp) ?_
        refine AllReadyH.cons (by simp only [List.getElem?_toArray, List.getElem?_cons_succ, List.getElem?_cons_zero]; rfl) (fun K hK => ?_) AllReadyH.nil
        go_simp
        refine (HR.out (q + 1)).mono ?_
        rintro e w' ⟨he, q2, rfl⟩
        have HE := Lib.hid he
        clear he
        rcases HE.out with ⟨rfl, he⟩ | ⟨rfl, he⟩
        · have HN := Lib.hid (show ∀ j, (hj : j < xs.length) → j < k + 1 → xs[j].cs = (ys[j]'(by omega)).cs from fun j hj h => by
            rcases Nat.lt_or_ge j k with g | g
            · exact HU.out j hj g
            · obtain rfl : j = k := by omega
              rw [HX.out.1, HX.out.2.1]; exact he)
          clear he
          go_simp
          refine hK.out _ _ ⟨q + 1 + q2, by first | rfl | (rw [World.drewN_drewN])⟩ (fun hHeld2 => ?_)
          clear hK K hHeld
          rename Drawn _ _ => hHeld
          try simp only [Act.put, List.setIfInBounds_toArray, List.set_cons_zero, List.set_cons_succ]
          refine wpAnyH_take (i := 9) (v := ?v36_9) (by simp only [List.getElem?_toArray, List.getElem?_cons_succ, List.getElem?_cons_zero]; rfl) (by kernel_rfl) (by kernel_rfl) (by kernel_rfl) (by exact fun _ _ _ h => h) (Or.inl ⟨by rfl, ?h36_9⟩) hHeld ?_
          case h36_9 => (intro w' hSw; obtain ⟨m, rfl⟩ := hSw; go_simp <;> with_reducible rfl)
          try simp only [Act.put, List.setIfInBounds_toArray, List.set_cons_zero, List.set_cons_succ]
          refine wpAnyH_done (by kernel_rfl) ?_ _
          go_wp2_with fail
          go_roundw
          case rel => exact ⟨k + 1, _, hlt, by go_num, by first | rfl | (rw [World.drewN_drewN]), HN⟩
          case measure => exact meas hlt
        · have HN := Lib.hid (show css xs ≠ css ys from fun h => he (by
            have := css_get (os := xs) (k := k) (by omega)
            rw [h, css_get (by omega), HX.out.1, HX.out.2.1] at this
            exact this.symm))
          clear he
          go_simp
          refine hK.out _ _ ⟨q + 1 + q2, by first | rfl | (rw [World.drewN_drewN])⟩ (fun hHeld2 => ?_)
          clear hK K hHeld
          rename Drawn _ _ => hHeld
          try simp only [Act.put, List.setIfInBounds_toArray, List.set_cons_zero, List.set_cons_succ]
          refine wpAnyH_take (i := 9) (v := ?v37_9) (by simp only [List.getElem?_toArray, List.getElem?_cons_succ, List.getElem?_cons_zero]; rfl) (by kernel_rfl) (by kernel_rfl) (by kernel_rfl) (by exact fun _ _ _ h => h) (Or.inl ⟨by rfl, ?h37_9⟩) hHeld ?_
          case h37_9 => (intro w' hSw; obtain ⟨m, rfl⟩ := hSw; go_simp <;> with_reducible rfl)
          try simp only [Act.put, List.setIfInBounds_toArray, List.set_cons_zero, List.set_cons_succ]
          refine wpAnyH_done (by kernel_rfl) ?_ _
          go_wp2_with fail
          go_ret
          exact ⟨.inr ⟨rfl, HN.out⟩, _, by first | rfl | (rw [World.drewN_drewN])⟩
      · have n0 : ¬ ((k : Int) < (n : Int)) := by omega
        have HN := Lib.hid (show css xs = css ys from ext_get (by rw [css_len, css_len]; omega) fun j hj => by
          unfold css at *
          rw [List.length_map] at hj
          rw [List.getElem_map, List.getElem_map]
          exact HU.out j hj (by omega))
        clear HU hlt
        go_wp2_with fail
        go_ret
        exact ⟨.inl ⟨rfl, HN.out⟩, q, rfl⟩
  · have e0 : ((n : Int) != (m : Int)) = true := by simp; omega
    have e1 : (n != m) = true := by simpa using hnm
    have HN := Lib.hid (show css xs ≠ css ys from fun h => hnm (by have := congrArg List.length h; rw [css_len, css_len] at this; omega))
    clear hnm
    go_enter Try.func31, Try.ntmps31
    go_wp2_with fail
    go_ret
    exact ⟨.inr ⟨rfl, HN.out⟩, 0, rfl⟩
def tot (C : List (List CpD)) : Nat := (C.map List.length).sum
theorem tot_set {C : List (List CpD)} {k : Nat} (hk : k < C.length) (r : List CpD) : tot (C.set k r) + C[k].length = tot C + r.length := by
  unfold tot
  induction C generalizing k with
  | nil => simp at hk
  | cons a C ih =>
    cases k with
    | zero => simp; omega
    | succ k =>
      have := ih (k := k) (by simpa using hk)
      simp only [List.set_cons_succ, List.map_cons, List.sum_cons, List.getElem_cons_succ]
      omega
theorem ends_step {g : Int → List Int} {hz size now : Int} {C : List (List CpD)} {p : Nat} {mv cs : List CpD} (hn : nextC g hz size now C = some (p, mv)) (hp : C[p]? = some cs) (h1 : 1 ≤ cs.length) :
    stepC g hz size now C = none ∨ ∃ C', stepC g hz size now C = some C' ∧ C' ≠ C ∧ C'.length = C.length ∧ tot C' + cs.length = tot C + mv.length := by
  unfold stepC
  rw [hn]
  simp only []
  cases hpl : placeC size C p mv with
  | none => exact .inl rfl
  | some i =>
    right
    have hm := List.mem_of_find?_eq_some hpl
    have hf := List.find?_some hpl
    have hi : i < C.length := by simpa using hm
    have hne : i ≠ p := by unfold fitC at hf; simp at hf; exact hf.1
    obtain ⟨hpl', hpc⟩ := List.getElem?_eq_some_iff.1 hp
    refine ⟨_, rfl, fun h => ?_, by simp, ?_⟩
    · have e : ((C.set i (C.getD i [] ++ mv)).set p [])[p]? = some cs := by rw [h]; exact hp
      rw [List.getElem?_set_self (by simpa using hpl')] at e
      injection e with e
      rw [← e] at h1
      simp at h1
    · have hy : C.getD i [] = C[i] := by rw [List.getD_eq_getElem?_getD, List.getElem?_eq_getElem hi]; rfl
      rw [hy]
      have a := tot_set (C := C.set i (C[i] ++ mv)) (k := p) (by simpa using hpl') []
      rw [List.getElem_set_ne hne, hpc, List.length_nil] at a
      have c := tot_set hi (C[i] ++ mv)
      rw [List.length_append] at c
      omega
theorem zs_fair {w : World} {A : Option Addr} {n c : Nat} {zs : List RoD} (h : IsZs w A n c zs) : Fair zs := fun x hx => ((h.rows x hx).len).symm
/-- what Next returns, in one form. -/
theorem next_form {g : Int → List Int} {hz size now : Int} {os : List RoD} (hf : Fair os) {e : Ending} {w' : World} (h : NextR e w' g os size hz now) :
    ∃ (p : Nat) (A : Option Addr) (pn pc : Nat) (d r : Int), e = .returned (.tuple #[planC p (.slice A pn pc) d, .int .i64 r]) ∧
      (((r = 1 ∨ r = 14) ∧ nextC g hz size now (css os) = none) ∨ (r = 0 ∧ ∃ x : RoD, os[p]? = some x ∧ (x.n : Int) = size ∧ 1 ≤ size ∧ nextC g hz size now (css os) = some (p, liveL g hz x.cs) ∧ pn = (liveL g hz x.cs).length ∧ d = (x.n : Int) - (pn : Int) ∧ pn < x.n)) := by
  rcases nextR_C hf h with ⟨h1, r, hr, rfl⟩ | ⟨p, x, A, c, h1, h2, h3, h4, rfl, _, h5⟩
  · exact ⟨0, none, 0, 0, 0, r, rfl, .inl ⟨hr, h1⟩⟩
  · exact ⟨p, A, _, c, _, 0, rfl, .inr ⟨rfl, x, h1, h2, h3, h4, rfl, rfl, h5⟩⟩
theorem tot_css {os : List RoD} (hf : Fair os) : tot (css os) = (os.map (·.n)).sum := by
  unfold tot css
  rw [List.map_map]
  congr 1
  exact List.map_congr_left fun x hx => by simp [hf x hx]
theorem sum_step {zs : List RoD} {k : Nat} (hk : k < zs.length) {x : RoD} (hx : zs[k] = x) : ((zs.take (k + 1)).map (·.n)).sum = ((zs.take k).map (·.n)).sum + x.n := by
  rw [List.take_succ_eq_append_getElem hk, hx, List.map_append, List.sum_append]; simp
theorem sum_le {zs : List RoD} (k : Nat) : ((zs.take k).map (·.n)).sum ≤ (zs.map (·.n)).sum := by
  conv => rhs; rw [← List.take_append_drop k zs]
  rw [List.map_append, List.sum_append]; omega
theorem small_tot {zs : List RoD} (h : (zs.map fun x => (x.n : Int) + 1).sum ≤ 400) : (zs.map (·.n)).sum ≤ 400 ∧ zs.length ≤ 400 ∧ ∀ x ∈ zs, x.n ≤ 400 := by
  have key : ∀ l : List RoD, (((l.map (·.n)).sum : Nat) : Int) + l.length = (l.map fun x => (x.n : Int) + 1).sum := fun l => by
    induction l with
    | nil => simp
    | cons a l ih => simp only [List.map_cons, List.sum_cons, List.length_cons]; push_cast; omega
  have mem : ∀ l : List RoD, ∀ x ∈ l, x.n ≤ (l.map (·.n)).sum := fun l => by
    induction l with
    | nil => simp
    | cons a l ih =>
      intro x hx
      simp only [List.map_cons, List.sum_cons]
      rcases List.mem_cons.1 hx with rfl | hx
      · omega
      · have := ih x hx; omega
  have := key zs
  exact ⟨by omega, by omega, fun x hx => by have := mem zs x hx; omega⟩
end Go.Proofs.Ytchhnjadnacniaa.Cm
