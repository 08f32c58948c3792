/- FbitsFrom: the walk. For every 64 bits and every row of bytes the law returns true, and nothing that was there is written. No condition. -/
import Derived.Test.YtmnnlchnobbogaaFbE
namespace Go.Proofs.Ytmnnlchnobbogaa.Fb
set_option linter.unusedSimpArgs false
set_option linter.unusedVariables false
open Go.RowKit Fl

set_option maxHeartbeats 1000000 in
theorem from_long (v : Nat) (A : Option Addr) (n c : Nat) (w : World) (h : 300 < (n : Int)) :
    Calls Try.prog 9 #[.int .u64 v, .slice A n c] w fun e w' => e = .returned (.bool true) ∧ Below w.heap.size w w' := by
  go_enter Try.func9, Try.ntmps9
  go_wp2_with fail
  refine (awake_any _).mono ?_
  rintro e w' ⟨rfl, rfl⟩
  go_wp2_with fail
  go_ret
  exact ⟨rfl, Below.refl _ _⟩
set_option maxHeartbeats 1000000 in
theorem from_len (v : Nat) (A : Option Addr) (n c : Nat) (w : World) (hv : lt64 v) (h : (n : Int) ≤ 300) (h1 : ((n : Int) != 8) = true) :
    Calls Try.prog 9 #[.int .u64 v, .slice A n c] w fun e w' => e = .returned (.bool true) ∧ Below w.heap.size w w' := by
  have s1 : sameB 0 0 = true := sameB_yes rfl
  go_enter Try.func9, Try.ntmps9
  go_wp2_with fail
  refine (decode_len _ _ _ _ h1).mono ?_
  rintro e w' ⟨rfl, rfl⟩
  go_wp2_with fail
  refine (rdecode_len _ _ _ _ h1).mono ?_
  rintro e w' ⟨rfl, rfl⟩
  go_wp2_with fail
  refine (from_any _ _).mono ?_
  rintro e w' ⟨rfl, rfl⟩
  go_wp2_with fail
  refine (rbits_any _ _).mono ?_
  rintro e w' ⟨rfl, rfl⟩
  go_wp2_with fail
  refine (rfrom_any _ _ hv).mono ?_
  rintro e w' ⟨rfl, rfl⟩
  go_wp2_with fail
  refine (rbits_any _ _).mono ?_
  rintro e w' ⟨rfl, rfl⟩
  go_wp2_with fail
  refine (rsame_any _ _ _).mono ?_
  rintro e w' ⟨rfl, rfl⟩
  go_wp2_with fail
  refine (from_any _ _).mono ?_
  rintro e w' ⟨rfl, rfl⟩
  go_wp2_with fail
  refine (encode_any _ _).mono ?_
  rintro e w1 ⟨A1, rfl, hr1, hb1⟩
  have K1 : Kp [] w w1 := (Kp.nil (w := w)).next hb1
  clear hb1
  go_wp2_with fail
  refine (rfrom_any _ _ hv).mono ?_
  rintro e w' ⟨rfl, rfl⟩
  go_wp2_with fail
  refine (rencode_any _ _).mono ?_
  rintro e w2 ⟨A2, c2, rfl, hr2, hb2⟩
  have hr3 := (hr1.next (Nat.le_refl _) hb2).more hb2.size
  have K2 : Kp [] w w2 := K1.next hb2
  clear hb2
  go_wp2_with fail
  refine (bytes_eq A1 A2 8 c2 (encL (cn (cn v))) _ rfl hr3 hr2).mono ?_
  rintro e w3 ⟨rfl, hb3⟩
  have K3 : Kp [] w w3 := K2.next hb3
  clear hb3
  go_wp2_with fail
  refine (awake_any _).mono ?_
  rintro e w' ⟨rfl, rfl⟩
  go_wp2_with fail
  go_ret
  exact ⟨rfl, K3.bel⟩
set_option maxHeartbeats 1000000 in
theorem from_ok (v : Nat) (A : Option Addr) (c : Nat) (l : List Int) (w : World) (hv : lt64 v) (h : IsInts .u8 w A 8 c l) (hc : rg (decV (l.take 8)) ≤ 9218868437227405312) :
    Calls Try.prog 9 #[.int .u64 v, .slice A 8 c] w fun e w' => e = .returned (.bool true) ∧ Below w.heap.size w w' := by
  have s1 : sameB (decV (l.take 8)) (decV (l.take 8)) = true := sameB_yes rfl
  go_enter Try.func9, Try.ntmps9
  go_wp2_with fail
  refine (decode_ok _ _ _ _ h hc).mono ?_
  rintro e w' ⟨rfl, rfl⟩
  go_wp2_with fail
  refine (rdecode_ok _ _ _ _ h hc).mono ?_
  rintro e w' ⟨rfl, rfl⟩
  go_wp2_with fail
  refine (from_any _ _).mono ?_
  rintro e w' ⟨rfl, rfl⟩
  go_wp2_with fail
  refine (rbits_any _ _).mono ?_
  rintro e w' ⟨rfl, rfl⟩
  go_wp2_with fail
  refine (rfrom_any _ _ hv).mono ?_
  rintro e w' ⟨rfl, rfl⟩
  go_wp2_with fail
  refine (rbits_any _ _).mono ?_
  rintro e w' ⟨rfl, rfl⟩
  go_wp2_with fail
  refine (rsame_any _ _ _).mono ?_
  rintro e w' ⟨rfl, rfl⟩
  go_wp2_with fail
  refine (from_any _ _).mono ?_
  rintro e w' ⟨rfl, rfl⟩
  go_wp2_with fail
  refine (encode_any _ _).mono ?_
  rintro e w1 ⟨A1, rfl, hr1, hb1⟩
  have K1 : Kp [] w w1 := (Kp.nil (w := w)).next hb1
  clear hb1
  go_wp2_with fail
  refine (rfrom_any _ _ hv).mono ?_
  rintro e w' ⟨rfl, rfl⟩
  go_wp2_with fail
  refine (rencode_any _ _).mono ?_
  rintro e w2 ⟨A2, c2, rfl, hr2, hb2⟩
  have hr3 := (hr1.next (Nat.le_refl _) hb2).more hb2.size
  have K2 : Kp [] w w2 := K1.next hb2
  clear hb2
  go_wp2_with fail
  refine (bytes_eq A1 A2 8 c2 (encL (cn (cn v))) _ rfl hr3 hr2).mono ?_
  rintro e w3 ⟨rfl, hb3⟩
  have K3 : Kp [] w w3 := K2.next hb3
  clear hb3
  go_wp2_with fail
  refine (awake_any _).mono ?_
  rintro e w' ⟨rfl, rfl⟩
  go_wp2_with fail
  go_ret
  exact ⟨rfl, K3.bel⟩
set_option maxHeartbeats 1000000 in
theorem from_one (v : Nat) (A : Option Addr) (c : Nat) (l : List Int) (w : World) (hv : lt64 v) (h : IsInts .u8 w A 8 c l) (hc : decV (l.take 8) = 9221120237041090560) :
    Calls Try.prog 9 #[.int .u64 v, .slice A 8 c] w fun e w' => e = .returned (.bool true) ∧ Below w.heap.size w w' := by
  have HD := decode_one _ _ _ w h hc
  have HR := rdecode_one _ _ _ w h hc
  clear hc
  have s1 : sameB 9221120237041090560 9221120237041090560 = true := sameB_yes rfl
  go_enter Try.func9, Try.ntmps9
  go_wp2_with fail
  refine (HD).mono ?_
  rintro e w' ⟨rfl, rfl⟩
  go_wp2_with fail
  refine (HR).mono ?_
  rintro e w' ⟨rfl, rfl⟩
  go_wp2_with fail
  refine (from_any _ _).mono ?_
  rintro e w' ⟨rfl, rfl⟩
  go_wp2_with fail
  refine (rbits_any _ _).mono ?_
  rintro e w' ⟨rfl, rfl⟩
  go_wp2_with fail
  refine (rfrom_any _ _ hv).mono ?_
  rintro e w' ⟨rfl, rfl⟩
  go_wp2_with fail
  refine (rbits_any _ _).mono ?_
  rintro e w' ⟨rfl, rfl⟩
  go_wp2_with fail
  refine (rsame_any _ _ _).mono ?_
  rintro e w' ⟨rfl, rfl⟩
  go_wp2_with fail
  refine (from_any _ _).mono ?_
  rintro e w' ⟨rfl, rfl⟩
  go_wp2_with fail
  refine (encode_any _ _).mono ?_
  rintro e w1 ⟨A1, rfl, hr1, hb1⟩
  have K1 : Kp [] w w1 := (Kp.nil (w := w)).next hb1
  clear hb1
  go_wp2_with fail
  refine (rfrom_any _ _ hv).mono ?_
  rintro e w' ⟨rfl, rfl⟩
  go_wp2_with fail
  refine (rencode_any _ _).mono ?_
  rintro e w2 ⟨A2, c2, rfl, hr2, hb2⟩
  have hr3 := (hr1.next (Nat.le_refl _) hb2).more hb2.size
  have K2 : Kp [] w w2 := K1.next hb2
  clear hb2
  go_wp2_with fail
  refine (bytes_eq A1 A2 8 c2 (encL (cn (cn v))) _ rfl hr3 hr2).mono ?_
  rintro e w3 ⟨rfl, hb3⟩
  have K3 : Kp [] w w3 := K2.next hb3
  clear hb3
  go_wp2_with fail
  refine (awake_any _).mono ?_
  rintro e w' ⟨rfl, rfl⟩
  go_wp2_with fail
  go_ret
  exact ⟨rfl, K3.bel⟩
set_option maxHeartbeats 1000000 in
theorem from_odd (v : Nat) (A : Option Addr) (c : Nat) (l : List Int) (w : World) (hv : lt64 v) (h : IsInts .u8 w A 8 c l) (hc : 9218868437227405312 < rg (decV (l.take 8))) (hc2 : decV (l.take 8) ≠ 9221120237041090560) :
    Calls Try.prog 9 #[.int .u64 v, .slice A 8 c] w fun e w' => e = .returned (.bool true) ∧ Below w.heap.size w w' := by
  have s1 : sameB 0 0 = true := sameB_yes rfl
  go_enter Try.func9, Try.ntmps9
  go_wp2_with fail
  refine (decode_odd _ _ _ _ h hc hc2).mono ?_
  rintro e w' ⟨rfl, rfl⟩
  go_wp2_with fail
  refine (rdecode_odd _ _ _ _ h hc hc2).mono ?_
  rintro e w' ⟨rfl, rfl⟩
  go_wp2_with fail
  refine (from_any _ _).mono ?_
  rintro e w' ⟨rfl, rfl⟩
  go_wp2_with fail
  refine (rbits_any _ _).mono ?_
  rintro e w' ⟨rfl, rfl⟩
  go_wp2_with fail
  refine (rfrom_any _ _ hv).mono ?_
  rintro e w' ⟨rfl, rfl⟩
  go_wp2_with fail
  refine (rbits_any _ _).mono ?_
  rintro e w' ⟨rfl, rfl⟩
  go_wp2_with fail
  refine (rsame_any _ _ _).mono ?_
  rintro e w' ⟨rfl, rfl⟩
  go_wp2_with fail
  refine (from_any _ _).mono ?_
  rintro e w' ⟨rfl, rfl⟩
  go_wp2_with fail
  refine (encode_any _ _).mono ?_
  rintro e w1 ⟨A1, rfl, hr1, hb1⟩
  have K1 : Kp [] w w1 := (Kp.nil (w := w)).next hb1
  clear hb1
  go_wp2_with fail
  refine (rfrom_any _ _ hv).mono ?_
  rintro e w' ⟨rfl, rfl⟩
  go_wp2_with fail
  refine (rencode_any _ _).mono ?_
  rintro e w2 ⟨A2, c2, rfl, hr2, hb2⟩
  have hr3 := (hr1.next (Nat.le_refl _) hb2).more hb2.size
  have K2 : Kp [] w w2 := K1.next hb2
  clear hb2
  go_wp2_with fail
  refine (bytes_eq A1 A2 8 c2 (encL (cn (cn v))) _ rfl hr3 hr2).mono ?_
  rintro e w3 ⟨rfl, hb3⟩
  have K3 : Kp [] w w3 := K2.next hb3
  clear hb3
  go_wp2_with fail
  refine (awake_any _).mono ?_
  rintro e w' ⟨rfl, rfl⟩
  go_wp2_with fail
  go_ret
  exact ⟨rfl, K3.bel⟩
theorem from_walk (v : Int) (A : Option Addr) (n c : Nat) (l : List Int) (w : World) (hv : (Lit.int .u64 v).wf = true) (h : IsInts .u8 w A n c l) :
    Calls Try.prog 9 #[.int .u64 v, .slice A n c] w fun e w' => e = .returned (.bool true) ∧ Below w.heap.size w w' := by
  obtain ⟨m, rfl, hm⟩ := u64_nat hv
  rcases Nat.lt_or_ge 300 n with h1 | h1
  · exact from_long m A n c w (by omega)
  · by_cases h2 : n = 8
    · subst h2
      rcases Nat.lt_or_ge 9218868437227405312 (rg (decV (l.take 8))) with h3 | h3
      · by_cases h4 : decV (l.take 8) = 9221120237041090560
        · exact from_one m A c l w hm h h4
        · exact from_odd m A c l w hm h h3 h4
      · exact from_ok m A c l w hm h h3
    · exact from_len m A n c w hm (by omega) (bne_iff_ne.2 (by omega))
end Go.Proofs.Ytmnnlchnobbogaa.Fb
