/- Contracts of packages space and scarpref20 (May, Split, Capacity, Steps, Reads) and of scarplaw21.awake: what each returns, for every geometry; nothing that was there is written. -/
import Derived.Test.YtjoagpjockfpiaaChecked
import Derived.WalkKit
import Derived.WalkLawsBesides
import Derived.Below
import Derived.Lib.Hide
import Derived.Outline
import Derived.Handy
namespace Go.Proofs.Ytjoagpjockfpiaa.Sp
open Go.RowKit

theorem ret_bool {a b : Bool} (h : a = b) : Ending.returned (.bool a) = .returned (.bool b) := by rw [h]
theorem ret_int {k : IntKind} {a b : Int} (h : a = b) : Ending.returned (.int k a) = .returned (.int k b) := by rw [h]

def mayB (z s : Int) : Bool := decide (8 ≤ z ∧ z ≤ 64 ∧ 96 ≤ s ∧ s ≤ 192)
theorem mayB_yes {z s : Int} (h : mayB z s = true) : 8 ≤ z ∧ z ≤ 64 ∧ 96 ≤ s ∧ s ≤ 192 := by simpa [mayB] using h
theorem may_cases (z s : Int) : (z < 8 ∧ decide (8 ≤ z) = false) ∨ (8 ≤ z ∧ 64 < z ∧ decide (z ≤ 64) = false) ∨ (8 ≤ z ∧ z ≤ 64 ∧ s < 96 ∧ decide (96 ≤ s) = false) ∨ (8 ≤ z ∧ z ≤ 64 ∧ 96 ≤ s ∧ 192 < s ∧ decide (s ≤ 192) = false) ∨ (8 ≤ z ∧ z ≤ 64 ∧ 96 ≤ s ∧ s ≤ 192 ∧ decide (s ≤ 192) = true) := by
  simp only [decide_eq_false_iff_not, decide_eq_true_eq]; omega
theorem mul_bd (a b A B : Int) (h0 : 0 ≤ a) (h1 : a ≤ A) (h2 : 0 ≤ b) (h3 : b ≤ B) : 0 ≤ a * b ∧ a * b ≤ A * B :=
  ⟨Int.mul_nonneg h0 h2, Int.mul_le_mul h1 h3 h2 (by omega)⟩
theorem mul_lo (a b A B : Int) (hA : 0 ≤ A) (h1 : A ≤ a) (h2 : 0 ≤ B) (h3 : B ≤ b) : A * B ≤ a * b := Int.mul_le_mul h1 h3 h2 (by omega)

theorem bcell {W w1 : World} (hb : Below W.heap.size W w1) : (∀ b o, b < W.heap.size → w1.cell? ⟨b, o, none⟩ = W.cell? ⟨b, o, none⟩) ∧ (∀ b o, b < W.heap.size → w1.frozen? ⟨b, o, none⟩ = W.frozen? ⟨b, o, none⟩) :=
  ⟨fun b o h => hb.cell (p := ⟨b, o, none⟩) h, fun b o h => hb.frozen (p := ⟨b, o, none⟩) h⟩

theorem may_any (z s : Int) (w : World) :
    Calls Try.prog 12 #[.agg #[.int .i64 z, .int .i64 s]] w fun e w' => e = .returned (.bool (mayB z s)) ∧ Below w.heap.size w w' := by
  rcases may_cases z s with ⟨h1, h2⟩ | ⟨h1, h2, h3⟩ | ⟨h1, h2, h3, h4⟩ | ⟨h1, h2, h3, h4, h5⟩ | ⟨h1, h2, h3, h4, h5⟩
  all_goals
    go_enter Try.func12, Try.ntmps12
    go_wp2
    go_ret
    exact ⟨ret_bool (by unfold mayB; symm; simp only [decide_eq_true_eq, decide_eq_false_iff_not]; omega), (Below.refl _ _).alloc (Nat.le_refl _) _⟩

theorem rmay_any (z s : Int) (w : World) :
    Calls Try.prog 17 #[.agg #[.int .i64 z, .int .i64 s]] w fun e w' => e = .returned (.bool (mayB z s)) ∧ Below w.heap.size w w' := by
  rcases may_cases z s with ⟨h1, h2⟩ | ⟨h1, h2, h3⟩ | ⟨h1, h2, h3, h4⟩ | ⟨h1, h2, h3, h4, h5⟩ | ⟨h1, h2, h3, h4, h5⟩
  all_goals
    go_enter Try.func17, Try.ntmps17
    go_wp2
    go_ret
    exact ⟨ret_bool (by unfold mayB; symm; simp only [decide_eq_true_eq, decide_eq_false_iff_not]; omega), (Below.refl _ _).alloc (Nat.le_refl _) _⟩

theorem down {B : Nat} {a b c : World} (h : Below B a b) (k : Below b.heap.size b c) (hB : B ≤ b.heap.size) : Below B a c := h.trans (k.mono hB)

theorem split_no (z s : Int) (w : World) (h : mayB z s = false) :
    Calls Try.prog 11 #[.agg #[.int .i64 z, .int .i64 s]] w fun e w' => e = .returned (.tuple #[.agg #[.int .i64 0, .int .i64 0, .int .i64 0, .int .i64 0], .int .i64 1]) ∧ Below w.heap.size w w' := by
  go_enter Try.func11, Try.ntmps11
  go_wp2_with (go_at_call 12; refine (may_any _ _ _).mono ?_; rintro e w1 ⟨rfl, hb⟩; obtain ⟨hc, hf⟩ := bcell hb; have hz : w.heap.size < w1.heap.size := by (have := hb.size; simp only [World.size_alloc] at this; omega))
  have hb' : Below w.heap.size w w1 := down (by go_grown) hb (by go_size)
  refine bodyPost_ret (v := .tuple #[.agg #[.int .i64 0, .int .i64 0, .int .i64 0, .int .i64 0], .int .i64 1]) (by simp [results, Try.results11, go_sem, hc]) rfl ⟨rfl, ?_⟩
  go_grown

theorem split_yes (z s : Int) (w : World) (h : mayB z s = true) :
    Calls Try.prog 11 #[.agg #[.int .i64 z, .int .i64 s]] w fun e w' => e = .returned (.tuple #[.agg #[.int .i64 0, .int .i64 (3 * z / 8), .int .i64 (2 * (3 * z / 8)), .int .i64 (z - 1)], .int .i64 0]) ∧ Below w.heap.size w w' := by
  obtain ⟨h1, h2, h3, h4⟩ := mayB_yes h
  go_enter Try.func11, Try.ntmps11
  go_wp2_with (go_at_call 12; refine (may_any _ _ _).mono ?_; rintro e w1 ⟨rfl, hb⟩; obtain ⟨hc, hf⟩ := bcell hb; have hz : w.heap.size < w1.heap.size := by (have := hb.size; simp only [World.size_alloc] at this; omega))
  have hb' : Below w.heap.size w w1 := down (by go_grown) hb (by go_size)
  refine bodyPost_ret (v := .tuple #[.agg #[.int .i64 0, .int .i64 (3 * z / 8), .int .i64 (2 * (3 * z / 8)), .int .i64 (z - 1)], .int .i64 0]) (by simp [results, Try.results11, go_sem, hc]) rfl ⟨rfl, ?_⟩
  go_grown

theorem rsplit_no (z s : Int) (w : World) (h : mayB z s = false) :
    Calls Try.prog 16 #[.agg #[.int .i64 z, .int .i64 s]] w fun e w' => e = .returned (.tuple #[.agg #[.int .i64 0, .int .i64 0, .int .i64 0, .int .i64 0], .int .i64 1]) ∧ Below w.heap.size w w' := by
  go_enter Try.func16, Try.ntmps16
  go_wp2_with (go_at_call 17; refine (rmay_any _ _ _).mono ?_; rintro e w1 ⟨rfl, hb⟩; obtain ⟨hc, hf⟩ := bcell hb; have hz : w.heap.size < w1.heap.size := by (have := hb.size; simp only [World.size_alloc] at this; omega))
  have hb' : Below w.heap.size w w1 := down (by go_grown) hb (by go_size)
  refine bodyPost_ret (v := .tuple #[.agg #[.int .i64 0, .int .i64 0, .int .i64 0, .int .i64 0], .int .i64 1]) (by simp [results, Try.results16, go_sem, hc]) rfl ⟨rfl, ?_⟩
  go_grown

theorem rsplit_yes (z s : Int) (w : World) (h : mayB z s = true) :
    Calls Try.prog 16 #[.agg #[.int .i64 z, .int .i64 s]] w fun e w' => e = .returned (.tuple #[.agg #[.int .i64 0, .int .i64 (3 * z / 8), .int .i64 (2 * (3 * z / 8)), .int .i64 (z - 1)], .int .i64 0]) ∧ Below w.heap.size w w' := by
  obtain ⟨h1, h2, h3, h4⟩ := mayB_yes h
  go_enter Try.func16, Try.ntmps16
  go_wp2_with (go_at_call 17; refine (rmay_any _ _ _).mono ?_; rintro e w1 ⟨rfl, hb⟩; obtain ⟨hc, hf⟩ := bcell hb; have hz : w.heap.size < w1.heap.size := by (have := hb.size; simp only [World.size_alloc] at this; omega))
  have hb' : Below w.heap.size w w1 := down (by go_grown) hb (by go_size)
  refine bodyPost_ret (v := .tuple #[.agg #[.int .i64 0, .int .i64 (3 * z / 8), .int .i64 (2 * (3 * z / 8)), .int .i64 (z - 1)], .int .i64 0]) (by simp [results, Try.results16, go_sem, hc]) rfl ⟨rfl, ?_⟩
  go_grown

theorem cap_no (z s : Int) (w : World) (h : mayB z s = false) :
    Calls Try.prog 13 #[.agg #[.int .i64 z, .int .i64 s]] w fun e w' => e = .returned (.int .i64 0) ∧ Below w.heap.size w w' := by
  go_enter Try.func13, Try.ntmps13
  go_wp2_with (go_at_call 11; refine (split_no _ _ _ h).mono ?_; rintro e w1 ⟨rfl, hb⟩; obtain ⟨hc, hf⟩ := bcell hb; have hz : w.heap.size < w1.heap.size := by (have := hb.size; simp only [World.size_alloc] at this; omega))
  have hb' : Below w.heap.size w w1 := down (by go_grown) hb (by go_size)
  go_ret
  exact ⟨rfl, by go_grown⟩

theorem cap_yes (z s : Int) (w : World) (h : mayB z s = true) :
    Calls Try.prog 13 #[.agg #[.int .i64 z, .int .i64 s]] w fun e w' => e = .returned (.int .i64 ((40 * (3 * z / 8 * s - 2) - 64) / 44)) ∧ Below w.heap.size w w' := by
  obtain ⟨h1, h2, h3, h4⟩ := mayB_yes h
  obtain ⟨hp1, hp2⟩ := mul_bd (3 * z / 8) s 24 192 (by omega) (by omega) (by omega) (by omega)
  have hq := mul_lo (3 * z / 8) s 3 96 (by omega) (by omega) (by omega) (by omega)
  go_enter Try.func13, Try.ntmps13
  go_wp2_with (go_at_call 11; refine (split_yes _ _ _ h).mono ?_; rintro e w1 ⟨rfl, hb⟩; obtain ⟨hc, hf⟩ := bcell hb; have hz : w.heap.size < w1.heap.size := by (have := hb.size; simp only [World.size_alloc] at this; omega))
  have hb' : Below w.heap.size w w1 := down (by go_grown) hb (by go_size)
  go_ret
  exact ⟨rfl, by go_grown⟩

theorem rcap_no (z s : Int) (w : World) (h : mayB z s = false) :
    Calls Try.prog 18 #[.agg #[.int .i64 z, .int .i64 s]] w fun e w' => e = .returned (.int .i64 0) ∧ Below w.heap.size w w' := by
  go_enter Try.func18, Try.ntmps18
  go_wp2_with (go_at_call 16; refine (rsplit_no _ _ _ h).mono ?_; rintro e w1 ⟨rfl, hb⟩; obtain ⟨hc, hf⟩ := bcell hb; have hz : w.heap.size < w1.heap.size := by (have := hb.size; simp only [World.size_alloc] at this; omega))
  have hb' : Below w.heap.size w w1 := down (by go_grown) hb (by go_size)
  go_ret
  exact ⟨rfl, by go_grown⟩

theorem rcap_yes (z s : Int) (w : World) (h : mayB z s = true) :
    Calls Try.prog 18 #[.agg #[.int .i64 z, .int .i64 s]] w fun e w' => e = .returned (.int .i64 ((40 * (3 * z / 8 * s - 2) - 64) / 44)) ∧ Below w.heap.size w w' := by
  obtain ⟨h1, h2, h3, h4⟩ := mayB_yes h
  obtain ⟨hp1, hp2⟩ := mul_bd (3 * z / 8) s 24 192 (by omega) (by omega) (by omega) (by omega)
  have hq := mul_lo (3 * z / 8) s 3 96 (by omega) (by omega) (by omega) (by omega)
  go_enter Try.func18, Try.ntmps18
  go_wp2_with (go_at_call 16; refine (rsplit_yes _ _ _ h).mono ?_; rintro e w1 ⟨rfl, hb⟩; obtain ⟨hc, hf⟩ := bcell hb; have hz : w.heap.size < w1.heap.size := by (have := hb.size; simp only [World.size_alloc] at this; omega))
  have hb' : Below w.heap.size w w1 := down (by go_grown) hb (by go_size)
  go_ret
  exact ⟨rfl, by go_grown⟩

theorem awake_any (w : World) :
    Calls Try.prog 14 #[] w fun e w' => e = .returned (.bool true) ∧ Below w.heap.size w w' := by
  go_enter Try.func14, Try.ntmps14
  go_wp2_with (go_at_call 13; refine (cap_yes _ _ _ (by decide)).mono ?_; rintro e w1 ⟨rfl, hb⟩)
  go_ret
  exact ⟨rfl, hb⟩
end Go.Proofs.Ytjoagpjockfpiaa.Sp
