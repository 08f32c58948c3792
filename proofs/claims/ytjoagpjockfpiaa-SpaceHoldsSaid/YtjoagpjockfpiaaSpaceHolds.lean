/- SpaceHolds: the walk. For every geometry the law returns true, and nothing that was there is written. No condition. -/
import Derived.Test.YtjoagpjockfpiaaSpaceA
namespace Go.Proofs.Ytjoagpjockfpiaa.Sp
open Go.RowKit

set_option maxHeartbeats 1000000 in
theorem holds_no (z s : Int) (w : World) (h : mayB z s = false) :
    Calls Try.prog 3 #[.agg #[.int .i64 z, .int .i64 s]] w fun e w' => e = .returned (.bool true) ∧ Below w.heap.size w w' := by
  go_enter Try.func3, Try.ntmps3
  go_wp2_with fail
  refine (split_no _ _ _ h).mono ?_
  rintro e w1 ⟨rfl, hb1⟩
  have hB1 : Below w.heap.size w w1 := down (by go_grown) hb1 (by go_size)
  have hz1 : w.heap.size < w1.heap.size := by (have := hb1.size; (try simp only [World.size_alloc] at this); omega)
  have hg1a := fun (o : Nat) => hb1.cell (p := ⟨w.heap.size, o, none⟩) (by go_size)
  clear hb1
  go_wp2_with fail
  refine (may_any _ _ _).mono ?_
  rintro e w2 ⟨rfl, hb2⟩
  have hB2 : Below w.heap.size w w2 := down (by go_grown) hb2 (by go_size)
  have hz2 : w.heap.size < w2.heap.size := by (have := hb2.size; (try simp only [World.size_alloc] at this); omega)
  have hg2a := fun (o : Nat) => hb2.cell (p := ⟨w.heap.size, o, none⟩) (by go_size)
  clear hb2
  go_wp2_with fail
  refine (cap_no _ _ _ h).mono ?_
  rintro e w3 ⟨rfl, hb3⟩
  have hB3 : Below w.heap.size w w3 := down (by go_grown) hb3 (by go_size)
  have hz3 : w.heap.size < w3.heap.size := by (have := hb3.size; (try simp only [World.size_alloc] at this); omega)
  have hg3a := fun (o : Nat) => hb3.cell (p := ⟨w.heap.size, o, none⟩) (by go_size)
  clear hb3
  go_wp2_with fail
  refine (awake_any _).mono ?_
  rintro e w4 ⟨rfl, hb4⟩
  have hB4 : Below w.heap.size w w4 := down (by go_grown) hb4 (by go_size)
  have hz4 : w.heap.size < w4.heap.size := by (have := hb4.size; (try simp only [World.size_alloc] at this); omega)
  have hg4a := fun (o : Nat) => hb4.cell (p := ⟨w.heap.size, o, none⟩) (by go_size)
  clear hb4
  go_wp2_with fail
  go_ret
  exact ⟨rfl, by go_grown⟩

set_option maxHeartbeats 1000000 in
theorem holds_yes (z s : Int) (w : World) (h : mayB z s = true) :
    Calls Try.prog 3 #[.agg #[.int .i64 z, .int .i64 s]] w fun e w' => e = .returned (.bool true) ∧ Below w.heap.size w w' := by
  obtain ⟨h1, h2, h3, h4⟩ := mayB_yes h
  obtain ⟨hp1, hp2⟩ := mul_bd (3 * z / 8) s 24 192 (by omega) (by omega) (by omega) (by omega)
  have hq := mul_lo (3 * z / 8) s 3 96 (by omega) (by omega) (by omega) (by omega)
  have hr := mul_lo (z - 1 - 2 * (3 * z / 8)) (s - 8) 1 88 (by omega) (by omega) (by omega) (by omega)
  obtain ⟨hr3, hr4⟩ := mul_bd (z - 1 - 2 * (3 * z / 8)) (s - 8) 64 192 (by omega) (by omega) (by omega) (by omega)
  go_enter Try.func3, Try.ntmps3
  go_wp2_with fail
  refine (split_yes _ _ _ h).mono ?_
  rintro e w1 ⟨rfl, hb1⟩
  have hB1 : Below w.heap.size w w1 := down (by go_grown) hb1 (by go_size)
  have hz1 : w.heap.size < w1.heap.size := by (have := hb1.size; (try simp only [World.size_alloc] at this); omega)
  have hg1a := fun (o : Nat) => hb1.cell (p := ⟨w.heap.size, o, none⟩) (by go_size)
  clear hb1
  go_wp2_with fail
  refine (may_any _ _ _).mono ?_
  rintro e w2 ⟨rfl, hb2⟩
  have hB2 : Below w.heap.size w w2 := down (by go_grown) hb2 (by go_size)
  have hz2 : w.heap.size < w2.heap.size := by (have := hb2.size; (try simp only [World.size_alloc] at this); omega)
  have hg2a := fun (o : Nat) => hb2.cell (p := ⟨w.heap.size, o, none⟩) (by go_size)
  have hg2b := fun (o : Nat) => hb2.cell (p := ⟨w1.heap.size, o, none⟩) (by go_size)
  have hy2b : w1.heap.size < w2.heap.size := by (have := hb2.size; (try simp only [World.size_alloc] at this); omega)
  clear hb2
  go_wp2_with fail
  refine (cap_yes _ _ _ h).mono ?_
  rintro e w3 ⟨rfl, hb3⟩
  have hB3 : Below w.heap.size w w3 := down (by go_grown) hb3 (by go_size)
  have hz3 : w.heap.size < w3.heap.size := by (have := hb3.size; (try simp only [World.size_alloc] at this); omega)
  have hg3a := fun (o : Nat) => hb3.cell (p := ⟨w.heap.size, o, none⟩) (by go_size)
  have hg3b := fun (o : Nat) => hb3.cell (p := ⟨w1.heap.size, o, none⟩) (by go_size)
  have hy3b : w1.heap.size < w3.heap.size := by (have := hb3.size; (try simp only [World.size_alloc] at this); omega)
  clear hb3
  go_wp2_with fail
  refine (cap_yes _ _ _ h).mono ?_
  rintro e w4 ⟨rfl, hb4⟩
  have hB4 : Below w.heap.size w w4 := down (by go_grown) hb4 (by go_size)
  have hz4 : w.heap.size < w4.heap.size := by (have := hb4.size; (try simp only [World.size_alloc] at this); omega)
  have hg4a := fun (o : Nat) => hb4.cell (p := ⟨w.heap.size, o, none⟩) (by go_size)
  have hg4b := fun (o : Nat) => hb4.cell (p := ⟨w1.heap.size, o, none⟩) (by go_size)
  have hy4b : w1.heap.size < w4.heap.size := by (have := hb4.size; (try simp only [World.size_alloc] at this); omega)
  clear hb4
  go_wp2_with fail
  refine (awake_any _).mono ?_
  rintro e w5 ⟨rfl, hb5⟩
  have hB5 : Below w.heap.size w w5 := down (by go_grown) hb5 (by go_size)
  have hz5 : w.heap.size < w5.heap.size := by (have := hb5.size; (try simp only [World.size_alloc] at this); omega)
  clear hb5
  go_wp2_with fail
  go_ret
  exact ⟨rfl, by go_grown⟩

theorem holds_walk (z s : Int) (w : World) (_h1 : (Lit.int .i64 z).wf = true) (_h2 : (Lit.int .i64 s).wf = true) :
    Calls Try.prog 3 #[.agg #[.int .i64 z, .int .i64 s]] w fun e w' => e = .returned (.bool true) ∧ Below w.heap.size w w' := by
  cases h : mayB z s with
  | false => exact holds_no z s w h
  | true => exact holds_yes z s w h
end Go.Proofs.Ytjoagpjockfpiaa.Sp
