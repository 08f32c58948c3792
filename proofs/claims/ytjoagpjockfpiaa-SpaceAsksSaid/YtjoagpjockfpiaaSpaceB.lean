/- Contracts of Steps and Reads of the packages space and scarpref20. -/
import Derived.Test.YtjoagpjockfpiaaSpaceA
namespace Go.Proofs.Ytjoagpjockfpiaa.Sp
open Go.RowKit

theorem steps_no (z s : Int) (w : World) (h : mayB z s = false) :
    Calls Try.prog 19 #[.agg #[.int .i64 z, .int .i64 s]] w fun e w' => e = .returned (.int .i64 (0)) ∧ Below w.heap.size w w' := by
  go_enter Try.func19, Try.ntmps19
  go_wp2_with fail
  refine (may_any _ _ _).mono ?_
  rintro e w1 ⟨rfl, hb1⟩
  have hB1 : Below w.heap.size w w1 := down (by go_grown) hb1 (by go_size)
  have hz1 : w.heap.size < w1.heap.size := by (have := hb1.size; (try simp only [World.size_alloc] at this); omega)
  have hg1a := fun (o : Nat) => hb1.cell (p := ⟨w.heap.size, o, none⟩) (by go_size)
  clear hb1
  go_wp2_with fail
  go_ret
  exact ⟨rfl, by go_grown⟩

theorem steps_yes (z s : Int) (w : World) (h : mayB z s = true) :
    Calls Try.prog 19 #[.agg #[.int .i64 z, .int .i64 s]] w fun e w' => e = .returned (.int .i64 (2 * z)) ∧ Below w.heap.size w w' := by
  obtain ⟨h1, h2, h3, h4⟩ := mayB_yes h
  obtain ⟨hp1, hp2⟩ := mul_bd (4 * z) s 256 192 (by omega) (by omega) (by omega) (by omega)
  go_enter Try.func19, Try.ntmps19
  go_wp2_with fail
  refine (may_any _ _ _).mono ?_
  rintro e w1 ⟨rfl, hb1⟩
  have hB1 : Below w.heap.size w w1 := down (by go_grown) hb1 (by go_size)
  have hz1 : w.heap.size < w1.heap.size := by (have := hb1.size; (try simp only [World.size_alloc] at this); omega)
  have hg1a := fun (o : Nat) => hb1.cell (p := ⟨w.heap.size, o, none⟩) (by go_size)
  clear hb1
  go_wp2_with fail
  go_ret
  exact ⟨rfl, by go_grown⟩

theorem reads_no (z s : Int) (w : World) (h : mayB z s = false) :
    Calls Try.prog 15 #[.agg #[.int .i64 z, .int .i64 s]] w fun e w' => e = .returned (.int .i64 (0)) ∧ Below w.heap.size w w' := by
  go_enter Try.func15, Try.ntmps15
  go_wp2_with fail
  refine (may_any _ _ _).mono ?_
  rintro e w1 ⟨rfl, hb1⟩
  have hB1 : Below w.heap.size w w1 := down (by go_grown) hb1 (by go_size)
  have hz1 : w.heap.size < w1.heap.size := by (have := hb1.size; (try simp only [World.size_alloc] at this); omega)
  have hg1a := fun (o : Nat) => hb1.cell (p := ⟨w.heap.size, o, none⟩) (by go_size)
  clear hb1
  go_wp2_with fail
  go_ret
  exact ⟨rfl, by go_grown⟩

theorem reads_yes (z s : Int) (w : World) (h : mayB z s = true) :
    Calls Try.prog 15 #[.agg #[.int .i64 z, .int .i64 s]] w fun e w' => e = .returned (.int .i64 (4 * z * s)) ∧ Below w.heap.size w w' := by
  obtain ⟨h1, h2, h3, h4⟩ := mayB_yes h
  obtain ⟨hp1, hp2⟩ := mul_bd (4 * z) s 256 192 (by omega) (by omega) (by omega) (by omega)
  go_enter Try.func15, Try.ntmps15
  go_wp2_with fail
  refine (may_any _ _ _).mono ?_
  rintro e w1 ⟨rfl, hb1⟩
  have hB1 : Below w.heap.size w w1 := down (by go_grown) hb1 (by go_size)
  have hz1 : w.heap.size < w1.heap.size := by (have := hb1.size; (try simp only [World.size_alloc] at this); omega)
  have hg1a := fun (o : Nat) => hb1.cell (p := ⟨w.heap.size, o, none⟩) (by go_size)
  clear hb1
  go_wp2_with fail
  go_ret
  exact ⟨rfl, by go_grown⟩

theorem rsteps_no (z s : Int) (w : World) (h : mayB z s = false) :
    Calls Try.prog 20 #[.agg #[.int .i64 z, .int .i64 s]] w fun e w' => e = .returned (.int .i64 (0)) ∧ Below w.heap.size w w' := by
  go_enter Try.func20, Try.ntmps20
  go_wp2_with fail
  refine (rmay_any _ _ _).mono ?_
  rintro e w1 ⟨rfl, hb1⟩
  have hB1 : Below w.heap.size w w1 := down (by go_grown) hb1 (by go_size)
  have hz1 : w.heap.size < w1.heap.size := by (have := hb1.size; (try simp only [World.size_alloc] at this); omega)
  have hg1a := fun (o : Nat) => hb1.cell (p := ⟨w.heap.size, o, none⟩) (by go_size)
  clear hb1
  go_wp2_with fail
  go_ret
  exact ⟨rfl, by go_grown⟩

theorem rsteps_yes (z s : Int) (w : World) (h : mayB z s = true) :
    Calls Try.prog 20 #[.agg #[.int .i64 z, .int .i64 s]] w fun e w' => e = .returned (.int .i64 (2 * z)) ∧ Below w.heap.size w w' := by
  obtain ⟨h1, h2, h3, h4⟩ := mayB_yes h
  obtain ⟨hp1, hp2⟩ := mul_bd (4 * z) s 256 192 (by omega) (by omega) (by omega) (by omega)
  go_enter Try.func20, Try.ntmps20
  go_wp2_with fail
  refine (rmay_any _ _ _).mono ?_
  rintro e w1 ⟨rfl, hb1⟩
  have hB1 : Below w.heap.size w w1 := down (by go_grown) hb1 (by go_size)
  have hz1 : w.heap.size < w1.heap.size := by (have := hb1.size; (try simp only [World.size_alloc] at this); omega)
  have hg1a := fun (o : Nat) => hb1.cell (p := ⟨w.heap.size, o, none⟩) (by go_size)
  clear hb1
  go_wp2_with fail
  go_ret
  exact ⟨rfl, by go_grown⟩

theorem rreads_no (z s : Int) (w : World) (h : mayB z s = false) :
    Calls Try.prog 21 #[.agg #[.int .i64 z, .int .i64 s]] w fun e w' => e = .returned (.int .i64 (0)) ∧ Below w.heap.size w w' := by
  go_enter Try.func21, Try.ntmps21
  go_wp2_with fail
  refine (rmay_any _ _ _).mono ?_
  rintro e w1 ⟨rfl, hb1⟩
  have hB1 : Below w.heap.size w w1 := down (by go_grown) hb1 (by go_size)
  have hz1 : w.heap.size < w1.heap.size := by (have := hb1.size; (try simp only [World.size_alloc] at this); omega)
  have hg1a := fun (o : Nat) => hb1.cell (p := ⟨w.heap.size, o, none⟩) (by go_size)
  clear hb1
  go_wp2_with fail
  go_ret
  exact ⟨rfl, by go_grown⟩

theorem rreads_yes (z s : Int) (w : World) (h : mayB z s = true) :
    Calls Try.prog 21 #[.agg #[.int .i64 z, .int .i64 s]] w fun e w' => e = .returned (.int .i64 (4 * z * s)) ∧ Below w.heap.size w w' := by
  obtain ⟨h1, h2, h3, h4⟩ := mayB_yes h
  obtain ⟨hp1, hp2⟩ := mul_bd (4 * z) s 256 192 (by omega) (by omega) (by omega) (by omega)
  go_enter Try.func21, Try.ntmps21
  go_wp2_with fail
  refine (rmay_any _ _ _).mono ?_
  rintro e w1 ⟨rfl, hb1⟩
  have hB1 : Below w.heap.size w w1 := down (by go_grown) hb1 (by go_size)
  have hz1 : w.heap.size < w1.heap.size := by (have := hb1.size; (try simp only [World.size_alloc] at this); omega)
  have hg1a := fun (o : Nat) => hb1.cell (p := ⟨w.heap.size, o, none⟩) (by go_size)
  clear hb1
  go_wp2_with fail
  go_ret
  exact ⟨rfl, by go_grown⟩

end Go.Proofs.Ytjoagpjockfpiaa.Sp
