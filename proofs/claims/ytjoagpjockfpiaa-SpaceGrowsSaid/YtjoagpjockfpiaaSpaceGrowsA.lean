/- SpaceGrows, its easy ways: one of the two geometries may not be, or the second is not the greater one. -/
import Derived.Test.YtjoagpjockfpiaaSpaceB
import Derived.Deep.RegionHeld3
namespace Go.Proofs.Ytjoagpjockfpiaa.Sp
open Go.RowKit

structure GS (z s y t : Int) (w w' : World) : Prop where
  c0 : w'.cell? ⟨w.heap.size, 0, none⟩ = some (.int .i64 z)
  c1 : w'.cell? ⟨w.heap.size, 1, none⟩ = some (.int .i64 s)
  c2 : w'.cell? ⟨w.heap.size + 1, 0, none⟩ = some (.int .i64 y)
  c3 : w'.cell? ⟨w.heap.size + 1, 1, none⟩ = some (.int .i64 t)
  sz : w.heap.size + 1 < w'.heap.size
  bel : Below w.heap.size w w'
theorem GS.cells {z s y t : Int} {w w' : World} (h : GS z s y t w w') : w'.cell? ⟨w.heap.size, 0, none⟩ = some (.int .i64 z) ∧ w'.cell? ⟨w.heap.size, 1, none⟩ = some (.int .i64 s) ∧ w'.cell? ⟨w.heap.size + 1, 0, none⟩ = some (.int .i64 y) ∧ w'.cell? ⟨w.heap.size + 1, 1, none⟩ = some (.int .i64 t) := ⟨h.c0, h.c1, h.c2, h.c3⟩
theorem GS.next {z s y t : Int} {w w' w2 : World} (h : GS z s y t w w') (hb : Below w'.heap.size w' w2) : GS z s y t w w2 :=
  ⟨(hb.cell (p := ⟨w.heap.size, 0, none⟩) (by have := h.sz; show w.heap.size < _; omega)).trans h.c0, (hb.cell (p := ⟨w.heap.size, 1, none⟩) (by have := h.sz; show w.heap.size < _; omega)).trans h.c1,
    (hb.cell (p := ⟨w.heap.size + 1, 0, none⟩) h.sz).trans h.c2, (hb.cell (p := ⟨w.heap.size + 1, 1, none⟩) h.sz).trans h.c3, Nat.lt_of_lt_of_le h.sz hb.size, h.bel.trans (hb.mono (by have := h.sz; omega))⟩
theorem GS.next2 {z s y t : Int} {w w' w2 : World} {q : Prop} (h : GS z s y t w w' ∧ q) (hb : Below w'.heap.size w' w2) : GS z s y t w w2 := h.1.next hb
theorem GS.drew {z s y t : Int} {w w' : World} (h : GS z s y t w w') : GS z s y t w w'.drew := h.next ⟨rfl, rfl, rfl, Nat.le_refl _, fun _ _ => rfl⟩
theorem GS.alloc {z s y t : Int} {w w' : World} (h : GS z s y t w w') (o : Obj) : GS z s y t w (w'.alloc o) := h.next ((Below.refl _ _).alloc (Nat.le_refl _) _)

set_option maxHeartbeats 1000000 in
theorem grows_a (z s y t : Int) (w : World) (h : mayB z s = false) :
    Calls Try.prog 4 #[.agg #[.int .i64 z, .int .i64 s], .agg #[.int .i64 y, .int .i64 t]] w fun e w' => e = .returned (.bool true) ∧ Below w.heap.size w w' := by
  go_enter Try.func4, Try.ntmps4
  go_wp2_with fail
  refine (may_any _ _ _).mono ?_
  rintro e w1 ⟨rfl, hb1⟩
  have hB1 : Below w.heap.size w w1 := down (by go_grown) hb1 (by go_size)
  have hz1 : w.heap.size < w1.heap.size := by (have := hb1.size; (try simp only [World.size_alloc] at this); omega)
  have hg1a := fun (o : Nat) => hb1.cell (p := ⟨w.heap.size, o, none⟩) (by go_size)
  have hg1b := fun (o : Nat) => hb1.cell (p := ⟨w.heap.size + 1, o, none⟩) (by go_size)
  have hy1b : w.heap.size + 1 < w1.heap.size := by (have := hb1.size; (try simp only [World.size_alloc] at this); omega)
  clear hb1
  go_wp2_with fail
  refine (awake_any _).mono ?_
  rintro e w2 ⟨rfl, hb2⟩
  have hB2 : Below w.heap.size w w2 := down (by go_grown) hb2 (by go_size)
  have hz2 : w.heap.size < w2.heap.size := by (have := hb2.size; (try simp only [World.size_alloc] at this); omega)
  clear hb2
  go_wp2_with fail
  go_ret
  exact ⟨rfl, by go_grown⟩

set_option maxHeartbeats 1000000 in
theorem grows_b (z s y t : Int) (w : World) (h : mayB z s = true) (h' : mayB y t = false) :
    Calls Try.prog 4 #[.agg #[.int .i64 z, .int .i64 s], .agg #[.int .i64 y, .int .i64 t]] w fun e w' => e = .returned (.bool true) ∧ Below w.heap.size w w' := by
  go_enter Try.func4, Try.ntmps4
  go_wp2_with fail
  refine (may_any _ _ _).mono ?_
  rintro e w1 ⟨rfl, hb1⟩
  have hB1 : Below w.heap.size w w1 := down (by go_grown) hb1 (by go_size)
  have hz1 : w.heap.size < w1.heap.size := by (have := hb1.size; (try simp only [World.size_alloc] at this); omega)
  have hg1a := fun (o : Nat) => hb1.cell (p := ⟨w.heap.size, o, none⟩) (by go_size)
  have hg1b := fun (o : Nat) => hb1.cell (p := ⟨w.heap.size + 1, o, none⟩) (by go_size)
  have hy1b : w.heap.size + 1 < w1.heap.size := by (have := hb1.size; (try simp only [World.size_alloc] at this); omega)
  clear hb1
  go_wp2_with fail
  refine (may_any _ _ _).mono ?_
  rintro e w2 ⟨rfl, hb2⟩
  have hB2 : Below w.heap.size w w2 := down (by go_grown) hb2 (by go_size)
  have hz2 : w.heap.size < w2.heap.size := by (have := hb2.size; (try simp only [World.size_alloc] at this); omega)
  have hg2a := fun (o : Nat) => hb2.cell (p := ⟨w.heap.size, o, none⟩) (by go_size)
  have hg2b := fun (o : Nat) => hb2.cell (p := ⟨w.heap.size + 1, o, none⟩) (by go_size)
  have hy2b : w.heap.size + 1 < w2.heap.size := by (have := hb2.size; (try simp only [World.size_alloc] at this); omega)
  clear hb2
  go_wp2_with fail
  refine (awake_any _).mono ?_
  rintro e w3 ⟨rfl, hb3⟩
  have hB3 : Below w.heap.size w w3 := down (by go_grown) hb3 (by go_size)
  have hz3 : w.heap.size < w3.heap.size := by (have := hb3.size; (try simp only [World.size_alloc] at this); omega)
  clear hb3
  go_wp2_with fail
  go_ret
  exact ⟨rfl, by go_grown⟩

set_option maxHeartbeats 1000000 in
theorem grows_c (z s y t : Int) (w : World) (h : mayB z s = true) (h' : mayB y t = true) (hc : y < z) :
    Calls Try.prog 4 #[.agg #[.int .i64 z, .int .i64 s], .agg #[.int .i64 y, .int .i64 t]] w fun e w' => e = .returned (.bool true) ∧ Below w.heap.size w w' := by
  go_enter Try.func4, Try.ntmps4
  go_wp2_with fail
  refine (may_any _ _ _).mono ?_
  rintro e w1 ⟨rfl, hb1⟩
  have hB1 : Below w.heap.size w w1 := down (by go_grown) hb1 (by go_size)
  have hz1 : w.heap.size < w1.heap.size := by (have := hb1.size; (try simp only [World.size_alloc] at this); omega)
  have hg1a := fun (o : Nat) => hb1.cell (p := ⟨w.heap.size, o, none⟩) (by go_size)
  have hg1b := fun (o : Nat) => hb1.cell (p := ⟨w.heap.size + 1, o, none⟩) (by go_size)
  have hy1b : w.heap.size + 1 < w1.heap.size := by (have := hb1.size; (try simp only [World.size_alloc] at this); omega)
  clear hb1
  go_wp2_with fail
  refine (may_any _ _ _).mono ?_
  rintro e w2 ⟨rfl, hb2⟩
  have hB2 : Below w.heap.size w w2 := down (by go_grown) hb2 (by go_size)
  have hz2 : w.heap.size < w2.heap.size := by (have := hb2.size; (try simp only [World.size_alloc] at this); omega)
  have hg2a := fun (o : Nat) => hb2.cell (p := ⟨w.heap.size, o, none⟩) (by go_size)
  have hg2b := fun (o : Nat) => hb2.cell (p := ⟨w.heap.size + 1, o, none⟩) (by go_size)
  have hy2b : w.heap.size + 1 < w2.heap.size := by (have := hb2.size; (try simp only [World.size_alloc] at this); omega)
  clear hb2
  go_wp2_with fail
  refine (awake_any _).mono ?_
  rintro e w3 ⟨rfl, hb3⟩
  have hB3 : Below w.heap.size w w3 := down (by go_grown) hb3 (by go_size)
  have hz3 : w.heap.size < w3.heap.size := by (have := hb3.size; (try simp only [World.size_alloc] at this); omega)
  clear hb3
  go_wp2_with fail
  go_ret
  exact ⟨rfl, by go_grown⟩

set_option maxHeartbeats 1000000 in
theorem grows_d (z s y t : Int) (w : World) (h : mayB z s = true) (h' : mayB y t = true) (hc : z ≤ y) (hc' : t < s) :
    Calls Try.prog 4 #[.agg #[.int .i64 z, .int .i64 s], .agg #[.int .i64 y, .int .i64 t]] w fun e w' => e = .returned (.bool true) ∧ Below w.heap.size w w' := by
  go_enter Try.func4, Try.ntmps4
  go_wp2_with fail
  refine (may_any _ _ _).mono ?_
  rintro e w1 ⟨rfl, hb1⟩
  have hB1 : Below w.heap.size w w1 := down (by go_grown) hb1 (by go_size)
  have hz1 : w.heap.size < w1.heap.size := by (have := hb1.size; (try simp only [World.size_alloc] at this); omega)
  have hg1a := fun (o : Nat) => hb1.cell (p := ⟨w.heap.size, o, none⟩) (by go_size)
  have hg1b := fun (o : Nat) => hb1.cell (p := ⟨w.heap.size + 1, o, none⟩) (by go_size)
  have hy1b : w.heap.size + 1 < w1.heap.size := by (have := hb1.size; (try simp only [World.size_alloc] at this); omega)
  clear hb1
  go_wp2_with fail
  refine (may_any _ _ _).mono ?_
  rintro e w2 ⟨rfl, hb2⟩
  have hB2 : Below w.heap.size w w2 := down (by go_grown) hb2 (by go_size)
  have hz2 : w.heap.size < w2.heap.size := by (have := hb2.size; (try simp only [World.size_alloc] at this); omega)
  have hg2a := fun (o : Nat) => hb2.cell (p := ⟨w.heap.size, o, none⟩) (by go_size)
  have hg2b := fun (o : Nat) => hb2.cell (p := ⟨w.heap.size + 1, o, none⟩) (by go_size)
  have hy2b : w.heap.size + 1 < w2.heap.size := by (have := hb2.size; (try simp only [World.size_alloc] at this); omega)
  clear hb2
  go_wp2_with fail
  refine (awake_any _).mono ?_
  rintro e w3 ⟨rfl, hb3⟩
  have hB3 : Below w.heap.size w w3 := down (by go_grown) hb3 (by go_size)
  have hz3 : w.heap.size < w3.heap.size := by (have := hb3.size; (try simp only [World.size_alloc] at this); omega)
  clear hb3
  go_wp2_with fail
  go_ret
  exact ⟨rfl, by go_grown⟩

end Go.Proofs.Ytjoagpjockfpiaa.Sp
