/- SpaceGrows: the walk. For every two geometries the law returns true, and nothing that was there is written. No condition. -/
import Derived.Test.YtjoagpjockfpiaaSpaceGrowsA
import Derived.Deep.DeepMust
namespace Go.Proofs.Ytjoagpjockfpiaa.Sp
open Go.RowKit

set_option maxHeartbeats 1000000 in
theorem grows_e (z s y t : Int) (w : World) (h : mayB z s = true) (h' : mayB y t = true) (hc : z ≤ y) (hc' : s ≤ t) :
    Calls Try.prog 4 #[.agg #[.int .i64 z, .int .i64 s], .agg #[.int .i64 y, .int .i64 t]] w fun e w' => e = .returned (.bool true) ∧ Below w.heap.size w w' := by
  obtain ⟨h1, h2, h3, h4⟩ := mayB_yes h
  obtain ⟨i1, i2, i3, i4⟩ := mayB_yes h'
  obtain ⟨hp1, hp2⟩ := mul_bd (3 * z / 8) s 24 192 (by omega) (by omega) (by omega) (by omega)
  have hq := mul_lo (3 * z / 8) s 3 96 (by omega) (by omega) (by omega) (by omega)
  have hr := mul_lo (8 * (3 * z / 8)) s (8 * (3 * z / 8)) s (by omega) (by omega) (by omega) (by omega)
  have h8 := mul_lo (3 * z) s (8 * (3 * z / 8)) s (by omega) (by omega) (by omega) (by omega)
  rw [Int.mul_assoc, Int.mul_assoc] at h8
  clear hr
  have hm := mul_lo (3 * y / 8) t (3 * z / 8) s (by omega) (by omega) (by omega) (by omega)
  obtain ⟨hn1, hn2⟩ := mul_bd z s 64 192 (by omega) (by omega) (by omega) (by omega)
  have ho := mul_lo (4 * y) t (4 * z) s (by omega) (by omega) (by omega) (by omega)
  obtain ⟨hp3, hp4⟩ := mul_bd (3 * y / 8) t 24 192 (by omega) (by omega) (by omega) (by omega)
  go_enter Try.func4, Try.ntmps4
  go_wp2_with fail
  refine (may_any _ _ _).mono ?_
  rintro e w1 ⟨rfl, hb1⟩
  have hB1 : Below w.heap.size w w1 := down (by go_grown) hb1 (by go_size)
  have hz1 : w.heap.size < w1.heap.size := by (have := hb1.size; (try simp only [World.size_alloc] at this); omega)
  have hg1a := fun (o : Nat) => hb1.cell (p := ⟨w.heap.size, o, none⟩) (by go_size)
  have hg1b := fun (o : Nat) => hb1.cell (p := ⟨w.heap.size + 1, o, none⟩) (by go_size)
  have hy1b : w.heap.size + 1 < w1.heap.size := by (have := hb1.size; (try simp only [World.size_alloc] at this); omega)
  clear hb1
  go_wp2_with fail
  refine (may_any _ _ _).mono ?_
  rintro e w2 ⟨rfl, hb2⟩
  have hB2 : Below w.heap.size w w2 := down (by go_grown) hb2 (by go_size)
  have hz2 : w.heap.size < w2.heap.size := by (have := hb2.size; (try simp only [World.size_alloc] at this); omega)
  have hg2a := fun (o : Nat) => hb2.cell (p := ⟨w.heap.size, o, none⟩) (by go_size)
  have hg2b := fun (o : Nat) => hb2.cell (p := ⟨w.heap.size + 1, o, none⟩) (by go_size)
  have hy2b : w.heap.size + 1 < w2.heap.size := by (have := hb2.size; (try simp only [World.size_alloc] at this); omega)
  clear hb2
  go_wp2_with fail
  refine (cap_yes _ _ _ h).mono ?_
  rintro e w3 ⟨rfl, hb3⟩
  have hB3 : Below w.heap.size w w3 := down (by go_grown) hb3 (by go_size)
  have hz3 : w.heap.size < w3.heap.size := by (have := hb3.size; (try simp only [World.size_alloc] at this); omega)
  have hg3a := fun (o : Nat) => hb3.cell (p := ⟨w.heap.size, o, none⟩) (by go_size)
  have hg3b := fun (o : Nat) => hb3.cell (p := ⟨w.heap.size + 1, o, none⟩) (by go_size)
  have hy3b : w.heap.size + 1 < w3.heap.size := by (have := hb3.size; (try simp only [World.size_alloc] at this); omega)
  clear hb3
  go_wp2_with fail
  refine (split_yes _ _ _ h).mono ?_
  rintro e w4 ⟨rfl, hb4⟩
  have hB4 : Below w.heap.size w w4 := down (by go_grown) hb4 (by go_size)
  have hz4 : w.heap.size < w4.heap.size := by (have := hb4.size; (try simp only [World.size_alloc] at this); omega)
  have hg4a := fun (o : Nat) => hb4.cell (p := ⟨w.heap.size, o, none⟩) (by go_size)
  have hg4b := fun (o : Nat) => hb4.cell (p := ⟨w.heap.size + 1, o, none⟩) (by go_size)
  have hy4b : w.heap.size + 1 < w4.heap.size := by (have := hb4.size; (try simp only [World.size_alloc] at this); omega)
  clear hb4
  go_wp2_with fail
  have hS : GS z s y t w w4 := ⟨by simp only [hg4a, hg3a, hg2a, hg1a]; go_simp, by simp only [hg4a, hg3a, hg2a, hg1a]; go_simp, by simp only [hg4b, hg3b, hg2b, hg1b]; go_simp, by simp only [hg4b, hg3b, hg2b, hg1b]; go_simp, hy4b, hB4⟩
  clear hg1a hg1b hg2a hg2b hg3a hg3b hg4a hg4b hB1 hB2 hB3 hB4 hy1b hy2b hy3b hy4b hz1 hz2 hz3 hz4
  obtain ⟨c0, c1, c2, c3⟩ := hS.cells
  have w1 : IntKind.i64.wrap (2 * ((40 * (3 * z / 8 * s - 2) - 64) / 44)) = 2 * ((40 * (3 * z / 8 * s - 2) - 64) / 44) := IntWalk.i64_in _ (by omega)
  have w2 : IntKind.i64.wrap (z * s) = z * s := IntWalk.i64_in _ (by omega)
  have t1 : decide (0 < (40 * (3 * z / 8 * s - 2) - 64) / 44) = true := decide_eq_true (by omega)
  have t2 : decide (2 * ((40 * (3 * z / 8 * s - 2) - 64) / 44) < z * s) = true := decide_eq_true (by omega)
  have t3 : decide ((40 * (3 * z / 8 * s - 2) - 64) / 44 ≤ (40 * (3 * y / 8 * t - 2) - 64) / 44) = true := decide_eq_true (by omega)
  have t4 : decide (4 * z * s ≤ 4 * y * t) = true := decide_eq_true (by omega)
  clear hp1 hp2 hq h8 hm hn1 hn2 ho hp3 hp4
  go_region_held3 (fun w' => GS z s y t w w' ∧ w'.cell? ⟨w.heap.size, 0, none⟩ = some (.int .i64 z) ∧ w'.cell? ⟨w.heap.size, 1, none⟩ = some (.int .i64 s) ∧ w'.cell? ⟨w.heap.size + 1, 0, none⟩ = some (.int .i64 y) ∧ w'.cell? ⟨w.heap.size + 1, 1, none⟩ = some (.int .i64 t)) (simp [*, GS.alloc, GS.drew, World.cell?_alloc_some])
    (first
      | (go_at_call 13; refine (cap_yes _ _ _ h').mono ?_; rintro e w5 ⟨rfl, hb⟩; have hS5 := GS.next2 (by assumption) hb; obtain ⟨d0, d1, d2, d3⟩ := hS5.cells; clear hb)
      | (go_at_call_of 15 (Value.agg #[.int .i64 y, .int .i64 t]); refine (reads_yes _ _ _ h').mono ?_; rintro e w6 ⟨rfl, hb⟩; have hS6 := GS.next2 (by assumption) hb; obtain ⟨d0, d1, d2, d3⟩ := hS6.cells; clear hb)
      | (go_at_call_of 15 (Value.agg #[.int .i64 z, .int .i64 s]); refine (reads_yes _ _ _ h).mono ?_; rintro e w7 ⟨rfl, hb⟩; have hS7 := GS.next2 (by assumption) hb; obtain ⟨d0, d1, d2, d3⟩ := hS7.cells; clear hb)
      | (go_at_call 14; refine (awake_any _).mono ?_; rintro e w8 ⟨rfl, hb⟩; have hS8 := GS.next2 (by assumption) hb; obtain ⟨d0, d1, d2, d3⟩ := hS8.cells; clear hb))
  all_goals go_wp2
  go_ret
  exact ⟨rfl, hS8.bel⟩

theorem grows_walk (z s y t : Int) (w : World) (_h1 : (Lit.int .i64 z).wf = true) (_h2 : (Lit.int .i64 s).wf = true) (_h3 : (Lit.int .i64 y).wf = true) (_h4 : (Lit.int .i64 t).wf = true) :
    Calls Try.prog 4 #[.agg #[.int .i64 z, .int .i64 s], .agg #[.int .i64 y, .int .i64 t]] w fun e w' => e = .returned (.bool true) ∧ Below w.heap.size w w' := by
  cases h : mayB z s with
  | false => exact grows_a z s y t w h
  | true =>
    cases h' : mayB y t with
    | false => exact grows_b z s y t w h h'
    | true =>
      rcases Int.lt_or_le y z with hc | hc
      · exact grows_c z s y t w h h' hc
      · rcases Int.lt_or_le t s with hd | hd
        · exact grows_d z s y t w h h' hc hd
        · exact grows_e z s y t w h h' hc hd
end Go.Proofs.Ytjoagpjockfpiaa.Sp
