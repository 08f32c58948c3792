/- SpaceFills: the walk. For every two geometries the law returns true, and nothing that was there is written. No condition. -/
import Derived.Test.YtjoagpjockfpiaaSpaceF
import Derived.Test.YtjoagpjockfpiaaKept
namespace Go.Proofs.Ytjoagpjockfpiaa.Sp
open Go.RowKit Fl

set_option maxHeartbeats 1000000 in
theorem fills_no (uz us z s : Int) (w : World) (h : mayB z s = false) :
    Calls Try.prog 6 #[.agg #[.int .i64 uz, .int .i64 us], .agg #[.int .i64 z, .int .i64 s]] w fun e w' => e = .returned (.bool true) ∧ Below w.heap.size w w' := by
  have hs : sameB 0 0 = true := sameB_yes rfl
  go_enter Try.func6, Try.ntmps6
  go_wp2_with fail
  refine (fill_no _ _ _ _ _ h).mono ?_
  rintro e w1 ⟨rfl, hb1⟩
  have K1 : Kp [((w.heap.size + 1), 1, Value.int .i64 s), ((w.heap.size + 1), 0, Value.int .i64 z), (w.heap.size, 1, Value.int .i64 us), (w.heap.size, 0, Value.int .i64 uz)] w w1 := (((((((Kp.nil (w := w)).alloc _).add (b := w.heap.size) (o := 0) (v := Value.int .i64 uz) (by (try go_simp); (try simp); (try omega)) (by go_simp)).add (b := w.heap.size) (o := 1) (v := Value.int .i64 us) (by (try go_simp); (try simp); (try omega)) (by go_simp)).alloc _).add (b := (w.heap.size + 1)) (o := 0) (v := Value.int .i64 z) (by (try go_simp); (try simp); (try omega)) (by go_simp)).add (b := (w.heap.size + 1)) (o := 1) (v := Value.int .i64 s) (by (try go_simp); (try simp); (try omega)) (by go_simp)).next hb1
  clear hb1
  have d0 := K1.head
  have d1 := K1.tail.head
  have d2 := K1.tail.tail.head
  have d3 := K1.tail.tail.tail.head
  have hl1_0 := K1.lt
  have hl1_2 := K1.tail.tail.lt
  go_wp2_with fail
  refine (rfill_no _ _ _ _ _ h).mono ?_
  rintro e w2 ⟨rfl, hb2⟩
  have K2 : Kp [((w.heap.size + 1), 1, Value.int .i64 s), ((w.heap.size + 1), 0, Value.int .i64 z), (w.heap.size, 1, Value.int .i64 us), (w.heap.size, 0, Value.int .i64 uz)] w w2 := K1.next hb2
  clear d0
  clear d1
  clear d2
  clear d3
  clear hb2
  have d0 := K2.head
  have d1 := K2.tail.head
  have d2 := K2.tail.tail.head
  have d3 := K2.tail.tail.tail.head
  have hl2_0 := K2.lt
  have hl2_2 := K2.tail.tail.lt
  go_wp2_with fail
  refine (Fb.rsame_any _ _ _).mono ?_
  rintro e w' ⟨rfl, rfl⟩
  go_wp2_with fail
  refine (awake_any _).mono ?_
  rintro e w3 ⟨rfl, hb3⟩
  have K3 : Kp [((w.heap.size + 1), 1, Value.int .i64 s), ((w.heap.size + 1), 0, Value.int .i64 z), (w.heap.size, 1, Value.int .i64 us), (w.heap.size, 0, Value.int .i64 uz)] w w3 := K2.next hb3
  clear d0
  clear d1
  clear d2
  clear d3
  clear hb3
  have d0 := K3.head
  have d1 := K3.tail.head
  have d2 := K3.tail.tail.head
  have d3 := K3.tail.tail.tail.head
  have hl3_0 := K3.lt
  have hl3_2 := K3.tail.tail.lt
  go_wp2_with fail
  go_ret
  exact ⟨rfl, K3.bel⟩

set_option maxHeartbeats 1000000 in
theorem fills_yes (uz us z s : Int) (w : World) (h : mayB z s = true) :
    Calls Try.prog 6 #[.agg #[.int .i64 uz, .int .i64 us], .agg #[.int .i64 z, .int .i64 s]] w fun e w' => e = .returned (.bool true) ∧ Below w.heap.size w w' := by
  have hs : sameB (fillV uz us z s) (fillV uz us z s) = true := sameB_yes rfl
  go_enter Try.func6, Try.ntmps6
  go_wp2_with fail
  refine (fill_yes _ _ _ _ _ h).mono ?_
  rintro e w1 ⟨rfl, hb1⟩
  have K1 : Kp [((w.heap.size + 1), 1, Value.int .i64 s), ((w.heap.size + 1), 0, Value.int .i64 z), (w.heap.size, 1, Value.int .i64 us), (w.heap.size, 0, Value.int .i64 uz)] w w1 := (((((((Kp.nil (w := w)).alloc _).add (b := w.heap.size) (o := 0) (v := Value.int .i64 uz) (by (try go_simp); (try simp); (try omega)) (by go_simp)).add (b := w.heap.size) (o := 1) (v := Value.int .i64 us) (by (try go_simp); (try simp); (try omega)) (by go_simp)).alloc _).add (b := (w.heap.size + 1)) (o := 0) (v := Value.int .i64 z) (by (try go_simp); (try simp); (try omega)) (by go_simp)).add (b := (w.heap.size + 1)) (o := 1) (v := Value.int .i64 s) (by (try go_simp); (try simp); (try omega)) (by go_simp)).next hb1
  clear hb1
  have d0 := K1.head
  have d1 := K1.tail.head
  have d2 := K1.tail.tail.head
  have d3 := K1.tail.tail.tail.head
  have hl1_0 := K1.lt
  have hl1_2 := K1.tail.tail.lt
  go_wp2_with fail
  refine (rfill_yes _ _ _ _ _ h).mono ?_
  rintro e w2 ⟨rfl, hb2⟩
  have K2 : Kp [((w.heap.size + 1), 1, Value.int .i64 s), ((w.heap.size + 1), 0, Value.int .i64 z), (w.heap.size, 1, Value.int .i64 us), (w.heap.size, 0, Value.int .i64 uz)] w w2 := K1.next hb2
  clear d0
  clear d1
  clear d2
  clear d3
  clear hb2
  have d0 := K2.head
  have d1 := K2.tail.head
  have d2 := K2.tail.tail.head
  have d3 := K2.tail.tail.tail.head
  have hl2_0 := K2.lt
  have hl2_2 := K2.tail.tail.lt
  go_wp2_with fail
  refine (Fb.rsame_any _ _ _).mono ?_
  rintro e w' ⟨rfl, rfl⟩
  go_wp2_with fail
  refine (awake_any _).mono ?_
  rintro e w3 ⟨rfl, hb3⟩
  have K3 : Kp [((w.heap.size + 1), 1, Value.int .i64 s), ((w.heap.size + 1), 0, Value.int .i64 z), (w.heap.size, 1, Value.int .i64 us), (w.heap.size, 0, Value.int .i64 uz)] w w3 := K2.next hb3
  clear d0
  clear d1
  clear d2
  clear d3
  clear hb3
  have d0 := K3.head
  have d1 := K3.tail.head
  have d2 := K3.tail.tail.head
  have d3 := K3.tail.tail.tail.head
  have hl3_0 := K3.lt
  have hl3_2 := K3.tail.tail.lt
  go_wp2_with fail
  go_ret
  exact ⟨rfl, K3.bel⟩

theorem fills_walk (uz us z s : Int) (w : World) (_h1 : (Lit.int .i64 uz).wf = true) (_h2 : (Lit.int .i64 us).wf = true) (_h3 : (Lit.int .i64 z).wf = true) (_h4 : (Lit.int .i64 s).wf = true) :
    Calls Try.prog 6 #[.agg #[.int .i64 uz, .int .i64 us], .agg #[.int .i64 z, .int .i64 s]] w fun e w' => e = .returned (.bool true) ∧ Below w.heap.size w w' := by
  cases h : mayB z s with
  | false => exact fills_no uz us z s w h
  | true => exact fills_yes uz us z s w h
end Go.Proofs.Ytjoagpjockfpiaa.Sp
