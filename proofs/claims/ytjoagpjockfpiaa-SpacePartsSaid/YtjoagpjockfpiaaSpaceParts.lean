/- SpaceParts: the walk. For every geometry and number the law returns true, and nothing that was there is written. No condition. -/
import Derived.Test.YtjoagpjockfpiaaSpaceF
import Derived.Test.YtjoagpjockfpiaaKept
namespace Go.Proofs.Ytjoagpjockfpiaa.Sp
open Go.RowKit Fl

set_option maxHeartbeats 1000000 in
theorem parts_no (z s k : Int) (w : World) (h : mayB z s = false) :
    Calls Try.prog 7 #[.agg #[.int .i64 z, .int .i64 s], .int .i64 k] w fun e w' => e = .returned (.bool true) ∧ Below w.heap.size w w' := by
  go_enter Try.func7, Try.ntmps7
  go_wp2_with fail
  refine (may_any _ _ _).mono ?_
  rintro e w1 ⟨rfl, hb1⟩
  have K1 : Kp [(w.heap.size, 1, Value.int .i64 s), (w.heap.size, 0, Value.int .i64 z)] w w1 := ((((Kp.nil (w := w)).alloc _).add (b := w.heap.size) (o := 0) (v := Value.int .i64 z) (by (try go_simp); (try simp); (try omega)) (by go_simp)).add (b := w.heap.size) (o := 1) (v := Value.int .i64 s) (by (try go_simp); (try simp); (try omega)) (by go_simp)).next hb1
  clear hb1
  have d0 := K1.head
  have d1 := K1.tail.head
  have hl1_0 := K1.lt
  go_wp2_with fail
  refine (fill_no _ _ _ _ _ h).mono ?_
  rintro e w2 ⟨rfl, hb2⟩
  have K2 : Kp [(w.heap.size, 1, Value.int .i64 s), (w.heap.size, 0, Value.int .i64 z)] w w2 := K1.next hb2
  clear d0
  clear d1
  clear hb2
  have d0 := K2.head
  have d1 := K2.tail.head
  have hl2_0 := K2.lt
  go_wp2_with fail
  refine (awake_any _).mono ?_
  rintro e w3 ⟨rfl, hb3⟩
  have K3 : Kp [(w.heap.size, 1, Value.int .i64 s), (w.heap.size, 0, Value.int .i64 z)] w w3 := K2.next hb3
  clear d0
  clear d1
  clear hb3
  have d0 := K3.head
  have d1 := K3.tail.head
  have hl3_0 := K3.lt
  go_wp2_with fail
  go_ret
  exact ⟨rfl, K3.bel⟩

set_option maxHeartbeats 1000000 in
theorem parts_yes (z s k : Int) (w : World) (h : mayB z s = true) :
    Calls Try.prog 7 #[.agg #[.int .i64 z, .int .i64 s], .int .i64 k] w fun e w' => e = .returned (.bool true) ∧ Below w.heap.size w w' := by
  obtain ⟨h1, h2, h3, h4⟩ := mayB_yes h
  have t1 : (FloatKind.f64.format.order (fillV z s z s) 4607182418800017408 == some .eq) = true := t_eq_W (fill_one z s h) isW_one
  have t2 : (FloatKind.f64.format.order (fillV z (2 * s) z s) 4611686018427387904 == some .eq) = true := t_eq_W (fill_two z s h) isW_two
  have t3 : sameB (fillV 0 0 z s) 0 = true := sameB_yes (by rw [(fill_nought z s h).inj isW_zero])
  go_enter Try.func7, Try.ntmps7
  go_wp2_with fail
  refine (may_any _ _ _).mono ?_
  rintro e w1 ⟨rfl, hb1⟩
  have K1 : Kp [(w.heap.size, 1, Value.int .i64 s), (w.heap.size, 0, Value.int .i64 z)] w w1 := ((((Kp.nil (w := w)).alloc _).add (b := w.heap.size) (o := 0) (v := Value.int .i64 z) (by (try go_simp); (try simp); (try omega)) (by go_simp)).add (b := w.heap.size) (o := 1) (v := Value.int .i64 s) (by (try go_simp); (try simp); (try omega)) (by go_simp)).next hb1
  clear hb1
  have d0 := K1.head
  have d1 := K1.tail.head
  have hl1_0 := K1.lt
  go_wp2_with fail
  refine (fill_yes _ _ _ _ _ h).mono ?_
  rintro e w2 ⟨rfl, hb2⟩
  have K2 : Kp [(w.heap.size, 1, Value.int .i64 s), (w.heap.size, 0, Value.int .i64 z)] w w2 := K1.next hb2
  clear d0
  clear d1
  clear hb2
  have d0 := K2.head
  have d1 := K2.tail.head
  have hl2_0 := K2.lt
  go_wp2_with fail
  refine (fill_yes _ _ _ _ _ h).mono ?_
  rintro e w3 ⟨rfl, hb3⟩
  have K3 : Kp [(w.heap.size, 1, Value.int .i64 s), (w.heap.size, 0, Value.int .i64 z)] w w3 := K2.next hb3
  clear d0
  clear d1
  clear hb3
  have d0 := K3.head
  have d1 := K3.tail.head
  have hl3_0 := K3.lt
  go_wp2_with fail
  refine (fill_yes _ _ _ _ _ h).mono ?_
  rintro e w4 ⟨rfl, hb4⟩
  have K4 : Kp [(w.heap.size, 1, Value.int .i64 s), (w.heap.size, 0, Value.int .i64 z)] w w4 := K3.next hb4
  clear d0
  clear d1
  clear hb4
  have d0 := K4.head
  have d1 := K4.tail.head
  have hl4_0 := K4.lt
  go_wp2_with fail
  refine (Fb.rsame_any _ _ _).mono ?_
  rintro e w' ⟨rfl, rfl⟩
  go_wp2_with fail
  refine (awake_any _).mono ?_
  rintro e w5 ⟨rfl, hb5⟩
  have K5 : Kp [(w.heap.size, 1, Value.int .i64 s), (w.heap.size, 0, Value.int .i64 z)] w w5 := K4.next hb5
  clear d0
  clear d1
  clear hb5
  have d0 := K5.head
  have d1 := K5.tail.head
  have hl5_0 := K5.lt
  go_wp2_with fail
  go_ret
  exact ⟨rfl, K5.bel⟩

theorem parts_walk (z s k : Int) (w : World) (_h1 : (Lit.int .i64 z).wf = true) (_h2 : (Lit.int .i64 s).wf = true) (_h3 : (Lit.int .i64 k).wf = true) :
    Calls Try.prog 7 #[.agg #[.int .i64 z, .int .i64 s], .int .i64 k] w fun e w' => e = .returned (.bool true) ∧ Below w.heap.size w w' := by
  cases h : mayB z s with
  | false => exact parts_no z s k w h
  | true => exact parts_yes z s k w h
end Go.Proofs.Ytjoagpjockfpiaa.Sp
