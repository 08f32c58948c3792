/- SpaceAsks: the walk. For every geometry the law returns true, and nothing that was there is written. No condition. -/
import Derived.Test.YtjoagpjockfpiaaSpaceB
import Derived.Test.YtjoagpjockfpiaaKept
import Derived.Deep.RegionHeld3
import Derived.Deep.DrawnRows
namespace Go.Proofs.Ytjoagpjockfpiaa.Sp
open Go.RowKit
attribute [local go_sem ↓] Go.wp_at_zero Go.wp_at_succ

set_option maxHeartbeats 1000000 in
theorem asks_no (z s : Int) (w : World) (h : mayB z s = false) :
    Calls Try.prog 5 #[.agg #[.int .i64 z, .int .i64 s]] w fun e w' => e = .returned (.bool true) ∧ Below w.heap.size w w' := by
  go_enter Try.func5, Try.ntmps5
  go_wp2_with fail
  refine (split_no _ _ _ h).mono ?_
  rintro e w1 ⟨rfl, hb1⟩
  have K1 : Kp [(w.heap.size, 1, Value.int .i64 s), (w.heap.size, 0, Value.int .i64 z)] w w1 := ((((Kp.nil (w := w)).alloc _).add (b := w.heap.size) (o := 0) (v := Value.int .i64 z) (by (try go_simp); (try simp); (try omega)) (by go_simp)).add (b := w.heap.size) (o := 1) (v := Value.int .i64 s) (by (try go_simp); (try simp); (try omega)) (by go_simp)).next hb1
  clear hb1
  have d0 := K1.head
  have d1 := K1.tail.head
  have hl1_0 := K1.lt
  go_wp2_with fail
  refine (rsplit_no _ _ _ h).mono ?_
  rintro e w2 ⟨rfl, hb2⟩
  have K2 : Kp [(w1.heap.size, 3, Value.int .i64 0), (w1.heap.size, 2, Value.int .i64 0), (w1.heap.size, 1, Value.int .i64 0), (w1.heap.size, 0, Value.int .i64 0), (w.heap.size, 1, Value.int .i64 s), (w.heap.size, 0, Value.int .i64 z)] w w2 := (((((K1.alloc _).add (b := w1.heap.size) (o := 0) (v := Value.int .i64 0) (by (try go_simp); (try simp); (try omega)) (by go_simp)).add (b := w1.heap.size) (o := 1) (v := Value.int .i64 0) (by (try go_simp); (try simp); (try omega)) (by go_simp)).add (b := w1.heap.size) (o := 2) (v := Value.int .i64 0) (by (try go_simp); (try simp); (try omega)) (by go_simp)).add (b := w1.heap.size) (o := 3) (v := Value.int .i64 0) (by (try go_simp); (try simp); (try omega)) (by go_simp)).next hb2
  clear d0
  clear d1
  clear hb2
  have d0 := K2.head
  have d1 := K2.tail.head
  have d2 := K2.tail.tail.head
  have d3 := K2.tail.tail.tail.head
  have d4 := K2.tail.tail.tail.tail.head
  have d5 := K2.tail.tail.tail.tail.tail.head
  have hl2_0 := K2.lt
  have hl2_4 := K2.tail.tail.tail.tail.lt
  go_wp2_with fail
  have KS : Kp [(w2.heap.size, 3, Value.int .i64 0), (w2.heap.size, 2, Value.int .i64 0), (w2.heap.size, 1, Value.int .i64 0), (w2.heap.size, 0, Value.int .i64 0), (w1.heap.size, 3, Value.int .i64 0), (w1.heap.size, 2, Value.int .i64 0), (w1.heap.size, 1, Value.int .i64 0), (w1.heap.size, 0, Value.int .i64 0), (w.heap.size, 1, Value.int .i64 s), (w.heap.size, 0, Value.int .i64 z)] w _ := (((((K2.alloc (.cells #[Value.int .i64 0, Value.int .i64 0, Value.int .i64 0, Value.int .i64 0] 33)).add (b := w2.heap.size) (o := 0) (v := Value.int .i64 0) (by (try go_simp); (try simp); (try omega)) (by go_simp)).add (b := w2.heap.size) (o := 1) (v := Value.int .i64 0) (by (try go_simp); (try simp); (try omega)) (by go_simp)).add (b := w2.heap.size) (o := 2) (v := Value.int .i64 0) (by (try go_simp); (try simp); (try omega)) (by go_simp)).add (b := w2.heap.size) (o := 3) (v := Value.int .i64 0) (by (try go_simp); (try simp); (try omega)) (by go_simp))
  clear d0
  clear d1
  clear d2
  clear d3
  clear d4
  clear d5
  have d0 := KS.head
  have d1 := KS.tail.head
  have d2 := KS.tail.tail.head
  have d3 := KS.tail.tail.tail.head
  have d4 := KS.tail.tail.tail.tail.head
  have d5 := KS.tail.tail.tail.tail.tail.head
  have d6 := KS.tail.tail.tail.tail.tail.tail.head
  have d7 := KS.tail.tail.tail.tail.tail.tail.tail.head
  have d8 := KS.tail.tail.tail.tail.tail.tail.tail.tail.head
  have d9 := KS.tail.tail.tail.tail.tail.tail.tail.tail.tail.head
  go_region_held3 (fun w' => Kp [(w2.heap.size, 3, Value.int .i64 0), (w2.heap.size, 2, Value.int .i64 0), (w2.heap.size, 1, Value.int .i64 0), (w2.heap.size, 0, Value.int .i64 0), (w1.heap.size, 3, Value.int .i64 0), (w1.heap.size, 2, Value.int .i64 0), (w1.heap.size, 1, Value.int .i64 0), (w1.heap.size, 0, Value.int .i64 0), (w.heap.size, 1, Value.int .i64 s), (w.heap.size, 0, Value.int .i64 z)] w w' ∧ w'.cell? ⟨w2.heap.size, 3, none⟩ = some (Value.int .i64 0) ∧ w'.cell? ⟨w2.heap.size, 2, none⟩ = some (Value.int .i64 0) ∧ w'.cell? ⟨w2.heap.size, 1, none⟩ = some (Value.int .i64 0) ∧ w'.cell? ⟨w2.heap.size, 0, none⟩ = some (Value.int .i64 0) ∧ w'.cell? ⟨w1.heap.size, 3, none⟩ = some (Value.int .i64 0) ∧ w'.cell? ⟨w1.heap.size, 2, none⟩ = some (Value.int .i64 0) ∧ w'.cell? ⟨w1.heap.size, 1, none⟩ = some (Value.int .i64 0) ∧ w'.cell? ⟨w1.heap.size, 0, none⟩ = some (Value.int .i64 0) ∧ w'.cell? ⟨w.heap.size, 1, none⟩ = some (Value.int .i64 s) ∧ w'.cell? ⟨w.heap.size, 0, none⟩ = some (Value.int .i64 z)) (first | exact Kp.s10 (by assumption) | exact Kp.s10 KS.drew)
    (first
      | (go_at_call 12; refine (may_any _ _ _).mono ?_; rintro e v0 ⟨rfl, hb⟩; have KS0 := Kp.next2 (by assumption) hb; clear hb)
      | (go_at_call 17; refine (rmay_any _ _ _).mono ?_; rintro e v1 ⟨rfl, hb⟩; have KS1 := Kp.next2 (by assumption) hb; clear hb)
      | (go_at_call 13; refine (cap_no _ _ _ h).mono ?_; rintro e v2 ⟨rfl, hb⟩; have KS2 := Kp.next2 (by assumption) hb; clear hb)
      | (go_at_call 18; refine (rcap_no _ _ _ h).mono ?_; rintro e v3 ⟨rfl, hb⟩; have KS3 := Kp.next2 (by assumption) hb; clear hb)
      | (go_at_call 19; refine (steps_no _ _ _ h).mono ?_; rintro e v4 ⟨rfl, hb⟩; have KS4 := Kp.next2 (by assumption) hb; clear hb)
      | (go_at_call 20; refine (rsteps_no _ _ _ h).mono ?_; rintro e v5 ⟨rfl, hb⟩; have KS5 := Kp.next2 (by assumption) hb; clear hb)
      | (go_at_call 15; refine (reads_no _ _ _ h).mono ?_; rintro e v6 ⟨rfl, hb⟩; have KS6 := Kp.next2 (by assumption) hb; clear hb)
      | (go_at_call 21; refine (rreads_no _ _ _ h).mono ?_; rintro e v7 ⟨rfl, hb⟩; have KS7 := Kp.next2 (by assumption) hb; clear hb)
      | (go_at_call 14; refine (awake_any _).mono ?_; rintro e v8 ⟨rfl, hb⟩; have KS8 := Kp.next2 (by assumption) hb; clear hb))
  all_goals go_wp2
  go_ret
  exact ⟨rfl, KS8.bel⟩

set_option maxHeartbeats 1000000 in
theorem asks_yes (z s : Int) (w : World) (h : mayB z s = true) :
    Calls Try.prog 5 #[.agg #[.int .i64 z, .int .i64 s]] w fun e w' => e = .returned (.bool true) ∧ Below w.heap.size w w' := by
  obtain ⟨h1, h2, h3, h4⟩ := mayB_yes h
  go_enter Try.func5, Try.ntmps5
  go_wp2_with fail
  refine (split_yes _ _ _ h).mono ?_
  rintro e w1 ⟨rfl, hb1⟩
  have K1 : Kp [(w.heap.size, 1, Value.int .i64 s), (w.heap.size, 0, Value.int .i64 z)] w w1 := ((((Kp.nil (w := w)).alloc _).add (b := w.heap.size) (o := 0) (v := Value.int .i64 z) (by (try go_simp); (try simp); (try omega)) (by go_simp)).add (b := w.heap.size) (o := 1) (v := Value.int .i64 s) (by (try go_simp); (try simp); (try omega)) (by go_simp)).next hb1
  clear hb1
  have d0 := K1.head
  have d1 := K1.tail.head
  have hl1_0 := K1.lt
  go_wp2_with fail
  refine (rsplit_yes _ _ _ h).mono ?_
  rintro e w2 ⟨rfl, hb2⟩
  have K2 : Kp [(w1.heap.size, 3, Value.int .i64 (z - 1)), (w1.heap.size, 2, Value.int .i64 (2 * (3 * z / 8))), (w1.heap.size, 1, Value.int .i64 (3 * z / 8)), (w1.heap.size, 0, Value.int .i64 0), (w.heap.size, 1, Value.int .i64 s), (w.heap.size, 0, Value.int .i64 z)] w w2 := (((((K1.alloc _).add (b := w1.heap.size) (o := 0) (v := Value.int .i64 0) (by (try go_simp); (try simp); (try omega)) (by go_simp)).add (b := w1.heap.size) (o := 1) (v := Value.int .i64 (3 * z / 8)) (by (try go_simp); (try simp); (try omega)) (by go_simp)).add (b := w1.heap.size) (o := 2) (v := Value.int .i64 (2 * (3 * z / 8))) (by (try go_simp); (try simp); (try omega)) (by go_simp)).add (b := w1.heap.size) (o := 3) (v := Value.int .i64 (z - 1)) (by (try go_simp); (try simp); (try omega)) (by go_simp)).next hb2
  clear d0
  clear d1
  clear hb2
  have d0 := K2.head
  have d1 := K2.tail.head
  have d2 := K2.tail.tail.head
  have d3 := K2.tail.tail.tail.head
  have d4 := K2.tail.tail.tail.tail.head
  have d5 := K2.tail.tail.tail.tail.tail.head
  have hl2_0 := K2.lt
  have hl2_4 := K2.tail.tail.tail.tail.lt
  go_wp2_with fail
  have KS : Kp [(w2.heap.size, 3, Value.int .i64 (z - 1)), (w2.heap.size, 2, Value.int .i64 (2 * (3 * z / 8))), (w2.heap.size, 1, Value.int .i64 (3 * z / 8)), (w2.heap.size, 0, Value.int .i64 0), (w1.heap.size, 3, Value.int .i64 (z - 1)), (w1.heap.size, 2, Value.int .i64 (2 * (3 * z / 8))), (w1.heap.size, 1, Value.int .i64 (3 * z / 8)), (w1.heap.size, 0, Value.int .i64 0), (w.heap.size, 1, Value.int .i64 s), (w.heap.size, 0, Value.int .i64 z)] w _ := (((((K2.alloc (.cells #[Value.int .i64 0, Value.int .i64 (3 * z / 8), Value.int .i64 (2 * (3 * z / 8)), Value.int .i64 (z - 1)] 33)).add (b := w2.heap.size) (o := 0) (v := Value.int .i64 0) (by (try go_simp); (try simp); (try omega)) (by go_simp)).add (b := w2.heap.size) (o := 1) (v := Value.int .i64 (3 * z / 8)) (by (try go_simp); (try simp); (try omega)) (by go_simp)).add (b := w2.heap.size) (o := 2) (v := Value.int .i64 (2 * (3 * z / 8))) (by (try go_simp); (try simp); (try omega)) (by go_simp)).add (b := w2.heap.size) (o := 3) (v := Value.int .i64 (z - 1)) (by (try go_simp); (try simp); (try omega)) (by go_simp))
  clear d0
  clear d1
  clear d2
  clear d3
  clear d4
  clear d5
  have d0 := KS.head
  have d1 := KS.tail.head
  have d2 := KS.tail.tail.head
  have d3 := KS.tail.tail.tail.head
  have d4 := KS.tail.tail.tail.tail.head
  have d5 := KS.tail.tail.tail.tail.tail.head
  have d6 := KS.tail.tail.tail.tail.tail.tail.head
  have d7 := KS.tail.tail.tail.tail.tail.tail.tail.head
  have d8 := KS.tail.tail.tail.tail.tail.tail.tail.tail.head
  have d9 := KS.tail.tail.tail.tail.tail.tail.tail.tail.tail.head
  go_region_held3 (fun w' => Kp [(w2.heap.size, 3, Value.int .i64 (z - 1)), (w2.heap.size, 2, Value.int .i64 (2 * (3 * z / 8))), (w2.heap.size, 1, Value.int .i64 (3 * z / 8)), (w2.heap.size, 0, Value.int .i64 0), (w1.heap.size, 3, Value.int .i64 (z - 1)), (w1.heap.size, 2, Value.int .i64 (2 * (3 * z / 8))), (w1.heap.size, 1, Value.int .i64 (3 * z / 8)), (w1.heap.size, 0, Value.int .i64 0), (w.heap.size, 1, Value.int .i64 s), (w.heap.size, 0, Value.int .i64 z)] w w' ∧ w'.cell? ⟨w2.heap.size, 3, none⟩ = some (Value.int .i64 (z - 1)) ∧ w'.cell? ⟨w2.heap.size, 2, none⟩ = some (Value.int .i64 (2 * (3 * z / 8))) ∧ w'.cell? ⟨w2.heap.size, 1, none⟩ = some (Value.int .i64 (3 * z / 8)) ∧ w'.cell? ⟨w2.heap.size, 0, none⟩ = some (Value.int .i64 0) ∧ w'.cell? ⟨w1.heap.size, 3, none⟩ = some (Value.int .i64 (z - 1)) ∧ w'.cell? ⟨w1.heap.size, 2, none⟩ = some (Value.int .i64 (2 * (3 * z / 8))) ∧ w'.cell? ⟨w1.heap.size, 1, none⟩ = some (Value.int .i64 (3 * z / 8)) ∧ w'.cell? ⟨w1.heap.size, 0, none⟩ = some (Value.int .i64 0) ∧ w'.cell? ⟨w.heap.size, 1, none⟩ = some (Value.int .i64 s) ∧ w'.cell? ⟨w.heap.size, 0, none⟩ = some (Value.int .i64 z)) (first | exact Kp.s10 (by assumption) | exact Kp.s10 KS.drew)
    (first
      | (go_at_call 12; refine (may_any _ _ _).mono ?_; rintro e v0 ⟨rfl, hb⟩; have KS0 := Kp.next2 (by assumption) hb; clear hb)
      | (go_at_call 17; refine (rmay_any _ _ _).mono ?_; rintro e v1 ⟨rfl, hb⟩; have KS1 := Kp.next2 (by assumption) hb; clear hb)
      | (go_at_call 13; refine (cap_yes _ _ _ h).mono ?_; rintro e v2 ⟨rfl, hb⟩; have KS2 := Kp.next2 (by assumption) hb; clear hb)
      | (go_at_call 18; refine (rcap_yes _ _ _ h).mono ?_; rintro e v3 ⟨rfl, hb⟩; have KS3 := Kp.next2 (by assumption) hb; clear hb)
      | (go_at_call 19; refine (steps_yes _ _ _ h).mono ?_; rintro e v4 ⟨rfl, hb⟩; have KS4 := Kp.next2 (by assumption) hb; clear hb)
      | (go_at_call 20; refine (rsteps_yes _ _ _ h).mono ?_; rintro e v5 ⟨rfl, hb⟩; have KS5 := Kp.next2 (by assumption) hb; clear hb)
      | (go_at_call 15; refine (reads_yes _ _ _ h).mono ?_; rintro e v6 ⟨rfl, hb⟩; have KS6 := Kp.next2 (by assumption) hb; clear hb)
      | (go_at_call 21; refine (rreads_yes _ _ _ h).mono ?_; rintro e v7 ⟨rfl, hb⟩; have KS7 := Kp.next2 (by assumption) hb; clear hb)
      | (go_at_call 14; refine (awake_any _).mono ?_; rintro e v8 ⟨rfl, hb⟩; have KS8 := Kp.next2 (by assumption) hb; clear hb))
  all_goals go_wp2
  go_ret
  exact ⟨rfl, KS8.bel⟩

theorem asks_walk (z s : Int) (w : World) (_h1 : (Lit.int .i64 z).wf = true) (_h2 : (Lit.int .i64 s).wf = true) :
    Calls Try.prog 5 #[.agg #[.int .i64 z, .int .i64 s]] w fun e w' => e = .returned (.bool true) ∧ Below w.heap.size w w' := by
  cases h : mayB z s with
  | false => exact asks_no z s w h
  | true => exact asks_yes z s w h
end Go.Proofs.Ytjoagpjockfpiaa.Sp
