/- The contract of clean.Live. -/
import Derived.Test.YtchhnjadnacniaaCmG
namespace Go.Proofs.Ytchhnjadnacniaa.Cm
set_option linter.unusedSimpArgs false
set_option linter.unusedVariables false
open Go.RowKit

/-- is a copy read by anybody from a time on? -/
def liveB (g : Int → List Int) (hz : Int) (c : CpD) : Bool := decide (1 ≤ c.t ∧ getV g c.lba (max c.t hz) = c.t)
set_option maxHeartbeats 4000000 in
theorem live_any (B gm N M : Nat) (last : Int) (g : Int → List Int) (c : CpD) (hz : Int) (w : World) (hE : EV w B gm N M last g) (hM : M ≤ 100000) :
    Calls Try.prog 23 #[.pointer (some ⟨gm, 0, none⟩), .agg #[.int .i64 c.lba, .int .i64 c.t], .int .i64 hz] w fun e w' => e = .returned (.bool (liveB g hz c)) ∧ Below w.heap.size w w' := by
  obtain ⟨w1, hw1⟩ : ∃ w1, w.alloc (.cells #[.int .i64 c.lba, .int .i64 c.t] 51) = w1 := ⟨_, rfl⟩
  have hb1 : Below w.heap.size w w1 := by rw [← hw1]; exact (Below.refl _ _).alloc (Nat.le_refl _) _
  have hx1 : Bk w1 w.heap.size 51 [.int .i64 c.lba, .int .i64 c.t] := by rw [← hw1]; exact Bk.new w _ _
  have c0 := hx1.cell (i := 0) (by simp)
  have c1 := hx1.cell (i := 1) (by simp)
  simp only [List.getElem_cons_zero, List.getElem_cons_succ] at c0 c1
  have hget := get_any B gm N M last c.lba (max c.t hz) g w1 (hE.next hb1) hM
  clear hE hM
  by_cases ht : c.t < 1
  · have t0 : decide (c.t < 1) = true := decide_eq_true ht
    have HR := Lib.hid (show liveB g hz c = false from decide_eq_false (by omega))
    clear ht
    go_enter Try.func23, Try.ntmps23
    go_wp2_with fail
    go_ret
    exact ⟨ret_bool (by rw [HR.out]), hb1⟩
  · have t0 : decide (c.t < 1) = false := decide_eq_false ht
    have HR := Lib.hid (show decide (getV g c.lba (max c.t hz) = c.t) = liveB g hz c by unfold liveB; rw [decide_eq_decide]; constructor; exact fun h => ⟨by omega, h⟩; exact fun h => h.2)
    clear ht
    by_cases hlt : c.t < hz
    · have e : max c.t hz = hz := by omega
      rw [e] at hget HR
      clear e
      go_enter Try.func23, Try.ntmps23
      go_wp2_with fail
      refine hget.mono ?_
      rintro e w' ⟨⟨v, rfl, hv⟩, hb2⟩
      obtain ⟨x, hx⟩ : ∃ x, getV g c.lba hz = x := ⟨_, rfl⟩
      have c2 : w'.cell? ⟨w.heap.size, 1, none⟩ = some (.int .i64 c.t) := (hx1.next hb2 hx1.lt).cell (i := 1) (by simp)
      rw [hx]
      rw [hx] at HR
      clear hx
      go_wp2_with fail
      go_ret
      exact ⟨ret_bool (by rw [← HR.out]; first | rfl | (cases hd : decide (x = c.t) <;> simp_all)), hb1.trans (hb2.mono hb1.size)⟩
    · have e : max c.t hz = c.t := by omega
      rw [e] at hget HR
      have hle : hz ≤ c.t := by omega
      clear e
      go_enter Try.func23, Try.ntmps23
      go_wp2_with fail
      refine hget.mono ?_
      rintro e w' ⟨⟨v, rfl, hv⟩, hb2⟩
      obtain ⟨x, hx⟩ : ∃ x, getV g c.lba c.t = x := ⟨_, rfl⟩
      have c2 : w'.cell? ⟨w.heap.size, 1, none⟩ = some (.int .i64 c.t) := (hx1.next hb2 hx1.lt).cell (i := 1) (by simp)
      rw [hx]
      rw [hx] at HR
      clear hx
      go_wp2_with fail
      go_ret
      exact ⟨ret_bool (by rw [← HR.out]; first | rfl | (cases hd : decide (x = c.t) <;> simp_all)), hb1.trans (hb2.mono hb1.size)⟩
end Go.Proofs.Ytchhnjadnacniaa.Cm
