/- Contracts of Fill of the packages space and scarpref20: what each returns, for every two geometries; nothing that was there is written. -/
import Derived.Test.YtjoagpjockfpiaaSpaceA
import Derived.Test.YtjoagpjockfpiaaFbA
import Derived.Test.YtjoagpjockfpiaaFlE
namespace Go.Proofs.Ytjoagpjockfpiaa.Sp
set_option linter.unusedSimpArgs false
open Go.RowKit Fl

/-- how full: the quotient of the two products, each rounded; every NaN is the one. -/
@[irreducible] def fillV (uz us z s : Int) : Nat := fop .quo (fop .mul (floatOfInt .f64 uz) (floatOfInt .f64 us)) (fop .mul (floatOfInt .f64 z) (floatOfInt .f64 s))
theorem fillV_of (uz us z s : Int) (w1 w2 w3 : World) : cn (fR .quo (fR .mul (floatOfInt .f64 uz) (floatOfInt .f64 us) w1) (fR .mul (floatOfInt .f64 z) (floatOfInt .f64 s) w2) w3) = fillV uz us z s := by
  unfold fillV
  rw [cn_fR, ← fop_cn, cn_fR, cn_fR]
theorem fillV_cn (uz us z s : Int) : cn (fillV uz us z s) = fillV uz us z s := by unfold fillV; exact cn_fop _ _ _
theorem fillV_lt (uz us z s : Int) : fillV uz us z s < 18446744073709551616 := by unfold fillV; exact fop_lt _ _ _
theorem fill_one (z s : Int) (h : mayB z s = true) : isW (fillV z s z s) 1 := by
  obtain ⟨h1, h2, h3, h4⟩ := mayB_yes h
  obtain ⟨p1, p2⟩ := mul_bd z s 64 192 (by omega) (by omega) (by omega) (by omega)
  have p3 := mul_lo z s 8 96 (by omega) (by omega) (by omega) (by omega)
  obtain ⟨a, rfl⟩ := Int.eq_ofNat_of_zero_le (show 0 ≤ z by omega)
  obtain ⟨b, rfl⟩ := Int.eq_ofNat_of_zero_le (show 0 ≤ s by omega)
  have hab : a * b ≤ 64 * 192 := by rw [← Int.natCast_mul] at p2; omega
  have hab0 : 8 * 96 ≤ a * b := by rw [← Int.natCast_mul] at p3; omega
  have m := mul_W (isW_of a (by omega)) (isW_of b (by omega)) (by omega)
  unfold fillV
  exact div_W (n := 1) (by rw [Nat.one_mul]; exact m) m (by omega) (by omega)
theorem fill_nought (z s : Int) (h : mayB z s = true) : isW (fillV 0 0 z s) 0 := by
  obtain ⟨h1, h2, h3, h4⟩ := mayB_yes h
  obtain ⟨p1, p2⟩ := mul_bd z s 64 192 (by omega) (by omega) (by omega) (by omega)
  have p3 := mul_lo z s 8 96 (by omega) (by omega) (by omega) (by omega)
  obtain ⟨a, rfl⟩ := Int.eq_ofNat_of_zero_le (show 0 ≤ z by omega)
  obtain ⟨b, rfl⟩ := Int.eq_ofNat_of_zero_le (show 0 ≤ s by omega)
  have hab : a * b ≤ 64 * 192 := by rw [← Int.natCast_mul] at p2; omega
  have hab0 : 8 * 96 ≤ a * b := by rw [← Int.natCast_mul] at p3; omega
  have m := mul_W (isW_of a (by omega)) (isW_of b (by omega)) (by omega)
  have m0 := mul_W (isW_of 0 (by omega)) (isW_of 0 (by omega)) (by omega)
  unfold fillV
  exact div_W (n := 0) (by rw [Nat.zero_mul]; exact m0) m (by omega) (by omega)
theorem fill_two (z s : Int) (h : mayB z s = true) : isW (fillV z (2 * s) z s) 2 := by
  obtain ⟨h1, h2, h3, h4⟩ := mayB_yes h
  obtain ⟨p1, p2⟩ := mul_bd z s 64 192 (by omega) (by omega) (by omega) (by omega)
  have p3 := mul_lo z s 8 96 (by omega) (by omega) (by omega) (by omega)
  obtain ⟨a, rfl⟩ := Int.eq_ofNat_of_zero_le (show 0 ≤ z by omega)
  obtain ⟨b, rfl⟩ := Int.eq_ofNat_of_zero_le (show 0 ≤ s by omega)
  have hab : a * b ≤ 64 * 192 := by rw [← Int.natCast_mul] at p2; omega
  have hab0 : 8 * 96 ≤ a * b := by rw [← Int.natCast_mul] at p3; omega
  have m := mul_W (isW_of a (by omega)) (isW_of b (by omega)) (by omega)
  have e : a * (2 * b) = 2 * (a * b) := Nat.mul_left_comm _ _ _
  have m2 := mul_W (isW_of a (by omega)) (isW_int (2 * (b : Int)) (2 * b) (by omega) (by omega)) (by omega)
  rw [e] at m2
  unfold fillV
  exact div_W (n := 2) m2 m (by omega) (by omega)

theorem fill_no (uz us z s : Int) (w : World) (h : mayB z s = false) :
    Calls Try.prog 22 #[.agg #[.int .i64 uz, .int .i64 us], .agg #[.int .i64 z, .int .i64 s]] w fun e w' => e = .returned (.tuple #[.float .f64 0, .int .i64 1]) ∧ Below w.heap.size w w' := by
  go_enter Try.func22, Try.ntmps22
  go_wp2_with fail
  refine (may_any _ _ _).mono ?_
  rintro e w1 ⟨rfl, hb⟩
  have hB : Below w.heap.size w w1 := down (by go_grown) hb (by go_size)
  go_wp2_with fail
  go_ret2
  exact ⟨rfl, by go_grown⟩
theorem fill_yes (uz us z s : Int) (w : World) (h : mayB z s = true) :
    Calls Try.prog 22 #[.agg #[.int .i64 uz, .int .i64 us], .agg #[.int .i64 z, .int .i64 s]] w fun e w' => e = .returned (.tuple #[.float .f64 (fillV uz us z s), .int .i64 0]) ∧ Below w.heap.size w w' := by
  go_enter Try.func22, Try.ntmps22
  go_wp2_with fail
  refine (may_any _ _ _).mono ?_
  rintro e w1 ⟨rfl, hb⟩
  have hB : Below w.heap.size w w1 := down (by go_grown) hb (by go_size)
  have c0 := fun (o : Nat) => hb.cell (p := ⟨w.heap.size, o, none⟩) (by go_size)
  have c1 := fun (o : Nat) => hb.cell (p := ⟨w.heap.size + 1, o, none⟩) (by go_size)
  clear hb
  go_wp2_with (first | (go_at_call 31; refine (Fb.bits_any _ _).mono ?_; rintro e w' ⟨rfl, rfl⟩) | (go_at_call 30; refine (Fb.from_any _ _).mono ?_; rintro e w' ⟨rfl, rfl⟩))
  go_ret2
  exact ⟨by rw [← fillV_of uz us z s]; simp [cn_cn]; rfl, hB.trans ⟨rfl, rfl, rfl, Nat.le_refl _, fun _ _ => rfl⟩⟩
theorem rfill_no (uz us z s : Int) (w : World) (h : mayB z s = false) :
    Calls Try.prog 23 #[.agg #[.int .i64 uz, .int .i64 us], .agg #[.int .i64 z, .int .i64 s]] w fun e w' => e = .returned (.tuple #[.float .f64 0, .int .i64 1]) ∧ Below w.heap.size w w' := by
  go_enter Try.func23, Try.ntmps23
  go_wp2_with fail
  refine (rmay_any _ _ _).mono ?_
  rintro e w1 ⟨rfl, hb⟩
  have hB : Below w.heap.size w w1 := down (by go_grown) hb (by go_size)
  go_wp2_with fail
  go_ret2
  exact ⟨rfl, by go_grown⟩
theorem rfill_yes (uz us z s : Int) (w : World) (h : mayB z s = true) :
    Calls Try.prog 23 #[.agg #[.int .i64 uz, .int .i64 us], .agg #[.int .i64 z, .int .i64 s]] w fun e w' => e = .returned (.tuple #[.float .f64 (fillV uz us z s), .int .i64 0]) ∧ Below w.heap.size w w' := by
  go_enter Try.func23, Try.ntmps23
  go_wp2_with fail
  refine (rmay_any _ _ _).mono ?_
  rintro e w1 ⟨rfl, hb⟩
  have hB : Below w.heap.size w w1 := down (by go_grown) hb (by go_size)
  have c0 := fun (o : Nat) => hb.cell (p := ⟨w.heap.size, o, none⟩) (by go_size)
  have c1 := fun (o : Nat) => hb.cell (p := ⟨w.heap.size + 1, o, none⟩) (by go_size)
  clear hb
  go_wp2_with (first | (go_at_call 33; refine (Fb.rbits_any _ _).mono ?_; rintro e w' ⟨rfl, rfl⟩) | (go_at_call 32; refine (Fb.rfrom_any _ _ (cn_lt (fR_lt _ _ _ _))).mono ?_; rintro e w' ⟨rfl, rfl⟩))
  go_ret2
  exact ⟨by rw [← fillV_of uz us z s]; simp [cn_cn]; rfl, hB.trans ⟨rfl, rfl, rfl, Nat.le_refl _, fun _ _ => rfl⟩⟩
end Go.Proofs.Ytjoagpjockfpiaa.Sp
