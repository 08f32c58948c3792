/- Contract of math.Floor: for every number that is no NaN what the model's archFloor gives. -/
import Derived.Test.YthiiicgibcgipaaFsA
import Derived.Test.YthiiicgibcgipaaFbC
import Derived.Test.YthiiicgibcgipaaFlY
namespace Go.Proofs.Ythiiicgibcgipaa.Fm
set_option linter.unusedSimpArgs false
set_option linter.unusedVariables false
open Go.RowKit Fl Fb
attribute [local go_sem] and_sgn andNot_sgn xor_sgn xor_all run_neg_float u64_unsigned

theorem run_archFloor (k : Nat) (w : World) (h : numB k = true) : (callFunc 46 #[.float .f64 k]).run Try.prog w = .ok (.value (.float .f64 (floV k))) w := by
  rw [run_callFunc_extern Try.func46 (by kernel_rfl) (by kernel_rfl) (by kernel_rfl) (e := Extern.MathFloor.toIntegral "math.archFloor" .down) (by kernel_rfl)]
  have hk : rg k ≤ 9218868437227405312 := by unfold numB at h; simpa using h
  unfold floV
  have hd : ∀ s t, FloatKind.f64.decode k ≠ .nan s t := by
    intro s t
    show Ieee.double.read k ≠ _
    rcases Nat.lt_or_ge (rg k) 9218868437227405312 with g | g
    · rw [read_fin k g]; intro hh; cases hh
    · rw [read_inf k (by omega)]; intro hh; cases hh
  obtain ⟨X, hX⟩ : ∃ X : Bool → Nat → Sem Value, Extern.MathFloor.toIntegral "math.archFloor" .down #[.float .f64 k] = (match FloatKind.f64.decode k with
    | .nan s t => X s t
    | d => pure (.float .f64 (FloatKind.f64.encode (d.integral .down)))) := ⟨_, rfl⟩
  rw [hX]
  clear hX
  cases h2 : FloatKind.f64.decode k with
  | nan s t => exact absurd h2 (hd s t)
  | infinity s => rfl
  | number s m i => rfl
attribute [local go_sem] run_archFloor
set_option maxHeartbeats 1000000 in
theorem floor_any (k : Nat) (w : World) (h : numB k = true) :
    Calls Try.prog 36 #[.float .f64 k] w fun e w' => e = .returned (.float .f64 (floV k)) ∧ w = w' := by
  go_enter Try.func36, Try.ntmps36
  go_wp2_with fail
  go_ret
  exact ⟨rfl, rfl⟩
end Go.Proofs.Ythiiicgibcgipaa.Fm
