/- Contracts of Encode of the packages fbits and scarpref1 and of scarpalike.Bytes: what each returns. -/
import Derived.Test.YtmnnlchnobbogaaFbD
import Derived.Deep.RegionWith
import Derived.Deep.QuietTactic
import Derived.BigQuiet
import Derived.OwnWalk
import Derived.Laws.MakeOwn
import Derived.Laws.OwnMore
namespace Go.Proofs.Ytmnnlchnobbogaa.Fb
set_option linter.unusedSimpArgs false
set_option linter.unusedVariables false
open Go.RowKit Fl

/-- the bytes of a word, the greatest first. -/
def byteV (v i : Nat) : Int := ((v / 2 ^ (8 * (7 - i)) % 256 : Nat) : Int)
theorem byteV_int (v i : Nat) : byteV v i = (v : Int) / 2 ^ (8 * (7 - i)) % 256 := by unfold byteV; simp
def encL (v : Nat) : List Int := (List.range 8).map (byteV v)
def encP (v k : Nat) : List Int := (List.range 8).map fun i => if i < k then byteV v i else 0
theorem encL_len (v : Nat) : (encL v).length = 8 := rfl
theorem encP_len (v k : Nat) : (encP v k).length = 8 := rfl
theorem encP_zero (v : Nat) : encP v 0 = [0, 0, 0, 0, 0, 0, 0, 0] := rfl
theorem encP_all (v : Nat) : encP v 8 = encL v := by
  unfold encP encL
  apply List.map_congr_left
  intro i hi
  rw [if_pos (List.mem_range.1 hi)]
theorem encP_set (v k : Nat) (hk : k < 8) : ((encP v k).map (Value.int .u8)).set k (.int .u8 (byteV v k)) = (encP v (k + 1)).map (Value.int .u8) := by
  apply List.ext_getElem
  · simp [encP]
  · intro i h1 h2
    simp only [encP, List.getElem_set, List.getElem_map, List.getElem_range]
    by_cases hi : k = i
    · subst hi; simp
    · rw [if_neg hi]
      by_cases hl : i < k
      · rw [if_pos hl, if_pos (by omega)]
      · rw [if_neg hl, if_neg (by omega)]
def Out8 (l : List Int) (w : World) (e : Ending) (w' : World) : Prop := ∃ A, e = .returned (.slice A 8 8) ∧ Rd w' w'.heap.size A (l.map (Value.int .u8)) ∧ Below w.heap.size w w'
def intOfI (v : Value) : Int := match v with | .int _ n => n | _ => 0
/-- a result that is a new row of bytes. -/
def OutBytes (l : List Int) (w : World) (e : Ending) (w' : World) : Prop := ∃ A c, e = .returned (.slice A 8 c) ∧ Rd w' w'.heap.size A (l.map (Value.int .u8)) ∧ Below w.heap.size w w'
set_option maxHeartbeats 1000000 in
theorem encode_any (x : Nat) (w : World) :
    Calls Try.prog 29 #[.float .f64 x] w (Out8 (encL (cn x)) w) := by
  have hmk : ∀ W : World, (Instr.makeSlice 32 (.int .i64 8) (.int .i64 8)).run Try.prog W = .ok (.slice (some ⟨W.heap.size, 0, none⟩) 8 8) (W.alloc (.cells #[.int .u8 0, .int .u8 0, .int .u8 0, .int .u8 0, .int .u8 0, .int .u8 0, .int .u8 0, .int .u8 0] 5)) := fun _ => by kernel_rfl
  go_enter Try.func29, Try.ntmps29
  go_wp2_with fail
  go_region_with (go_at_call 14; refine (bits_any _ _).mono ?_; rintro e w' ⟨rfl, rfl⟩)
  all_goals
    go_wp2_with fail
    go_loopw [11] (fun i wr => ∃ k : Nat, k ≤ 8 ∧ i = .int .i64 k ∧ Bk wr w.heap.size 5 ((encP (cn x) k).map (Value.int .u8)) ∧ Below w.heap.size w wr) (fun i _ => 8 - (intOf i).toNat)
    case atStart => exact ⟨0, Nat.zero_le _, rfl, (Bk.new w 5 ((encP (cn x) 0).map (Value.int .u8))).drew, ((Below.refl _ _).alloc (Nat.le_refl _) _).drew⟩
    case round =>
      obtain ⟨k, hk, rfl, hB, hW⟩ := hrel
      by_cases hlt : k < 8
      · have hc := hB.cell (i := k) (by rw [List.length_map, encP_len]; exact hlt)
        have hf := hB.free k
        rw [List.getElem_map] at hc
        go_wp2_with fail
        go_roundw
        case rel =>
          refine ⟨k + 1, by omega, by go_num, ?_, ?_⟩
          · rw [← encP_set _ _ hlt]
            rw [byteV_int]
            exact hB.set k _
          · exact hW.setCell (Nat.le_refl _) _
        case measure => simp [intOf]; omega
      · obtain rfl : k = 8 := by omega
        go_wp2_with fail
        go_ret
        rw [encP_all] at hB
        exact ⟨_, rfl, hB.rd, hW⟩
theorem enc_snoc (v : Nat) {k : Nat} (hk : k < 8) : ((encL v).take (k + 1)).map (Value.int .u8) = ((encL v).take k).map (Value.int .u8) ++ [.int .u8 ((v : Int) / 2 ^ (56 - 8 * k) % 256)] := by
  rw [List.take_succ_eq_append_getElem (by rw [encL_len]; exact hk), List.map_append]
  congr 1
  simp only [List.map_cons, List.map_nil, encL, List.getElem_map, List.getElem_range]
  rw [byteV_int, show 8 * (7 - k) = 56 - 8 * k by omega]
theorem out_of_own {w wr : World} {v : Value} {l : List Int} {e : TypeId} (hl : l.length = 8) (hO : wr.ownsRow w.heap.size e 1 v 8 ((l.take 8).map (Value.int .u8))) (hW : Below w.heap.size w wr) : OutBytes l w (.returned v) wr := by
  obtain ⟨g, cap, rfl, _, _⟩ := hO.form (by omega)
  rw [List.take_of_length_le (by omega)] at hO
  exact ⟨_, cap, rfl, Rd.of_own hO, hW⟩
theorem info8 : (Try.prog.info? 5).map (fun i => (i.zero, i.size, i.bytes)) = some (some (.int .u8 0), 1, 1) := by kernel_rfl
set_option maxHeartbeats 1000000 in
theorem rencode_any (x : Nat) (w : World) :
    Calls Try.prog 30 #[.float .f64 x] w (OutBytes (encL (cn x)) w) := by
  obtain ⟨i0, hi, hz0, hz1, hz2⟩ := info_parts info8
  go_enter Try.func30, Try.ntmps30
  go_wp2_with (go_at_call 20; refine (rbits_any _ _).mono ?_; rintro e w' ⟨rfl, rfl⟩)
  go_loopw [4, 5] (fun v i wr => ∃ k : Nat, k ≤ 8 ∧ i = .int .i64 (56 - 8 * (k : Int)) ∧ wr.ownsRow w.heap.size 5 1 v k (((encL (cn x)).take k).map (Value.int .u8)) ∧ Below w.heap.size w wr) (fun _ i _ => (64 + intOfI i).toNat)
  case atStart => exact ⟨0, Nat.zero_le _, rfl, ⟨rfl, .inl ⟨rfl, rfl⟩⟩, Below.refl _ _⟩
  case round =>
    obtain ⟨k, hk, rfl, hO, hW⟩ := hrel
    by_cases hlt : k < 8
    · have h1 : (k : Int) < 8 := by omega
      go_wp2_with (at_builtin; refine wpList_app1 rfl _ _ 32 rfl w.heap.size 5 i0 (.int .u8 0) 1 Try.underlying32 hi hz0 hz1 hz2 rfl _ _ _ rfl hO hW.size hW _ rfl rfl (by omega) (by omega) ?_; intro v' w1 hO1 hW1 _)
      go_roundw
      case rel =>
        refine ⟨k + 1, by omega, by go_num, ?_, hW1⟩
        rw [enc_snoc _ hlt]
        exact hO1
      case measure => simp [intOfI]; omega
    · obtain rfl : k = 8 := by omega
      go_wp2_with fail
      go_ret
      exact out_of_own (encL_len _) hO hW
set_option maxHeartbeats 1000000 in
theorem bytes_eq (A B : Option Addr) (c d : Nat) (l : List Int) (w : World) (hl : l.length = 8) (ha : Rd w w.heap.size A (l.map (Value.int .u8))) (hb : Rd w w.heap.size B (l.map (Value.int .u8))) :
    Calls Try.prog 28 #[.slice A 8 c, .slice B 8 d] w fun e w' => e = .returned (.bool true) ∧ Below w.heap.size w w' := by
  go_enter Try.func28, Try.ntmps28
  go_wp2_with fail
  go_loopw [5] (fun i wr => ∃ k n : Nat, k ≤ 8 ∧ i = .int .i64 k ∧ wr = w.drewN n) (fun i _ => 8 - (intOf i).toNat)
  case atStart => exact ⟨0, 0, Nat.zero_le _, rfl, rfl⟩
  case round =>
    obtain ⟨k, n, hk, rfl, rfl⟩ := hrel
    by_cases hlt : k < 8
    · obtain ⟨a1, rfl, _, hc⟩ := ha.get (k := k) (by rw [List.length_map]; omega)
      obtain ⟨a2, rfl, _, hd⟩ := hb.get (k := k) (by rw [List.length_map]; omega)
      rw [List.getElem_map] at hc hd
      have h0 : (0 : Int) ≤ (k : Int) := by omega
      have h8 : (k : Int) < 8 := by omega
      go_wp2_with fail
      go_quiet (fail)
      go_wp2_with fail
      go_roundw
      case rel => exact ⟨k + 1, _, by omega, by go_num, rfl⟩
      case measure => simp [intOf]; omega
    · obtain rfl : k = 8 := by omega
      go_wp2_with fail
      go_ret
      exact ⟨rfl, ⟨rfl, rfl, rfl, Nat.le_refl _, fun _ _ => rfl⟩⟩
end Go.Proofs.Ytmnnlchnobbogaa.Fb
