/- Zones in their order, no program in sight: what a zone is worth, the zones that are worth it, and their one order. -/
import Derived.Test.YtchhnjadnacniaaScA
import Derived.Test.YtchhnjadnacniaaSoA
namespace Go.Proofs.Ytchhnjadnacniaa.Rk
open Go.RowKit Go.Sort Go.Lib Fl Sc
open Go.Proofs.Ytchhnjadnacniaa.So
set_option linter.unusedSimpArgs false
set_option linter.unusedVariables false

/-- a zone: live blocks, size, time. -/
structure Zn where
  l : Int
  s : Int
  t : Int
def Zn.cells (z : Zn) : List Value := [.int .i64 z.l, .int .i64 z.s, .int .i64 z.t]
def zcells (zs : List Zn) : List Value := zs.flatMap Zn.cells
theorem zcells_len (zs : List Zn) : (zcells zs).length = zs.length * 3 := by
  unfold zcells
  induction zs with
  | nil => rfl
  | cons z zs ih => rw [List.flatMap_cons, List.length_append, ih]; simp [Zn.cells]; omega
theorem zcells_app (a b : List Zn) : zcells (a ++ b) = zcells a ++ zcells b := by unfold zcells; rw [List.flatMap_append]
theorem zcells_get {zs : List Zn} {k j : Nat} (hk : k < zs.length) (hj : j < 3) : (zcells zs)[k * 3 + j]? = zs[k].cells[j]? := by
  induction zs generalizing k with
  | nil => simp at hk
  | cons z zs ih =>
    unfold zcells at *
    rw [List.flatMap_cons]
    cases k with
    | zero => rw [List.getElem?_append_left (by simp [Zn.cells]; omega)]; simp
    | succ k =>
      rw [List.getElem?_append_right (by simp [Zn.cells]; omega)]
      have e : (k + 1) * 3 + j - z.cells.length = k * 3 + j := by simp [Zn.cells]; omega
      rw [e, ih (by simpa using hk)]
      simp
theorem zcells_take (zs : List Zn) (k : Nat) : (zcells zs).take (k * 3) = zcells (zs.take k) := by
  unfold zcells
  induction zs generalizing k with
  | nil => simp
  | cons z zs ih =>
    cases k with
    | zero => simp
    | succ k =>
      rw [List.flatMap_cons, List.take_succ_cons, List.flatMap_cons, List.take_append, ← ih k]
      have : (k + 1) * 3 - z.cells.length = k * 3 := by simp [Zn.cells]; omega
      rw [this]
      congr 1
      rw [List.take_of_length_le (by simp [Zn.cells]; omega)]
theorem zcells_drop (zs : List Zn) (k : Nat) : (zcells zs).drop (k * 3) = zcells (zs.drop k) := by
  unfold zcells
  induction zs generalizing k with
  | nil => simp
  | cons z zs ih =>
    cases k with
    | zero => simp
    | succ k =>
      rw [List.flatMap_cons, List.drop_succ_cons, List.drop_append, ← ih k]
      have : (k + 1) * 3 - z.cells.length = k * 3 := by simp [Zn.cells]; omega
      rw [this, List.drop_eq_nil_of_le (by simp [Zn.cells]; omega), List.nil_append]

/-- what a zone is worth: 0 where it may not be, or is not worth it. -/
def okZ (now : Int) (z : Zn) : Bool := mayZ z.l z.s z.t && decide (z.t ≤ now) && decide (now ≤ 1099511627776)
def wV (now : Int) (z : Zn) : Nat := if okZ now z = true ∧ z.s ≠ 0 then (if z.l = 0 then 9218868437227405312 else scoreV (useV z.l z.s) (now - z.t)) else 0
theorem okZ_yes {now : Int} {z : Zn} (h : okZ now z = true) : mayZ z.l z.s z.t = true ∧ z.t ≤ now ∧ now ≤ 1099511627776 := by
  unfold okZ at h; simp at h; exact ⟨h.1.1, h.1.2, h.2⟩
theorem score_lt {u a : Nat} (hu : u ≤ 4607182418800017408) (ha : a ≤ 1099511627776) : scoreV u (a : Int) < 9218868437227405312 := by
  obtain ⟨p, m, d, hs, hp, hm, hd, hp1, hm1, hd1, hd2, h⟩ := score_parts u a hu ha
  have hU := U1_big
  have hd0 : U1 ≤ un d := by rw [← un_one]; exact un_le hd1
  have : scoreV u (a : Int) ≤ m := isR_le (by omega) (by omega) (Nat.mul_le_mul_left _ hd0) h
  omega
theorem score_zero {u a : Nat} (hu : u ≤ 4607182418800017408) (ha : a ≤ 1099511627776) (h0 : u = 4607182418800017408 ∨ a = 0) : scoreV u (a : Int) = 0 := by
  obtain ⟨p, m, d, hs, hp, hm, hd, hp1, hm1, hd1, hd2, h⟩ := score_parts u a hu ha
  have hU := U1_big
  have hd0 : U1 ≤ un d := by rw [← un_one]; exact un_le hd1
  have hm0 : m = 0 := by
    refine isR_at (show 0 < U1 by omega) (by omega) ?_ hm
    rw [un_zero]
    rcases h0 with h0 | h0
    · have hp0 : p = 0 := isR_at (show 0 < 1 by omega) (by omega) (by rw [un_zero, h0, un_one]; omega) hp
      rw [hp0, un_zero]; simp
    · rw [h0]; simp
  have : scoreV u (a : Int) ≤ m := isR_le (by omega) (by omega) (Nat.mul_le_mul_left _ hd0) h
  omega
theorem live_facts {now : Int} {z : Zn} (h : okZ now z = true) (hs : z.s ≠ 0) : ∃ l s a : Nat, z.l = l ∧ z.s = s ∧ now - z.t = a ∧ l ≤ s ∧ 0 < s ∧ s ≤ 1073741824 ∧ a ≤ 1099511627776 := by
  obtain ⟨h1, h2, h3⟩ := okZ_yes h
  obtain ⟨m1, m2, m3, m4, m5⟩ := mayZ_yes h1
  obtain ⟨l, hl⟩ := Int.eq_ofNat_of_zero_le m1
  obtain ⟨s, hs'⟩ := Int.eq_ofNat_of_zero_le (show 0 ≤ z.s by omega)
  obtain ⟨a, ha⟩ := Int.eq_ofNat_of_zero_le (show 0 ≤ now - z.t by omega)
  exact ⟨l, s, a, hl, hs', ha, by omega, by omega, by omega, by omega⟩
theorem wV_le (now : Int) (z : Zn) : wV now z ≤ 9218868437227405312 := by
  unfold wV
  split
  · rename_i h
    split
    · omega
    · obtain ⟨l, s, a, hl, hs, ha, h1, h2, h3, h4⟩ := live_facts h.1 h.2
      rw [hl, hs, ha]
      exact score_small _ _ (useV_le_one h1 (by omega) h2) h4
  · omega
theorem wV_inf {now : Int} {z : Zn} : wV now z = 9218868437227405312 ↔ okZ now z = true ∧ z.s ≠ 0 ∧ z.l = 0 := by
  unfold wV
  split
  · rename_i h
    split
    · simp [*]
    · obtain ⟨l, s, a, hl, hs, ha, h1, h2, h3, h4⟩ := live_facts h.1 h.2
      have := score_lt (useV_le_one h1 (by omega) h2) h4
      rw [← hl, ← hs, ← ha] at this
      rename_i hn
      exact ⟨fun e => by omega, fun e => absurd e.2.2 hn⟩
  · rename_i h
    simp at h ⊢
    intro h1 h2
    exact absurd (h h1) h2
theorem wV_num {now : Int} {z : Zn} (h : wV now z ≠ 0) : okZ now z = true ∧ 1 ≤ z.s ∧ z.l < z.s ∧ (0 < z.l → z.t < now) := by
  have h0 := h
  unfold wV at h
  split at h
  · rename_i hh
    obtain ⟨l, s, a, hl, hs, ha, h1, h2, h3, h4⟩ := live_facts hh.1 hh.2
    refine ⟨hh.1, by omega, ?_, fun hp => ?_⟩
    · rcases Nat.lt_or_ge l s with g | g
      · omega
      · obtain rfl : l = s := by omega
        rw [if_neg (by omega), hl, hs, useV_one (by omega) h2, ha, score_zero (Nat.le_refl _) h4 (.inl rfl)] at h
        exact absurd rfl h
    · rcases Nat.eq_zero_or_pos a with g | g
      · rw [if_neg (by omega), hl, hs, ha, score_zero (useV_le_one h1 (by omega) h2) h4 (.inr g)] at h
        exact absurd rfl h
      · omega
  · exact absurd rfl h

/-- the zones that are worth it, and their order. -/
def gt0 (ws : List Nat) (i : Nat) : Nat := ws.getD i 0
def keepN (ws : List Nat) (n : Nat) : List Nat := (List.range n).filter fun i => gt0 ws i != 0
def leR (ws : List Nat) (i j : Nat) : Bool := decide (gt0 ws j < gt0 ws i ∨ (gt0 ws i = gt0 ws j ∧ i ≤ j))
def rankV (ws : List Nat) : List Nat := (keepN ws ws.length).mergeSort (leR ws)
theorem keepN_zero (ws : List Nat) : keepN ws 0 = [] := rfl
theorem keepN_yes {ws : List Nat} {n : Nat} (h : gt0 ws n ≠ 0) : keepN ws (n + 1) = keepN ws n ++ [n] := by
  unfold keepN; rw [List.range_succ, List.filter_append]; simp [h]
theorem keepN_no {ws : List Nat} {n : Nat} (h : gt0 ws n = 0) : keepN ws (n + 1) = keepN ws n := by
  unfold keepN; rw [List.range_succ, List.filter_append]; simp [h]
theorem mem_keepN {ws : List Nat} {n i : Nat} : i ∈ keepN ws n ↔ i < n ∧ gt0 ws i ≠ 0 := by unfold keepN; simp [List.mem_filter]
theorem keepN_nodup (ws : List Nat) (n : Nat) : (keepN ws n).Nodup := (List.nodup_range (n := n)).filter _
theorem keepN_le (ws : List Nat) (n : Nat) : (keepN ws n).length ≤ n := Nat.le_trans (List.length_filter_le ..) (by simp)
theorem leR_trans (ws : List Nat) (a b c : Nat) (h1 : leR ws a b = true) (h2 : leR ws b c = true) : leR ws a c = true := by unfold leR at *; simp at *; omega
theorem leR_total (ws : List Nat) (a b : Nat) : (leR ws a b || leR ws b a) = true := by unfold leR; simp; omega
theorem leR_anti {ws : List Nat} {a b : Nat} (h1 : leR ws a b = true) (h2 : leR ws b a = true) : a = b := by unfold leR at *; simp at *; omega
theorem rankV_perm (ws : List Nat) : (rankV ws).Perm (keepN ws ws.length) := List.mergeSort_perm _ _
theorem rankV_sorted (ws : List Nat) : (rankV ws).Pairwise fun a b => leR ws a b = true := List.pairwise_mergeSort (leR_trans ws) (leR_total ws) _
theorem rankV_one {ws m : List Nat} (hp : m.Perm (keepN ws ws.length)) (hs : m.Pairwise fun a b => leR ws a b = true) : m = rankV ws :=
  (hp.trans (rankV_perm ws).symm).eq_of_pairwise (le := fun a b => leR ws a b = true) (fun a b _ _ h1 h2 => leR_anti h1 h2) hs (rankV_sorted ws)
theorem mem_rankV {ws : List Nat} {i : Nat} : i ∈ rankV ws ↔ i < ws.length ∧ gt0 ws i ≠ 0 := by rw [(rankV_perm ws).mem_iff, mem_keepN]
theorem rankV_nodup (ws : List Nat) : (rankV ws).Nodup := (rankV_perm ws).nodup_iff.2 (keepN_nodup _ _)
theorem rankV_len (ws : List Nat) : (rankV ws).length ≤ ws.length := by rw [(rankV_perm ws).length_eq]; exact keepN_le _ _
/-- the closure's answer. -/
def orV (x y : Int) : Int := if x = 0 then y else x
def cR (ws : List Nat) (i j : Nat) : Int := orV (cmpN (keyV (gt0 ws j)) (keyV (gt0 ws i))) (cmpN i j)
theorem keyV_small {x : Nat} (h : x ≤ 9218868437227405312) : keyV x = 9223372036854775808 + x := by
  unfold keyV
  have h1 : rg x = x := rg_small h
  rw [cn_num (by rw [h1]; exact h), key_low (show x < 18446744073709551616 by omega) (ng_small h), h1]
theorem gt0_le {ws : List Nat} (h : ∀ x ∈ ws, x ≤ 9218868437227405312) (i : Nat) : gt0 ws i ≤ 9218868437227405312 := by
  unfold gt0
  rw [List.getD_eq_getElem?_getD]
  rcases Nat.lt_or_ge i ws.length with g | g
  · rw [List.getElem?_eq_getElem g]; exact h _ (List.getElem_mem _)
  · rw [List.getElem?_eq_none g]; simp
theorem cR_neg {ws : List Nat} (h : ∀ x ∈ ws, x ≤ 9218868437227405312) (i j : Nat) : cR ws i j < 0 ↔ gt0 ws j < gt0 ws i ∨ (gt0 ws i = gt0 ws j ∧ i < j) := by
  unfold cR
  rw [keyV_small (gt0_le h i), keyV_small (gt0_le h j)]
  unfold orV cmpN
  repeat' split
  all_goals omega
theorem lt_cR {ws : List Nat} (h : ∀ x ∈ ws, x ≤ 9218868437227405312) {n : Nat} (x y : Fin n) : ltOf (fun x y : Fin n => cR ws x.1 y.1) x y = decide (gt0 ws y.1 < gt0 ws x.1 ∨ (gt0 ws x.1 = gt0 ws y.1 ∧ x.1 < y.1)) := by
  unfold ltOf
  exact decide_eq_decide.2 (cR_neg h _ _)
theorem swoR {ws : List Nat} (h : ∀ x ∈ ws, x ≤ 9218868437227405312) (n : Nat) : SWO (ltOf fun x y : Fin n => cR ws x.1 y.1) where
  irrefl x := by rw [lt_cR h]; simp
  trans x y z h1 h2 := by rw [lt_cR h] at *; simp at *; omega
  ntrans x y z h1 h2 := by rw [lt_cR h] at *; simp at *; omega
theorem totR {ws : List Nat} (h : ∀ x ∈ ws, x ≤ 9218868437227405312) {n : Nat} (x y : Fin n) (h1 : ltOf (fun x y : Fin n => cR ws x.1 y.1) x y = false) (h2 : ltOf (fun x y : Fin n => cR ws x.1 y.1) y x = false) : x = y := by
  rw [lt_cR h] at *
  simp at h1 h2
  exact Fin.ext (by omega)
theorem sort_fins {ws : List Nat} (h : ∀ x ∈ ws, x ≤ 9218868437227405312) {n : Nat} (l : List (Fin n)) : ((l.mergeSort fun x y => !ltOf (fun x y : Fin n => cR ws x.1 y.1) y x).map fun x => x.1) = (l.map fun x => x.1).mergeSort (leR ws) := by
  rw [List.map_mergeSort (s := leR ws) (fun a _ b _ => ?_)]
  rw [lt_cR h]
  unfold leR
  by_cases hc : gt0 ws b.1 < gt0 ws a.1 ∨ (gt0 ws a.1 = gt0 ws b.1 ∧ a.1 ≤ b.1)
  · rw [decide_eq_true hc]; simp; omega
  · rw [decide_eq_false hc]; simp; omega
/-- one more zone that is worth nothing. -/
def sh (k i : Nat) : Nat := if k ≤ i then i + 1 else i
theorem gt0_ins {ws : List Nat} {k : Nat} (hk : k ≤ ws.length) (i : Nat) : gt0 (ws.take k ++ 0 :: ws.drop k) (sh k i) = gt0 ws i := by
  unfold gt0 sh
  rw [List.getD_eq_getElem?_getD, List.getD_eq_getElem?_getD]
  congr 1
  by_cases h : k ≤ i
  · rw [if_pos h, List.getElem?_append_right (by simp; omega), List.length_take, show i + 1 - min k ws.length = (i - k) + 1 by omega, List.getElem?_cons_succ, List.getElem?_drop, show k + (i - k) = i by omega]
  · rw [if_neg h, List.getElem?_append_left (by simp; omega), List.getElem?_take, if_pos (by omega)]
theorem gt0_new {ws : List Nat} {k : Nat} (hk : k ≤ ws.length) : gt0 (ws.take k ++ 0 :: ws.drop k) k = 0 := by
  unfold gt0
  rw [List.getD_eq_getElem?_getD, List.getElem?_append_right (by simp; omega), List.length_take, show k - min k ws.length = 0 by omega]
  rfl
theorem sh_lt {k i j : Nat} : sh k i ≤ sh k j ↔ i ≤ j := by unfold sh; split <;> split <;> omega
theorem rankV_ins {ws : List Nat} {k : Nat} (hk : k ≤ ws.length) : rankV (ws.take k ++ 0 :: ws.drop k) = (rankV ws).map (sh k) := by
  symm
  refine rankV_one ?_ ?_
  · refine (List.perm_ext_iff_of_nodup ?_ (keepN_nodup _ _)).2 fun i => ?_
    · refine List.Pairwise.map (sh k) (fun a b (h : a ≠ b) (e : sh k a = sh k b) => h ?_) (rankV_nodup ws)
      have h1 := (sh_lt (k := k) (i := a) (j := b)).1 (by omega)
      have h2 := (sh_lt (k := k) (i := b) (j := a)).1 (by omega)
      omega
    · rw [mem_keepN, List.mem_map]
      have hl : (ws.take k ++ 0 :: ws.drop k).length = ws.length + 1 := by simp; omega
      rw [hl]
      constructor
      · rintro ⟨j, hj, rfl⟩
        rw [mem_rankV] at hj
        rw [gt0_ins hk]
        exact ⟨by unfold sh; split <;> omega, hj.2⟩
      · rintro ⟨h1, h2⟩
        have hne : i ≠ k := fun e => by rw [e, gt0_new hk] at h2; exact h2 rfl
        refine ⟨if k < i then i - 1 else i, ?_, ?_⟩
        · rw [mem_rankV]
          have e : sh k (if k < i then i - 1 else i) = i := by unfold sh; split <;> split <;> omega
          rw [← gt0_ins hk, e]
          refine ⟨?_, h2⟩
          split <;> omega
        · unfold sh; split <;> split <;> omega
  · rw [List.pairwise_map]
    refine (rankV_sorted ws).imp fun {a b} h => ?_
    unfold leR at *
    rw [gt0_ins hk, gt0_ins hk]
    simp only [sh_lt]
    exact h
end Go.Proofs.Ytchhnjadnacniaa.Rk
