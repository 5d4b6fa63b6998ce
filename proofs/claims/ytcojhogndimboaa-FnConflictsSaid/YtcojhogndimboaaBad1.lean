/- BadRectangle: the plain law. -/
import Derived.Test.YtcojhogndimboaaConflict
import Derived.Test.YtcojhogndimboaaMasked
namespace Go.Proofs.Ytcojhogndimboaa
open Go.RowKit Tomo

/-- the numbers below j whose bits are set -/
def bitsL (a j : Nat) : List Int := ((List.range j).filter fun i => a / 2 ^ i % 2 == 1).map fun i : Nat => (i : Int)
theorem bitsL_succ (a j : Nat) : bitsL a (j + 1) = bitsL a j ++ (if a / 2 ^ j % 2 = 1 then [(j : Int)] else []) := by
  unfold bitsL
  rw [List.range_succ, List.filter_append, List.map_append]
  by_cases h : a / 2 ^ j % 2 = 1 <;> simp [h]
theorem bitsL_len (a j : Nat) : (bitsL a j).length ≤ j := by
  unfold bitsL
  rw [List.length_map]
  exact Nat.le_trans (List.length_filter_le _ _) (by rw [List.length_range]; exact Nat.le_refl _)
theorem bitsL_rising : ∀ n, n < 6 → ∀ a, a < 32 → a < 2 ^ n → rising (bitsL a n) n = true := by decide +kernel
theorem bitsL_stop_all : ((List.range 6).all fun n => (List.range 6).all fun i => (List.range 32).all fun a => !decide (a < 2 ^ n) || !decide (a / 2 ^ i = 0) || decide (bitsL a i = bitsL a n)) = true := by decide +kernel
theorem bitsL_stop {n i a : Nat} (hn : n < 6) (hi : i < 6) (ha : a < 32) (h1 : a < 2 ^ n) (h2 : a / 2 ^ i = 0) : bitsL a i = bitsL a n := by
  have h := (List.all_eq_true.1 ((List.all_eq_true.1 ((List.all_eq_true.1 bitsL_stop_all) n (List.mem_range.2 hn))) i (List.mem_range.2 hi))) a (List.mem_range.2 ha)
  rw [decide_eq_true h1, decide_eq_true h2] at h
  simpa using h
/-- the first place of a square at which something holds, row by row -/
def badB (cf : Nat → Nat → Bool) (M a : Nat) : Nat → Option (Nat × Nat)
  | 0 => none
  | t + 1 => if cf a (M - (t + 1)) = true then some (a, M - (t + 1)) else badB cf M a t
def badA (cf : Nat → Nat → Bool) (N M : Nat) : Nat → Option (Nat × Nat)
  | 0 => none
  | t + 1 => match badB cf M (N - (t + 1)) M with
    | some x => some x
    | none => badA cf N M t
theorem badB_hit {cf : Nat → Nat → Bool} {M a b : Nat} (hb : b < M) (h : cf a b = true) : badB cf M a (M - b) = some (a, b) := by
  obtain ⟨t, ht⟩ : ∃ t, M - b = t + 1 := ⟨M - b - 1, by omega⟩
  have e : M - (t + 1) = b := by omega
  rw [ht, badB, e, if_pos h]
theorem badB_skip {cf : Nat → Nat → Bool} {M a b : Nat} (hb : b < M) (h : cf a b = false) : badB cf M a (M - b) = badB cf M a (M - (b + 1)) := by
  obtain ⟨t, ht⟩ : ∃ t, M - b = t + 1 := ⟨M - b - 1, by omega⟩
  have e : M - (t + 1) = b := by omega
  have e2 : M - (b + 1) = t := by omega
  rw [ht, badB, e, if_neg (by rw [h]; simp), e2]
theorem badA_hit {cf : Nat → Nat → Bool} {N M a : Nat} {x : Nat × Nat} (ha : a < N) (h : badB cf M a M = some x) : badA cf N M (N - a) = some x := by
  obtain ⟨t, ht⟩ : ∃ t, N - a = t + 1 := ⟨N - a - 1, by omega⟩
  have e : N - (t + 1) = a := by omega
  rw [ht, badA, e, h]
theorem badA_skip {cf : Nat → Nat → Bool} {N M a : Nat} (ha : a < N) (h : badB cf M a M = none) : badA cf N M (N - a) = badA cf N M (N - (a + 1)) := by
  obtain ⟨t, ht⟩ : ∃ t, N - a = t + 1 := ⟨N - a - 1, by omega⟩
  have e : N - (t + 1) = a := by omega
  have e2 : N - (a + 1) = t := by omega
  rw [ht, badA, e, h, e2]
def badCf (mask : Grid) (rows cols : List Int) (a b : Nat) : Bool := conflictB mask rows cols (bitsL a rows.length) (bitsL b cols.length)
noncomputable def badI (mask : Grid) (rows cols : List Int) : Option (Nat × Nat) :=
  if maskedCount mask rows cols = 0 then badA (badCf mask rows cols) (2 ^ rows.length) (2 ^ cols.length) (2 ^ rows.length) else none
noncomputable def badP (mask : Grid) (rows cols : List Int) : List Int := match badI mask rows cols with | some x => bitsL x.1 rows.length | none => []
noncomputable def badQ (mask : Grid) (rows cols : List Int) : List Int := match badI mask rows cols with | some x => bitsL x.2 cols.length | none => []
theorem masked_ok {mask : Grid} {rows cols : List Int} (h : maskedCount mask rows cols = 0) : maskOk mask rows cols = true := by
  unfold maskedCount at h
  split at h
  · rename_i h2; exact h2
  · cases h
theorem pow_le5 {n : Nat} (h : n ≤ 5) : 2 ^ n ≤ 32 := Nat.pow_le_pow_right (n := 2) (by omega) h
theorem masked_small {mask : Grid} {rows cols : List Int} (h : maskOk mask rows cols = true) : (1 ≤ rows.length ∧ rows.length ≤ 5) ∧ (1 ≤ cols.length ∧ cols.length ≤ 5) := by
  simp only [maskOk, Bool.and_eq_true] at h
  obtain ⟨a1, a2, a3, a4, _⟩ := sumsOk_parts h.1
  exact ⟨⟨a1, a2⟩, a3, a4⟩
theorem badCf_has {mask : Grid} {rows cols : List Int} (h : maskOk mask rows cols = true) {a b : Nat} (ha : a < 2 ^ rows.length) (hb : b < 2 ^ cols.length) :
    rising (bitsL a rows.length) rows.length = true ∧ rising (bitsL b cols.length) cols.length = true ∧ hasConflict mask rows cols (bitsL a rows.length) (bitsL b cols.length) = badCf mask rows cols a b := by
  obtain ⟨⟨_, h2⟩, _, h4⟩ := masked_small h
  have e1 := bitsL_rising rows.length (by omega) a (Nat.lt_of_lt_of_le ha (pow_le5 h2)) ha
  have e2 := bitsL_rising cols.length (by omega) b (Nat.lt_of_lt_of_le hb (pow_le5 h4)) hb
  refine ⟨e1, e2, ?_⟩
  unfold hasConflict badCf
  rw [h, e1, e2]; simp
theorem bad_small (mask : Grid) (rows cols : List Int) : (badP mask rows cols).length ≤ 1048576 ∧ (badQ mask rows cols).length ≤ 1048576 := by
  unfold badP badQ
  cases h : badI mask rows cols with
  | none => simp
  | some x =>
    unfold badI at h
    split at h
    · rename_i h0
      obtain ⟨⟨_, h2⟩, _, h4⟩ := masked_small (masked_ok h0)
      have := bitsL_len x.1 rows.length
      have := bitsL_len x.2 cols.length
      show (bitsL x.1 rows.length).length ≤ 1048576 ∧ (bitsL x.2 cols.length).length ≤ 1048576
      omega
    · cases h
end Go.Proofs.Ytcojhogndimboaa
