/- The interval of black cells of a row: the two ways of finding it agree; both functions. -/
import Derived.Test.YtiekgdgonleoaaaReA
namespace Go.Proofs.Ytiekgdgonleoaaa
open Go.RowKit

/-- the interval of a row, found from left to right -/
def ivSpec : List Int → Int → Int → Int → Int × Int × Bool
  | [], _, first, count => (max first 0, count, true)
  | x :: xs, i, first, count =>
    if x ≠ 0 ∧ x ≠ 1 then (0, 0, false)
    else if x = 1 then
      (if i ≠ (if first < 0 then i else first) + count then (0, 0, false) else ivSpec xs (i + 1) (if first < 0 then i else first) (count + 1))
    else ivSpec xs (i + 1) first count
/-- the interval of a row, found by sums -/
def ivImpl (row : List Int) : Int × Int × Bool :=
  if allIn row 0 1 then
    if ((row.drop (max 0 (indexOf row 1)).toNat).take row.sum.toNat).sum ≠ row.sum then (0, 0, false) else (max 0 (indexOf row 1), row.sum, true)
  else (0, 0, false)

theorem bits_sumI {l : List Int} (h : allIn l 0 1 = true) : 0 ≤ l.sum ∧ l.sum ≤ l.length ∧ (l.sum = 0 ↔ l.all (· == 0) = true) := by
  induction l with
  | nil => simp
  | cons x l ih =>
    simp only [allIn, List.all_cons, Bool.and_eq_true] at h
    have h1 := inR_iff.1 h.1
    obtain ⟨h2, h3, h4⟩ := ih h.2
    rw [List.sum_cons, List.length_cons]
    refine ⟨by omega, by omega, ?_⟩
    simp only [List.all_cons, Bool.and_eq_true, beq_iff_eq]
    rw [← h4]; omega

theorem allIn_cons (x : Int) (l : List Int) : allIn (x :: l) 0 1 = (inR x 0 1 && allIn l 0 1) := rfl
theorem not_bit {x : Int} (h : x ≠ 0 ∧ x ≠ 1) : inR x 0 1 = false := by
  rw [Bool.eq_false_iff]; intro h2; have := inR_iff.1 h2; omega
theorem take_le_sum {l : List Int} (h : allIn l 0 1 = true) (k : Nat) : (l.take k).sum ≤ k := by
  induction l generalizing k with
  | nil => simp
  | cons x l ih =>
    cases k with
    | zero => simp
    | succ k =>
      rw [allIn_cons, Bool.and_eq_true] at h
      have := inR_iff.1 h.1
      have := ih h.2 k
      rw [List.take_succ_cons, List.sum_cons]; omega

theorem iv_c (t : List Int) : ∀ i first count : Int, 0 ≤ first → first + count < i → ivSpec t i first count = if t.all (· == 0) then (first, count, true) else (0, 0, false) := by
  induction t with
  | nil => intro i first count h1 _; simp only [ivSpec, List.all_nil, if_true]; rw [show max first 0 = first from by omega]
  | cons x t ih =>
    intro i first count h1 h2
    have hf : ¬ first < 0 := by omega
    simp only [ivSpec, hf, if_false, List.all_cons]
    by_cases h0 : x = 0
    · subst h0; simp only [ne_eq, not_true_eq_false, false_and, if_false, Int.zero_ne_one]; rw [ih _ _ _ h1 (by omega)]; simp
    · by_cases h3 : x = 1
      · subst h3
        have : i ≠ first + count := by omega
        simp [this]
      · simp [h0, h3]

theorem iv_b (t : List Int) : ∀ first count : Int, 0 ≤ first → ivSpec t (first + count) first count =
    if allIn t 0 1 = true ∧ (t.take t.sum.toNat).sum = t.sum then (first, count + t.sum, true) else (0, 0, false) := by
  induction t with
  | nil => intro first count h1; simp only [ivSpec]; rw [show max first 0 = first from by omega]; simp [allIn]
  | cons x t ih =>
    intro first count h1
    have hf : ¬ first < 0 := by omega
    simp only [ivSpec, hf, if_false, ne_eq, not_true_eq_false]
    by_cases h0 : x = 0
    · subst h0
      simp only [not_true_eq_false, false_and, if_false, Int.zero_ne_one]
      rw [iv_c t _ _ _ h1 (by omega), allIn_cons]
      have e : inR 0 0 1 = true := by decide
      rw [e, Bool.true_and, List.sum_cons, Int.zero_add]
      by_cases ha : allIn t 0 1 = true
      · obtain ⟨b1, b2, b3⟩ := bits_sumI ha
        by_cases hz : t.all (· == 0) = true
        · rw [if_pos hz, b3.2 hz]; simp [ha]
        · rw [if_neg hz]
          have hpos : 0 < t.sum := by
            rcases Int.lt_or_le 0 t.sum with h | h
            · exact h
            · exact absurd (b3.1 (by omega)) hz
          obtain ⟨k, hk⟩ : ∃ k : Nat, t.sum.toNat = k + 1 := ⟨t.sum.toNat - 1, by omega⟩
          rw [hk, List.take_succ_cons, List.sum_cons]
          have := take_le_sum ha k
          rw [if_neg]
          rintro ⟨_, h⟩
          omega
      · have hz : ¬ t.all (· == 0) = true := by
          intro hz
          apply ha
          simp only [allIn, List.all_eq_true, beq_iff_eq] at hz ⊢
          intro x hx; rw [hz x hx]; decide
        rw [if_neg hz, if_neg (fun h => ha h.1)]
    · by_cases h3 : x = 1
      · subst h3
        have hstep := ih first (count + 1) h1
        rw [← Int.add_assoc] at hstep
        simp only [Int.one_ne_zero, not_false_eq_true, not_true_eq_false, and_false, if_false, if_true]
        rw [hstep, allIn_cons]
        have e : inR 1 0 1 = true := by decide
        rw [e, Bool.true_and, List.sum_cons]
        by_cases ha : allIn t 0 1 = true
        · obtain ⟨b1, _, _⟩ := bits_sumI ha
          have hk : (1 + t.sum).toNat = t.sum.toNat + 1 := by omega
          rw [hk, List.take_succ_cons, List.sum_cons]
          by_cases hs : (t.take t.sum.toNat).sum = t.sum
          · rw [if_pos ⟨ha, hs⟩, if_pos ⟨ha, by omega⟩, Int.add_assoc]
          · rw [if_neg (fun h => hs h.2), if_neg (fun h => hs (by omega))]
        · rw [if_neg (fun h => ha h.1), if_neg (fun h => ha h.1)]
      · rw [allIn_cons, not_bit ⟨h0, h3⟩]
        simp [h0, h3]

theorem iv_a (t : List Int) : ∀ i : Int, 0 ≤ i → ivSpec t i (-1) 0 =
    if allIn t 0 1 = true then (match t.findIdx? (· == 1) with
      | none => (0, 0, true)
      | some f => if ((t.drop f).take t.sum.toNat).sum = t.sum then (i + f, t.sum, true) else (0, 0, false)) else (0, 0, false) := by
  induction t with
  | nil => intro i _; simp [ivSpec, allIn]; omega
  | cons x t ih =>
    intro i hi
    have hf : (-1 : Int) < 0 := by decide
    simp only [ivSpec, hf, if_true, Int.add_zero, ne_eq, not_true_eq_false, if_false]
    by_cases h0 : x = 0
    · subst h0
      simp only [not_true_eq_false, false_and, if_false, Int.zero_ne_one]
      rw [ih _ (by omega), allIn_cons]
      have e : inR 0 0 1 = true := by decide
      rw [e, Bool.true_and, List.sum_cons, Int.zero_add, List.findIdx?_cons]
      have e0 : ((0 : Int) == 1) = false := by decide
      simp only [e0, Bool.false_eq_true, if_false]
      cases h : t.findIdx? (· == 1) with
      | none => simp
      | some f =>
        simp only [Option.map_some, List.drop_succ_cons]
        rw [show i + 1 + (f : Int) = i + ((f + 1 : Nat) : Int) from by omega]
    · by_cases h3 : x = 1
      · subst h3
        simp only [Int.one_ne_zero, not_false_eq_true, not_true_eq_false, and_false, if_false, if_true]
        have hb := iv_b t i 1 hi
        rw [show (0 : Int) + 1 = 1 from rfl, hb, allIn_cons]
        have e : inR 1 0 1 = true := by decide
        rw [e, Bool.true_and, List.sum_cons, List.findIdx?_cons]
        simp only [BEq.rfl, if_true, List.drop_zero]
        by_cases ha : allIn t 0 1 = true
        · obtain ⟨b1, _, _⟩ := bits_sumI ha
          have hk : (1 + t.sum).toNat = t.sum.toNat + 1 := by omega
          rw [if_pos ha, hk, List.take_succ_cons, List.sum_cons]
          by_cases hs : (t.take t.sum.toNat).sum = t.sum
          · rw [if_pos ⟨ha, hs⟩, if_pos (by omega)]; simp
          · rw [if_neg (fun h => hs h.2), if_neg (by omega)]
        · rw [if_neg (fun h => ha h.1), if_neg ha]
      · rw [allIn_cons, not_bit ⟨h0, h3⟩]
        simp [h0, h3]

theorem iv_eq (row : List Int) : ivSpec row 0 (-1) 0 = ivImpl row := by
  rw [iv_a row 0 (Int.le_refl _)]
  unfold ivImpl
  by_cases ha : allIn row 0 1 = true
  · rw [if_pos ha, if_pos ha]
    unfold indexOf
    cases h : row.findIdx? (· == 1) with
    | none =>
      have hz : row.sum = 0 := by
        rw [(bits_sumI ha).2.2, List.all_eq_true]
        intro x hx
        rw [List.findIdx?_eq_none_iff] at h
        have h1 := h x hx
        have h2 := inR_iff.1 ((List.all_eq_true.1 ha) x hx)
        have h3 : x ≠ 1 := by simpa using h1
        have : x = 0 := by omega
        simp [this]
      simp only [hz]
      simp
      omega
    | some f =>
      simp only
      rw [show max 0 (f : Int) = f from by omega, Int.toNat_natCast]
      by_cases hs : ((row.drop f).take row.sum.toNat).sum = row.sum
      · simp [hs]
      · simp [hs]
  · rw [if_neg ha, if_neg ha]

theorem ivSpec_succ {xs : List Int} {k : Nat} {x : Int} (h : xs[k]? = some x) (i f c : Int) : ivSpec (xs.drop k) i f c =
    if x ≠ 0 ∧ x ≠ 1 then (0, 0, false)
    else if x = 1 then
      (if i ≠ (if f < 0 then i else f) + c then (0, 0, false) else ivSpec (xs.drop (k + 1)) (i + 1) (if f < 0 then i else f) (c + 1))
    else ivSpec (xs.drop (k + 1)) (i + 1) f c := by
  have hk : k < xs.length := by
    rcases Nat.lt_or_ge k xs.length with h1 | h1
    · exact h1
    · rw [List.getElem?_eq_none h1] at h; cases h
  rw [List.drop_eq_getElem_cons hk]
  rw [List.getElem?_eq_getElem hk] at h
  injection h with h
  rw [h]
  rfl

def ret3 (r : Int × Int × Bool) : Ending := .returned (.tuple #[.int .i64 r.1, .int .i64 r.2.1, .bool r.2.2])


theorem Ints.cut {w : World} {A : Option Addr} {xs : List Int} (h : Ints w A xs) (f n : Nat) : Ints w (A.map fun a => a.add (f * 1)) ((xs.drop f).take n) := fun k x hk => by
  rw [List.getElem?_take] at hk
  by_cases hn : k < n
  · rw [if_pos hn, List.getElem?_drop] at hk
    obtain ⟨b, o, rfl, h2, h3⟩ := h (f + k) x hk
    refine ⟨b, o + f, ?_, h2, by rw [Nat.add_assoc]; exact h3⟩
    by_cases e : f = 0
    · subst e; rfl
    · simp [Addr.add, e]
  · rw [if_neg hn] at hk; cases hk

end Go.Proofs.Ytiekgdgonleoaaa
