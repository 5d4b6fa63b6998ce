/- The interval of black cells of a row: the two ways of finding it agree; both functions. -/
import Derived.Test.YtlhjbpachpjpkaaReA
namespace Go.Proofs.Ytlhjbpachpjpkaa
open Go.RowKit

/-- the interval of a row, found from left to right -/
def ivSpec : List Int → Int → Int → Int → Int × Int × Bool
  | [], _, first, count => (max first 0, count, true)
  | x :: xs, i, first, count =>
    if x ≠ 0 ∧ x ≠ 1 then (0, 0, false)
    else if x = 1 then
      (if i ≠ (if first < 0 then i else first) + count then (0, 0, false) else ivSpec xs (i + 1) (if first < 0 then i else first) (count + 1))
    else ivSpec xs (i + 1) first count
/-- the interval of a row, found by sums -/
def ivImpl (row : List Int) : Int × Int × Bool :=
  if allIn row 0 1 then
    if ((row.drop (max 0 (indexOf row 1)).toNat).take row.sum.toNat).sum ≠ row.sum then (0, 0, false) else (max 0 (indexOf row 1), row.sum, true)
  else (0, 0, false)

theorem bits_sumI {l : List Int} (h : allIn l 0 1 = true) : 0 ≤ l.sum ∧ l.sum ≤ l.length ∧ (l.sum = 0 ↔ l.all (· == 0) = true) := by
  induction l with
  | nil => simp
  | cons x l ih =>
    simp only [allIn, List.all_cons, Bool.and_eq_true] at h
    have h1 := inR_iff.1 h.1
    obtain ⟨h2, h3, h4⟩ := ih h.2
    rw [List.sum_cons, List.length_cons]
    refine ⟨by omega, by omega, ?_⟩
    simp only [List.all_cons, Bool.and_eq_true, beq_iff_eq]
    rw [← h4]; omega

theorem allIn_cons (x : Int) (l : List Int) : allIn (x :: l) 0 1 = (inR x 0 1 && allIn l 0 1) := rfl
theorem not_bit {x : Int} (h : x ≠ 0 ∧ x ≠ 1) : inR x 0 1 = false := by
  rw [Bool.eq_false_iff]; intro h2; have := inR_iff.1 h2; omega
theorem take_le_sum {l : List Int} (h : allIn l 0 1 = true) (k : Nat) : (l.take k).sum ≤ k := by
  induction l generalizing k with
  | nil => simp
  | cons x l ih =>
    cases k with
    | zero => simp
    | succ k =>
      rw [allIn_cons, Bool.and_eq_true] at h
      have := inR_iff.1 h.1
      have := ih h.2 k
      rw [List.take_succ_cons, List.sum_cons]; omega

theorem iv_c (t : List Int) : ∀ i first count : Int, 0 ≤ first → first + count < i → ivSpec t i first count = if t.all (· == 0) then (first, count, true) else (0, 0, false) := by
  induction t with
  | nil => intro i first count h1 _; simp only [ivSpec, List.all_nil, if_true]; rw [show max first 0 = first from by omega]
  | cons x t ih =>
    intro i first count h1 h2
    have hf : ¬ first < 0 := by omega
    simp only [ivSpec, hf, if_false, List.all_cons]
    by_cases h0 : x = 0
    · subst h0; simp only [ne_eq, not_true_eq_false, false_and, if_false, Int.zero_ne_one]; rw [ih _ _ _ h1 (by omega)]; simp
    · by_cases h3 : x = 1
      · subst h3
        have : i ≠ first + count := by omega
        simp [this]
      · simp [h0, h3]

theorem iv_b (t : List Int) : ∀ first count : Int, 0 ≤ first → ivSpec t (first + count) first count =
    if allIn t 0 1 = true ∧ (t.take t.sum.toNat).sum = t.sum then (first, count + t.sum, true) else (0, 0, false) := by
  induction t with
  | nil => intro first count h1; simp only [ivSpec]; rw [show max first 0 = first from by omega]; simp [allIn]
  | cons x t ih =>
    intro first count h1
    have hf : ¬ first < 0 := by omega
    simp only [ivSpec, hf, if_false, ne_eq, not_true_eq_false]
    by_cases h0 : x = 0
    · subst h0
      simp only [not_true_eq_false, false_and, if_false, Int.zero_ne_one]
      rw [iv_c t _ _ _ h1 (by omega), allIn_cons]
      have e : inR 0 0 1 = true := by decide
      rw [e, Bool.true_and, List.sum_cons, Int.zero_add]
      by_cases ha : allIn t 0 1 = true
      · obtain ⟨b1, b2, b3⟩ := bits_sumI ha
        by_cases hz : t.all (· == 0) = true
        · rw [if_pos hz, b3.2 hz]; simp [ha]
        · rw [if_neg hz]
          have hpos : 0 < t.sum := by
            rcases Int.lt_or_le 0 t.sum with h | h
            · exact h
            · exact absurd (b3.1 (by omega)) hz
          obtain ⟨k, hk⟩ : ∃ k : Nat, t.sum.toNat = k + 1 := ⟨t.sum.toNat - 1, by omega⟩
          rw [hk, List.take_succ_cons, List.sum_cons]
          have := take_le_sum ha k
          rw [if_neg]
          rintro ⟨_, h⟩
          omega
      · have hz : ¬ t.all (· == 0) = true := by
          intro hz
          apply ha
          simp only [allIn, List.all_eq_true, beq_iff_eq] at hz ⊢
          intro x hx; rw [hz x hx]; decide
        rw [if_neg hz, if_neg (fun h => ha h.1)]
    · by_cases h3 : x = 1
      · subst h3
        have hstep := ih first (count + 1) h1
        rw [← Int.add_assoc] at hstep
        simp only [Int.one_ne_zero, not_false_eq_true, not_true_eq_false, and_false, if_false, if_true]
        rw [hstep, allIn_cons]
        have e : inR 1 0 1 = true := by decide
        rw [e, Bool.true_and, List.sum_cons]
        by_cases ha : allIn t 0 1 = true
        · obtain ⟨b1, _, _⟩ := bits_sumI ha
          have hk : (1 + t.sum).toNat = t.sum.toNat + 1 := by omega
          rw [hk, List.take_succ_cons, List.sum_cons]
          by_cases hs : (t.take t.sum.toNat).sum = t.sum
          · rw [if_pos ⟨ha, hs⟩, if_pos ⟨ha, by omega⟩, Int.add_assoc]
          · rw [if_neg (fun h => hs h.2), if_neg (fun h => hs (by omega))]
        · rw [if_neg (fun h => ha h.1), if_neg (fun h => ha h.1)]
      · rw [allIn_cons, not_bit ⟨h0, h3⟩]
        simp [h0, h3]

theorem iv_a (t : List Int) : ∀ i : Int, 0 ≤ i → ivSpec t i (-1) 0 =
    if allIn t 0 1 = true then (match t.findIdx? (· == 1) with
      | none => (0, 0, true)
      | some f => if ((t.drop f).take t.sum.toNat).sum = t.sum then (i + f, t.sum, true) else (0, 0, false)) else (0, 0, false) := by
  induction t with
  | nil => intro i _; simp [ivSpec, allIn]; omega
  | cons x t ih =>
    intro i hi
    have hf : (-1 : Int) < 0 := by decide
    simp only [ivSpec, hf, if_true, Int.add_zero, ne_eq, not_true_eq_false, if_false]
    by_cases h0 : x = 0
    · subst h0
      simp only [not_true_eq_false, false_and, if_false, Int.zero_ne_one]
      rw [ih _ (by omega), allIn_cons]
      have e : inR 0 0 1 = true := by decide
      rw [e, Bool.true_and, List.sum_cons, Int.zero_add, List.findIdx?_cons]
      have e0 : ((0 : Int) == 1) = false := by decide
      simp only [e0, Bool.false_eq_true, if_false]
      cases h : t.findIdx? (· == 1) with
      | none => simp
      | some f =>
        simp only [Option.map_some, List.drop_succ_cons]
        rw [show i + 1 + (f : Int) = i + ((f + 1 : Nat) : Int) from by omega]
    · by_cases h3 : x = 1
      · subst h3
        simp only [Int.one_ne_zero, not_false_eq_true, not_true_eq_false, and_false, if_false, if_true]
        have hb := iv_b t i 1 hi
        rw [show (0 : Int) + 1 = 1 from rfl, hb, allIn_cons]
        have e : inR 1 0 1 = true := by decide
        rw [e, Bool.true_and, List.sum_cons, List.findIdx?_cons]
        simp only [BEq.rfl, if_true, List.drop_zero]
        by_cases ha : allIn t 0 1 = true
        · obtain ⟨b1, _, _⟩ := bits_sumI ha
          have hk : (1 + t.sum).toNat = t.sum.toNat + 1 := by omega
          rw [if_pos ha, hk, List.take_succ_cons, List.sum_cons]
          by_cases hs : (t.take t.sum.toNat).sum = t.sum
          · rw [if_pos ⟨ha, hs⟩, if_pos (by omega)]; simp
          · rw [if_neg (fun h => hs h.2), if_neg (by omega)]
        · rw [if_neg (fun h => ha h.1), if_neg ha]
      · rw [allIn_cons, not_bit ⟨h0, h3⟩]
        simp [h0, h3]

theorem iv_eq (row : List Int) : ivSpec row 0 (-1) 0 = ivImpl row := by
  rw [iv_a row 0 (Int.le_refl _)]
  unfold ivImpl
  by_cases ha : allIn row 0 1 = true
  · rw [if_pos ha, if_pos ha]
    unfold indexOf
    cases h : row.findIdx? (· == 1) with
    | none =>
      have hz : row.sum = 0 := by
        rw [(bits_sumI ha).2.2, List.all_eq_true]
        intro x hx
        rw [List.findIdx?_eq_none_iff] at h
        have h1 := h x hx
        have h2 := inR_iff.1 ((List.all_eq_true.1 ha) x hx)
        have h3 : x ≠ 1 := by simpa using h1
        have : x = 0 := by omega
        simp [this]
      simp only [hz]
      simp
      omega
    | some f =>
      simp only
      rw [show max 0 (f : Int) = f from by omega, Int.toNat_natCast]
      by_cases hs : ((row.drop f).take row.sum.toNat).sum = row.sum
      · simp [hs]
      · simp [hs]
  · rw [if_neg ha, if_neg ha]

theorem ivSpec_succ {xs : List Int} {k : Nat} {x : Int} (h : xs[k]? = some x) (i f c : Int) : ivSpec (xs.drop k) i f c =
    if x ≠ 0 ∧ x ≠ 1 then (0, 0, false)
    else if x = 1 then
      (if i ≠ (if f < 0 then i else f) + c then (0, 0, false) else ivSpec (xs.drop (k + 1)) (i + 1) (if f < 0 then i else f) (c + 1))
    else ivSpec (xs.drop (k + 1)) (i + 1) f c := by
  have hk : k < xs.length := by
    rcases Nat.lt_or_ge k xs.length with h1 | h1
    · exact h1
    · rw [List.getElem?_eq_none h1] at h; cases h
  rw [List.drop_eq_getElem_cons hk]
  rw [List.getElem?_eq_getElem hk] at h
  injection h with h
  rw [h]
  rfl

def ret3 (r : Int × Int × Bool) : Ending := .returned (.tuple #[.int .i64 r.1, .int .i64 r.2.1, .bool r.2.2])

set_option maxHeartbeats 1000000 in
theorem specIntervalOf_any (A : Option Addr) (cap : Nat) (xs : List Int) (w : World) (hl : xs.length ≤ 1048576) (hx : Ints w A xs) :
    Calls Try.prog 90 #[.slice A xs.length cap] w fun e w' => e = ret3 (ivSpec xs 0 (-1) 0) ∧ w = w' := by
  go_enter Try.func90, Try.ntmps90
  go_wp2_with fail
  go_loop [5, 6, 11] (fun a b i => ∃ (k : Nat) (f c : Int), k ≤ xs.length ∧ i = .int .i64 k ∧ a = .int .i64 f ∧ b = .int .i64 c ∧ -1 ≤ f ∧ f ≤ k ∧ 0 ≤ c ∧ c ≤ k ∧ Hid (ivSpec (xs.drop k) k f c = ivSpec xs 0 (-1) 0)) (fun _ _ i => xs.length - (intOf i).toNat)
  case atStart => exact ⟨0, -1, 0, Nat.zero_le _, rfl, rfl, rfl, by omega, by omega, by omega, by omega, Lib.hid (by simp)⟩
  case round =>
    obtain ⟨k, f, c, hk, rfl, rfl, rfl, hf1, hf2, hc1, hc2, hs⟩ := hrel
    by_cases hlt : k < xs.length
    · obtain ⟨b, o, x, rfl, _, HX, hcell⟩ := hx.at_ hlt
      have HN := Lib.hid (ivSpec_succ HX.out k f c)
      clear hx
      by_cases e0 : x = 0
      · subst e0
        go_wp2
        go_round
        case rel => exact ⟨k + 1, f, c, by omega, by go_num, rfl, rfl, by omega, by omega, by omega, by omega, Lib.hid (by rw [← hs.out, HN.out]; simp)⟩
        case measure => simp [intOf]; omega
      · by_cases e1 : x = 1
        · subst e1
          clear e0
          by_cases hneg : f < 0
          · by_cases hc0 : (k : Int) = k + c
            · have g1 : ((k : Int) != k + c) = false := by rw [bne_eq_false_iff_eq]; exact hc0
              have HC := Lib.hid hc0; clear hc0
              have hf3 : f < 0 := hneg
              go_wp2
              go_round
              case rel => exact ⟨k + 1, k, c + 1, by omega, by go_num, rfl, rfl, by omega, by omega, by omega, by omega, Lib.hid (by
                rw [← hs.out, HN.out]
                have := HC.out
                simp only [hf3, if_true, ne_eq, ← this, not_true_eq_false, if_false]
                simp)⟩
              case measure => simp [intOf]; omega
            · have g1 : ((k : Int) != k + c) = true := by rw [bne_iff_ne]; exact hc0
              have HC := Lib.hid hc0; clear hc0
              have hf3 : f < 0 := hneg
              go_wp2
              go_ret3
              exact ⟨by rw [← hs.out, HN.out]; have := HC.out; simp [hf3, this, ret3], rfl⟩
          · by_cases hc0 : (k : Int) = f + c
            · have g1 : ((k : Int) != f + c) = false := by rw [bne_eq_false_iff_eq]; exact hc0
              have HC := Lib.hid hc0; clear hc0
              have hf3 : ¬ f < 0 := hneg
              go_wp2
              go_round
              case rel => exact ⟨k + 1, f, c + 1, by omega, by go_num, rfl, rfl, by omega, by omega, by omega, by omega, Lib.hid (by
                rw [← hs.out, HN.out]
                have := HC.out
                simp only [hf3, if_false, ne_eq, ← this, not_true_eq_false]
                simp)⟩
              case measure => simp [intOf]; omega
            · have g1 : ((k : Int) != f + c) = true := by rw [bne_iff_ne]; exact hc0
              have HC := Lib.hid hc0; clear hc0
              have hf3 : ¬ f < 0 := hneg
              go_wp2
              go_ret3
              exact ⟨by rw [← hs.out, HN.out]; have := HC.out; have h3 : ¬ f < 0 := (by omega); simp [h3, this, ret3], rfl⟩
        · have f0 : (x != 0) = true := by simpa using e0
          have f1 : (x != 1) = true := by simpa using e1
          have E := Lib.hid (And.intro e0 e1); clear e0 e1
          go_wp2
          go_ret3
          exact ⟨by rw [← hs.out, HN.out, if_pos E.out]; rfl, rfl⟩
    · obtain rfl : k = xs.length := by omega
      have hd : xs.drop xs.length = [] := List.drop_length
      have HD := Lib.hid hd; clear hd
      go_wp2
      all_goals go_ret3
      all_goals exact ⟨by rw [← hs.out, HD.out]; simp [ivSpec, ret3]; omega, rfl⟩

theorem Ints.cut {w : World} {A : Option Addr} {xs : List Int} (h : Ints w A xs) (f n : Nat) : Ints w (A.map fun a => a.add (f * 1)) ((xs.drop f).take n) := fun k x hk => by
  rw [List.getElem?_take] at hk
  by_cases hn : k < n
  · rw [if_pos hn, List.getElem?_drop] at hk
    obtain ⟨b, o, rfl, h2, h3⟩ := h (f + k) x hk
    refine ⟨b, o + f, ?_, h2, by rw [Nat.add_assoc]; exact h3⟩
    by_cases e : f = 0
    · subst e; rfl
    · simp [Addr.add, e]
  · rw [if_neg hn] at hk; cases hk

set_option maxHeartbeats 1000000 in
theorem implIntervalOf_some (b o cap : Nat) (xs : List Int) (w : World) (hl : xs.length ≤ 1048576) (hcap : xs.length ≤ cap) (hx : Ints w (some ⟨b, o, none⟩) xs) :
    Calls Try.prog 39 #[.slice (some ⟨b, o, none⟩) xs.length cap] w fun e w' => e = ret3 (ivImpl xs) ∧ w = w' := by
  cases ha : allIn xs 0 1
  · go_enter Try.func39, Try.ntmps39
    go_wp2_with (go_at_call 73; refine (allWithin_any _ _ xs _ _ _ hl hx).mono ?_; rintro e w' ⟨rfl, rfl⟩)
    go_ret3
    exact ⟨by simp [ivImpl, ha, ret3], rfl⟩
  · have S := Lib.hid (small_of ha (by omega) (by omega))
    obtain ⟨hb1, hb2, _⟩ := bits_sumI ha
    -- the first black cell, and what lies behind it
    obtain ⟨f, hf0, hf1, hf2⟩ : ∃ f : Nat, max 0 (indexOf xs 1) = f ∧ (f : Int) + xs.sum ≤ xs.length ∧ (indexOf xs 1 = f ∨ indexOf xs 1 = -1 ∧ f = 0 ∧ xs.sum = 0) := by
      have hidx : ∀ l : List Int, allIn l 0 1 = true → ∃ f : Nat, max 0 (indexOf l 1) = f ∧ (f : Int) + l.sum ≤ l.length ∧ (indexOf l 1 = f ∨ indexOf l 1 = -1 ∧ f = 0 ∧ l.sum = 0) := by
        intro l
        induction l with
        | nil => intro _; exact ⟨0, rfl, by simp, .inr (by decide)⟩
        | cons x l ih =>
          intro h
          rw [allIn_cons, Bool.and_eq_true] at h
          obtain ⟨f, h1, h2, h3⟩ := ih h.2
          have hx := inR_iff.1 h.1
          obtain ⟨c1, c2, c3⟩ := bits_sumI h.2
          by_cases e : x = 1
          · subst e
            refine ⟨0, by simp [indexOf, List.findIdx?_cons], ?_, .inl (by simp [indexOf, List.findIdx?_cons])⟩
            rw [List.sum_cons, List.length_cons]; simp; omega
          · have e0 : x = 0 := by omega
            subst e0
            unfold indexOf at *
            rw [List.findIdx?_cons]
            have e1 : ((0 : Int) == 1) = false := by decide
            simp only [e1, Bool.false_eq_true, if_false]
            cases hfi : l.findIdx? (· == 1) with
            | none =>
              rw [hfi] at h1 h3
              simp only at h1 h3
              refine ⟨0, rfl, ?_, .inr ⟨rfl, rfl, ?_⟩⟩
              · rw [List.sum_cons, List.length_cons]; simp; omega
              · rw [List.sum_cons]; omega
            | some i =>
              rw [hfi] at h1
              simp only [Option.map_some]
              refine ⟨i + 1, by simp; omega, ?_, .inl rfl⟩
              rw [List.sum_cons, List.length_cons]; simp at h1; simp; omega
      exact hidx xs ha
    obtain ⟨n, hn⟩ := Int.eq_ofNat_of_zero_le hb1
    have hcut := hx.cut f n
    have hsm : Small ((xs.drop f).take n) := fun x hx => S.out x (List.mem_of_mem_drop (List.mem_of_mem_take hx))
    have hlen : ((xs.drop f).take n).length = n := by rw [List.length_take, List.length_drop]; omega
    have hfn : f + n ≤ xs.length := by omega
    have hres : ivImpl xs = if ((xs.drop f).take n).sum ≠ n then (0, 0, false) else ((f : Int), (n : Int), true) := by
      unfold ivImpl
      rw [if_pos ha, hf0, hn, Int.toNat_natCast, Int.toNat_natCast]
    have HSM := Lib.hid hsm; have HLEN := Lib.hid hlen; have HRES := Lib.hid hres; have HF0 := Lib.hid hf0; have HN := Lib.hid hn
    clear hsm hlen hres hf0 hf1 hn hb1 hb2
    have csum : Calls Try.prog 37 #[.slice (some ⟨b, o, none⟩) xs.length cap] w fun e w' => e = .returned (.int .i64 (n : Int)) ∧ w = w' := by
      rw [← HN.out]; exact sumOf_any _ _ xs _ hl S.out hx
    have csum2 : ∀ A c, Ints w A ((xs.drop f).take n) → Calls Try.prog 37 #[.slice A n c] w fun e w' => e = .returned (.int .i64 ((xs.drop f).take n).sum) ∧ w = w' := by
      intro A c h
      have h2 := sumOf_any A c ((xs.drop f).take n) w (by rw [HLEN.out]; omega) HSM.out h
      rw [HLEN.out] at h2; exact h2
    obtain ⟨s2, hs2⟩ : ∃ s2, ((xs.drop f).take n).sum = s2 := ⟨_, rfl⟩
    rw [hs2] at csum2
    have hend : ivImpl xs = if s2 ≠ n then (0, 0, false) else ((f : Int), (n : Int), true) := by rw [HRES.out, hs2]
    have HEND := Lib.hid hend; have HS2 := Lib.hid hs2
    clear hend hs2 HRES HSM HLEN HF0 HN S
    have hcut0 : f = 0 → Ints w (some ⟨b, o, none⟩) ((xs.drop f).take n) := by
      intro e; subst e; exact hcut
    have hcut1 : ∀ A, f = cap → Ints w A ((xs.drop f).take n) := by
      intro A e k x hk
      have hn0 : n = 0 := by omega
      subst hn0
      simp at hk
    have hcut2 : 0 < f → Ints w (some ⟨b, o + f, none⟩) ((xs.drop f).take n) := by
      intro e
      have hne : ¬ f = 0 := by omega
      have := hcut
      simpa [Addr.add, hne] using this
    clear hcut
    by_cases hs2n : s2 = (n : Int)
    · have hb2 : (s2 != (n : Int)) = false := by rw [bne_eq_false_iff_eq]; exact hs2n
      have HS2N := Lib.hid hs2n; clear hs2n
      rcases hf2 with hi | ⟨hi, h0, hn0⟩
      · have cidx : Calls Try.prog 74 #[.slice (some ⟨b, o, none⟩) xs.length cap, .int .i64 1] w fun e w' => e = .returned (.int .i64 (f : Int)) ∧ w = w' := by
          rw [← hi]; exact index_any _ _ xs _ _ hl hx
        clear hi
        rcases Nat.eq_zero_or_pos f with e | e
        · have H0 := hcut0 e
          clear hcut0 hcut1 hcut2
          subst e
          by_cases hc0 : cap = 0
          · subst hc0
            go_enter Try.func39, Try.ntmps39
            go_wp2_with (first | (go_at_call 73; refine (allWithin_any _ _ xs _ _ _ hl hx).mono ?_; rintro e w' ⟨rfl, rfl⟩) | (go_at_call 74; refine cidx.mono ?_; rintro e w' ⟨rfl, rfl⟩) | (go_at_call 37; (first | (with_reducible refine csum.mono ?_) | (with_reducible refine (csum2 _ _ H0).mono ?_)); rintro e w' ⟨rfl, rfl⟩))
            all_goals go_ret3
            all_goals exact ⟨by rw [HEND.out]; simp [HS2N.out, ret3], rfl⟩
          · go_enter Try.func39, Try.ntmps39
            go_wp2_with (first | (go_at_call 73; refine (allWithin_any _ _ xs _ _ _ hl hx).mono ?_; rintro e w' ⟨rfl, rfl⟩) | (go_at_call 74; refine cidx.mono ?_; rintro e w' ⟨rfl, rfl⟩) | (go_at_call 37; (first | (with_reducible refine csum.mono ?_) | (with_reducible refine (csum2 _ _ H0).mono ?_)); rintro e w' ⟨rfl, rfl⟩))
            all_goals go_ret3
            all_goals exact ⟨by rw [HEND.out]; simp [HS2N.out, ret3], rfl⟩
        · by_cases hcf : cap = f
          · have H1 := hcut1 (some ⟨b, o, none⟩) hcf.symm
            clear hcut0 hcut1 hcut2
            have hn0 : n = 0 := by omega
            subst hn0
            subst hcf
            go_enter Try.func39, Try.ntmps39
            go_wp2_with (first | (go_at_call 73; refine (allWithin_any _ _ xs _ _ _ hl hx).mono ?_; rintro e w' ⟨rfl, rfl⟩) | (go_at_call 74; refine cidx.mono ?_; rintro e w' ⟨rfl, rfl⟩) | (go_at_call 37; (first | (with_reducible refine csum.mono ?_) | (with_reducible refine (csum2 _ _ H1).mono ?_)); rintro e w' ⟨rfl, rfl⟩))
            all_goals go_ret3
            all_goals exact ⟨by rw [HEND.out]; simp [HS2N.out, ret3], rfl⟩
          · have H2 := hcut2 e
            clear hcut0 hcut1 hcut2
            have hlen2 : ((f : Int) + (n : Int)).toNat - f = n := by omega
            go_enter Try.func39, Try.ntmps39
            go_wp2_with (first | (go_at_call 73; refine (allWithin_any _ _ xs _ _ _ hl hx).mono ?_; rintro e w' ⟨rfl, rfl⟩) | (go_at_call 74; refine cidx.mono ?_; rintro e w' ⟨rfl, rfl⟩) | (go_at_call 37; (first | (with_reducible refine csum.mono ?_) | (with_reducible refine (csum2 _ _ H2).mono ?_)); rintro e w' ⟨rfl, rfl⟩))
            all_goals go_ret3
            all_goals exact ⟨by rw [HEND.out]; simp [HS2N.out, ret3], rfl⟩
      · have cidx : Calls Try.prog 74 #[.slice (some ⟨b, o, none⟩) xs.length cap, .int .i64 1] w fun e w' => e = .returned (.int .i64 (-1)) ∧ w = w' := by
          rw [← hi]; exact index_any _ _ xs _ _ hl hx
        clear hi hn0
        have H0 := hcut0 h0
        clear hcut0 hcut1 hcut2
        subst h0
        by_cases hc0 : cap = 0
        · subst hc0
          go_enter Try.func39, Try.ntmps39
          go_wp2_with (first | (go_at_call 73; refine (allWithin_any _ _ xs _ _ _ hl hx).mono ?_; rintro e w' ⟨rfl, rfl⟩) | (go_at_call 74; refine cidx.mono ?_; rintro e w' ⟨rfl, rfl⟩) | (go_at_call 37; (first | (with_reducible refine csum.mono ?_) | (with_reducible refine (csum2 _ _ H0).mono ?_)); rintro e w' ⟨rfl, rfl⟩))
          all_goals go_ret3
          all_goals exact ⟨by rw [HEND.out]; simp [HS2N.out, ret3], rfl⟩
        · go_enter Try.func39, Try.ntmps39
          go_wp2_with (first | (go_at_call 73; refine (allWithin_any _ _ xs _ _ _ hl hx).mono ?_; rintro e w' ⟨rfl, rfl⟩) | (go_at_call 74; refine cidx.mono ?_; rintro e w' ⟨rfl, rfl⟩) | (go_at_call 37; (first | (with_reducible refine csum.mono ?_) | (with_reducible refine (csum2 _ _ H0).mono ?_)); rintro e w' ⟨rfl, rfl⟩))
          all_goals go_ret3
          all_goals exact ⟨by rw [HEND.out]; simp [HS2N.out, ret3], rfl⟩
    · have hb2 : (s2 != (n : Int)) = true := by rw [bne_iff_ne]; exact hs2n
      have HS2N := Lib.hid hs2n; clear hs2n
      rcases hf2 with hi | ⟨hi, h0, hn0⟩
      · have cidx : Calls Try.prog 74 #[.slice (some ⟨b, o, none⟩) xs.length cap, .int .i64 1] w fun e w' => e = .returned (.int .i64 (f : Int)) ∧ w = w' := by
          rw [← hi]; exact index_any _ _ xs _ _ hl hx
        clear hi
        rcases Nat.eq_zero_or_pos f with e | e
        · have H0 := hcut0 e
          clear hcut0 hcut1 hcut2
          subst e
          by_cases hc0 : cap = 0
          · subst hc0
            go_enter Try.func39, Try.ntmps39
            go_wp2_with (first | (go_at_call 73; refine (allWithin_any _ _ xs _ _ _ hl hx).mono ?_; rintro e w' ⟨rfl, rfl⟩) | (go_at_call 74; refine cidx.mono ?_; rintro e w' ⟨rfl, rfl⟩) | (go_at_call 37; (first | (with_reducible refine csum.mono ?_) | (with_reducible refine (csum2 _ _ H0).mono ?_)); rintro e w' ⟨rfl, rfl⟩))
            all_goals go_ret3
            all_goals exact ⟨by rw [HEND.out, if_pos HS2N.out]; rfl, rfl⟩
          · go_enter Try.func39, Try.ntmps39
            go_wp2_with (first | (go_at_call 73; refine (allWithin_any _ _ xs _ _ _ hl hx).mono ?_; rintro e w' ⟨rfl, rfl⟩) | (go_at_call 74; refine cidx.mono ?_; rintro e w' ⟨rfl, rfl⟩) | (go_at_call 37; (first | (with_reducible refine csum.mono ?_) | (with_reducible refine (csum2 _ _ H0).mono ?_)); rintro e w' ⟨rfl, rfl⟩))
            all_goals go_ret3
            all_goals exact ⟨by rw [HEND.out, if_pos HS2N.out]; rfl, rfl⟩
        · by_cases hcf : cap = f
          · have H1 := hcut1 (some ⟨b, o, none⟩) hcf.symm
            clear hcut0 hcut1 hcut2
            have hn0 : n = 0 := by omega
            subst hn0
            subst hcf
            go_enter Try.func39, Try.ntmps39
            go_wp2_with (first | (go_at_call 73; refine (allWithin_any _ _ xs _ _ _ hl hx).mono ?_; rintro e w' ⟨rfl, rfl⟩) | (go_at_call 74; refine cidx.mono ?_; rintro e w' ⟨rfl, rfl⟩) | (go_at_call 37; (first | (with_reducible refine csum.mono ?_) | (with_reducible refine (csum2 _ _ H1).mono ?_)); rintro e w' ⟨rfl, rfl⟩))
            all_goals go_ret3
            all_goals exact ⟨by rw [HEND.out, if_pos HS2N.out]; rfl, rfl⟩
          · have H2 := hcut2 e
            clear hcut0 hcut1 hcut2
            have hlen2 : ((f : Int) + (n : Int)).toNat - f = n := by omega
            go_enter Try.func39, Try.ntmps39
            go_wp2_with (first | (go_at_call 73; refine (allWithin_any _ _ xs _ _ _ hl hx).mono ?_; rintro e w' ⟨rfl, rfl⟩) | (go_at_call 74; refine cidx.mono ?_; rintro e w' ⟨rfl, rfl⟩) | (go_at_call 37; (first | (with_reducible refine csum.mono ?_) | (with_reducible refine (csum2 _ _ H2).mono ?_)); rintro e w' ⟨rfl, rfl⟩))
            all_goals go_ret3
            all_goals exact ⟨by rw [HEND.out, if_pos HS2N.out]; rfl, rfl⟩
      · have cidx : Calls Try.prog 74 #[.slice (some ⟨b, o, none⟩) xs.length cap, .int .i64 1] w fun e w' => e = .returned (.int .i64 (-1)) ∧ w = w' := by
          rw [← hi]; exact index_any _ _ xs _ _ hl hx
        clear hi hn0
        have H0 := hcut0 h0
        clear hcut0 hcut1 hcut2
        subst h0
        by_cases hc0 : cap = 0
        · subst hc0
          go_enter Try.func39, Try.ntmps39
          go_wp2_with (first | (go_at_call 73; refine (allWithin_any _ _ xs _ _ _ hl hx).mono ?_; rintro e w' ⟨rfl, rfl⟩) | (go_at_call 74; refine cidx.mono ?_; rintro e w' ⟨rfl, rfl⟩) | (go_at_call 37; (first | (with_reducible refine csum.mono ?_) | (with_reducible refine (csum2 _ _ H0).mono ?_)); rintro e w' ⟨rfl, rfl⟩))
          all_goals go_ret3
          all_goals exact ⟨by rw [HEND.out, if_pos HS2N.out]; rfl, rfl⟩
        · go_enter Try.func39, Try.ntmps39
          go_wp2_with (first | (go_at_call 73; refine (allWithin_any _ _ xs _ _ _ hl hx).mono ?_; rintro e w' ⟨rfl, rfl⟩) | (go_at_call 74; refine cidx.mono ?_; rintro e w' ⟨rfl, rfl⟩) | (go_at_call 37; (first | (with_reducible refine csum.mono ?_) | (with_reducible refine (csum2 _ _ H0).mono ?_)); rintro e w' ⟨rfl, rfl⟩))
          all_goals go_ret3
          all_goals exact ⟨by rw [HEND.out, if_pos HS2N.out]; rfl, rfl⟩

theorem implIntervalOf_nil (A : Option Addr) (cap : Nat) (w : World) :
    Calls Try.prog 39 #[.slice A 0 cap] w fun e w' => e = ret3 (ivImpl []) ∧ w = w' := by
  have hx : ∀ A, Ints w A [] := fun A k x hk => by simp at hk
  have ca := fun A c => allWithin_any A c [] 0 1 w (by simp) (hx A)
  have cs := fun A c => sumOf_any A c [] w (by simp) (fun x hx => by simp at hx) (hx A)
  have ci := fun A c => index_any A c [] 1 w (by simp) (hx A)
  have e1 : allIn [] 0 1 = true := rfl
  have e2 : indexOf [] 1 = -1 := rfl
  have e3 : ([] : List Int).sum = 0 := rfl
  rw [e1] at ca
  simp only [e2] at ci
  simp only [e3] at cs
  clear e1 e2 e3 hx
  simp only [List.length_nil] at ca cs ci
  have HE : Hid (ivImpl [] = (0, 0, true)) := Lib.hid (by decide)
  rcases A with _ | ⟨b, o, sp⟩
  all_goals by_cases hc : cap = 0
  all_goals
    go_enter Try.func39, Try.ntmps39
    go_wp2_with (first | (go_at_call 73; refine (ca _ _).mono ?_; rintro e w' ⟨rfl, rfl⟩) | (go_at_call 74; refine (ci _ _).mono ?_; rintro e w' ⟨rfl, rfl⟩) | (go_at_call 37; refine (cs _ _).mono ?_; rintro e w' ⟨rfl, rfl⟩))
    go_ret3
    exact ⟨by rw [HE.out]; rfl, rfl⟩

theorem implIntervalOf_any (A : Option Addr) (cap : Nat) (xs : List Int) (w : World) (hl : xs.length ≤ 1048576) (hcap : xs.length ≤ cap) (hx : Ints w A xs) :
    Calls Try.prog 39 #[.slice A xs.length cap] w fun e w' => e = ret3 (ivImpl xs) ∧ w = w' := by
  cases xs with
  | nil => exact implIntervalOf_nil A cap w
  | cons x xs =>
    obtain ⟨b, o, rfl, _, _⟩ := hx 0 x rfl
    exact implIntervalOf_some b o cap (x :: xs) w hl hcap hx
end Go.Proofs.Ytlhjbpachpjpkaa
