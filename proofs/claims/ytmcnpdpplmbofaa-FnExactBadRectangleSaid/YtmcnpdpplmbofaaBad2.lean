/- BadRectangle: sets of numbers as bits. -/
import Derived.Test.YtmcnpdpplmbofaaBad1
import Derived.Test.YtmcnpdpplmbofaaRows2
namespace Go.Proofs.Ytmcnpdpplmbofaa
open Go.RowKit Tomo

theorem one_ints (w : World) (x : Int) : Ints (w.alloc (.cells #[.int .i64 x] 3)) (some ⟨w.heap.size, 0, none⟩) [x] := fun j z hj => by
  cases j with
  | zero => have : x = z := by simpa using hj
            exact ⟨w.heap.size, 0, rfl, by simp, by rw [← this]; exact new_cell rfl⟩
  | succ j => simp at hj
theorem half_pow (a j : Nat) : a / 2 ^ j / 2 = a / 2 ^ (j + 1) := by rw [Nat.div_div_eq_div_mul, Nat.pow_succ]
theorem and_one : ∀ q : Nat, q < 32 → bits .and .i64 (q : Int) 1 = ((q % 2 : Nat) : Int) := by decide +kernel

set_option maxHeartbeats 4000000 in
theorem l08Bits_any (a n : Nat) (w : World) (hn : n ≤ 5) (ha : a < 32) :
    Calls Try.prog 17 #[.int .i64 a, .int .i64 n] w fun e w' => ∃ v, e = .returned v ∧ Own w' w.heap.size v (bitsL a n) ∧ Ext w w' := by
  have HO0 : Hid (Own (w.alloc (.cells #[] 3)) w.heap.size (.slice (some ⟨w.heap.size, 0, none⟩) 0 0) []) := Lib.hid (Own.empty w _ (Nat.le_refl _))
  go_enter Try.func17, Try.ntmps17
  go_wp2_with fail
  go_loopw [6, 0, 5] (fun i b o wr => ∃ (j q : Nat) (v : Value) (xs : List Int), j ≤ n ∧ i = .int .i64 j ∧ b = .int .i64 q ∧ o = v ∧ xs.length ≤ j ∧ q < 32 ∧ Hid (q = a / 2 ^ j) ∧ Hid (xs = bitsL a j) ∧ Hid (Own wr w.heap.size v xs) ∧ Hid (Ext w wr)) (fun i _ _ _ => n - (intOf i).toNat)
  case atStart => exact ⟨0, a, _, [], Nat.zero_le _, rfl, rfl, rfl, Nat.le_refl _, ha, Lib.hid (by simp), Lib.hid rfl, HO0, Lib.hid ((Ext.refl w).alloc _)⟩
  case round =>
    rename World => wo
    clear HO0
    obtain ⟨j, q, v, xs, hj, rfl, rfl, rfl, hxl, hq, HQ, HXS, ho, he⟩ := hrel
    by_cases hlt : j < n
    · have hB : w.heap.size ≤ wo.heap.size := he.out.size
      have HQ2 : Hid (q / 2 = a / 2 ^ (j + 1)) := Lib.hid (by rw [HQ.out, half_pow])
      have hd1 : Int.tdiv (q : Int) 2 = ((q / 2 : Nat) : Int) := by rw [Int.tdiv_eq_ediv_of_nonneg (by omega)]; omega
      obtain ⟨q2, hq2⟩ : ∃ q2, q / 2 = q2 := ⟨_, rfl⟩
      rw [hq2] at hd1 HQ2
      have hq3 : q2 < 32 := by omega
      clear hq2
      by_cases hm : q % 2 = 1
      · have hm1 : Int.tmod (q : Int) 2 = 1 := by rw [Int.tmod_eq_emod_of_nonneg (by omega)]; omega
        have HN : Hid (xs ++ [(j : Int)] = bitsL a (j + 1)) := Lib.hid (by rw [bitsL_succ, ← HQ.out, if_pos hm, HXS.out])
        have HI := Lib.hid (one_ints wo (j : Int))
        have hal : (xs ++ [(j : Int)]).length ≤ j + 1 := by simp; omega
        clear hm
        go_wp2_with (at_builtin; refine app_ints (ys := [(j : Int)]) (ho.out.ext ((Ext.refl wo).alloc _)) (by simp; omega) (by simp; omega) (by simp) HI.out rfl _ _ rfl rfl rfl ?_)
        intro g2 c2 w2 hown hb _ _
        have HOW := Lib.hid hown
        have HE2 : Hid (Ext w w2) := Lib.hid (hb w (he.out.alloc _))
        clear hown hb ho he
        go_wp2_with fail
        go_roundw
        case rel => exact ⟨j + 1, q2, _, _, by omega, by go_num, rfl, rfl, hal, hq3, HQ2, HN, HOW, HE2⟩
        case measure => simp [intOf]; omega
      · have hm1 : Int.tmod (q : Int) 2 = 0 := by rw [Int.tmod_eq_emod_of_nonneg (by omega)]; omega
        have HN : Hid (xs = bitsL a (j + 1)) := Lib.hid (by rw [bitsL_succ, ← HQ.out, if_neg hm, List.append_nil, HXS.out])
        have hal : xs.length ≤ j + 1 := by omega
        clear hm
        go_wp2_with fail
        go_roundw
        case rel => exact ⟨j + 1, q2, _, _, by omega, by go_num, rfl, rfl, hal, hq3, HQ2, HN, ho, he⟩
        case measure => simp [intOf]; omega
    · obtain rfl : j = n := by omega
      go_wp2_with fail
      go_ret
      exact ⟨_, rfl, by rw [← HXS.out]; exact ho.out, he.out⟩
set_option maxHeartbeats 4000000 in
theorem members_any (a n : Nat) (w : World) (hn : n ≤ 5) (ha : a < 32) (han : a < 2 ^ n) :
    Calls Try.prog 21 #[.int .i64 a] w fun e w' => ∃ v, e = .returned v ∧ Own w' w.heap.size v (bitsL a n) ∧ Ext w w' := by
  have HAN := Lib.hid han
  clear han
  go_enter Try.func21, Try.ntmps21
  go_wp2_with fail
  go_loopw [4, 3] (fun i o wr => ∃ (j : Nat) (v : Value) (xs : List Int), j ≤ 5 ∧ i = .int .i64 j ∧ o = v ∧ xs.length ≤ j ∧ Hid (xs = bitsL a j) ∧ Hid (Own wr w.heap.size v xs) ∧ Hid (Ext w wr)) (fun i _ _ => 6 - (intOf i).toNat)
  case atStart => exact ⟨0, _, [], Nat.zero_le _, rfl, rfl, Nat.le_refl _, Lib.hid rfl, Lib.hid (Own.nil w _), Lib.hid (Ext.refl w)⟩
  case round =>
    rename World => wo
    obtain ⟨j, v, xs, hj, rfl, rfl, hxl, HXS, ho, he⟩ := hrel
    obtain ⟨q, hq⟩ : ∃ q, a / 2 ^ j = q := ⟨_, rfl⟩
    have hs1 : (a : Int) / 2 ^ j = (q : Int) := by rw [← hq]; simp
    have hq32 : q < 32 := by rw [← hq]; exact Nat.lt_of_le_of_lt (Nat.div_le_self _ _) ha
    have hand := and_one q hq32
    have HQ := Lib.hid hq
    by_cases h0 : q = 0
    · have HN : Hid (xs = bitsL a n) := Lib.hid (by rw [HXS.out]; exact bitsL_stop (by omega) (by omega) ha HAN.out (by rw [hq, h0]))
      subst h0
      clear hq hand
      go_wp2_with fail
      go_ret
      exact ⟨_, rfl, by rw [← HN.out]; exact ho.out, he.out⟩
    · have hj5 : j < 5 := by
        rcases Nat.lt_or_ge j 5 with h | h
        · exact h
        · obtain rfl : j = 5 := by omega
          exact absurd (by rw [← hq]; exact Nat.div_eq_of_lt ha) h0
      have hB : w.heap.size ≤ wo.heap.size := he.out.size
      have hq1 : 0 < q := by omega
      clear hq h0
      by_cases hm : q % 2 = 1
      · rw [hm] at hand
        have HN : Hid (xs ++ [(j : Int)] = bitsL a (j + 1)) := Lib.hid (by rw [bitsL_succ, HQ.out, if_pos hm, HXS.out])
        have HI := Lib.hid (one_ints wo (j : Int))
        have hal : (xs ++ [(j : Int)]).length ≤ j + 1 := by simp; omega
        clear hm
        go_wp2_with (at_builtin; refine app_ints (ys := [(j : Int)]) (ho.out.ext ((Ext.refl wo).alloc _)) (by simp; omega) (by simp; omega) (by simp) HI.out rfl _ _ rfl rfl rfl ?_)
        intro g2 c2 w2 hown hb _ _
        have HOW := Lib.hid hown
        have HE2 : Hid (Ext w w2) := Lib.hid (hb w (he.out.alloc _))
        clear hown hb ho he
        go_wp2_with fail
        go_roundw
        case rel => exact ⟨j + 1, _, _, by omega, by go_num, rfl, hal, HN, HOW, HE2⟩
        case measure => simp [intOf]; omega
      · have hm0 : q % 2 = 0 := by omega
        rw [hm0] at hand
        have HN : Hid (xs = bitsL a (j + 1)) := Lib.hid (by rw [bitsL_succ, HQ.out, if_neg hm, List.append_nil, HXS.out])
        have hal : xs.length ≤ j + 1 := by omega
        clear hm hm0
        go_wp2_with fail
        go_roundw
        case rel => exact ⟨j + 1, _, _, by omega, by go_num, rfl, hal, HN, ho, he⟩
        case measure => simp [intOf]; omega
end Go.Proofs.Ytmcnpdpplmbofaa
