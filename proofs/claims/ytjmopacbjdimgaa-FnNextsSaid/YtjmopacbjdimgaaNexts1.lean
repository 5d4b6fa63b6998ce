/- FnNexts: the plain law. -/
import Derived.Test.YtjmopacbjdimgaaReveal
import Derived.Test.YtjmopacbjdimgaaSelf
namespace Go.Proofs.Ytjmopacbjdimgaa
open Go.RowKit Tomo

theorem argm_spec (f : Nat → Nat) : ∀ j, 0 < j → argm f j < j ∧ (∀ i, i < j → f (argm f j) ≤ f i) ∧ ∀ i, i < j → f i = f (argm f j) → argm f j ≤ i := by
  intro j
  induction j with
  | zero => intro h; omega
  | succ j ih =>
    intro _
    rcases Nat.eq_zero_or_pos j with rfl | hj
    · refine ⟨by rw [argm_one]; omega, fun i hi => ?_, fun i hi _ => by rw [argm_one]; omega⟩
      obtain rfl : i = 0 := by omega
      rw [argm_one]; exact Nat.le_refl _
    · obtain ⟨h1, h2, h3⟩ := ih hj
      rw [argm_succ f hj]
      by_cases hc : f j < f (argm f j)
      · rw [if_pos hc]
        refine ⟨by omega, fun i hi => ?_, fun i hi he => ?_⟩
        · rcases Nat.lt_or_ge i j with h | h
          · have := h2 i h; omega
          · obtain rfl : i = j := by omega
            exact Nat.le_refl _
        · rcases Nat.lt_or_ge i j with h | h
          · have := h2 i h; omega
          · omega
      · rw [if_neg hc]
        refine ⟨by omega, fun i hi => ?_, fun i hi he => ?_⟩
        · rcases Nat.lt_or_ge i j with h | h
          · exact h2 i h
          · obtain rfl : i = j := by omega
            omega
        · rcases Nat.lt_or_ge i j with h | h
          · exact h3 i h he
          · omega
theorem agrees_nil (m x : Grid) (k : Nat) : agrees m x k [] = true := rfl
theorem agreeCount_nil {m : Grid} (h : gridOk m 0 1 = true) : agreeCount m [] = ((allI (rsI m) (csI m)).length : Int) := by
  have h1 : agreeOk m [] = true := by unfold agreeOk; rw [h]; rfl
  have h2 : agreeI m [] = allI (rsI m) (csI m) := List.filter_eq_self.2 fun x _ => agrees_nil m x _
  unfold agreeCount
  rw [if_pos h1, h2]
theorem rising_one {i T : Nat} (h : i < T) : rising [(i : Int)] (T : Nat) = true := by
  unfold rising riseAt
  simp [inR]
  omega
theorem agreeCount_one {m : Grid} (h : gridOk m 0 1 = true) {i : Nat} (hi : i < m.length * (m.headD []).length) : agreeCount m [(i : Int)] = (cntOf m (allI (rsI m) (csI m)) (m.headD []).length [] i : Nat) := by
  have hr : rising [(i : Int)] (m.length * (m.headD []).length : Nat) = true := rising_one hi
  have h1 : agreeOk m [(i : Int)] = true := by unfold agreeOk; rw [h, hr]; rfl
  unfold agreeCount
  rw [if_pos h1]
  rfl
theorem agrees_self (m : Grid) (k : Nat) (cells : List Int) : agrees m m k cells = true := by
  unfold agrees
  rw [List.all_eq_true]
  intro c _
  simp
theorem cnt_pos {m : Grid} (h : gridOk m 0 1 = true) (i : Nat) : 1 ≤ cntOf m (allI (rsI m) (csI m)) (m.headD []).length [] i := by
  unfold cntOf
  exact List.length_pos_of_mem (List.mem_filter.2 ⟨img_self h, agrees_self m _ _⟩)
theorem self_pos {m : Grid} (h : gridOk m 0 1 = true) : 1 ≤ (allI (rsI m) (csI m)).length := List.length_pos_of_mem (img_self h)
theorem revealI_nil {m : Grid} (h : gridOk m 0 1 = true) : revealI m [] = if (allI (rsI m) (csI m)).length = 1 then -1 else ((argm (cntOf m (allI (rsI m) (csI m)) (m.headD []).length []) (m.length * (m.headD []).length) : Nat) : Int) := by
  have h1 : agreeOk m [] = true := by unfold agreeOk; rw [h]; rfl
  have h2 : agreeI m [] = allI (rsI m) (csI m) := List.filter_eq_self.2 fun x _ => agrees_nil m x _
  unfold revealI
  rw [if_pos h1, h2]
  rfl
end Go.Proofs.Ytjmopacbjdimgaa
