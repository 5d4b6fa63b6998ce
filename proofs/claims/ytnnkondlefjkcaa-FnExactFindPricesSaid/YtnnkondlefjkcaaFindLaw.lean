/- FindPrices: the results' sizes. -/
import Derived.Test.YtnnkondlefjkcaaFind3
import Derived.Test.YtnnkondlefjkcaaFind4
import Derived.Test.YtnnkondlefjkcaaMark4
namespace Go.Proofs.Ytnnkondlefjkcaa
open Go.RowKit Tomo

theorem rxC_len (c wv : Int) (y x : Nat) (S : List Int × List Int × Bool) : (rxC c wv y x S).1.length = S.1.length ∧ (rxC c wv y x S).2.1.length = S.2.1.length := by
  unfold rxC
  split <;> split <;> simp
theorem rxRow_len (m wt : Grid) (a b : Nat) (S : List Int × List Int × Bool) : (rxRow m wt a b S).1.length = S.1.length ∧ (rxRow m wt a b S).2.1.length = S.2.1.length := by
  induction b with
  | zero => exact ⟨rfl, rfl⟩
  | succ b ih =>
    rw [rxRow_succ]
    have h := rxC_len (at2 m a b) (at2 wt a b) a b (rxRow m wt a b S)
    exact ⟨h.1.trans ih.1, h.2.trans ih.2⟩
theorem rxAll_len (m wt : Grid) (k a : Nat) (S : List Int × List Int × Bool) : (rxAll m wt k a S).1.length = S.1.length ∧ (rxAll m wt k a S).2.1.length = S.2.1.length := by
  induction a with
  | zero => exact ⟨rfl, rfl⟩
  | succ a ih =>
    rw [rxAll_succ]
    have h := rxRow_len m wt a k (rxAll m wt k a S)
    exact ⟨h.1.trans ih.1, h.2.trans ih.2⟩
theorem fp_len {m wt : Grid} {n k : Nat} : ∀ (t : Nat) (R K p q : List Int), fpFrom m wt n k t R K = some (p, q) → p.length = R.length ∧ q.length = K.length := by
  intro t
  induction t with
  | zero => intro R K p q h; cases h
  | succ t ih =>
    intro R K p q h
    have hl := rxAll_len m wt k n (R, K, false)
    rw [fpFrom] at h
    split at h
    · have h2 := ih _ _ _ _ h
      exact ⟨h2.1.trans hl.1, h2.2.trans hl.2⟩
    · injection h with h
      injection h with h1 h2
      rw [← h1, ← h2, List.length_map]
      exact hl
theorem fp_small (wt m : Grid) : (fpA wt m).length ≤ 5 ∧ (fpB wt m).length ≤ 5 := by
  unfold fpA fpB
  cases h : fpI wt m with
  | none => simp
  | some pq =>
    obtain ⟨p, q⟩ := pq
    unfold fpI at h
    split at h
    · rename_i hz
      have hin := fp_in hz
      have hl := fp_len _ _ _ _ _ h
      rw [List.length_replicate, List.length_replicate] at hl
      have h1 := hin.n1
      have h2 := hin.k1
      simp only [Option.getD_some]
      omega
    · cases h
theorem fpA_bound (wt m : Grid) : (fpA wt m).length ≤ 1048576 := by have := (fp_small wt m).1; omega
theorem fpB_bound (wt m : Grid) : (fpB wt m).length ≤ 1048576 := by have := (fp_small wt m).2; omega
end Go.Proofs.Ytnnkondlefjkcaa
