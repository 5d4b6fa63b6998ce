import Derived.Test.YtcojhogndimboaaTomoGR
namespace Go.Proofs.Ytcojhogndimboaa.Tomo
theorem addRow_sum : ∀ (a b : List Int), b.length = a.length → (addRow a b).sum = a.sum + b.sum
  | [], b, h => by cases b <;> simp_all [addRow]
  | x :: a, [], h => by simp at h
  | x :: a, y :: b, h => by
    have := addRow_sum a b (by simpa using h)
    simp only [addRow, List.zipWith_cons_cons, List.sum_cons] at *
    omega
theorem colSum_sum (n : Nat) : ∀ (m : Grid), (∀ r ∈ m, r.length = n) → (colSum n m).sum = (m.map List.sum).sum
  | [], _ => by
    have : ∀ n : Nat, (List.replicate n (0 : Int)).sum = 0 := by intro n; induction n <;> simp_all [List.replicate_succ]
    simp [colSum, this]
  | r :: m, h => by
    have h1 := colSum_sum n m (fun r hr => h r (List.mem_cons_of_mem _ hr))
    have h2 := h r List.mem_cons_self
    simp only [colSum, List.map_cons, List.sum_cons]
    rw [addRow_sum _ _ (by rw [colSum_length n m (fun r hr => h r (List.mem_cons_of_mem _ hr))]; exact h2.symm), h1]
end Go.Proofs.Ytcojhogndimboaa.Tomo
