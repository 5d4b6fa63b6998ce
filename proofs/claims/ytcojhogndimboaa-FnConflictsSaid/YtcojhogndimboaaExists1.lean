/- Conjugates and sorted lists. -/
import Derived.Test.YtcojhogndimboaaRows1
import Derived.Test.YtcojhogndimboaaTomoGR
import Derived.Test.YtcojhogndimboaaRead3
namespace Go.Proofs.Ytcojhogndimboaa
open Go.RowKit Tomo

/-- the conjugate of the first i rows, and one more in its first k cells -/
def cj (rows : List Int) (n i k : Nat) : List Int := (List.range n).map fun (j : Nat) => (((rows.take i).countP fun r => decide ((j : Int) < r) : Nat) : Int) + if j < k then 1 else 0
def conj (rows : List Int) (n : Nat) : List Int := cj rows n rows.length 0
theorem cj_len (rows : List Int) (n i k : Nat) : (cj rows n i k).length = n := by simp [cj]
theorem cj_at (rows : List Int) {n i k j : Nat} (h : j < n) : (cj rows n i k)[j]? = some ((((rows.take i).countP fun r => decide ((j : Int) < r) : Nat) : Int) + if j < k then 1 else 0) := by
  unfold cj; rw [List.getElem?_map, List.getElem?_range h]; rfl
theorem cj_set (rows : List Int) {n i k : Nat} {c : Int} (h : k < n) (hc : (cj rows n i k)[k]? = some c) : (cj rows n i k).set k (c + 1) = cj rows n i (k + 1) := by
  rw [cj_at rows h] at hc
  apply List.ext_getElem?
  intro j
  by_cases hj : j < n
  · by_cases e : j = k
    · subst e
      rw [List.getElem?_set_self (by rw [cj_len]; exact h), cj_at rows h]
      have := Option.some.inj hc
      have h1 : ¬ j < j := by omega
      have h2 : j < j + 1 := by omega
      rw [if_neg h1] at this
      rw [if_pos h2]
      congr 1; omega
    · rw [List.getElem?_set_ne (fun h => e h.symm), cj_at rows hj, cj_at rows hj]
      congr 2
      by_cases h3 : j < k
      · rw [if_pos h3, if_pos (by omega)]
      · rw [if_neg h3, if_neg (by omega)]
  · rw [List.getElem?_eq_none (by rw [List.length_set, cj_len]; omega), List.getElem?_eq_none (by rw [cj_len]; omega)]
theorem cj_next (rows : List Int) {n i : Nat} {x : Int} {k : Nat} (hx : rows[i]? = some x) (hk : x = k) : cj rows n i k = cj rows n (i + 1) 0 := by
  unfold cj
  apply List.map_congr_left
  intro j _
  rw [take_succ_of hx, List.countP_append]
  by_cases h : j < k
  · have h2 : (j : Int) < x := by omega
    simp [h, h2]
  · have h2 : ¬ (j : Int) < x := by omega
    simp [h, h2]
theorem conj_take_sum (rows : List Int) {n k : Nat} (hk : k ≤ n) (h0 : ∀ r ∈ rows, 0 ≤ r) : ((conj rows n).take k).sum = mostIn rows k := by
  have e : (conj rows n).take k = (List.range k).map fun (j : Nat) => ((rows.countP fun r => decide ((j : Int) < r) : Nat) : Int) := by
    unfold conj cj
    rw [← List.map_take, List.take_range, Nat.min_eq_left hk]
    apply List.map_congr_left
    intro j _
    simp
  rw [e]
  clear e
  induction rows with
  | nil =>
    unfold mostIn
    have : ∀ l : List Nat, (l.map fun (j : Nat) => ((([] : List Int).countP fun r => decide ((j : Int) < r) : Nat) : Int)).sum = 0 := by
      intro l; induction l with
      | nil => rfl
      | cons a l ih => rw [List.map_cons, List.sum_cons, ih]; rfl
    rw [this]; rfl
  | cons r rows ih =>
    have ih' := ih (fun r hr => h0 r (List.mem_cons_of_mem _ hr))
    have hr0 := h0 r List.mem_cons_self
    unfold mostIn at *
    rw [List.map_cons, List.sum_cons, ← ih']
    have key : ∀ k : Nat, ((List.range k).map fun (j : Nat) => (((r :: rows).countP fun r => decide ((j : Int) < r) : Nat) : Int)).sum = min (k : Int) r + ((List.range k).map fun (j : Nat) => ((rows.countP fun r => decide ((j : Int) < r) : Nat) : Int)).sum := by
      intro k
      induction k with
      | zero => simp; omega
      | succ k ihk =>
        rw [List.range_succ, List.map_append, List.map_append, List.sum_append, List.sum_append, ihk]
        simp only [List.map_cons, List.map_nil, List.sum_cons, List.sum_nil, List.countP_cons]
        by_cases h : (k : Int) < r
        · simp [h]; omega
        · simp [h]; omega
    exact key k

end Go.Proofs.Ytcojhogndimboaa
