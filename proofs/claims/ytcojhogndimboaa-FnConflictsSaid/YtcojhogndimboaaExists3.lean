/- Whether there is an image. -/
import Derived.Test.YtcojhogndimboaaExists2
namespace Go.Proofs.Ytcojhogndimboaa
open Go.RowKit Tomo

/-- what the rows can give beyond what the first k columns ask -/
noncomputable def sortD (xs : List Int) : List Int := Classical.epsilon fun s => Down s xs
theorem sortD_of {s xs : List Int} (h : Down s xs) : sortD xs = s := (Classical.epsilon_spec (p := fun s => Down s xs) ⟨s, h⟩ : Down (sortD xs) xs).uniq h
noncomputable def gap (rows cols : List Int) (k : Nat) : Int := mostIn rows k - ((sortD cols).take k).sum
theorem allIn_of {l : List Int} {lo hi : Int} (h : ∀ x ∈ l, inR x lo hi = true) : allIn l lo hi = true := List.all_eq_true.2 h
theorem small_take {l : List Int} (h : Small l) (k : Nat) : Small (l.take k) := fun x hx => h x (List.mem_of_mem_take hx)
theorem take_ints {w : World} {A : Option Addr} {xs : List Int} (h : Ints w A xs) (k : Nat) : Ints w A (xs.take k) := fun j x hj => by
  rw [List.getElem?_take] at hj
  split at hj
  · exact h j x hj
  · cases hj
theorem conj_small (rows : List Int) (n : Nat) (h : rows.length ≤ 1000) : Small (conj rows n) := by
  intro x hx
  unfold conj cj at hx
  obtain ⟨j, _, rfl⟩ := List.mem_map.1 hx
  have h1 : (rows.take rows.length).countP (fun r => decide ((j : Int) < r)) ≤ (rows.take rows.length).length := List.countP_le_length
  have h2 : ¬ j < 0 := by omega
  rw [if_neg h2]
  rw [List.length_take] at h1
  omega


noncomputable def exI (rows cols : List Int) : Bool := sumsOk rows cols && decide (imgs rows cols ≠ [])

theorem most_zero : ∀ (l : List Int), (∀ r ∈ l, 0 ≤ r) → mostIn l 0 = 0
  | [], _ => rfl
  | r :: l, h => by
    have h1 := most_zero l (fun r hr => h r (List.mem_cons_of_mem _ hr))
    have h2 := h r List.mem_cons_self
    unfold mostIn at *
    rw [List.map_cons, List.sum_cons, h1]
    show min ((0 : Nat) : Int) r + 0 = 0
    omega


end Go.Proofs.Ytcojhogndimboaa
