/- An image is one of those with its own sums. -/
import Derived.Test.YtlhjbpachpjpkaaPick
import Derived.Test.YtlhjbpachpjpkaaSums
namespace Go.Proofs.Ytlhjbpachpjpkaa
open Go.RowKit Tomo

theorem colSum_at (n : Nat) : ∀ (m : Grid) (j : Nat), (∀ r ∈ m, r.length = n) → j < n → (colSum n m)[j]? = some ((m.map fun r => r[j]?.getD 0).sum)
  | [], j, _, hj => by simp [colSum, hj]
  | r :: m, j, h, hj => by
    have h1 := colSum_at n m j (fun r hr => h r (List.mem_cons_of_mem _ hr)) hj
    have h2 := h r List.mem_cons_self
    unfold colSum addRow
    rw [List.getElem?_zipWith, h1, List.getElem?_eq_getElem (by omega)]
    simp [List.getElem?_eq_getElem (show j < r.length by omega)]
theorem tr_sums {m : Grid} {n k : Nat} (h : Img m n k) : (tr m).map List.sum = colSum k m := by
  have hl := colSum_length k m (fun r hr => h.1.2 r hr)
  have hh := h.head
  apply List.ext_getElem?
  intro j
  by_cases hj : j < k
  · rw [colSum_at k m j (fun r hr => h.1.2 r hr) hj]
    unfold tr
    rw [List.getElem?_map, List.getElem?_map, List.getElem?_range (by omega)]
    rfl
  · rw [List.getElem?_eq_none (by rw [List.length_map, (tr_shape m).1]; omega), List.getElem?_eq_none (by omega)]
theorem img_self {m : Grid} (h : gridOk m 0 1 = true) : m ∈ allI (rsI m) (csI m) := by
  have hi := Img.of h
  obtain ⟨hn1, hn5⟩ := hi.2.1
  obtain ⟨hk1, hk5⟩ := hi.2.2.1
  have e1 : rsI m = m.map List.sum := by unfold rsI; rw [if_pos h]
  have e2 : csI m = colSum (m.headD []).length m := by unfold csI; rw [if_pos h, tr_sums hi]
  have hl := colSum_length (m.headD []).length m (fun r hr => hi.1.2 r hr)
  have hm : m ∈ imgs (rsI m) (csI m) := by
    rw [mem_imgs, e1, e2, hl]
    refine ⟨fun r hr => ⟨hi.1.2 r hr, fun x hx => ?_⟩, rfl, rfl⟩
    have := inR_iff.1 ((List.all_eq_true.1 (hi.2.2.2 r hr)) x hx)
    omega
  have hs : sumsOk (rsI m) (csI m) = true := imgs_sumsOk (fun e => by rw [e] at hm; cases hm) (by rw [e1, List.length_map]; exact hn1) (by rw [e1, List.length_map]; exact hn5) (by rw [e2, hl]; exact hk1) (by rw [e2, hl]; exact hk5)
  unfold allI
  rw [if_pos hs]
  exact hm
theorem allI_eq {rows cols : List Int} {g : Grid} (h : g ∈ allI rows cols) : rsI g = rows ∧ csI g = cols := by
  have hi := allI_img h
  have hm := (mem_imgs rows cols g).1 (allI_sums h).2
  have hok := hi.ok
  constructor
  · unfold rsI; rw [if_pos hok]; exact hm.2.1
  · unfold csI; rw [if_pos hok, tr_sums hi]; exact hm.2.2
end Go.Proofs.Ytlhjbpachpjpkaa
