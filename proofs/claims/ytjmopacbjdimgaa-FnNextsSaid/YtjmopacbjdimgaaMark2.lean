/- Marks: the laws' helpers that write and read them. -/
import Derived.Test.YtjmopacbjdimgaaMark1
import Derived.Test.YtjmopacbjdimgaaHelp2
namespace Go.Proofs.Ytjmopacbjdimgaa
open Go.RowKit Tomo

theorem Own.putN {w : World} {B g n c : Nat} {xs : List Int} (h : Own w B (.slice (some ⟨g, 0, none⟩) n c) xs) {x : Nat} (hx : x < n) :
    (∃ y, w.cell? ⟨g, x, none⟩ = some (.int .i64 y)) ∧ w.frozen? ⟨g, x, none⟩ = false ∧ ∀ y, Own (w.setCell ⟨g, x, none⟩ (.int .i64 y)) B (.slice (some ⟨g, 0, none⟩) n c) (xs.set x y) := by
  obtain rfl : n = xs.length := h.ints.1
  obtain ⟨⟨y, _, h1⟩, h2, h3⟩ := h.put hx
  exact ⟨⟨y, h1⟩, h2, h3⟩
theorem Own.some_of {w : World} {B n c : Nat} {A : Option Addr} {xs : List Int} (h : Own w B (.slice A n c) xs) (hn : 0 < n) : ∃ g, A = some ⟨g, 0, none⟩ := by
  have hl := h.ints.1
  obtain ⟨g, c', hv, _⟩ := h.form (by omega)
  exact ⟨g, by cases hv; rfl⟩
theorem OwnGrid.some_of {w : World} {B n c : Nat} {A : Option Addr} {g : Grid} (h : OwnGrid w B (.slice A n c) g) (hn : 0 < n) : ∃ b, A = some ⟨b, 0, none⟩ := by
  have hl := h.len
  obtain ⟨b, c', hv, _⟩ := h.form (by omega)
  exact ⟨b, by cases hv; rfl⟩
theorem OwnGrids.len {w : World} {B n c : Nat} {A : Option Addr} {gs : List Grid} (h : OwnGrids w B (.slice A n c) gs) : n = gs.length := by
  obtain ⟨us, h1, h2, _⟩ := h
  rcases h2.2 with ⟨hv, h0⟩ | ⟨_, _, _, hv, _⟩ <;> cases hv
  · exact h0.symm
  · rfl
theorem mark_step {α : Type} {A : List α} {l : List α} {i : Nat} {x y : α} (hA : A.length = i) (h : l[i]? = some x) : (A ++ l.drop i).set i y = A ++ [y] ++ l.drop (i + 1) := by
  rw [drop_at h, set_at hA, List.append_assoc]; rfl
theorem mark_read {α : Type} {A : List α} {l : List α} {i : Nat} {x : α} (hA : A.length = i) (h : l[i]? = some x) : (A ++ l.drop i)[i]? = some x := by
  rw [drop_at h, List.getElem?_append_right (by omega), hA]; simp





theorem IntRow.own {w : World} {b : Nat} {xs : List Int} (h : IntRow w b xs) {B : Nat} (hB : B ≤ b) (hl : xs.length ≤ 1000000000) : Own w B (.slice (some ⟨b, 0, none⟩) xs.length xs.length) xs := by
  obtain ⟨cs, h1, h2, h3⟩ := h
  refine ⟨by simp, .inr ⟨b, xs.length, cs, rfl, hB, h1, Nat.le_refl _, by unfold maxLen; omega, by rw [h2]; simp, ?_⟩⟩
  apply List.ext_getElem?
  intro i
  rw [List.getElem?_map, Nat.mul_one]
  by_cases hi : i < xs.length
  · rw [List.getElem?_take_of_lt hi, Array.getElem?_toList, h3 i hi]
    simp [hi]
  · have h4 : cs.toList.length = xs.length := by simpa using h2
    rw [List.getElem?_eq_none (by rw [List.length_take, h4]; omega), List.getElem?_eq_none (by omega)]; rfl
theorem NewInts.own {w w' : World} {xs : List Int} (h : NewInts w w' xs) (hl : xs.length ≤ 1000000000) : Own w' w.heap.size (.slice (some ⟨w.heap.size, 0, none⟩) xs.length xs.length) xs := h.row.own (Nat.le_refl _) hl
theorem NewGrid.own {w w' : World} {g : Grid} (h : NewGrid w w' g) (hl : g.length ≤ 1000000000) (hr : ∀ r ∈ g, r.length ≤ 1000000000) : OwnGrid w' w.heap.size (.slice (some ⟨w.heap.size, 0, none⟩) g.length g.length) g := by
  obtain ⟨⟨cs, h1, h2, h3⟩, hrows, _, _⟩ := h
  refine ⟨(List.range g.length).map fun i => .slice (some ⟨w.heap.size + 1 + i, 0, none⟩) (g[i]?.getD []).length (g[i]?.getD []).length, by simp, ⟨by simp, .inr ⟨w.heap.size, g.length, cs, rfl, Nat.le_refl _, h1, Nat.le_refl _, by unfold maxLen; omega, by rw [h2]; simp, ?_⟩⟩, fun i u r hu hr' => ?_, fun i j u u' hi hj hij => ?_⟩
  · apply List.ext_getElem?
    intro i
    rw [List.getElem?_map, Nat.mul_one]
    by_cases hi : i < g.length
    · rw [List.getElem?_take_of_lt hi, Array.getElem?_toList, h3 i hi, List.getElem?_range hi]; rfl
    · have h4 : cs.toList.length = g.length := by simpa using h2
      rw [List.getElem?_eq_none (by rw [List.length_take, h4]; omega), List.getElem?_eq_none (by simp; omega)]; rfl
  · have hi : i < g.length := (List.getElem?_eq_some_iff.1 hr').1
    rw [List.getElem?_map, List.getElem?_range hi] at hu
    have e : u = .slice (some ⟨w.heap.size + 1 + i, 0, none⟩) r.length r.length := by simpa [hr'] using hu.symm
    rw [e]
    have := hrows i hi
    rw [hr'] at this
    exact IntRow.own this (by omega) (hr r (List.mem_of_getElem? hr'))
  · have hi' : i < g.length := by have := (List.getElem?_eq_some_iff.1 hi).1; simpa using this
    have hj' : j < g.length := by have := (List.getElem?_eq_some_iff.1 hj).1; simpa using this
    rw [List.getElem?_map, List.getElem?_range hi'] at hi
    rw [List.getElem?_map, List.getElem?_range hj'] at hj
    right
    simp only [Option.map_some, Option.some.injEq] at hi hj
    subst hi hj
    simp [Value.ownBlock]; omega
end Go.Proofs.Ytjmopacbjdimgaa
