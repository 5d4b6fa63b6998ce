/- Sorting down, by insertion. -/
import Derived.Test.YtcojhogndimboaaExists1
import Derived.BigQuiet
import Derived.Deep.QuietTactic
namespace Go.Proofs.Ytcojhogndimboaa
open Go.RowKit Tomo

/-- these are those numbers, the greatest first -/
def Down (s xs : List Int) : Prop := s.Perm xs ∧ s.Pairwise (fun a b => b ≤ a)
theorem Down.uniq : ∀ {s t xs : List Int}, Down s xs → Down t xs → s = t := by
  intro s
  induction s with
  | nil =>
    intro t xs h k
    have := h.1.length_eq.trans k.1.length_eq.symm
    exact (List.length_eq_zero_iff.1 this.symm).symm
  | cons a s ih =>
    intro t xs h k
    have hp : (a :: s).Perm t := h.1.trans k.1.symm
    cases t with
    | nil => exact absurd hp.length_eq (by simp)
    | cons b t =>
      have hab : a = b := by
        have h1 : a ∈ b :: t := hp.subset List.mem_cons_self
        have h2 : b ∈ a :: s := hp.symm.subset List.mem_cons_self
        have h3 : a ≤ b := by
          rcases List.mem_cons.1 h1 with e | e
          · omega
          · exact (List.pairwise_cons.1 k.2).1 a e
        have h4 : b ≤ a := by
          rcases List.mem_cons.1 h2 with e | e
          · omega
          · exact (List.pairwise_cons.1 h.2).1 b e
        omega
      subst hab
      have hp2 := List.Perm.cons_inv hp
      rw [ih (xs := t) ⟨hp2, (List.pairwise_cons.1 h.2).2⟩ ⟨List.Perm.refl _, (List.pairwise_cons.1 k.2).2⟩]

/-- on its way: x is to go into P ++ C, which is sorted -/
structure Ins (L P C : List Int) (x : Int) (xs : List Int) : Prop where
  eq : L = P ++ x :: C
  perm : (P ++ C).Perm xs
  desc : (P ++ C).Pairwise (fun a b => b ≤ a)
  less : ∀ c ∈ C, c < x
theorem Ins.start {s xs : List Int} (h : Down s xs) (x : Int) : Ins (s ++ [x]) s [] x xs := ⟨rfl, by rw [List.append_nil]; exact h.1, by rw [List.append_nil]; exact h.2, fun c hc => by cases hc⟩
theorem Ins.swap {L P C : List Int} {x y : Int} {xs : List Int} (h : Ins L (P ++ [y]) C x xs) (hy : y < x) : Ins ((L.set (P.length + 1) y).set P.length x) P (y :: C) x xs := by
  obtain ⟨h1, h2, h3, h4⟩ := h
  refine ⟨?_, by simpa using h2, by simpa using h3, fun c hc => ?_⟩
  · rw [h1, List.append_assoc, List.set_append_right _ _ (by omega), List.set_append_right _ _ (by omega)]
    simp
  · rcases List.mem_cons.1 hc with e | e
    · omega
    · exact h4 c e
theorem Ins.done {L P C : List Int} {x : Int} {xs : List Int} (h : Ins L P C x xs) (hp : P = [] ∨ ∃ P' y, P = P' ++ [y] ∧ x ≤ y) : Down L (xs ++ [x]) := by
  obtain ⟨h1, h2, h3, h4⟩ := h
  subst h1
  refine ⟨?_, ?_⟩
  · have e : (P ++ x :: C).Perm (x :: (P ++ C)) := List.perm_middle
    have e2 : (x :: (P ++ C)).Perm (x :: xs) := List.Perm.cons x h2
    have e3 : (x :: xs).Perm (xs ++ [x]) := (List.perm_append_singleton x xs).symm
    exact (e.trans e2).trans e3
  · rw [List.pairwise_append] at h3 ⊢
    obtain ⟨p1, p2, p3⟩ := h3
    have hPx : ∀ a ∈ P, x ≤ a := by
      intro a ha
      rcases hp with rfl | ⟨P', y, rfl, hxy⟩
      · cases ha
      · rcases List.mem_append.1 ha with e | e
        · have := (List.pairwise_append.1 p1).2.2 a e y (by simp); omega
        · have : a = y := by simpa using e
          omega
    refine ⟨p1, List.pairwise_cons.2 ⟨fun c hc => by have := h4 c hc; omega, p2⟩, fun a ha b hb => ?_⟩
    rcases List.mem_cons.1 hb with e | e
    · have := hPx a ha; omega
    · exact p3 a ha b e

end Go.Proofs.Ytcojhogndimboaa
