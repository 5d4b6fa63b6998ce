/- The best image of a list by a value: the plain law. -/
import Derived.Test.YtlhjbpachpjpkaaLeast
namespace Go.Proofs.Ytlhjbpachpjpkaa
open Go.RowKit Tomo

/-- the first of the greatest by a value -/
def bestI (f : Grid → Int) : List Grid → Grid
  | [] => []
  | g :: gs => gs.foldl (fun b m => if f b < f m then m else b) g
theorem bestI_one (f : Grid → Int) (g : Grid) : bestI f [g] = g := rfl
theorem bestI_snoc (f : Grid → Int) {gs : List Grid} (h : gs ≠ []) (g : Grid) : bestI f (gs ++ [g]) = if f (bestI f gs) < f g then g else bestI f gs := by
  cases gs with
  | nil => exact absurd rfl h
  | cons a gs => simp only [List.cons_append, bestI, List.foldl_append, List.foldl_cons, List.foldl_nil]; rfl
theorem bestI_take {f : Grid → Int} {gs : List Grid} {j : Nat} {g : Grid} (h : gs[j]? = some g) (hj : 0 < j) : bestI f (gs.take (j + 1)) = if f (bestI f (gs.take j)) < f g then g else bestI f (gs.take j) := by
  rw [take_succ_of h, bestI_snoc f (fun e => by
    have h1 := (List.getElem?_eq_some_iff.1 h).1
    have h2 := congrArg List.length e
    rw [List.length_take, List.length_nil] at h2
    omega)]
theorem bestI_zero {f : Grid → Int} {gs : List Grid} {g : Grid} (h : gs[0]? = some g) : bestI f (gs.take 1) = g := by
  rw [take_succ_of h]; rfl
theorem foldl_ge (f : Grid → Int) : ∀ (gs : List Grid) (b : Grid), f b ≤ f (gs.foldl (fun b m => if f b < f m then m else b) b) ∧ ∀ g ∈ gs, f g ≤ f (gs.foldl (fun b m => if f b < f m then m else b) b) := by
  intro gs
  induction gs with
  | nil => intro b; exact ⟨Int.le_refl _, fun g hg => by cases hg⟩
  | cons a gs ih =>
    intro b
    rw [List.foldl_cons]
    by_cases h : f b < f a
    · rw [if_pos h]
      obtain ⟨h1, h2⟩ := ih a
      refine ⟨by omega, fun g hg => ?_⟩
      rcases List.mem_cons.1 hg with rfl | hg
      · exact h1
      · exact h2 g hg
    · rw [if_neg h]
      obtain ⟨h1, h2⟩ := ih b
      refine ⟨h1, fun g hg => ?_⟩
      rcases List.mem_cons.1 hg with rfl | hg
      · omega
      · exact h2 g hg
theorem bestI_ge (f : Grid → Int) {gs : List Grid} {g : Grid} (h : g ∈ gs) : f g ≤ f (bestI f gs) := by
  cases gs with
  | nil => cases h
  | cons a gs =>
    show f g ≤ f (gs.foldl _ a)
    obtain ⟨h1, h2⟩ := foldl_ge f gs a
    rcases List.mem_cons.1 h with rfl | h
    · exact h1
    · exact h2 g h
theorem bestI_mem (f : Grid → Int) : ∀ (gs : List Grid), gs ≠ [] → bestI f gs ∈ gs := by
  have key : ∀ (gs : List Grid) (b : Grid), gs.foldl (fun b m => if f b < f m then m else b) b = b ∨ gs.foldl (fun b m => if f b < f m then m else b) b ∈ gs := by
    intro gs
    induction gs with
    | nil => intro b; exact .inl rfl
    | cons g gs ih =>
      intro b
      rw [List.foldl_cons]
      by_cases h : f b < f g
      · rw [if_pos h]
        rcases ih g with h1 | h1
        · right; rw [h1]; exact List.mem_cons_self
        · right; exact List.mem_cons_of_mem _ h1
      · rw [if_neg h]
        rcases ih b with h1 | h1
        · exact .inl h1
        · right; exact List.mem_cons_of_mem _ h1
  intro gs h
  cases gs with
  | nil => exact absurd rfl h
  | cons g gs =>
    show gs.foldl _ g ∈ _
    rcases key gs g with h1 | h1
    · rw [h1]; exact List.mem_cons_self
    · exact List.mem_cons_of_mem _ h1
theorem bestI_bound (f : Grid → Int) (rows cols : List Int) : GBound (bestI f (allI rows cols)) := by
  cases h : allI rows cols with
  | nil => exact nil_bound
  | cons g gs =>
    have := bestI_mem f (g :: gs) (by simp)
    rw [← h] at this ⊢
    exact img_bound (allI_img this)
end Go.Proofs.Ytlhjbpachpjpkaa
