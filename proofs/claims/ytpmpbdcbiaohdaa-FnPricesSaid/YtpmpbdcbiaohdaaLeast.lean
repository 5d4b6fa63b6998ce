/- The least image, the first one that meets a mask: in the reference and in the program. -/
import Derived.Test.YtpmpbdcbiaohdaaMasked
import Derived.Test.YtpmpbdcbiaohdaaMaA
namespace Go.Proofs.Ytpmpbdcbiaohdaa
open Go.RowKit Tomo

theorem img_bound {g : Grid} {n k : Nat} (h : Img g n k) : GBound g := by
  have h1 := h.1.1
  have h2 := h.2.1.2
  have h3 := h.2.2.1.2
  refine ⟨by omega, fun r hr => by rw [h.1.2 r hr]; omega, ?_⟩
  have key : ∀ l : Grid, (∀ r ∈ l, r.length ≤ 5) → total l ≤ 5 * l.length := by
    intro l
    induction l with
    | nil => intro _; simp [total]
    | cons r l ih =>
      intro hl
      have i1 := ih (fun r hr => hl r (List.mem_cons_of_mem _ hr))
      have i2 := hl r List.mem_cons_self
      unfold total at *
      rw [List.map_cons, List.sum_cons, List.length_cons]; omega
  have := key g (fun r hr => by rw [h.1.2 r hr]; omega)
  omega
theorem nil_bound : GBound [] := ⟨by simp, (fun r hr => by cases hr), by simp [total]⟩
noncomputable def leastI (rows cols : List Int) : Grid := (allI rows cols).headD []
theorem leastI_bound (rows cols : List Int) : GBound (leastI rows cols) := by
  unfold leastI
  cases h : allI rows cols with
  | nil => exact nil_bound
  | cons g gs => exact img_bound (allI_img (by rw [h]; exact List.mem_cons_self))
theorem exI_of {rows cols : List Int} (h : allI rows cols ≠ []) : exI rows cols = true := by
  cases e : exI rows cols
  · exact absurd (allI_none e) h
  · rfl


end Go.Proofs.Ytpmpbdcbiaohdaa
