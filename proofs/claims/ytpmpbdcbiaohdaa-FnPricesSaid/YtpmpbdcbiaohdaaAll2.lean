/- All images: where there is one, the sums are valid. -/
import Derived.Test.YtpmpbdcbiaohdaaAll1
import Derived.Test.YtpmpbdcbiaohdaaTomA
namespace Go.Proofs.Ytpmpbdcbiaohdaa
open Go.RowKit Tomo

theorem bits_sum : ∀ (r : List Int), (∀ x ∈ r, x = 0 ∨ x = 1) → 0 ≤ r.sum ∧ r.sum ≤ r.length
  | [], _ => by simp
  | x :: r, h => by
    have h1 := bits_sum r (fun y hy => h y (List.mem_cons_of_mem _ hy))
    have h2 := h x List.mem_cons_self
    rw [List.sum_cons, List.length_cons]; omega
theorem imgs_sumsOk {rows cols : List Int} (h : imgs rows cols ≠ []) (hr1 : 1 ≤ rows.length) (hr5 : rows.length ≤ 5) (hc1 : 1 ≤ cols.length) (hc5 : cols.length ≤ 5) : sumsOk rows cols = true := by
  obtain ⟨m, hm⟩ := List.exists_mem_of_ne_nil _ h
  obtain ⟨h1, h2, h3⟩ := (mem_imgs _ _ _).1 hm
  have hl : m.length = rows.length := by rw [← h2]; simp
  have e1 : allIn rows 0 cols.length = true := allIn_of fun x hx => by
    rw [← h2] at hx
    obtain ⟨r, hr, rfl⟩ := List.mem_map.1 hx
    have h4 := bits_sum r (h1 r hr).2
    rw [(h1 r hr).1] at h4
    exact inR_iff.2 h4
  have e2 : allIn cols 0 rows.length = true := allIn_of fun x hx => by
    rw [← h3] at hx
    have h4 := colSum_nonneg _ m (fun r hr x hx => by rcases (h1 r hr).2 x hx with e | e <;> omega) x hx
    have h5 := colSum_le _ m (fun r hr => (h1 r hr).2) x hx
    rw [hl] at h5
    exact inR_iff.2 ⟨h4, h5⟩
  have e3 : rows.sum = cols.sum := by
    have := colSum_sum cols.length m (fun r hr => (h1 r hr).1)
    rw [h3, h2] at this
    exact this.symm
  unfold sumsOk
  rw [inR_iff.2 (by omega), inR_iff.2 (by omega), e1, e2, e3]; simp
end Go.Proofs.Ytpmpbdcbiaohdaa
