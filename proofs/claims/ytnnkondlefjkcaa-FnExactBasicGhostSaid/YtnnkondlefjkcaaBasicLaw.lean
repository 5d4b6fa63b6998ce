/- BasicGhost: the result's size. -/
import Derived.Test.YtnnkondlefjkcaaBasic4
import Derived.Test.YtnnkondlefjkcaaMark4
namespace Go.Proofs.Ytnnkondlefjkcaa
open Go.RowKit Tomo

theorem shape_bound {g : Grid} {n k : Nat} (hs : Shape g n k) (h1 : n ≤ 100) (h2 : k ≤ 100) : GBound g := by
  refine ⟨by rw [hs.1]; omega, fun r hr => by rw [hs.2 r hr]; omega, ?_⟩
  have key : ∀ l : Grid, (∀ r ∈ l, r.length ≤ 100) → total l ≤ 100 * l.length := by
    intro l
    induction l with
    | nil => intro _; simp [total]
    | cons r l ih =>
      intro hl
      have i1 := ih (fun r hr => hl r (List.mem_cons_of_mem _ hr))
      have i2 := hl r List.mem_cons_self
      unfold total at *
      rw [List.map_cons, List.sum_cons, List.length_cons]; omega
  have := key g (fun r hr => by rw [hs.2 r hr]; exact h2)
  rw [hs.1] at this
  omega
theorem bgAt_all {ds : List (Int × Int)} (hd : dirsOk ds = true) : ∀ j, j ≤ ds.length → ∃ n k, BgAt ds j n k := by
  intro j
  induction j with
  | zero => intro _; exact ⟨1, 1, BgAt.zero ds⟩
  | succ j ih =>
    intro hj
    obtain ⟨n, k, h⟩ := ih (by omega)
    obtain ⟨⟨x, y⟩, hxy⟩ : ∃ d, ds[j]'(by omega) = d := ⟨_, rfl⟩
    have he : ds[j]? = some (x, y) := by rw [List.getElem?_eq_getElem (by omega), hxy]
    obtain ⟨hx, hy⟩ := dirsOk_at hd he
    exact ⟨_, _, h.succ he hx hy (by have := (dirsOk_len hd).2; omega)⟩
theorem bgRes_bound (ds : List (Int × Int)) : GBound (bgRes ds) := by
  unfold bgRes
  split
  · rename_i h
    have hd := bgOk_dirs h
    obtain ⟨n, k, hb⟩ := bgAt_all hd ds.length (Nat.le_refl _)
    have := (dirsOk_len hd).2
    have h1 := hb.n1
    have h2 := hb.k1
    exact shape_bound hb.s (by omega) (by omega)
  · exact ⟨by simp, (fun r hr => by cases hr), by simp [total]⟩
end Go.Proofs.Ytnnkondlefjkcaa
