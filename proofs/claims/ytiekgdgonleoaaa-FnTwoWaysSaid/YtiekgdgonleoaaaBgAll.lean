/- The ghosts on the way. -/
import Derived.Test.YtiekgdgonleoaaaBasic4
namespace Go.Proofs.Ytiekgdgonleoaaa
open Go.RowKit Tomo

theorem bgAt_all {ds : List (Int × Int)} (hd : dirsOk ds = true) : ∀ j, j ≤ ds.length → ∃ n k, BgAt ds j n k := by
  intro j
  induction j with
  | zero => intro _; exact ⟨1, 1, BgAt.zero ds⟩
  | succ j ih =>
    intro hj
    obtain ⟨n, k, h⟩ := ih (by omega)
    obtain ⟨⟨x, y⟩, hxy⟩ : ∃ d, ds[j]'(by omega) = d := ⟨_, rfl⟩
    have he : ds[j]? = some (x, y) := by rw [List.getElem?_eq_getElem (by omega), hxy]
    obtain ⟨hx, hy⟩ := dirsOk_at hd he
    exact ⟨_, _, h.succ he hx hy (by have := (dirsOk_len hd).2; omega)⟩
end Go.Proofs.Ytiekgdgonleoaaa
