/- A size that determines; the opening of an argument of directions. -/
import Derived.Test.YtnnkondlefjkcaaDirs5
import Derived.Test.YtnnkondlefjkcaaRow
import Derived.Deep.Slices
import Derived.Deep.Fields
import Derived.ChangeSame
namespace Go.Proofs.Ytnnkondlefjkcaa
open Go.RowKit

theorem ghR_ge {ds : List (Int × Int)} (k : Nat) : 1 ≤ ghR ds k := by
  have key : ∀ l : List (Int × Int), 0 ≤ (l.map fun d => max d.2 (-d.2)).sum := by
    intro l
    induction l with
    | nil => simp
    | cons d l ih => rw [List.map_cons, List.sum_cons]; omega
  have := key (ds.take k)
  unfold ghR; omega
theorem gh_bounds {ds : List (Int × Int)} (h : dirsOk ds = true) (k : Nat) (hk : k ≤ ds.length) : ghR ds k ≤ 1 + 3 * k ∧ ghC ds k ≤ 1 + 3 * k ∧ 1 ≤ ghC ds k := by
  induction k with
  | zero => simp [ghR, ghC]
  | succ k ih =>
    obtain ⟨⟨x, y⟩, hd⟩ : ∃ d, ds[k]'(by omega) = d := ⟨_, rfl⟩
    have he : ds[k]? = some (x, y) := by rw [List.getElem?_eq_getElem (by omega), hd]
    have := ih (by omega)
    have := dirsOk_at h he
    rw [ghR_succ he, ghC_succ he]
    omega

def isDet (a b : Int) (ds : List (Int × Int)) : Bool := inR a 1 5 && inR b 1 5 && dirsOk ds && (decide (a < (ghSize ds).1) || decide (b < (ghSize ds).2))


end Go.Proofs.Ytnnkondlefjkcaa
