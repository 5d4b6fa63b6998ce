/- The sums of an image's rows and columns, in the reference and in the program. -/
import Derived.Test.YtmffhmokbifadaaTrans
import Derived.Test.YtmffhmokbifadaaTomoSums
namespace Go.Proofs.Ytmffhmokbifadaa
open Go.RowKit

def rsI (m : List (List Int)) : List Int := if gridOk m 0 1 = true then m.map List.sum else []
def csI (m : List (List Int)) : List Int := if gridOk m 0 1 = true then (tr m).map List.sum else []
theorem Ints.one {w : World} {x : Int} {n : Nat} (h : n = w.heap.size) : Ints (w.alloc (.cells #[.int .i64 x] 3)) (some ⟨n, 0, none⟩) [x] := fun j z hj => by
  subst h
  cases j with
  | zero =>
    have : x = z := by simpa using hj
    exact ⟨w.heap.size, 0, rfl, by simp, by rw [← this]; exact new_cell rfl⟩
  | succ j => simp at hj
theorem gridOk_row {m : List (List Int)} (h : gridOk m 0 1 = true) {r : List Int} (hr : r ∈ m) : r.length ≤ 5 ∧ Small r := by
  obtain ⟨h1, h2⟩ := gridOk_iff.1 h
  obtain ⟨_, k1, k2⟩ := h2 r hr
  exact ⟨by omega, small_of k2 (by omega) (by omega)⟩
theorem map_take_succ {m : List (List Int)} {k : Nat} {r : List Int} (h : m[k]? = some r) : (m.map List.sum).take (k + 1) = (m.map List.sum).take k ++ [r.sum] :=
  take_succ_of (by rw [List.getElem?_map, h]; rfl)




end Go.Proofs.Ytmffhmokbifadaa
