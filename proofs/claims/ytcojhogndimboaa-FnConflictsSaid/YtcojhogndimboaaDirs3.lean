/- Lists of directions: when they are valid. -/
import Derived.Test.YtcojhogndimboaaDirs2
import Derived.Deep.RegionHeld3
namespace Go.Proofs.Ytcojhogndimboaa
open Go.RowKit

def anyD (ds : List (Int × Int)) (d : Int × Int) : Bool := ds.any (· == d)
theorem anyD_succ {ds : List (Int × Int)} {k : Nat} {e : Int × Int} (h : ds[k]? = some e) (d : Int × Int) : anyD (ds.take (k + 1)) d = (anyD (ds.take k) d || e == d) := by
  unfold anyD; rw [take_succ_of h, List.any_append]; simp
theorem anyD_hit {ds : List (Int × Int)} {k : Nat} {d : Int × Int} (h : ds[k]? = some d) : anyD ds d = true := by
  unfold anyD; rw [List.any_eq_true]; exact ⟨d, List.mem_of_getElem? h, by simp⟩



def dOkAt (ds : List (Int × Int)) (i : Nat) : Bool := match ds[i]? with | some d => dirOk d.1 d.2 && !anyD (ds.take i) d | none => true
def dirsOk (ds : List (Int × Int)) : Bool := inR ds.length 1 4 && (List.range ds.length).all (dOkAt ds)
theorem dOkAt_eq {ds : List (Int × Int)} {k : Nat} {x y : Int} (h : ds[k]? = some (x, y)) : dOkAt ds k = (dirOk x y && !anyD (ds.take k) (x, y)) := by unfold dOkAt; rw [h]

theorem dirsOk_bad {ds : List (Int × Int)} {k : Nat} (hk : k < ds.length) (h : dOkAt ds k = false) : dirsOk ds = false := by
  unfold dirsOk; rw [range_all_false hk h, Bool.and_false]

end Go.Proofs.Ytcojhogndimboaa
