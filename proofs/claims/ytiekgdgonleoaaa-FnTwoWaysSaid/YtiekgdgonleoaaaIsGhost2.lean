/- IsGhost in the reference. -/
import Derived.Test.YtiekgdgonleoaaaLines5
import Derived.Test.YtiekgdgonleoaaaIsGhost1
namespace Go.Proofs.Ytiekgdgonleoaaa
open Go.RowKit Tomo

theorem zero_step {r : List Int} {b : Nat} {z : Int} (h : r[b]? = some z) : zeroL (r.take (b + 1)) = (zeroL (r.take b) && z == 0) := by
  unfold zeroL allIn
  rw [take_all_succ h]
  congr 1
  rw [Bool.eq_iff_iff, inR_iff, beq_iff_eq]
  omega
theorem zeroL_bad {r : List Int} {b : Nat} {z : Int} (h : r[b]? = some z) (hz : z ≠ 0) : zeroL r = false := by
  unfold zeroL allIn
  refine List.all_eq_false.2 ⟨z, List.mem_of_getElem? h, ?_⟩
  rw [inR_iff]; omega

end Go.Proofs.Ytiekgdgonleoaaa
