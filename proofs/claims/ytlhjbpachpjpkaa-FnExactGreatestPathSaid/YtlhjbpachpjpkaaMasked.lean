/- Images that meet a mask: how many, and which. -/
import Derived.Test.YtlhjbpachpjpkaaPick
import Derived.Test.YtlhjbpachpjpkaaReA
namespace Go.Proofs.Ytlhjbpachpjpkaa
open Go.RowKit Tomo

noncomputable def maskedI (mask : Grid) (rows cols : List Int) : List Grid := (allI rows cols).filter fun m => meets m mask
noncomputable def maskedCount (mask : Grid) (rows cols : List Int) : Int := if maskOk mask rows cols = true then ((maskedI mask rows cols).length : Int) else -1
theorem filter_take_succ {α : Type} {l : List α} {k : Nat} {x : α} (h : l[k]? = some x) (p : α → Bool) : (l.take (k + 1)).filter p = (l.take k).filter p ++ (if p x = true then [x] else []) := by
  rw [take_succ_of h, List.filter_append]
  by_cases hp : p x = true <;> simp [hp]
theorem filter_take_le {α : Type} (l : List α) (k : Nat) (p : α → Bool) : ((l.take k).filter p).length ≤ l.length :=
  Nat.le_trans (List.length_filter_le _ _) (by rw [List.length_take]; omega)



end Go.Proofs.Ytlhjbpachpjpkaa
