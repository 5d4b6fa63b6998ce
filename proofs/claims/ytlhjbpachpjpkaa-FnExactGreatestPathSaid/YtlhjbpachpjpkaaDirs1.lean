/- Directions: when they are valid. -/
import Derived.Test.YtlhjbpachpjpkaaReA
import Derived.Deep.OwnRows
namespace Go.Proofs.Ytlhjbpachpjpkaa
open Go.RowKit

def dirOk (dx dy : Int) : Bool := inR dx 0 3 && inR dy (-3) 3 && (Int.gcd dx dy == 1) && (decide (0 < dx) || dy == 1)

theorem dir_cases {dx dy : Int} (h1 : inR dx 0 3 = true) (h2 : inR dy (-3) 3 = true) : (dx = 0 ∨ dx = 1 ∨ dx = 2 ∨ dx = 3) ∧ (dy = -3 ∨ dy = -2 ∨ dy = -1 ∨ dy = 0 ∨ dy = 1 ∨ dy = 2 ∨ dy = 3) := by
  have := inR_iff.1 h1
  have := inR_iff.1 h2
  omega

/-- no number greater than 1 divides both -/
theorem dirOk_div {dx dy : Int} (h1 : inR dx 0 3 = true) (h2 : inR dy (-3) 3 = true) :
    dirOk dx dy = (!(dx == 0 && dy != 1) && !(dx % 2 == 0 && dy.tmod 2 == 0) && !(dx % 3 == 0 && dy.tmod 3 == 0)) := by
  obtain ⟨h3, h4⟩ := dir_cases h1 h2
  rcases h3 with rfl | rfl | rfl | rfl <;> rcases h4 with rfl | rfl | rfl | rfl | rfl | rfl | rfl <;> decide



end Go.Proofs.Ytlhjbpachpjpkaa
