/- The laws' own helpers for slices of slices: copies, comparisons, sizes. -/
import Derived.Test.YtlhjbpachpjpkaaHelp1
namespace Go.Proofs.Ytlhjbpachpjpkaa
open Go.RowKit

theorem NewInts.at_ {w w' : World} {xs : List Int} (h : NewInts w w' xs) : Ints w' (some ⟨w.heap.size, 0, none⟩) xs := h.row.ints

/-- a new slice of slices: its own row, and behind it a block a row -/
structure NewGrid (w w' : World) (g : List (List Int)) : Prop where
  top : w'.rowIs w.heap.size 28 g.length (fun i => .slice (some ⟨w.heap.size + 1 + i, 0, none⟩) (g[i]?.getD []).length (g[i]?.getD []).length)
  rows : ∀ i, i < g.length → IntRow w' (w.heap.size + 1 + i) (g[i]?.getD [])
  ext : Ext w w'
  size : w'.heap.size = w.heap.size + 1 + g.length

theorem NewGrid.at_ {w w' : World} {g : List (List Int)} (h : NewGrid w w' g) : GridAt w' (some ⟨w.heap.size, 0, none⟩) g := fun k r hk => by
  have hlt : k < g.length := by
    rcases Nat.lt_or_ge k g.length with h1 | h1
    · exact h1
    · rw [List.getElem?_eq_none h1] at hk; cases hk
  have h1 := h.top.cell hlt
  have h2 := (h.rows k hlt).ints
  rw [hk] at h1 h2
  exact ⟨w.heap.size, 0, _, _, rfl, h.top.lt, by simpa using h1, Nat.le_refl _, h2⟩


/-- the number of rows and of all elements -/
def szGrid (g : List (List Int)) : Nat := g.length + (g.map List.length).sum


end Go.Proofs.Ytlhjbpachpjpkaa
