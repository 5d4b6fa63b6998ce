/- The laws' own helpers: copies of slices, comparisons of slices, their sizes. -/
import Derived.Test.YtpmpbdcbiaohdaaMem
import Derived.Deep.OwnRows
namespace Go.Proofs.Ytpmpbdcbiaohdaa
open Go.RowKit

theorem infoInt : (Try.prog.info? 3).map (fun i => (i.zero, i.size, i.bytes)) = some (some (.int .i64 0), 1, 8) := by kernel_rfl
theorem infoInts : (Try.prog.info? 27).map (fun i => (i.zero, i.size, i.bytes)) = some (some (.slice none 0 0), 1, 24) := by kernel_rfl

/-- block b is a row of these numbers, and of nothing else; it may be written -/
def IntRow (w : World) (b : Nat) (xs : List Int) : Prop := w.rowIs b 3 xs.length (fun i => .int .i64 (xs[i]?.getD 0))

theorem IntRow.ints {w : World} {b : Nat} {xs : List Int} (h : IntRow w b xs) : Ints w (some ⟨b, 0, none⟩) xs := fun k x hk => by
  have hlt : k < xs.length := by
    rcases Nat.lt_or_ge k xs.length with h1 | h1
    · exact h1
    · rw [List.getElem?_eq_none h1] at hk; cases hk
  refine ⟨b, 0, rfl, h.lt, ?_⟩
  have := h.cell hlt
  rw [hk] at this
  simpa using this

theorem IntRow.ext {w w' : World} {b : Nat} {xs : List Int} (h : IntRow w b xs) (e : Ext w w') : IntRow w' b xs := h.of_block (e.block b h.lt)

/-- the world with a new row of these numbers, its first new block -/
structure NewInts (w w' : World) (xs : List Int) : Prop where
  row : IntRow w' w.heap.size xs
  ext : Ext w w'
  size : w'.heap.size = w.heap.size + 1

/-- at most draws -/
def Drew (w w' : World) : Prop := ∃ n, w' = w.drewN n
theorem Drew.refl (w : World) : Drew w w := ⟨0, rfl⟩
theorem Drew.ext {w w' : World} (h : Drew w w') : Ext w w' := by obtain ⟨n, rfl⟩ := h; exact (Ext.refl w).drewN n
theorem Drew.drewN {w w' : World} (h : Drew w w') (n : Nat) : Drew w (w'.drewN n) := by obtain ⟨m, rfl⟩ := h; exact ⟨m + n, by rw [World.drewN_drewN]⟩


end Go.Proofs.Ytpmpbdcbiaohdaa
