/- Lists of directions: how they read; the laws' helpers for them. -/
import Derived.Test.YtcojhogndimboaaDirs1
import Derived.Test.YtcojhogndimboaaHelp2
import Derived.Laws.MakeOwn
import Derived.Deep.RegionWith
namespace Go.Proofs.Ytcojhogndimboaa
open Go.RowKit

/-- the slice with this address reads as these directions: two cells each -/
def LDirs (w : World) (A : Option Addr) (ds : List (Int × Int)) : Prop :=
  ∀ k d, ds[k]? = some d → ∃ b o, A = some ⟨b, o, none⟩ ∧ b < w.heap.size ∧ w.cell? ⟨b, o + k * 2, none⟩ = some (.int .i64 d.1) ∧ w.cell? ⟨b, o + k * 2 + 1, none⟩ = some (.int .i64 d.2)

theorem LDirs.ext {w w' : World} {A : Option Addr} {ds : List (Int × Int)} (h : LDirs w A ds) (e : Ext w w') : LDirs w' A ds := fun k d hk => by
  obtain ⟨b, o, h1, h2, h3, h4⟩ := h k d hk
  exact ⟨b, o, h1, Nat.lt_of_lt_of_le h2 e.size, (e.cell (p := ⟨b, o + k * 2, none⟩) h2).trans h3, (e.cell (p := ⟨b, o + k * 2 + 1, none⟩) h2).trans h4⟩

theorem LDirs.at_ {w : World} {A : Option Addr} {ds : List (Int × Int)} (h : LDirs w A ds) {k : Nat} (hk : k < ds.length) :
    ∃ b o x y, A = some ⟨b, o, none⟩ ∧ b < w.heap.size ∧ Hid (ds[k]? = some (x, y)) ∧ w.cell? ⟨b, o + k * 2, none⟩ = some (.int .i64 x) ∧ w.cell? ⟨b, o + k * 2 + 1, none⟩ = some (.int .i64 y) := by
  obtain ⟨b, o, h1, h2, h3, h4⟩ := h k ds[k] (List.getElem?_eq_getElem hk)
  exact ⟨b, o, _, _, h1, h2, Lib.hid (List.getElem?_eq_getElem hk), h3, h4⟩





end Go.Proofs.Ytcojhogndimboaa
