/- Texts merged: Dirs1 Dirs2 Dirs3. -/
import Derived.Test.YtlhjbpachpjpkaaReA
import Derived.Deep.OwnRows
import Derived.Test.YtlhjbpachpjpkaaHelp2
import Derived.Laws.MakeOwn
import Derived.Deep.RegionWith
import Derived.Deep.RegionHeld3
namespace Go.Proofs.Ytlhjbpachpjpkaa
open Go.RowKit

def dirOk (dx dy : Int) : Bool := inR dx 0 3 && inR dy (-3) 3 && (Int.gcd dx dy == 1) && (decide (0 < dx) || dy == 1)

theorem dir_cases {dx dy : Int} (h1 : inR dx 0 3 = true) (h2 : inR dy (-3) 3 = true) : (dx = 0 ∨ dx = 1 ∨ dx = 2 ∨ dx = 3) ∧ (dy = -3 ∨ dy = -2 ∨ dy = -1 ∨ dy = 0 ∨ dy = 1 ∨ dy = 2 ∨ dy = 3) := by
  have := inR_iff.1 h1
  have := inR_iff.1 h2
  omega

/-- no number greater than 1 divides both -/
theorem dirOk_div {dx dy : Int} (h1 : inR dx 0 3 = true) (h2 : inR dy (-3) 3 = true) :
    dirOk dx dy = (!(dx == 0 && dy != 1) && !(dx % 2 == 0 && dy.tmod 2 == 0) && !(dx % 3 == 0 && dy.tmod 3 == 0)) := by
  obtain ⟨h3, h4⟩ := dir_cases h1 h2
  rcases h3 with rfl | rfl | rfl | rfl <;> rcases h4 with rfl | rfl | rfl | rfl | rfl | rfl | rfl <;> decide



end Go.Proofs.Ytlhjbpachpjpkaa

namespace Go.Proofs.Ytlhjbpachpjpkaa
open Go.RowKit

/-- the slice with this address reads as these directions: two cells each -/
def LDirs (w : World) (A : Option Addr) (ds : List (Int × Int)) : Prop :=
  ∀ k d, ds[k]? = some d → ∃ b o, A = some ⟨b, o, none⟩ ∧ b < w.heap.size ∧ w.cell? ⟨b, o + k * 2, none⟩ = some (.int .i64 d.1) ∧ w.cell? ⟨b, o + k * 2 + 1, none⟩ = some (.int .i64 d.2)

theorem LDirs.ext {w w' : World} {A : Option Addr} {ds : List (Int × Int)} (h : LDirs w A ds) (e : Ext w w') : LDirs w' A ds := fun k d hk => by
  obtain ⟨b, o, h1, h2, h3, h4⟩ := h k d hk
  exact ⟨b, o, h1, Nat.lt_of_lt_of_le h2 e.size, (e.cell (p := ⟨b, o + k * 2, none⟩) h2).trans h3, (e.cell (p := ⟨b, o + k * 2 + 1, none⟩) h2).trans h4⟩

theorem LDirs.at_ {w : World} {A : Option Addr} {ds : List (Int × Int)} (h : LDirs w A ds) {k : Nat} (hk : k < ds.length) :
    ∃ b o x y, A = some ⟨b, o, none⟩ ∧ b < w.heap.size ∧ Hid (ds[k]? = some (x, y)) ∧ w.cell? ⟨b, o + k * 2, none⟩ = some (.int .i64 x) ∧ w.cell? ⟨b, o + k * 2 + 1, none⟩ = some (.int .i64 y) := by
  obtain ⟨b, o, h1, h2, h3, h4⟩ := h k ds[k] (List.getElem?_eq_getElem hk)
  exact ⟨b, o, _, _, h1, h2, Lib.hid (List.getElem?_eq_getElem hk), h3, h4⟩





end Go.Proofs.Ytlhjbpachpjpkaa

namespace Go.Proofs.Ytlhjbpachpjpkaa
open Go.RowKit

def anyD (ds : List (Int × Int)) (d : Int × Int) : Bool := ds.any (· == d)
theorem anyD_succ {ds : List (Int × Int)} {k : Nat} {e : Int × Int} (h : ds[k]? = some e) (d : Int × Int) : anyD (ds.take (k + 1)) d = (anyD (ds.take k) d || e == d) := by
  unfold anyD; rw [take_succ_of h, List.any_append]; simp
theorem anyD_hit {ds : List (Int × Int)} {k : Nat} {d : Int × Int} (h : ds[k]? = some d) : anyD ds d = true := by
  unfold anyD; rw [List.any_eq_true]; exact ⟨d, List.mem_of_getElem? h, by simp⟩



def dOkAt (ds : List (Int × Int)) (i : Nat) : Bool := match ds[i]? with | some d => dirOk d.1 d.2 && !anyD (ds.take i) d | none => true
def dirsOk (ds : List (Int × Int)) : Bool := inR ds.length 1 4 && (List.range ds.length).all (dOkAt ds)
theorem dOkAt_eq {ds : List (Int × Int)} {k : Nat} {x y : Int} (h : ds[k]? = some (x, y)) : dOkAt ds k = (dirOk x y && !anyD (ds.take k) (x, y)) := by unfold dOkAt; rw [h]

theorem dirsOk_bad {ds : List (Int × Int)} {k : Nat} (hk : k < ds.length) (h : dOkAt ds k = false) : dirsOk ds = false := by
  unfold dirsOk; rw [range_all_false hk h, Bool.and_false]

end Go.Proofs.Ytlhjbpachpjpkaa
