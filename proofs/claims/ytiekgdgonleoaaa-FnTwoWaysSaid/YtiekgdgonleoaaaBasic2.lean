/- Basic ghosts: the reference's grid minus its shifted copy. -/
import Derived.Test.YtiekgdgonleoaaaBasic1
import Derived.Test.YtiekgdgonleoaaaCopy
import Derived.IntWalk
import Derived.Deep.DeepCutAuto
import Derived.Deep.RegionHeld3
namespace Go.Proofs.Ytiekgdgonleoaaa
open Go.RowKit Tomo

theorem minusI_shape (g : Grid) (n k : Nat) (dx dy : Int) : Shape (minusI g n k dx dy) (n + ((-dy).toNat + dy.toNat)) (k + dx.toNat) := gridOf'_shape _ _ _
theorem minusI_bd {g : Grid} {n k : Nat} {dx dy C : Int} (hC : 0 ≤ C) (hg : ∀ y x, y < n → x < k → -C ≤ at2 g y x ∧ at2 g y x ≤ C) {i l : Nat} (hi : i < n + ((-dy).toNat + dy.toNat)) (hl : l < k + dx.toNat) : -(2 * C) ≤ at2 (minusI g n k dx dy) i l ∧ at2 (minusI g n k dx dy) i l ≤ 2 * C := by
  unfold minusI
  rw [gridOf'_at _ _ _ hi hl]
  unfold minusF
  have h1 := shT_bd (g := g) (n := n) (k := k) (o := (-dy).toNat) (e := 0) (a := n) (b := 0) (i := i) (l := l) hC hg (by omega)
  have h2 := shT_bd (g := g) (n := n) (k := k) (o := dy.toNat) (e := dx.toNat) (a := n) (b := 0) (i := i) (l := l) hC hg (by omega)
  omega
theorem zeros_shape (N K : Nat) : Shape (List.replicate N (List.replicate K (0 : Int))) N K :=
  ⟨List.length_replicate, fun r hr => by rw [List.eq_of_mem_replicate hr, List.length_replicate]⟩
theorem zeros_at {N K i l : Nat} (hi : i < N) (hl : l < K) : at2 (List.replicate N (List.replicate K (0 : Int))) i l = 0 :=
  at2_of (r := List.replicate K 0) (by rw [List.getElem?_replicate, if_pos hi]) (by rw [List.getElem?_replicate, if_pos hl])

/-- a row lies in a block of its own -/
theorem OwnGrid.row_ne {w : World} {B b n c R m c' : Nat} {g : List (List Int)} (h : OwnGrid w B (.slice (some ⟨b, 0, none⟩) n c) g) {k : Nat} {r : List Int} (hk : g[k]? = some r) (hc : w.cell? ⟨b, k, none⟩ = some (.slice (some ⟨R, 0, none⟩) m c')) : b ≠ R := by
  obtain ⟨us, h1, h2, h3, h4⟩ := h
  obtain ⟨u, hu, hc2, _⟩ := OwnGrid.us h2 h1 hk
  rw [hc] at hc2
  cases hc2
  rcases kinds_apart h2 (h3 k _ r hu hk) with h5 | h5
  · cases h5
  · intro e
    subst e
    exact h5 rfl
end Go.Proofs.Ytiekgdgonleoaaa
