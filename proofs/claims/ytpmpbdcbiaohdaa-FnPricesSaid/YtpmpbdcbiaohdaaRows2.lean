/- The rows of n cells with k black ones: the reference's walk. -/
import Derived.Test.YtpmpbdcbiaohdaaRows1
namespace Go.Proofs.Ytpmpbdcbiaohdaa
open Go.RowKit Tomo

theorem rowsOf_len (n : Nat) : ∀ k : Int, (rowsOf n k).length ≤ 2 ^ n := by
  induction n with
  | zero => intro k; unfold rowsOf; split <;> simp
  | succ n ih =>
    intro k
    unfold rowsOf
    rw [List.length_append, Nat.pow_succ]
    have h1 := ih k
    have h2 := ih (k - 1)
    split <;> split <;> simp <;> omega
theorem OwnGrid.slice {w : World} {B : Nat} {v : Value} {g : List (List Int)} (h : OwnGrid w B v g) : ∃ A c, v = .slice A g.length c ∧ (A = none → g = []) := by
  obtain ⟨us, h1, h2, _⟩ := h
  rcases h2.2 with ⟨hv, h0⟩ | ⟨b, cap, _, hv, _⟩
  · exact ⟨none, 0, by rw [hv, h0], fun _ => List.length_eq_zero_iff.1 h0⟩
  · exact ⟨_, cap, hv, fun h => by cases h⟩
theorem OwnGrid.elt {w : World} {B : Nat} {A : Option Addr} {n c : Nat} {g : List (List Int)} (h : OwnGrid w B (.slice A n c) g) {k : Nat} {r : List Int} (hk : g[k]? = some r) : ∃ b u, A = some ⟨b, 0, none⟩ ∧ B ≤ b ∧ b < w.heap.size ∧ w.cell? ⟨b, k, none⟩ = some u ∧ Own w B u r := by
  have hlt : k < g.length := by
    rcases Nat.lt_or_ge k g.length with h1 | h1
    · exact h1
    · rw [List.getElem?_eq_none h1] at hk; cases hk
  obtain ⟨b, _, hv, _, hBb, _⟩ := h.form (by omega)
  cases hv
  obtain ⟨us, h1, h2, h3, _⟩ := h
  obtain ⟨u, hu, hc, hb⟩ := OwnGrid.us h2 h1 hk
  exact ⟨b, u, rfl, hBb, hb, hc, h3 k u r hu hk⟩
theorem Own.one (w : World) (x : Int) : Own (w.alloc (.cells #[.int .i64 x] 3)) w.heap.size (.slice (some ⟨w.heap.size, 0, none⟩) 1 1) [x] :=
  World.ownsRow_lit (base := w.heap.size) (e := 3) (size := 1) w #[.int .i64 x] 1 (Nat.le_refl _) (by decide) rfl
theorem OwnGrid.one {w : World} {B : Nat} {u : Value} {r : List Int} (hB : B ≤ w.heap.size) (h : Own w B u r) : OwnGrid (w.alloc (.cells #[u] 27)) B (.slice (some ⟨w.heap.size, 0, none⟩) 1 1) [r] := by
  refine ⟨[u], rfl, World.ownsRow_lit (base := B) (e := 27) (size := 1) w #[u] 1 hB (by decide) rfl, fun k u' r' hu hr => ?_, fun i j u1 u2 h1 h2 hij => ?_⟩
  · cases k with
    | zero =>
      have e1 : u = u' := by simpa using hu
      have e2 : r = r' := by simpa using hr
      rw [← e1, ← e2]
      exact h.ext ((Ext.refl w).alloc _)
    | succ k => simp at hu
  · cases i with
    | zero => cases j with
      | zero => exact absurd rfl hij
      | succ j => simp at h2
    | succ i => simp at h1

end Go.Proofs.Ytpmpbdcbiaohdaa
