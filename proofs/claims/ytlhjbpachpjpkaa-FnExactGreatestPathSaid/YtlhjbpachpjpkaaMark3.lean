/- Marks: lists of images. -/
import Derived.Test.YtlhjbpachpjpkaaMaA
import Derived.Test.YtlhjbpachpjpkaaLeast
namespace Go.Proofs.Ytlhjbpachpjpkaa
open Go.RowKit Tomo

def GsBound (gs : List Grid) : Prop := gs.length ≤ 1000000000 ∧ (∀ g ∈ gs, GBound g) ∧ totals gs ≤ 1000000000
theorem totals_le {gs : List Grid} {M : Nat} (h : ∀ g ∈ gs, total g ≤ M) : totals gs ≤ gs.length * M := by
  induction gs with
  | nil => simp [totals]
  | cons g gs ih =>
    have h1 := ih (fun g hg => h g (List.mem_cons_of_mem _ hg))
    have h2 := h g List.mem_cons_self
    unfold totals at *
    rw [List.map_cons, List.sum_cons, List.length_cons, Nat.add_mul, Nat.one_mul]; omega
theorem img_total {g : Grid} {n k : Nat} (h : Img g n k) : total g ≤ 25 := by
  have h2 := h.2.1.2
  have h3 := h.2.2.1.2
  have key : ∀ l : Grid, (∀ r ∈ l, r.length ≤ 5) → total l ≤ l.length * 5 := by
    intro l
    induction l with
    | nil => intro _; simp [total]
    | cons r l ih =>
      intro hl
      have i1 := ih (fun r hr => hl r (List.mem_cons_of_mem _ hr))
      have i2 := hl r List.mem_cons_self
      unfold total at *
      rw [List.map_cons, List.sum_cons, List.length_cons, Nat.add_mul, Nat.one_mul]; omega
  have h4 := key g (fun r hr => by rw [h.1.2 r hr]; exact h3)
  have h5 := h.1.1
  have h6 : g.length * 5 ≤ 5 * 5 := Nat.mul_le_mul_right 5 (by omega)
  omega
theorem allI_bound (rows cols : List Int) : GsBound (allI rows cols) := by
  have h1 := allI_len rows cols
  have h2 := totals_le (gs := allI rows cols) (M := 25) (fun g hg => img_total (allI_img hg))
  have h3 : (allI rows cols).length * 25 ≤ 33554432 * 25 := Nat.mul_le_mul_right 25 h1
  exact ⟨by omega, fun g hg => img_bound (allI_img hg), by omega⟩
theorem nils_bound : GsBound [] := ⟨by simp, (fun g hg => by cases hg), by simp [totals]⟩

theorem OwnGrid.rowVal_same {w w' : World} {B : Nat} {u p : Value} {g : Grid} (h : OwnGrid w B u g) (k : Same 28 w w') (hp : RowVal w' u p) : RowVal w u p := by
  refine hp.bwd fun b hb => ?_
  obtain ⟨us1, k1, k2, _⟩ := h
  rcases k2.2 with ⟨hv, _⟩ | ⟨g1, cap, cur, hv, _, hg1, _⟩
  · rw [hv] at hb; cases hb
  · rw [hv] at hb
    have e : g1 = b := by simpa [Value.ownBlock] using hb
    subst e
    exact (k _ _ _ hg1).trans hg1.symm
theorem OwnGridsIn.setGrid {w w' : World} {lo hi b n c : Nat} {gs : List Grid} {u : Value} {g g' : Grid} {i : Nat} (h : OwnGridsIn w lo hi (.slice (some ⟨b, 0, none⟩) n c) gs) (hg : gs[i]? = some g) (hc : w.cell? ⟨b, i, none⟩ = some u) (ho : OwnGrid w' lo u g') (hon : Only w w' fun k => ∃ p, RowVal w u p ∧ p.ownBlock = some k) :
    OwnGridsIn w' lo hi (.slice (some ⟨b, 0, none⟩) n c) (gs.set i g') ∧ Only w w' (fun k => lo ≤ k ∧ k < hi) := by
  obtain ⟨h1, h2, h3⟩ := h
  obtain ⟨k1, k2, k3⟩ := h1.setGrid hg hc ho hon
  have hi' : i < n := by
    have := (List.getElem?_eq_some_iff.1 hg).1
    obtain ⟨us, q1, q2, _⟩ := h1
    rcases q2.2 with ⟨hv, _⟩ | ⟨_, _, _, hv, _⟩ <;> cases hv
    exact this
  have hru : RowVal w (.slice (some ⟨b, 0, none⟩) n c) u := ⟨b, n, c, i, rfl, hi', hc⟩
  refine ⟨⟨k1, h2, fun u' hu' => ?_⟩, hon.mono fun k ⟨p, hp, hk⟩ => ?_⟩
  · have hu0 := RowVal.back k2 hu'
    obtain ⟨_, g1, _, ho1⟩ := h1.imgVal hu0
    exact ⟨(h3 u' hu0).1, fun p hp => (h3 u' hu0).2 p (ho1.rowVal_same k3 hp)⟩
  · obtain ⟨_, g1, _, ho1⟩ := h1.imgVal hru
    exact ⟨(ho1.rowVal_lt hp hk).1, (h3 u hru).2 p hp k hk⟩



end Go.Proofs.Ytlhjbpachpjpkaa
