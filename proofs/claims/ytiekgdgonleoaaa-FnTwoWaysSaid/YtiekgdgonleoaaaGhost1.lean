/- A grid added to an image: the plain law. -/
import Derived.Test.YtiekgdgonleoaaaLines3
import Derived.Test.YtiekgdgonleoaaaTrans
import Derived.Test.YtiekgdgonleoaaaPaint1
import Derived.Test.YtiekgdgonleoaaaRead4
namespace Go.Proofs.Ytiekgdgonleoaaa
open Go.RowKit Tomo

theorem Img.head3 {m : Grid} {n k : Nat} (h : Img m n k) {w : World} {b o : Nat} (hg : GridAt w (some ⟨b, o, none⟩) m) : ∃ R c, w.cell? ⟨b, o, none⟩ = some (.slice R k c) := by
  obtain ⟨R, c, r, hr, hq, _⟩ := hg.at1 (k := 0) (by rw [h.1.1]; have := h.2.1.1; omega)
  exact ⟨R, c, by rw [Nat.add_zero] at hq; rw [hq, h.1.row hr.out]⟩
def gridF (n k : Nat) (F : Nat → Nat → Int) : Grid := (List.range n).map fun i => (List.range k).map fun l => F i l
theorem gridF_shape (n k : Nat) (F : Nat → Nat → Int) : Shape (gridF n k F) n k := by
  refine ⟨by simp [gridF], fun r hr => ?_⟩
  obtain ⟨i, _, rfl⟩ := List.mem_map.1 hr
  simp
theorem gridF_at (n k : Nat) (F : Nat → Nat → Int) {i l : Nat} (hi : i < n) (hl : l < k) : at2 (gridF n k F) i l = F i l := by
  refine at2_of (r := (List.range k).map fun l => F i l) ?_ ?_
  · unfold gridF; rw [List.getElem?_map, List.getElem?_range hi]; rfl
  · rw [List.getElem?_map, List.getElem?_range hl]; rfl
/-- a cell of the image with the first cells of the grid added -/
def addF (m g : Grid) (gk y x a b : Nat) (i l : Nat) : Int := at2 m i l + (if (y ≤ i ∧ x ≤ l ∧ l < x + gk) ∧ (i < y + a ∨ (i = y + a ∧ l < x + b)) then at2 g (i - y) (l - x) else 0)
def AddSt (n k : Nat) (m g : Grid) (gk y x a b : Nat) (q : Grid) : Prop := Shape q n k ∧ ∀ i l, i < n → l < k → at2 q i l = addF m g gk y x a b i l
theorem AddSt.start {n k : Nat} {m g : Grid} {gk y x : Nat} (h : Shape m n k) : AddSt n k m g gk y x 0 0 m :=
  ⟨h, fun i l _ _ => by unfold addF; rw [if_neg (by omega)]; omega⟩
theorem AddSt.row {n k : Nat} {m g q : Grid} {gk y x a : Nat} (h : AddSt n k m g gk y x a gk q) : AddSt n k m g gk y x (a + 1) 0 q := by
  refine ⟨h.1, fun i l hi hl => ?_⟩
  rw [h.2 i l hi hl]
  unfold addF
  by_cases hc : (y ≤ i ∧ x ≤ l ∧ l < x + gk) ∧ (i < y + a ∨ (i = y + a ∧ l < x + gk))
  · rw [if_pos hc, if_pos (by omega)]
  · rw [if_neg hc, if_neg (by omega)]
theorem AddSt.cell {n k : Nat} {m g q : Grid} {gk y x a b : Nat} (h : AddSt n k m g gk y x a b q) (h1 : y + a < n) (h2 : x + b < k) : at2 q (y + a) (x + b) = at2 m (y + a) (x + b) := by
  rw [h.2 _ _ h1 h2]
  unfold addF
  rw [if_neg (by omega)]; omega
theorem AddSt.put {n k : Nat} {m g q : Grid} {gk y x a b : Nat} {r : List Int} {o c : Int} (h : AddSt n k m g gk y x a b q) (h1 : y + a < n) (h2 : x + b < k) (hb : b < gk) (hr : q[y + a]? = some r) (ho : at2 q (y + a) (x + b) = o) (hc : at2 g a b = c) : AddSt n k m g gk y x a (b + 1) (q.set (y + a) (r.set (x + b) (o + c))) := by
  have hrl := h.1.row hr
  refine ⟨h.1.set (by rw [List.length_set]; exact hrl), fun i l hi hl => ?_⟩
  rw [at2_set hr (by omega)]
  by_cases he : i = y + a ∧ l = x + b
  · obtain ⟨rfl, rfl⟩ := he
    rw [if_pos ⟨rfl, rfl⟩]
    unfold addF
    rw [if_pos (by omega), Nat.add_sub_cancel_left, Nat.add_sub_cancel_left, hc, ← ho, h.cell h1 h2]
  · rw [if_neg he, h.2 i l hi hl]
    unfold addF
    by_cases hcnd : (y ≤ i ∧ x ≤ l ∧ l < x + gk) ∧ (i < y + a ∨ (i = y + a ∧ l < x + b))
    · rw [if_pos hcnd, if_pos (by omega)]
    · rw [if_neg hcnd, if_neg (by omega)]
def sumG (m g : Grid) (y x : Nat) : Grid := gridF m.length (m.headD []).length (addF m g (g.headD []).length y x g.length 0)
/-- the tests that go ahead of the sum -/
def addPre (m g : Grid) (y x : Int) : Bool := gridOk m 0 1 && (gridOk g (-1) 1 && (inR y 0 ((m.length : Int) - g.length) && inR x 0 (((m.headD []).length : Int) - (g.headD []).length)))
def addOk (m g : Grid) (y x : Int) : Bool := addPre m g y x && gridOk (sumG m g y.toNat x.toNat) 0 1
def addI (m g : Grid) (y x : Int) : Grid := if addOk m g y x = true then sumG m g y.toNat x.toNat else []
theorem AddSt.sum {m g q : Grid} {n k gn gk y x : Nat} (h : AddSt n k m g gk y x gn 0 q) (h1 : m.length = n) (h2 : (m.headD []).length = k) (h3 : g.length = gn) (h4 : (g.headD []).length = gk) : q = sumG m g y x := by
  unfold sumG
  rw [h1, h2, h3, h4]
  refine grid_ext h.1 (gridF_shape n k _) (fun i l hi hl => ?_)
  rw [h.2 i l hi hl, gridF_at n k _ hi hl]
theorem addOk_bad {m g : Grid} {y x : Int} (h : addPre m g y x = false) : addOk m g y x = false ∧ addI m g y x = [] := by
  have h1 : addOk m g y x = false := by unfold addOk; rw [h]; rfl
  exact ⟨h1, by unfold addI; rw [h1]; rfl⟩
theorem gridOk_cell {g : Grid} {lo hi : Int} {a b : Nat} {r : List Int} {c : Int} (hr : g[a]? = some r) (hc : r[b]? = some c) (h : inR c lo hi = false) : gridOk g lo hi = false := by
  cases e : gridOk g lo hi
  · rfl
  · obtain ⟨_, h2⟩ := gridOk_iff.1 e
    have h3 := (h2 r (List.mem_of_getElem? hr)).2.2
    have := (List.all_eq_true.1 h3) c (List.mem_of_getElem? hc)
    rw [this] at h; cases h
end Go.Proofs.Ytiekgdgonleoaaa
