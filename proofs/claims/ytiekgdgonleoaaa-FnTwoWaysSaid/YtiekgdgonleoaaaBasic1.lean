/- Basic ghosts: the plain law of a grid minus its shifted copy. -/
import Derived.Test.YtiekgdgonleoaaaLines3
import Derived.Test.YtiekgdgonleoaaaDirs5
namespace Go.Proofs.Ytiekgdgonleoaaa
open Go.RowKit Tomo

/-- these cells of a grid, shifted: those ahead of (a, b) -/
def shT (g : Grid) (k o e a b i l : Nat) : Int := if o ≤ i ∧ e ≤ l ∧ ((i - o < a ∧ l - e < k) ∨ (i - o = a ∧ l - e < b)) then at2 g (i - o) (l - e) else 0
theorem shT_zero {g : Grid} {k o e a b i l : Nat} (ha : a = 0) (hb : b = 0) : shT g k o e a b i l = 0 := by
  unfold shT; rw [if_neg (by omega)]
theorem shT_row {g : Grid} {k o e a i l : Nat} : shT g k o e a k i l = shT g k o e (a + 1) 0 i l := by
  unfold shT
  by_cases h : o ≤ i ∧ e ≤ l ∧ ((i - o < a ∧ l - e < k) ∨ (i - o = a ∧ l - e < k))
  · rw [if_pos h, if_pos (by omega)]
  · rw [if_neg h, if_neg (by omega)]
theorem shT_put {g : Grid} {k o e a b i l : Nat} (hb : b < k) : shT g k o e a (b + 1) i l = if i = o + a ∧ l = e + b then at2 g a b else shT g k o e a b i l := by
  unfold shT
  by_cases h : i = o + a ∧ l = e + b
  · obtain ⟨rfl, rfl⟩ := h
    rw [if_pos (⟨rfl, rfl⟩ : o + a = o + a ∧ e + b = e + b), if_pos (by omega), Nat.add_sub_cancel_left, Nat.add_sub_cancel_left]
  · rw [if_neg h]
    by_cases h2 : o ≤ i ∧ e ≤ l ∧ ((i - o < a ∧ l - e < k) ∨ (i - o = a ∧ l - e < b))
    · rw [if_pos h2, if_pos (by omega)]
    · rw [if_neg h2, if_neg (by omega)]
theorem shT_here {g : Grid} {k o e a b : Nat} : shT g k o e a b (o + a) (e + b) = 0 := by
  unfold shT; rw [if_neg (by omega)]
theorem shT_bd {g : Grid} {n k o e a b i l : Nat} {C : Int} (hC : 0 ≤ C) (hg : ∀ y x, y < n → x < k → -C ≤ at2 g y x ∧ at2 g y x ≤ C) (ha : a < n ∧ b ≤ k ∨ a = n ∧ b = 0) : -C ≤ shT g k o e a b i l ∧ shT g k o e a b i l ≤ C := by
  unfold shT
  split
  · rename_i h
    exact hg _ _ (by omega) (by omega)
  · omega
/-- the grid in the making: the copies of the cells ahead of (a, b1), minus the shifted copies of those ahead of (a, b2) -/
def MinSt (g : Grid) (n k fo to dx a b1 b2 : Nat) (q : Grid) : Prop := Shape q (n + (fo + to)) (k + dx) ∧ ∀ i l, i < n + (fo + to) → l < k + dx → at2 q i l = shT g k fo 0 a b1 i l - shT g k to dx a b2 i l
theorem MinSt.start {g : Grid} {n k fo to dx : Nat} {q : Grid} (h : Shape q (n + (fo + to)) (k + dx)) (h2 : ∀ i l, i < n + (fo + to) → l < k + dx → at2 q i l = 0) : MinSt g n k fo to dx 0 0 0 q :=
  ⟨h, fun i l hi hl => by rw [h2 i l hi hl, shT_zero rfl rfl, shT_zero rfl rfl]; rfl⟩
theorem Shape.set2 {q : Grid} {N K i0 l0 : Nat} {r : List Int} {c : Int} (h : Shape q N K) (hr : q[i0]? = some r) : Shape (q.set i0 (r.set l0 c)) N K := by
  refine ⟨by rw [List.length_set]; exact h.1, fun r' hr' => ?_⟩
  rcases List.mem_or_eq_of_mem_set hr' with h1 | h1
  · exact h.2 r' h1
  · rw [h1, List.length_set]; exact h.row hr
theorem MinSt.add {g : Grid} {n k fo to dx a b : Nat} {q : Grid} (h : MinSt g n k fo to dx a b b q) (hb : b < k) {r : List Int} {v : Int} (hr : q[fo + a]? = some r) (hv : r[b]? = some v) {c : Int} (hc : at2 g a b = c) : MinSt g n k fo to dx a (b + 1) b (q.set (fo + a) (r.set b (v + c))) := by
  have hrl := h.1.row hr
  refine ⟨h.1.set2 hr, fun i l hi hl => ?_⟩
  rw [at2_set hr (by omega), shT_put hb]
  by_cases e : i = fo + a ∧ l = b
  · obtain ⟨rfl, rfl⟩ := e
    rw [if_pos ⟨rfl, rfl⟩, if_pos (by omega)]
    have h1 := h.2 (fo + a) l hi hl
    rw [at2_of hr hv] at h1
    have h2 := shT_here (g := g) (k := k) (o := fo) (e := 0) (a := a) (b := l)
    rw [Nat.zero_add] at h2
    rw [h2] at h1
    omega
  · rw [if_neg e, if_neg (by omega)]
    exact h.2 i l hi hl
theorem MinSt.sub {g : Grid} {n k fo to dx a b : Nat} {q : Grid} (h : MinSt g n k fo to dx a (b + 1) b q) (hb : b < k) {r : List Int} {v : Int} (hr : q[to + a]? = some r) (hv : r[dx + b]? = some v) {c : Int} (hc : at2 g a b = c) : MinSt g n k fo to dx a (b + 1) (b + 1) (q.set (to + a) (r.set (dx + b) (v - c))) := by
  have hrl := h.1.row hr
  have hlt : dx + b < r.length := (List.getElem?_eq_some_iff.1 hv).1
  refine ⟨h.1.set2 hr, fun i l hi hl => ?_⟩
  rw [at2_set hr hlt, shT_put (o := to) (e := dx) hb]
  by_cases e : i = to + a ∧ l = dx + b
  · obtain ⟨rfl, rfl⟩ := e
    rw [if_pos ⟨rfl, rfl⟩, if_pos ⟨rfl, rfl⟩]
    have h1 := h.2 (to + a) (dx + b) hi hl
    rw [at2_of hr hv, shT_here] at h1
    omega
  · rw [if_neg e, if_neg e]
    exact h.2 i l hi hl
theorem MinSt.row {g : Grid} {n k fo to dx a : Nat} {q : Grid} (h : MinSt g n k fo to dx a k k q) : MinSt g n k fo to dx (a + 1) 0 0 q :=
  ⟨h.1, fun i l hi hl => by rw [h.2 i l hi hl, shT_row, shT_row]⟩
theorem MinSt.bd {g : Grid} {n k fo to dx a b1 b2 : Nat} {q : Grid} {C : Int} (h : MinSt g n k fo to dx a b1 b2 q) (hC : 0 ≤ C) (hg : ∀ y x, y < n → x < k → -C ≤ at2 g y x ∧ at2 g y x ≤ C) (ha : a < n ∧ b1 ≤ k ∧ b2 ≤ k ∨ a = n ∧ b1 = 0 ∧ b2 = 0) {i l : Nat} (hi : i < n + (fo + to)) (hl : l < k + dx) : -(2 * C) ≤ at2 q i l ∧ at2 q i l ≤ 2 * C := by
  rw [h.2 i l hi hl]
  have h1 := shT_bd (g := g) (n := n) (k := k) (o := fo) (e := 0) (a := a) (b := b1) (i := i) (l := l) hC hg (by omega)
  have h2 := shT_bd (g := g) (n := n) (k := k) (o := to) (e := dx) (a := a) (b := b2) (i := i) (l := l) hC hg (by omega)
  omega
/-- a grid minus its copy shifted by a direction -/
def minusF (g : Grid) (n k fo to dx i l : Nat) : Int := shT g k fo 0 n 0 i l - shT g k to dx n 0 i l
def gridOf' (n k : Nat) (F : Nat → Nat → Int) : Grid := (List.range n).map fun i => (List.range k).map fun l => F i l
def minusI (g : Grid) (n k : Nat) (dx dy : Int) : Grid := gridOf' (n + ((-dy).toNat + dy.toNat)) (k + dx.toNat) (minusF g n k (-dy).toNat dy.toNat dx.toNat)
theorem gridOf'_shape (n k : Nat) (F : Nat → Nat → Int) : Shape (gridOf' n k F) n k := by
  refine ⟨by simp [gridOf'], fun r hr => ?_⟩
  obtain ⟨i, _, rfl⟩ := List.mem_map.1 hr
  simp
theorem gridOf'_at (n k : Nat) (F : Nat → Nat → Int) {i l : Nat} (hi : i < n) (hl : l < k) : at2 (gridOf' n k F) i l = F i l := by
  refine at2_of (r := (List.range k).map fun l => F i l) ?_ ?_
  · unfold gridOf'; rw [List.getElem?_map, List.getElem?_range hi]; rfl
  · rw [List.getElem?_map, List.getElem?_range hl]; rfl
theorem MinSt.done {g : Grid} {n k : Nat} {dx dy : Int} {q : Grid} (h : MinSt g n k (-dy).toNat dy.toNat dx.toNat n 0 0 q) : q = minusI g n k dx dy :=
  grid_ext h.1 (gridOf'_shape _ _ _) (fun i l hi hl => by
    rw [h.2 i l hi hl]
    unfold minusI
    rw [gridOf'_at _ _ _ hi hl]; rfl)
/-- the basic ghost of the first directions -/
def bgAt (ds : List (Int × Int)) : Nat → Grid
  | 0 => [[1]]
  | j + 1 => match ds[j]? with
    | some d => minusI (bgAt ds j) (ghR ds j).toNat (ghC ds j).toNat d.1 d.2
    | none => bgAt ds j
def bgI (ds : List (Int × Int)) : Grid := bgAt ds ds.length
theorem gh_step {ds : List (Int × Int)} {j : Nat} {dx dy : Int} (h : ds[j]? = some (dx, dy)) (hx : 0 ≤ dx) : ghR ds (j + 1) = ghR ds j + ((-dy).toNat + dy.toNat : Nat) ∧ ghC ds (j + 1) = ghC ds j + (dx.toNat : Nat) := by
  unfold ghR ghC
  rw [take_succ_of h, List.map_append, List.map_append, List.sum_append, List.sum_append]
  simp only [List.map_cons, List.map_nil, List.sum_cons, List.sum_nil]
  omega
end Go.Proofs.Ytiekgdgonleoaaa
