/- Wiping a piece out of an image: what it leaves. -/
import Derived.Test.YtlhjbpachpjpkaaTrans
namespace Go.Proofs.Ytlhjbpachpjpkaa
open Go.RowKit

/-- the cell, or -1 outside -/
def cellI (m : List (List Int)) (y x : Int) : Int := if 0 ≤ y ∧ 0 ≤ x then (match m[y.toNat]? with | some r => r[x.toNat]?.getD (-1) | none => -1) else -1
theorem cellI_of {m : List (List Int)} {i j : Nat} {r : List Int} {c : Int} (h : m[i]? = some r) (k : r[j]? = some c) : cellI m i j = c := by
  unfold cellI
  rw [if_pos ⟨by omega, by omega⟩, Int.toNat_natCast, Int.toNat_natCast, h]
  simp [k]
theorem cellI_out {m : List (List Int)} {n k : Nat} (hs : Shape m n k) {y x : Int} (h : ¬ (0 ≤ y ∧ y ≤ n - 1) ∨ ¬ (0 ≤ x ∧ x ≤ k - 1)) : cellI m y x = -1 := by
  unfold cellI
  by_cases h0 : 0 ≤ y ∧ 0 ≤ x
  · rw [if_pos h0]
    cases e : m[y.toNat]? with
    | none => rfl
    | some r =>
      have hl : y.toNat < m.length := by
        rcases Nat.lt_or_ge y.toNat m.length with h1 | h1
        · exact h1
        · rw [List.getElem?_eq_none h1] at e; cases e
      have h1 := hs.1
      have h2 := hs.row e
      show r[x.toNat]?.getD (-1) = -1
      rw [List.getElem?_eq_none (by omega)]; rfl
  · rw [if_neg h0]

/-- what wiping from a cell leaves -/
inductive Paint : List (List Int) → Int → Int → List (List Int) → Prop
  | stop (m : List (List Int)) (y x : Int) : cellI m y x ≠ 1 → Paint m y x m
  | go (m : List (List Int)) (i j : Nat) (r : List Int) (a b c d : List (List Int)) : m[i]? = some r → r[j]? = some 1 → Paint (m.set i (r.set j 0)) (i - 1) j a → Paint a (i + 1) j b → Paint b i (j - 1) c → Paint c i (j + 1) d → Paint m i j d
theorem Paint.det {m q : List (List Int)} {y x : Int} (h : Paint m y x q) : ∀ q', Paint m y x q' → q = q' := by
  induction h with
  | stop m y x h1 =>
    intro q' h'
    cases h' with
    | stop => rfl
    | go _ i j r a b c d h2 h3 => exact absurd (cellI_of h2 h3) h1
  | go m i j r a b c d h2 h3 _ _ _ _ i1 i2 i3 i4 =>
    intro q' h'
    generalize hi : (i : Int) = y at h'
    generalize hj : (j : Int) = x at h'
    cases h' with
    | stop _ _ _ h1 => subst hi hj; exact absurd (cellI_of h2 h3) h1
    | go _ i' j' r' a' b' c' d' h2' h3' k1 k2 k3 k4 =>
      obtain rfl : i = i' := by omega
      obtain rfl : j = j' := by omega
      obtain rfl : r = r' := by rw [h2] at h2'; exact Option.some.inj h2'
      obtain rfl := i1 _ k1
      obtain rfl := i2 _ k2
      obtain rfl := i3 _ k3
      exact i4 _ k4

/-- the number of black cells -/
def onesR (r : List Int) : Nat := r.countP (· == 1)
def ones (m : List (List Int)) : Nat := (m.map onesR).sum
theorem onesR_set : ∀ {r : List Int} {j : Nat}, r[j]? = some 1 → onesR (r.set j 0) + 1 = onesR r
  | [], j, h => by simp at h
  | x :: r, 0, h => by
    have e : x = 1 := by simpa using h
    subst e; simp [onesR]
  | x :: r, j + 1, h => by
    have := onesR_set (r := r) (j := j) (by simpa using h)
    unfold onesR at *
    rw [List.set_cons_succ, List.countP_cons, List.countP_cons]; omega
theorem ones_set : ∀ {m : List (List Int)} {i j : Nat} {r : List Int}, m[i]? = some r → r[j]? = some 1 → ones (m.set i (r.set j 0)) + 1 = ones m
  | [], i, j, r, h, _ => by simp at h
  | s :: m, 0, j, r, h, k => by
    have e : s = r := by simpa using h
    subst e
    have := onesR_set k
    unfold ones
    rw [List.set_cons_zero, List.map_cons, List.map_cons, List.sum_cons, List.sum_cons]; omega
  | s :: m, i + 1, j, r, h, k => by
    have := ones_set (m := m) (i := i) (by simpa using h) k
    unfold ones at *
    rw [List.set_cons_succ, List.map_cons, List.map_cons, List.sum_cons, List.sum_cons]; omega

/-- an image of this size -/
def Img (m : List (List Int)) (n k : Nat) : Prop := Shape m n k ∧ (1 ≤ n ∧ n ≤ 5) ∧ (1 ≤ k ∧ k ≤ 5) ∧ ∀ r ∈ m, allIn r 0 1 = true
theorem Img.of {m : List (List Int)} (h : gridOk m 0 1 = true) : Img m m.length (m.headD []).length := by
  obtain ⟨h1, h2, h3, h4, h5⟩ := gridOk_shape h
  exact ⟨h1, ⟨h2, h3⟩, ⟨h4, h5⟩, fun r hr => ((gridOk_iff.1 h).2 r hr).2.2⟩
theorem Img.head {m : List (List Int)} {n k : Nat} (h : Img m n k) : (m.headD []).length = k := by
  obtain ⟨h1, h2, h3, h4⟩ := h
  cases m with
  | nil => have := h1.1; rw [List.length_nil] at this; omega
  | cons r0 m => exact h1.2 r0 List.mem_cons_self
theorem Img.ok {m : List (List Int)} {n k : Nat} (h : Img m n k) : gridOk m 0 1 = true := by
  have hh := h.head
  obtain ⟨h1, h2, h3, h4⟩ := h
  rw [gridOk_iff]
  exact ⟨by rw [h1.1]; exact h2, fun r hr => ⟨by rw [hh, h1.2 r hr], by rw [h1.2 r hr]; exact h3, h4 r hr⟩⟩
theorem Img.set {m : List (List Int)} {n k : Nat} (h : Img m n k) {i j : Nat} {r : List Int} {c : Int} (hr : m[i]? = some r) (hc : 0 ≤ c ∧ c ≤ 1) : Img (m.set i (r.set j c)) n k := by
  obtain ⟨h1, h2, h3, h4⟩ := h
  refine ⟨h1.set (by rw [List.length_set]; exact h1.row hr), h2, h3, fun r' hr' => ?_⟩
  rcases List.mem_or_eq_of_mem_set hr' with h5 | h5
  · exact h4 r' h5
  · rw [h5]
    unfold allIn
    rw [List.all_eq_true]
    intro v hv
    rcases List.mem_or_eq_of_mem_set hv with h6 | h6
    · exact (List.all_eq_true.1 (h4 r (List.mem_of_getElem? hr))) v h6
    · rw [h6, inR_iff]; exact hc
theorem Img.cell {m : List (List Int)} {n k : Nat} (h : Img m n k) {i j : Nat} (hi : i < n) (hj : j < k) : ∃ r c, m[i]? = some r ∧ r.length = k ∧ r[j]? = some c ∧ (c = 0 ∨ c = 1) := by
  obtain ⟨r, hr, hl⟩ := h.1.get hi
  have hjl : j < r.length := by omega
  refine ⟨r, r[j], hr, hl, List.getElem?_eq_getElem hjl, ?_⟩
  have := (List.all_eq_true.1 (h.2.2.2 r (List.mem_of_getElem? hr))) r[j] (List.getElem_mem hjl)
  rw [inR_iff] at this
  omega

/-- blocks that hold no numbers are as they were -/
def NonInt (w w' : World) : Prop := ∀ (k : Nat) (o : Obj), w.heap[k]? = some o → (∀ cs fz, o ≠ .cells cs 3 fz) → w'.heap[k]? = some o
theorem NonInt.refl (w : World) : NonInt w w := fun _ _ h _ => h
theorem NonInt.trans {a b c : World} (h : NonInt a b) (k : NonInt b c) : NonInt a c := fun i o hi ho => k i o (h i o hi ho) ho
theorem NonInt.set {w : World} {R x : Nat} {v : Value} {B n c : Nat} {xs : List Int} (h : Own w B (.slice (some ⟨R, 0, none⟩) n c) xs) : NonInt w (w.setCell ⟨R, x, none⟩ v) := fun k o hk ho => by
  by_cases e : k = R
  · subst e
    rcases h.2 with ⟨hv, _⟩ | ⟨g, cap, cur, hv, hb, hg, _⟩
    · cases hv
    · cases hv
      rw [hk] at hg
      exact absurd (Option.some.inj hg) (ho _ _)
  · exact (Below.heap_setCell w ⟨R, x, none⟩ v k e).trans hk
theorem OwnGrid.rowOwn {w : World} {B b n c : Nat} {g : List (List Int)} (h : OwnGrid w B (.slice (some ⟨b, 0, none⟩) n c) g) {k : Nat} {r : List Int} (hk : g[k]? = some r) {u : Value} (hc : w.cell? ⟨b, k, none⟩ = some u) : Own w B u r := by
  obtain ⟨us, h1, h2, h3, h4⟩ := h
  obtain ⟨u', hu, hc', _⟩ := OwnGrid.us h2 h1 hk
  rw [hc] at hc'
  cases hc'
  exact h3 k u r hu hk
/-- what wiping does to the memory -/
structure Wiped (w w' : World) (B : Nat) (v : Value) (n k : Nat) (m : List (List Int)) (y x : Int) (q : List (List Int)) : Prop where
  paint : Paint m y x q
  own : OwnGrid w' B v q
  img : Img q n k
  few : ones q ≤ ones m
  rest : NonInt w w'
  below : Below B w w'
end Go.Proofs.Ytlhjbpachpjpkaa
