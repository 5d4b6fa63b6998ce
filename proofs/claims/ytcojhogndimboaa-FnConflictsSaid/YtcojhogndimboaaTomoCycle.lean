import Derived.Test.YtcojhogndimboaaTomoFlow
namespace Go.Proofs.Ytcojhogndimboaa.Tomo
section
variable (R C : Nat) (r c : Nat → Int)

/-- an image with the sums keeps every rectangle -/
theorem asked_le_allowed (ok : Nat → Nat → Bool → Bool) (m : Nat → Nat → Bool) (hm : Meets R C ok m) (hr : ∀ y, y < R → sumN C (fun x => b2i (m y x)) = r y)
    (hc : ∀ x, x < C → sumN R (fun y => b2i (m y x)) = c x) (A B : Nat → Bool) : asked R C r c A B ≤ allowed R C ok A B := by
  have e : asked R C r c A B = sumN R (fun y => sumN C (fun x => (if A y then b2i (m y x) else 0) - (if B x then b2i (m y x) else 0))) := by
    unfold asked
    rw [sumN_congr (f := fun y => sumN C (fun x => (if A y then b2i (m y x) else 0) - (if B x then b2i (m y x) else 0))) (fun y _ => sumN_sub C _ _), sumN_sub]
    congr 1
    · refine sumN_congr fun y hy => ?_
      by_cases h : A y = true
      · simp only [h, if_true]; exact (hr y hy).symm
      · simp [h, sumN_zero]
    · rw [sumN_swap]
      refine sumN_congr fun x hx => ?_
      by_cases h : B x = true
      · simp only [h, if_true]; exact (hc x hx).symm
      · simp [h, sumN_zero]
  rw [e]
  unfold allowed
  refine sumN_mono fun y hy => sumN_mono fun x hx => ?_
  have hmm := hm y hy x hx
  cases hA : A y <;> cases hB : B x <;> cases hv : m y x <;> rw [hv] at hmm <;> simp [b2i, hmm] <;> split <;> omega

theorem natAbs_parity (n : Nat) (f : Nat → Int) : (sumN n (fun i => ((f i).natAbs : Int)) - sumN n f) % 2 = 0 := by
  induction n with
  | zero => rfl
  | succ n ih => simp only [sumN]; omega

/-- the same sums -/
def SameSums (m m' : Nat → Nat → Bool) : Prop :=
  (∀ y, y < R → sumN C (fun x => b2i (m' y x)) = sumN C (fun x => b2i (m y x))) ∧ (∀ x, x < C → sumN R (fun y => b2i (m' y x)) = sumN R (fun y => b2i (m y x)))

def rowS (m : Nat → Nat → Bool) : Nat → Int := fun y => sumN C (fun x => b2i (m y x))
def colS (m : Nat → Nat → Bool) : Nat → Int := fun x => sumN R (fun y => b2i (m y x))

/-- A path that ends where the cell (a, b) begins gives another image that differs in the cell. 's' has too much when the cell is turned, 't' too little. -/
theorem turn_cell (m : Nat → Nat → Bool) (a b : Nat) (ha : a < R) (hb : b < C) (p : Nat → Nat) (k : Nat)
    (hp : Path R C (fun _ _ _ => true) m p k) (h0 : p 0 = if m a b then a else R + b) (hk : p k = if m a b then R + b else a) :
    ∃ m', SameSums R C m m' ∧ m' a b = !m a b := by
  let ok : Nat → Nat → Bool → Bool := fun y x v => if y = a ∧ x = b then v == !m a b else true
  let m1 := flip m a b
  -- the path up to where it first comes to its end
  have hex : ∃ j, p j = p k ∧ j ≤ k ∧ ∀ i, i < j → p i ≠ p k := by
    clear hk
    have : ∀ n, n ≤ k → (∃ j, p j = p k ∧ j ≤ n ∧ ∀ i, i < j → p i ≠ p k) ∨ ∀ i, i ≤ n → p i ≠ p k := by
      intro n
      induction n with
      | zero =>
        intro _
        by_cases e : p 0 = p k
        · exact .inl ⟨0, e, Nat.le_refl _, fun i hi => by omega⟩
        · exact .inr fun i hi => by rw [show i = 0 from by omega]; exact e
      | succ n ih =>
        intro hn
        rcases ih (by omega) with ⟨j, h1, h2, h3⟩ | h
        · exact .inl ⟨j, h1, by omega, h3⟩
        · by_cases e : p (n + 1) = p k
          · exact .inl ⟨n + 1, e, Nat.le_refl _, fun i hi => h i (by omega)⟩
          · refine .inr fun i hi => ?_
            by_cases e' : i = n + 1
            · rw [e']; exact e
            · exact h i (by omega)
    rcases this k (Nat.le_refl _) with h | h
    · exact h
    · exact absurd rfl (h k (Nat.le_refl _))
  obtain ⟨j, hj, hjk, hmin⟩ := hex
  have hm1 : Meets R C ok m1 := by
    intro y _ x _
    by_cases e : y = a ∧ x = b
    · simp only [ok, e, and_self, if_true, m1, flip_at, beq_self_eq_true]
    · simp only [ok, e, if_false]
  have hpath : Path R C ok m1 p j := by
    intro i hi
    have harc := hp i (by omega)
    have hne : p i ≠ p k := hmin i hi
    rcases harc with ⟨h1, h2, h3, h4, _⟩ | ⟨h1, h2, h3, h4, _⟩
    · have hcell : ¬ (p i = a ∧ p (i + 1) - R = b) := by
        rintro ⟨e1, e2⟩
        rw [e1, e2] at h4
        rw [h4] at hk
        simp only [Bool.false_eq_true, if_false] at hk
        exact hne (e1.trans hk.symm)
      exact .inl ⟨h1, h2, h3, by simp only [m1]; rw [flip_other _ _ _ _ _ hcell]; exact h4, by simp only [ok, hcell, if_false]⟩
    · have hcell : ¬ (p (i + 1) = a ∧ p i - R = b) := by
        rintro ⟨e1, e2⟩
        rw [e1, e2] at h4
        rw [h4] at hk
        simp only [if_true] at hk
        exact hne (by omega)
      exact .inr ⟨h1, h2, h3, by simp only [m1]; rw [flip_other _ _ _ _ _ hcell]; exact h4, by simp only [ok, hcell, if_false]⟩
  -- the deviations of the turned image from the sums of m
  have hdev : ∀ v, v < R + C → dev R C (rowS C m) (colS R m) m1 v = (if v = a then (if m a b then 1 else -1) else 0) + (if v = R + b then (if m a b then -1 else 1) else 0) := by
    intro v hv
    unfold dev rowS colS
    by_cases h : v < R
    · simp only [h, if_true, m1]
      rw [sum_flip_row C hb]
      have : v ≠ R + b := by omega
      by_cases e : v = a
      · subst e; cases m v b <;> simp [this] <;> omega
      · simp [e, this]
    · simp only [h, if_false, m1]
      rw [sum_flip_col R ha]
      have : v ≠ a := by omega
      by_cases e : v = R + b
      · subst e; cases m a b <;> simp [this] <;> omega
      · have : ¬ v - R = b := by omega
        simp [*]
  have hab : a ≠ R + b := by omega
  have hab' : R + b ≠ a := by omega
  have herr : errOf R C (rowS C m) (colS R m) m1 = 2 := by
    unfold errOf
    rw [sumN_set2 (g := fun _ => 0) (k := a) (l := R + b) (by omega) (by omega) hab (fun i hi h1 h2 => by rw [hdev i hi]; simp [h1, h2])]
    rw [hdev a (by omega), hdev (R + b) (by omega), sumN_zero]
    cases m a b <;> simp [hab, hab'] <;> rfl
  obtain ⟨m', hm', hlt⟩ := improve R C (rowS C m) (colS R m) ok j m1 p hm1 hpath
    (by rw [h0]; cases hv : m a b <;> simp only [if_true, if_false, Bool.false_eq_true] <;> rw [hdev _ (by omega)] <;> simp [hv, hab, hab'])
    (by rw [hj, hk]; cases hv : m a b <;> simp only [if_true, if_false, Bool.false_eq_true] <;> rw [hdev _ (by omega)] <;> simp [hv, hab, hab'])
    (by rw [h0]; cases m a b <;> simp <;> omega)
  have htot : sumN R (rowS C m) = sumN C (colS R m) := sumN_swap _ _ _
  have hz : ∀ v, v < R + C → dev R C (rowS C m) (colS R m) m' v = 0 := by
    have hs := sum_dev R C (rowS C m) (colS R m) m' htot
    have hp := natAbs_parity (R + C) (dev R C (rowS C m) (colS R m) m')
    have hnn : 0 ≤ errOf R C (rowS C m) (colS R m) m' := sumN_nonneg fun _ _ => by omega
    rw [hs] at hp
    have he : errOf R C (rowS C m) (colS R m) m' = 0 := by
      have : errOf R C (rowS C m) (colS R m) m' = sumN (R + C) (fun i => ((dev R C (rowS C m) (colS R m) m' i).natAbs : Int)) := rfl
      omega
    have := sumN_eq_zero (n := R + C) (f := fun v => ((dev R C (rowS C m) (colS R m) m' v).natAbs : Int)) (fun _ _ => by omega) (by have : errOf R C (rowS C m) (colS R m) m' = sumN (R + C) (fun i => ((dev R C (rowS C m) (colS R m) m' i).natAbs : Int)) := rfl; omega)
    intro v hv
    have h1 := this v hv
    have h2 : ((dev R C (rowS C m) (colS R m) m' v).natAbs : Int) = 0 := h1
    omega
  refine ⟨m', ⟨fun y hy => ?_, fun x hx => ?_⟩, ?_⟩
  · have := hz y (by omega)
    simp only [dev, hy, if_true, rowS] at this; omega
  · have := hz (R + x) (by omega)
    simp only [dev, Nat.not_lt.2 (Nat.le_add_right R x), if_false, Nat.add_sub_cancel_left, colS] at this; omega
  · have := hm' a ha b hb
    simpa [ok] using this

/-- If no path of black and white cells leads back, all images with the same sums agree in the cell: a set that is closed under arcs. -/
theorem cell_stays (m m' : Nat → Nat → Bool) (hs : SameSums R C m m') (S : Nat → Bool)
    (hS : ∀ y x, y < R → x < C → (S y = true → m y x = false → S (R + x) = true) ∧ (S (R + x) = true → m y x = true → S y = true)) (a b : Nat) (ha : a < R) (hb : b < C)
    (hab : S a ≠ S (R + b)) (hd : (if m a b then S a = true else S (R + b) = true)) : m' a b = m a b := by
  -- the difference over the rows of S less that over the columns of S
  let d : Nat → Nat → Int := fun y x => b2i (m' y x) - b2i (m y x)
  have hrow : ∀ y, y < R → sumN C (d y) = 0 := fun y hy => by simp only [d]; rw [sumN_sub, hs.1 y hy]; omega
  have hcol : ∀ x, x < C → sumN R (fun y => d y x) = 0 := fun x hx => by simp only [d]; rw [sumN_sub, hs.2 x hx]; omega
  let e : Nat → Nat → Int := fun y x => (if S (R + x) then d y x else 0) - (if S y then d y x else 0)
  have htot : sumN R (fun y => sumN C (e y)) = 0 := by
    simp only [e]
    rw [sumN_congr (fun y _ => sumN_sub C _ _), sumN_sub]
    have h1 : sumN R (fun y => sumN C (fun x => if S y then d y x else 0)) = 0 := by
      rw [sumN_congr (g := fun _ => 0) (fun y hy => ?_), sumN_zero]
      by_cases h : S y = true
      · simp only [h, if_true]; exact hrow y hy
      · simp [h, sumN_zero]
    have h2 : sumN R (fun y => sumN C (fun x => if S (R + x) then d y x else 0)) = 0 := by
      rw [sumN_swap, sumN_congr (g := fun _ => 0) (fun x hx => ?_), sumN_zero]
      by_cases h : S (R + x) = true
      · simp only [h, if_true]; exact hcol x hx
      · simp [h, sumN_zero]
    omega
  have hnn : ∀ y, y < R → ∀ x, x < C → 0 ≤ e y x := by
    intro y hy x hx
    obtain ⟨h1, h2⟩ := hS y x hy hx
    simp only [e, d]
    cases hSy : S y <;> cases hSx : S (R + x) <;> cases hv : m y x <;> cases hv' : m' y x <;> simp_all [b2i]
  have hz := sumN_eq_zero (fun y hy => sumN_nonneg (fun x hx => hnn y hy x hx)) (by omega) a ha
  have hz2 := sumN_eq_zero (fun x hx => hnn a ha x hx) (by omega) b hb
  simp only [e, d] at hz2
  cases hSa : S a <;> cases hSb : S (R + b) <;> cases hv : m a b <;> cases hv' : m' a b <;> simp_all [b2i]
end
end Go.Proofs.Ytcojhogndimboaa.Tomo
