/- Finite sums, and feasibility of 0/1 matrices with given line sums under a mask: plain mathematics, no program. -/
namespace Go.Proofs.Ytcojhogndimboaa.Tomo

def sumN : Nat → (Nat → Int) → Int
  | 0, _ => 0
  | n + 1, f => sumN n f + f n

theorem sumN_congr {n : Nat} {f g : Nat → Int} (h : ∀ i, i < n → f i = g i) : sumN n f = sumN n g := by
  induction n with
  | zero => rfl
  | succ n ih => simp only [sumN]; rw [ih (fun i hi => h i (by omega)), h n (by omega)]

theorem sumN_zero (n : Nat) : sumN n (fun _ => 0) = 0 := by
  induction n with
  | zero => rfl
  | succ n ih => simp only [sumN, ih]; rfl

theorem sumN_add (n : Nat) (f g : Nat → Int) : sumN n (fun i => f i + g i) = sumN n f + sumN n g := by
  induction n with
  | zero => rfl
  | succ n ih => simp only [sumN, ih]; omega

theorem sumN_sub (n : Nat) (f g : Nat → Int) : sumN n (fun i => f i - g i) = sumN n f - sumN n g := by
  induction n with
  | zero => rfl
  | succ n ih => simp only [sumN, ih]; omega

theorem sumN_mul (n : Nat) (k : Int) (f : Nat → Int) : sumN n (fun i => k * f i) = k * sumN n f := by
  induction n with
  | zero => simp [sumN]
  | succ n ih => simp only [sumN, ih, Int.mul_add]

theorem sumN_mono {n : Nat} {f g : Nat → Int} (h : ∀ i, i < n → f i ≤ g i) : sumN n f ≤ sumN n g := by
  induction n with
  | zero => exact Int.le_refl _
  | succ n ih =>
    simp only [sumN]
    have := ih (fun i hi => h i (by omega))
    have := h n (by omega)
    omega

theorem sumN_nonneg {n : Nat} {f : Nat → Int} (h : ∀ i, i < n → 0 ≤ f i) : 0 ≤ sumN n f := by
  have := sumN_mono (f := fun _ => 0) (g := f) (n := n) h
  rw [sumN_zero] at this; exact this

/-- terms that are nowhere negative and add up to nothing are all 0 -/
theorem sumN_eq_zero {n : Nat} {f : Nat → Int} (h : ∀ i, i < n → 0 ≤ f i) (hs : sumN n f ≤ 0) : ∀ i, i < n → f i = 0 := by
  induction n with
  | zero => intro i hi; omega
  | succ n ih =>
    simp only [sumN] at hs
    have h1 : 0 ≤ sumN n f := sumN_nonneg (fun i hi => h i (by omega))
    have h2 := h n (by omega)
    intro i hi
    by_cases e : i = n
    · subst e; omega
    · exact ih (fun i hi => h i (by omega)) (by omega) i (by omega)

theorem sumN_swap (n m : Nat) (f : Nat → Nat → Int) : sumN n (fun i => sumN m (fun j => f i j)) = sumN m (fun j => sumN n (fun i => f i j)) := by
  induction n with
  | zero => simp [sumN, sumN_zero]
  | succ n ih => simp only [sumN, ih, sumN_add]

theorem sumN_split (n m : Nat) (f : Nat → Int) : sumN (n + m) f = sumN n f + sumN m (fun i => f (n + i)) := by
  induction m with
  | zero => simp [sumN]
  | succ m ih =>
    show sumN (n + m) f + f (n + m) = sumN n f + (sumN m (fun i => f (n + i)) + f (n + m))
    rw [ih]; omega

/-- one term is changed -/
theorem sumN_set {n : Nat} {f g : Nat → Int} {k : Nat} (hk : k < n) (h : ∀ i, i < n → i ≠ k → f i = g i) : sumN n f = sumN n g + (f k - g k) := by
  induction n with
  | zero => omega
  | succ n ih =>
    simp only [sumN]
    by_cases e : k = n
    · subst e
      rw [sumN_congr (fun i hi => h i (by omega) (by omega))]; omega
    · rw [ih (by omega) (fun i hi hne => h i (by omega) hne), h n (by omega) (by omega)]; omega

theorem sumN_single {n : Nat} {f : Nat → Int} {k : Nat} (hk : k < n) (h : ∀ i, i < n → i ≠ k → f i = 0) : sumN n f = f k := by
  have := sumN_set (f := f) (g := fun _ => 0) hk h
  rw [sumN_zero] at this; omega

/-- two terms are changed -/
theorem sumN_set2 {n : Nat} {f g : Nat → Int} {k l : Nat} (hk : k < n) (hl : l < n) (hne : k ≠ l) (h : ∀ i, i < n → i ≠ k → i ≠ l → f i = g i) :
    sumN n f = sumN n g + (f k - g k) + (f l - g l) := by
  have h1 := sumN_set (f := f) (g := fun i => if i = l then f l else g i) hk (fun i hi hik => by
    by_cases e : i = l
    · simp [e]
    · simp [e, h i hi hik e])
  have h2 := sumN_set (f := fun i => if i = l then f l else g i) (g := g) hl (fun i _ hil => by simp [hil])
  simp only [hne, if_true, if_false] at h1 h2
  omega

def b2i (b : Bool) : Int := if b then 1 else 0

theorem b2i_nonneg (b : Bool) : 0 ≤ b2i b := by cases b <;> decide

/-! ### nodes: the rows 0 .. R-1, then the columns R .. R+C-1 -/
section
variable (R C : Nat) (r c : Nat → Int)

/-- what a row lacks; what a column has too much -/
def dev (m : Nat → Nat → Bool) (v : Nat) : Int :=
  if v < R then r v - sumN C (fun x => b2i (m v x)) else sumN R (fun y => b2i (m y (v - R))) - c (v - R)

def errOf (m : Nat → Nat → Bool) : Int := sumN (R + C) (fun v => (dev R C r c m v).natAbs)

/-- from a row to a column: the cell may become black; from a column to a row: it may become white -/
def Arc (ok : Nat → Nat → Bool → Bool) (m : Nat → Nat → Bool) (u v : Nat) : Prop :=
  (u < R ∧ R ≤ v ∧ v < R + C ∧ m u (v - R) = false ∧ ok u (v - R) true = true) ∨
  (v < R ∧ R ≤ u ∧ u < R + C ∧ m v (u - R) = true ∧ ok v (u - R) false = true)

def Path (ok : Nat → Nat → Bool → Bool) (m : Nat → Nat → Bool) (p : Nat → Nat) (k : Nat) : Prop :=
  ∀ i, i < k → Arc R C ok m (p i) (p (i + 1))

def flip (m : Nat → Nat → Bool) (a b : Nat) : Nat → Nat → Bool := fun y x => if y = a ∧ x = b then !m y x else m y x

def Meets (ok : Nat → Nat → Bool → Bool) (m : Nat → Nat → Bool) : Prop := ∀ y, y < R → ∀ x, x < C → ok y x (m y x) = true

def turnArc (m : Nat → Nat → Bool) (u v : Nat) : Nat → Nat → Bool := if u < R then flip m u (v - R) else flip m v (u - R)

theorem arc_lt {ok : Nat → Nat → Bool → Bool} {m : Nat → Nat → Bool} {u v : Nat} (h : Arc R C ok m u v) : u < R + C ∧ v < R + C ∧ u ≠ v := by
  unfold Arc at h; omega

theorem flip_at (m : Nat → Nat → Bool) (a b : Nat) : flip m a b a b = !m a b := by simp [flip]
theorem flip_other (m : Nat → Nat → Bool) (a b y x : Nat) (h : ¬ (y = a ∧ x = b)) : flip m a b y x = m y x := by simp [flip, h]

theorem sum_flip_row {m : Nat → Nat → Bool} {a b : Nat} (hb : b < C) (y : Nat) :
    sumN C (fun x => b2i (flip m a b y x)) = sumN C (fun x => b2i (m y x)) + (if y = a then (if m a b then -1 else 1) else 0) := by
  by_cases e : y = a
  · subst e
    rw [sumN_set (g := fun x => b2i (m y x)) hb (fun i _ hne => by rw [flip_other _ _ _ _ _ (fun h => hne h.2)]), flip_at]
    cases m y b <;> simp [b2i]
  · rw [sumN_congr (g := fun x => b2i (m y x)) (fun i _ => by rw [flip_other _ _ _ _ _ (fun h => e h.1)])]; simp [e]

theorem sum_flip_col {m : Nat → Nat → Bool} {a b : Nat} (ha : a < R) (x : Nat) :
    sumN R (fun y => b2i (flip m a b y x)) = sumN R (fun y => b2i (m y x)) + (if x = b then (if m a b then -1 else 1) else 0) := by
  by_cases e : x = b
  · subst e
    rw [sumN_set (g := fun y => b2i (m y x)) ha (fun i _ hne => by rw [flip_other _ _ _ _ _ (fun h => hne h.1)]), flip_at]
    cases m a x <;> simp [b2i]
  · rw [sumN_congr (g := fun y => b2i (m y x)) (fun i _ => by rw [flip_other _ _ _ _ _ (fun h => e h.2)])]; simp [e]

/-- turning an arc's cell moves one unit along the arc -/
theorem dev_turn {ok : Nat → Nat → Bool → Bool} {m : Nat → Nat → Bool} {u v : Nat} (h : Arc R C ok m u v) (w : Nat) (_hw : w < R + C) :
    dev R C r c (turnArc R m u v) w = dev R C r c m w - (if w = u then 1 else 0) + (if w = v then 1 else 0) := by
  rcases h with ⟨hu, hv, hv2, hm, _⟩ | ⟨hv, hu, hu2, hm, _⟩
  · have e1 : turnArc R m u v = flip m u (v - R) := by simp [turnArc, hu]
    rw [e1]
    unfold dev
    by_cases hwr : w < R
    · simp only [hwr, if_true]
      rw [sum_flip_row C (by omega) w, hm]
      have : w ≠ v := by omega
      by_cases e : w = u <;> simp [e, this] <;> omega
    · simp only [hwr, if_false]
      rw [sum_flip_col R hu (w - R), hm]
      have : w ≠ u := by omega
      by_cases e : w = v
      · subst e; simp [this]; omega
      · have e' : ¬ (w - R = v - R) := by omega
        simp [e, e', this]
  · have e1 : turnArc R m u v = flip m v (u - R) := by simp [turnArc, Nat.not_lt.2 hu]
    rw [e1]
    unfold dev
    by_cases hwr : w < R
    · simp only [hwr, if_true]
      rw [sum_flip_row C (by omega) w, hm]
      have : w ≠ u := by omega
      by_cases e : w = v <;> simp [e, this] <;> omega
    · simp only [hwr, if_false]
      rw [sum_flip_col R hv (w - R), hm]
      have : w ≠ v := by omega
      by_cases e : w = u
      · subst e; simp [this]; omega
      · have e' : ¬ (w - R = u - R) := by omega
        simp [e, e', this]

theorem meets_turn {ok : Nat → Nat → Bool → Bool} {m : Nat → Nat → Bool} {u v : Nat} (h : Arc R C ok m u v) (hm : Meets R C ok m) : Meets R C ok (turnArc R m u v) := by
  intro y hy x hx
  rcases h with ⟨hu, hv, hv2, hmm, hok⟩ | ⟨hv, hu, hu2, hmm, hok⟩
  · simp only [turnArc, hu, if_true]
    by_cases e : y = u ∧ x = v - R
    · obtain ⟨rfl, rfl⟩ := e; rw [flip_at, hmm]; exact hok
    · rw [flip_other _ _ _ _ _ e]; exact hm y hy x hx
  · simp only [turnArc, Nat.not_lt.2 hu, if_false]
    by_cases e : y = v ∧ x = u - R
    · obtain ⟨rfl, rfl⟩ := e; rw [flip_at, hmm]; exact hok
    · rw [flip_other _ _ _ _ _ e]; exact hm y hy x hx

/-- an arc that touches not t stands when an arc into t is turned -/
theorem arc_keep {ok : Nat → Nat → Bool → Bool} {m : Nat → Nat → Bool} {u t a b : Nat} (h : Arc R C ok m u t) (k : Arc R C ok m a b) (ha : a ≠ t) (hb : b ≠ t) :
    Arc R C ok (turnArc R m u t) a b := by
  have key : ∀ y x, y < R → R + x ≠ t → y ≠ t → turnArc R m u t y x = m y x := by
    intro y x hy h1 h2
    unfold Arc at h
    unfold turnArc
    by_cases hu : u < R
    · rw [if_pos hu, flip_other]; omega
    · rw [if_neg hu, flip_other]; omega
  rcases k with ⟨h1, h2, h3, h4, h5⟩ | ⟨h1, h2, h3, h4, h5⟩
  · exact .inl ⟨h1, h2, h3, by rw [key a (b - R) h1 (by omega) ha]; exact h4, h5⟩
  · exact .inr ⟨h1, h2, h3, by rw [key b (a - R) h1 (by omega) hb]; exact h4, h5⟩

/-- along a path from a node that has too much to one that lacks, the error can be made less -/
theorem improve (ok : Nat → Nat → Bool → Bool) (k : Nat) : ∀ (m : Nat → Nat → Bool) (p : Nat → Nat), Meets R C ok m → Path R C ok m p k →
    0 < dev R C r c m (p 0) → dev R C r c m (p k) < 0 → p 0 < R + C →
    ∃ m', Meets R C ok m' ∧ errOf R C r c m' < errOf R C r c m := by
  induction k using Nat.strongRecOn with
  | _ k ih =>
    intro m p hm hp hs ht h0
    by_cases hj : ∃ j, j < k ∧ p j = p k
    · obtain ⟨j, hjk, hj⟩ := hj
      exact ih j hjk m p hm (fun i hi => hp i (by omega)) hs (by rw [hj]; exact ht) h0
    · cases k with
      | zero => omega
      | succ k =>
        have harc := hp k (by omega)
        have hlt := arc_lt R C harc
        have hne : ∀ i, i < k + 1 → p i ≠ p (k + 1) := fun i hi e => hj ⟨i, hi, e⟩
        have hd := dev_turn R C r c harc
        have hm1 := meets_turn R C harc hm
        have herr : errOf R C r c (turnArc R m (p k) (p (k + 1))) = errOf R C r c m
            + (((dev R C r c m (p k) - 1).natAbs : Int) - (dev R C r c m (p k)).natAbs)
            + (((dev R C r c m (p (k + 1)) + 1).natAbs : Int) - (dev R C r c m (p (k + 1))).natAbs) := by
          unfold errOf
          have h1 := hd (p k) hlt.1
          have h2 := hd (p (k + 1)) hlt.2.1
          rw [sumN_set2 (g := fun v => ((dev R C r c m v).natAbs : Int)) hlt.1 hlt.2.1 hlt.2.2 (fun i hi h1 h2 => by rw [hd i hi]; simp [h1, h2])]
          rw [h1, h2]
          have e1 : p k ≠ p (k + 1) := hlt.2.2
          have e2 : p (k + 1) ≠ p k := fun e => e1 e.symm
          simp [e1, e2]
        by_cases hk : 0 < dev R C r c m (p k)
        · exact ⟨_, hm1, by rw [herr]; omega⟩
        · have hk0 : k ≠ 0 := by intro e; subst e; exact hk hs
          have he : errOf R C r c (turnArc R m (p k) (p (k + 1))) = errOf R C r c m := by rw [herr]; omega
          have hp0k : p 0 ≠ p k := by intro e; rw [e] at hs; exact hk hs
          obtain ⟨m', h1, h2⟩ := ih k (by omega) (turnArc R m (p k) (p (k + 1))) p hm1
            (fun i hi => arc_keep R C harc (hp i (by omega)) (hne i (by omega)) (hne (i + 1) (by omega)))
            (by rw [hd _ h0]; simp [hp0k, hne 0 (by omega)]; omega)
            (by rw [hd _ hlt.1]; simp [hlt.2.2]; omega) h0
          exact ⟨m', h1, by omega⟩

theorem sum_dev (m : Nat → Nat → Bool) (htot : sumN R r = sumN C c) : sumN (R + C) (dev R C r c m) = 0 := by
  rw [sumN_split]
  rw [sumN_congr (g := fun y => r y - sumN C (fun x => b2i (m y x))) (fun i hi => by simp [dev, hi])]
  rw [sumN_congr (n := C) (g := fun x => sumN R (fun y => b2i (m y x)) - c x) (fun i hi => by simp [dev, Nat.not_lt.2 (Nat.le_add_right R i)])]
  rw [sumN_sub, sumN_sub, sumN_swap, htot]; omega

/-- what the rectangle (A, B) allows -/
def allowed (ok : Nat → Nat → Bool → Bool) (A B : Nat → Bool) : Int :=
  sumN R (fun y => sumN C (fun x => b2i (A y && !B x && ok y x true) - b2i (!A y && B x && !ok y x false)))

def asked (A B : Nat → Bool) : Int := sumN R (fun y => if A y then r y else 0) - sumN C (fun x => if B x then c x else 0)

theorem least_err (ok : Nat → Nat → Bool → Bool) (n : Nat) : ∀ m, Meets R C ok m → errOf R C r c m ≤ n →
    ∃ m', Meets R C ok m' ∧ ∀ m'', Meets R C ok m'' → errOf R C r c m' ≤ errOf R C r c m'' := by
  have h0 : ∀ m, 0 ≤ errOf R C r c m := fun m => sumN_nonneg (fun _ _ => by omega)
  induction n with
  | zero => intro m hm he; exact ⟨m, hm, fun m'' _ => by have := h0 m''; omega⟩
  | succ n ih =>
    intro m hm he
    by_cases h : ∃ m', Meets R C ok m' ∧ errOf R C r c m' < errOf R C r c m
    · obtain ⟨m', h1, h2⟩ := h; exact ih m' h1 (by omega)
    · exact ⟨m, hm, fun m'' h'' => by
        rcases Int.lt_or_le (errOf R C r c m'') (errOf R C r c m) with h1 | h1
        · exact absurd ⟨m'', h'', h1⟩ h
        · exact h1⟩

theorem b2i_true {b : Bool} (h : b = true) : b2i b = 1 := by rw [h]; rfl

open Classical in
theorem feasible_or_cut (ok : Nat → Nat → Bool → Bool) (m0 : Nat → Nat → Bool) (hm0 : Meets R C ok m0) (htot : sumN R r = sumN C c) :
    (∃ m, Meets R C ok m ∧ (∀ y, y < R → sumN C (fun x => b2i (m y x)) = r y) ∧ (∀ x, x < C → sumN R (fun y => b2i (m y x)) = c x)) ∨
    (∃ A B : Nat → Bool, allowed R C ok A B < asked R C r c A B) := by
  have h0 : ∀ m, 0 ≤ errOf R C r c m := fun m => sumN_nonneg (fun _ _ => by omega)
  obtain ⟨m, hm, hmin⟩ := least_err R C r c ok (errOf R C r c m0).toNat m0 hm0 (by have := h0 m0; omega)
  by_cases hsrc : ∃ s, s < R + C ∧ 0 < dev R C r c m s
  · right
    obtain ⟨s, hs, hds⟩ := hsrc
    let S : Nat → Prop := fun v => ∃ k p, p 0 < R + C ∧ 0 < dev R C r c m (p 0) ∧ Path R C ok m p k ∧ p k = v
    have Sself : ∀ v, v < R + C → 0 < dev R C r c m v → S v := fun v hv hd => ⟨0, fun _ => v, hv, hd, fun i hi => by omega, rfl⟩
    have Sstep : ∀ u v, S u → Arc R C ok m u v → S v := by
      rintro u v ⟨k, p, h1, h2, h3, rfl⟩ ha
      refine ⟨k + 1, fun i => if i ≤ k then p i else v, by simpa using h1, by simpa using h2, ?_, by simp [Nat.not_succ_le_self]⟩
      intro i hi
      by_cases e : i = k
      · subst e; simpa [Nat.not_succ_le_self] using ha
      · have h4 : i ≤ k := by omega
        have h5 : i + 1 ≤ k := by omega
        simp only [h4, h5, if_true]
        exact h3 i (by omega)
    have Snosink : ∀ v, S v → 0 ≤ dev R C r c m v := by
      rintro v ⟨k, p, h1, h2, h3, rfl⟩
      rcases Int.lt_or_le (dev R C r c m (p k)) 0 with h4 | h4
      · obtain ⟨m', h5, h6⟩ := improve R C r c ok k m p hm h3 h2 h4 h1
        have := hmin m' h5
        omega
      · exact h4
    refine ⟨fun y => decide (S y), fun x => decide (S (R + x)), ?_⟩
    -- what stands in the rectangle
    have hb : allowed R C ok (fun y => decide (S y)) (fun x => decide (S (R + x)))
        = sumN R (fun y => sumN C (fun x => b2i (m y x) * ((if S y then 1 else 0) - (if S (R + x) then 1 else 0)))) := by
      unfold allowed
      refine sumN_congr fun y hy => sumN_congr fun x hx => ?_
      have hmm := hm y hy x hx
      by_cases h1 : S y <;> by_cases h2 : S (R + x)
      · simp [h1, h2, b2i]
      · simp only [h1, h2, decide_true, decide_false, if_true, if_false]
        cases hv : m y x
        · have : ¬ Arc R C ok m y (R + x) := fun ha => h2 (Sstep _ _ h1 ha)
          have h3 : ok y x true = false := by
            cases h4 : ok y x true
            · rfl
            · exact absurd (.inl ⟨hy, by omega, by omega, by simpa using hv, by simpa using h4⟩) this
          simp [h3, b2i]
        · rw [hv] at hmm
          simp [hmm, b2i]
      · simp only [h1, h2, decide_true, decide_false, if_true, if_false]
        cases hv : m y x
        · rw [hv] at hmm
          simp [hmm, b2i]
        · have : ¬ Arc R C ok m (R + x) y := fun ha => h1 (Sstep _ _ h2 ha)
          have h3 : ok y x false = false := by
            cases h4 : ok y x false
            · rfl
            · exact absurd (.inr ⟨hy, by omega, by omega, by simpa using hv, by simpa using h4⟩) this
          simp [h3, b2i]
      · simp [h1, h2, b2i]
    rw [hb]
    have hsplit : sumN R (fun y => sumN C (fun x => b2i (m y x) * ((if S y then 1 else 0) - (if S (R + x) then 1 else 0))))
        = sumN R (fun y => if S y then sumN C (fun x => b2i (m y x)) else 0) - sumN C (fun x => if S (R + x) then sumN R (fun y => b2i (m y x)) else 0) := by
      have e1 : ∀ y x, b2i (m y x) * ((if S y then 1 else 0) - (if S (R + x) then 1 else 0)) = (if S y then b2i (m y x) else 0) - (if S (R + x) then b2i (m y x) else 0) := by
        intro y x
        by_cases h1 : S y <;> by_cases h2 : S (R + x) <;> simp [h1, h2] <;> omega
      simp only [e1]
      rw [sumN_congr (fun y _ => sumN_sub C _ _), sumN_sub]
      congr 1
      · refine sumN_congr fun y _ => ?_
        by_cases h1 : S y <;> simp [h1, sumN_zero]
      · rw [sumN_swap]
        refine sumN_congr fun x _ => ?_
        by_cases h1 : S (R + x) <;> simp [h1, sumN_zero]
    rw [hsplit]
    unfold asked
    have hpos : 0 < sumN (R + C) (fun v => if S v then dev R C r c m v else 0) := by
      have hn : ∀ i, i < R + C → 0 ≤ (fun v => if S v then dev R C r c m v else 0) i := by
        intro i _
        by_cases h1 : S i
        · simp only [h1, if_true]; exact Snosink i h1
        · simp [h1]
      rcases Int.lt_or_le 0 (sumN (R + C) (fun v => if S v then dev R C r c m v else 0)) with h | h
      · exact h
      · have := sumN_eq_zero hn h s hs
        simp only [Sself s hs hds, if_true] at this
        omega
    rw [sumN_split] at hpos
    have e2 : sumN R (fun v => if S v then dev R C r c m v else 0) = sumN R (fun y => if S y then r y else 0) - sumN R (fun y => if S y then sumN C (fun x => b2i (m y x)) else 0) := by
      rw [← sumN_sub]
      refine sumN_congr fun y hy => ?_
      by_cases h1 : S y <;> simp [h1, dev, hy]
    have e3 : sumN C (fun i => if S (R + i) then dev R C r c m (R + i) else 0) = sumN C (fun x => if S (R + x) then sumN R (fun y => b2i (m y x)) else 0) - sumN C (fun x => if S (R + x) then c x else 0) := by
      rw [← sumN_sub]
      refine sumN_congr fun x hx => ?_
      by_cases h1 : S (R + x) <;> simp [h1, dev, Nat.not_lt.2 (Nat.le_add_right R x)]
    rw [e2, e3] at hpos
    simp only [decide_eq_true_eq]
    omega
  · left
    have hle : ∀ v, v < R + C → dev R C r c m v ≤ 0 := fun v hv => by
      rcases Int.lt_or_le 0 (dev R C r c m v) with h | h
      · exact absurd ⟨v, hv, h⟩ hsrc
      · exact h
    have hz : ∀ v, v < R + C → dev R C r c m v = 0 := by
      have h1 := sum_dev R C r c m htot
      have h2 : sumN (R + C) (fun v => 0 - dev R C r c m v) ≤ 0 := by rw [sumN_sub, sumN_zero, h1]; omega
      intro v hv
      have := sumN_eq_zero (fun i hi => by have := hle i hi; omega) h2 v hv
      omega
    refine ⟨m, hm, fun y hy => ?_, fun x hx => ?_⟩
    · have := hz y (by omega); simp only [dev, hy, if_true] at this; omega
    · have := hz (R + x) (by omega)
      have e : ¬ (R + x < R) := by omega
      simp only [dev, e, if_false, Nat.add_sub_cancel_left] at this; omega

end
end Go.Proofs.Ytcojhogndimboaa.Tomo
