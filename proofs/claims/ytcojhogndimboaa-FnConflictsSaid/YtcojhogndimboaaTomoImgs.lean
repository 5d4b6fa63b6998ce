/- All images with given sums, as lists: plain mathematics, no program. -/
namespace Go.Proofs.Ytcojhogndimboaa.Tomo

abbrev Row := List Int
abbrev Grid := List (List Int)

def isBit (x : Int) : Bool := x == 0 || x == 1
def bits (r : Row) : Bool := r.all isBit

/-- all rows of n cells with k black ones, in order -/
def rowsOf : Nat → Int → List Row
  | 0, k => if k = 0 then [[]] else []
  | n + 1, k => (if 0 ≤ k then (rowsOf n k).map (0 :: ·) else []) ++ (if 1 ≤ k then (rowsOf n (k - 1)).map (1 :: ·) else [])

def subRow (cols row : Row) : Row := List.zipWith (fun k x => k - x) cols row
def addRow (cols row : Row) : Row := List.zipWith (fun k x => k + x) cols row
def leRow (row cols : Row) : Bool := (List.zipWith (fun x k => decide (x ≤ k)) row cols).all id

/-- all images with these sums, in order -/
def imgs : List Int → List Int → List Grid
  | [], cols => if cols.all (· == 0) then [[]] else []
  | r :: rs, cols => (rowsOf cols.length r).flatMap fun row => if leRow row cols then (imgs rs (subRow cols row)).map (row :: ·) else []

def colSum (n : Nat) : Grid → Row
  | [] => List.replicate n 0
  | r :: m => addRow r (colSum n m)

def cellsOk (n : Nat) (m : Grid) : Prop := ∀ r ∈ m, r.length = n ∧ ∀ x ∈ r, x = 0 ∨ x = 1

theorem mem_rowsOf (n : Nat) : ∀ (k : Int) (r : Row), r ∈ rowsOf n k ↔ r.length = n ∧ (∀ x ∈ r, x = 0 ∨ x = 1) ∧ r.sum = k := by
  induction n with
  | zero =>
    intro k r
    unfold rowsOf
    by_cases h : k = 0
    · simp only [h, if_true, List.mem_singleton]
      constructor
      · rintro rfl; simp
      · rintro ⟨h1, _⟩; exact List.eq_nil_of_length_eq_zero h1
    · simp only [h, if_false, List.not_mem_nil, false_iff]
      rintro ⟨h1, _, h3⟩
      rw [List.eq_nil_of_length_eq_zero h1] at h3
      exact h h3.symm
  | succ n ih =>
    intro k r
    have hsum : ∀ l : Row, (∀ x ∈ l, x = 0 ∨ x = 1) → 0 ≤ l.sum := by
      intro l
      induction l with
      | nil => intro _; simp
      | cons x l ihl =>
        intro h
        have h1 := ihl (fun y hy => h y (List.mem_cons_of_mem _ hy))
        have h2 := h x List.mem_cons_self
        rw [List.sum_cons]; omega
    unfold rowsOf
    rw [List.mem_append]
    constructor
    · rintro (h | h)
      · by_cases hk : 0 ≤ k
        · simp only [hk, if_true, List.mem_map] at h
          obtain ⟨t, ht, rfl⟩ := h
          obtain ⟨h1, h2, h3⟩ := (ih _ _).1 ht
          refine ⟨by simp [h1], ?_, by rw [List.sum_cons, h3]; omega⟩
          intro x hx
          rcases List.mem_cons.1 hx with e | e
          · exact .inl e
          · exact h2 x e
        · simp [hk] at h
      · by_cases hk : 1 ≤ k
        · simp only [hk, if_true, List.mem_map] at h
          obtain ⟨t, ht, rfl⟩ := h
          obtain ⟨h1, h2, h3⟩ := (ih _ _).1 ht
          refine ⟨by simp [h1], ?_, by rw [List.sum_cons, h3]; omega⟩
          intro x hx
          rcases List.mem_cons.1 hx with e | e
          · exact .inr e
          · exact h2 x e
        · simp [hk] at h
    · rintro ⟨h1, h2, h3⟩
      cases r with
      | nil => simp at h1
      | cons x t =>
        have hx := h2 x List.mem_cons_self
        have ht := fun y hy => h2 y (List.mem_cons_of_mem x hy)
        have h0 := hsum t ht
        rw [List.sum_cons] at h3
        simp only [List.length_cons, Nat.add_right_cancel_iff] at h1
        rcases hx with rfl | rfl
        · left
          have hk : 0 ≤ k := by omega
          simp only [hk, if_true, List.mem_map]
          exact ⟨t, (ih _ _).2 ⟨h1, ht, by omega⟩, rfl⟩
        · right
          have hk : 1 ≤ k := by omega
          simp only [hk, if_true, List.mem_map]
          exact ⟨t, (ih _ _).2 ⟨h1, ht, by omega⟩, rfl⟩

theorem subRow_length (a b : Row) (h : b.length = a.length) : (subRow a b).length = a.length := by simp [subRow, h]
theorem addRow_length (a b : Row) (h : b.length = a.length) : (addRow a b).length = a.length := by simp [addRow, h]

theorem colSum_length (n : Nat) (m : Grid) (h : ∀ r ∈ m, r.length = n) : (colSum n m).length = n := by
  induction m with
  | nil => simp [colSum]
  | cons r m ih =>
    have h1 := h r List.mem_cons_self
    have h2 := ih (fun r hr => h r (List.mem_cons_of_mem _ hr))
    simp only [colSum]
    rw [addRow_length _ _ (by omega), h1]

theorem add_sub_row (a b : Row) (h : b.length = a.length) : addRow b (subRow a b) = a := by
  induction a generalizing b with
  | nil => cases b <;> simp_all [addRow, subRow]
  | cons x a ih =>
    cases b with
    | nil => simp at h
    | cons y b =>
      simp only [List.length_cons, Nat.add_right_cancel_iff] at h
      have := ih b h
      simp only [addRow, subRow, List.zipWith_cons_cons, List.cons.injEq] at *
      exact ⟨by omega, this⟩

theorem sub_add_row (a b : Row) (h : b.length = a.length) : subRow (addRow a b) a = b := by
  induction a generalizing b with
  | nil => cases b <;> simp_all [addRow, subRow]
  | cons x a ih =>
    cases b with
    | nil => simp at h
    | cons y b =>
      simp only [List.length_cons, Nat.add_right_cancel_iff] at h
      have := ih b h
      simp only [addRow, subRow, List.zipWith_cons_cons, List.cons.injEq] at *
      exact ⟨by omega, this⟩

theorem leRow_add (a b : Row) (h : ∀ x ∈ b, 0 ≤ x) : leRow a (addRow a b) = true := by
  induction a generalizing b with
  | nil => simp [leRow]
  | cons x a ih =>
    cases b with
    | nil => simp [leRow, addRow]
    | cons y b =>
      have h1 := h y List.mem_cons_self
      have h2 := ih b (fun z hz => h z (List.mem_cons_of_mem _ hz))
      simp only [leRow, addRow, List.zipWith_cons_cons, List.all_cons, id, Bool.and_eq_true, decide_eq_true_eq] at *
      exact ⟨by omega, h2⟩

theorem colSum_nonneg (n : Nat) (m : Grid) (h : ∀ r ∈ m, ∀ x ∈ r, 0 ≤ x) : ∀ x ∈ colSum n m, 0 ≤ x := by
  induction m with
  | nil => intro x hx; simp [colSum] at hx; omega
  | cons r m ih =>
    have h2 := ih (fun r hr => h r (List.mem_cons_of_mem _ hr))
    have h1 := h r List.mem_cons_self
    simp only [colSum]
    generalize colSum n m = t at *
    clear ih h
    induction r generalizing t with
    | nil => simp [addRow]
    | cons x r ihr =>
      cases t with
      | nil => simp [addRow]
      | cons y t =>
        intro z hz
        simp only [addRow, List.zipWith_cons_cons, List.mem_cons] at hz
        rcases hz with rfl | hz
        · have := h1 x List.mem_cons_self; have := h2 y List.mem_cons_self; omega
        · exact ihr (fun z hz => h1 z (List.mem_cons_of_mem _ hz)) t (fun z hz => h2 z (List.mem_cons_of_mem _ hz)) z hz

theorem mem_imgs (rows : List Int) : ∀ (cols : List Int) (m : Grid), m ∈ imgs rows cols ↔ cellsOk cols.length m ∧ m.map List.sum = rows ∧ colSum cols.length m = cols := by
  induction rows with
  | nil =>
    intro cols m
    unfold imgs
    by_cases h : cols.all (· == 0) = true
    · rw [if_pos h, List.mem_singleton]
      constructor
      · rintro rfl
        refine ⟨by simp [cellsOk], rfl, ?_⟩
        simp only [colSum]
        symm
        rw [List.eq_replicate_iff]
        simpa using h
      · rintro ⟨_, h2, _⟩; simpa using h2
    · rw [if_neg h]
      simp only [List.not_mem_nil, false_iff]
      rintro ⟨_, h2, h3⟩
      have hm : m = [] := by simpa using h2
      subst hm
      simp only [colSum] at h3
      apply h
      rw [← h3]
      simp
  | cons r rs ih =>
    intro cols m
    unfold imgs
    rw [List.mem_flatMap]
    constructor
    · rintro ⟨row, hrow, hm⟩
      obtain ⟨h1, h2, h3⟩ := (mem_rowsOf _ _ _).1 hrow
      by_cases hle : leRow row cols = true
      · rw [if_pos hle, List.mem_map] at hm
        obtain ⟨m', hm', rfl⟩ := hm
        obtain ⟨g1, g2, g3⟩ := (ih _ _).1 hm'
        rw [subRow_length _ _ h1] at g1 g3
        refine ⟨?_, by simp [g2, h3], ?_⟩
        · intro x hx
          rcases List.mem_cons.1 hx with rfl | hx
          · exact ⟨h1, h2⟩
          · exact g1 x hx
        · simp only [colSum]; rw [g3]; exact add_sub_row cols row h1
      · rw [if_neg hle] at hm; simp at hm
    · rintro ⟨h1, h2, h3⟩
      cases m with
      | nil => simp at h2
      | cons row m' =>
        simp only [List.map_cons, List.cons.injEq] at h2
        have hr := h1 row List.mem_cons_self
        have hm' : cellsOk cols.length m' := fun x hx => h1 x (List.mem_cons_of_mem _ hx)
        have hlen := colSum_length cols.length m' (fun x hx => (hm' x hx).1)
        simp only [colSum] at h3
        have hnn := colSum_nonneg cols.length m' (fun x hx y hy => by have := (hm' x hx).2 y hy; omega)
        have hsub : subRow cols row = colSum cols.length m' := by
          have e := sub_add_row row (colSum cols.length m') (by omega)
          rw [h3] at e; exact e
        refine ⟨row, (mem_rowsOf _ _ _).2 ⟨hr.1, hr.2, h2.1⟩, ?_⟩
        have hle : leRow row cols = true := by
          have e := leRow_add row (colSum cols.length m') hnn
          rw [h3] at e; exact e
        rw [if_pos hle, List.mem_map]
        exact ⟨m', (ih _ _).2 (by rw [subRow_length _ _ hr.1]; exact ⟨hm', h2.2, hsub.symm⟩), rfl⟩
end Go.Proofs.Ytcojhogndimboaa.Tomo
