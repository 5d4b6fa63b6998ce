/- Texts merged: TomoImgs TomoPut TomoFlow TomoCycle TomoGR TomoSums. -/

namespace Go.Proofs.Ytlhjbpachpjpkaa.Tomo

abbrev Row := List Int
abbrev Grid := List (List Int)

def isBit (x : Int) : Bool := x == 0 || x == 1
def bits (r : Row) : Bool := r.all isBit

/-- all rows of n cells with k black ones, in order -/
def rowsOf : Nat → Int → List Row
  | 0, k => if k = 0 then [[]] else []
  | n + 1, k => (if 0 ≤ k then (rowsOf n k).map (0 :: ·) else []) ++ (if 1 ≤ k then (rowsOf n (k - 1)).map (1 :: ·) else [])

def subRow (cols row : Row) : Row := List.zipWith (fun k x => k - x) cols row
def addRow (cols row : Row) : Row := List.zipWith (fun k x => k + x) cols row
def leRow (row cols : Row) : Bool := (List.zipWith (fun x k => decide (x ≤ k)) row cols).all id

/-- all images with these sums, in order -/
def imgs : List Int → List Int → List Grid
  | [], cols => if cols.all (· == 0) then [[]] else []
  | r :: rs, cols => (rowsOf cols.length r).flatMap fun row => if leRow row cols then (imgs rs (subRow cols row)).map (row :: ·) else []

def colSum (n : Nat) : Grid → Row
  | [] => List.replicate n 0
  | r :: m => addRow r (colSum n m)

def cellsOk (n : Nat) (m : Grid) : Prop := ∀ r ∈ m, r.length = n ∧ ∀ x ∈ r, x = 0 ∨ x = 1

theorem mem_rowsOf (n : Nat) : ∀ (k : Int) (r : Row), r ∈ rowsOf n k ↔ r.length = n ∧ (∀ x ∈ r, x = 0 ∨ x = 1) ∧ r.sum = k := by
  induction n with
  | zero =>
    intro k r
    unfold rowsOf
    by_cases h : k = 0
    · simp only [h, if_true, List.mem_singleton]
      constructor
      · rintro rfl; simp
      · rintro ⟨h1, _⟩; exact List.eq_nil_of_length_eq_zero h1
    · simp only [h, if_false, List.not_mem_nil, false_iff]
      rintro ⟨h1, _, h3⟩
      rw [List.eq_nil_of_length_eq_zero h1] at h3
      exact h h3.symm
  | succ n ih =>
    intro k r
    have hsum : ∀ l : Row, (∀ x ∈ l, x = 0 ∨ x = 1) → 0 ≤ l.sum := by
      intro l
      induction l with
      | nil => intro _; simp
      | cons x l ihl =>
        intro h
        have h1 := ihl (fun y hy => h y (List.mem_cons_of_mem _ hy))
        have h2 := h x List.mem_cons_self
        rw [List.sum_cons]; omega
    unfold rowsOf
    rw [List.mem_append]
    constructor
    · rintro (h | h)
      · by_cases hk : 0 ≤ k
        · simp only [hk, if_true, List.mem_map] at h
          obtain ⟨t, ht, rfl⟩ := h
          obtain ⟨h1, h2, h3⟩ := (ih _ _).1 ht
          refine ⟨by simp [h1], ?_, by rw [List.sum_cons, h3]; omega⟩
          intro x hx
          rcases List.mem_cons.1 hx with e | e
          · exact .inl e
          · exact h2 x e
        · simp [hk] at h
      · by_cases hk : 1 ≤ k
        · simp only [hk, if_true, List.mem_map] at h
          obtain ⟨t, ht, rfl⟩ := h
          obtain ⟨h1, h2, h3⟩ := (ih _ _).1 ht
          refine ⟨by simp [h1], ?_, by rw [List.sum_cons, h3]; omega⟩
          intro x hx
          rcases List.mem_cons.1 hx with e | e
          · exact .inr e
          · exact h2 x e
        · simp [hk] at h
    · rintro ⟨h1, h2, h3⟩
      cases r with
      | nil => simp at h1
      | cons x t =>
        have hx := h2 x List.mem_cons_self
        have ht := fun y hy => h2 y (List.mem_cons_of_mem x hy)
        have h0 := hsum t ht
        rw [List.sum_cons] at h3
        simp only [List.length_cons, Nat.add_right_cancel_iff] at h1
        rcases hx with rfl | rfl
        · left
          have hk : 0 ≤ k := by omega
          simp only [hk, if_true, List.mem_map]
          exact ⟨t, (ih _ _).2 ⟨h1, ht, by omega⟩, rfl⟩
        · right
          have hk : 1 ≤ k := by omega
          simp only [hk, if_true, List.mem_map]
          exact ⟨t, (ih _ _).2 ⟨h1, ht, by omega⟩, rfl⟩

theorem subRow_length (a b : Row) (h : b.length = a.length) : (subRow a b).length = a.length := by simp [subRow, h]
theorem addRow_length (a b : Row) (h : b.length = a.length) : (addRow a b).length = a.length := by simp [addRow, h]

theorem colSum_length (n : Nat) (m : Grid) (h : ∀ r ∈ m, r.length = n) : (colSum n m).length = n := by
  induction m with
  | nil => simp [colSum]
  | cons r m ih =>
    have h1 := h r List.mem_cons_self
    have h2 := ih (fun r hr => h r (List.mem_cons_of_mem _ hr))
    simp only [colSum]
    rw [addRow_length _ _ (by omega), h1]

theorem add_sub_row (a b : Row) (h : b.length = a.length) : addRow b (subRow a b) = a := by
  induction a generalizing b with
  | nil => cases b <;> simp_all [addRow, subRow]
  | cons x a ih =>
    cases b with
    | nil => simp at h
    | cons y b =>
      simp only [List.length_cons, Nat.add_right_cancel_iff] at h
      have := ih b h
      simp only [addRow, subRow, List.zipWith_cons_cons, List.cons.injEq] at *
      exact ⟨by omega, this⟩

theorem sub_add_row (a b : Row) (h : b.length = a.length) : subRow (addRow a b) a = b := by
  induction a generalizing b with
  | nil => cases b <;> simp_all [addRow, subRow]
  | cons x a ih =>
    cases b with
    | nil => simp at h
    | cons y b =>
      simp only [List.length_cons, Nat.add_right_cancel_iff] at h
      have := ih b h
      simp only [addRow, subRow, List.zipWith_cons_cons, List.cons.injEq] at *
      exact ⟨by omega, this⟩

theorem leRow_add (a b : Row) (h : ∀ x ∈ b, 0 ≤ x) : leRow a (addRow a b) = true := by
  induction a generalizing b with
  | nil => simp [leRow]
  | cons x a ih =>
    cases b with
    | nil => simp [leRow, addRow]
    | cons y b =>
      have h1 := h y List.mem_cons_self
      have h2 := ih b (fun z hz => h z (List.mem_cons_of_mem _ hz))
      simp only [leRow, addRow, List.zipWith_cons_cons, List.all_cons, id, Bool.and_eq_true, decide_eq_true_eq] at *
      exact ⟨by omega, h2⟩

theorem colSum_nonneg (n : Nat) (m : Grid) (h : ∀ r ∈ m, ∀ x ∈ r, 0 ≤ x) : ∀ x ∈ colSum n m, 0 ≤ x := by
  induction m with
  | nil => intro x hx; simp [colSum] at hx; omega
  | cons r m ih =>
    have h2 := ih (fun r hr => h r (List.mem_cons_of_mem _ hr))
    have h1 := h r List.mem_cons_self
    simp only [colSum]
    generalize colSum n m = t at *
    clear ih h
    induction r generalizing t with
    | nil => simp [addRow]
    | cons x r ihr =>
      cases t with
      | nil => simp [addRow]
      | cons y t =>
        intro z hz
        simp only [addRow, List.zipWith_cons_cons, List.mem_cons] at hz
        rcases hz with rfl | hz
        · have := h1 x List.mem_cons_self; have := h2 y List.mem_cons_self; omega
        · exact ihr (fun z hz => h1 z (List.mem_cons_of_mem _ hz)) t (fun z hz => h2 z (List.mem_cons_of_mem _ hz)) z hz

theorem mem_imgs (rows : List Int) : ∀ (cols : List Int) (m : Grid), m ∈ imgs rows cols ↔ cellsOk cols.length m ∧ m.map List.sum = rows ∧ colSum cols.length m = cols := by
  induction rows with
  | nil =>
    intro cols m
    unfold imgs
    by_cases h : cols.all (· == 0) = true
    · rw [if_pos h, List.mem_singleton]
      constructor
      · rintro rfl
        refine ⟨by simp [cellsOk], rfl, ?_⟩
        simp only [colSum]
        symm
        rw [List.eq_replicate_iff]
        simpa using h
      · rintro ⟨_, h2, _⟩; simpa using h2
    · rw [if_neg h]
      simp only [List.not_mem_nil, false_iff]
      rintro ⟨_, h2, h3⟩
      have hm : m = [] := by simpa using h2
      subst hm
      simp only [colSum] at h3
      apply h
      rw [← h3]
      simp
  | cons r rs ih =>
    intro cols m
    unfold imgs
    rw [List.mem_flatMap]
    constructor
    · rintro ⟨row, hrow, hm⟩
      obtain ⟨h1, h2, h3⟩ := (mem_rowsOf _ _ _).1 hrow
      by_cases hle : leRow row cols = true
      · rw [if_pos hle, List.mem_map] at hm
        obtain ⟨m', hm', rfl⟩ := hm
        obtain ⟨g1, g2, g3⟩ := (ih _ _).1 hm'
        rw [subRow_length _ _ h1] at g1 g3
        refine ⟨?_, by simp [g2, h3], ?_⟩
        · intro x hx
          rcases List.mem_cons.1 hx with rfl | hx
          · exact ⟨h1, h2⟩
          · exact g1 x hx
        · simp only [colSum]; rw [g3]; exact add_sub_row cols row h1
      · rw [if_neg hle] at hm; simp at hm
    · rintro ⟨h1, h2, h3⟩
      cases m with
      | nil => simp at h2
      | cons row m' =>
        simp only [List.map_cons, List.cons.injEq] at h2
        have hr := h1 row List.mem_cons_self
        have hm' : cellsOk cols.length m' := fun x hx => h1 x (List.mem_cons_of_mem _ hx)
        have hlen := colSum_length cols.length m' (fun x hx => (hm' x hx).1)
        simp only [colSum] at h3
        have hnn := colSum_nonneg cols.length m' (fun x hx y hy => by have := (hm' x hx).2 y hy; omega)
        have hsub : subRow cols row = colSum cols.length m' := by
          have e := sub_add_row row (colSum cols.length m') (by omega)
          rw [h3] at e; exact e
        refine ⟨row, (mem_rowsOf _ _ _).2 ⟨hr.1, hr.2, h2.1⟩, ?_⟩
        have hle : leRow row cols = true := by
          have e := leRow_add row (colSum cols.length m') hnn
          rw [h3] at e; exact e
        rw [if_pos hle, List.mem_map]
        exact ⟨m', (ih _ _).2 (by rw [subRow_length _ _ hr.1]; exact ⟨hm', h2.2, hsub.symm⟩), rfl⟩
end Go.Proofs.Ytlhjbpachpjpkaa.Tomo

namespace Go.Proofs.Ytlhjbpachpjpkaa.Tomo

theorem flatMap_congr' {α β : Type} {l : List α} {f g : α → List β} (h : ∀ a ∈ l, f a = g a) : l.flatMap f = l.flatMap g := by
  induction l with
  | nil => rfl
  | cons x l ih => rw [List.flatMap_cons, List.flatMap_cons, h x List.mem_cons_self, ih (fun a ha => h a (List.mem_cons_of_mem _ ha))]

/-- one row of the search, cell by cell: K goes on behind it; n rows come after it -/
def putRow (K : Row → Row → List Grid) (n : Nat) : Row → Row → Int → Row → List Grid
  | pre, [], need, cur => if 0 < need then [] else K pre cur
  | pre, l :: ls, need, cur =>
    (if need ≤ (ls.length : Int) ∧ l ≤ (n : Int) then putRow K n (pre ++ [l]) ls need (cur ++ [0]) else []) ++
    (if 0 < need ∧ 0 < l then putRow K n (pre ++ [l - 1]) ls (need - 1) (cur ++ [1]) else [])

def putAll : List Int → Row → Int → Grid → List Grid
  | [], left, need, done => putRow (fun _ row => [done ++ [row]]) 0 [] left need []
  | r :: rs, left, need, done => putRow (fun left' row => putAll rs left' r (done ++ [row])) (rs.length + 1) [] left need []

def leAll (n : Nat) (l : Row) : Bool := l.all fun x => decide (x ≤ (n : Int))

theorem rowsOf_neg (n : Nat) (k : Int) (h : k < 0) : rowsOf n k = [] := by
  cases n with
  | zero => simp [rowsOf]; omega
  | succ n => simp [rowsOf]; omega

theorem rowsOf_big (n : Nat) : ∀ k : Int, (n : Int) < k → rowsOf n k = [] := by
  induction n with
  | zero => intro k h; simp [rowsOf]; omega
  | succ n ih =>
    intro k h
    have h1 : rowsOf n k = [] := ih k (by omega)
    have h2 : rowsOf n (k - 1) = [] := ih _ (by omega)
    simp [rowsOf, h1, h2]

theorem flatMap_ite {α β : Type} (c : Prop) [Decidable c] (l : List α) (f : α → List β) : (if c then l else []).flatMap f = if c then l.flatMap f else [] := by
  by_cases h : c <;> simp [h]

theorem putRow_eq (K : Row → Row → List Grid) (n : Nat) (ls : Row) : ∀ (pre : Row) (need : Int) (cur : Row), 0 ≤ need → need ≤ ls.length → (∀ l ∈ ls, 0 ≤ l ∧ l ≤ n + 1) →
    putRow K n pre ls need cur = (rowsOf ls.length need).flatMap fun row => if leRow row ls = true ∧ leAll n (subRow ls row) = true then K (pre ++ subRow ls row) (cur ++ row) else [] := by
  induction ls with
  | nil =>
    intro pre need cur h0 h1 _
    have : need = 0 := by simp at h1; omega
    subst this
    simp [putRow, rowsOf, leRow, leAll, subRow]
  | cons l ls ih =>
    intro pre need cur h0 h1 hl
    have hl0 := hl l List.mem_cons_self
    have hls := fun x hx => hl x (List.mem_cons_of_mem l hx)
    simp only [List.length_cons] at h1
    unfold putRow
    rw [List.length_cons]
    simp only [rowsOf, h0, if_true, List.flatMap_append]
    congr 1
    · rw [List.flatMap_map]
      by_cases hb : need ≤ (ls.length : Int)
      · by_cases hn : l ≤ (n : Int)
        · rw [if_pos ⟨hb, hn⟩, ih _ _ _ h0 hb hls]
          congr 1
          funext row
          have e1 : leRow (0 :: row) (l :: ls) = leRow row ls := by simp [leRow]; intro _; omega
          have e2 : leAll n (subRow (l :: ls) (0 :: row)) = leAll n (subRow ls row) := by simp [leAll, subRow]; intro _; omega
          rw [e1, e2]
          simp [subRow]
        · rw [if_neg (fun h => hn h.2)]
          symm
          rw [List.flatMap_eq_nil_iff]
          intro row _
          have e2 : leAll n (subRow (l :: ls) (0 :: row)) = false := by simp [leAll, subRow]; omega
          simp [e2]
      · rw [if_neg (fun h => hb h.1), rowsOf_big _ _ (by omega)]
        rfl
    · rw [flatMap_ite, List.flatMap_map]
      by_cases hp : 0 < need
      · have hp1 : 1 ≤ need := by omega
        simp only [hp1, if_true]
        by_cases hl1 : 0 < l
        · rw [if_pos ⟨hp, hl1⟩, ih _ _ _ (by omega) (by omega) hls]
          congr 1
          funext row
          have e1 : leRow (1 :: row) (l :: ls) = leRow row ls := by simp [leRow]; intro _; omega
          have e2 : leAll n (subRow (l :: ls) (1 :: row)) = leAll n (subRow ls row) := by simp [leAll, subRow]; intro _; omega
          rw [e1, e2]
          have e3 : subRow (l :: ls) (1 :: row) = (l - 1) :: subRow ls row := rfl
          rw [e3, List.append_assoc, List.append_assoc]
          rfl
        · rw [if_neg (fun h => hl1 h.2)]
          symm
          rw [List.flatMap_eq_nil_iff]
          intro row _
          have e1 : leRow (1 :: row) (l :: ls) = false := by simp [leRow]; omega
          simp [e1]
      · have hp1 : ¬ 1 ≤ need := by omega
        rw [if_neg (fun h => hp h.1), if_neg hp1]

theorem addRow_le (n : Nat) (a b : Row) (ha : ∀ x ∈ a, x = 0 ∨ x = 1) (hb : ∀ x ∈ b, x ≤ (n : Int)) : ∀ x ∈ addRow a b, x ≤ (n : Int) + 1 := by
  induction a generalizing b with
  | nil => simp [addRow]
  | cons y a ih =>
    cases b with
    | nil => simp [addRow]
    | cons z b =>
      intro x hx
      simp only [addRow, List.zipWith_cons_cons, List.mem_cons] at hx
      rcases hx with rfl | hx
      · have := ha y List.mem_cons_self; have := hb z List.mem_cons_self; omega
      · exact ih b (fun x hx => ha x (List.mem_cons_of_mem _ hx)) (fun x hx => hb x (List.mem_cons_of_mem _ hx)) x hx

theorem colSum_le (k : Nat) (m : Grid) (h : ∀ r ∈ m, ∀ x ∈ r, x = 0 ∨ x = 1) : ∀ x ∈ colSum k m, x ≤ (m.length : Int) := by
  induction m with
  | nil => intro x hx; simp [colSum] at hx; simp; omega
  | cons r m ih =>
    simp only [colSum]
    intro x hx
    have := addRow_le m.length r (colSum k m) (h r List.mem_cons_self) (ih (fun r hr => h r (List.mem_cons_of_mem _ hr))) x hx
    simp only [List.length_cons]; omega

/-- a column that asks for more than there are rows: no image -/
theorem imgs_big (rows cols : List Int) (x : Int) (hx : x ∈ cols) (h : (rows.length : Int) < x) : imgs rows cols = [] := by
  rw [List.eq_nil_iff_forall_not_mem]
  intro m hm
  obtain ⟨h1, h2, h3⟩ := (mem_imgs _ _ _).1 hm
  have := colSum_le cols.length m (fun r hr => (h1 r hr).2) x (by rw [h3]; exact hx)
  have hl : m.length = rows.length := by rw [← h2]; simp
  omega

theorem leAll_false {n : Nat} {l : Row} (h : leAll n l = false) : ∃ x ∈ l, (n : Int) < x := by
  simp only [leAll, List.all_eq_false] at h
  obtain ⟨x, hx, h⟩ := h
  exact ⟨x, hx, by simpa using h⟩

theorem leRow_sub {a b : Row} (h : leRow b a = true) (hlen : b.length = a.length) : ∀ x ∈ subRow a b, 0 ≤ x := by
  induction a generalizing b with
  | nil => simp [subRow]
  | cons y a ih =>
    cases b with
    | nil => simp at hlen
    | cons z b =>
      simp only [leRow, List.zipWith_cons_cons, List.all_cons, id, Bool.and_eq_true, decide_eq_true_eq] at h
      intro x hx
      simp only [subRow, List.zipWith_cons_cons, List.mem_cons] at hx
      rcases hx with rfl | hx
      · omega
      · exact ih (b := b) h.2 (by simpa using hlen) x hx

theorem putAll_eq (rs : List Int) : ∀ (left : Row) (need : Int) (done : Grid), 0 ≤ need → need ≤ left.length → (∀ r ∈ rs, 0 ≤ r ∧ r ≤ left.length) → (∀ l ∈ left, 0 ≤ l ∧ l ≤ rs.length + 1) →
    putAll rs left need done = (imgs (need :: rs) left).map (done ++ ·) := by
  induction rs with
  | nil =>
    intro left need done h0 h1 _ hl
    unfold putAll
    rw [putRow_eq _ _ _ _ _ _ h0 h1 (by intro l h; have := hl l h; simpa using this)]
    simp only [imgs]
    rw [List.map_flatMap]
    refine flatMap_congr' (fun row hrow => ?_)
    have hr := (mem_rowsOf _ _ _).1 hrow
    by_cases hle : leRow row left = true
    · have hnn := leRow_sub hle hr.1
      by_cases ha : leAll 0 (subRow left row) = true
      · have e : (subRow left row).all (· == 0) = true := by
          simp only [leAll, List.all_eq_true, decide_eq_true_eq] at ha
          simp only [List.all_eq_true, beq_iff_eq]
          intro x hx; have := ha x hx; have := hnn x hx; omega
        simp [hle, ha, e]
      · have e : ¬ (subRow left row).all (· == 0) = true := by
          intro e
          apply ha
          simp only [List.all_eq_true, beq_iff_eq] at e
          simp only [leAll, List.all_eq_true, decide_eq_true_eq]
          intro x hx; have := e x hx; omega
        rw [if_neg (fun h => ha h.2), if_pos hle, if_neg e]; rfl
    · rw [if_neg (fun h => hle h.1), if_neg hle]; rfl
  | cons r rs ih =>
    intro left need done h0 h1 hrs hl
    unfold putAll
    rw [putRow_eq _ _ _ _ _ _ h0 h1 (by intro l h; have := hl l h; simpa using this)]
    simp only [imgs]
    rw [List.map_flatMap]
    refine flatMap_congr' (fun row hrow => ?_)
    have hr := (mem_rowsOf _ _ _).1 hrow
    by_cases hle : leRow row left = true
    · have hnn := leRow_sub hle hr.1
      have hlen := subRow_length left row hr.1
      by_cases ha : leAll (rs.length + 1) (subRow left row) = true
      · have hb : ∀ x ∈ subRow left row, 0 ≤ x ∧ x ≤ rs.length + 1 := by
          intro x hx
          simp only [leAll, List.all_eq_true, decide_eq_true_eq] at ha
          have := ha x hx
          exact ⟨hnn x hx, by omega⟩
        rw [if_pos ⟨hle, ha⟩, if_pos hle, List.nil_append, List.nil_append]
        rw [ih _ _ _ (hrs r List.mem_cons_self).1 (by rw [hlen]; exact (hrs r List.mem_cons_self).2) (by rw [hlen]; exact fun x hx => hrs x (List.mem_cons_of_mem _ hx)) hb]
        simp only [imgs, List.map_map]
        refine List.map_congr_left (fun m _ => by simp)
      · have ha' : leAll (rs.length + 1) (subRow left row) = false := by simpa using ha
        obtain ⟨x, hx, hgt⟩ := leAll_false ha'
        have e : imgs (r :: rs) (subRow left row) = [] := imgs_big _ _ x hx (by simpa using hgt)
        rw [if_neg (fun h => ha h.2), if_pos hle]
        have e' := e
        simp only [imgs] at e'
        rw [e']; rfl
    · rw [if_neg (fun h => hle h.1), if_neg hle]; rfl

/-! ### the search that prunes by a test -/
def specAll (ex : List Int → List Int → Bool) : List Int → List Int → List Grid
  | [], _ => [[]]
  | r :: rs, cols => (rowsOf cols.length r).flatMap fun row =>
      if leRow row cols = true ∧ (if rs = [] then decide ((subRow cols row).sum = 0) else ex rs (subRow cols row)) = true then (specAll ex rs (subRow cols row)).map (row :: ·) else []

theorem sum_nonneg_zero {l : List Int} (h : ∀ x ∈ l, 0 ≤ x) : 0 ≤ l.sum ∧ (l.sum = 0 ↔ l.all (· == 0) = true) := by
  induction l with
  | nil => simp
  | cons x l ih =>
    have h1 := h x List.mem_cons_self
    obtain ⟨h2, h3⟩ := ih (fun y hy => h y (List.mem_cons_of_mem _ hy))
    rw [List.sum_cons]
    refine ⟨by omega, ?_⟩
    simp only [List.all_cons, Bool.and_eq_true, beq_iff_eq]
    rw [← h3]; omega

theorem specAll_eq (ex : List Int → List Int → Bool) (hex : ∀ rs cols, rs ≠ [] → imgs rs cols ≠ [] → ex rs cols = true) (rows : List Int) :
    ∀ cols, rows ≠ [] → specAll ex rows cols = imgs rows cols := by
  induction rows with
  | nil => intro _ h; exact absurd rfl h
  | cons r rs ih =>
    intro cols _
    simp only [specAll, imgs]
    refine flatMap_congr' (fun row hrow => ?_)
    have hr := (mem_rowsOf _ _ _).1 hrow
    by_cases hle : leRow row cols = true
    · have hnn := leRow_sub hle hr.1
      have hz := (sum_nonneg_zero hnn).2
      by_cases hrs : rs = []
      · subst hrs
        simp only [if_true, hle, true_and, imgs, specAll, decide_eq_true_eq]
        by_cases e : (subRow cols row).sum = 0
        · rw [if_pos e, if_pos (hz.1 e)]
        · rw [if_neg e, if_neg (fun h => e (hz.2 h))]; rfl
      · simp only [hrs, if_false, hle, true_and, if_true]
        rw [ih _ hrs]
        by_cases e : imgs rs (subRow cols row) = []
        · rw [e]; simp
        · rw [hex _ _ hrs e]; simp
    · rw [if_neg (fun h => hle h.1), if_neg hle]
theorem specAll_eq_of (ex : List Int → List Int → Bool) (R C : Nat) (hex : ∀ rs cols, rs ≠ [] → rs.length ≤ R → cols.length = C → imgs rs cols ≠ [] → ex rs cols = true) (rows : List Int) :
    ∀ cols, rows ≠ [] → rows.length ≤ R → cols.length = C → specAll ex rows cols = imgs rows cols := by
  induction rows with
  | nil => intro _ h _ _; exact absurd rfl h
  | cons r rs ih =>
    intro cols _ hR hC
    have hR' : rs.length ≤ R := by rw [List.length_cons] at hR; omega
    simp only [specAll, imgs]
    refine flatMap_congr' (fun row hrow => ?_)
    have hr := (mem_rowsOf _ _ _).1 hrow
    by_cases hle : leRow row cols = true
    · have hnn := leRow_sub hle hr.1
      have hz := (sum_nonneg_zero hnn).2
      by_cases hrs : rs = []
      · subst hrs
        simp only [if_true, hle, true_and, imgs, specAll, decide_eq_true_eq]
        by_cases e : (subRow cols row).sum = 0
        · rw [if_pos e, if_pos (hz.1 e)]
        · rw [if_neg e, if_neg (fun h => e (hz.2 h))]; rfl
      · simp only [hrs, if_false, hle, true_and, if_true]
        have hC' : (subRow cols row).length = C := by rw [subRow_length _ _ hr.1]; exact hC
        rw [ih _ hrs hR' hC']
        by_cases e : imgs rs (subRow cols row) = []
        · rw [e]; simp
        · rw [hex _ _ hrs hR' hC' e]; simp
    · rw [if_neg (fun h => hle h.1), if_neg hle]
end Go.Proofs.Ytlhjbpachpjpkaa.Tomo

namespace Go.Proofs.Ytlhjbpachpjpkaa.Tomo

def sumN : Nat → (Nat → Int) → Int
  | 0, _ => 0
  | n + 1, f => sumN n f + f n

theorem sumN_congr {n : Nat} {f g : Nat → Int} (h : ∀ i, i < n → f i = g i) : sumN n f = sumN n g := by
  induction n with
  | zero => rfl
  | succ n ih => simp only [sumN]; rw [ih (fun i hi => h i (by omega)), h n (by omega)]

theorem sumN_zero (n : Nat) : sumN n (fun _ => 0) = 0 := by
  induction n with
  | zero => rfl
  | succ n ih => simp only [sumN, ih]; rfl

theorem sumN_add (n : Nat) (f g : Nat → Int) : sumN n (fun i => f i + g i) = sumN n f + sumN n g := by
  induction n with
  | zero => rfl
  | succ n ih => simp only [sumN, ih]; omega

theorem sumN_sub (n : Nat) (f g : Nat → Int) : sumN n (fun i => f i - g i) = sumN n f - sumN n g := by
  induction n with
  | zero => rfl
  | succ n ih => simp only [sumN, ih]; omega

theorem sumN_mul (n : Nat) (k : Int) (f : Nat → Int) : sumN n (fun i => k * f i) = k * sumN n f := by
  induction n with
  | zero => simp [sumN]
  | succ n ih => simp only [sumN, ih, Int.mul_add]

theorem sumN_mono {n : Nat} {f g : Nat → Int} (h : ∀ i, i < n → f i ≤ g i) : sumN n f ≤ sumN n g := by
  induction n with
  | zero => exact Int.le_refl _
  | succ n ih =>
    simp only [sumN]
    have := ih (fun i hi => h i (by omega))
    have := h n (by omega)
    omega

theorem sumN_nonneg {n : Nat} {f : Nat → Int} (h : ∀ i, i < n → 0 ≤ f i) : 0 ≤ sumN n f := by
  have := sumN_mono (f := fun _ => 0) (g := f) (n := n) h
  rw [sumN_zero] at this; exact this

/-- terms that are nowhere negative and add up to nothing are all 0 -/
theorem sumN_eq_zero {n : Nat} {f : Nat → Int} (h : ∀ i, i < n → 0 ≤ f i) (hs : sumN n f ≤ 0) : ∀ i, i < n → f i = 0 := by
  induction n with
  | zero => intro i hi; omega
  | succ n ih =>
    simp only [sumN] at hs
    have h1 : 0 ≤ sumN n f := sumN_nonneg (fun i hi => h i (by omega))
    have h2 := h n (by omega)
    intro i hi
    by_cases e : i = n
    · subst e; omega
    · exact ih (fun i hi => h i (by omega)) (by omega) i (by omega)

theorem sumN_swap (n m : Nat) (f : Nat → Nat → Int) : sumN n (fun i => sumN m (fun j => f i j)) = sumN m (fun j => sumN n (fun i => f i j)) := by
  induction n with
  | zero => simp [sumN, sumN_zero]
  | succ n ih => simp only [sumN, ih, sumN_add]

theorem sumN_split (n m : Nat) (f : Nat → Int) : sumN (n + m) f = sumN n f + sumN m (fun i => f (n + i)) := by
  induction m with
  | zero => simp [sumN]
  | succ m ih =>
    show sumN (n + m) f + f (n + m) = sumN n f + (sumN m (fun i => f (n + i)) + f (n + m))
    rw [ih]; omega

/-- one term is changed -/
theorem sumN_set {n : Nat} {f g : Nat → Int} {k : Nat} (hk : k < n) (h : ∀ i, i < n → i ≠ k → f i = g i) : sumN n f = sumN n g + (f k - g k) := by
  induction n with
  | zero => omega
  | succ n ih =>
    simp only [sumN]
    by_cases e : k = n
    · subst e
      rw [sumN_congr (fun i hi => h i (by omega) (by omega))]; omega
    · rw [ih (by omega) (fun i hi hne => h i (by omega) hne), h n (by omega) (by omega)]; omega

theorem sumN_single {n : Nat} {f : Nat → Int} {k : Nat} (hk : k < n) (h : ∀ i, i < n → i ≠ k → f i = 0) : sumN n f = f k := by
  have := sumN_set (f := f) (g := fun _ => 0) hk h
  rw [sumN_zero] at this; omega

/-- two terms are changed -/
theorem sumN_set2 {n : Nat} {f g : Nat → Int} {k l : Nat} (hk : k < n) (hl : l < n) (hne : k ≠ l) (h : ∀ i, i < n → i ≠ k → i ≠ l → f i = g i) :
    sumN n f = sumN n g + (f k - g k) + (f l - g l) := by
  have h1 := sumN_set (f := f) (g := fun i => if i = l then f l else g i) hk (fun i hi hik => by
    by_cases e : i = l
    · simp [e]
    · simp [e, h i hi hik e])
  have h2 := sumN_set (f := fun i => if i = l then f l else g i) (g := g) hl (fun i _ hil => by simp [hil])
  simp only [hne, if_true, if_false] at h1 h2
  omega

def b2i (b : Bool) : Int := if b then 1 else 0

theorem b2i_nonneg (b : Bool) : 0 ≤ b2i b := by cases b <;> decide

/-! ### nodes: the rows 0 .. R-1, then the columns R .. R+C-1 -/
section
variable (R C : Nat) (r c : Nat → Int)

/-- what a row lacks; what a column has too much -/
def dev (m : Nat → Nat → Bool) (v : Nat) : Int :=
  if v < R then r v - sumN C (fun x => b2i (m v x)) else sumN R (fun y => b2i (m y (v - R))) - c (v - R)

def errOf (m : Nat → Nat → Bool) : Int := sumN (R + C) (fun v => (dev R C r c m v).natAbs)

/-- from a row to a column: the cell may become black; from a column to a row: it may become white -/
def Arc (ok : Nat → Nat → Bool → Bool) (m : Nat → Nat → Bool) (u v : Nat) : Prop :=
  (u < R ∧ R ≤ v ∧ v < R + C ∧ m u (v - R) = false ∧ ok u (v - R) true = true) ∨
  (v < R ∧ R ≤ u ∧ u < R + C ∧ m v (u - R) = true ∧ ok v (u - R) false = true)

def Path (ok : Nat → Nat → Bool → Bool) (m : Nat → Nat → Bool) (p : Nat → Nat) (k : Nat) : Prop :=
  ∀ i, i < k → Arc R C ok m (p i) (p (i + 1))

def flip (m : Nat → Nat → Bool) (a b : Nat) : Nat → Nat → Bool := fun y x => if y = a ∧ x = b then !m y x else m y x

def Meets (ok : Nat → Nat → Bool → Bool) (m : Nat → Nat → Bool) : Prop := ∀ y, y < R → ∀ x, x < C → ok y x (m y x) = true

def turnArc (m : Nat → Nat → Bool) (u v : Nat) : Nat → Nat → Bool := if u < R then flip m u (v - R) else flip m v (u - R)

theorem arc_lt {ok : Nat → Nat → Bool → Bool} {m : Nat → Nat → Bool} {u v : Nat} (h : Arc R C ok m u v) : u < R + C ∧ v < R + C ∧ u ≠ v := by
  unfold Arc at h; omega

theorem flip_at (m : Nat → Nat → Bool) (a b : Nat) : flip m a b a b = !m a b := by simp [flip]
theorem flip_other (m : Nat → Nat → Bool) (a b y x : Nat) (h : ¬ (y = a ∧ x = b)) : flip m a b y x = m y x := by simp [flip, h]

theorem sum_flip_row {m : Nat → Nat → Bool} {a b : Nat} (hb : b < C) (y : Nat) :
    sumN C (fun x => b2i (flip m a b y x)) = sumN C (fun x => b2i (m y x)) + (if y = a then (if m a b then -1 else 1) else 0) := by
  by_cases e : y = a
  · subst e
    rw [sumN_set (g := fun x => b2i (m y x)) hb (fun i _ hne => by rw [flip_other _ _ _ _ _ (fun h => hne h.2)]), flip_at]
    cases m y b <;> simp [b2i]
  · rw [sumN_congr (g := fun x => b2i (m y x)) (fun i _ => by rw [flip_other _ _ _ _ _ (fun h => e h.1)])]; simp [e]

theorem sum_flip_col {m : Nat → Nat → Bool} {a b : Nat} (ha : a < R) (x : Nat) :
    sumN R (fun y => b2i (flip m a b y x)) = sumN R (fun y => b2i (m y x)) + (if x = b then (if m a b then -1 else 1) else 0) := by
  by_cases e : x = b
  · subst e
    rw [sumN_set (g := fun y => b2i (m y x)) ha (fun i _ hne => by rw [flip_other _ _ _ _ _ (fun h => hne h.1)]), flip_at]
    cases m a x <;> simp [b2i]
  · rw [sumN_congr (g := fun y => b2i (m y x)) (fun i _ => by rw [flip_other _ _ _ _ _ (fun h => e h.2)])]; simp [e]

/-- turning an arc's cell moves one unit along the arc -/
theorem dev_turn {ok : Nat → Nat → Bool → Bool} {m : Nat → Nat → Bool} {u v : Nat} (h : Arc R C ok m u v) (w : Nat) (_hw : w < R + C) :
    dev R C r c (turnArc R m u v) w = dev R C r c m w - (if w = u then 1 else 0) + (if w = v then 1 else 0) := by
  rcases h with ⟨hu, hv, hv2, hm, _⟩ | ⟨hv, hu, hu2, hm, _⟩
  · have e1 : turnArc R m u v = flip m u (v - R) := by simp [turnArc, hu]
    rw [e1]
    unfold dev
    by_cases hwr : w < R
    · simp only [hwr, if_true]
      rw [sum_flip_row C (by omega) w, hm]
      have : w ≠ v := by omega
      by_cases e : w = u <;> simp [e, this] <;> omega
    · simp only [hwr, if_false]
      rw [sum_flip_col R hu (w - R), hm]
      have : w ≠ u := by omega
      by_cases e : w = v
      · subst e; simp [this]; omega
      · have e' : ¬ (w - R = v - R) := by omega
        simp [e, e', this]
  · have e1 : turnArc R m u v = flip m v (u - R) := by simp [turnArc, Nat.not_lt.2 hu]
    rw [e1]
    unfold dev
    by_cases hwr : w < R
    · simp only [hwr, if_true]
      rw [sum_flip_row C (by omega) w, hm]
      have : w ≠ u := by omega
      by_cases e : w = v <;> simp [e, this] <;> omega
    · simp only [hwr, if_false]
      rw [sum_flip_col R hv (w - R), hm]
      have : w ≠ v := by omega
      by_cases e : w = u
      · subst e; simp [this]; omega
      · have e' : ¬ (w - R = u - R) := by omega
        simp [e, e', this]

theorem meets_turn {ok : Nat → Nat → Bool → Bool} {m : Nat → Nat → Bool} {u v : Nat} (h : Arc R C ok m u v) (hm : Meets R C ok m) : Meets R C ok (turnArc R m u v) := by
  intro y hy x hx
  rcases h with ⟨hu, hv, hv2, hmm, hok⟩ | ⟨hv, hu, hu2, hmm, hok⟩
  · simp only [turnArc, hu, if_true]
    by_cases e : y = u ∧ x = v - R
    · obtain ⟨rfl, rfl⟩ := e; rw [flip_at, hmm]; exact hok
    · rw [flip_other _ _ _ _ _ e]; exact hm y hy x hx
  · simp only [turnArc, Nat.not_lt.2 hu, if_false]
    by_cases e : y = v ∧ x = u - R
    · obtain ⟨rfl, rfl⟩ := e; rw [flip_at, hmm]; exact hok
    · rw [flip_other _ _ _ _ _ e]; exact hm y hy x hx

/-- an arc that touches not t stands when an arc into t is turned -/
theorem arc_keep {ok : Nat → Nat → Bool → Bool} {m : Nat → Nat → Bool} {u t a b : Nat} (h : Arc R C ok m u t) (k : Arc R C ok m a b) (ha : a ≠ t) (hb : b ≠ t) :
    Arc R C ok (turnArc R m u t) a b := by
  have key : ∀ y x, y < R → R + x ≠ t → y ≠ t → turnArc R m u t y x = m y x := by
    intro y x hy h1 h2
    unfold Arc at h
    unfold turnArc
    by_cases hu : u < R
    · rw [if_pos hu, flip_other]; omega
    · rw [if_neg hu, flip_other]; omega
  rcases k with ⟨h1, h2, h3, h4, h5⟩ | ⟨h1, h2, h3, h4, h5⟩
  · exact .inl ⟨h1, h2, h3, by rw [key a (b - R) h1 (by omega) ha]; exact h4, h5⟩
  · exact .inr ⟨h1, h2, h3, by rw [key b (a - R) h1 (by omega) hb]; exact h4, h5⟩

/-- along a path from a node that has too much to one that lacks, the error can be made less -/
theorem improve (ok : Nat → Nat → Bool → Bool) (k : Nat) : ∀ (m : Nat → Nat → Bool) (p : Nat → Nat), Meets R C ok m → Path R C ok m p k →
    0 < dev R C r c m (p 0) → dev R C r c m (p k) < 0 → p 0 < R + C →
    ∃ m', Meets R C ok m' ∧ errOf R C r c m' < errOf R C r c m := by
  induction k using Nat.strongRecOn with
  | _ k ih =>
    intro m p hm hp hs ht h0
    by_cases hj : ∃ j, j < k ∧ p j = p k
    · obtain ⟨j, hjk, hj⟩ := hj
      exact ih j hjk m p hm (fun i hi => hp i (by omega)) hs (by rw [hj]; exact ht) h0
    · cases k with
      | zero => omega
      | succ k =>
        have harc := hp k (by omega)
        have hlt := arc_lt R C harc
        have hne : ∀ i, i < k + 1 → p i ≠ p (k + 1) := fun i hi e => hj ⟨i, hi, e⟩
        have hd := dev_turn R C r c harc
        have hm1 := meets_turn R C harc hm
        have herr : errOf R C r c (turnArc R m (p k) (p (k + 1))) = errOf R C r c m
            + (((dev R C r c m (p k) - 1).natAbs : Int) - (dev R C r c m (p k)).natAbs)
            + (((dev R C r c m (p (k + 1)) + 1).natAbs : Int) - (dev R C r c m (p (k + 1))).natAbs) := by
          unfold errOf
          have h1 := hd (p k) hlt.1
          have h2 := hd (p (k + 1)) hlt.2.1
          rw [sumN_set2 (g := fun v => ((dev R C r c m v).natAbs : Int)) hlt.1 hlt.2.1 hlt.2.2 (fun i hi h1 h2 => by rw [hd i hi]; simp [h1, h2])]
          rw [h1, h2]
          have e1 : p k ≠ p (k + 1) := hlt.2.2
          have e2 : p (k + 1) ≠ p k := fun e => e1 e.symm
          simp [e1, e2]
        by_cases hk : 0 < dev R C r c m (p k)
        · exact ⟨_, hm1, by rw [herr]; omega⟩
        · have hk0 : k ≠ 0 := by intro e; subst e; exact hk hs
          have he : errOf R C r c (turnArc R m (p k) (p (k + 1))) = errOf R C r c m := by rw [herr]; omega
          have hp0k : p 0 ≠ p k := by intro e; rw [e] at hs; exact hk hs
          obtain ⟨m', h1, h2⟩ := ih k (by omega) (turnArc R m (p k) (p (k + 1))) p hm1
            (fun i hi => arc_keep R C harc (hp i (by omega)) (hne i (by omega)) (hne (i + 1) (by omega)))
            (by rw [hd _ h0]; simp [hp0k, hne 0 (by omega)]; omega)
            (by rw [hd _ hlt.1]; simp [hlt.2.2]; omega) h0
          exact ⟨m', h1, by omega⟩

theorem sum_dev (m : Nat → Nat → Bool) (htot : sumN R r = sumN C c) : sumN (R + C) (dev R C r c m) = 0 := by
  rw [sumN_split]
  rw [sumN_congr (g := fun y => r y - sumN C (fun x => b2i (m y x))) (fun i hi => by simp [dev, hi])]
  rw [sumN_congr (n := C) (g := fun x => sumN R (fun y => b2i (m y x)) - c x) (fun i hi => by simp [dev, Nat.not_lt.2 (Nat.le_add_right R i)])]
  rw [sumN_sub, sumN_sub, sumN_swap, htot]; omega

/-- what the rectangle (A, B) allows -/
def allowed (ok : Nat → Nat → Bool → Bool) (A B : Nat → Bool) : Int :=
  sumN R (fun y => sumN C (fun x => b2i (A y && !B x && ok y x true) - b2i (!A y && B x && !ok y x false)))

def asked (A B : Nat → Bool) : Int := sumN R (fun y => if A y then r y else 0) - sumN C (fun x => if B x then c x else 0)

theorem least_err (ok : Nat → Nat → Bool → Bool) (n : Nat) : ∀ m, Meets R C ok m → errOf R C r c m ≤ n →
    ∃ m', Meets R C ok m' ∧ ∀ m'', Meets R C ok m'' → errOf R C r c m' ≤ errOf R C r c m'' := by
  have h0 : ∀ m, 0 ≤ errOf R C r c m := fun m => sumN_nonneg (fun _ _ => by omega)
  induction n with
  | zero => intro m hm he; exact ⟨m, hm, fun m'' _ => by have := h0 m''; omega⟩
  | succ n ih =>
    intro m hm he
    by_cases h : ∃ m', Meets R C ok m' ∧ errOf R C r c m' < errOf R C r c m
    · obtain ⟨m', h1, h2⟩ := h; exact ih m' h1 (by omega)
    · exact ⟨m, hm, fun m'' h'' => by
        rcases Int.lt_or_le (errOf R C r c m'') (errOf R C r c m) with h1 | h1
        · exact absurd ⟨m'', h'', h1⟩ h
        · exact h1⟩

theorem b2i_true {b : Bool} (h : b = true) : b2i b = 1 := by rw [h]; rfl

open Classical in
theorem feasible_or_cut (ok : Nat → Nat → Bool → Bool) (m0 : Nat → Nat → Bool) (hm0 : Meets R C ok m0) (htot : sumN R r = sumN C c) :
    (∃ m, Meets R C ok m ∧ (∀ y, y < R → sumN C (fun x => b2i (m y x)) = r y) ∧ (∀ x, x < C → sumN R (fun y => b2i (m y x)) = c x)) ∨
    (∃ A B : Nat → Bool, allowed R C ok A B < asked R C r c A B) := by
  have h0 : ∀ m, 0 ≤ errOf R C r c m := fun m => sumN_nonneg (fun _ _ => by omega)
  obtain ⟨m, hm, hmin⟩ := least_err R C r c ok (errOf R C r c m0).toNat m0 hm0 (by have := h0 m0; omega)
  by_cases hsrc : ∃ s, s < R + C ∧ 0 < dev R C r c m s
  · right
    obtain ⟨s, hs, hds⟩ := hsrc
    let S : Nat → Prop := fun v => ∃ k p, p 0 < R + C ∧ 0 < dev R C r c m (p 0) ∧ Path R C ok m p k ∧ p k = v
    have Sself : ∀ v, v < R + C → 0 < dev R C r c m v → S v := fun v hv hd => ⟨0, fun _ => v, hv, hd, fun i hi => by omega, rfl⟩
    have Sstep : ∀ u v, S u → Arc R C ok m u v → S v := by
      rintro u v ⟨k, p, h1, h2, h3, rfl⟩ ha
      refine ⟨k + 1, fun i => if i ≤ k then p i else v, by simpa using h1, by simpa using h2, ?_, by simp [Nat.not_succ_le_self]⟩
      intro i hi
      by_cases e : i = k
      · subst e; simpa [Nat.not_succ_le_self] using ha
      · have h4 : i ≤ k := by omega
        have h5 : i + 1 ≤ k := by omega
        simp only [h4, h5, if_true]
        exact h3 i (by omega)
    have Snosink : ∀ v, S v → 0 ≤ dev R C r c m v := by
      rintro v ⟨k, p, h1, h2, h3, rfl⟩
      rcases Int.lt_or_le (dev R C r c m (p k)) 0 with h4 | h4
      · obtain ⟨m', h5, h6⟩ := improve R C r c ok k m p hm h3 h2 h4 h1
        have := hmin m' h5
        omega
      · exact h4
    refine ⟨fun y => decide (S y), fun x => decide (S (R + x)), ?_⟩
    -- what stands in the rectangle
    have hb : allowed R C ok (fun y => decide (S y)) (fun x => decide (S (R + x)))
        = sumN R (fun y => sumN C (fun x => b2i (m y x) * ((if S y then 1 else 0) - (if S (R + x) then 1 else 0)))) := by
      unfold allowed
      refine sumN_congr fun y hy => sumN_congr fun x hx => ?_
      have hmm := hm y hy x hx
      by_cases h1 : S y <;> by_cases h2 : S (R + x)
      · simp [h1, h2, b2i]
      · simp only [h1, h2, decide_true, decide_false, if_true, if_false]
        cases hv : m y x
        · have : ¬ Arc R C ok m y (R + x) := fun ha => h2 (Sstep _ _ h1 ha)
          have h3 : ok y x true = false := by
            cases h4 : ok y x true
            · rfl
            · exact absurd (.inl ⟨hy, by omega, by omega, by simpa using hv, by simpa using h4⟩) this
          simp [h3, b2i]
        · rw [hv] at hmm
          simp [hmm, b2i]
      · simp only [h1, h2, decide_true, decide_false, if_true, if_false]
        cases hv : m y x
        · rw [hv] at hmm
          simp [hmm, b2i]
        · have : ¬ Arc R C ok m (R + x) y := fun ha => h1 (Sstep _ _ h2 ha)
          have h3 : ok y x false = false := by
            cases h4 : ok y x false
            · rfl
            · exact absurd (.inr ⟨hy, by omega, by omega, by simpa using hv, by simpa using h4⟩) this
          simp [h3, b2i]
      · simp [h1, h2, b2i]
    rw [hb]
    have hsplit : sumN R (fun y => sumN C (fun x => b2i (m y x) * ((if S y then 1 else 0) - (if S (R + x) then 1 else 0))))
        = sumN R (fun y => if S y then sumN C (fun x => b2i (m y x)) else 0) - sumN C (fun x => if S (R + x) then sumN R (fun y => b2i (m y x)) else 0) := by
      have e1 : ∀ y x, b2i (m y x) * ((if S y then 1 else 0) - (if S (R + x) then 1 else 0)) = (if S y then b2i (m y x) else 0) - (if S (R + x) then b2i (m y x) else 0) := by
        intro y x
        by_cases h1 : S y <;> by_cases h2 : S (R + x) <;> simp [h1, h2] <;> omega
      simp only [e1]
      rw [sumN_congr (fun y _ => sumN_sub C _ _), sumN_sub]
      congr 1
      · refine sumN_congr fun y _ => ?_
        by_cases h1 : S y <;> simp [h1, sumN_zero]
      · rw [sumN_swap]
        refine sumN_congr fun x _ => ?_
        by_cases h1 : S (R + x) <;> simp [h1, sumN_zero]
    rw [hsplit]
    unfold asked
    have hpos : 0 < sumN (R + C) (fun v => if S v then dev R C r c m v else 0) := by
      have hn : ∀ i, i < R + C → 0 ≤ (fun v => if S v then dev R C r c m v else 0) i := by
        intro i _
        by_cases h1 : S i
        · simp only [h1, if_true]; exact Snosink i h1
        · simp [h1]
      rcases Int.lt_or_le 0 (sumN (R + C) (fun v => if S v then dev R C r c m v else 0)) with h | h
      · exact h
      · have := sumN_eq_zero hn h s hs
        simp only [Sself s hs hds, if_true] at this
        omega
    rw [sumN_split] at hpos
    have e2 : sumN R (fun v => if S v then dev R C r c m v else 0) = sumN R (fun y => if S y then r y else 0) - sumN R (fun y => if S y then sumN C (fun x => b2i (m y x)) else 0) := by
      rw [← sumN_sub]
      refine sumN_congr fun y hy => ?_
      by_cases h1 : S y <;> simp [h1, dev, hy]
    have e3 : sumN C (fun i => if S (R + i) then dev R C r c m (R + i) else 0) = sumN C (fun x => if S (R + x) then sumN R (fun y => b2i (m y x)) else 0) - sumN C (fun x => if S (R + x) then c x else 0) := by
      rw [← sumN_sub]
      refine sumN_congr fun x hx => ?_
      by_cases h1 : S (R + x) <;> simp [h1, dev, Nat.not_lt.2 (Nat.le_add_right R x)]
    rw [e2, e3] at hpos
    simp only [decide_eq_true_eq]
    omega
  · left
    have hle : ∀ v, v < R + C → dev R C r c m v ≤ 0 := fun v hv => by
      rcases Int.lt_or_le 0 (dev R C r c m v) with h | h
      · exact absurd ⟨v, hv, h⟩ hsrc
      · exact h
    have hz : ∀ v, v < R + C → dev R C r c m v = 0 := by
      have h1 := sum_dev R C r c m htot
      have h2 : sumN (R + C) (fun v => 0 - dev R C r c m v) ≤ 0 := by rw [sumN_sub, sumN_zero, h1]; omega
      intro v hv
      have := sumN_eq_zero (fun i hi => by have := hle i hi; omega) h2 v hv
      omega
    refine ⟨m, hm, fun y hy => ?_, fun x hx => ?_⟩
    · have := hz y (by omega); simp only [dev, hy, if_true] at this; omega
    · have := hz (R + x) (by omega)
      have e : ¬ (R + x < R) := by omega
      simp only [dev, e, if_false, Nat.add_sub_cancel_left] at this; omega

end
end Go.Proofs.Ytlhjbpachpjpkaa.Tomo

namespace Go.Proofs.Ytlhjbpachpjpkaa.Tomo
section
variable (R C : Nat) (r c : Nat → Int)

/-- an image with the sums keeps every rectangle -/
theorem asked_le_allowed (ok : Nat → Nat → Bool → Bool) (m : Nat → Nat → Bool) (hm : Meets R C ok m) (hr : ∀ y, y < R → sumN C (fun x => b2i (m y x)) = r y)
    (hc : ∀ x, x < C → sumN R (fun y => b2i (m y x)) = c x) (A B : Nat → Bool) : asked R C r c A B ≤ allowed R C ok A B := by
  have e : asked R C r c A B = sumN R (fun y => sumN C (fun x => (if A y then b2i (m y x) else 0) - (if B x then b2i (m y x) else 0))) := by
    unfold asked
    rw [sumN_congr (f := fun y => sumN C (fun x => (if A y then b2i (m y x) else 0) - (if B x then b2i (m y x) else 0))) (fun y _ => sumN_sub C _ _), sumN_sub]
    congr 1
    · refine sumN_congr fun y hy => ?_
      by_cases h : A y = true
      · simp only [h, if_true]; exact (hr y hy).symm
      · simp [h, sumN_zero]
    · rw [sumN_swap]
      refine sumN_congr fun x hx => ?_
      by_cases h : B x = true
      · simp only [h, if_true]; exact (hc x hx).symm
      · simp [h, sumN_zero]
  rw [e]
  unfold allowed
  refine sumN_mono fun y hy => sumN_mono fun x hx => ?_
  have hmm := hm y hy x hx
  cases hA : A y <;> cases hB : B x <;> cases hv : m y x <;> rw [hv] at hmm <;> simp [b2i, hmm] <;> split <;> omega

theorem natAbs_parity (n : Nat) (f : Nat → Int) : (sumN n (fun i => ((f i).natAbs : Int)) - sumN n f) % 2 = 0 := by
  induction n with
  | zero => rfl
  | succ n ih => simp only [sumN]; omega

/-- the same sums -/
def SameSums (m m' : Nat → Nat → Bool) : Prop :=
  (∀ y, y < R → sumN C (fun x => b2i (m' y x)) = sumN C (fun x => b2i (m y x))) ∧ (∀ x, x < C → sumN R (fun y => b2i (m' y x)) = sumN R (fun y => b2i (m y x)))

def rowS (m : Nat → Nat → Bool) : Nat → Int := fun y => sumN C (fun x => b2i (m y x))
def colS (m : Nat → Nat → Bool) : Nat → Int := fun x => sumN R (fun y => b2i (m y x))

/-- A path that ends where the cell (a, b) begins gives another image that differs in the cell. 's' has too much when the cell is turned, 't' too little. -/
theorem turn_cell (m : Nat → Nat → Bool) (a b : Nat) (ha : a < R) (hb : b < C) (p : Nat → Nat) (k : Nat)
    (hp : Path R C (fun _ _ _ => true) m p k) (h0 : p 0 = if m a b then a else R + b) (hk : p k = if m a b then R + b else a) :
    ∃ m', SameSums R C m m' ∧ m' a b = !m a b := by
  let ok : Nat → Nat → Bool → Bool := fun y x v => if y = a ∧ x = b then v == !m a b else true
  let m1 := flip m a b
  -- the path up to where it first comes to its end
  have hex : ∃ j, p j = p k ∧ j ≤ k ∧ ∀ i, i < j → p i ≠ p k := by
    clear hk
    have : ∀ n, n ≤ k → (∃ j, p j = p k ∧ j ≤ n ∧ ∀ i, i < j → p i ≠ p k) ∨ ∀ i, i ≤ n → p i ≠ p k := by
      intro n
      induction n with
      | zero =>
        intro _
        by_cases e : p 0 = p k
        · exact .inl ⟨0, e, Nat.le_refl _, fun i hi => by omega⟩
        · exact .inr fun i hi => by rw [show i = 0 from by omega]; exact e
      | succ n ih =>
        intro hn
        rcases ih (by omega) with ⟨j, h1, h2, h3⟩ | h
        · exact .inl ⟨j, h1, by omega, h3⟩
        · by_cases e : p (n + 1) = p k
          · exact .inl ⟨n + 1, e, Nat.le_refl _, fun i hi => h i (by omega)⟩
          · refine .inr fun i hi => ?_
            by_cases e' : i = n + 1
            · rw [e']; exact e
            · exact h i (by omega)
    rcases this k (Nat.le_refl _) with h | h
    · exact h
    · exact absurd rfl (h k (Nat.le_refl _))
  obtain ⟨j, hj, hjk, hmin⟩ := hex
  have hm1 : Meets R C ok m1 := by
    intro y _ x _
    by_cases e : y = a ∧ x = b
    · simp only [ok, e, and_self, if_true, m1, flip_at, beq_self_eq_true]
    · simp only [ok, e, if_false]
  have hpath : Path R C ok m1 p j := by
    intro i hi
    have harc := hp i (by omega)
    have hne : p i ≠ p k := hmin i hi
    rcases harc with ⟨h1, h2, h3, h4, _⟩ | ⟨h1, h2, h3, h4, _⟩
    · have hcell : ¬ (p i = a ∧ p (i + 1) - R = b) := by
        rintro ⟨e1, e2⟩
        rw [e1, e2] at h4
        rw [h4] at hk
        simp only [Bool.false_eq_true, if_false] at hk
        exact hne (e1.trans hk.symm)
      exact .inl ⟨h1, h2, h3, by simp only [m1]; rw [flip_other _ _ _ _ _ hcell]; exact h4, by simp only [ok, hcell, if_false]⟩
    · have hcell : ¬ (p (i + 1) = a ∧ p i - R = b) := by
        rintro ⟨e1, e2⟩
        rw [e1, e2] at h4
        rw [h4] at hk
        simp only [if_true] at hk
        exact hne (by omega)
      exact .inr ⟨h1, h2, h3, by simp only [m1]; rw [flip_other _ _ _ _ _ hcell]; exact h4, by simp only [ok, hcell, if_false]⟩
  -- the deviations of the turned image from the sums of m
  have hdev : ∀ v, v < R + C → dev R C (rowS C m) (colS R m) m1 v = (if v = a then (if m a b then 1 else -1) else 0) + (if v = R + b then (if m a b then -1 else 1) else 0) := by
    intro v hv
    unfold dev rowS colS
    by_cases h : v < R
    · simp only [h, if_true, m1]
      rw [sum_flip_row C hb]
      have : v ≠ R + b := by omega
      by_cases e : v = a
      · subst e; cases m v b <;> simp [this] <;> omega
      · simp [e, this]
    · simp only [h, if_false, m1]
      rw [sum_flip_col R ha]
      have : v ≠ a := by omega
      by_cases e : v = R + b
      · subst e; cases m a b <;> simp [this] <;> omega
      · have : ¬ v - R = b := by omega
        simp [*]
  have hab : a ≠ R + b := by omega
  have hab' : R + b ≠ a := by omega
  have herr : errOf R C (rowS C m) (colS R m) m1 = 2 := by
    unfold errOf
    rw [sumN_set2 (g := fun _ => 0) (k := a) (l := R + b) (by omega) (by omega) hab (fun i hi h1 h2 => by rw [hdev i hi]; simp [h1, h2])]
    rw [hdev a (by omega), hdev (R + b) (by omega), sumN_zero]
    cases m a b <;> simp [hab, hab'] <;> rfl
  obtain ⟨m', hm', hlt⟩ := improve R C (rowS C m) (colS R m) ok j m1 p hm1 hpath
    (by rw [h0]; cases hv : m a b <;> simp only [if_true, if_false, Bool.false_eq_true] <;> rw [hdev _ (by omega)] <;> simp [hv, hab, hab'])
    (by rw [hj, hk]; cases hv : m a b <;> simp only [if_true, if_false, Bool.false_eq_true] <;> rw [hdev _ (by omega)] <;> simp [hv, hab, hab'])
    (by rw [h0]; cases m a b <;> simp <;> omega)
  have htot : sumN R (rowS C m) = sumN C (colS R m) := sumN_swap _ _ _
  have hz : ∀ v, v < R + C → dev R C (rowS C m) (colS R m) m' v = 0 := by
    have hs := sum_dev R C (rowS C m) (colS R m) m' htot
    have hp := natAbs_parity (R + C) (dev R C (rowS C m) (colS R m) m')
    have hnn : 0 ≤ errOf R C (rowS C m) (colS R m) m' := sumN_nonneg fun _ _ => by omega
    rw [hs] at hp
    have he : errOf R C (rowS C m) (colS R m) m' = 0 := by
      have : errOf R C (rowS C m) (colS R m) m' = sumN (R + C) (fun i => ((dev R C (rowS C m) (colS R m) m' i).natAbs : Int)) := rfl
      omega
    have := sumN_eq_zero (n := R + C) (f := fun v => ((dev R C (rowS C m) (colS R m) m' v).natAbs : Int)) (fun _ _ => by omega) (by have : errOf R C (rowS C m) (colS R m) m' = sumN (R + C) (fun i => ((dev R C (rowS C m) (colS R m) m' i).natAbs : Int)) := rfl; omega)
    intro v hv
    have h1 := this v hv
    have h2 : ((dev R C (rowS C m) (colS R m) m' v).natAbs : Int) = 0 := h1
    omega
  refine ⟨m', ⟨fun y hy => ?_, fun x hx => ?_⟩, ?_⟩
  · have := hz y (by omega)
    simp only [dev, hy, if_true, rowS] at this; omega
  · have := hz (R + x) (by omega)
    simp only [dev, Nat.not_lt.2 (Nat.le_add_right R x), if_false, Nat.add_sub_cancel_left, colS] at this; omega
  · have := hm' a ha b hb
    simpa [ok] using this

/-- If no path of black and white cells leads back, all images with the same sums agree in the cell: a set that is closed under arcs. -/
theorem cell_stays (m m' : Nat → Nat → Bool) (hs : SameSums R C m m') (S : Nat → Bool)
    (hS : ∀ y x, y < R → x < C → (S y = true → m y x = false → S (R + x) = true) ∧ (S (R + x) = true → m y x = true → S y = true)) (a b : Nat) (ha : a < R) (hb : b < C)
    (hab : S a ≠ S (R + b)) (hd : (if m a b then S a = true else S (R + b) = true)) : m' a b = m a b := by
  -- the difference over the rows of S less that over the columns of S
  let d : Nat → Nat → Int := fun y x => b2i (m' y x) - b2i (m y x)
  have hrow : ∀ y, y < R → sumN C (d y) = 0 := fun y hy => by simp only [d]; rw [sumN_sub, hs.1 y hy]; omega
  have hcol : ∀ x, x < C → sumN R (fun y => d y x) = 0 := fun x hx => by simp only [d]; rw [sumN_sub, hs.2 x hx]; omega
  let e : Nat → Nat → Int := fun y x => (if S (R + x) then d y x else 0) - (if S y then d y x else 0)
  have htot : sumN R (fun y => sumN C (e y)) = 0 := by
    simp only [e]
    rw [sumN_congr (fun y _ => sumN_sub C _ _), sumN_sub]
    have h1 : sumN R (fun y => sumN C (fun x => if S y then d y x else 0)) = 0 := by
      rw [sumN_congr (g := fun _ => 0) (fun y hy => ?_), sumN_zero]
      by_cases h : S y = true
      · simp only [h, if_true]; exact hrow y hy
      · simp [h, sumN_zero]
    have h2 : sumN R (fun y => sumN C (fun x => if S (R + x) then d y x else 0)) = 0 := by
      rw [sumN_swap, sumN_congr (g := fun _ => 0) (fun x hx => ?_), sumN_zero]
      by_cases h : S (R + x) = true
      · simp only [h, if_true]; exact hcol x hx
      · simp [h, sumN_zero]
    omega
  have hnn : ∀ y, y < R → ∀ x, x < C → 0 ≤ e y x := by
    intro y hy x hx
    obtain ⟨h1, h2⟩ := hS y x hy hx
    simp only [e, d]
    cases hSy : S y <;> cases hSx : S (R + x) <;> cases hv : m y x <;> cases hv' : m' y x <;> simp_all [b2i]
  have hz := sumN_eq_zero (fun y hy => sumN_nonneg (fun x hx => hnn y hy x hx)) (by omega) a ha
  have hz2 := sumN_eq_zero (fun x hx => hnn a ha x hx) (by omega) b hb
  simp only [e, d] at hz2
  cases hSa : S a <;> cases hSb : S (R + b) <;> cases hv : m a b <;> cases hv' : m' a b <;> simp_all [b2i]
end
end Go.Proofs.Ytlhjbpachpjpkaa.Tomo

namespace Go.Proofs.Ytlhjbpachpjpkaa.Tomo

/-! ### lists and functions -/
theorem sum_perm {l l' : List Int} (h : l.Perm l') : l.sum = l'.sum := by
  induction h with
  | nil => rfl
  | cons x _ ih => simp only [List.sum_cons, ih]
  | swap x y l => simp only [List.sum_cons]; omega
  | trans _ _ ih1 ih2 => exact ih1.trans ih2

theorem sum_range_map (n : Nat) (f : Nat → Int) : ((List.range n).map f).sum = sumN n f := by
  induction n with
  | zero => rfl
  | succ n ih => rw [List.range_succ, List.map_append, List.sum_append, ih]; simp [sumN]

theorem sum_map_add {α : Type} (l : List α) (f g : α → Int) : (l.map fun x => f x + g x).sum = (l.map f).sum + (l.map g).sum := by
  induction l with
  | nil => rfl
  | cons x l ih => simp only [List.map_cons, List.sum_cons, ih]; omega

theorem sum_map_sumN {α : Type} (l : List α) (n : Nat) (f : α → Nat → Int) : (l.map fun x => sumN n (f x)).sum = sumN n (fun i => (l.map fun x => f x i).sum) := by
  induction l with
  | nil => simp [sumN_zero]
  | cons x l ih => simp only [List.map_cons, List.sum_cons, ih, sumN_add]

theorem sum_getD (l : List Int) : l.sum = sumN l.length (fun i => l.getD i 0) := by
  rw [← sum_range_map]
  congr 1
  apply List.ext_getElem
  · simp
  · intro i h1 h2; simp [List.getElem?_eq_getElem h1]

def cellB (m : Grid) (y x : Nat) : Bool := (m.getD y []).getD x 0 == 1

theorem addRow_getD (a b : Row) (h : b.length = a.length) (x : Nat) : (addRow a b).getD x 0 = a.getD x 0 + b.getD x 0 := by
  induction a generalizing b x with
  | nil => cases b <;> simp_all [addRow]
  | cons y a ih =>
    cases b with
    | nil => simp at h
    | cons z b =>
      cases x with
      | zero => simp [addRow]
      | succ x =>
        have := ih b (by simpa using h) x
        simpa [addRow] using this

theorem colSum_getD (n : Nat) (m : Grid) (h : ∀ r ∈ m, r.length = n) (x : Nat) : (colSum n m).getD x 0 = sumN m.length (fun y => (m.getD y []).getD x 0) := by
  have e : ∀ m : Grid, (∀ r ∈ m, r.length = n) → (colSum n m).getD x 0 = (m.map fun r => r.getD x 0).sum := by
    intro m
    induction m with
    | nil => intro _; by_cases hx : x < n <;> simp [colSum, List.getD_eq_getElem?_getD, hx]
    | cons r m ih =>
      intro h
      have h2 := fun r hr => h r (List.mem_cons_of_mem _ hr)
      simp only [colSum, List.map_cons, List.sum_cons]
      rw [addRow_getD _ _ (by rw [colSum_length n m h2, h r List.mem_cons_self]), ih h2]
  rw [e m h, sum_getD, List.length_map]
  refine sumN_congr fun i hi => ?_
  simp [List.getD_eq_getElem?_getD, List.getElem?_eq_getElem hi]

theorem cellB_val {n : Nat} {m : Grid} (h : cellsOk n m) (y x : Nat) : b2i (cellB m y x) = (m.getD y []).getD x 0 := by
  have hv : (m.getD y []).getD x 0 = 0 ∨ (m.getD y []).getD x 0 = 1 := by
    by_cases hy : y < m.length
    · have e : m.getD y [] = m[y] := by simp [List.getD_eq_getElem?_getD, List.getElem?_eq_getElem hy]
      rw [e]
      by_cases hx : x < m[y].length
      · have e2 : m[y].getD x 0 = m[y][x] := by simp [List.getD_eq_getElem?_getD, List.getElem?_eq_getElem hx]
        rw [e2]
        exact (h _ (List.getElem_mem hy)).2 _ (List.getElem_mem hx)
      · left; simp [List.getD_eq_getElem?_getD, List.getElem?_eq_none (Nat.le_of_not_lt hx)]
    · left; simp [List.getD_eq_getElem?_getD, List.getElem?_eq_none (Nat.le_of_not_lt hy)]
  unfold cellB
  rcases hv with e | e <;> rw [e] <;> rfl

theorem row_sum_cellB {n : Nat} {m : Grid} (h : cellsOk n m) (y : Nat) (hy : y < m.length) : (m.getD y []).sum = sumN n (fun x => b2i (cellB m y x)) := by
  have e : (m.getD y []).length = n := by
    have e : m.getD y [] = m[y] := by simp [List.getD_eq_getElem?_getD, List.getElem?_eq_getElem hy]
    rw [e]; exact (h _ (List.getElem_mem hy)).1
  rw [sum_getD, e]
  exact sumN_congr fun x _ => (cellB_val h y x).symm

/-- an image in the list: its sums as sums over cells -/
theorem imgs_sums {rows cols : List Int} {m : Grid} (hm : m ∈ imgs rows cols) :
    (∀ y, y < rows.length → rowS cols.length (cellB m) y = rows.getD y 0) ∧ (∀ x, x < cols.length → colS rows.length (cellB m) x = cols.getD x 0) := by
  obtain ⟨h1, h2, h3⟩ := (mem_imgs _ _ _).1 hm
  have hl : m.length = rows.length := by rw [← h2]; simp
  refine ⟨fun y hy => ?_, fun x _ => ?_⟩
  · have := row_sum_cellB h1 y (by omega)
    unfold rowS
    rw [← this, ← h2]
    have hy' : y < m.length := by omega
    simp [List.getD_eq_getElem?_getD, List.getElem?_eq_getElem hy']
  · have := colSum_getD cols.length m (fun r hr => (h1 r hr).1) x
    rw [h3] at this
    rw [this, hl]
    exact sumN_congr fun y _ => cellB_val h1 y x

def toGrid (R C : Nat) (f : Nat → Nat → Bool) : Grid := (List.range R).map fun y => (List.range C).map fun x => b2i (f y x)

theorem toGrid_cells (R C : Nat) (f : Nat → Nat → Bool) : cellsOk C (toGrid R C f) := by
  intro r hr
  simp only [toGrid, List.mem_map] at hr
  obtain ⟨y, _, rfl⟩ := hr
  refine ⟨by simp, fun x hx => ?_⟩
  simp only [List.mem_map] at hx
  obtain ⟨k, _, rfl⟩ := hx
  cases f y k <;> simp [b2i]

theorem toGrid_at (R C : Nat) (f : Nat → Nat → Bool) (y x : Nat) (hy : y < R) (hx : x < C) : cellB (toGrid R C f) y x = f y x := by
  simp [cellB, toGrid, List.getD_eq_getElem?_getD, List.getElem?_map, List.getElem?_range hy, List.getElem?_range hx]
  cases f y x <;> simp [b2i]

/-- a function with the sums is an image in the list -/
theorem toGrid_mem {rows cols : List Int} (f : Nat → Nat → Bool) (hr : ∀ y, y < rows.length → rowS cols.length f y = rows.getD y 0)
    (hc : ∀ x, x < cols.length → colS rows.length f x = cols.getD x 0) : toGrid rows.length cols.length f ∈ imgs rows cols := by
  rw [mem_imgs]
  have hcells := toGrid_cells rows.length cols.length f
  have hlen : (toGrid rows.length cols.length f).length = rows.length := by simp [toGrid]
  refine ⟨hcells, ?_, ?_⟩
  · apply List.ext_getElem
    · simp [toGrid]
    · intro y h1 h2
      have := hr y h2
      unfold rowS at this
      rw [List.getElem_map]
      simp only [toGrid, List.getElem_map, List.getElem_range]
      rw [sum_range_map, this]
      simp [List.getElem?_eq_getElem h2]
  · apply List.ext_getElem
    · exact colSum_length _ _ (fun r hr => (hcells r hr).1)
    · intro x h1 h2
      have h3 := colSum_getD cols.length (toGrid rows.length cols.length f) (fun r hr => (hcells r hr).1) x
      have h4 := hc x h2
      unfold colS at h4
      have e : (colSum cols.length (toGrid rows.length cols.length f)).getD x 0 = (colSum cols.length (toGrid rows.length cols.length f))[x] := by simp [List.getD_eq_getElem?_getD, List.getElem?_eq_getElem h1]
      rw [← e, h3, hlen]
      have e2 : cols.getD x 0 = cols[x] := by simp [List.getD_eq_getElem?_getD, List.getElem?_eq_getElem h2]
      rw [← e2, ← h4]
      refine sumN_congr fun y hy => ?_
      rw [← cellB_val hcells, toGrid_at _ _ _ _ _ hy h2]

/-! ### sorted lists -/
theorem sublist_take_sum {s : List Int} : ∀ {t : List Int}, t.Sublist s → s.Pairwise (fun a b => b ≤ a) → t.sum ≤ (s.take t.length).sum := by
  induction s with
  | nil => intro t h _; rw [List.sublist_nil.1 h]; simp
  | cons x s ih =>
    intro t h hs
    rw [List.pairwise_cons] at hs
    cases h with
    | cons _ h =>
      cases t with
      | nil => simp
      | cons y t =>
        have hy : y ∈ s := h.subset List.mem_cons_self
        have h' : t.Sublist s := (List.sublist_cons_self y t).trans h
        have := ih h' hs.2
        have := hs.1 y hy
        simp only [List.length_cons, List.take_succ_cons, List.sum_cons]; omega
    | cons_cons _ h =>
      have := ih h hs.2
      simp only [List.length_cons, List.take_succ_cons, List.sum_cons]; omega

/-- the most that k columns can hold -/
def mostIn (rows : List Int) (k : Nat) : Int := (rows.map fun r => min (k : Int) r).sum

theorem sum_filter_map (n : Nat) (p : Nat → Bool) (c : Nat → Int) : (((List.range n).filter p).map c).sum = sumN n (fun x => if p x then c x else 0) := by
  induction n with
  | zero => rfl
  | succ n ih =>
    rw [List.range_succ, List.filter_append, List.map_append, List.sum_append, ih]
    by_cases h : p n = true <;> simp [sumN, h]

theorem range_map_getD (l : List Int) : (List.range l.length).map (fun x => l.getD x 0) = l := by
  apply List.ext_getElem
  · simp
  · intro i h1 h2; simp [List.getElem?_eq_getElem h2]

theorem sumN_min (rows : List Int) (k : Nat) : mostIn rows k = sumN rows.length (fun y => min (k : Int) (rows.getD y 0)) := by
  unfold mostIn
  rw [sum_getD, List.length_map]
  refine sumN_congr fun i hi => ?_
  simp [List.getD_eq_getElem?_getD, List.getElem?_eq_getElem hi]

theorem filter_length_count (n : Nat) (p : Nat → Bool) : (((List.range n).filter p).length : Int) = sumN n (fun x => b2i (p x)) := by
  induction n with
  | zero => rfl
  | succ n ih =>
    rw [List.range_succ, List.filter_append, List.length_append]
    simp only [sumN]
    rw [← ih]
    by_cases h : p n = true <;> simp [b2i, h]

/-- GALE AND RYSER: if the greatest column sums never ask for more than the rows can give, there is an image. -/
theorem gale_ryser (rows cols s : List Int) (hp : s.Perm cols) (hs : s.Pairwise (fun a b => b ≤ a)) (htot : rows.sum = cols.sum)
    (hdom : ∀ k, k ≤ cols.length → (s.take k).sum ≤ mostIn rows k) : imgs rows cols ≠ [] := by
  let r : Nat → Int := fun y => rows.getD y 0
  let c : Nat → Int := fun x => cols.getD x 0
  rcases feasible_or_cut rows.length cols.length r c (fun _ _ _ => true) (fun _ _ => false) (fun _ _ _ _ => rfl) (by rw [sum_getD, sum_getD] at htot; exact htot) with ⟨m, _, h1, h2⟩ | ⟨A, B, h⟩
  · exact List.ne_nil_of_mem (toGrid_mem m h1 h2)
  · exfalso
    let j := ((List.range cols.length).filter fun x => !B x).length
    have hj : j ≤ cols.length := by have := List.length_filter_le (fun x => !B x) (List.range cols.length); simp only [j]; simpa using this
    have hd := hdom j hj
    -- the columns outside of B hold at most what the j greatest hold
    have hsub : (((List.range cols.length).filter fun x => !B x).map c).Sublist cols := by
      have := (List.filter_sublist (p := fun x => !B x) (l := List.range cols.length)).map c
      rw [show (List.range cols.length).map c = cols from range_map_getD cols] at this
      exact this
    obtain ⟨t, ht1, ht2⟩ := List.exists_perm_sublist hsub hp.symm
    have hle := sublist_take_sum ht2 hs
    rw [sum_perm ht1, ht1.length_eq, List.length_map, sum_filter_map] at hle
    have hjc := filter_length_count cols.length (fun x => !B x)
    unfold allowed asked at h
    have e1 : sumN rows.length (fun y => sumN cols.length (fun x => b2i (A y && !B x && true) - b2i (!A y && B x && !true))) = sumN rows.length (fun y => if A y then (j : Int) else 0) := by
      refine sumN_congr fun y _ => ?_
      cases hA : A y
      · simp [b2i, sumN_zero]
      · simp only [Bool.true_and, Bool.and_true, Bool.not_true, Bool.false_and, b2i, Bool.false_eq_true, if_false, if_true]
        simp only [j, hjc]
        refine sumN_congr fun x _ => ?_
        cases B x <;> simp [b2i]
    rw [e1] at h
    have e2 : sumN cols.length (fun x => if B x then c x else 0) = cols.sum - sumN cols.length (fun x => if (!B x) = true then c x else 0) := by
      rw [sum_getD cols]
      have : sumN cols.length (fun x => if B x then c x else 0) + sumN cols.length (fun x => if (!B x) = true then c x else 0) = sumN cols.length c := by
        rw [← sumN_add]
        refine sumN_congr fun x _ => ?_
        cases B x <;> simp
      simp only [c] at this ⊢
      omega
    have e3 : sumN rows.length (fun y => if A y then r y else 0) - sumN rows.length (fun y => if A y then (j : Int) else 0) ≤ rows.sum - mostIn rows j := by
      rw [sum_getD rows, sumN_min, ← sumN_sub, ← sumN_sub]
      refine sumN_mono fun y _ => ?_
      simp only [r]
      cases A y <;> simp <;> omega
    have hle' : sumN cols.length (fun x => if (!B x) = true then c x else 0) ≤ (s.take j).sum := hle
    omega

theorem sublist_sum_le {s : List Int} : ∀ {t : List Int}, t.Sublist s → (∀ x ∈ s, 0 ≤ x) → t.sum ≤ s.sum := by
  induction s with
  | nil => intro t h _; rw [List.sublist_nil.1 h]; simp
  | cons x s ih =>
    intro t h hs
    have hx := hs x List.mem_cons_self
    have hs' := fun y hy => hs y (List.mem_cons_of_mem x hy)
    cases h with
    | cons _ h => have := ih h hs'; rw [List.sum_cons]; omega
    | cons_cons _ h => have := ih h hs'; rw [List.sum_cons, List.sum_cons]; omega

theorem bits_sum_le (l : List Nat) (f : Nat → Bool) : (l.map fun x => b2i (f x)).sum ≤ l.length := by
  induction l with
  | nil => simp
  | cons x l ih => simp only [List.map_cons, List.sum_cons, List.length_cons]; have : b2i (f x) ≤ 1 := by cases f x <;> decide
                   omega

/-- .. and where there is an image, they never do. -/
theorem gale_ryser_conv (rows cols s : List Int) (hp : s.Perm cols) (m : Grid) (hm : m ∈ imgs rows cols) (k : Nat) (hk : k ≤ cols.length) : (s.take k).sum ≤ mostIn rows k := by
  obtain ⟨h1, h2⟩ := imgs_sums hm
  have hsub : (s.take k).Sublist s := List.take_sublist _ _
  obtain ⟨t, ht1, ht2⟩ := List.exists_perm_sublist hsub hp
  rw [← range_map_getD cols, List.sublist_map_iff] at ht2
  obtain ⟨u, hu, rfl⟩ := ht2
  rw [← sum_perm ht1, sumN_min]
  have hlen : u.length = k := by have := ht1.length_eq; rw [List.length_map, List.length_take, hp.length_eq] at this; omega
  have e : u.map (fun x => cols.getD x 0) = u.map (fun x => sumN rows.length (fun y => b2i (cellB m y x))) := by
    refine List.map_congr_left fun x hx => ?_
    have := hu.subset hx
    rw [List.mem_range] at this
    exact (h2 x this).symm
  rw [e, sum_map_sumN]
  refine sumN_mono fun y hy => ?_
  have g1 := bits_sum_le u (fun x => cellB m y x)
  have g2 : (u.map fun x => b2i (cellB m y x)).sum ≤ rows.getD y 0 := by
    rw [← h1 y hy]
    unfold rowS
    rw [← sum_range_map]
    exact sublist_sum_le (hu.map _) (fun x hx => by
      obtain ⟨k, _, rfl⟩ := List.mem_map.1 hx
      exact b2i_nonneg _)
  rw [hlen] at g1
  omega
end Go.Proofs.Ytlhjbpachpjpkaa.Tomo

namespace Go.Proofs.Ytlhjbpachpjpkaa.Tomo
theorem addRow_sum : ∀ (a b : List Int), b.length = a.length → (addRow a b).sum = a.sum + b.sum
  | [], b, h => by cases b <;> simp_all [addRow]
  | x :: a, [], h => by simp at h
  | x :: a, y :: b, h => by
    have := addRow_sum a b (by simpa using h)
    simp only [addRow, List.zipWith_cons_cons, List.sum_cons] at *
    omega
theorem colSum_sum (n : Nat) : ∀ (m : Grid), (∀ r ∈ m, r.length = n) → (colSum n m).sum = (m.map List.sum).sum
  | [], _ => by
    have : ∀ n : Nat, (List.replicate n (0 : Int)).sum = 0 := by intro n; induction n <;> simp_all [List.replicate_succ]
    simp [colSum, this]
  | r :: m, h => by
    have h1 := colSum_sum n m (fun r hr => h r (List.mem_cons_of_mem _ hr))
    have h2 := h r List.mem_cons_self
    simp only [colSum, List.map_cons, List.sum_cons]
    rw [addRow_sum _ _ (by rw [colSum_length n m (fun r hr => h r (List.mem_cons_of_mem _ hr))]; exact h2.symm), h1]
end Go.Proofs.Ytlhjbpachpjpkaa.Tomo
