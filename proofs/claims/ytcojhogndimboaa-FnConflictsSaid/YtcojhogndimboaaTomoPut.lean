import Derived.Test.YtcojhogndimboaaTomoImgs
namespace Go.Proofs.Ytcojhogndimboaa.Tomo

theorem flatMap_congr' {α β : Type} {l : List α} {f g : α → List β} (h : ∀ a ∈ l, f a = g a) : l.flatMap f = l.flatMap g := by
  induction l with
  | nil => rfl
  | cons x l ih => rw [List.flatMap_cons, List.flatMap_cons, h x List.mem_cons_self, ih (fun a ha => h a (List.mem_cons_of_mem _ ha))]

/-- one row of the search, cell by cell: K goes on behind it; n rows come after it -/
def putRow (K : Row → Row → List Grid) (n : Nat) : Row → Row → Int → Row → List Grid
  | pre, [], need, cur => if 0 < need then [] else K pre cur
  | pre, l :: ls, need, cur =>
    (if need ≤ (ls.length : Int) ∧ l ≤ (n : Int) then putRow K n (pre ++ [l]) ls need (cur ++ [0]) else []) ++
    (if 0 < need ∧ 0 < l then putRow K n (pre ++ [l - 1]) ls (need - 1) (cur ++ [1]) else [])

def putAll : List Int → Row → Int → Grid → List Grid
  | [], left, need, done => putRow (fun _ row => [done ++ [row]]) 0 [] left need []
  | r :: rs, left, need, done => putRow (fun left' row => putAll rs left' r (done ++ [row])) (rs.length + 1) [] left need []

def leAll (n : Nat) (l : Row) : Bool := l.all fun x => decide (x ≤ (n : Int))

theorem rowsOf_neg (n : Nat) (k : Int) (h : k < 0) : rowsOf n k = [] := by
  cases n with
  | zero => simp [rowsOf]; omega
  | succ n => simp [rowsOf]; omega

theorem rowsOf_big (n : Nat) : ∀ k : Int, (n : Int) < k → rowsOf n k = [] := by
  induction n with
  | zero => intro k h; simp [rowsOf]; omega
  | succ n ih =>
    intro k h
    have h1 : rowsOf n k = [] := ih k (by omega)
    have h2 : rowsOf n (k - 1) = [] := ih _ (by omega)
    simp [rowsOf, h1, h2]

theorem flatMap_ite {α β : Type} (c : Prop) [Decidable c] (l : List α) (f : α → List β) : (if c then l else []).flatMap f = if c then l.flatMap f else [] := by
  by_cases h : c <;> simp [h]

theorem putRow_eq (K : Row → Row → List Grid) (n : Nat) (ls : Row) : ∀ (pre : Row) (need : Int) (cur : Row), 0 ≤ need → need ≤ ls.length → (∀ l ∈ ls, 0 ≤ l ∧ l ≤ n + 1) →
    putRow K n pre ls need cur = (rowsOf ls.length need).flatMap fun row => if leRow row ls = true ∧ leAll n (subRow ls row) = true then K (pre ++ subRow ls row) (cur ++ row) else [] := by
  induction ls with
  | nil =>
    intro pre need cur h0 h1 _
    have : need = 0 := by simp at h1; omega
    subst this
    simp [putRow, rowsOf, leRow, leAll, subRow]
  | cons l ls ih =>
    intro pre need cur h0 h1 hl
    have hl0 := hl l List.mem_cons_self
    have hls := fun x hx => hl x (List.mem_cons_of_mem l hx)
    simp only [List.length_cons] at h1
    unfold putRow
    rw [List.length_cons]
    simp only [rowsOf, h0, if_true, List.flatMap_append]
    congr 1
    · rw [List.flatMap_map]
      by_cases hb : need ≤ (ls.length : Int)
      · by_cases hn : l ≤ (n : Int)
        · rw [if_pos ⟨hb, hn⟩, ih _ _ _ h0 hb hls]
          congr 1
          funext row
          have e1 : leRow (0 :: row) (l :: ls) = leRow row ls := by simp [leRow]; intro _; omega
          have e2 : leAll n (subRow (l :: ls) (0 :: row)) = leAll n (subRow ls row) := by simp [leAll, subRow]; intro _; omega
          rw [e1, e2]
          simp [subRow]
        · rw [if_neg (fun h => hn h.2)]
          symm
          rw [List.flatMap_eq_nil_iff]
          intro row _
          have e2 : leAll n (subRow (l :: ls) (0 :: row)) = false := by simp [leAll, subRow]; omega
          simp [e2]
      · rw [if_neg (fun h => hb h.1), rowsOf_big _ _ (by omega)]
        rfl
    · rw [flatMap_ite, List.flatMap_map]
      by_cases hp : 0 < need
      · have hp1 : 1 ≤ need := by omega
        simp only [hp1, if_true]
        by_cases hl1 : 0 < l
        · rw [if_pos ⟨hp, hl1⟩, ih _ _ _ (by omega) (by omega) hls]
          congr 1
          funext row
          have e1 : leRow (1 :: row) (l :: ls) = leRow row ls := by simp [leRow]; intro _; omega
          have e2 : leAll n (subRow (l :: ls) (1 :: row)) = leAll n (subRow ls row) := by simp [leAll, subRow]; intro _; omega
          rw [e1, e2]
          have e3 : subRow (l :: ls) (1 :: row) = (l - 1) :: subRow ls row := rfl
          rw [e3, List.append_assoc, List.append_assoc]
          rfl
        · rw [if_neg (fun h => hl1 h.2)]
          symm
          rw [List.flatMap_eq_nil_iff]
          intro row _
          have e1 : leRow (1 :: row) (l :: ls) = false := by simp [leRow]; omega
          simp [e1]
      · have hp1 : ¬ 1 ≤ need := by omega
        rw [if_neg (fun h => hp h.1), if_neg hp1]

theorem addRow_le (n : Nat) (a b : Row) (ha : ∀ x ∈ a, x = 0 ∨ x = 1) (hb : ∀ x ∈ b, x ≤ (n : Int)) : ∀ x ∈ addRow a b, x ≤ (n : Int) + 1 := by
  induction a generalizing b with
  | nil => simp [addRow]
  | cons y a ih =>
    cases b with
    | nil => simp [addRow]
    | cons z b =>
      intro x hx
      simp only [addRow, List.zipWith_cons_cons, List.mem_cons] at hx
      rcases hx with rfl | hx
      · have := ha y List.mem_cons_self; have := hb z List.mem_cons_self; omega
      · exact ih b (fun x hx => ha x (List.mem_cons_of_mem _ hx)) (fun x hx => hb x (List.mem_cons_of_mem _ hx)) x hx

theorem colSum_le (k : Nat) (m : Grid) (h : ∀ r ∈ m, ∀ x ∈ r, x = 0 ∨ x = 1) : ∀ x ∈ colSum k m, x ≤ (m.length : Int) := by
  induction m with
  | nil => intro x hx; simp [colSum] at hx; simp; omega
  | cons r m ih =>
    simp only [colSum]
    intro x hx
    have := addRow_le m.length r (colSum k m) (h r List.mem_cons_self) (ih (fun r hr => h r (List.mem_cons_of_mem _ hr))) x hx
    simp only [List.length_cons]; omega

/-- a column that asks for more than there are rows: no image -/
theorem imgs_big (rows cols : List Int) (x : Int) (hx : x ∈ cols) (h : (rows.length : Int) < x) : imgs rows cols = [] := by
  rw [List.eq_nil_iff_forall_not_mem]
  intro m hm
  obtain ⟨h1, h2, h3⟩ := (mem_imgs _ _ _).1 hm
  have := colSum_le cols.length m (fun r hr => (h1 r hr).2) x (by rw [h3]; exact hx)
  have hl : m.length = rows.length := by rw [← h2]; simp
  omega

theorem leAll_false {n : Nat} {l : Row} (h : leAll n l = false) : ∃ x ∈ l, (n : Int) < x := by
  simp only [leAll, List.all_eq_false] at h
  obtain ⟨x, hx, h⟩ := h
  exact ⟨x, hx, by simpa using h⟩

theorem leRow_sub {a b : Row} (h : leRow b a = true) (hlen : b.length = a.length) : ∀ x ∈ subRow a b, 0 ≤ x := by
  induction a generalizing b with
  | nil => simp [subRow]
  | cons y a ih =>
    cases b with
    | nil => simp at hlen
    | cons z b =>
      simp only [leRow, List.zipWith_cons_cons, List.all_cons, id, Bool.and_eq_true, decide_eq_true_eq] at h
      intro x hx
      simp only [subRow, List.zipWith_cons_cons, List.mem_cons] at hx
      rcases hx with rfl | hx
      · omega
      · exact ih (b := b) h.2 (by simpa using hlen) x hx

theorem putAll_eq (rs : List Int) : ∀ (left : Row) (need : Int) (done : Grid), 0 ≤ need → need ≤ left.length → (∀ r ∈ rs, 0 ≤ r ∧ r ≤ left.length) → (∀ l ∈ left, 0 ≤ l ∧ l ≤ rs.length + 1) →
    putAll rs left need done = (imgs (need :: rs) left).map (done ++ ·) := by
  induction rs with
  | nil =>
    intro left need done h0 h1 _ hl
    unfold putAll
    rw [putRow_eq _ _ _ _ _ _ h0 h1 (by intro l h; have := hl l h; simpa using this)]
    simp only [imgs]
    rw [List.map_flatMap]
    refine flatMap_congr' (fun row hrow => ?_)
    have hr := (mem_rowsOf _ _ _).1 hrow
    by_cases hle : leRow row left = true
    · have hnn := leRow_sub hle hr.1
      by_cases ha : leAll 0 (subRow left row) = true
      · have e : (subRow left row).all (· == 0) = true := by
          simp only [leAll, List.all_eq_true, decide_eq_true_eq] at ha
          simp only [List.all_eq_true, beq_iff_eq]
          intro x hx; have := ha x hx; have := hnn x hx; omega
        simp [hle, ha, e]
      · have e : ¬ (subRow left row).all (· == 0) = true := by
          intro e
          apply ha
          simp only [List.all_eq_true, beq_iff_eq] at e
          simp only [leAll, List.all_eq_true, decide_eq_true_eq]
          intro x hx; have := e x hx; omega
        rw [if_neg (fun h => ha h.2), if_pos hle, if_neg e]; rfl
    · rw [if_neg (fun h => hle h.1), if_neg hle]; rfl
  | cons r rs ih =>
    intro left need done h0 h1 hrs hl
    unfold putAll
    rw [putRow_eq _ _ _ _ _ _ h0 h1 (by intro l h; have := hl l h; simpa using this)]
    simp only [imgs]
    rw [List.map_flatMap]
    refine flatMap_congr' (fun row hrow => ?_)
    have hr := (mem_rowsOf _ _ _).1 hrow
    by_cases hle : leRow row left = true
    · have hnn := leRow_sub hle hr.1
      have hlen := subRow_length left row hr.1
      by_cases ha : leAll (rs.length + 1) (subRow left row) = true
      · have hb : ∀ x ∈ subRow left row, 0 ≤ x ∧ x ≤ rs.length + 1 := by
          intro x hx
          simp only [leAll, List.all_eq_true, decide_eq_true_eq] at ha
          have := ha x hx
          exact ⟨hnn x hx, by omega⟩
        rw [if_pos ⟨hle, ha⟩, if_pos hle, List.nil_append, List.nil_append]
        rw [ih _ _ _ (hrs r List.mem_cons_self).1 (by rw [hlen]; exact (hrs r List.mem_cons_self).2) (by rw [hlen]; exact fun x hx => hrs x (List.mem_cons_of_mem _ hx)) hb]
        simp only [imgs, List.map_map]
        refine List.map_congr_left (fun m _ => by simp)
      · have ha' : leAll (rs.length + 1) (subRow left row) = false := by simpa using ha
        obtain ⟨x, hx, hgt⟩ := leAll_false ha'
        have e : imgs (r :: rs) (subRow left row) = [] := imgs_big _ _ x hx (by simpa using hgt)
        rw [if_neg (fun h => ha h.2), if_pos hle]
        have e' := e
        simp only [imgs] at e'
        rw [e']; rfl
    · rw [if_neg (fun h => hle h.1), if_neg hle]; rfl

/-! ### the search that prunes by a test -/
def specAll (ex : List Int → List Int → Bool) : List Int → List Int → List Grid
  | [], _ => [[]]
  | r :: rs, cols => (rowsOf cols.length r).flatMap fun row =>
      if leRow row cols = true ∧ (if rs = [] then decide ((subRow cols row).sum = 0) else ex rs (subRow cols row)) = true then (specAll ex rs (subRow cols row)).map (row :: ·) else []

theorem sum_nonneg_zero {l : List Int} (h : ∀ x ∈ l, 0 ≤ x) : 0 ≤ l.sum ∧ (l.sum = 0 ↔ l.all (· == 0) = true) := by
  induction l with
  | nil => simp
  | cons x l ih =>
    have h1 := h x List.mem_cons_self
    obtain ⟨h2, h3⟩ := ih (fun y hy => h y (List.mem_cons_of_mem _ hy))
    rw [List.sum_cons]
    refine ⟨by omega, ?_⟩
    simp only [List.all_cons, Bool.and_eq_true, beq_iff_eq]
    rw [← h3]; omega

theorem specAll_eq (ex : List Int → List Int → Bool) (hex : ∀ rs cols, rs ≠ [] → imgs rs cols ≠ [] → ex rs cols = true) (rows : List Int) :
    ∀ cols, rows ≠ [] → specAll ex rows cols = imgs rows cols := by
  induction rows with
  | nil => intro _ h; exact absurd rfl h
  | cons r rs ih =>
    intro cols _
    simp only [specAll, imgs]
    refine flatMap_congr' (fun row hrow => ?_)
    have hr := (mem_rowsOf _ _ _).1 hrow
    by_cases hle : leRow row cols = true
    · have hnn := leRow_sub hle hr.1
      have hz := (sum_nonneg_zero hnn).2
      by_cases hrs : rs = []
      · subst hrs
        simp only [if_true, hle, true_and, imgs, specAll, decide_eq_true_eq]
        by_cases e : (subRow cols row).sum = 0
        · rw [if_pos e, if_pos (hz.1 e)]
        · rw [if_neg e, if_neg (fun h => e (hz.2 h))]; rfl
      · simp only [hrs, if_false, hle, true_and, if_true]
        rw [ih _ hrs]
        by_cases e : imgs rs (subRow cols row) = []
        · rw [e]; simp
        · rw [hex _ _ hrs e]; simp
    · rw [if_neg (fun h => hle h.1), if_neg hle]
theorem specAll_eq_of (ex : List Int → List Int → Bool) (R C : Nat) (hex : ∀ rs cols, rs ≠ [] → rs.length ≤ R → cols.length = C → imgs rs cols ≠ [] → ex rs cols = true) (rows : List Int) :
    ∀ cols, rows ≠ [] → rows.length ≤ R → cols.length = C → specAll ex rows cols = imgs rows cols := by
  induction rows with
  | nil => intro _ h _ _; exact absurd rfl h
  | cons r rs ih =>
    intro cols _ hR hC
    have hR' : rs.length ≤ R := by rw [List.length_cons] at hR; omega
    simp only [specAll, imgs]
    refine flatMap_congr' (fun row hrow => ?_)
    have hr := (mem_rowsOf _ _ _).1 hrow
    by_cases hle : leRow row cols = true
    · have hnn := leRow_sub hle hr.1
      have hz := (sum_nonneg_zero hnn).2
      by_cases hrs : rs = []
      · subst hrs
        simp only [if_true, hle, true_and, imgs, specAll, decide_eq_true_eq]
        by_cases e : (subRow cols row).sum = 0
        · rw [if_pos e, if_pos (hz.1 e)]
        · rw [if_neg e, if_neg (fun h => e (hz.2 h))]; rfl
      · simp only [hrs, if_false, hle, true_and, if_true]
        have hC' : (subRow cols row).length = C := by rw [subRow_length _ _ hr.1]; exact hC
        rw [ih _ hrs hR' hC']
        by_cases e : imgs rs (subRow cols row) = []
        · rw [e]; simp
        · rw [hex _ _ hrs hR' hC' e]; simp
    · rw [if_neg (fun h => hle h.1), if_neg hle]
end Go.Proofs.Ytcojhogndimboaa.Tomo
