import Derived.Test.YtcojhogndimboaaTomoPut
import Derived.Test.YtcojhogndimboaaTomoCycle
namespace Go.Proofs.Ytcojhogndimboaa.Tomo

/-! ### lists and functions -/
theorem sum_perm {l l' : List Int} (h : l.Perm l') : l.sum = l'.sum := by
  induction h with
  | nil => rfl
  | cons x _ ih => simp only [List.sum_cons, ih]
  | swap x y l => simp only [List.sum_cons]; omega
  | trans _ _ ih1 ih2 => exact ih1.trans ih2

theorem sum_range_map (n : Nat) (f : Nat → Int) : ((List.range n).map f).sum = sumN n f := by
  induction n with
  | zero => rfl
  | succ n ih => rw [List.range_succ, List.map_append, List.sum_append, ih]; simp [sumN]

theorem sum_map_add {α : Type} (l : List α) (f g : α → Int) : (l.map fun x => f x + g x).sum = (l.map f).sum + (l.map g).sum := by
  induction l with
  | nil => rfl
  | cons x l ih => simp only [List.map_cons, List.sum_cons, ih]; omega

theorem sum_map_sumN {α : Type} (l : List α) (n : Nat) (f : α → Nat → Int) : (l.map fun x => sumN n (f x)).sum = sumN n (fun i => (l.map fun x => f x i).sum) := by
  induction l with
  | nil => simp [sumN_zero]
  | cons x l ih => simp only [List.map_cons, List.sum_cons, ih, sumN_add]

theorem sum_getD (l : List Int) : l.sum = sumN l.length (fun i => l.getD i 0) := by
  rw [← sum_range_map]
  congr 1
  apply List.ext_getElem
  · simp
  · intro i h1 h2; simp [List.getElem?_eq_getElem h1]

def cellB (m : Grid) (y x : Nat) : Bool := (m.getD y []).getD x 0 == 1

theorem addRow_getD (a b : Row) (h : b.length = a.length) (x : Nat) : (addRow a b).getD x 0 = a.getD x 0 + b.getD x 0 := by
  induction a generalizing b x with
  | nil => cases b <;> simp_all [addRow]
  | cons y a ih =>
    cases b with
    | nil => simp at h
    | cons z b =>
      cases x with
      | zero => simp [addRow]
      | succ x =>
        have := ih b (by simpa using h) x
        simpa [addRow] using this

theorem colSum_getD (n : Nat) (m : Grid) (h : ∀ r ∈ m, r.length = n) (x : Nat) : (colSum n m).getD x 0 = sumN m.length (fun y => (m.getD y []).getD x 0) := by
  have e : ∀ m : Grid, (∀ r ∈ m, r.length = n) → (colSum n m).getD x 0 = (m.map fun r => r.getD x 0).sum := by
    intro m
    induction m with
    | nil => intro _; by_cases hx : x < n <;> simp [colSum, List.getD_eq_getElem?_getD, hx]
    | cons r m ih =>
      intro h
      have h2 := fun r hr => h r (List.mem_cons_of_mem _ hr)
      simp only [colSum, List.map_cons, List.sum_cons]
      rw [addRow_getD _ _ (by rw [colSum_length n m h2, h r List.mem_cons_self]), ih h2]
  rw [e m h, sum_getD, List.length_map]
  refine sumN_congr fun i hi => ?_
  simp [List.getD_eq_getElem?_getD, List.getElem?_eq_getElem hi]

theorem cellB_val {n : Nat} {m : Grid} (h : cellsOk n m) (y x : Nat) : b2i (cellB m y x) = (m.getD y []).getD x 0 := by
  have hv : (m.getD y []).getD x 0 = 0 ∨ (m.getD y []).getD x 0 = 1 := by
    by_cases hy : y < m.length
    · have e : m.getD y [] = m[y] := by simp [List.getD_eq_getElem?_getD, List.getElem?_eq_getElem hy]
      rw [e]
      by_cases hx : x < m[y].length
      · have e2 : m[y].getD x 0 = m[y][x] := by simp [List.getD_eq_getElem?_getD, List.getElem?_eq_getElem hx]
        rw [e2]
        exact (h _ (List.getElem_mem hy)).2 _ (List.getElem_mem hx)
      · left; simp [List.getD_eq_getElem?_getD, List.getElem?_eq_none (Nat.le_of_not_lt hx)]
    · left; simp [List.getD_eq_getElem?_getD, List.getElem?_eq_none (Nat.le_of_not_lt hy)]
  unfold cellB
  rcases hv with e | e <;> rw [e] <;> rfl

theorem row_sum_cellB {n : Nat} {m : Grid} (h : cellsOk n m) (y : Nat) (hy : y < m.length) : (m.getD y []).sum = sumN n (fun x => b2i (cellB m y x)) := by
  have e : (m.getD y []).length = n := by
    have e : m.getD y [] = m[y] := by simp [List.getD_eq_getElem?_getD, List.getElem?_eq_getElem hy]
    rw [e]; exact (h _ (List.getElem_mem hy)).1
  rw [sum_getD, e]
  exact sumN_congr fun x _ => (cellB_val h y x).symm

/-- an image in the list: its sums as sums over cells -/
theorem imgs_sums {rows cols : List Int} {m : Grid} (hm : m ∈ imgs rows cols) :
    (∀ y, y < rows.length → rowS cols.length (cellB m) y = rows.getD y 0) ∧ (∀ x, x < cols.length → colS rows.length (cellB m) x = cols.getD x 0) := by
  obtain ⟨h1, h2, h3⟩ := (mem_imgs _ _ _).1 hm
  have hl : m.length = rows.length := by rw [← h2]; simp
  refine ⟨fun y hy => ?_, fun x _ => ?_⟩
  · have := row_sum_cellB h1 y (by omega)
    unfold rowS
    rw [← this, ← h2]
    have hy' : y < m.length := by omega
    simp [List.getD_eq_getElem?_getD, List.getElem?_eq_getElem hy']
  · have := colSum_getD cols.length m (fun r hr => (h1 r hr).1) x
    rw [h3] at this
    rw [this, hl]
    exact sumN_congr fun y _ => cellB_val h1 y x

def toGrid (R C : Nat) (f : Nat → Nat → Bool) : Grid := (List.range R).map fun y => (List.range C).map fun x => b2i (f y x)

theorem toGrid_cells (R C : Nat) (f : Nat → Nat → Bool) : cellsOk C (toGrid R C f) := by
  intro r hr
  simp only [toGrid, List.mem_map] at hr
  obtain ⟨y, _, rfl⟩ := hr
  refine ⟨by simp, fun x hx => ?_⟩
  simp only [List.mem_map] at hx
  obtain ⟨k, _, rfl⟩ := hx
  cases f y k <;> simp [b2i]

theorem toGrid_at (R C : Nat) (f : Nat → Nat → Bool) (y x : Nat) (hy : y < R) (hx : x < C) : cellB (toGrid R C f) y x = f y x := by
  simp [cellB, toGrid, List.getD_eq_getElem?_getD, List.getElem?_map, List.getElem?_range hy, List.getElem?_range hx]
  cases f y x <;> simp [b2i]

/-- a function with the sums is an image in the list -/
theorem toGrid_mem {rows cols : List Int} (f : Nat → Nat → Bool) (hr : ∀ y, y < rows.length → rowS cols.length f y = rows.getD y 0)
    (hc : ∀ x, x < cols.length → colS rows.length f x = cols.getD x 0) : toGrid rows.length cols.length f ∈ imgs rows cols := by
  rw [mem_imgs]
  have hcells := toGrid_cells rows.length cols.length f
  have hlen : (toGrid rows.length cols.length f).length = rows.length := by simp [toGrid]
  refine ⟨hcells, ?_, ?_⟩
  · apply List.ext_getElem
    · simp [toGrid]
    · intro y h1 h2
      have := hr y h2
      unfold rowS at this
      rw [List.getElem_map]
      simp only [toGrid, List.getElem_map, List.getElem_range]
      rw [sum_range_map, this]
      simp [List.getElem?_eq_getElem h2]
  · apply List.ext_getElem
    · exact colSum_length _ _ (fun r hr => (hcells r hr).1)
    · intro x h1 h2
      have h3 := colSum_getD cols.length (toGrid rows.length cols.length f) (fun r hr => (hcells r hr).1) x
      have h4 := hc x h2
      unfold colS at h4
      have e : (colSum cols.length (toGrid rows.length cols.length f)).getD x 0 = (colSum cols.length (toGrid rows.length cols.length f))[x] := by simp [List.getD_eq_getElem?_getD, List.getElem?_eq_getElem h1]
      rw [← e, h3, hlen]
      have e2 : cols.getD x 0 = cols[x] := by simp [List.getD_eq_getElem?_getD, List.getElem?_eq_getElem h2]
      rw [← e2, ← h4]
      refine sumN_congr fun y hy => ?_
      rw [← cellB_val hcells, toGrid_at _ _ _ _ _ hy h2]

/-! ### sorted lists -/
theorem sublist_take_sum {s : List Int} : ∀ {t : List Int}, t.Sublist s → s.Pairwise (fun a b => b ≤ a) → t.sum ≤ (s.take t.length).sum := by
  induction s with
  | nil => intro t h _; rw [List.sublist_nil.1 h]; simp
  | cons x s ih =>
    intro t h hs
    rw [List.pairwise_cons] at hs
    cases h with
    | cons _ h =>
      cases t with
      | nil => simp
      | cons y t =>
        have hy : y ∈ s := h.subset List.mem_cons_self
        have h' : t.Sublist s := (List.sublist_cons_self y t).trans h
        have := ih h' hs.2
        have := hs.1 y hy
        simp only [List.length_cons, List.take_succ_cons, List.sum_cons]; omega
    | cons_cons _ h =>
      have := ih h hs.2
      simp only [List.length_cons, List.take_succ_cons, List.sum_cons]; omega

/-- the most that k columns can hold -/
def mostIn (rows : List Int) (k : Nat) : Int := (rows.map fun r => min (k : Int) r).sum

theorem sum_filter_map (n : Nat) (p : Nat → Bool) (c : Nat → Int) : (((List.range n).filter p).map c).sum = sumN n (fun x => if p x then c x else 0) := by
  induction n with
  | zero => rfl
  | succ n ih =>
    rw [List.range_succ, List.filter_append, List.map_append, List.sum_append, ih]
    by_cases h : p n = true <;> simp [sumN, h]

theorem range_map_getD (l : List Int) : (List.range l.length).map (fun x => l.getD x 0) = l := by
  apply List.ext_getElem
  · simp
  · intro i h1 h2; simp [List.getElem?_eq_getElem h2]

theorem sumN_min (rows : List Int) (k : Nat) : mostIn rows k = sumN rows.length (fun y => min (k : Int) (rows.getD y 0)) := by
  unfold mostIn
  rw [sum_getD, List.length_map]
  refine sumN_congr fun i hi => ?_
  simp [List.getD_eq_getElem?_getD, List.getElem?_eq_getElem hi]

theorem filter_length_count (n : Nat) (p : Nat → Bool) : (((List.range n).filter p).length : Int) = sumN n (fun x => b2i (p x)) := by
  induction n with
  | zero => rfl
  | succ n ih =>
    rw [List.range_succ, List.filter_append, List.length_append]
    simp only [sumN]
    rw [← ih]
    by_cases h : p n = true <;> simp [b2i, h]

/-- GALE AND RYSER: if the greatest column sums never ask for more than the rows can give, there is an image. -/
theorem gale_ryser (rows cols s : List Int) (hp : s.Perm cols) (hs : s.Pairwise (fun a b => b ≤ a)) (htot : rows.sum = cols.sum)
    (hdom : ∀ k, k ≤ cols.length → (s.take k).sum ≤ mostIn rows k) : imgs rows cols ≠ [] := by
  let r : Nat → Int := fun y => rows.getD y 0
  let c : Nat → Int := fun x => cols.getD x 0
  rcases feasible_or_cut rows.length cols.length r c (fun _ _ _ => true) (fun _ _ => false) (fun _ _ _ _ => rfl) (by rw [sum_getD, sum_getD] at htot; exact htot) with ⟨m, _, h1, h2⟩ | ⟨A, B, h⟩
  · exact List.ne_nil_of_mem (toGrid_mem m h1 h2)
  · exfalso
    let j := ((List.range cols.length).filter fun x => !B x).length
    have hj : j ≤ cols.length := by have := List.length_filter_le (fun x => !B x) (List.range cols.length); simp only [j]; simpa using this
    have hd := hdom j hj
    -- the columns outside of B hold at most what the j greatest hold
    have hsub : (((List.range cols.length).filter fun x => !B x).map c).Sublist cols := by
      have := (List.filter_sublist (p := fun x => !B x) (l := List.range cols.length)).map c
      rw [show (List.range cols.length).map c = cols from range_map_getD cols] at this
      exact this
    obtain ⟨t, ht1, ht2⟩ := List.exists_perm_sublist hsub hp.symm
    have hle := sublist_take_sum ht2 hs
    rw [sum_perm ht1, ht1.length_eq, List.length_map, sum_filter_map] at hle
    have hjc := filter_length_count cols.length (fun x => !B x)
    unfold allowed asked at h
    have e1 : sumN rows.length (fun y => sumN cols.length (fun x => b2i (A y && !B x && true) - b2i (!A y && B x && !true))) = sumN rows.length (fun y => if A y then (j : Int) else 0) := by
      refine sumN_congr fun y _ => ?_
      cases hA : A y
      · simp [b2i, sumN_zero]
      · simp only [Bool.true_and, Bool.and_true, Bool.not_true, Bool.false_and, b2i, Bool.false_eq_true, if_false, if_true]
        simp only [j, hjc]
        refine sumN_congr fun x _ => ?_
        cases B x <;> simp [b2i]
    rw [e1] at h
    have e2 : sumN cols.length (fun x => if B x then c x else 0) = cols.sum - sumN cols.length (fun x => if (!B x) = true then c x else 0) := by
      rw [sum_getD cols]
      have : sumN cols.length (fun x => if B x then c x else 0) + sumN cols.length (fun x => if (!B x) = true then c x else 0) = sumN cols.length c := by
        rw [← sumN_add]
        refine sumN_congr fun x _ => ?_
        cases B x <;> simp
      simp only [c] at this ⊢
      omega
    have e3 : sumN rows.length (fun y => if A y then r y else 0) - sumN rows.length (fun y => if A y then (j : Int) else 0) ≤ rows.sum - mostIn rows j := by
      rw [sum_getD rows, sumN_min, ← sumN_sub, ← sumN_sub]
      refine sumN_mono fun y _ => ?_
      simp only [r]
      cases A y <;> simp <;> omega
    have hle' : sumN cols.length (fun x => if (!B x) = true then c x else 0) ≤ (s.take j).sum := hle
    omega

theorem sublist_sum_le {s : List Int} : ∀ {t : List Int}, t.Sublist s → (∀ x ∈ s, 0 ≤ x) → t.sum ≤ s.sum := by
  induction s with
  | nil => intro t h _; rw [List.sublist_nil.1 h]; simp
  | cons x s ih =>
    intro t h hs
    have hx := hs x List.mem_cons_self
    have hs' := fun y hy => hs y (List.mem_cons_of_mem x hy)
    cases h with
    | cons _ h => have := ih h hs'; rw [List.sum_cons]; omega
    | cons_cons _ h => have := ih h hs'; rw [List.sum_cons, List.sum_cons]; omega

theorem bits_sum_le (l : List Nat) (f : Nat → Bool) : (l.map fun x => b2i (f x)).sum ≤ l.length := by
  induction l with
  | nil => simp
  | cons x l ih => simp only [List.map_cons, List.sum_cons, List.length_cons]; have : b2i (f x) ≤ 1 := by cases f x <;> decide
                   omega

/-- .. and where there is an image, they never do. -/
theorem gale_ryser_conv (rows cols s : List Int) (hp : s.Perm cols) (m : Grid) (hm : m ∈ imgs rows cols) (k : Nat) (hk : k ≤ cols.length) : (s.take k).sum ≤ mostIn rows k := by
  obtain ⟨h1, h2⟩ := imgs_sums hm
  have hsub : (s.take k).Sublist s := List.take_sublist _ _
  obtain ⟨t, ht1, ht2⟩ := List.exists_perm_sublist hsub hp
  rw [← range_map_getD cols, List.sublist_map_iff] at ht2
  obtain ⟨u, hu, rfl⟩ := ht2
  rw [← sum_perm ht1, sumN_min]
  have hlen : u.length = k := by have := ht1.length_eq; rw [List.length_map, List.length_take, hp.length_eq] at this; omega
  have e : u.map (fun x => cols.getD x 0) = u.map (fun x => sumN rows.length (fun y => b2i (cellB m y x))) := by
    refine List.map_congr_left fun x hx => ?_
    have := hu.subset hx
    rw [List.mem_range] at this
    exact (h2 x this).symm
  rw [e, sum_map_sumN]
  refine sumN_mono fun y hy => ?_
  have g1 := bits_sum_le u (fun x => cellB m y x)
  have g2 : (u.map fun x => b2i (cellB m y x)).sum ≤ rows.getD y 0 := by
    rw [← h1 y hy]
    unfold rowS
    rw [← sum_range_map]
    exact sublist_sum_le (hu.map _) (fun x hx => by
      obtain ⟨k, _, rfl⟩ := List.mem_map.1 hx
      exact b2i_nonneg _)
  rw [hlen] at g1
  omega
end Go.Proofs.Ytcojhogndimboaa.Tomo
