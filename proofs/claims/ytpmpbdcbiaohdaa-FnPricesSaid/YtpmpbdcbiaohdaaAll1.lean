/- All images: the reference's search. -/
import Derived.Test.YtpmpbdcbiaohdaaGrids2
import Derived.Test.YtpmpbdcbiaohdaaRows2
import Derived.Test.YtpmpbdcbiaohdaaExA
import Derived.Deep.RegionHeld3
namespace Go.Proofs.Ytpmpbdcbiaohdaa
open Go.RowKit Tomo

section
variable {ops : Array Oper} {rest : List Oper} {o : Oper} {a : Act} {Q : Exit → Act → World → Prop}
theorem app_grid {w0 w : World} {B : Nat} {v u : Value} {gs : List (List (List Int))} {g : List (List Int)} (h : OwnGrids w0 B v gs) (e0 : Ext w0 w) (hB : B ≤ w0.heap.size) (hu : OwnGrid w w0.heap.size u g) (hl : gs.length ≤ 1000000000) {ad : Addr} {c : Nat}
    (hy : w.cell? ad = some u) (hgd : o.guard = none) (s x : Operand) (ho : o.op = .call { callee := .builtin .append, args := #[s, x], argTypes := #[50, 50] })
    (hs : a.eval s = v) (hx : a.eval x = .slice (some ad) 1 c)
    (hK : ∀ b cap w', OwnGrids w' B (.slice (some ⟨b, 0, none⟩) (gs.length + 1) cap) (gs ++ [g]) → (∀ z, Below B z w → Below B z w') → NonOut w w' → wpList Try.prog ops Q rest (a.put o.dst (.slice (some ⟨b, 0, none⟩) (gs.length + 1) cap)) w') :
    wpList Try.prog ops Q (o :: rest) a w :=
  wpList_plain hgd fun _ hk => app_grid_wp h e0 hB hu hl hy s x ho hs hx fun b cap w' h1 h2 h3 _ => hk _ _ (hK b cap w' h1 h2 h3)
end

theorem ite_len {α : Type} (c : Prop) [Decidable c] (l : List α) : (if c then l else []).length ≤ l.length := by split <;> simp

theorem specAll_len (rows : List Int) : ∀ cols : List Int, cols.length ≤ 5 → (specAll exI rows cols).length ≤ 32 ^ rows.length := by
  induction rows with
  | nil => intro cols _; simp [specAll]
  | cons r rs ih =>
    intro cols hc
    unfold specAll
    have key : ∀ l : List (List Int), (∀ row ∈ l, row.length = cols.length) → (l.flatMap fun row => if leRow row cols = true ∧ (if rs = [] then decide ((subRow cols row).sum = 0) else exI rs (subRow cols row)) = true then (specAll exI rs (subRow cols row)).map (row :: ·) else []).length ≤ l.length * 32 ^ rs.length := by
      intro l
      induction l with
      | nil => intro _; simp
      | cons row l ihl =>
        intro h
        have h1 := ihl (fun r hr => h r (List.mem_cons_of_mem _ hr))
        rw [List.flatMap_cons, List.length_append, List.length_cons, Nat.add_mul, Nat.one_mul]
        have h2 : ((specAll exI rs (subRow cols row)).map (row :: ·)).length ≤ 32 ^ rs.length := by rw [List.length_map]; exact ih _ (by rw [subRow_length _ _ (h row List.mem_cons_self)]; exact hc)
        exact Nat.le_trans (Nat.add_le_add (Nat.le_trans (ite_len _ _) h2) h1) (by omega)
    have h3 := key (rowsOf cols.length r) (fun row hrow => ((mem_rowsOf _ _ _).1 hrow).1)
    have h4 := rowsOf_len cols.length r
    have h5 : 2 ^ cols.length ≤ 32 := Nat.le_trans (Nat.pow_le_pow_right (by decide) hc) (by decide)
    refine Nat.le_trans h3 ?_
    rw [List.length_cons, Nat.pow_succ, Nat.mul_comm]
    exact Nat.mul_le_mul_left _ (Nat.le_trans h4 h5)

/-- what one row adds -/
noncomputable def rowAdds (rs cols row : List Int) : List (List (List Int)) :=
  if leRow row cols = true ∧ (if rs = [] then decide ((subRow cols row).sum = 0) else exI rs (subRow cols row)) = true then (specAll exI rs (subRow cols row)).map (row :: ·) else []
theorem specAll_cons (r : Int) (rs cols : List Int) : specAll exI (r :: rs) cols = (rowsOf cols.length r).flatMap (rowAdds rs cols) := rfl
theorem rowAdds_len (rs cols row : List Int) (hc : cols.length ≤ 5) (hr : row.length = cols.length) : (rowAdds rs cols row).length ≤ 32 ^ rs.length := by
  unfold rowAdds
  exact Nat.le_trans (ite_len _ _) (by rw [List.length_map]; exact specAll_len rs _ (by rw [subRow_length _ _ hr]; exact hc))
theorem subRow_mem {a b : List Int} (hb : ∀ y ∈ b, y = 0 ∨ y = 1) (hle : leRow b a = true) (hl : b.length = a.length) (ha : ∀ x ∈ a, x ≤ 100) : ∀ x ∈ subRow a b, 0 ≤ x ∧ x ≤ 100 := by
  intro x hx
  refine ⟨leRow_sub hle hl x hx, ?_⟩
  unfold subRow at hx
  rw [List.mem_iff_getElem?] at hx
  obtain ⟨i, hi⟩ := hx
  rw [List.getElem?_zipWith] at hi
  cases h1 : a[i]? with
  | none => rw [h1] at hi; cases hi
  | some p =>
    cases h2 : b[i]? with
    | none => rw [h1, h2] at hi; cases hi
    | some q =>
      rw [h1, h2] at hi
      have e : p - q = x := by simpa using hi
      have h3 := ha p (List.mem_of_getElem? h1)
      have h4 := hb q (List.mem_of_getElem? h2)
      omega

end Go.Proofs.Ytpmpbdcbiaohdaa
