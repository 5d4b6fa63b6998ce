/- A row that lies elsewhere, appended to an image. -/
import Derived.Test.YtlhjbpachpjpkaaGrids1
namespace Go.Proofs.Ytlhjbpachpjpkaa
open Go.RowKit
section
variable {ops : Array Oper} {o : Oper} {a : Act} {Q : Exit → Act → World → Prop}
/-- 'append(v, u)': a row that lies where no row of the image does -/
theorem app_row_old {K : Act → World → Prop} {w : World} {B : Nat} {v u : Value} {g : List (List Int)} {r : List Int} (h : OwnGrid w B v g) (hB : B ≤ w.heap.size) (hu : Own w B u r) (hap : ∀ p, RowVal w v p → p.ownBlock = none ∨ p.ownBlock ≠ u.ownBlock) (hl : g.length ≤ 1000000) {ad : Addr} {c : Nat}
    (hy : w.cell? ad = some u) (s x : Operand) (ho : o.op = .call { callee := .builtin .append, args := #[s, x], argTypes := #[23, 23] })
    (hs : a.eval s = v) (hx : a.eval x = .slice (some ad) 1 c)
    (hK : ∀ b cap w', OwnGrid w' B (.slice (some ⟨b, 0, none⟩) (g.length + 1) cap) (g ++ [r]) → (∀ z, Below B z w → Below B z w') → w.grownBy w' v.ownBlock → (v.ownBlock = some b ∨ b = w.heap.size) → K (a.put o.dst (.slice (some ⟨b, 0, none⟩) (g.length + 1) cap)) w') :
    o.wp Try.prog a w K Q := by
  obtain ⟨i, hi, hz, hsz, hby⟩ := infoInts'
  have e0 := Ext.refl w
  have hkeep := h
  obtain ⟨us, h1, h2, h3, h4⟩ := h
  have hB' : B ≤ w.heap.size := hB
  have hone : u.oneCell' = true := by
    rcases hu.2 with ⟨hv, _⟩ | ⟨_, _, _, hv, _⟩ <;> rw [hv] <;> rfl
  refine wp_append_lies w s x 23 ho B 28 i (.slice none 0 0) 1 24 Try.underlying23 hi hz hsz hby rfl (by decide) v g.length us hs (ownsRow_ext h2 e0) ad 1 c [u] hx rfl
    (fun j u' hj => by
      cases j with
      | zero => have : u = u' := by simpa using hj
                subst this
                unfold Addr.add; simpa using hy
      | succ j => simp at hj) (fun u' hu' => by
        have : u' = u := by simpa using hu'
        subst this; exact hone) (by decide) (by unfold maxLen; omega) (by omega) hB' w.heap.size rfl ?_
  intro b cap w' hown hgrow hat hlt
  refine hK b cap w' ⟨us ++ [u], by simp [h1], by rw [List.length_append]; exact hown, fun k u' r' hu' hr' => ?_, fun p q u1 u2 hp hq hpq => ?_⟩ (fun z hz => hz.grown hgrow hB' fun k hk => (World.ownsRow.lt h2 k hk).1) hgrow hat
  · by_cases hk : k < us.length
    · rw [List.getElem?_append_left hk] at hu'
      rw [List.getElem?_append_left (by omega)] at hr'
      have ho' := h3 k u' r' hu' hr'
      exact World.ownsRow.kept (ho'.ext e0) hgrow (kinds_apart h2 ho')
    · rw [List.getElem?_append_right (by omega)] at hu'
      rw [List.getElem?_append_right (by omega)] at hr'
      have hku : k - us.length = 0 := by
        rcases Nat.eq_zero_or_pos (k - us.length) with h5 | h5
        · exact h5
        · rw [List.getElem?_eq_none (by simp; omega)] at hu'; cases hu'
      rw [hku] at hu'
      rw [show k - g.length = 0 by omega] at hr'
      simp at hu' hr'
      subst hu' hr'
      exact World.ownsRow.kept hu hgrow (kinds_apart (ownsRow_ext h2 e0) hu)
  · have hold : ∀ (k : Nat) u', us[k]? = some u' → u'.ownBlock = none ∨ u'.ownBlock ≠ u.ownBlock := fun k u' hk => by
      have hkl : k < g.length := by rw [← h1]; exact (List.getElem?_eq_some_iff.1 hk).1
      obtain ⟨b', c', hv', _⟩ := hkeep.form (by omega)
      refine hap u' ⟨b', g.length, c', k, hv', hkl, ?_⟩
      rw [hv'] at h2
      obtain ⟨u2, hu2, hc2, _⟩ := OwnGrid.us h2 h1 (List.getElem?_eq_getElem hkl)
      rw [hk] at hu2
      cases hu2
      exact hc2
    have hcase : ∀ (k : Nat) u', (us ++ [u])[k]? = some u' → (us[k]? = some u' ∧ k < us.length) ∨ (u' = u ∧ k = us.length) := fun k u' hk => by
      rcases Nat.lt_trichotomy k us.length with h5 | h5 | h5
      · rw [List.getElem?_append_left h5] at hk; exact .inl ⟨hk, h5⟩
      · rw [h5, List.getElem?_append_right (Nat.le_refl _)] at hk
        simp at hk; exact .inr ⟨hk.symm, h5⟩
      · rw [List.getElem?_append_right (by omega), List.getElem?_eq_none (by simp; omega)] at hk; cases hk
    rcases hcase p u1 hp with ⟨hp', hpl⟩ | ⟨rfl, hpl⟩
    · rcases hcase q u2 hq with ⟨hq', _⟩ | ⟨rfl, _⟩
      · exact h4 p q u1 u2 hp' hq' hpq
      · exact hold p u1 hp'
    · rcases hcase q u2 hq with ⟨hq', _⟩ | ⟨rfl, hql⟩
      · cases hb : u1.ownBlock with
        | none => exact .inl rfl
        | some m =>
          right
          intro he
          rcases hold q u2 hq' with h5 | h5
          · rw [h5] at he; cases he
          · exact h5 (by rw [hb]; exact he.symm)
      · omega
theorem app_row_old_step {K : Act → World → Prop} {E : Prop} {w : World} {B : Nat} {v u : Value} {g : List (List Int)} {r : List Int} (h : OwnGrid w B v g) (hB : B ≤ w.heap.size) (hu : Own w B u r) (hap : ∀ p, RowVal w v p → p.ownBlock = none ∨ p.ownBlock ≠ u.ownBlock) (hl : g.length ≤ 1000000) {ad : Addr} {c : Nat}
    (hy : w.cell? ad = some u) (hgd : o.guard = none) (s x : Operand) (ho : o.op = .call { callee := .builtin .append, args := #[s, x], argTypes := #[23, 23] })
    (hs : a.eval s = v) (hx : a.eval x = .slice (some ad) 1 c)
    (hK : ∀ b cap w', OwnGrid w' B (.slice (some ⟨b, 0, none⟩) (g.length + 1) cap) (g ++ [r]) → w.grownBy w' v.ownBlock → K (a.put o.dst (.slice (some ⟨b, 0, none⟩) (g.length + 1) cap)) w') :
    if Region.wanted o (yielded ops a.tmps) = true then Oper.wp Try.prog o a w K Q else E := by
  have hw : Region.wanted o (yielded ops a.tmps) = true := by simp [Region.wanted, hgd]
  rw [if_pos hw]
  exact app_row_old h hB hu hap hl hy s x ho hs hx fun b cap w' h1 _ h3 _ => hK b cap w' h1 h3
end
end Go.Proofs.Ytlhjbpachpjpkaa
