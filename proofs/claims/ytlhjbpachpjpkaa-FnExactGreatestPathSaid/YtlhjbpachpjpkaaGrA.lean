/- Texts merged: Grids1 Grids2. -/
import Derived.Test.YtlhjbpachpjpkaaCopy
namespace Go.Proofs.Ytlhjbpachpjpkaa
open Go.RowKit

/-- blocks that hold no images are as they were -/
def NonOut (w w' : World) : Prop := ∀ (k : Nat) (o : Obj), w.heap[k]? = some o → (∀ cs fz, o ≠ .cells cs 23 fz) → w'.heap[k]? = some o
theorem NonOut.refl (w : World) : NonOut w w := fun _ _ h _ => h
theorem NonOut.trans {a b c : World} (h : NonOut a b) (k : NonOut b c) : NonOut a c := fun i o hi ho => k i o (h i o hi ho) ho
theorem heap_lt {w : World} {k : Nat} {o : Obj} (h : w.heap[k]? = some o) : k < w.heap.size := by
  rcases Nat.lt_or_ge k w.heap.size with h3 | h3
  · exact h3
  · rw [Array.getElem?_eq_none h3] at h; cases h
theorem NonOut.ext {w w' : World} (h : Ext w w') : NonOut w w' := fun k _ hk _ => (h.block k (heap_lt hk)).trans hk
theorem NonOut.grown {w w' : World} {B n : Nat} {v : Value} {xs : List Value} (h : w.ownsRow B 23 1 v n xs) (hg : w.grownBy w' v.ownBlock) : NonOut w w' := fun k o hk ho => by
  refine (hg.block k (heap_lt hk) (fun e => ?_)).trans hk
  rcases h.2 with ⟨hv, _⟩ | ⟨g, cap, cur, hv, _, hb, _⟩
  · rw [hv] at e; cases e
  · rw [hv] at e
    have e2 : k = g := by simpa [Value.ownBlock] using e
    rw [e2, hb] at hk
    exact ho _ _ (Option.some.inj hk).symm
theorem ownsRow_non {w w' : World} {B : Nat} {e : TypeId} {size : Nat} {v : Value} {n : Nat} {xs : List Value} (h : w.ownsRow B e size v n xs) (he : e ≠ 23) (k : NonOut w w') : w'.ownsRow B e size v n xs := by
  obtain ⟨h1, h2⟩ := h
  refine ⟨h1, ?_⟩
  rcases h2 with h2 | ⟨g, cap, cur, hv, hb, hg, hrest⟩
  · exact .inl h2
  · exact .inr ⟨g, cap, cur, hv, hb, k g _ hg (by intro cs fz h; injection h with _ h _; exact he h), hrest⟩
theorem Own.non {w w' : World} {B : Nat} {v : Value} {xs : List Int} (h : Own w B v xs) (k : NonOut w w') : Own w' B v xs := ownsRow_non h (by decide) k
theorem OwnGrid.non {w w' : World} {B : Nat} {v : Value} {g : List (List Int)} (h : OwnGrid w B v g) (k : NonOut w w') : OwnGrid w' B v g := by
  obtain ⟨us, h1, h2, h3, h4⟩ := h
  exact ⟨us, h1, ownsRow_non h2 (by decide) k, fun i u r hu hr => (h3 i u r hu hr).non k, h4⟩

/-- a slice of numbers in a block of numbers -/
def Typed (w : World) (A : Option Addr) (xs : List Int) : Prop := Ints w A xs ∧ ∀ b o s, A = some ⟨b, o, s⟩ → ∃ cs fz, w.heap[b]? = some (.cells cs 3 fz)
theorem Typed.non {w w' : World} {A : Option Addr} {xs : List Int} (h : Typed w A xs) (k : NonOut w w') : Typed w' A xs := by
  obtain ⟨h1, h2⟩ := h
  refine ⟨fun i x hi => ?_, fun b o s hA => ?_⟩
  · obtain ⟨b, o, hA, hlt, hc⟩ := h1 i x hi
    obtain ⟨cs, fz, hb⟩ := h2 b o none hA
    have hb' := k b _ hb (by intro cs fz h; simp at h)
    exact ⟨b, o, hA, heap_lt hb', (World.cell?_of_block (w := w) (a := ⟨b, o + i, none⟩) (hb'.trans hb.symm)).trans hc⟩
  · obtain ⟨cs, fz, hb⟩ := h2 b o s hA
    exact ⟨cs, fz, k b _ hb (by intro cs fz h; simp at h)⟩
theorem Own.typed {w : World} {B : Nat} {A : Option Addr} {n c : Nat} {xs : List Int} (h : Own w B (.slice A n c) xs) : Typed w A xs := by
  refine ⟨h.ints.2, fun b o s hA => ?_⟩
  rcases h.2 with ⟨hv, _⟩ | ⟨g, cap, cur, hv, _, hg, _⟩
  · cases hv; cases hA
  · cases hv; cases hA; exact ⟨_, _, hg⟩
theorem Typed.tail {w : World} {b o : Nat} {x : Int} {xs : List Int} (h : Typed w (some ⟨b, o, none⟩) (x :: xs)) : Typed w (some ⟨b, o + 1, none⟩) xs := by
  refine ⟨fun i y hi => ?_, fun b' o' s hA => ?_⟩
  · obtain ⟨b', o', hA, hlt, hc⟩ := h.1 (i + 1) y (by simpa using hi)
    cases hA
    exact ⟨b, o + 1, rfl, hlt, by rw [← hc]; congr 2; omega⟩
  · cases hA; exact h.2 b o none rfl
theorem NewInts.typed {w w' : World} {xs : List Int} (h : NewInts w w' xs) : Typed w' (some ⟨w.heap.size, 0, none⟩) xs := by
  refine ⟨h.at_, fun b o s hA => ?_⟩
  cases hA
  obtain ⟨c, hb, _, _⟩ := h.row
  exact ⟨c, (0, 0), hb⟩
theorem Typed.ext {w w' : World} {A : Option Addr} {xs : List Int} (h : Typed w A xs) (k : Ext w w') : Typed w' A xs := h.non (NonOut.ext k)

/-- p is one of the rows of the image u -/
def RowVal (w : World) (u p : Value) : Prop := ∃ b n c k, u = .slice (some ⟨b, 0, none⟩) n c ∧ k < n ∧ w.cell? ⟨b, k, none⟩ = some p
/-- no row of the one lies where a row of the other does -/
def Apart (w : World) (u u' : Value) : Prop := ∀ p q, RowVal w u p → RowVal w u' q → p.ownBlock = none ∨ p.ownBlock ≠ q.ownBlock
theorem OwnGrid.rowVal {w : World} {B : Nat} {u p : Value} {g : List (List Int)} (h : OwnGrid w B u g) (hp : RowVal w u p) : ∃ (k : Nat) (r : List Int), g[k]? = some r ∧ Own w B p r := by
  obtain ⟨b, n, c, k, rfl, hk, hc⟩ := hp
  obtain ⟨us, h1, h2, h3, h4⟩ := h
  have hn : n = g.length := by
    rcases h2.2 with ⟨hv, _⟩ | ⟨_, _, _, hv, _⟩ <;> cases hv
    rfl
  have hkg : k < g.length := by omega
  obtain ⟨u, hu, hc', _⟩ := OwnGrid.us h2 h1 (List.getElem?_eq_getElem hkg)
  rw [hc] at hc'
  cases hc'
  exact ⟨k, _, List.getElem?_eq_getElem hkg, h3 k p _ hu (List.getElem?_eq_getElem hkg)⟩
theorem OwnGrid.rowVal_lt {w : World} {B : Nat} {u p : Value} {g : List (List Int)} (h : OwnGrid w B u g) (hp : RowVal w u p) {b : Nat} (hb : p.ownBlock = some b) : B ≤ b ∧ b < w.heap.size := by
  obtain ⟨k, r, _, ho⟩ := h.rowVal hp
  exact ho.lt hb
theorem OwnGrid.rowVal_non {w w' : World} {B : Nat} {u p : Value} {g : List (List Int)} (h : OwnGrid w B u g) (k : NonOut w w') (hp : RowVal w' u p) : RowVal w u p := by
  obtain ⟨b, n, c, i, rfl, hi, hc⟩ := hp
  obtain ⟨us, h1, h2, h3, h4⟩ := h
  rcases h2.2 with ⟨hv, _⟩ | ⟨g, cap, cur, hv, _, hg, _⟩
  · cases hv
  · cases hv
    have hb' := k b _ hg (by intro cs fz h; simp at h)
    exact ⟨b, _, c, i, rfl, hi, (World.cell?_of_block (w := w') (a := ⟨b, i, none⟩) (hg.trans hb'.symm)).trans hc⟩

/-- the slice v holds these images, all in blocks of their own from B on -/
def OwnGrids (w : World) (B : Nat) (v : Value) (gs : List (List (List Int))) : Prop :=
  ∃ us : List Value, us.length = gs.length ∧ w.ownsRow B 23 1 v gs.length us ∧ (∀ (k : Nat) u g, us[k]? = some u → gs[k]? = some g → OwnGrid w B u g) ∧
    ∀ (i j : Nat) u u', us[i]? = some u → us[j]? = some u' → i ≠ j → Apart w u u'
theorem OwnGrids.nil (w : World) (B : Nat) : OwnGrids w B (.slice none 0 0) [] := ⟨[], rfl, World.ownsRow_nil w B _ _, fun k u r hu => by simp at hu, fun i j u u' hu => by simp at hu⟩
theorem OwnGrids.ext {w w' : World} {B : Nat} {v : Value} {gs : List (List (List Int))} (h : OwnGrids w B v gs) (k : Ext w w') : OwnGrids w' B v gs := by
  obtain ⟨us, h1, h2, h3, h4⟩ := h
  refine ⟨us, h1, ownsRow_ext h2 k, fun i u r hu hr => (h3 i u r hu hr).ext k, fun i j u u' hi hj hij p q hp hq => ?_⟩
  have hgi : ∃ g, gs[i]? = some g := by
    rw [List.getElem?_eq_some_iff.1 hi |>.2.symm] at hi
    exact ⟨gs[i]'(by have := (List.getElem?_eq_some_iff.1 hi).1; omega), List.getElem?_eq_getElem _⟩
  have hgj : ∃ g, gs[j]? = some g := ⟨gs[j]'(by have := (List.getElem?_eq_some_iff.1 hj).1; omega), List.getElem?_eq_getElem _⟩
  obtain ⟨g, hg⟩ := hgi
  obtain ⟨g', hg'⟩ := hgj
  exact h4 i j u u' hi hj hij p q ((h3 i u g hi hg).rowVal_non (NonOut.ext k) hp) ((h3 j u' g' hj hg').rowVal_non (NonOut.ext k) hq)
theorem OwnGrids.slice {w : World} {B : Nat} {v : Value} {gs : List (List (List Int))} (h : OwnGrids w B v gs) : ∃ A c, v = .slice A gs.length c ∧ (A = none → gs = []) ∧ gs.length ≤ c := by
  obtain ⟨us, h1, h2, _⟩ := h
  rcases h2.2 with ⟨hv, h0⟩ | ⟨b, cap, _, hv, _, _, hn, _⟩
  · exact ⟨none, 0, by rw [hv, h0], fun _ => List.length_eq_zero_iff.1 h0, by omega⟩
  · exact ⟨_, cap, hv, fun h => (by cases h), hn⟩
/-- one of the images -/
theorem OwnGrids.elt {w : World} {B : Nat} {A : Option Addr} {n c : Nat} {gs : List (List (List Int))} (h : OwnGrids w B (.slice A n c) gs) {k : Nat} {g : List (List Int)} (hk : gs[k]? = some g) : ∃ b u, A = some ⟨b, 0, none⟩ ∧ B ≤ b ∧ b < w.heap.size ∧ w.cell? ⟨b, k, none⟩ = some u ∧ OwnGrid w B u g := by
  have hlt : k < gs.length := (List.getElem?_eq_some_iff.1 hk).1
  obtain ⟨us, h1, h2, h3, h4⟩ := h
  rcases h2.2 with ⟨_, h0⟩ | ⟨b, cap, cur, hv, hb, hg, _⟩
  · omega
  · cases hv
    have h5 := h2.cellAt k (by omega)
    have hu : us[k]? = some (us[k]'(by omega)) := List.getElem?_eq_getElem (by omega)
    exact ⟨b, _, rfl, hb, heap_lt hg, by rw [h5, hu], h3 k _ g hu hk⟩

theorem infoGrid : (Try.prog.info? 23).map (fun i => (i.zero, i.size, i.bytes)) = some (some (.slice none 0 0), 1, 24) := by kernel_rfl
theorem infoGrid' : ∃ i, Try.prog.info? 23 = some i ∧ i.zero = some (.slice none 0 0) ∧ i.size = 1 ∧ i.bytes = 24 := by
  obtain ⟨i, hi, hzz⟩ := Option.map_eq_some_iff.1 infoGrid
  simp only [Prod.mk.injEq] at hzz
  exact ⟨i, hi, hzz⟩

section
variable {o : Oper} {a : Act} {Q : Exit → Act → World → Prop} {K : Act → World → Prop}
/-- 'append(v, u)': an image to a list of images -/
theorem app_grid_wp {w0 w : World} {B : Nat} {v u : Value} {gs : List (List (List Int))} {g : List (List Int)} (h : OwnGrids w0 B v gs) (e0 : Ext w0 w) (hB : B ≤ w0.heap.size) (hu : OwnGrid w w0.heap.size u g) (hl : gs.length ≤ 1000000000) {ad : Addr} {c : Nat}
    (hy : w.cell? ad = some u) (s x : Operand) (ho : o.op = .call { callee := .builtin .append, args := #[s, x], argTypes := #[25, 25] })
    (hs : a.eval s = v) (hx : a.eval x = .slice (some ad) 1 c)
    (hK : ∀ b cap w', OwnGrids w' B (.slice (some ⟨b, 0, none⟩) (gs.length + 1) cap) (gs ++ [g]) → (∀ z, Below B z w → Below B z w') → NonOut w w' → w.grownBy w' v.ownBlock → K (a.put o.dst (.slice (some ⟨b, 0, none⟩) (gs.length + 1) cap)) w') :
    o.wp Try.prog a w K Q := by
  obtain ⟨i, hi, hz, hsz, hby⟩ := infoGrid'
  have h' := h.ext e0
  obtain ⟨us, h1, h2, h3, h4⟩ := h
  have h4' : ∀ (i j : Nat) u u', us[i]? = some u → us[j]? = some u' → i ≠ j → Apart w u u' := fun i j u u' hi hj hij p q hp hq =>
    h4 i j u u' hi hj hij p q ((h3 i u _ hi (List.getElem?_eq_getElem (by have := (List.getElem?_eq_some_iff.1 hi).1; omega))).rowVal_non (NonOut.ext e0) hp) ((h3 j u' _ hj (List.getElem?_eq_getElem (by have := (List.getElem?_eq_some_iff.1 hj).1; omega))).rowVal_non (NonOut.ext e0) hq)
  have hB' : B ≤ w.heap.size := Nat.le_trans hB e0.size
  have hone : u.oneCell' = true := by
    obtain ⟨_, _, h5, _⟩ := hu
    rcases h5.2 with ⟨hv, _⟩ | ⟨_, _, _, hv, _⟩ <;> rw [hv] <;> rfl
  refine wp_append_lies w s x 25 ho B 23 i (.slice none 0 0) 1 24 Try.underlying25 hi hz hsz hby rfl (by decide) v gs.length us hs (ownsRow_ext h2 e0) ad 1 c [u] hx rfl
    (fun j u' hj => by
      cases j with
      | zero => have : u = u' := by simpa using hj
                subst this
                unfold Addr.add; simpa using hy
      | succ j => simp at hj) (fun u' hu' => by
        have : u' = u := by simpa using hu'
        subst this; exact hone) (by decide) (by unfold maxLen; omega) (by omega) hB' w.heap.size rfl ?_
  intro b cap w' hown hgrow hat hlt
  have hnon : NonOut w w' := NonOut.grown (ownsRow_ext h2 e0) hgrow
  have hcase : ∀ (k : Nat) u', (us ++ [u])[k]? = some u' → (us[k]? = some u' ∧ k < us.length) ∨ (u' = u ∧ k = us.length) := fun k u' hk => by
    rcases Nat.lt_trichotomy k us.length with h5 | h5 | h5
    · rw [List.getElem?_append_left h5] at hk; exact .inl ⟨hk, h5⟩
    · rw [h5, List.getElem?_append_right (Nat.le_refl _)] at hk
      simp at hk; exact .inr ⟨hk.symm, h5⟩
    · rw [List.getElem?_append_right (by omega), List.getElem?_eq_none (by simp; omega)] at hk; cases hk
  have hog : ∀ (k : Nat) u', us[k]? = some u' → ∃ g', gs[k]? = some g' ∧ OwnGrid w0 B u' g' := fun k u' hk => by
    have hkl : k < gs.length := by have := (List.getElem?_eq_some_iff.1 hk).1; omega
    exact ⟨_, List.getElem?_eq_getElem hkl, h3 k u' _ hk (List.getElem?_eq_getElem hkl)⟩
  refine hK b cap w' ⟨us ++ [u], by simp [h1], by rw [List.length_append]; exact hown, fun k u' g' hu' hg' => ?_, fun p q u1 u2 hp hq hpq => ?_⟩ (fun z hz => hz.grown hgrow hB' fun k hk => (World.ownsRow.lt h2 k hk).1) hnon hgrow
  · rcases hcase k u' hu' with ⟨hk, hkl⟩ | ⟨rfl, hkl⟩
    · rw [List.getElem?_append_left (by omega)] at hg'
      exact ((h3 k u' g' hk hg').ext e0).non hnon
    · rw [List.getElem?_append_right (by omega), show k - gs.length = 0 by omega] at hg'
      have : g = g' := by simpa using hg'
      subst this
      exact (hu.base hB).non hnon
  · intro pr qr hpr hqr
    rcases hcase p u1 hp with ⟨hp', hpl⟩ | ⟨rfl, hpl⟩
    · obtain ⟨g1, _, ho1⟩ := hog p u1 hp'
      have hpr' := (ho1.ext e0).rowVal_non hnon hpr
      rcases hcase q u2 hq with ⟨hq', _⟩ | ⟨rfl, _⟩
      · obtain ⟨g2, _, ho2⟩ := hog q u2 hq'
        exact h4' p q u1 u2 hp' hq' hpq pr qr hpr' ((ho2.ext e0).rowVal_non hnon hqr)
      · have hqr' := hu.rowVal_non hnon hqr
        cases hb : pr.ownBlock with
        | none => exact .inl rfl
        | some m =>
          right
          intro he
          have l1 := (ho1.rowVal_lt (ho1.rowVal_non (NonOut.ext e0) hpr') hb).2
          have l2 := (hu.rowVal_lt hqr' he.symm).1
          omega
    · have hpr' := hu.rowVal_non hnon hpr
      rcases hcase q u2 hq with ⟨hq', _⟩ | ⟨rfl, hql⟩
      · obtain ⟨g2, _, ho2⟩ := hog q u2 hq'
        have hqr' := (ho2.ext e0).rowVal_non hnon hqr
        cases hb : pr.ownBlock with
        | none => exact .inl rfl
        | some m =>
          right
          intro he
          have l1 := (ho2.rowVal_lt (ho2.rowVal_non (NonOut.ext e0) hqr') he.symm).2
          have l2 := (hu.rowVal_lt hpr' hb).1
          omega
      · omega
end
end Go.Proofs.Ytlhjbpachpjpkaa

namespace Go.Proofs.Ytlhjbpachpjpkaa
open Go.RowKit
section
variable {ops : Array Oper} {o : Oper} {a : Act} {Q : Exit → Act → World → Prop}
/-- 'append(v, u)': a row that lies where no row of the image does -/
theorem app_row_old {K : Act → World → Prop} {w : World} {B : Nat} {v u : Value} {g : List (List Int)} {r : List Int} (h : OwnGrid w B v g) (hB : B ≤ w.heap.size) (hu : Own w B u r) (hap : ∀ p, RowVal w v p → p.ownBlock = none ∨ p.ownBlock ≠ u.ownBlock) (hl : g.length ≤ 1000000) {ad : Addr} {c : Nat}
    (hy : w.cell? ad = some u) (s x : Operand) (ho : o.op = .call { callee := .builtin .append, args := #[s, x], argTypes := #[23, 23] })
    (hs : a.eval s = v) (hx : a.eval x = .slice (some ad) 1 c)
    (hK : ∀ b cap w', OwnGrid w' B (.slice (some ⟨b, 0, none⟩) (g.length + 1) cap) (g ++ [r]) → (∀ z, Below B z w → Below B z w') → w.grownBy w' v.ownBlock → (v.ownBlock = some b ∨ b = w.heap.size) → K (a.put o.dst (.slice (some ⟨b, 0, none⟩) (g.length + 1) cap)) w') :
    o.wp Try.prog a w K Q := by
  obtain ⟨i, hi, hz, hsz, hby⟩ := infoInts'
  have e0 := Ext.refl w
  have hkeep := h
  obtain ⟨us, h1, h2, h3, h4⟩ := h
  have hB' : B ≤ w.heap.size := hB
  have hone : u.oneCell' = true := by
    rcases hu.2 with ⟨hv, _⟩ | ⟨_, _, _, hv, _⟩ <;> rw [hv] <;> rfl
  refine wp_append_lies w s x 23 ho B 28 i (.slice none 0 0) 1 24 Try.underlying23 hi hz hsz hby rfl (by decide) v g.length us hs (ownsRow_ext h2 e0) ad 1 c [u] hx rfl
    (fun j u' hj => by
      cases j with
      | zero => have : u = u' := by simpa using hj
                subst this
                unfold Addr.add; simpa using hy
      | succ j => simp at hj) (fun u' hu' => by
        have : u' = u := by simpa using hu'
        subst this; exact hone) (by decide) (by unfold maxLen; omega) (by omega) hB' w.heap.size rfl ?_
  intro b cap w' hown hgrow hat hlt
  refine hK b cap w' ⟨us ++ [u], by simp [h1], by rw [List.length_append]; exact hown, fun k u' r' hu' hr' => ?_, fun p q u1 u2 hp hq hpq => ?_⟩ (fun z hz => hz.grown hgrow hB' fun k hk => (World.ownsRow.lt h2 k hk).1) hgrow hat
  · by_cases hk : k < us.length
    · rw [List.getElem?_append_left hk] at hu'
      rw [List.getElem?_append_left (by omega)] at hr'
      have ho' := h3 k u' r' hu' hr'
      exact World.ownsRow.kept (ho'.ext e0) hgrow (kinds_apart h2 ho')
    · rw [List.getElem?_append_right (by omega)] at hu'
      rw [List.getElem?_append_right (by omega)] at hr'
      have hku : k - us.length = 0 := by
        rcases Nat.eq_zero_or_pos (k - us.length) with h5 | h5
        · exact h5
        · rw [List.getElem?_eq_none (by simp; omega)] at hu'; cases hu'
      rw [hku] at hu'
      rw [show k - g.length = 0 by omega] at hr'
      simp at hu' hr'
      subst hu' hr'
      exact World.ownsRow.kept hu hgrow (kinds_apart (ownsRow_ext h2 e0) hu)
  · have hold : ∀ (k : Nat) u', us[k]? = some u' → u'.ownBlock = none ∨ u'.ownBlock ≠ u.ownBlock := fun k u' hk => by
      have hkl : k < g.length := by rw [← h1]; exact (List.getElem?_eq_some_iff.1 hk).1
      obtain ⟨b', c', hv', _⟩ := hkeep.form (by omega)
      refine hap u' ⟨b', g.length, c', k, hv', hkl, ?_⟩
      rw [hv'] at h2
      obtain ⟨u2, hu2, hc2, _⟩ := OwnGrid.us h2 h1 (List.getElem?_eq_getElem hkl)
      rw [hk] at hu2
      cases hu2
      exact hc2
    have hcase : ∀ (k : Nat) u', (us ++ [u])[k]? = some u' → (us[k]? = some u' ∧ k < us.length) ∨ (u' = u ∧ k = us.length) := fun k u' hk => by
      rcases Nat.lt_trichotomy k us.length with h5 | h5 | h5
      · rw [List.getElem?_append_left h5] at hk; exact .inl ⟨hk, h5⟩
      · rw [h5, List.getElem?_append_right (Nat.le_refl _)] at hk
        simp at hk; exact .inr ⟨hk.symm, h5⟩
      · rw [List.getElem?_append_right (by omega), List.getElem?_eq_none (by simp; omega)] at hk; cases hk
    rcases hcase p u1 hp with ⟨hp', hpl⟩ | ⟨rfl, hpl⟩
    · rcases hcase q u2 hq with ⟨hq', _⟩ | ⟨rfl, _⟩
      · exact h4 p q u1 u2 hp' hq' hpq
      · exact hold p u1 hp'
    · rcases hcase q u2 hq with ⟨hq', _⟩ | ⟨rfl, hql⟩
      · cases hb : u1.ownBlock with
        | none => exact .inl rfl
        | some m =>
          right
          intro he
          rcases hold q u2 hq' with h5 | h5
          · rw [h5] at he; cases he
          · exact h5 (by rw [hb]; exact he.symm)
      · omega
theorem app_row_old_step {K : Act → World → Prop} {E : Prop} {w : World} {B : Nat} {v u : Value} {g : List (List Int)} {r : List Int} (h : OwnGrid w B v g) (hB : B ≤ w.heap.size) (hu : Own w B u r) (hap : ∀ p, RowVal w v p → p.ownBlock = none ∨ p.ownBlock ≠ u.ownBlock) (hl : g.length ≤ 1000000) {ad : Addr} {c : Nat}
    (hy : w.cell? ad = some u) (hgd : o.guard = none) (s x : Operand) (ho : o.op = .call { callee := .builtin .append, args := #[s, x], argTypes := #[23, 23] })
    (hs : a.eval s = v) (hx : a.eval x = .slice (some ad) 1 c)
    (hK : ∀ b cap w', OwnGrid w' B (.slice (some ⟨b, 0, none⟩) (g.length + 1) cap) (g ++ [r]) → w.grownBy w' v.ownBlock → K (a.put o.dst (.slice (some ⟨b, 0, none⟩) (g.length + 1) cap)) w') :
    if Region.wanted o (yielded ops a.tmps) = true then Oper.wp Try.prog o a w K Q else E := by
  have hw : Region.wanted o (yielded ops a.tmps) = true := by simp [Region.wanted, hgd]
  rw [if_pos hw]
  exact app_row_old h hB hu hap hl hy s x ho hs hx fun b cap w' h1 _ h3 _ => hK b cap w' h1 h3
end
end Go.Proofs.Ytlhjbpachpjpkaa
