/- Slices that the call has made: rows of numbers, grids; what append does to them. -/
import Derived.Test.YtlhjbpachpjpkaaHelp2
import Derived.Deep.AppendLies
import Derived.Laws.OwnMore
namespace Go.Proofs.Ytlhjbpachpjpkaa
open Go.RowKit

theorem ownsRow_ext {w w' : World} {B : Nat} {e : TypeId} {size : Nat} {v : Value} {n : Nat} {xs : List Value} (h : w.ownsRow B e size v n xs) (k : Ext w w') : w'.ownsRow B e size v n xs := by
  obtain ⟨h1, h2⟩ := h
  refine ⟨h1, ?_⟩
  rcases h2 with h2 | ⟨g, cap, cur, hv, hb, hg, hrest⟩
  · exact .inl h2
  · have hlt : g < w.heap.size := by
      rcases Nat.lt_or_ge g w.heap.size with h3 | h3
      · exact h3
      · rw [Array.getElem?_eq_none h3] at hg; cases hg
    exact .inr ⟨g, cap, cur, hv, hb, (k.block g hlt).trans hg, hrest⟩
theorem ownsRow_base {w : World} {B B' : Nat} {e : TypeId} {size : Nat} {v : Value} {n : Nat} {xs : List Value} (h : w.ownsRow B e size v n xs) (k : B' ≤ B) : w.ownsRow B' e size v n xs := by
  obtain ⟨h1, h2⟩ := h
  refine ⟨h1, ?_⟩
  rcases h2 with h2 | ⟨g, cap, cur, hv, hb, hrest⟩
  · exact .inl h2
  · exact .inr ⟨g, cap, cur, hv, Nat.le_trans k hb, hrest⟩

/-- the slice v holds these numbers, in a block of its own from B on -/
def Own (w : World) (B : Nat) (v : Value) (xs : List Int) : Prop := w.ownsRow B 3 1 v xs.length (xs.map (Value.int .i64))
theorem Own.ext {w w' : World} {B : Nat} {v : Value} {xs : List Int} (h : Own w B v xs) (k : Ext w w') : Own w' B v xs := ownsRow_ext h k
theorem Own.base {w : World} {B B' : Nat} {v : Value} {xs : List Int} (h : Own w B v xs) (k : B' ≤ B) : Own w B' v xs := ownsRow_base h k
theorem Own.nil (w : World) (B : Nat) : Own w B (.slice none 0 0) [] := World.ownsRow_nil w B _ _
theorem Own.empty (w : World) (B : Nat) (hB : B ≤ w.heap.size) : Own (w.alloc (.cells #[] 3)) B (.slice (some ⟨w.heap.size, 0, none⟩) 0 0) [] := by
  have := World.ownsRow_lit (base := B) (e := 3) (size := 1) w #[] 0 hB (by decide) rfl
  exact this
theorem Own.slice {w : World} {B : Nat} {v : Value} {xs : List Int} (h : Own w B v xs) : ∃ A c, v = .slice A xs.length c ∧ xs.length ≤ c ∧ Ints w A xs := by
  rcases h.2 with ⟨hv, h0⟩ | ⟨g, cap, cur, hv, hb, hg, hn, _⟩
  · refine ⟨none, 0, by rw [hv, h0], by omega, fun k x hk => ?_⟩
    rw [List.length_eq_zero_iff.1 h0] at hk; simp at hk
  · refine ⟨_, cap, hv, hn, fun k x hk => ?_⟩
    have hlt : k < xs.length := by
      rcases Nat.lt_or_ge k xs.length with h1 | h1
      · exact h1
      · rw [List.getElem?_eq_none h1] at hk; cases hk
    have hgl : g < w.heap.size := by
      rcases Nat.lt_or_ge g w.heap.size with h3 | h3
      · exact h3
      · rw [Array.getElem?_eq_none h3] at hg; cases hg
    unfold Own at h
    rw [hv] at h
    have h2 := h.cellAt k (by omega)
    rw [List.getElem?_map, hk] at h2
    exact ⟨g, 0, rfl, hgl, by rw [Nat.zero_add]; exact h2⟩
theorem Own.form {w : World} {B : Nat} {v : Value} {xs : List Int} (h : Own w B v xs) (h0 : 0 < xs.length) : ∃ g c, v = .slice (some ⟨g, 0, none⟩) xs.length c ∧ xs.length ≤ c ∧ B ≤ g ∧ g < w.heap.size := by
  rcases h.2 with ⟨_, h1⟩ | ⟨g, cap, cur, hv, hb, hg, hn, _⟩
  · omega
  · refine ⟨g, cap, hv, hn, hb, ?_⟩
    rcases Nat.lt_or_ge g w.heap.size with h3 | h3
    · exact h3
    · rw [Array.getElem?_eq_none h3] at hg; cases hg
theorem Own.ints {w : World} {B : Nat} {A : Option Addr} {n c : Nat} {xs : List Int} (h : Own w B (.slice A n c) xs) : n = xs.length ∧ Ints w A xs := by
  obtain ⟨A', c', he, _, hi⟩ := h.slice
  cases he
  exact ⟨rfl, hi⟩
theorem Own.lt {w : World} {B : Nat} {v : Value} {xs : List Int} (h : Own w B v xs) {b : Nat} (hb : v.ownBlock = some b) : B ≤ b ∧ b < w.heap.size := World.ownsRow.lt h b hb
/-- its cells may be written -/
theorem Own.put {w : World} {B g c : Nat} {xs : List Int} (h : Own w B (.slice (some ⟨g, 0, none⟩) xs.length c) xs) {x : Nat} (hx : x < xs.length) :
    (∃ y, xs[x]? = some y ∧ w.cell? ⟨g, x, none⟩ = some (.int .i64 y)) ∧ w.frozen? ⟨g, x, none⟩ = false ∧ ∀ y, Own (w.setCell ⟨g, x, none⟩ (.int .i64 y)) B (.slice (some ⟨g, 0, none⟩) xs.length c) (xs.set x y) := by
  refine ⟨⟨xs[x], List.getElem?_eq_getElem hx, ?_⟩, h.frozenAt x, fun y => ?_⟩
  · have := h.cellAt x (by omega)
    rw [List.getElem?_map, List.getElem?_eq_getElem hx] at this
    exact this
  · have := (h.stored x (.int .i64 y)).1
    unfold Own
    rw [List.map_set, List.length_set]
    exact this

/-- the slice v holds these rows, all in blocks of their own from B on -/
def OwnGrid (w : World) (B : Nat) (v : Value) (g : List (List Int)) : Prop :=
  ∃ us : List Value, us.length = g.length ∧ w.ownsRow B 28 1 v g.length us ∧ (∀ (k : Nat) u r, us[k]? = some u → g[k]? = some r → Own w B u r) ∧
    ∀ (i j : Nat) u u', us[i]? = some u → us[j]? = some u' → i ≠ j → u.ownBlock = none ∨ u.ownBlock ≠ u'.ownBlock
theorem OwnGrid.ext {w w' : World} {B : Nat} {v : Value} {g : List (List Int)} (h : OwnGrid w B v g) (k : Ext w w') : OwnGrid w' B v g := by
  obtain ⟨us, h1, h2, h3, h4⟩ := h
  exact ⟨us, h1, ownsRow_ext h2 k, fun i u r hu hr => (h3 i u r hu hr).ext k, h4⟩
theorem OwnGrid.base {w : World} {B B' : Nat} {v : Value} {g : List (List Int)} (h : OwnGrid w B v g) (k : B' ≤ B) : OwnGrid w B' v g := by
  obtain ⟨us, h1, h2, h3, h4⟩ := h
  exact ⟨us, h1, ownsRow_base h2 k, fun i u r hu hr => (h3 i u r hu hr).base k, h4⟩
theorem OwnGrid.nil (w : World) (B : Nat) : OwnGrid w B (.slice none 0 0) [] := ⟨[], rfl, World.ownsRow_nil w B _ _, fun k u r hu => by simp at hu, fun i j u u' hu => by simp at hu⟩
theorem OwnGrid.empty (w : World) (B : Nat) (hB : B ≤ w.heap.size) : OwnGrid (w.alloc (.cells #[] 28)) B (.slice (some ⟨w.heap.size, 0, none⟩) 0 0) [] :=
  ⟨[], rfl, World.ownsRow_lit (base := B) (e := 28) (size := 1) w #[] 0 hB (by decide) rfl, fun k u r hu => by simp at hu, fun i j u u' hu => by simp at hu⟩
theorem OwnGrid.form {w : World} {B : Nat} {v : Value} {g : List (List Int)} (h : OwnGrid w B v g) (h0 : 0 < g.length) : ∃ b c, v = .slice (some ⟨b, 0, none⟩) g.length c ∧ g.length ≤ c ∧ B ≤ b ∧ b < w.heap.size := by
  obtain ⟨us, h1, h2, h3, h4⟩ := h
  rcases h2.2 with ⟨_, h1⟩ | ⟨b, cap, cur, hv, hb, hg, hn, _⟩
  · omega
  · refine ⟨b, cap, hv, hn, hb, ?_⟩
    rcases Nat.lt_or_ge b w.heap.size with h3 | h3
    · exact h3
    · rw [Array.getElem?_eq_none h3] at hg; cases hg
theorem OwnGrid.us {w : World} {B b n c : Nat} {g : List (List Int)} {us : List Value} (h2 : w.ownsRow B 28 1 (.slice (some ⟨b, 0, none⟩) n c) g.length us) (h1 : us.length = g.length) {k : Nat} {r : List Int} (hk : g[k]? = some r) :
    ∃ u, us[k]? = some u ∧ w.cell? ⟨b, k, none⟩ = some u ∧ b < w.heap.size := by
  have hlt : k < g.length := by
    rcases Nat.lt_or_ge k g.length with h1 | h1
    · exact h1
    · rw [List.getElem?_eq_none h1] at hk; cases hk
  have hn : n = g.length := by
    rcases h2.2 with ⟨hv, _⟩ | ⟨_, _, _, hv, _⟩ <;> cases hv
    rfl
  subst hn
  have h5 := h2.cellAt k (by omega)
  have hbl := (World.ownsRow.lt h2 b rfl).2
  exact ⟨us[k]'(by omega), List.getElem?_eq_getElem (by omega), by rw [h5, List.getElem?_eq_getElem (by omega)], hbl⟩
theorem OwnGrid.gridAt {w : World} {B : Nat} {A : Option Addr} {n c : Nat} {g : List (List Int)} (h : OwnGrid w B (.slice A n c) g) : GridAt w A g := fun k r hk => by
  obtain ⟨us, h1, h2, h3, h4⟩ := h
  have hlt : k < g.length := by
    rcases Nat.lt_or_ge k g.length with h1 | h1
    · exact h1
    · rw [List.getElem?_eq_none h1] at hk; cases hk
  obtain ⟨b, hA⟩ : ∃ b, A = some ⟨b, 0, none⟩ := by
    rcases h2.2 with ⟨_, h0⟩ | ⟨b, _, _, hv, _⟩
    · omega
    · cases hv; exact ⟨b, rfl⟩
  subst hA
  obtain ⟨u, hu, hc, hbl⟩ := OwnGrid.us h2 h1 hk
  obtain ⟨R, c', hv, hle, hi⟩ := (h3 k u r hu hk).slice
  exact ⟨b, 0, R, c', rfl, hbl, by rw [Nat.zero_add, hc, hv], hle, hi⟩
theorem kinds_apart {w : World} {B B' : Nat} {v u : Value} {n m : Nat} {xs ys : List Value} (h : w.ownsRow B 28 1 v n xs) (k : w.ownsRow B' 3 1 u m ys) : u.ownBlock = none ∨ u.ownBlock ≠ v.ownBlock := by
  rcases k.2 with ⟨hu, _⟩ | ⟨b', _, _, hu, _, hb', _⟩
  · exact .inl (by rw [hu]; rfl)
  · right
    intro he
    rcases h.2 with ⟨hv, _⟩ | ⟨b, _, _, hv, _, hb, _⟩
    · rw [hu, hv] at he; cases he
    · rw [hu, hv] at he
      have e : b' = b := by simpa [Value.ownBlock] using he
      subst e
      rw [hb'] at hb
      simp at hb
/-- a row of it: its cells may be written -/
theorem OwnGrid.row {w : World} {B b n c : Nat} {g : List (List Int)} (h : OwnGrid w B (.slice (some ⟨b, 0, none⟩) n c) g) {k : Nat} {r : List Int} (hk : g[k]? = some r) (hr : 0 < r.length) :
    ∃ R c', w.cell? ⟨b, k, none⟩ = some (.slice (some ⟨R, 0, none⟩) r.length c') ∧ r.length ≤ c' ∧ B ≤ R ∧ R < w.heap.size ∧ Ints w (some ⟨R, 0, none⟩) r ∧ (∀ x, w.frozen? ⟨R, x, none⟩ = false) ∧
      ∀ x y, x < r.length → OwnGrid (w.setCell ⟨R, x, none⟩ (.int .i64 y)) B (.slice (some ⟨b, 0, none⟩) n c) (g.set k (r.set x y)) := by
  obtain ⟨us, h1, h2, h3, h4⟩ := h
  obtain ⟨u, hu, hc, hbl⟩ := OwnGrid.us h2 h1 hk
  have ho := h3 k u r hu hk
  obtain ⟨R, c', rfl, hle, hBR, hRl⟩ := ho.form hr
  refine ⟨R, c', hc, hle, hBR, hRl, ho.ints.2, fun x => ?_, fun x y hx => ⟨us, by rw [h1, List.length_set], ?_, fun i u' r' hu' hr' => ?_, h4⟩⟩
  · exact World.ownsRow.frozenAt ho x
  · rw [List.length_set]
    rcases kinds_apart h2 ho with h5 | h5
    · cases h5
    · exact ownsRow_setCell_other (a := ⟨R, x, none⟩) h2 (fun he => h5 he.symm) _
  · by_cases e : i = k
    · subst e
      have hlt : i < g.length := by
        rcases Nat.lt_or_ge i g.length with h6 | h6
        · exact h6
        · rw [List.getElem?_eq_none h6] at hk; cases hk
      rw [List.getElem?_set_self hlt] at hr'
      cases hr'
      rw [hu] at hu'
      cases hu'
      exact (Own.put ho hx).2.2 y
    · rw [List.getElem?_set_ne (fun h => e h.symm)] at hr'
      have hq := h3 i u' r' hu' hr'
      have hne : u'.ownBlock ≠ some R := by
        rcases h4 i k u' _ hu' hu e with h5 | h5
        · rw [h5]; simp
        · exact h5
      exact ownsRow_setCell_other (a := ⟨R, x, none⟩) hq hne _

theorem infoInt' : ∃ i, Try.prog.info? 3 = some i ∧ i.zero = some (.int .i64 0) ∧ i.size = 1 ∧ i.bytes = 8 := by
  obtain ⟨i, hi, hzz⟩ := Option.map_eq_some_iff.1 infoInt
  simp only [Prod.mk.injEq] at hzz
  exact ⟨i, hi, hzz⟩
theorem infoInts' : ∃ i, Try.prog.info? 28 = some i ∧ i.zero = some (.slice none 0 0) ∧ i.size = 1 ∧ i.bytes = 24 := by
  obtain ⟨i, hi, hzz⟩ := Option.map_eq_some_iff.1 infoInts
  simp only [Prod.mk.injEq] at hzz
  exact ⟨i, hi, hzz⟩

section
variable {ops : Array Oper} {rest : List Oper} {o : Oper} {a : Act} {Q : Exit → Act → World → Prop}
/-- 'append(v, xs..)': numbers -/
theorem app_ints {w : World} {B : Nat} {v : Value} {xs ys : List Int} (h : Own w B v xs) (hB : B ≤ w.heap.size) (hl : xs.length + ys.length ≤ 1000000) (h0 : 0 < ys.length) {ad : Addr} {c : Nat}
    (hy : Ints w (some ad) ys) (hgd : o.guard = none) (s x : Operand) (ho : o.op = .call { callee := .builtin .append, args := #[s, x], argTypes := #[28, 28] })
    (hs : a.eval s = v) (hx : a.eval x = .slice (some ad) ys.length c)
    (hK : ∀ g cap w', Own w' B (.slice (some ⟨g, 0, none⟩) (xs.length + ys.length) cap) (xs ++ ys) → (∀ z, Below B z w → Below B z w') → w.grownBy w' v.ownBlock → (v.ownBlock = some g ∨ g = w.heap.size) → wpList Try.prog ops Q rest (a.put o.dst (.slice (some ⟨g, 0, none⟩) (xs.length + ys.length) cap)) w') :
    wpList Try.prog ops Q (o :: rest) a w := by
  obtain ⟨i, hi, hz, hsz, hby⟩ := infoInt'
  have hnews : ∀ (j : Nat) u, (ys.map (Value.int .i64))[j]? = some u → w.cell? (ad.add j) = some u := fun j u hu => by
    rw [List.getElem?_map] at hu
    cases hj : ys[j]? with
    | none => rw [hj] at hu; cases hu
    | some y =>
      rw [hj] at hu
      obtain ⟨b, o', hA, _, hc⟩ := hy j y hj
      have hA' : ad = ⟨b, o', none⟩ := by simpa using hA
      subst hA'
      have e : (⟨b, o', none⟩ : Addr).add j = ⟨b, o' + j, none⟩ := by
        unfold Addr.add
        by_cases h0 : j = 0
        · subst h0; rfl
        · rw [if_neg h0]
      rw [e, hc]
      simpa using hu
  refine wpList_append_lies w hgd s x 28 ho B 3 i (.int .i64 0) 1 8 Try.underlying28 hi hz hsz hby rfl (by decide) v xs.length (xs.map (Value.int .i64)) hs h ad ys.length c (ys.map (Value.int .i64)) hx (by simp) hnews
    (fun u hu => by obtain ⟨y, _, rfl⟩ := List.mem_map.1 hu; rfl) h0 (by unfold maxLen; omega) (by omega) hB w.heap.size rfl ?_
  intro g cap w' hown hgrow hat hlt
  refine hK g cap w' ?_ (fun z hz => hz.grown hgrow hB fun k hk => (World.ownsRow.lt h k hk).1) hgrow hat
  unfold Own
  rw [List.length_append, List.map_append]
  exact hown

/-- 'append(v, u)': a row to a grid -/
theorem app_row_wp {K : Act → World → Prop} {w0 w : World} {B : Nat} {v u : Value} {g : List (List Int)} {r : List Int} (h : OwnGrid w0 B v g) (e0 : Ext w0 w) (hB : B ≤ w0.heap.size) (hu : Own w w0.heap.size u r) (hl : g.length ≤ 1000000) {ad : Addr} {c : Nat}
    (hy : w.cell? ad = some u) (s x : Operand) (ho : o.op = .call { callee := .builtin .append, args := #[s, x], argTypes := #[23, 23] })
    (hs : a.eval s = v) (hx : a.eval x = .slice (some ad) 1 c)
    (hK : ∀ b cap w', OwnGrid w' B (.slice (some ⟨b, 0, none⟩) (g.length + 1) cap) (g ++ [r]) → (∀ z, Below B z w → Below B z w') → w.grownBy w' v.ownBlock → (v.ownBlock = some b ∨ b = w.heap.size) → K (a.put o.dst (.slice (some ⟨b, 0, none⟩) (g.length + 1) cap)) w') :
    o.wp Try.prog a w K Q := by
  obtain ⟨i, hi, hz, hsz, hby⟩ := infoInts'
  have h' := h.ext e0
  obtain ⟨us, h1, h2, h3, h4⟩ := h
  have hB' : B ≤ w.heap.size := Nat.le_trans hB e0.size
  have hone : u.oneCell' = true := by
    rcases hu.2 with ⟨hv, _⟩ | ⟨_, _, _, hv, _⟩ <;> rw [hv] <;> rfl
  refine wp_append_lies w s x 23 ho B 28 i (.slice none 0 0) 1 24 Try.underlying23 hi hz hsz hby rfl (by decide) v g.length us hs (ownsRow_ext h2 e0) ad 1 c [u] hx rfl
    (fun j u' hj => by
      cases j with
      | zero => have : u = u' := by simpa using hj
                subst this
                unfold Addr.add; simpa using hy
      | succ j => simp at hj) (fun u' hu' => by
        have : u' = u := by simpa using hu'
        subst this; exact hone) (by decide) (by unfold maxLen; omega) (by omega) hB' w.heap.size rfl ?_
  intro b cap w' hown hgrow hat hlt
  refine hK b cap w' ⟨us ++ [u], by simp [h1], by rw [List.length_append]; exact hown, fun k u' r' hu' hr' => ?_, fun p q u1 u2 hp hq hpq => ?_⟩ (fun z hz => hz.grown hgrow hB' fun k hk => (World.ownsRow.lt h2 k hk).1) hgrow hat
  · by_cases hk : k < us.length
    · rw [List.getElem?_append_left hk] at hu'
      rw [List.getElem?_append_left (by omega)] at hr'
      have ho' := h3 k u' r' hu' hr'
      exact World.ownsRow.kept (ho'.ext e0) hgrow (kinds_apart h2 ho')
    · rw [List.getElem?_append_right (by omega)] at hu'
      rw [List.getElem?_append_right (by omega)] at hr'
      have hku : k - us.length = 0 := by
        rcases Nat.eq_zero_or_pos (k - us.length) with h5 | h5
        · exact h5
        · rw [List.getElem?_eq_none (by simp; omega)] at hu'; cases hu'
      rw [hku] at hu'
      rw [show k - g.length = 0 by omega] at hr'
      simp at hu' hr'
      subst hu' hr'
      exact World.ownsRow.kept (hu.base hB) hgrow (kinds_apart (ownsRow_ext h2 e0) hu)
  · have hold : ∀ (k : Nat) u', us[k]? = some u' → u'.ownBlock = none ∨ u'.ownBlock ≠ u.ownBlock := fun k u' hk => by
      have hkl : k < g.length := by
        rw [← h1]
        rcases Nat.lt_or_ge k us.length with h5 | h5
        · exact h5
        · rw [List.getElem?_eq_none h5] at hk; cases hk
      have ho' := h3 k u' g[k] hk (List.getElem?_eq_getElem hkl)
      cases hb : u'.ownBlock with
      | none => exact .inl rfl
      | some m =>
        right
        intro he
        have l1 := (ho'.lt hb).2
        have l2 := (hu.lt he.symm).1
        omega
    have hcase : ∀ (k : Nat) u', (us ++ [u])[k]? = some u' → (us[k]? = some u' ∧ k < us.length) ∨ (u' = u ∧ k = us.length) := fun k u' hk => by
      rcases Nat.lt_trichotomy k us.length with h5 | h5 | h5
      · rw [List.getElem?_append_left h5] at hk; exact .inl ⟨hk, h5⟩
      · rw [h5, List.getElem?_append_right (Nat.le_refl _)] at hk
        simp at hk; exact .inr ⟨hk.symm, h5⟩
      · rw [List.getElem?_append_right (by omega), List.getElem?_eq_none (by simp; omega)] at hk; cases hk
    rcases hcase p u1 hp with ⟨hp', hpl⟩ | ⟨rfl, hpl⟩
    · rcases hcase q u2 hq with ⟨hq', _⟩ | ⟨rfl, _⟩
      · exact h4 p q u1 u2 hp' hq' hpq
      · exact hold p u1 hp'
    · rcases hcase q u2 hq with ⟨hq', _⟩ | ⟨rfl, hql⟩
      · cases hb : u1.ownBlock with
        | none => exact .inl rfl
        | some m =>
          right
          intro he
          rcases hold q u2 hq' with h5 | h5
          · rw [h5] at he; cases he
          · exact h5 (by rw [hb]; exact he.symm)
      · omega
/-- 'append(v, u)': a row to a grid -/
theorem app_row2 {w0 w : World} {B : Nat} {v u : Value} {g : List (List Int)} {r : List Int} (h : OwnGrid w0 B v g) (e0 : Ext w0 w) (hB : B ≤ w0.heap.size) (hu : Own w w0.heap.size u r) (hl : g.length ≤ 1000000) {ad : Addr} {c : Nat}
    (hy : w.cell? ad = some u) (hgd : o.guard = none) (s x : Operand) (ho : o.op = .call { callee := .builtin .append, args := #[s, x], argTypes := #[23, 23] })
    (hs : a.eval s = v) (hx : a.eval x = .slice (some ad) 1 c)
    (hK : ∀ b cap w', OwnGrid w' B (.slice (some ⟨b, 0, none⟩) (g.length + 1) cap) (g ++ [r]) → (∀ z, Below B z w → Below B z w') → w.grownBy w' v.ownBlock → (v.ownBlock = some b ∨ b = w.heap.size) → wpList Try.prog ops Q rest (a.put o.dst (.slice (some ⟨b, 0, none⟩) (g.length + 1) cap)) w') :
    wpList Try.prog ops Q (o :: rest) a w :=
  wpList_plain hgd fun _ hk => app_row_wp h e0 hB hu hl hy s x ho hs hx fun b cap w' h1 h2 h3 h4 => hk _ _ (hK b cap w' h1 h2 h3 h4)
/-- .. at a step of a region that draws its order -/
theorem app_row_step {K : Act → World → Prop} {E : Prop} {w0 w : World} {B : Nat} {v u : Value} {g : List (List Int)} {r : List Int} (h : OwnGrid w0 B v g) (e0 : Ext w0 w) (hB : B ≤ w0.heap.size) (hu : Own w w0.heap.size u r) (hl : g.length ≤ 1000000) {ad : Addr} {c : Nat}
    (hy : w.cell? ad = some u) (hgd : o.guard = none) (s x : Operand) (ho : o.op = .call { callee := .builtin .append, args := #[s, x], argTypes := #[23, 23] })
    (hs : a.eval s = v) (hx : a.eval x = .slice (some ad) 1 c)
    (hK : ∀ b cap w', OwnGrid w' B (.slice (some ⟨b, 0, none⟩) (g.length + 1) cap) (g ++ [r]) → (∀ z, Below B z w → Below B z w') → K (a.put o.dst (.slice (some ⟨b, 0, none⟩) (g.length + 1) cap)) w') :
    if Region.wanted o (yielded ops a.tmps) = true then Oper.wp Try.prog o a w K Q else E := by
  have hw : Region.wanted o (yielded ops a.tmps) = true := by simp [Region.wanted, hgd]
  rw [if_pos hw]
  exact app_row_wp h e0 hB hu hl hy s x ho hs hx fun b cap w' h1 h2 _ _ => hK b cap w' h1 h2
theorem app_row {w0 w : World} {B : Nat} {v u : Value} {g : List (List Int)} {r : List Int} (h : OwnGrid w0 B v g) (e0 : Ext w0 w) (hB : B ≤ w0.heap.size) (hu : Own w w0.heap.size u r) (hl : g.length ≤ 1000000) {ad : Addr} {c : Nat}
    (hy : w.cell? ad = some u) (hgd : o.guard = none) (s x : Operand) (ho : o.op = .call { callee := .builtin .append, args := #[s, x], argTypes := #[23, 23] })
    (hs : a.eval s = v) (hx : a.eval x = .slice (some ad) 1 c)
    (hK : ∀ b cap w', OwnGrid w' B (.slice (some ⟨b, 0, none⟩) (g.length + 1) cap) (g ++ [r]) → (∀ z, Below B z w → Below B z w') → wpList Try.prog ops Q rest (a.put o.dst (.slice (some ⟨b, 0, none⟩) (g.length + 1) cap)) w') :
    wpList Try.prog ops Q (o :: rest) a w :=
  app_row2 h e0 hB hu hl hy hgd s x ho hs hx fun b cap w' h1 h2 _ _ => hK b cap w' h1 h2
end

/-- these blocks are as they were -/
def Seg (lo hi : Nat) (w w' : World) : Prop := ∀ k, lo ≤ k → k < hi → w'.heap[k]? = w.heap[k]?
theorem Seg.refl (lo hi : Nat) (w : World) : Seg lo hi w w := fun _ _ _ => rfl
theorem Seg.trans {lo hi : Nat} {a b c : World} (h : Seg lo hi a b) (k : Seg lo hi b c) : Seg lo hi a c := fun i h1 h2 => (k i h1 h2).trans (h i h1 h2)
theorem Seg.ext {lo hi : Nat} {w w' : World} (h : Ext w w') (hh : hi ≤ w.heap.size) : Seg lo hi w w' := fun k _ hk => h.block k (by omega)
theorem Seg.grown {lo hi : Nat} {w w' : World} {row : Option Nat} (h : w.grownBy w' row) (hh : hi ≤ w.heap.size) (hr : ∀ b, row = some b → b < lo ∨ hi ≤ b) : Seg lo hi w w' := fun k h1 h2 => h.block k (by omega) (fun e => by rcases hr k e.symm with h3 | h3 <;> omega)
theorem Seg.cell {lo hi : Nat} {w w' : World} (h : Seg lo hi w w') {p : Addr} (h1 : lo ≤ p.block) (h2 : p.block < hi) : w'.cell? p = w.cell? p := World.cell?_of_block (w := w) (h p.block h1 h2)
theorem ownsRow_seg {w w' : World} {B : Nat} {e : TypeId} {size : Nat} {v : Value} {n : Nat} {xs : List Value} (h : w.ownsRow B e size v n xs) (k : Seg B w.heap.size w w') : w'.ownsRow B e size v n xs := by
  obtain ⟨h1, h2⟩ := h
  refine ⟨h1, ?_⟩
  rcases h2 with h2 | ⟨g, cap, cur, hv, hb, hg, hrest⟩
  · exact .inl h2
  · have hlt : g < w.heap.size := by
      rcases Nat.lt_or_ge g w.heap.size with h3 | h3
      · exact h3
      · rw [Array.getElem?_eq_none h3] at hg; cases hg
    exact .inr ⟨g, cap, cur, hv, hb, (k g hb hlt).trans hg, hrest⟩
theorem Own.seg {w w' : World} {B : Nat} {v : Value} {xs : List Int} (h : Own w B v xs) (k : Seg B w.heap.size w w') : Own w' B v xs := ownsRow_seg h k
theorem OwnGrid.seg {w w' : World} {B : Nat} {v : Value} {g : List (List Int)} (h : OwnGrid w B v g) (k : Seg B w.heap.size w w') : OwnGrid w' B v g := by
  obtain ⟨us, h1, h2, h3, h4⟩ := h
  exact ⟨us, h1, ownsRow_seg h2 k, fun i u r hu hr => (h3 i u r hu hr).seg k, h4⟩
theorem OwnGrid.lt {w : World} {B : Nat} {v : Value} {g : List (List Int)} (h : OwnGrid w B v g) {b : Nat} (hb : v.ownBlock = some b) : B ≤ b ∧ b < w.heap.size := by
  obtain ⟨us, h1, h2, _⟩ := h
  exact World.ownsRow.lt h2 b hb
end Go.Proofs.Ytlhjbpachpjpkaa
