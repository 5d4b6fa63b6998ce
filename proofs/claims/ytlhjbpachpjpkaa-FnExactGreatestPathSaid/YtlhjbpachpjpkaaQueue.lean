/- A queue of images, each in blocks of its own, beside a map and what else there is. -/
import Derived.Test.YtlhjbpachpjpkaaSwA
import Derived.Test.YtlhjbpachpjpkaaPick
import Derived.Test.YtlhjbpachpjpkaaMapI
import Derived.Test.YtlhjbpachpjpkaaAlike
namespace Go.Proofs.Ytlhjbpachpjpkaa
open Go.RowKit Tomo

/-- blocks of cells that are no list of images are as they were -/
def NonQ (w w' : World) : Prop := ∀ (k : Nat) cs t fz, w.heap[k]? = some (.cells cs t fz) → t ≠ 23 → w'.heap[k]? = some (.cells cs t fz)
theorem NonQ.refl (w : World) : NonQ w w := fun _ _ _ _ h _ => h
theorem NonQ.trans {a b c : World} (h : NonQ a b) (k : NonQ b c) : NonQ a c := fun i cs t fz hi ht => k i cs t fz (h i cs t fz hi ht) ht
theorem NonQ.ext {w w' : World} (h : Ext w w') : NonQ w w' := fun _ _ _ _ hk _ => (h.block _ (heap_lt hk)).trans hk
theorem NonQ.grown {w w' : World} {B n : Nat} {v : Value} {xs : List Value} (h : w.ownsRow B 23 1 v n xs) (hg : w.grownBy w' v.ownBlock) : NonQ w w' := fun k cs t fz hk ht => by
  refine (hg.block k (heap_lt hk) (fun e => ?_)).trans hk
  rcases h.2 with ⟨hv, _⟩ | ⟨g, cap, cur, hv, _, hb, _⟩
  · rw [hv] at e; cases e
  · rw [hv] at e
    have e2 : k = g := by simpa [Value.ownBlock] using e
    rw [e2, hb] at hk
    injection hk with hk
    injection hk with _ h2 _
    exact ht h2.symm
theorem NonQ.map {w w' : World} {b : Nat} (h : ∃ es clock, w.heap[b]? = some (.map es clock)) (hg : w.grownBy w' (some b)) : NonQ w w' := fun k cs t fz hk _ => by
  refine (hg.block k (heap_lt hk) (fun e => ?_)).trans hk
  obtain ⟨es, clock, hb⟩ := h
  have e2 : k = b := by simpa using e
  rw [e2, hb] at hk
  cases hk
theorem NonQ.ownsRow {w w' : World} {B : Nat} {e : TypeId} {size : Nat} {v : Value} {n : Nat} {xs : List Value} (k : NonQ w w') (h : w.ownsRow B e size v n xs) (he : e ≠ 23) : w'.ownsRow B e size v n xs := by
  obtain ⟨h1, h2⟩ := h
  refine ⟨h1, ?_⟩
  rcases h2 with h2 | ⟨g, cap, cur, hv, hb, hg, hrest⟩
  · exact .inl h2
  · exact .inr ⟨g, cap, cur, hv, hb, k g _ _ _ hg he, hrest⟩
theorem NonQ.own {w w' : World} {B : Nat} {v : Value} {xs : List Int} (k : NonQ w w') (h : Own w B v xs) : Own w' B v xs := k.ownsRow h (by decide)
theorem NonQ.grid {w w' : World} {B : Nat} {v : Value} {g : Grid} (k : NonQ w w') (h : OwnGrid w B v g) : OwnGrid w' B v g := by
  obtain ⟨us, h1, h2, h3, h4⟩ := h
  exact ⟨us, h1, k.ownsRow h2 (by decide), fun i u r hu hr => k.own (h3 i u r hu hr), h4⟩
theorem NonQ.sw {w w' : World} {B : Nat} {v : Value} {ss : List Sw} (k : NonQ w w') (h : OwnS w B v ss) : OwnS w' B v ss := k.ownsRow h (by decide)
/-- the slice v, in a block of its own from B on, holds these images, each in blocks of its own -/
def GridsO (w : World) (B : Nat) (v : Value) (gs : List Grid) : Prop := ∃ us : List Value, us.length = gs.length ∧ w.ownsRow B 23 1 v gs.length us ∧ ∀ (k : Nat) u g, us[k]? = some u → gs[k]? = some g → OwnGrid w 0 u g
theorem GridsO.ext {w w' : World} {B : Nat} {v : Value} {gs : List Grid} (h : GridsO w B v gs) (e : Ext w w') : GridsO w' B v gs := by
  obtain ⟨us, h1, h2, h3⟩ := h
  exact ⟨us, h1, ownsRow_ext h2 e, fun k u g hu hg => (h3 k u g hu hg).ext e⟩
/-- another block than its own has been written -/
theorem GridsO.but {w w' : World} {B b : Nat} {v : Value} {gs : List Grid} (h : GridsO w B v gs) (hb : ∃ es clock, w.heap[b]? = some (.map es clock)) (hg : w.grownBy w' (some b)) : GridsO w' B v gs := by
  obtain ⟨us, h1, h2, h3⟩ := h
  refine ⟨us, h1, ?_, fun k u g hu hg' => (NonQ.map hb hg).grid (h3 k u g hu hg')⟩
  obtain ⟨g1, g2⟩ := h2
  refine ⟨g1, ?_⟩
  rcases g2 with g2 | ⟨g, cap, cur, hv, hB, hgb, hrest⟩
  · exact .inl g2
  · refine .inr ⟨g, cap, cur, hv, hB, (hg.block g (heap_lt hgb) (fun e => ?_)).trans hgb, hrest⟩
    obtain ⟨es, clock, hb⟩ := hb
    have e2 : g = b := by simpa using e
    rw [e2, hb] at hgb
    cases hgb
theorem GridsO.form {w : World} {B : Nat} {v : Value} {gs : List Grid} (h : GridsO w B v gs) (h0 : 0 < gs.length) : ∃ b c, v = .slice (some ⟨b, 0, none⟩) gs.length c ∧ B ≤ b ∧ b < w.heap.size ∧
    ∀ (k : Nat) g, gs[k]? = some g → ∃ X xc, w.cell? ⟨b, k, none⟩ = some (.slice X g.length xc) ∧ OwnGrid w 0 (.slice X g.length xc) g ∧ GridAt w X g := by
  obtain ⟨us, h1, h2, h3⟩ := h
  have hh := h2
  rcases h2.2 with ⟨_, e⟩ | ⟨b, cap, cur, hv, hB, hgb, _⟩
  · omega
  · subst hv
    refine ⟨b, cap, rfl, hB, heap_lt hgb, fun k g hg => ?_⟩
    have hkl : k < gs.length := (List.getElem?_eq_some_iff.1 hg).1
    have hc := hh.cellAt k (by omega)
    have hu : us[k]? = some (us[k]'(by omega)) := List.getElem?_eq_getElem (by omega)
    have ho := h3 k _ g hu hg
    obtain ⟨X, xc, hX, hx⟩ := ho.sliceAny
    rw [hu, hX] at hc
    rw [hX] at ho
    exact ⟨X, xc, hc, ho, hx⟩
theorem GridsO.lt {w : World} {B : Nat} {v : Value} {gs : List Grid} (h : GridsO w B v gs) {b : Nat} (hb : v.ownBlock = some b) : B ≤ b ∧ b < w.heap.size := by
  obtain ⟨us, h1, h2, _⟩ := h
  exact World.ownsRow.lt h2 b hb
theorem OwnGrid.oneQ {w : World} {B : Nat} {u : Value} {g : Grid} (h : OwnGrid w B u g) : u.oneCell' = true := by
  obtain ⟨us, h1, h2, _⟩ := h
  rcases h2.2 with ⟨hv, _⟩ | ⟨_, _, _, hv, _⟩ <;> rw [hv] <;> rfl
/-- a list of one image -/
theorem GridsO.lit {w : World} {u : Value} {g : Grid} (h : OwnGrid w 0 u g) (B : Nat) (hB : B ≤ w.heap.size) : GridsO (w.alloc (.cells #[u] 23)) B (.slice (some ⟨w.heap.size, 0, none⟩) 1 1) [g] :=
  ⟨[u], rfl, World.ownsRow_lit (base := B) (e := 23) (size := 1) w #[u] 1 hB (by decide) rfl, fun k u' g' hu hg => by
    cases k with
    | zero =>
      have e1 : u = u' := by simpa using hu
      have e2 : g = g' := by simpa using hg
      subst e1 e2
      exact h.ext ((Ext.refl w).alloc _)
    | succ k => simp at hu⟩
section
variable {ops : Array Oper} {rest : List Oper} {o : Oper} {a : Act} {Q : Exit → Act → World → Prop}
/-- 'append(queue, x)' -/
theorem app_queue {w : World} {B : Nat} {v u : Value} {gs : List Grid} {g : Grid} (h : GridsO w B v gs) (hg0 : OwnGrid w 0 u g) (hB : B ≤ w.heap.size) (hl : gs.length ≤ 1000000000) {ad : Addr} {c : Nat}
    (hy : w.cell? ad = some u) (hgd : o.guard = none) (s x : Operand) (ho : o.op = .call { callee := .builtin .append, args := #[s, x], argTypes := #[25, 25] })
    (hs : a.eval s = v) (hx : a.eval x = .slice (some ad) 1 c)
    (hK : ∀ b cap w', GridsO w' B (.slice (some ⟨b, 0, none⟩) (gs.length + 1) cap) (gs ++ [g]) → NonQ w w' → w.grownBy w' v.ownBlock → wpList Try.prog ops Q rest (a.put o.dst (.slice (some ⟨b, 0, none⟩) (gs.length + 1) cap)) w') :
    wpList Try.prog ops Q (o :: rest) a w := by
  obtain ⟨i, hi, hz, hsz, hby⟩ := infoGrid'
  obtain ⟨us, h1, h2, h3⟩ := h
  have hone := hg0.oneQ
  refine wpList_append_lies w hgd s x 25 ho B 23 i (.slice none 0 0) 1 24 Try.underlying25 hi hz hsz hby rfl (by decide) v gs.length us hs h2 ad 1 c [u] hx rfl
    (fun j u' hj => by
      cases j with
      | zero => have : u = u' := by simpa using hj
                subst this
                unfold Addr.add; simpa using hy
      | succ j => simp at hj) (fun u' hu' => by
        have : u' = u := by simpa using hu'
        subst this; exact hone) (by decide) (by unfold maxLen; omega) (by omega) hB w.heap.size rfl ?_
  intro b cap w' hown hgrow hat hlt
  have hn := NonQ.grown h2 hgrow
  refine hK b cap w' ⟨us ++ [u], by rw [List.length_append, List.length_append, h1]; rfl, by rw [List.length_append]; exact hown, fun k u' g' hu hg => ?_⟩ hn hgrow
  rcases snoc_at hu with ⟨a1, a2⟩ | ⟨a1, rfl⟩
  · rcases snoc_at hg with ⟨b1, b2⟩ | ⟨b1, rfl⟩
    · exact hn.grid (h3 k u' g' a2 b2)
    · omega
  · rcases snoc_at hg with ⟨b1, b2⟩ | ⟨b1, rfl⟩
    · omega
    · exact hn.grid hg0
end
theorem nodup_le {α : Type} : ∀ {a b : List α}, a.Nodup → (∀ x ∈ a, x ∈ b) → a.length ≤ b.length
  | [], _, _, _ => Nat.zero_le _
  | x :: a, b, hn, hs => by
    obtain ⟨h1, h2⟩ := List.nodup_cons.1 hn
    obtain ⟨p, q, rfl⟩ := List.append_of_mem (hs x List.mem_cons_self)
    have h3 : a.length ≤ (p ++ q).length := nodup_le h2 fun y hy => by
      have := hs y (List.mem_cons_of_mem _ hy)
      rcases List.mem_append.1 this with h | h
      · exact List.mem_append_left _ h
      · rcases List.mem_cons.1 h with e | e
        · subst e; exact absurd hy h1
        · exact List.mem_append_right _ e
    rw [List.length_append] at h3 ⊢
    rw [List.length_cons, List.length_cons]; omega
end Go.Proofs.Ytlhjbpachpjpkaa
