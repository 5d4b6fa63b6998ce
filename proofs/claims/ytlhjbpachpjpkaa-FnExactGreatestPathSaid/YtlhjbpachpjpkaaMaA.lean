/- Texts merged: Mark1 Mark2 Mark4. -/
import Derived.Test.YtlhjbpachpjpkaaPick
import Derived.Test.YtlhjbpachpjpkaaHelp2
namespace Go.Proofs.Ytlhjbpachpjpkaa
open Go.RowKit Tomo

/-- at most these blocks have changed -/
structure Only (w w' : World) (P : Nat → Prop) : Prop where
  os : w'.os = w.os
  tape : w'.tape = w.tape
  output : w'.output = w.output
  size : w'.heap.size = w.heap.size
  block : ∀ k, ¬ P k → w'.heap[k]? = w.heap[k]?
theorem Only.refl (w : World) (P : Nat → Prop) : Only w w P := ⟨rfl, rfl, rfl, rfl, fun _ _ => rfl⟩
theorem Only.trans {a b c : World} {P : Nat → Prop} (h : Only a b P) (k : Only b c P) : Only a c P :=
  ⟨k.os.trans h.os, k.tape.trans h.tape, k.output.trans h.output, k.size.trans h.size, fun i hi => (k.block i hi).trans (h.block i hi)⟩
theorem Only.mono {a b : World} {P Q : Nat → Prop} (h : Only a b P) (k : ∀ i, P i → Q i) : Only a b Q := ⟨h.os, h.tape, h.output, h.size, fun i hi => h.block i (fun hp => hi (k i hp))⟩
theorem Only.set (w : World) (g x : Nat) (v : Value) : Only w (w.setCell ⟨g, x, none⟩ v) (fun b => b = g) := by
  have h : Below 0 w (w.setCell ⟨g, x, none⟩ v) := Below.setCell (Below.refl 0 w) (Nat.zero_le _) v
  exact ⟨h.os, h.tape, h.output, by simp, fun k hk => Below.heap_setCell _ _ _ _ hk⟩
theorem Only.below {w w' : World} {P : Nat → Prop} {B : Nat} (h : Only w w' P) (k : ∀ b, P b → B ≤ b) : Below B w w' :=
  ⟨h.os, h.tape, h.output, by rw [h.size]; omega, fun i hi => h.block i (fun hp => by have := k i hp; omega)⟩
theorem Only.seg {w w' : World} {P : Nat → Prop} {lo hi : Nat} (h : Only w w' P) (k : ∀ b, P b → b < lo ∨ hi ≤ b) : Seg lo hi w w' :=
  fun i h1 h2 => h.block i (fun hp => by rcases k i hp with h3 | h3 <;> omega)

/-! ### slices whose blocks lie between two bounds -/
def OwnIn (w : World) (lo hi : Nat) (v : Value) (xs : List Int) : Prop := Own w lo v xs ∧ ∀ b, v.ownBlock = some b → b < hi
def OwnGridIn (w : World) (lo hi : Nat) (v : Value) (g : Grid) : Prop := OwnGrid w lo v g ∧ (∀ b, v.ownBlock = some b → b < hi) ∧ ∀ p, RowVal w v p → ∀ b, p.ownBlock = some b → b < hi
def OwnGridsIn (w : World) (lo hi : Nat) (v : Value) (gs : List Grid) : Prop := OwnGrids w lo v gs ∧ (∀ b, v.ownBlock = some b → b < hi) ∧ ∀ u, RowVal w v u → (∀ b, u.ownBlock = some b → b < hi) ∧ ∀ p, RowVal w u p → ∀ b, p.ownBlock = some b → b < hi
theorem Own.in_ {w : World} {B : Nat} {v : Value} {xs : List Int} (h : Own w B v xs) : OwnIn w B w.heap.size v xs := ⟨h, fun _ hb => (h.lt hb).2⟩
theorem OwnGrid.in_ {w : World} {B : Nat} {v : Value} {g : Grid} (h : OwnGrid w B v g) : OwnGridIn w B w.heap.size v g := ⟨h, fun _ hb => (h.lt hb).2, fun _ hp _ hb => (h.rowVal_lt hp hb).2⟩
theorem OwnGrids.imgVal {w : World} {B : Nat} {v u : Value} {gs : List Grid} (h : OwnGrids w B v gs) (hu : RowVal w v u) : ∃ (k : Nat) (g : Grid), gs[k]? = some g ∧ OwnGrid w B u g := by
  obtain ⟨b, n, c, k, rfl, hk, hc⟩ := hu
  obtain ⟨us, h1, h2, h3, h4⟩ := h
  have hn : n = gs.length := by
    rcases h2.2 with ⟨hv, _⟩ | ⟨_, _, _, hv, _⟩ <;> cases hv
    rfl
  subst hn
  have h5 := h2.cellAt k (by omega)
  have hu : us[k]? = some (us[k]'(by omega)) := List.getElem?_eq_getElem (by omega)
  rw [hu, hc] at h5
  cases h5
  exact ⟨k, _, List.getElem?_eq_getElem (by omega), h3 k _ _ hu (List.getElem?_eq_getElem (by omega))⟩
theorem OwnGrids.lt {w : World} {B : Nat} {v : Value} {gs : List Grid} (h : OwnGrids w B v gs) {b : Nat} (hb : v.ownBlock = some b) : B ≤ b ∧ b < w.heap.size := by
  obtain ⟨us, h1, h2, _⟩ := h
  exact World.ownsRow.lt h2 b hb
theorem OwnGrids.in_ {w : World} {B : Nat} {v : Value} {gs : List Grid} (h : OwnGrids w B v gs) : OwnGridsIn w B w.heap.size v gs :=
  ⟨h, fun _ hb => (h.lt hb).2, fun u hu => by
    obtain ⟨k, g, _, ho⟩ := h.imgVal hu
    exact ⟨fun _ hb => (ho.lt hb).2, fun _ hp _ hb => (ho.rowVal_lt hp hb).2⟩⟩

theorem ownsRow_segIn {w w' : World} {lo hi : Nat} {e : TypeId} {size : Nat} {v : Value} {n : Nat} {xs : List Value} (h : w.ownsRow lo e size v n xs) (hb : ∀ b, v.ownBlock = some b → b < hi) (k : Seg lo hi w w') : w'.ownsRow lo e size v n xs := by
  obtain ⟨h1, h2⟩ := h
  refine ⟨h1, ?_⟩
  rcases h2 with h2 | ⟨g, cap, cur, hv, hB, hg, hrest⟩
  · exact .inl h2
  · exact .inr ⟨g, cap, cur, hv, hB, (k g hB (hb g (by rw [hv]; rfl))).trans hg, hrest⟩
theorem OwnIn.seg {w w' : World} {lo hi : Nat} {v : Value} {xs : List Int} (h : OwnIn w lo hi v xs) (k : Seg lo hi w w') : OwnIn w' lo hi v xs := ⟨ownsRow_segIn h.1 h.2 k, h.2⟩
theorem RowVal.fwd {w w' : World} {v p : Value} (hb : ∀ b, v.ownBlock = some b → w'.heap[b]? = w.heap[b]?) (h : RowVal w v p) : RowVal w' v p := by
  obtain ⟨b, n, c, i, rfl, hi, hc⟩ := h
  exact ⟨b, n, c, i, rfl, hi, (World.cell?_of_block (w := w) (w' := w') (a := ⟨b, i, none⟩) (hb b rfl)).trans hc⟩
theorem RowVal.bwd {w w' : World} {v p : Value} (hb : ∀ b, v.ownBlock = some b → w'.heap[b]? = w.heap[b]?) (h : RowVal w' v p) : RowVal w v p := RowVal.fwd (fun b hv => (hb b hv).symm) h
theorem OwnGrid.seg_of {w w' : World} {lo hi : Nat} {v : Value} {g : Grid} (h : OwnGrid w lo v g) (h2 : ∀ b, v.ownBlock = some b → b < hi) (h3 : ∀ p, RowVal w v p → ∀ b, p.ownBlock = some b → b < hi) (k : Seg lo hi w w') : OwnGrid w' lo v g := by
  have hk := h
  obtain ⟨us, g1, g2, g3, g4⟩ := h
  refine ⟨us, g1, ownsRow_segIn g2 h2 k, fun i u r hu hr => ?_, g4⟩
  have ho := g3 i u r hu hr
  refine ownsRow_segIn ho (h3 u ?_) k
  have hi : i < g.length := (List.getElem?_eq_some_iff.1 hr).1
  obtain ⟨b, c, hv, _⟩ := hk.form (by omega)
  rw [hv] at g2 ⊢
  obtain ⟨u', hu', hc', _⟩ := OwnGrid.us g2 g1 hr
  rw [hu] at hu'
  cases hu'
  exact ⟨b, _, c, i, rfl, hi, hc'⟩
theorem OwnGridIn.seg {w w' : World} {lo hi : Nat} {v : Value} {g : Grid} (h : OwnGridIn w lo hi v g) (k : Seg lo hi w w') : OwnGridIn w' lo hi v g := by
  obtain ⟨h1, h2, h3⟩ := h
  refine ⟨h1.seg_of h2 h3 k, h2, fun p hp => h3 p (hp.bwd fun b hb => k b (h1.lt hb).1 (h2 b hb))⟩
theorem OwnGrids.rowVal {w : World} {B : Nat} {v : Value} {gs : List Grid} {us : List Value} (h : GridsU w B v gs us) {i : Nat} {u : Value} (hi : us[i]? = some u) : RowVal w v u := by
  obtain ⟨h1, h2, _⟩ := h
  have hlt := (List.getElem?_eq_some_iff.1 hi).1
  rcases h2.2 with ⟨_, h0⟩ | ⟨b, cap, cur, hv, _, hg, _⟩
  · omega
  · subst hv
    have h5 := h2.cellAt i (by omega)
    exact ⟨b, _, cap, i, rfl, by omega, by rw [h5, hi]⟩
theorem OwnGridsIn.seg {w w' : World} {lo hi : Nat} {v : Value} {gs : List Grid} (h : OwnGridsIn w lo hi v gs) (k : Seg lo hi w w') : OwnGridsIn w' lo hi v gs := by
  obtain ⟨h1, h2, h3⟩ := h
  obtain ⟨us, hu⟩ := h1.u
  have hu0 := hu
  obtain ⟨g1, g2, g3, g4⟩ := hu
  have hsame : ∀ u, RowVal w v u → ∀ b, u.ownBlock = some b → w'.heap[b]? = w.heap[b]? := fun u hv b hb => by
    obtain ⟨_, g, _, ho⟩ := h1.imgVal hv
    exact k b (ho.lt hb).1 ((h3 u hv).1 b hb)
  have hback : ∀ u, RowVal w' v u → RowVal w v u := fun u hp => hp.bwd fun b hb => k b (h1.lt hb).1 (h2 b hb)
  refine ⟨⟨us, g1, ownsRow_segIn g2 h2 k, fun i u g hi hg => ?_, fun i j u u' hi hj hij p q hp hq => ?_⟩, h2, fun u hv => ?_⟩
  · have hv := OwnGrids.rowVal hu0 hi
    exact (g3 i u g hi hg).seg_of (h3 u hv).1 (h3 u hv).2 k
  · exact g4 i j u u' hi hj hij p q (hp.bwd (hsame u (OwnGrids.rowVal hu0 hi))) (hq.bwd (hsame u' (OwnGrids.rowVal hu0 hj)))
  · have hv' := hback u hv
    exact ⟨(h3 u hv').1, fun p hp => (h3 u hv').2 p (hp.bwd (hsame u hv'))⟩

/-! ### one row, one image of a list is written -/
theorem OwnGrid.setRow {w w' : World} {B b n c : Nat} {g : Grid} {u : Value} {r r' : List Int} {i : Nat} (h : OwnGrid w B (.slice (some ⟨b, 0, none⟩) n c) g) (hr : g[i]? = some r) (hc : w.cell? ⟨b, i, none⟩ = some u) (ho : Own w' B u r') (hon : Only w w' fun k => u.ownBlock = some k) :
    OwnGrid w' B (.slice (some ⟨b, 0, none⟩) n c) (g.set i r') := by
  have hown := h.rowOwn hr hc
  obtain ⟨us, h1, h2, h3, h4⟩ := h
  obtain ⟨u', hu, hc', hbl⟩ := OwnGrid.us h2 h1 hr
  rw [hc] at hc'
  cases hc'
  have hbk : w'.heap[b]? = w.heap[b]? := hon.block b (fun e => by
    rcases kinds_apart h2 hown with h5 | h5
    · rw [h5] at e; cases e
    · exact h5 e)
  refine ⟨us, by rw [h1, List.length_set], ?_, fun j u1 r1 hu1 hr1 => ?_, h4⟩
  · rw [List.length_set]
    obtain ⟨g1, g2⟩ := h2
    refine ⟨g1, ?_⟩
    rcases g2 with ⟨hv, _⟩ | ⟨g', cap, cur, hv, hB, hg, hrest⟩
    · cases hv
    · cases hv
      exact .inr ⟨b, _, cur, rfl, hB, hbk.trans hg, hrest⟩
  · by_cases e : j = i
    · subst e
      have hlt : j < g.length := (List.getElem?_eq_some_iff.1 hr).1
      rw [List.getElem?_set_self hlt] at hr1
      cases hr1
      rw [hu] at hu1
      cases hu1
      exact ho
    · rw [List.getElem?_set_ne (fun h => e h.symm)] at hr1
      have hq := h3 j u1 r1 hu1 hr1
      obtain ⟨k1, k2⟩ := hq
      refine ⟨k1, ?_⟩
      rcases k2 with k2 | ⟨g', cap, cur, hv, hB, hg, hrest⟩
      · exact .inl k2
      · refine .inr ⟨g', cap, cur, hv, hB, (hon.block g' (fun e' => ?_)).trans hg, hrest⟩
        rcases h4 i j u u1 hu hu1 (fun h => e h.symm) with h5 | h5
        · rw [h5] at e'; cases e'
        · rw [hv] at h5; exact h5 e'
theorem OwnGrid.onlyRows {w : World} {B b n c : Nat} {g : Grid} {u : Value} {i : Nat} (h : OwnGrid w B (.slice (some ⟨b, 0, none⟩) n c) g) (hi : i < g.length) (hc : w.cell? ⟨b, i, none⟩ = some u) : RowVal w (.slice (some ⟨b, 0, none⟩) n c) u := by
  have := h.len
  exact ⟨b, n, c, i, rfl, by omega, hc⟩
/-- the rows of a grid are other blocks than the one that holds it -/
theorem OwnGrid.apartTop {w : World} {B : Nat} {v p : Value} {g : Grid} (h : OwnGrid w B v g) (hp : RowVal w v p) : p.ownBlock = none ∨ p.ownBlock ≠ v.ownBlock := by
  obtain ⟨k, r, hr, ho⟩ := h.rowVal hp
  obtain ⟨us, h1, h2, _⟩ := h
  exact kinds_apart h2 ho
theorem OwnGrids.setGrid {w w' : World} {B b n c : Nat} {gs : List Grid} {u : Value} {g g' : Grid} {i : Nat} (h : OwnGrids w B (.slice (some ⟨b, 0, none⟩) n c) gs) (hg : gs[i]? = some g) (hc : w.cell? ⟨b, i, none⟩ = some u) (ho : OwnGrid w' B u g') (hon : Only w w' fun k => ∃ p, RowVal w u p ∧ p.ownBlock = some k) :
    OwnGrids w' B (.slice (some ⟨b, 0, none⟩) n c) (gs.set i g') ∧ w'.heap[b]? = w.heap[b]? ∧ Same 28 w w' := by
  obtain ⟨us, hu⟩ := h.u
  have hu0 := hu
  obtain ⟨h1, h2, h3, h4⟩ := hu
  have hlt : i < gs.length := (List.getElem?_eq_some_iff.1 hg).1
  have hui : us[i]? = some u := by
    have hn : n = gs.length := by
      rcases h2.2 with ⟨hv, _⟩ | ⟨_, _, _, hv, _⟩ <;> cases hv
      rfl
    subst hn
    have h5 := h2.cellAt i (by omega)
    rw [hc] at h5
    rw [List.getElem?_eq_getElem (by omega)] at h5 ⊢
    exact h5.symm
  have hou := h3 i u g hui hg
  -- a block of rows is no block of slices
  have kind : ∀ k, (∃ p, RowVal w u p ∧ p.ownBlock = some k) → ∃ cs, w.heap[k]? = some (.cells cs 3 (0, 0)) := fun k ⟨p, hp, hk⟩ => by
    obtain ⟨_, r, _, hor⟩ := hou.rowVal hp
    rcases hor.2 with ⟨hv, _⟩ | ⟨g', cap, cur, hv, _, hg', _⟩
    · rw [hv] at hk; cases hk
    · rw [hv] at hk
      have e : g' = k := by simpa [Value.ownBlock] using hk
      subst e
      exact ⟨_, hg'⟩
  have sl : Same 28 w w' := fun k cs fz hk => (hon.block k (fun hP => by
    obtain ⟨cs', h5⟩ := kind k hP
    rw [hk] at h5; simp at h5)).trans hk
  have sg : Same 23 w w' := fun k cs fz hk => (hon.block k (fun hP => by
    obtain ⟨cs', h5⟩ := kind k hP
    rw [hk] at h5; simp at h5)).trans hk
  have hback : ∀ {j : Nat} {u1 : Value} {p : Value}, us[j]? = some u1 → RowVal w' u1 p → RowVal w u1 p := fun {j u1 p} hj hp => by
    have ho1 := h3 j u1 _ hj (List.getElem?_eq_getElem (by have := (List.getElem?_eq_some_iff.1 hj).1; omega))
    refine hp.bwd fun b1 hb1 => ?_
    obtain ⟨us1, k1, k2, _⟩ := ho1
    rcases k2.2 with ⟨hv, _⟩ | ⟨g1, cap, cur, hv, _, hg1, _⟩
    · rw [hv] at hb1; cases hb1
    · rw [hv] at hb1
      have e : g1 = b1 := by simpa [Value.ownBlock] using hb1
      subst e
      exact (sl _ _ _ hg1).trans hg1.symm
  refine ⟨⟨us, by rw [h1, List.length_set], by rw [List.length_set]; exact ownsRow_same h2 sg, fun j u1 g1 hj hg1 => ?_, fun j k u1 u2 hj hk hjk p q hp hq => h4 j k u1 u2 hj hk hjk p q (hback hj hp) (hback hk hq)⟩, ?_⟩
  · by_cases e : j = i
    · subst e
      rw [List.getElem?_set_self hlt] at hg1
      cases hg1
      rw [hui] at hj
      cases hj
      exact ho
    · rw [List.getElem?_set_ne (fun h => e h.symm)] at hg1
      have ho1 := h3 j u1 g1 hj hg1
      have hap := h4 i j u u1 hui hj (fun h => e h.symm)
      have ho1' := ho1
      obtain ⟨us1, k1, k2, k3, k4⟩ := ho1
      refine ⟨us1, k1, ownsRow_same k2 sl, fun m p r hp hr => ?_, k4⟩
      have hor := k3 m p r hp hr
      have hrv : RowVal w u1 p := by
        have hm : m < g1.length := (List.getElem?_eq_some_iff.1 hr).1
        obtain ⟨b1, c1, hv1, _⟩ := ho1'.form (by omega)
        rw [hv1] at k2 ⊢
        obtain ⟨p', hp', hc', _⟩ := OwnGrid.us k2 k1 hr
        rw [hp] at hp'
        cases hp'
        exact ⟨b1, _, c1, m, rfl, hm, hc'⟩
      obtain ⟨m1, m2⟩ := hor
      refine ⟨m1, ?_⟩
      rcases m2 with m2 | ⟨g2, cap, cur, hv, hB, hg2, hrest⟩
      · exact .inl m2
      · refine .inr ⟨g2, cap, cur, hv, hB, (hon.block g2 (fun ⟨p', hp', he⟩ => ?_)).trans hg2, hrest⟩
        rcases hap p' p hp' hrv with h5 | h5
        · rw [h5] at he; cases he
        · rw [hv] at h5; exact h5 he
  · rcases h2.2 with ⟨hv, _⟩ | ⟨g2, cap, cur, hv, _, hg2, _⟩
    · cases hv
    · cases hv
      exact ⟨(sg _ _ _ hg2).trans hg2.symm, sl⟩

/-! ### the marks -/
def seqI (k : Int) (n : Nat) : List Int := (List.range n).map fun (i : Nat) => k + (i : Int)
theorem seqI_length (k : Int) (n : Nat) : (seqI k n).length = n := by simp [seqI]
theorem seqI_at {k : Int} {n i : Nat} (h : i < n) : (seqI k n)[i]? = some (k + (i : Int)) := by unfold seqI; rw [List.getElem?_map, List.getElem?_range h]; rfl
theorem seqI_succ (k : Int) (n : Nat) : seqI k (n + 1) = seqI k n ++ [k + (n : Int)] := by simp [seqI, List.range_succ]
def total (g : Grid) : Nat := (g.map List.length).sum
def markG : Int → Grid → Grid
  | _, [] => []
  | k, r :: g => seqI k r.length :: markG (k + (r.length : Int)) g
def totals (gs : List Grid) : Nat := (gs.map total).sum
def markGs : Int → List Grid → List Grid
  | _, [] => []
  | k, g :: gs => markG k g :: markGs (k + (total g : Int)) gs
theorem markG_snoc (r : List Int) : ∀ (k : Int) (g : Grid), markG k (g ++ [r]) = markG k g ++ [seqI (k + (total g : Int)) r.length]
  | k, [] => by simp [markG, total]
  | k, q :: g => by
    rw [List.cons_append, markG, markG, markG_snoc r (k + (q.length : Int)) g, List.cons_append]
    unfold total
    rw [List.map_cons, List.sum_cons, Int.natCast_add, Int.add_assoc]
theorem markGs_snoc (r : Grid) : ∀ (k : Int) (g : List Grid), markGs k (g ++ [r]) = markGs k g ++ [markG (k + (totals g : Int)) r]
  | k, [] => by simp [markGs, totals]
  | k, q :: g => by
    rw [List.cons_append, markGs, markGs, markGs_snoc r (k + (total q : Int)) g, List.cons_append]
    unfold totals
    rw [List.map_cons, List.sum_cons, Int.natCast_add, Int.add_assoc]
theorem markG_length : ∀ (k : Int) (g : Grid), (markG k g).length = g.length
  | _, [] => rfl
  | k, r :: g => by rw [markG, List.length_cons, List.length_cons, markG_length]
theorem markGs_length : ∀ (k : Int) (g : List Grid), (markGs k g).length = g.length
  | _, [] => rfl
  | k, r :: g => by rw [markGs, List.length_cons, List.length_cons, markGs_length]
theorem total_snoc (g : Grid) (r : List Int) : total (g ++ [r]) = total g + r.length := by simp [total]
theorem totals_snoc (g : List Grid) (r : Grid) : totals (g ++ [r]) = totals g + total r := by simp [totals]
theorem markG_at : ∀ (k : Int) (g : Grid) (i : Nat) (r : List Int), g[i]? = some r → (markG k g)[i]? = some (seqI (k + (total (g.take i) : Int)) r.length)
  | k, [], i, r, h => by simp at h
  | k, q :: g, 0, r, h => by
    have e : q = r := by simpa using h
    subst e; simp [markG, total]
  | k, q :: g, i + 1, r, h => by
    have := markG_at (k + (q.length : Int)) g i r (by simpa using h)
    rw [markG, List.getElem?_cons_succ, this, List.take_succ_cons]
    unfold total
    rw [List.map_cons, List.sum_cons, Int.natCast_add, Int.add_assoc]
theorem markGs_at : ∀ (k : Int) (g : List Grid) (i : Nat) (r : Grid), g[i]? = some r → (markGs k g)[i]? = some (markG (k + (totals (g.take i) : Int)) r)
  | k, [], i, r, h => by simp at h
  | k, q :: g, 0, r, h => by
    have e : q = r := by simpa using h
    subst e; simp [markGs, totals]
  | k, q :: g, i + 1, r, h => by
    have := markGs_at (k + (total q : Int)) g i r (by simpa using h)
    rw [markGs, List.getElem?_cons_succ, this, List.take_succ_cons]
    unfold totals
    rw [List.map_cons, List.sum_cons, Int.natCast_add, Int.add_assoc]
theorem total_take_le (g : Grid) (i : Nat) : total (g.take i) ≤ total g := by
  unfold total
  conv => rhs; rw [← List.take_append_drop i g, List.map_append, List.sum_append]
  omega
theorem totals_take_le (g : List Grid) (i : Nat) : totals (g.take i) ≤ totals g := by
  unfold totals
  conv => rhs; rw [← List.take_append_drop i g, List.map_append, List.sum_append]
  omega
theorem set_at {α : Type} {A B : List α} {x : α} {i : Nat} (h : A.length = i) (y : α) : (A ++ x :: B).set i y = A ++ y :: B := by
  subst h; rw [List.set_append_right _ _ (Nat.le_refl _)]; simp
theorem drop_at {α : Type} {l : List α} {i : Nat} {x : α} (h : l[i]? = some x) : l.drop i = x :: l.drop (i + 1) := by
  obtain ⟨hlt, he⟩ := List.getElem?_eq_some_iff.1 h
  rw [← he]; exact List.drop_eq_getElem_cons hlt
end Go.Proofs.Ytlhjbpachpjpkaa

namespace Go.Proofs.Ytlhjbpachpjpkaa
open Go.RowKit Tomo

theorem Own.putN {w : World} {B g n c : Nat} {xs : List Int} (h : Own w B (.slice (some ⟨g, 0, none⟩) n c) xs) {x : Nat} (hx : x < n) :
    (∃ y, w.cell? ⟨g, x, none⟩ = some (.int .i64 y)) ∧ w.frozen? ⟨g, x, none⟩ = false ∧ ∀ y, Own (w.setCell ⟨g, x, none⟩ (.int .i64 y)) B (.slice (some ⟨g, 0, none⟩) n c) (xs.set x y) := by
  obtain rfl : n = xs.length := h.ints.1
  obtain ⟨⟨y, _, h1⟩, h2, h3⟩ := h.put hx
  exact ⟨⟨y, h1⟩, h2, h3⟩
theorem Own.some_of {w : World} {B n c : Nat} {A : Option Addr} {xs : List Int} (h : Own w B (.slice A n c) xs) (hn : 0 < n) : ∃ g, A = some ⟨g, 0, none⟩ := by
  have hl := h.ints.1
  obtain ⟨g, c', hv, _⟩ := h.form (by omega)
  exact ⟨g, by cases hv; rfl⟩
theorem OwnGrid.some_of {w : World} {B n c : Nat} {A : Option Addr} {g : Grid} (h : OwnGrid w B (.slice A n c) g) (hn : 0 < n) : ∃ b, A = some ⟨b, 0, none⟩ := by
  have hl := h.len
  obtain ⟨b, c', hv, _⟩ := h.form (by omega)
  exact ⟨b, by cases hv; rfl⟩
theorem OwnGrids.len {w : World} {B n c : Nat} {A : Option Addr} {gs : List Grid} (h : OwnGrids w B (.slice A n c) gs) : n = gs.length := by
  obtain ⟨us, h1, h2, _⟩ := h
  rcases h2.2 with ⟨hv, h0⟩ | ⟨_, _, _, hv, _⟩ <;> cases hv
  · exact h0.symm
  · rfl
theorem mark_step {α : Type} {A : List α} {l : List α} {i : Nat} {x y : α} (hA : A.length = i) (h : l[i]? = some x) : (A ++ l.drop i).set i y = A ++ [y] ++ l.drop (i + 1) := by
  rw [drop_at h, set_at hA, List.append_assoc]; rfl
theorem mark_read {α : Type} {A : List α} {l : List α} {i : Nat} {x : α} (hA : A.length = i) (h : l[i]? = some x) : (A ++ l.drop i)[i]? = some x := by
  rw [drop_at h, List.getElem?_append_right (by omega), hA]; simp





theorem IntRow.own {w : World} {b : Nat} {xs : List Int} (h : IntRow w b xs) {B : Nat} (hB : B ≤ b) (hl : xs.length ≤ 1000000000) : Own w B (.slice (some ⟨b, 0, none⟩) xs.length xs.length) xs := by
  obtain ⟨cs, h1, h2, h3⟩ := h
  refine ⟨by simp, .inr ⟨b, xs.length, cs, rfl, hB, h1, Nat.le_refl _, by unfold maxLen; omega, by rw [h2]; simp, ?_⟩⟩
  apply List.ext_getElem?
  intro i
  rw [List.getElem?_map, Nat.mul_one]
  by_cases hi : i < xs.length
  · rw [List.getElem?_take_of_lt hi, Array.getElem?_toList, h3 i hi]
    simp [hi]
  · have h4 : cs.toList.length = xs.length := by simpa using h2
    rw [List.getElem?_eq_none (by rw [List.length_take, h4]; omega), List.getElem?_eq_none (by omega)]; rfl
theorem NewInts.own {w w' : World} {xs : List Int} (h : NewInts w w' xs) (hl : xs.length ≤ 1000000000) : Own w' w.heap.size (.slice (some ⟨w.heap.size, 0, none⟩) xs.length xs.length) xs := h.row.own (Nat.le_refl _) hl
theorem NewGrid.own {w w' : World} {g : Grid} (h : NewGrid w w' g) (hl : g.length ≤ 1000000000) (hr : ∀ r ∈ g, r.length ≤ 1000000000) : OwnGrid w' w.heap.size (.slice (some ⟨w.heap.size, 0, none⟩) g.length g.length) g := by
  obtain ⟨⟨cs, h1, h2, h3⟩, hrows, _, _⟩ := h
  refine ⟨(List.range g.length).map fun i => .slice (some ⟨w.heap.size + 1 + i, 0, none⟩) (g[i]?.getD []).length (g[i]?.getD []).length, by simp, ⟨by simp, .inr ⟨w.heap.size, g.length, cs, rfl, Nat.le_refl _, h1, Nat.le_refl _, by unfold maxLen; omega, by rw [h2]; simp, ?_⟩⟩, fun i u r hu hr' => ?_, fun i j u u' hi hj hij => ?_⟩
  · apply List.ext_getElem?
    intro i
    rw [List.getElem?_map, Nat.mul_one]
    by_cases hi : i < g.length
    · rw [List.getElem?_take_of_lt hi, Array.getElem?_toList, h3 i hi, List.getElem?_range hi]; rfl
    · have h4 : cs.toList.length = g.length := by simpa using h2
      rw [List.getElem?_eq_none (by rw [List.length_take, h4]; omega), List.getElem?_eq_none (by simp; omega)]; rfl
  · have hi : i < g.length := (List.getElem?_eq_some_iff.1 hr').1
    rw [List.getElem?_map, List.getElem?_range hi] at hu
    have e : u = .slice (some ⟨w.heap.size + 1 + i, 0, none⟩) r.length r.length := by simpa [hr'] using hu.symm
    rw [e]
    have := hrows i hi
    rw [hr'] at this
    exact IntRow.own this (by omega) (hr r (List.mem_of_getElem? hr'))
  · have hi' : i < g.length := by have := (List.getElem?_eq_some_iff.1 hi).1; simpa using this
    have hj' : j < g.length := by have := (List.getElem?_eq_some_iff.1 hj).1; simpa using this
    rw [List.getElem?_map, List.getElem?_range hi'] at hi
    rw [List.getElem?_map, List.getElem?_range hj'] at hj
    right
    simp only [Option.map_some, Option.some.injEq] at hi hj
    subst hi hj
    simp [Value.ownBlock]; omega
end Go.Proofs.Ytlhjbpachpjpkaa

namespace Go.Proofs.Ytlhjbpachpjpkaa
open Go.RowKit Tomo

theorem Seg.onlyIn {w w' : World} {lo hi lo' hi' : Nat} (h : Only w w' fun b => lo' ≤ b ∧ b < hi') (k : hi ≤ lo' ∨ hi' ≤ lo) : Seg lo hi w w' := h.seg fun b hb => by omega
theorem Ext.onlyIn {w0 w w' : World} {lo' hi' : Nat} (h0 : Ext w0 w) (h : Only w w' fun b => lo' ≤ b ∧ b < hi') (k : w0.heap.size ≤ lo') : Ext w0 w' := Below.trans h0 (h.below fun b hb => by omega)
def GBound (g : Grid) : Prop := g.length ≤ 1048576 ∧ (∀ r ∈ g, r.length ≤ 1048576) ∧ total g ≤ 1000000000

theorem sz_total (g : Grid) : total g ≤ szGrid g := by unfold total szGrid; omega
theorem toIntS_in {w w' : World} {xs : List Int} (h : NewInts w w' xs) (hl : xs.length ≤ 1048576) : OwnIn w' w.heap.size w'.heap.size (.slice (some ⟨w.heap.size, 0, none⟩) xs.length xs.length) xs := (h.own (by omega)).in_
theorem toIntSS_in {w w' : World} {g : Grid} (h : NewGrid w w' g) (hl : g.length ≤ 1048576) (hr : ∀ r ∈ g, r.length ≤ 1048576) : OwnGridIn w' w.heap.size w'.heap.size (.slice (some ⟨w.heap.size, 0, none⟩) g.length g.length) g := (h.own (by omega) (fun r hr' => by have := hr r hr'; omega)).in_
end Go.Proofs.Ytlhjbpachpjpkaa
