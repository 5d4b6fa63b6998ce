/- The program's search for images: what it keeps in memory. -/
import Derived.Test.YtpmpbdcbiaohdaaAll3
import Derived.Test.YtpmpbdcbiaohdaaPaint1
namespace Go.Proofs.Ytpmpbdcbiaohdaa
open Go.RowKit Tomo

/-- blocks of this element type are as they were -/
def Same (e : TypeId) (w w' : World) : Prop := ∀ (k : Nat) cs fz, w.heap[k]? = some (.cells cs e fz) → w'.heap[k]? = some (.cells cs e fz)
theorem ownsRow_same {w w' : World} {B : Nat} {e : TypeId} {size : Nat} {v : Value} {n : Nat} {xs : List Value} (h : w.ownsRow B e size v n xs) (k : Same e w w') : w'.ownsRow B e size v n xs := by
  obtain ⟨h1, h2⟩ := h
  refine ⟨h1, ?_⟩
  rcases h2 with h2 | ⟨g, cap, cur, hv, hb, hg, hrest⟩
  · exact .inl h2
  · exact .inr ⟨g, cap, cur, hv, hb, k g _ _ hg, hrest⟩
theorem Own.same {w w' : World} {B : Nat} {v : Value} {xs : List Int} (h : Own w B v xs) (k : Same 3 w w') : Own w' B v xs := ownsRow_same h k
theorem OwnGrid.same {w w' : World} {B : Nat} {v : Value} {g : List (List Int)} (h : OwnGrid w B v g) (k1 : Same 3 w w') (k2 : Same 27 w w') : OwnGrid w' B v g := by
  obtain ⟨us, h1, h2, h3, h4⟩ := h
  exact ⟨us, h1, ownsRow_same h2 k2, fun i u r hu hr => (h3 i u r hu hr).same k1, h4⟩
theorem RowVal.back {w w' : World} {b n c : Nat} {p : Value} (hb : w'.heap[b]? = w.heap[b]?) (h : RowVal w' (.slice (some ⟨b, 0, none⟩) n c) p) : RowVal w (.slice (some ⟨b, 0, none⟩) n c) p := by
  obtain ⟨b', n', c', i, he, hi, hc⟩ := h
  cases he
  exact ⟨b, n, c, i, rfl, hi, (World.cell?_of_block (w := w') (w' := w) (a := ⟨b, i, none⟩) hb.symm).trans hc⟩
theorem OwnGrid.len {w : World} {B : Nat} {A : Option Addr} {n c : Nat} {g : List (List Int)} (h : OwnGrid w B (.slice A n c) g) : n = g.length := by
  obtain ⟨us, h1, h2, _⟩ := h
  rcases h2.2 with ⟨hv, h0⟩ | ⟨_, _, _, hv, _⟩ <;> cases hv
  · exact h0.symm
  · rfl
theorem OwnGrid.block {w : World} {B b n c : Nat} {g : List (List Int)} (h : OwnGrid w B (.slice (some ⟨b, 0, none⟩) n c) g) : ∃ cs, w.heap[b]? = some (.cells cs 27 (0, 0)) := by
  obtain ⟨us, h1, h2, _⟩ := h
  rcases h2.2 with ⟨hv, _⟩ | ⟨g, cap, cur, hv, _, hg, _⟩
  · cases hv
  · cases hv; exact ⟨_, hg⟩
theorem Own.block {w : World} {B b n c : Nat} {xs : List Int} (h : Own w B (.slice (some ⟨b, 0, none⟩) n c) xs) : ∃ cs, w.heap[b]? = some (.cells cs 3 (0, 0)) := by
  rcases h.2 with ⟨hv, _⟩ | ⟨g, cap, cur, hv, _, hg, _⟩
  · cases hv
  · cases hv; exact ⟨_, hg⟩
theorem OwnGrid.rowVal_seg {w w' : World} {B : Nat} {u p : Value} {g : List (List Int)} (h : OwnGrid w B u g) (k : Seg B w.heap.size w w') (hp : RowVal w' u p) : RowVal w u p := by
  obtain ⟨b, n, c, i, rfl, hi, hc⟩ := hp
  obtain ⟨us, h1, h2, h3, h4⟩ := h
  rcases h2.2 with ⟨hv, _⟩ | ⟨g, cap, cur, hv, hB, hg, _⟩
  · cases hv
  · cases hv
    exact ⟨b, _, c, i, rfl, hi, (World.cell?_of_block (w := w') (w' := w) (a := ⟨b, i, none⟩) (k b hB (heap_lt hg)).symm).trans hc⟩
theorem OwnGrids.seg {w w' : World} {B : Nat} {v : Value} {gs : List (List (List Int))} (h : OwnGrids w B v gs) (k : Seg B w.heap.size w w') : OwnGrids w' B v gs := by
  obtain ⟨us, h1, h2, h3, h4⟩ := h
  have hgi : ∀ i u, us[i]? = some u → ∃ g, gs[i]? = some g := fun i u hi =>
    ⟨gs[i]'(by have := (List.getElem?_eq_some_iff.1 hi).1; omega), List.getElem?_eq_getElem _⟩
  refine ⟨us, h1, ownsRow_seg h2 k, fun i u r hu hr => (h3 i u r hu hr).seg k, fun i j u u' hi hj hij p q hp hq => ?_⟩
  obtain ⟨g, hg⟩ := hgi i u hi
  obtain ⟨g', hg'⟩ := hgi j u' hj
  exact h4 i j u u' hi hj hij p q ((h3 i u g hi hg).rowVal_seg k hp) ((h3 j u' g' hj hg').rowVal_seg k hq)
theorem OwnGrid.setOther {w : World} {B b n c : Nat} {g : List (List Int)} (h : OwnGrid w B (.slice (some ⟨b, 0, none⟩) n c) g) {L x : Nat} {y : Value} (hne : L ≠ b) (hL : ∀ p, RowVal w (.slice (some ⟨b, 0, none⟩) n c) p → p.ownBlock ≠ some L) : OwnGrid (w.setCell ⟨L, x, none⟩ y) B (.slice (some ⟨b, 0, none⟩) n c) g := by
  obtain ⟨us, h1, h2, h3, h4⟩ := h
  refine ⟨us, h1, ownsRow_setCell_other (a := ⟨L, x, none⟩) h2 (by simp [Value.ownBlock]; omega) _, fun i u r hu hr => ?_, h4⟩
  have hn : n = g.length := by
    rcases h2.2 with ⟨hv, _⟩ | ⟨_, _, _, hv, _⟩ <;> cases hv
    rfl
  have hi : i < g.length := (List.getElem?_eq_some_iff.1 hr).1
  obtain ⟨u', hu', hc', _⟩ := OwnGrid.us h2 h1 hr
  rw [hu] at hu'
  cases hu'
  exact ownsRow_setCell_other (a := ⟨L, x, none⟩) (h3 i u r hu hr) (hL u ⟨b, n, c, i, rfl, by omega, hc'⟩) _

/-- where the search's variables lie -/
structure Cx where
  Pc : Nat
  Pr : Nat
  Po : Nat
  Pm : Nat
  Pl : Nat
  Pf : Nat
  mb : Nat
  mc : Nat
  L : Nat
  lc : Nat
  cc : Nat
  cr : Nat
  Bz : Nat
  Bm : Nat
  Bo : Nat
  n : Nat
  k : Nat
  Ac : Option Addr
  Ar : Option Addr
def Cx.ptrs (c : Cx) : Array Value := #[.pointer (some ⟨c.Pc, 0, none⟩), .pointer (some ⟨c.Pr, 0, none⟩), .pointer (some ⟨c.Po, 0, none⟩), .pointer (some ⟨c.Pm, 0, none⟩), .pointer (some ⟨c.Pl, 0, none⟩), .pointer (some ⟨c.Pf, 0, none⟩)]
structure PutSt (c : Cx) (rows : List Int) (w : World) (gs : List Grid) (m : Grid) (left : List Int) : Prop where
  hc : w.heap[c.Pc]? = some (.cells #[.slice c.Ac c.k c.cc] 27 (0, 0))
  hr : w.heap[c.Pr]? = some (.cells #[.slice c.Ar c.n c.cr] 27 (0, 0))
  hm : w.heap[c.Pm]? = some (.cells #[.slice (some ⟨c.mb, 0, none⟩) c.n c.mc] 23 (0, 0))
  hl : w.heap[c.Pl]? = some (.cells #[.slice (some ⟨c.L, 0, none⟩) c.k c.lc] 27 (0, 0))
  hf : w.heap[c.Pf]? = some (.cells #[.func (.func 36) #[] c.ptrs] 63 (0, 0))
  ho : ∃ v, w.heap[c.Po]? = some (.cells #[v] 50 (0, 0)) ∧ OwnGrids w c.Bo v gs
  gm : OwnGrid w c.Bm (.slice (some ⟨c.mb, 0, none⟩) c.n c.mc) m
  gl : Own w c.Bm (.slice (some ⟨c.L, 0, none⟩) c.k c.lc) left
  ap : ∀ p, RowVal w (.slice (some ⟨c.mb, 0, none⟩) c.n c.mc) p → p.ownBlock ≠ some c.L ∧ ∀ b, p.ownBlock = some b → b < c.Bo
  row : ∀ i r, rows[i]? = some r → ∃ b o, c.Ar = some ⟨b, o, none⟩ ∧ b < c.Bz ∧ w.cell? ⟨b, o + i, none⟩ = some (.int .i64 r)
  lt : c.L < c.Bo ∧ c.mb < c.Bo ∧ c.Pc < c.Bo ∧ c.Pr < c.Bo ∧ c.Po < c.Bo ∧ c.Pm < c.Bo ∧ c.Pl < c.Bo ∧ c.Pf < c.Bo
  sz : c.Bz ≤ c.Bm ∧ c.Bz ≤ c.Po ∧ c.Bm ≤ c.Bo ∧ c.Bo ≤ w.heap.size

theorem PutSt.rowAt {c : Cx} {rows : List Int} {w : World} {gs : List Grid} {m : Grid} {left : List Int} (h : PutSt c rows w gs m left) {w' : World} (k : Below c.Bz w w') :
    ∀ i r, rows[i]? = some r → ∃ b o, c.Ar = some ⟨b, o, none⟩ ∧ b < c.Bz ∧ w'.cell? ⟨b, o + i, none⟩ = some (.int .i64 r) := fun i r hi => by
  obtain ⟨b, o, h1, h2, h3⟩ := h.row i r hi
  exact ⟨b, o, h1, h2, (Below.cell (p := ⟨b, o + i, none⟩) k h2).trans h3⟩

/-- a cell of the image is written -/
theorem PutSt.setM {c : Cx} {rows : List Int} {w : World} {gs : List Grid} {m : Grid} {left : List Int} (h : PutSt c rows w gs m left) {y x : Nat} {r : List Int} (hr : m[y]? = some r) (hx : x < r.length) :
    ∃ R cR v, w.cell? ⟨c.mb, y, none⟩ = some (.slice (some ⟨R, 0, none⟩) r.length cR) ∧ r.length ≤ cR ∧ w.cell? ⟨R, x, none⟩ = some (.int .i64 v) ∧ w.frozen? ⟨R, x, none⟩ = false ∧
      ∀ z, PutSt c rows (w.setCell ⟨R, x, none⟩ (.int .i64 z)) gs (m.set y (r.set x z)) left ∧ Below c.Bz w (w.setCell ⟨R, x, none⟩ (.int .i64 z)) := by
  obtain ⟨R, cR, hq, hle, hBR, hRl, hints, hfr, hset⟩ := h.gm.row hr (by omega)
  have hown := h.gm.rowOwn hr hq
  obtain ⟨v, _, hv⟩ := hints.at1 hx
  rw [Nat.zero_add] at hv
  obtain ⟨z1, z2, z3, z4⟩ := h.sz
  have hyn : y < c.n := by
    have := (List.getElem?_eq_some_iff.1 hr).1
    rw [h.gm.len]; exact this
  obtain ⟨a1, a2⟩ := h.ap _ ⟨c.mb, c.n, c.mc, y, rfl, hyn, hq⟩
  have a3 : R < c.Bo := a2 R rfl
  have a4 : c.L ≠ R := fun e => a1 (by rw [e]; rfl)
  refine ⟨R, cR, v, hq, hle, hv, hfr x, fun z => ?_⟩
  have non := NonInt.set (x := x) (v := .int .i64 z) hown
  have hb : Below c.Bz w (w.setCell ⟨R, x, none⟩ (.int .i64 z)) := Below.setCell (Below.refl _ _) (by show c.Bz ≤ R; omega) _
  refine ⟨⟨non _ _ h.hc (by intro cs fz e; simp at e), non _ _ h.hr (by intro cs fz e; simp at e), non _ _ h.hm (by intro cs fz e; simp at e), non _ _ h.hl (by intro cs fz e; simp at e), non _ _ h.hf (by intro cs fz e; simp at e), ?_, hset x z hx, ?_, ?_, h.rowAt hb, h.lt, ⟨z1, z2, z3, by simpa using z4⟩⟩, hb⟩
  · obtain ⟨v, h1, h2⟩ := h.ho
    exact ⟨v, non _ _ h1 (by intro cs fz e; simp at e), h2.seg fun k k1 _ => Below.heap_setCell _ _ _ _ (by show k ≠ R; omega)⟩
  · exact ownsRow_setCell_other (a := ⟨R, x, none⟩) h.gl (by simpa [Value.ownBlock] using a4) _
  · obtain ⟨cs, hcs⟩ := h.gm.block
    intro p hp
    exact h.ap p (RowVal.back ((non _ _ hcs (by intro cs fz e; simp at e)).trans hcs.symm) hp)

/-- a number of what the columns still need is written -/
theorem PutSt.setL {c : Cx} {rows : List Int} {w : World} {gs : List Grid} {m : Grid} {left : List Int} (h : PutSt c rows w gs m left) {x : Nat} {l : Int} (hl : left[x]? = some l) :
    w.cell? ⟨c.L, x, none⟩ = some (.int .i64 l) ∧ w.frozen? ⟨c.L, x, none⟩ = false ∧
      ∀ z, PutSt c rows (w.setCell ⟨c.L, x, none⟩ (.int .i64 z)) gs m (left.set x z) ∧ Below c.Bz w (w.setCell ⟨c.L, x, none⟩ (.int .i64 z)) := by
  have hx : x < left.length := (List.getElem?_eq_some_iff.1 hl).1
  have hn := h.gl.ints.1
  have hgl := h.gl
  rw [hn] at hgl
  obtain ⟨⟨v, h1, h2⟩, h3, h4⟩ := hgl.put hx
  rw [hl] at h1
  cases h1
  obtain ⟨z1, z2, z3, z4⟩ := h.sz
  have hLB := (h.gl.lt (b := c.L) rfl).1
  refine ⟨h2, h3, fun z => ?_⟩
  have non := NonInt.set (x := x) (v := .int .i64 z) h.gl
  have hb : Below c.Bz w (w.setCell ⟨c.L, x, none⟩ (.int .i64 z)) := Below.setCell (Below.refl _ _) (by show c.Bz ≤ c.L; omega) _
  obtain ⟨cs, hcs⟩ := h.gm.block
  obtain ⟨cl, hcl⟩ := h.gl.block
  refine ⟨⟨non _ _ h.hc (by intro cs fz e; simp at e), non _ _ h.hr (by intro cs fz e; simp at e), non _ _ h.hm (by intro cs fz e; simp at e), non _ _ h.hl (by intro cs fz e; simp at e), non _ _ h.hf (by intro cs fz e; simp at e), ?_, ?_, ?_, ?_, h.rowAt hb, h.lt, ⟨z1, z2, z3, by simpa using z4⟩⟩, hb⟩
  · obtain ⟨v, h1, h2⟩ := h.ho
    exact ⟨v, non _ _ h1 (by intro cs fz e; simp at e), h2.seg fun k k1 _ => Below.heap_setCell _ _ _ _ (by show k ≠ c.L; have := h.lt.1; omega)⟩
  · refine h.gm.setOther (fun e => ?_) (fun p hp => (h.ap p hp).1)
    rw [e, hcs] at hcl
    simp at hcl
  · have := h4 z
    rw [hn]; exact this
  · intro p hp
    exact h.ap p (RowVal.back ((non _ _ hcs (by intro cs fz e; simp at e)).trans hcs.symm) hp)

/-- an image is appended -/
theorem PutSt.app {c : Cx} {rows : List Int} {w w4 w5 : World} {gs gs' : List Grid} {m : Grid} {left : List Int} {v v5 : Value} (h : PutSt c rows w gs m left) (hv : w.heap[c.Po]? = some (.cells #[v] 50 (0, 0))) (hg : OwnGrids w c.Bo v gs) (e4 : Ext w w4)
    (o5 : OwnGrids w5 c.Bo v5 gs') (n5 : NonOut w4 w5) (g5 : w4.grownBy w5 v.ownBlock) :
    PutSt c rows (w5.setCell ⟨c.Po, 0, none⟩ v5) gs' m left ∧ Below c.Bz w (w5.setCell ⟨c.Po, 0, none⟩ v5) := by
  obtain ⟨z1, z2, z3, z4⟩ := h.sz
  obtain ⟨l1, l2, l3, l4, l5, l6, l7, l8⟩ := h.lt
  have hlow : ∀ k, k < c.Bo → w5.heap[k]? = w.heap[k]? := fun k hk => by
    refine (g5.block k (by have := e4.size; omega) (fun e => ?_)).trans (e4.block k (by omega))
    obtain ⟨us, h1, h2, _⟩ := hg
    have := (World.ownsRow.lt h2 k e.symm).1
    omega
  have hlow6 : ∀ k, k < c.Bo → k ≠ c.Po → (w5.setCell ⟨c.Po, 0, none⟩ v5).heap[k]? = w.heap[k]? := fun k hk hne => (Below.heap_setCell _ _ _ _ hne).trans (hlow k hk)
  have hb : Below c.Bz w (w5.setCell ⟨c.Po, 0, none⟩ v5) := by
    refine Below.setCell (Below.grown (B := c.Bz) (Below.mono e4 (by omega)) g5 (by have := e4.size; omega) fun k hk => ?_) (by show c.Bz ≤ c.Po; omega) _
    obtain ⟨us, h1, h2, _⟩ := hg
    have := (World.ownsRow.lt h2 k hk).1
    omega
  have hPo5 := (hlow c.Po l5).trans hv
  have s56 : ∀ (k : Nat) (o : Obj), w5.heap[k]? = some o → (∀ cs fz, o ≠ .cells cs 50 fz) → (w5.setCell ⟨c.Po, 0, none⟩ v5).heap[k]? = some o := fun k o hk ho => by
    by_cases e : k = c.Po
    · subst e
      rw [hPo5] at hk
      exact absurd (Option.some.inj hk).symm (ho _ _)
    · exact (Below.heap_setCell _ _ _ _ e).trans hk
  have si : Same 3 w5 (w5.setCell ⟨c.Po, 0, none⟩ v5) := fun k cs fz hk => s56 k _ hk (by intro cs fz e; simp at e)
  have ss : Same 27 w5 (w5.setCell ⟨c.Po, 0, none⟩ v5) := fun k cs fz hk => s56 k _ hk (by intro cs fz e; simp at e)
  have old : ∀ {k : Nat} {o : Obj}, k < c.Bo → w.heap[k]? = some o → (∀ cs fz, o ≠ .cells cs 50 fz) → (w5.setCell ⟨c.Po, 0, none⟩ v5).heap[k]? = some o := fun hk h1 h2 => s56 _ _ ((hlow _ hk).trans h1) h2
  refine ⟨⟨old l3 h.hc (by intro cs fz e; simp at e), old l4 h.hr (by intro cs fz e; simp at e), old l6 h.hm (by intro cs fz e; simp at e), old l7 h.hl (by intro cs fz e; simp at e), old l8 h.hf (by intro cs fz e; simp at e), ?_, ?_, ?_, ?_, h.rowAt hb, h.lt, ⟨z1, z2, z3, ?_⟩⟩, hb⟩
  · refine ⟨v5, ?_, o5.seg fun k k1 _ => Below.heap_setCell _ _ _ _ (by show k ≠ c.Po; omega)⟩
    rw [heap_setCell_same _ _ _ _ _ _ hPo5]
    rfl
  · exact ((h.gm.ext e4).non n5).same si ss
  · exact ((h.gl.ext e4).non n5).same si
  · obtain ⟨cs, hcs⟩ := h.gm.block
    intro p hp
    exact h.ap p (RowVal.back ((old l2 hcs (by intro cs fz e; simp at e)).trans hcs.symm) hp)
  · have h1 := e4.size
    have h2 := g5.size
    simp only [World.size_setCell]
    omega
end Go.Proofs.Ytpmpbdcbiaohdaa
