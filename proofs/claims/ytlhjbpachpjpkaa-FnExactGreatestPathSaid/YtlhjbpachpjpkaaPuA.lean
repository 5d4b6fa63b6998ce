/- Texts merged: Put1 Put2 Put3 Put4. -/
import Derived.Test.YtlhjbpachpjpkaaAlA
import Derived.Test.YtlhjbpachpjpkaaPaint1
namespace Go.Proofs.Ytlhjbpachpjpkaa
open Go.RowKit Tomo

/-- blocks of this element type are as they were -/
def Same (e : TypeId) (w w' : World) : Prop := ∀ (k : Nat) cs fz, w.heap[k]? = some (.cells cs e fz) → w'.heap[k]? = some (.cells cs e fz)
theorem ownsRow_same {w w' : World} {B : Nat} {e : TypeId} {size : Nat} {v : Value} {n : Nat} {xs : List Value} (h : w.ownsRow B e size v n xs) (k : Same e w w') : w'.ownsRow B e size v n xs := by
  obtain ⟨h1, h2⟩ := h
  refine ⟨h1, ?_⟩
  rcases h2 with h2 | ⟨g, cap, cur, hv, hb, hg, hrest⟩
  · exact .inl h2
  · exact .inr ⟨g, cap, cur, hv, hb, k g _ _ hg, hrest⟩
theorem Own.same {w w' : World} {B : Nat} {v : Value} {xs : List Int} (h : Own w B v xs) (k : Same 3 w w') : Own w' B v xs := ownsRow_same h k
theorem OwnGrid.same {w w' : World} {B : Nat} {v : Value} {g : List (List Int)} (h : OwnGrid w B v g) (k1 : Same 3 w w') (k2 : Same 28 w w') : OwnGrid w' B v g := by
  obtain ⟨us, h1, h2, h3, h4⟩ := h
  exact ⟨us, h1, ownsRow_same h2 k2, fun i u r hu hr => (h3 i u r hu hr).same k1, h4⟩
theorem RowVal.back {w w' : World} {b n c : Nat} {p : Value} (hb : w'.heap[b]? = w.heap[b]?) (h : RowVal w' (.slice (some ⟨b, 0, none⟩) n c) p) : RowVal w (.slice (some ⟨b, 0, none⟩) n c) p := by
  obtain ⟨b', n', c', i, he, hi, hc⟩ := h
  cases he
  exact ⟨b, n, c, i, rfl, hi, (World.cell?_of_block (w := w') (w' := w) (a := ⟨b, i, none⟩) hb.symm).trans hc⟩
theorem OwnGrid.len {w : World} {B : Nat} {A : Option Addr} {n c : Nat} {g : List (List Int)} (h : OwnGrid w B (.slice A n c) g) : n = g.length := by
  obtain ⟨us, h1, h2, _⟩ := h
  rcases h2.2 with ⟨hv, h0⟩ | ⟨_, _, _, hv, _⟩ <;> cases hv
  · exact h0.symm
  · rfl
theorem OwnGrid.block {w : World} {B b n c : Nat} {g : List (List Int)} (h : OwnGrid w B (.slice (some ⟨b, 0, none⟩) n c) g) : ∃ cs, w.heap[b]? = some (.cells cs 28 (0, 0)) := by
  obtain ⟨us, h1, h2, _⟩ := h
  rcases h2.2 with ⟨hv, _⟩ | ⟨g, cap, cur, hv, _, hg, _⟩
  · cases hv
  · cases hv; exact ⟨_, hg⟩
theorem Own.block {w : World} {B b n c : Nat} {xs : List Int} (h : Own w B (.slice (some ⟨b, 0, none⟩) n c) xs) : ∃ cs, w.heap[b]? = some (.cells cs 3 (0, 0)) := by
  rcases h.2 with ⟨hv, _⟩ | ⟨g, cap, cur, hv, _, hg, _⟩
  · cases hv
  · cases hv; exact ⟨_, hg⟩
theorem OwnGrid.rowVal_seg {w w' : World} {B : Nat} {u p : Value} {g : List (List Int)} (h : OwnGrid w B u g) (k : Seg B w.heap.size w w') (hp : RowVal w' u p) : RowVal w u p := by
  obtain ⟨b, n, c, i, rfl, hi, hc⟩ := hp
  obtain ⟨us, h1, h2, h3, h4⟩ := h
  rcases h2.2 with ⟨hv, _⟩ | ⟨g, cap, cur, hv, hB, hg, _⟩
  · cases hv
  · cases hv
    exact ⟨b, _, c, i, rfl, hi, (World.cell?_of_block (w := w') (w' := w) (a := ⟨b, i, none⟩) (k b hB (heap_lt hg)).symm).trans hc⟩
theorem OwnGrids.seg {w w' : World} {B : Nat} {v : Value} {gs : List (List (List Int))} (h : OwnGrids w B v gs) (k : Seg B w.heap.size w w') : OwnGrids w' B v gs := by
  obtain ⟨us, h1, h2, h3, h4⟩ := h
  have hgi : ∀ i u, us[i]? = some u → ∃ g, gs[i]? = some g := fun i u hi =>
    ⟨gs[i]'(by have := (List.getElem?_eq_some_iff.1 hi).1; omega), List.getElem?_eq_getElem _⟩
  refine ⟨us, h1, ownsRow_seg h2 k, fun i u r hu hr => (h3 i u r hu hr).seg k, fun i j u u' hi hj hij p q hp hq => ?_⟩
  obtain ⟨g, hg⟩ := hgi i u hi
  obtain ⟨g', hg'⟩ := hgi j u' hj
  exact h4 i j u u' hi hj hij p q ((h3 i u g hi hg).rowVal_seg k hp) ((h3 j u' g' hj hg').rowVal_seg k hq)
theorem OwnGrid.setOther {w : World} {B b n c : Nat} {g : List (List Int)} (h : OwnGrid w B (.slice (some ⟨b, 0, none⟩) n c) g) {L x : Nat} {y : Value} (hne : L ≠ b) (hL : ∀ p, RowVal w (.slice (some ⟨b, 0, none⟩) n c) p → p.ownBlock ≠ some L) : OwnGrid (w.setCell ⟨L, x, none⟩ y) B (.slice (some ⟨b, 0, none⟩) n c) g := by
  obtain ⟨us, h1, h2, h3, h4⟩ := h
  refine ⟨us, h1, ownsRow_setCell_other (a := ⟨L, x, none⟩) h2 (by simp [Value.ownBlock]; omega) _, fun i u r hu hr => ?_, h4⟩
  have hn : n = g.length := by
    rcases h2.2 with ⟨hv, _⟩ | ⟨_, _, _, hv, _⟩ <;> cases hv
    rfl
  have hi : i < g.length := (List.getElem?_eq_some_iff.1 hr).1
  obtain ⟨u', hu', hc', _⟩ := OwnGrid.us h2 h1 hr
  rw [hu] at hu'
  cases hu'
  exact ownsRow_setCell_other (a := ⟨L, x, none⟩) (h3 i u r hu hr) (hL u ⟨b, n, c, i, rfl, by omega, hc'⟩) _

/-- where the search's variables lie -/
structure Cx where
  Pc : Nat
  Pr : Nat
  Po : Nat
  Pm : Nat
  Pl : Nat
  Pf : Nat
  mb : Nat
  mc : Nat
  L : Nat
  lc : Nat
  cc : Nat
  cr : Nat
  Bz : Nat
  Bm : Nat
  Bo : Nat
  n : Nat
  k : Nat
  Ac : Option Addr
  Ar : Option Addr
def Cx.ptrs (c : Cx) : Array Value := #[.pointer (some ⟨c.Pc, 0, none⟩), .pointer (some ⟨c.Pr, 0, none⟩), .pointer (some ⟨c.Po, 0, none⟩), .pointer (some ⟨c.Pm, 0, none⟩), .pointer (some ⟨c.Pl, 0, none⟩), .pointer (some ⟨c.Pf, 0, none⟩)]
structure PutSt (c : Cx) (rows : List Int) (w : World) (gs : List Grid) (m : Grid) (left : List Int) : Prop where
  hc : w.heap[c.Pc]? = some (.cells #[.slice c.Ac c.k c.cc] 28 (0, 0))
  hr : w.heap[c.Pr]? = some (.cells #[.slice c.Ar c.n c.cr] 28 (0, 0))
  hm : w.heap[c.Pm]? = some (.cells #[.slice (some ⟨c.mb, 0, none⟩) c.n c.mc] 23 (0, 0))
  hl : w.heap[c.Pl]? = some (.cells #[.slice (some ⟨c.L, 0, none⟩) c.k c.lc] 28 (0, 0))
  hf : w.heap[c.Pf]? = some (.cells #[.func (.func 71) #[] c.ptrs] 71 (0, 0))
  ho : ∃ v, w.heap[c.Po]? = some (.cells #[v] 25 (0, 0)) ∧ OwnGrids w c.Bo v gs
  gm : OwnGrid w c.Bm (.slice (some ⟨c.mb, 0, none⟩) c.n c.mc) m
  gl : Own w c.Bm (.slice (some ⟨c.L, 0, none⟩) c.k c.lc) left
  ap : ∀ p, RowVal w (.slice (some ⟨c.mb, 0, none⟩) c.n c.mc) p → p.ownBlock ≠ some c.L ∧ ∀ b, p.ownBlock = some b → b < c.Bo
  row : ∀ i r, rows[i]? = some r → ∃ b o, c.Ar = some ⟨b, o, none⟩ ∧ b < c.Bz ∧ w.cell? ⟨b, o + i, none⟩ = some (.int .i64 r)
  lt : c.L < c.Bo ∧ c.mb < c.Bo ∧ c.Pc < c.Bo ∧ c.Pr < c.Bo ∧ c.Po < c.Bo ∧ c.Pm < c.Bo ∧ c.Pl < c.Bo ∧ c.Pf < c.Bo
  sz : c.Bz ≤ c.Bm ∧ c.Bz ≤ c.Po ∧ c.Bm ≤ c.Bo ∧ c.Bo ≤ w.heap.size

theorem PutSt.rowAt {c : Cx} {rows : List Int} {w : World} {gs : List Grid} {m : Grid} {left : List Int} (h : PutSt c rows w gs m left) {w' : World} (k : Below c.Bz w w') :
    ∀ i r, rows[i]? = some r → ∃ b o, c.Ar = some ⟨b, o, none⟩ ∧ b < c.Bz ∧ w'.cell? ⟨b, o + i, none⟩ = some (.int .i64 r) := fun i r hi => by
  obtain ⟨b, o, h1, h2, h3⟩ := h.row i r hi
  exact ⟨b, o, h1, h2, (Below.cell (p := ⟨b, o + i, none⟩) k h2).trans h3⟩

/-- a cell of the image is written -/
theorem PutSt.setM {c : Cx} {rows : List Int} {w : World} {gs : List Grid} {m : Grid} {left : List Int} (h : PutSt c rows w gs m left) {y x : Nat} {r : List Int} (hr : m[y]? = some r) (hx : x < r.length) :
    ∃ R cR v, w.cell? ⟨c.mb, y, none⟩ = some (.slice (some ⟨R, 0, none⟩) r.length cR) ∧ r.length ≤ cR ∧ w.cell? ⟨R, x, none⟩ = some (.int .i64 v) ∧ w.frozen? ⟨R, x, none⟩ = false ∧
      ∀ z, PutSt c rows (w.setCell ⟨R, x, none⟩ (.int .i64 z)) gs (m.set y (r.set x z)) left ∧ Below c.Bz w (w.setCell ⟨R, x, none⟩ (.int .i64 z)) := by
  obtain ⟨R, cR, hq, hle, hBR, hRl, hints, hfr, hset⟩ := h.gm.row hr (by omega)
  have hown := h.gm.rowOwn hr hq
  obtain ⟨v, _, hv⟩ := hints.at1 hx
  rw [Nat.zero_add] at hv
  obtain ⟨z1, z2, z3, z4⟩ := h.sz
  have hyn : y < c.n := by
    have := (List.getElem?_eq_some_iff.1 hr).1
    rw [h.gm.len]; exact this
  obtain ⟨a1, a2⟩ := h.ap _ ⟨c.mb, c.n, c.mc, y, rfl, hyn, hq⟩
  have a3 : R < c.Bo := a2 R rfl
  have a4 : c.L ≠ R := fun e => a1 (by rw [e]; rfl)
  refine ⟨R, cR, v, hq, hle, hv, hfr x, fun z => ?_⟩
  have non := NonInt.set (x := x) (v := .int .i64 z) hown
  have hb : Below c.Bz w (w.setCell ⟨R, x, none⟩ (.int .i64 z)) := Below.setCell (Below.refl _ _) (by show c.Bz ≤ R; omega) _
  refine ⟨⟨non _ _ h.hc (by intro cs fz e; simp at e), non _ _ h.hr (by intro cs fz e; simp at e), non _ _ h.hm (by intro cs fz e; simp at e), non _ _ h.hl (by intro cs fz e; simp at e), non _ _ h.hf (by intro cs fz e; simp at e), ?_, hset x z hx, ?_, ?_, h.rowAt hb, h.lt, ⟨z1, z2, z3, by simpa using z4⟩⟩, hb⟩
  · obtain ⟨v, h1, h2⟩ := h.ho
    exact ⟨v, non _ _ h1 (by intro cs fz e; simp at e), h2.seg fun k k1 _ => Below.heap_setCell _ _ _ _ (by show k ≠ R; omega)⟩
  · exact ownsRow_setCell_other (a := ⟨R, x, none⟩) h.gl (by simpa [Value.ownBlock] using a4) _
  · obtain ⟨cs, hcs⟩ := h.gm.block
    intro p hp
    exact h.ap p (RowVal.back ((non _ _ hcs (by intro cs fz e; simp at e)).trans hcs.symm) hp)

/-- a number of what the columns still need is written -/
theorem PutSt.setL {c : Cx} {rows : List Int} {w : World} {gs : List Grid} {m : Grid} {left : List Int} (h : PutSt c rows w gs m left) {x : Nat} {l : Int} (hl : left[x]? = some l) :
    w.cell? ⟨c.L, x, none⟩ = some (.int .i64 l) ∧ w.frozen? ⟨c.L, x, none⟩ = false ∧
      ∀ z, PutSt c rows (w.setCell ⟨c.L, x, none⟩ (.int .i64 z)) gs m (left.set x z) ∧ Below c.Bz w (w.setCell ⟨c.L, x, none⟩ (.int .i64 z)) := by
  have hx : x < left.length := (List.getElem?_eq_some_iff.1 hl).1
  have hn := h.gl.ints.1
  have hgl := h.gl
  rw [hn] at hgl
  obtain ⟨⟨v, h1, h2⟩, h3, h4⟩ := hgl.put hx
  rw [hl] at h1
  cases h1
  obtain ⟨z1, z2, z3, z4⟩ := h.sz
  have hLB := (h.gl.lt (b := c.L) rfl).1
  refine ⟨h2, h3, fun z => ?_⟩
  have non := NonInt.set (x := x) (v := .int .i64 z) h.gl
  have hb : Below c.Bz w (w.setCell ⟨c.L, x, none⟩ (.int .i64 z)) := Below.setCell (Below.refl _ _) (by show c.Bz ≤ c.L; omega) _
  obtain ⟨cs, hcs⟩ := h.gm.block
  obtain ⟨cl, hcl⟩ := h.gl.block
  refine ⟨⟨non _ _ h.hc (by intro cs fz e; simp at e), non _ _ h.hr (by intro cs fz e; simp at e), non _ _ h.hm (by intro cs fz e; simp at e), non _ _ h.hl (by intro cs fz e; simp at e), non _ _ h.hf (by intro cs fz e; simp at e), ?_, ?_, ?_, ?_, h.rowAt hb, h.lt, ⟨z1, z2, z3, by simpa using z4⟩⟩, hb⟩
  · obtain ⟨v, h1, h2⟩ := h.ho
    exact ⟨v, non _ _ h1 (by intro cs fz e; simp at e), h2.seg fun k k1 _ => Below.heap_setCell _ _ _ _ (by show k ≠ c.L; have := h.lt.1; omega)⟩
  · refine h.gm.setOther (fun e => ?_) (fun p hp => (h.ap p hp).1)
    rw [e, hcs] at hcl
    simp at hcl
  · have := h4 z
    rw [hn]; exact this
  · intro p hp
    exact h.ap p (RowVal.back ((non _ _ hcs (by intro cs fz e; simp at e)).trans hcs.symm) hp)

/-- an image is appended -/
theorem PutSt.app {c : Cx} {rows : List Int} {w w4 w5 : World} {gs gs' : List Grid} {m : Grid} {left : List Int} {v v5 : Value} (h : PutSt c rows w gs m left) (hv : w.heap[c.Po]? = some (.cells #[v] 25 (0, 0))) (hg : OwnGrids w c.Bo v gs) (e4 : Ext w w4)
    (o5 : OwnGrids w5 c.Bo v5 gs') (n5 : NonOut w4 w5) (g5 : w4.grownBy w5 v.ownBlock) :
    PutSt c rows (w5.setCell ⟨c.Po, 0, none⟩ v5) gs' m left ∧ Below c.Bz w (w5.setCell ⟨c.Po, 0, none⟩ v5) := by
  obtain ⟨z1, z2, z3, z4⟩ := h.sz
  obtain ⟨l1, l2, l3, l4, l5, l6, l7, l8⟩ := h.lt
  have hlow : ∀ k, k < c.Bo → w5.heap[k]? = w.heap[k]? := fun k hk => by
    refine (g5.block k (by have := e4.size; omega) (fun e => ?_)).trans (e4.block k (by omega))
    obtain ⟨us, h1, h2, _⟩ := hg
    have := (World.ownsRow.lt h2 k e.symm).1
    omega
  have hlow6 : ∀ k, k < c.Bo → k ≠ c.Po → (w5.setCell ⟨c.Po, 0, none⟩ v5).heap[k]? = w.heap[k]? := fun k hk hne => (Below.heap_setCell _ _ _ _ hne).trans (hlow k hk)
  have hb : Below c.Bz w (w5.setCell ⟨c.Po, 0, none⟩ v5) := by
    refine Below.setCell (Below.grown (B := c.Bz) (Below.mono e4 (by omega)) g5 (by have := e4.size; omega) fun k hk => ?_) (by show c.Bz ≤ c.Po; omega) _
    obtain ⟨us, h1, h2, _⟩ := hg
    have := (World.ownsRow.lt h2 k hk).1
    omega
  have hPo5 := (hlow c.Po l5).trans hv
  have s56 : ∀ (k : Nat) (o : Obj), w5.heap[k]? = some o → (∀ cs fz, o ≠ .cells cs 25 fz) → (w5.setCell ⟨c.Po, 0, none⟩ v5).heap[k]? = some o := fun k o hk ho => by
    by_cases e : k = c.Po
    · subst e
      rw [hPo5] at hk
      exact absurd (Option.some.inj hk).symm (ho _ _)
    · exact (Below.heap_setCell _ _ _ _ e).trans hk
  have si : Same 3 w5 (w5.setCell ⟨c.Po, 0, none⟩ v5) := fun k cs fz hk => s56 k _ hk (by intro cs fz e; simp at e)
  have ss : Same 28 w5 (w5.setCell ⟨c.Po, 0, none⟩ v5) := fun k cs fz hk => s56 k _ hk (by intro cs fz e; simp at e)
  have old : ∀ {k : Nat} {o : Obj}, k < c.Bo → w.heap[k]? = some o → (∀ cs fz, o ≠ .cells cs 25 fz) → (w5.setCell ⟨c.Po, 0, none⟩ v5).heap[k]? = some o := fun hk h1 h2 => s56 _ _ ((hlow _ hk).trans h1) h2
  refine ⟨⟨old l3 h.hc (by intro cs fz e; simp at e), old l4 h.hr (by intro cs fz e; simp at e), old l6 h.hm (by intro cs fz e; simp at e), old l7 h.hl (by intro cs fz e; simp at e), old l8 h.hf (by intro cs fz e; simp at e), ?_, ?_, ?_, ?_, h.rowAt hb, h.lt, ⟨z1, z2, z3, ?_⟩⟩, hb⟩
  · refine ⟨v5, ?_, o5.seg fun k k1 _ => Below.heap_setCell _ _ _ _ (by show k ≠ c.Po; omega)⟩
    rw [heap_setCell_same _ _ _ _ _ _ hPo5]
    rfl
  · exact ((h.gm.ext e4).non n5).same si ss
  · exact ((h.gl.ext e4).non n5).same si
  · obtain ⟨cs, hcs⟩ := h.gm.block
    intro p hp
    exact h.ap p (RowVal.back ((old l2 hcs (by intro cs fz e; simp at e)).trans hcs.symm) hp)
  · have h1 := e4.size
    have h2 := g5.size
    simp only [World.size_setCell]
    omega
end Go.Proofs.Ytlhjbpachpjpkaa

namespace Go.Proofs.Ytlhjbpachpjpkaa
open Go.RowKit Tomo

/-- how the search goes on behind a row -/
def contK : List Int → Grid → Row → Row → List Grid
  | [], done => fun _ row => [done ++ [row]]
  | r :: rs, done => fun left' row => putAll rs left' r (done ++ [row])
theorem putAll_contK (rs : List Int) (left : Row) (need : Int) (done : Grid) : putAll rs left need done = putRow (contK rs done) rs.length [] left need [] := by
  cases rs <;> rfl
theorem putRow_len (K : Row → Row → List Grid) (n M k : Nat) (hK : ∀ l' row, l'.length = k → (K l' row).length ≤ M) : ∀ (ls pre : Row) (need : Int) (cur : Row), pre.length + ls.length = k → (putRow K n pre ls need cur).length ≤ 2 ^ ls.length * M
  | [], pre, need, cur, h => by
    unfold putRow
    by_cases h0 : 0 < need
    · rw [if_pos h0]; simp
    · rw [if_neg h0]
      have := hK pre cur (by simpa using h)
      simpa using this
  | l :: ls, pre, need, cur, h => by
    have i1 := putRow_len K n M k hK ls (pre ++ [l]) need (cur ++ [0]) (by simp only [List.length_append, List.length_cons, List.length_nil] at *; omega)
    have i2 := putRow_len K n M k hK ls (pre ++ [l - 1]) (need - 1) (cur ++ [1]) (by simp only [List.length_append, List.length_cons, List.length_nil] at *; omega)
    unfold putRow
    rw [List.length_append, List.length_cons, Nat.pow_succ, Nat.mul_comm (2 ^ ls.length) 2, Nat.mul_assoc]
    generalize 2 ^ ls.length * M = Z at *
    split <;> split <;> (try rw [List.length_nil]) <;> (try rw [List.length_nil]) <;> omega
theorem contK_len : ∀ (rs : List Int) (done : Grid) (l' row : Row) (k : Nat), l'.length = k → (contK rs done l' row).length ≤ 2 ^ (rs.length * k)
  | [], done, l', row, k, h => by simp [contK]
  | r :: rs, done, l', row, k, h => by
    show (putAll rs l' r (done ++ [row])).length ≤ _
    rw [putAll_contK]
    have := putRow_len (contK rs (done ++ [row])) rs.length (2 ^ (rs.length * k)) k (fun a b h => contK_len rs _ a b k h) l' [] r [] (by simpa using h)
    rw [h, ← Nat.pow_add] at this
    rw [List.length_cons, Nat.add_mul, Nat.one_mul, Nat.add_comm]
    exact this
theorem putRow_contK_len (rs : List Int) (done : Grid) (ls pre : Row) (need : Int) (cur : Row) (k n : Nat) (h : pre.length + ls.length = k) : (putRow (contK rs done) n pre ls need cur).length ≤ 2 ^ (ls.length + rs.length * k) := by
  rw [Nat.pow_add]
  exact putRow_len _ _ _ k (fun a b h => contK_len rs done a b k h) ls pre need cur h

/-- the image while the search is on: rows done, a part of a row, cells and rows that are still white -/
def mOf (k : Nat) (done : Grid) (cur : Row) (u rs : Nat) : Grid := done ++ (cur ++ List.replicate u 0) :: List.replicate rs (List.replicate k 0)
theorem mOf_at {k Y u R : Nat} {done : Grid} {cur : Row} (h : done.length = Y) : (mOf k done cur u R)[Y]? = some (cur ++ List.replicate u 0) := by
  subst h; simp [mOf]
theorem mOf_set {k Y X u R : Nat} {done : Grid} {cur : Row} (h : done.length = Y) (h2 : cur.length = X) (z : Int) : (mOf k done cur (u + 1) R).set Y ((cur ++ List.replicate (u + 1) 0).set X z) = mOf k done (cur ++ [z]) u R := by
  subst h h2
  have e : (cur ++ List.replicate (u + 1) (0 : Int)).set cur.length z = cur ++ [z] ++ List.replicate u 0 := by
    rw [List.replicate_succ, List.set_append_right _ _ (Nat.le_refl _)]; simp
  rw [e]
  unfold mOf
  rw [List.set_append_right _ _ (Nat.le_refl _)]; simp
theorem mOf_zero (k u R : Nat) (done : Grid) (cur : Row) : mOf k done (cur ++ [0]) u R = mOf k done cur (u + 1) R := by
  unfold mOf
  rw [List.append_assoc, List.replicate_succ]; rfl
theorem mOf_reset {k Y X u R : Nat} {done : Grid} {cur : Row} (h : done.length = Y) (h2 : cur.length = X) (z : Int) : (mOf k done (cur ++ [z]) u R).set Y ((cur ++ [z] ++ List.replicate u 0).set X 0) = mOf k done cur (u + 1) R := by
  subst h h2
  have e : (cur ++ [z] ++ List.replicate u (0 : Int)).set cur.length 0 = cur ++ List.replicate (u + 1) 0 := by
    rw [List.append_assoc, List.set_append_right _ _ (Nat.le_refl _), List.replicate_succ]; simp
  rw [e]
  unfold mOf
  rw [List.set_append_right _ _ (Nat.le_refl _)]; simp
theorem mOf_next (k R : Nat) (done : Grid) (cur : Row) : mOf k done cur 0 (R + 1) = mOf k (done ++ [cur]) [] k R := by
  unfold mOf
  simp [List.replicate_succ]
theorem mOf_last (k : Nat) (done : Grid) (cur : Row) : mOf k done cur 0 0 = done ++ [cur] := by simp [mOf]
theorem left_at {X : Nat} {pre ls : Row} {l : Int} (h : pre.length = X) : (pre ++ l :: ls)[X]? = some l := by subst h; simp
theorem left_set {X : Nat} {pre ls : Row} {l z : Int} (h : pre.length = X) : (pre ++ l :: ls).set X z = pre ++ z :: ls := by
  subst h; rw [List.set_append_right _ _ (Nat.le_refl _)]; simp
theorem mOf_rows {k u R : Nat} {done : Grid} {cur : Row} (h1 : ∀ r ∈ done, r.length = k) (h2 : cur.length + u = k) : ∀ r ∈ mOf k done cur u R, r.length = k := by
  intro r hr
  unfold mOf at hr
  simp only [List.mem_append, List.mem_cons, List.mem_replicate] at hr
  rcases hr with hr | rfl | ⟨_, rfl⟩
  · exact h1 r hr
  · simp only [List.length_append, List.length_replicate]; omega
  · simp
theorem putRow_nil {K : Row → Row → List Grid} {n : Nat} {pre cur : Row} {need : Int} : putRow K n pre [] need cur = if 0 < need then [] else K pre cur := by rw [putRow]
theorem putRow_cons {K : Row → Row → List Grid} {n : Nat} {pre ls cur : Row} {need l : Int} : putRow K n pre (l :: ls) need cur = (if need ≤ (ls.length : Int) ∧ l ≤ (n : Int) then putRow K n (pre ++ [l]) ls need (cur ++ [0]) else []) ++
    (if 0 < need ∧ 0 < l then putRow K n (pre ++ [l - 1]) ls (need - 1) (cur ++ [1]) else []) := by rw [putRow]

theorem PutSt.ext {c : Cx} {rows : List Int} {w w' : World} {gs : List Grid} {m : Grid} {left : List Int} (h : PutSt c rows w gs m left) (e : Ext w w') : PutSt c rows w' gs m left := by
  have old : ∀ {k : Nat} {o : Obj}, w.heap[k]? = some o → w'.heap[k]? = some o := fun hk => (e.block _ (heap_lt hk)).trans hk
  obtain ⟨z1, z2, z3, z4⟩ := h.sz
  refine ⟨old h.hc, old h.hr, old h.hm, old h.hl, old h.hf, ?_, h.gm.ext e, h.gl.ext e, ?_, h.rowAt (Below.mono e (by omega)), h.lt, ⟨z1, z2, z3, by have := e.size; omega⟩⟩
  · obtain ⟨v, h1, h2⟩ := h.ho
    exact ⟨v, old h1, h2.ext e⟩
  · obtain ⟨cs, hcs⟩ := h.gm.block
    intro p hp
    exact h.ap p (RowVal.back ((old hcs).trans hcs.symm) hp)

section
variable {ops : Array Oper} {o : Oper} {a : Act} {Q : Exit → Act → World → Prop}
theorem app_grid_step {K : Act → World → Prop} {E : Prop} {w0 w : World} {B : Nat} {v u : Value} {gs : List (List (List Int))} {g : List (List Int)} (h : OwnGrids w0 B v gs) (e0 : Ext w0 w) (hB : B ≤ w0.heap.size) (hu : OwnGrid w w0.heap.size u g) (hl : gs.length ≤ 1000000000) {ad : Addr} {c : Nat}
    (hy : w.cell? ad = some u) (hgd : o.guard = none) (s x : Operand) (ho : o.op = .call { callee := .builtin .append, args := #[s, x], argTypes := #[25, 25] })
    (hs : a.eval s = v) (hx : a.eval x = .slice (some ad) 1 c)
    (hK : ∀ b cap w', OwnGrids w' B (.slice (some ⟨b, 0, none⟩) (gs.length + 1) cap) (gs ++ [g]) → NonOut w w' → w.grownBy w' v.ownBlock → K (a.put o.dst (.slice (some ⟨b, 0, none⟩) (gs.length + 1) cap)) w') :
    if Region.wanted o (yielded ops a.tmps) = true then Oper.wp Try.prog o a w K Q else E := by
  have hw : Region.wanted o (yielded ops a.tmps) = true := by simp [Region.wanted, hgd]
  rw [if_pos hw]
  exact app_grid_wp h e0 hB hu hl hy s x ho hs hx fun b cap w' h1 _ h3 h4 => hK b cap w' h1 h3 h4
end

/-- the search from a cell on does what the plain one does -/
def PutOk (c : Cx) (rows rs : List Int) (ls : Row) : Prop :=
  ∀ (done : Grid) (pre cur : Row) (need y x : Int) (gs : List Grid) (w : World), rows.drop (done.length + 1) = rs → done.length + 1 + rs.length = c.n → y = done.length → x = pre.length → cur.length = pre.length → pre.length + ls.length = c.k → 0 ≤ need → need ≤ 5 →
    (∀ l ∈ pre ++ ls, 0 ≤ l ∧ l ≤ 5) → gs.length + 2 ^ (ls.length + rs.length * c.k) ≤ 1000000000 → (∀ r ∈ done, r.length = c.k) → PutSt c rows w gs (mOf c.k done cur ls.length rs.length) (pre ++ ls) →
    Calls Try.prog 71 #[.int .i64 y, .int .i64 x, .int .i64 need, .pointer (some ⟨c.Pc, 0, none⟩), .pointer (some ⟨c.Pr, 0, none⟩), .pointer (some ⟨c.Po, 0, none⟩), .pointer (some ⟨c.Pm, 0, none⟩), .pointer (some ⟨c.Pl, 0, none⟩), .pointer (some ⟨c.Pf, 0, none⟩)] w
      fun e w' => e = .returned (.tuple #[]) ∧ PutSt c rows w' (gs ++ putRow (contK rs done) rs.length pre ls need cur) (mOf c.k done cur ls.length rs.length) (pre ++ ls) ∧ Below c.Bz w w'
end Go.Proofs.Ytlhjbpachpjpkaa

namespace Go.Proofs.Ytlhjbpachpjpkaa
open Go.RowKit Tomo

set_option maxHeartbeats 4000000 in
theorem put_step (c : Cx) (rows rs : List Int) (l : Int) (ls : Row) (hn5 : c.n ≤ 5) (hk5 : c.k ≤ 5) (hIH : PutOk c rows rs ls) : PutOk c rows rs (l :: ls) := by
  intro done pre cur need y x gs w hdrop hyR hy hx hcl hkx n1 n2 hall hbnd hdone S0
  obtain ⟨Y, hDY⟩ : ∃ Y, done.length = Y := ⟨_, rfl⟩
  obtain ⟨X, hPX⟩ : ∃ X, pre.length = X := ⟨_, rfl⟩
  have hCX : cur.length = X := hcl.trans hPX
  obtain ⟨u, hlu⟩ : ∃ u, ls.length = u := ⟨_, rfl⟩
  obtain ⟨R, hrR⟩ : ∃ R, rs.length = R := ⟨_, rfl⟩
  rw [List.length_cons, hlu] at hkx hbnd S0 ⊢
  rw [hrR] at hyR hbnd S0 ⊢
  rw [hPX] at hkx hx
  rw [hDY] at hyR hy
  subst hy hx
  have HGOAL : Hid (∀ w' Z, Z = (if need ≤ (u : Int) ∧ l ≤ (R : Int) then putRow (contK rs done) R (pre ++ [l]) ls need (cur ++ [0]) else []) ++ (if 0 < need ∧ 0 < l then putRow (contK rs done) R (pre ++ [l - 1]) ls (need - 1) (cur ++ [1]) else []) → PutSt c rows w' (gs ++ Z) (mOf c.k done cur (u + 1) R) (pre ++ l :: ls) → Below c.Bz w w' → PutSt c rows w' (gs ++ putRow (contK rs done) R pre (l :: ls) need cur) (mOf c.k done cur (u + 1) R) (pre ++ l :: ls) ∧ Below c.Bz w w') := Lib.hid (fun w' Z hZ h1 h2 => ⟨by rw [putRow_cons, hlu, ← hZ]; exact h1, h2⟩)
  have HBND := Lib.hid hbnd
  have HGL2 : Hid (∀ z, (pre ++ z :: ls)[X]? = some z) := Lib.hid fun z => left_at hPX
  have HSETL : Hid (∀ a z, (pre ++ a :: ls).set X z = pre ++ z :: ls) := Lib.hid fun a z => left_set hPX
  have HROW : Hid ((mOf c.k done cur (u + 1) R)[Y]? = some (cur ++ List.replicate (u + 1) 0)) := Lib.hid (mOf_at hDY)
  have HXR : Hid (X < (cur ++ List.replicate (u + 1) (0 : Int)).length) := Lib.hid (by rw [List.length_append, List.length_replicate, hCX]; omega)
  have HRL : Hid ((cur ++ List.replicate (u + 1) (0 : Int)).length = c.k) := Lib.hid (by rw [List.length_append, List.length_replicate, hCX]; exact hkx)
  have HSETM : Hid (∀ z, (mOf c.k done cur (u + 1) R).set Y ((cur ++ List.replicate (u + 1) 0).set X z) = mOf c.k done (cur ++ [z]) u R) := Lib.hid fun z => mOf_set hDY hCX z
  have HROW2 : Hid (∀ z, (mOf c.k done (cur ++ [z]) u R)[Y]? = some (cur ++ [z] ++ List.replicate u 0)) := Lib.hid fun z => mOf_at hDY
  have HXR2 : Hid (∀ z, X < (cur ++ [z] ++ List.replicate u (0 : Int)).length) := Lib.hid fun z => by rw [List.length_append, List.length_append, List.length_replicate, List.length_singleton, hCX]; omega
  have HRL2 : Hid (∀ z, (cur ++ [z] ++ List.replicate u (0 : Int)).length = c.k) := Lib.hid fun z => by rw [List.length_append, List.length_append, List.length_replicate, List.length_singleton, hCX]; omega
  have HRESET : Hid (∀ z, (mOf c.k done (cur ++ [z]) u R).set Y ((cur ++ [z] ++ List.replicate u 0).set X 0) = mOf c.k done cur (u + 1) R) := Lib.hid fun z => mOf_reset hDY hCX z
  have HZERO : Hid (mOf c.k done (cur ++ [0]) u R = mOf c.k done cur (u + 1) R) := Lib.hid (mOf_zero _ _ _ _ _)
  have HLA : Hid ((putRow (contK rs done) R (pre ++ [l]) ls need (cur ++ [0])).length ≤ 2 ^ (u + R * c.k)) := Lib.hid (by
    have h := putRow_contK_len rs done ls (pre ++ [l]) need (cur ++ [0]) c.k R (by rw [List.length_append, List.length_singleton, hPX]; omega)
    rw [hlu, hrR] at h; exact h)
  have HPOS : Hid (2 ^ (u + 1 + R * c.k) = 2 * 2 ^ (u + R * c.k)) := Lib.hid (by rw [show u + 1 + R * c.k = (u + R * c.k) + 1 by omega, Nat.pow_succ, Nat.mul_comm])
  have HIH : Hid (∀ (z b need y x : Int) (gs : List Grid) (W : World), y = ((Y : Nat) : Int) → x = ((X : Nat) : Int) + 1 → 0 ≤ need → need ≤ 5 → 0 ≤ z → z ≤ 5 → gs.length + 2 ^ (u + R * c.k) ≤ 1000000000 → PutSt c rows W gs (mOf c.k done (cur ++ [b]) u R) (pre ++ z :: ls) →
      Calls Try.prog 71 #[.int .i64 y, .int .i64 x, .int .i64 need, .pointer (some ⟨c.Pc, 0, none⟩), .pointer (some ⟨c.Pr, 0, none⟩), .pointer (some ⟨c.Po, 0, none⟩), .pointer (some ⟨c.Pm, 0, none⟩), .pointer (some ⟨c.Pl, 0, none⟩), .pointer (some ⟨c.Pf, 0, none⟩)] W
        fun e w' => e = .returned (.tuple #[]) ∧ PutSt c rows w' (gs ++ putRow (contK rs done) R (pre ++ [z]) ls need (cur ++ [b])) (mOf c.k done (cur ++ [b]) u R) (pre ++ z :: ls) ∧ Below c.Bz W w') := Lib.hid (by
    intro z b need y x gs W hy hx n1 n2 z1 z2 hb hS
    have e : pre ++ z :: ls = pre ++ [z] ++ ls := by simp
    rw [e] at hS
    have h := hIH done (pre ++ [z]) (cur ++ [b]) need y x gs W hdrop (by rw [hDY, hrR]; exact hyR) (by rw [hDY]; exact hy) (by rw [List.length_append, List.length_singleton, hPX]; rw [hx]; rfl) (by rw [List.length_append, List.length_append, hCX, hPX]; rfl) (by rw [List.length_append, List.length_singleton, hPX]; omega) n1 n2
      (fun v hv => by
        simp only [List.mem_append, List.mem_cons, List.not_mem_nil, or_false] at hv
        rcases hv with (hv | rfl) | hv
        · exact hall v (by simp [hv])
        · exact ⟨z1, z2⟩
        · exact hall v (by simp [hv])) (by rw [hlu, hrR]; exact hb) hdone (by rw [hlu, hrR]; exact hS)
    rw [hlu, hrR] at h
    rw [e]
    exact h)
  obtain ⟨l1, l2⟩ := hall l (by simp)
  have hX1 : X + u + 1 ≤ c.k := by omega
  have hX2 : c.k ≤ X + u + 1 := by omega
  have hY1 : Y + R + 1 ≤ c.n := by omega
  have hY2 : c.n ≤ Y + R + 1 := by omega
  have HBZ : Hid (c.Bz ≤ w.heap.size) := Lib.hid (by have := S0.sz; omega)
  have HS := Lib.hid S0
  have cc := cell_of_one S0.hc
  have cr := cell_of_one S0.hr
  have cl := cell_of_one S0.hl
  have cf : w.cell? ⟨c.Pf, 0, none⟩ = some (.func (.func 71) #[] #[.pointer (some ⟨c.Pc, 0, none⟩), .pointer (some ⟨c.Pr, 0, none⟩), .pointer (some ⟨c.Po, 0, none⟩), .pointer (some ⟨c.Pm, 0, none⟩), .pointer (some ⟨c.Pl, 0, none⟩), .pointer (some ⟨c.Pf, 0, none⟩)]) := cell_of_one S0.hf
  have cL := (S0.setL (HGL2.out l)).1
  clear S0 hIH hall hdone hdrop hbnd hcl hCX hPX hDY hlu hrR hkx hyR
  have b1 : ((X : Int) == (c.k : Int)) = false := by simp; omega
  by_cases h1 : need ≤ (c.k : Int) - X - 1
  case neg =>
    go_enter Try.func71, Try.ntmps71
    go_wp2_with fail
    have d1 : decide (need ≤ (c.k : Int) - X - 1) = false := by simp; omega
    go_quiet (fail)
    generalize hw1 : World.drewN w _ = w1
    have HS1 : Hid (PutSt c rows w1 (gs ++ []) (mOf c.k done cur (u + 1) R) (pre ++ l :: ls)) := Lib.hid (by rw [List.append_nil, ← hw1]; exact HS.out.ext ((Ext.refl w).drewN _))
    have HB1 : Hid (Below c.Bz w w1) := Lib.hid (by rw [← hw1]; exact Below.mono ((Ext.refl w).drewN _) HBZ.out)
    have HBND2 : Hid ((gs ++ []).length + 2 ^ (u + R * c.k) ≤ 1000000000) := Lib.hid (by have h1 := HBND.out; rw [HPOS.out] at h1; rw [List.append_nil]; omega)
    clear cc cr cl cL cf hw1
    have dc := cell_of_one HS1.out.hc
    have dl := cell_of_one HS1.out.hl
    have dL := (HS1.out.setL (HGL2.out l)).1
    by_cases h3 : 0 < need
    case neg =>
      go_wp2_with fail
      all_goals
        go_end0
        exact ⟨rfl, HGOAL.out _ ([] ++ []) (by rw [if_neg (fun h => by omega), if_neg (fun h => by omega)]) (by rw [List.append_nil]; exact HS1.out) HB1.out⟩
    by_cases h4 : 0 < l
    case neg =>
      go_wp2_with fail
      all_goals
        go_end0
        exact ⟨rfl, HGOAL.out _ ([] ++ []) (by rw [if_neg (fun h => by omega), if_neg (fun h => by omega)]) (by rw [List.append_nil]; exact HS1.out) HB1.out⟩
    obtain ⟨R1, cR, v1, q1, q2, q3, q4, qset⟩ := HS1.out.setM (y := Y) (x := X) HROW.out HXR.out
    obtain ⟨S2, B2⟩ := qset 1
    have em := cell_of_one HS1.out.hm
    have el := cell_of_one S2.hl
    obtain ⟨eL, fL, setL⟩ := S2.setL (HGL2.out l)
    obtain ⟨S3, B3⟩ := setL (l - 1)
    have ef : ((w1.setCell ⟨R1, X, none⟩ (.int .i64 1)).setCell ⟨c.L, X, none⟩ (.int .i64 (l - 1))).cell? ⟨c.Pf, 0, none⟩ = some (.func (.func 71) #[] #[.pointer (some ⟨c.Pc, 0, none⟩), .pointer (some ⟨c.Pr, 0, none⟩), .pointer (some ⟨c.Po, 0, none⟩), .pointer (some ⟨c.Pm, 0, none⟩), .pointer (some ⟨c.Pl, 0, none⟩), .pointer (some ⟨c.Pf, 0, none⟩)]) := cell_of_one S3.hf
    rw [HSETM.out 1, HSETL.out l (l - 1)] at S3
    have HS3 := Lib.hid S3
    have HB3 := Lib.hid (Below.trans HB1.out (Below.trans B2 B3))
    rw [HRL.out] at q1 q2
    clear S2 S3 B2 B3 qset setL
    go_wp2_with fail
    refine (HIH.out (l - 1) 1 (need - 1) _ _ _ _ (by simp) (by simp) (by omega) (by omega) (by omega) (by omega) HBND2.out HS3.out).mono ?_
    rintro e w3 ⟨rfl, S4, B4⟩
    have fl := cell_of_one S4.hl
    obtain ⟨gL, gF, setL4⟩ := S4.setL (HGL2.out (l - 1))
    obtain ⟨S5, B5⟩ := setL4 l
    rw [HSETL.out (l - 1) l] at S5
    obtain ⟨R5, cR5, v5, p1, p2, p3, p4, pset⟩ := S5.setM (y := Y) (x := X) (HROW2.out 1) (HXR2.out 1)
    have gm := cell_of_one S5.hm
    obtain ⟨S6, B6⟩ := pset 0
    rw [HRESET.out 1] at S6
    have HS6 := Lib.hid S6
    have HB6 := Lib.hid (Below.trans HB3.out (Below.trans B4 (Below.trans B5 B6)))
    rw [HRL2.out 1] at p1 p2
    clear S4 S5 S6 B4 B5 B6 setL4 pset
    go_wp2
    go_end0
    exact ⟨rfl, HGOAL.out _ ([] ++ putRow (contK rs done) R (pre ++ [l - 1]) ls (need - 1) (cur ++ [1])) (by rw [if_neg (fun h => by omega), if_pos ⟨h3, h4⟩]) (by rw [← List.append_assoc]; exact HS6.out) HB6.out⟩
  by_cases h2 : l ≤ (c.n : Int) - Y - 1
  case neg =>
    go_enter Try.func71, Try.ntmps71
    go_wp2_with fail
    go_quiet (fail)
    generalize hw1 : World.drewN w _ = w1
    have HS1 : Hid (PutSt c rows w1 (gs ++ []) (mOf c.k done cur (u + 1) R) (pre ++ l :: ls)) := Lib.hid (by rw [List.append_nil, ← hw1]; exact HS.out.ext ((Ext.refl w).drewN _))
    have HB1 : Hid (Below c.Bz w w1) := Lib.hid (by rw [← hw1]; exact Below.mono ((Ext.refl w).drewN _) HBZ.out)
    have HBND2 : Hid ((gs ++ []).length + 2 ^ (u + R * c.k) ≤ 1000000000) := Lib.hid (by have h1 := HBND.out; rw [HPOS.out] at h1; rw [List.append_nil]; omega)
    clear cc cr cl cL cf hw1
    have dc := cell_of_one HS1.out.hc
    have dl := cell_of_one HS1.out.hl
    have dL := (HS1.out.setL (HGL2.out l)).1
    by_cases h3 : 0 < need
    case neg =>
      go_wp2_with fail
      all_goals
        go_end0
        exact ⟨rfl, HGOAL.out _ ([] ++ []) (by rw [if_neg (fun h => by omega), if_neg (fun h => by omega)]) (by rw [List.append_nil]; exact HS1.out) HB1.out⟩
    by_cases h4 : 0 < l
    case neg =>
      go_wp2_with fail
      all_goals
        go_end0
        exact ⟨rfl, HGOAL.out _ ([] ++ []) (by rw [if_neg (fun h => by omega), if_neg (fun h => by omega)]) (by rw [List.append_nil]; exact HS1.out) HB1.out⟩
    obtain ⟨R1, cR, v1, q1, q2, q3, q4, qset⟩ := HS1.out.setM (y := Y) (x := X) HROW.out HXR.out
    obtain ⟨S2, B2⟩ := qset 1
    have em := cell_of_one HS1.out.hm
    have el := cell_of_one S2.hl
    obtain ⟨eL, fL, setL⟩ := S2.setL (HGL2.out l)
    obtain ⟨S3, B3⟩ := setL (l - 1)
    have ef : ((w1.setCell ⟨R1, X, none⟩ (.int .i64 1)).setCell ⟨c.L, X, none⟩ (.int .i64 (l - 1))).cell? ⟨c.Pf, 0, none⟩ = some (.func (.func 71) #[] #[.pointer (some ⟨c.Pc, 0, none⟩), .pointer (some ⟨c.Pr, 0, none⟩), .pointer (some ⟨c.Po, 0, none⟩), .pointer (some ⟨c.Pm, 0, none⟩), .pointer (some ⟨c.Pl, 0, none⟩), .pointer (some ⟨c.Pf, 0, none⟩)]) := cell_of_one S3.hf
    rw [HSETM.out 1, HSETL.out l (l - 1)] at S3
    have HS3 := Lib.hid S3
    have HB3 := Lib.hid (Below.trans HB1.out (Below.trans B2 B3))
    rw [HRL.out] at q1 q2
    clear S2 S3 B2 B3 qset setL
    go_wp2_with fail
    refine (HIH.out (l - 1) 1 (need - 1) _ _ _ _ (by simp) (by simp) (by omega) (by omega) (by omega) (by omega) HBND2.out HS3.out).mono ?_
    rintro e w3 ⟨rfl, S4, B4⟩
    have fl := cell_of_one S4.hl
    obtain ⟨gL, gF, setL4⟩ := S4.setL (HGL2.out (l - 1))
    obtain ⟨S5, B5⟩ := setL4 l
    rw [HSETL.out (l - 1) l] at S5
    obtain ⟨R5, cR5, v5, p1, p2, p3, p4, pset⟩ := S5.setM (y := Y) (x := X) (HROW2.out 1) (HXR2.out 1)
    have gm := cell_of_one S5.hm
    obtain ⟨S6, B6⟩ := pset 0
    rw [HRESET.out 1] at S6
    have HS6 := Lib.hid S6
    have HB6 := Lib.hid (Below.trans HB3.out (Below.trans B4 (Below.trans B5 B6)))
    rw [HRL2.out 1] at p1 p2
    clear S4 S5 S6 B4 B5 B6 setL4 pset
    go_wp2
    go_end0
    exact ⟨rfl, HGOAL.out _ ([] ++ putRow (contK rs done) R (pre ++ [l - 1]) ls (need - 1) (cur ++ [1])) (by rw [if_neg (fun h => by omega), if_pos ⟨h3, h4⟩]) (by rw [← List.append_assoc]; exact HS6.out) HB6.out⟩
  go_enter Try.func71, Try.ntmps71
  go_wp2_with fail
  go_quiet (fail)
  go_wp2_with fail
  refine (HIH.out l 0 need _ _ gs _ (by simp) (by simp) (by omega) (by omega) (by omega) (by omega) (by have h1 := HBND.out; rw [HPOS.out] at h1; omega) (by rw [HZERO.out]; exact HS.out.ext ((Ext.refl w).drewN _))).mono ?_
  rintro e w1 ⟨rfl, S1, B1⟩
  rw [HZERO.out] at S1
  have HS1 := Lib.hid S1
  have HB1 : Hid (Below c.Bz w w1) := Lib.hid (Below.trans (Below.mono ((Ext.refl w).drewN _) HBZ.out) B1)
  have HBND2 : Hid ((gs ++ putRow (contK rs done) R (pre ++ [l]) ls need (cur ++ [0])).length + 2 ^ (u + R * c.k) ≤ 1000000000) := Lib.hid (by have h1 := HBND.out; have h2 := HLA.out; rw [HPOS.out] at h1; rw [List.length_append]; omega)
  clear cc cr cl cL cf S1 B1
  have dc := cell_of_one HS1.out.hc
  have dl := cell_of_one HS1.out.hl
  have dL := (HS1.out.setL (HGL2.out l)).1
  by_cases h3 : 0 < need
  case neg =>
    go_wp2_with fail
    all_goals
      go_end0
      exact ⟨rfl, HGOAL.out _ (putRow (contK rs done) R (pre ++ [l]) ls need (cur ++ [0]) ++ []) (by rw [if_pos (show need ≤ (u : Int) ∧ l ≤ (R : Int) by omega), if_neg (fun h => by omega)]) (by rw [List.append_nil]; exact HS1.out) HB1.out⟩
  by_cases h4 : 0 < l
  case neg =>
    go_wp2_with fail
    all_goals
      go_end0
      exact ⟨rfl, HGOAL.out _ (putRow (contK rs done) R (pre ++ [l]) ls need (cur ++ [0]) ++ []) (by rw [if_pos (show need ≤ (u : Int) ∧ l ≤ (R : Int) by omega), if_neg (fun h => by omega)]) (by rw [List.append_nil]; exact HS1.out) HB1.out⟩
  obtain ⟨R1, cR, v1, q1, q2, q3, q4, qset⟩ := HS1.out.setM (y := Y) (x := X) HROW.out HXR.out
  obtain ⟨S2, B2⟩ := qset 1
  have em := cell_of_one HS1.out.hm
  have el := cell_of_one S2.hl
  obtain ⟨eL, fL, setL⟩ := S2.setL (HGL2.out l)
  obtain ⟨S3, B3⟩ := setL (l - 1)
  have ef : ((w1.setCell ⟨R1, X, none⟩ (.int .i64 1)).setCell ⟨c.L, X, none⟩ (.int .i64 (l - 1))).cell? ⟨c.Pf, 0, none⟩ = some (.func (.func 71) #[] #[.pointer (some ⟨c.Pc, 0, none⟩), .pointer (some ⟨c.Pr, 0, none⟩), .pointer (some ⟨c.Po, 0, none⟩), .pointer (some ⟨c.Pm, 0, none⟩), .pointer (some ⟨c.Pl, 0, none⟩), .pointer (some ⟨c.Pf, 0, none⟩)]) := cell_of_one S3.hf
  rw [HSETM.out 1, HSETL.out l (l - 1)] at S3
  have HS3 := Lib.hid S3
  have HB3 := Lib.hid (Below.trans HB1.out (Below.trans B2 B3))
  rw [HRL.out] at q1 q2
  clear S2 S3 B2 B3 qset setL
  go_wp2_with fail
  refine (HIH.out (l - 1) 1 (need - 1) _ _ _ _ (by simp) (by simp) (by omega) (by omega) (by omega) (by omega) HBND2.out HS3.out).mono ?_
  rintro e w3 ⟨rfl, S4, B4⟩
  have fl := cell_of_one S4.hl
  obtain ⟨gL, gF, setL4⟩ := S4.setL (HGL2.out (l - 1))
  obtain ⟨S5, B5⟩ := setL4 l
  rw [HSETL.out (l - 1) l] at S5
  obtain ⟨R5, cR5, v5, p1, p2, p3, p4, pset⟩ := S5.setM (y := Y) (x := X) (HROW2.out 1) (HXR2.out 1)
  have gm := cell_of_one S5.hm
  obtain ⟨S6, B6⟩ := pset 0
  rw [HRESET.out 1] at S6
  have HS6 := Lib.hid S6
  have HB6 := Lib.hid (Below.trans HB3.out (Below.trans B4 (Below.trans B5 B6)))
  rw [HRL2.out 1] at p1 p2
  clear S4 S5 S6 B4 B5 B6 setL4 pset
  go_wp2
  go_end0
  exact ⟨rfl, HGOAL.out _ (putRow (contK rs done) R (pre ++ [l]) ls need (cur ++ [0]) ++ putRow (contK rs done) R (pre ++ [l - 1]) ls (need - 1) (cur ++ [1])) (by rw [if_pos (show need ≤ (u : Int) ∧ l ≤ (R : Int) by omega), if_pos ⟨h3, h4⟩]) (by rw [← List.append_assoc]; exact HS6.out) HB6.out⟩
end Go.Proofs.Ytlhjbpachpjpkaa

namespace Go.Proofs.Ytlhjbpachpjpkaa
open Go.RowKit Tomo

theorem PutSt.po5 {c : Cx} {rows : List Int} {w w4 w5 : World} {gs : List Grid} {m : Grid} {left : List Int} {v : Value} (h : PutSt c rows w gs m left) (hv : w.heap[c.Po]? = some (.cells #[v] 25 (0, 0))) (hg : OwnGrids w c.Bo v gs) (e4 : Ext w w4) (g5 : w4.grownBy w5 v.ownBlock) :
    w5.cell? ⟨c.Po, 0, none⟩ = some v ∧ w5.frozen? ⟨c.Po, 0, none⟩ = false := by
  have l5 := h.lt.2.2.2.2.1
  have z4 := h.sz.2.2.2
  have hk : w5.heap[c.Po]? = some (.cells #[v] 25 (0, 0)) := by
    refine ((g5.block c.Po (by have := e4.size; omega) (fun e => ?_)).trans (e4.block c.Po (by omega))).trans hv
    obtain ⟨us, h1, h2, _⟩ := hg
    have := (World.ownsRow.lt h2 c.Po e.symm).1
    omega
  exact ⟨cell_of_one hk, by simp [World.frozen?, hk]⟩

set_option maxHeartbeats 4000000 in
theorem put_end0 (c : Cx) (rows : List Int) (hn5 : c.n ≤ 5) (hk1 : 1 ≤ c.k) (hk5 : c.k ≤ 5) : PutOk c rows [] [] := by
  intro done0 pre0 cur0 need0 y x gs w hdrop0 hyR0 hy hx hcl hkx0 n01 n02 hall0 hbnd0 hdone0 S0
  obtain ⟨Y0, hDY0⟩ : ∃ Y, done0.length = Y := ⟨_, rfl⟩
  simp only [List.length_nil, Nat.add_zero, Nat.zero_add] at hkx0 hbnd0 S0 ⊢
  rw [hDY0] at hdrop0 hyR0 hy
  rw [hkx0] at hx
  subst hy hx
  have cc0 := cell_of_one S0.hc
  by_cases hn0 : 0 < need0
  case pos =>
    have HS0 := Lib.hid S0
    clear S0
    go_enter Try.func71, Try.ntmps71
    go_wp2_with fail
    refine bodyPost_ret (v := .tuple #[]) (by simp [results, Try.results71, go_sem]) rfl ?_
    refine ⟨rfl, ?_, Below.refl _ _⟩
    rw [putRow_nil, if_pos hn0, List.append_nil]
    exact HS0.out
  obtain rfl : need0 = 0 := by omega
  clear hn0
  rw [List.append_nil] at S0 ⊢
  rw [mOf_last] at S0 ⊢
  have HRES : Hid (putRow (contK [] done0) 0 pre0 [] 0 cur0 = [done0 ++ [cur0]]) := Lib.hid rfl
  have hlen : (done0 ++ [cur0]).length = c.n := by rw [List.length_append, List.length_singleton, hDY0]; simpa using hyR0
  have hrl : ∀ r ∈ done0 ++ [cur0], r.length = c.k := fun r hr => by
    rcases List.mem_append.1 hr with h | h
    · exact hdone0 r h
    · have e : r = cur0 := by simpa using h
      rw [e, hcl]; exact hkx0
  obtain ⟨v, hv, hg⟩ := S0.ho
  have hPo := S0.lt.2.2.2.2.1
  have hsz := S0.sz
  have HCP : Hid (∀ W, Ext w W → Calls Try.prog 40 #[.slice (some ⟨c.mb, 0, none⟩) c.n c.mc] W fun e w' => ∃ b cap, e = .returned (.slice (some ⟨b, 0, none⟩) c.n cap) ∧ OwnGrid w' w.heap.size (.slice (some ⟨b, 0, none⟩) c.n cap) (done0 ++ [cur0]) ∧ Ext w w' ∧ w'.cell? ⟨c.Po, 0, none⟩ = some v ∧ (c.Po < w'.heap.size ∧ c.Po ≠ w'.heap.size)) := Lib.hid (fun W hW => by
    have h := copyGrid_any (some ⟨c.mb, 0, none⟩) c.mc (done0 ++ [cur0]) W (by rw [hlen]; omega) (by rw [hlen]; simp only [List.length_nil] at hyR0; omega) (fun r hr => by have := hrl r hr; omega) (S0.gm.ext hW).gridAt
    rw [hlen] at h
    refine h.mono fun e w' ⟨b, cap, h1, h2, h3⟩ => ⟨b, cap, h1, h2.base hW.size, hW.trans h3, ?_, by have h4 := (hW.trans h3).size; omega⟩
    exact ((hW.trans h3).cell (p := ⟨c.Po, 0, none⟩) (by show c.Po < _; omega)).trans (cell_of_one hv))
  have HAP : Hid (∀ (w4 w5 : World) (v5 : Value) (gs' : List Grid), Ext w w4 → OwnGrids w5 c.Bo v5 gs' → NonOut w4 w5 → w4.grownBy w5 v.ownBlock → (w5.cell? ⟨c.Po, 0, none⟩ = some v ∧ w5.frozen? ⟨c.Po, 0, none⟩ = false) ∧ Hid (PutSt c rows (w5.setCell ⟨c.Po, 0, none⟩ v5) gs' (done0 ++ [cur0]) pre0 ∧ Below c.Bz w (w5.setCell ⟨c.Po, 0, none⟩ v5))) :=
    Lib.hid (fun w4 w5 v5 gs' e4 o5 n5 g5 => ⟨S0.po5 hv hg e4 g5, Lib.hid (S0.app hv hg e4 o5 n5 g5)⟩)
  have cr0 := cell_of_one S0.hr
  have cm0 := cell_of_one S0.hm
  have co0 := cell_of_one hv
  have HOG := Lib.hid hg
  have hBo := hsz.2.2.2
  have hgl : gs.length ≤ 1000000000 := Nat.le_trans (Nat.le_add_right _ _) hbnd0
  have b2 : (((Y0 : Int) + 1) == (c.n : Int)) = true := by simp only [List.length_nil] at hyR0; simp; omega
  have hY : Y0 + 1 ≤ c.n := by simp only [List.length_nil] at hyR0; omega
  clear S0 hv hg hsz hPo hall0 hdone0 hdrop0 hbnd0 hyR0 hcl hkx0 hDY0 hlen hrl
  go_enter Try.func71, Try.ntmps71
  go_wp2_with fail
  refine wp_region_any (by kernel_rfl) ?_
  change wpAny _ _ _ _ _ _ _ (World.drew _)
  refine wpAny_ready (rs := [0, 1]) (by kernel_rfl) (by simp) ?_
  refine AllReady.cons rfl (fun K hK => ?_) ?_
  · go_simp
    refine hK _ _ ?_
    clear hK K
    refine wpAny_ready (rs := [1]) (by kernel_rfl) (by simp) ?_
    refine AllReady.cons rfl (fun K hK => ?_) ?_
    · go_simp
      refine hK _ _ ?_
      clear hK K
      refine wpAny_ready (rs := [2]) (by kernel_rfl) (by simp) ?_
      refine AllReady.cons rfl (fun K hK => ?_) ?_
      · go_simp
        go_wp2_with (go_at_call 40; refine (HCP.out _ (Ext.refl w).drew).mono ?_; rintro e w4 ⟨b4, c4, rfl, ho4, he4, hc4, hp4, hp5⟩)
        refine wpAny_ready (rs := [3]) (by kernel_rfl) (by simp) ?_
        refine AllReady.cons rfl (fun K hK => ?_) ?_
        · go_simp
          refine hK _ _ ?_
          clear hK K
          refine wpAny_ready (rs := [4]) (by kernel_rfl) (by simp) ?_
          refine AllReady.cons rfl (fun K hK => ?_) ?_
          · refine app_grid_step HOG.out (he4.alloc _) hBo (ho4.ext ((Ext.refl w4).alloc _)) hgl (new_cell rfl) (by rfl) _ _ (by rfl) (by rfl) (by rfl) ?_
            intro b5 c5 w5 ho5 hn5 hg5
            obtain ⟨⟨hc5, hf5⟩, HF5⟩ := HAP.out _ _ _ _ (he4.alloc _) ho5 hn5 hg5
            clear ho5 hn5 hg5 ho4 he4
            refine hK _ _ ?_
            clear hK K
            refine wpAny_ready (rs := [5]) (by kernel_rfl) (by simp) ?_
            refine AllReady.cons rfl (fun K hK => ?_) ?_
            · go_simp
              refine hK _ _ ?_
              clear hK K
              refine wpAny_done (by kernel_rfl) ?_ _
              go_wp2_with fail
              refine bodyPost_ret (v := .tuple #[]) (by simp [results, Try.results71, go_sem]) rfl ?_
              exact ⟨rfl, by rw [HRES.out]; exact HF5.out.1, HF5.out.2⟩
            exact AllReady.nil
          exact AllReady.nil
        exact AllReady.nil
      exact AllReady.nil
    exact AllReady.nil
  refine AllReady.cons rfl (fun K hK => ?_) ?_
  · go_simp
    refine hK _ _ ?_
    clear hK K
    refine wpAny_ready (rs := [0, 2]) (by kernel_rfl) (by simp) ?_
    refine AllReady.cons rfl (fun K hK => ?_) ?_
    · go_simp
      refine hK _ _ ?_
      clear hK K
      refine wpAny_ready (rs := [2]) (by kernel_rfl) (by simp) ?_
      refine AllReady.cons rfl (fun K hK => ?_) ?_
      · go_simp
        go_wp2_with (go_at_call 40; refine (HCP.out _ (Ext.refl w).drew).mono ?_; rintro e w4 ⟨b4, c4, rfl, ho4, he4, hc4, hp4, hp5⟩)
        refine wpAny_ready (rs := [3]) (by kernel_rfl) (by simp) ?_
        refine AllReady.cons rfl (fun K hK => ?_) ?_
        · go_simp
          refine hK _ _ ?_
          clear hK K
          refine wpAny_ready (rs := [4]) (by kernel_rfl) (by simp) ?_
          refine AllReady.cons rfl (fun K hK => ?_) ?_
          · refine app_grid_step HOG.out (he4.alloc _) hBo (ho4.ext ((Ext.refl w4).alloc _)) hgl (new_cell rfl) (by rfl) _ _ (by rfl) (by rfl) (by rfl) ?_
            intro b5 c5 w5 ho5 hn5 hg5
            obtain ⟨⟨hc5, hf5⟩, HF5⟩ := HAP.out _ _ _ _ (he4.alloc _) ho5 hn5 hg5
            clear ho5 hn5 hg5 ho4 he4
            refine hK _ _ ?_
            clear hK K
            refine wpAny_ready (rs := [5]) (by kernel_rfl) (by simp) ?_
            refine AllReady.cons rfl (fun K hK => ?_) ?_
            · go_simp
              refine hK _ _ ?_
              clear hK K
              refine wpAny_done (by kernel_rfl) ?_ _
              go_wp2_with fail
              refine bodyPost_ret (v := .tuple #[]) (by simp [results, Try.results71, go_sem]) rfl ?_
              exact ⟨rfl, by rw [HRES.out]; exact HF5.out.1, HF5.out.2⟩
            exact AllReady.nil
          exact AllReady.nil
        exact AllReady.nil
      exact AllReady.nil
    refine AllReady.cons rfl (fun K hK => ?_) ?_
    · go_simp
      go_wp2_with (go_at_call 40; refine (HCP.out _ (Ext.refl w).drew).mono ?_; rintro e w4 ⟨b4, c4, rfl, ho4, he4, hc4, hp4, hp5⟩)
      refine wpAny_ready (rs := [0, 3]) (by kernel_rfl) (by simp) ?_
      refine AllReady.cons rfl (fun K hK => ?_) ?_
      · go_simp
        refine hK _ _ ?_
        clear hK K
        refine wpAny_ready (rs := [3]) (by kernel_rfl) (by simp) ?_
        refine AllReady.cons rfl (fun K hK => ?_) ?_
        · go_simp
          refine hK _ _ ?_
          clear hK K
          refine wpAny_ready (rs := [4]) (by kernel_rfl) (by simp) ?_
          refine AllReady.cons rfl (fun K hK => ?_) ?_
          · refine app_grid_step HOG.out (he4.alloc _) hBo (ho4.ext ((Ext.refl w4).alloc _)) hgl (new_cell rfl) (by rfl) _ _ (by rfl) (by rfl) (by rfl) ?_
            intro b5 c5 w5 ho5 hn5 hg5
            obtain ⟨⟨hc5, hf5⟩, HF5⟩ := HAP.out _ _ _ _ (he4.alloc _) ho5 hn5 hg5
            clear ho5 hn5 hg5 ho4 he4
            refine hK _ _ ?_
            clear hK K
            refine wpAny_ready (rs := [5]) (by kernel_rfl) (by simp) ?_
            refine AllReady.cons rfl (fun K hK => ?_) ?_
            · go_simp
              refine hK _ _ ?_
              clear hK K
              refine wpAny_done (by kernel_rfl) ?_ _
              go_wp2_with fail
              refine bodyPost_ret (v := .tuple #[]) (by simp [results, Try.results71, go_sem]) rfl ?_
              exact ⟨rfl, by rw [HRES.out]; exact HF5.out.1, HF5.out.2⟩
            exact AllReady.nil
          exact AllReady.nil
        exact AllReady.nil
      refine AllReady.cons rfl (fun K hK => ?_) ?_
      · go_simp
        refine hK _ _ ?_
        clear hK K
        refine wpAny_ready (rs := [0]) (by kernel_rfl) (by simp) ?_
        refine AllReady.cons rfl (fun K hK => ?_) ?_
        · go_simp
          refine hK _ _ ?_
          clear hK K
          refine wpAny_ready (rs := [4]) (by kernel_rfl) (by simp) ?_
          refine AllReady.cons rfl (fun K hK => ?_) ?_
          · refine app_grid_step HOG.out (he4.alloc _) hBo (ho4.ext ((Ext.refl w4).alloc _)) hgl (new_cell rfl) (by rfl) _ _ (by rfl) (by rfl) (by rfl) ?_
            intro b5 c5 w5 ho5 hn5 hg5
            obtain ⟨⟨hc5, hf5⟩, HF5⟩ := HAP.out _ _ _ _ (he4.alloc _) ho5 hn5 hg5
            clear ho5 hn5 hg5 ho4 he4
            refine hK _ _ ?_
            clear hK K
            refine wpAny_ready (rs := [5]) (by kernel_rfl) (by simp) ?_
            refine AllReady.cons rfl (fun K hK => ?_) ?_
            · go_simp
              refine hK _ _ ?_
              clear hK K
              refine wpAny_done (by kernel_rfl) ?_ _
              go_wp2_with fail
              refine bodyPost_ret (v := .tuple #[]) (by simp [results, Try.results71, go_sem]) rfl ?_
              exact ⟨rfl, by rw [HRES.out]; exact HF5.out.1, HF5.out.2⟩
            exact AllReady.nil
          exact AllReady.nil
        exact AllReady.nil
      exact AllReady.nil
    exact AllReady.nil
  exact AllReady.nil

set_option maxHeartbeats 4000000 in
theorem put_endS (c : Cx) (rows rs : List Int) (r : Int) (hn5 : c.n ≤ 5) (hk1 : 1 ≤ c.k) (hk5 : c.k ≤ 5) (hra : ∀ r ∈ rows, 0 ≤ r ∧ r ≤ 5) (hIHs : ∀ ls, PutOk c rows rs ls) : PutOk c rows (r :: rs) [] := by
  intro done0 pre0 cur0 need0 y x gs w hdrop0 hyR0 hy hx hcl hkx0 n01 n02 hall0 hbnd0 hdone0 S0
  obtain ⟨Y0, hDY0⟩ : ∃ Y, done0.length = Y := ⟨_, rfl⟩
  simp only [List.length_nil, Nat.add_zero, Nat.zero_add] at hkx0 hbnd0 S0 ⊢
  rw [hDY0] at hdrop0 hyR0 hy
  rw [hkx0] at hx
  subst hy hx
  have cc0 := cell_of_one S0.hc
  by_cases hn0 : 0 < need0
  case pos =>
    have HS0 := Lib.hid S0
    clear S0
    go_enter Try.func71, Try.ntmps71
    go_wp2_with fail
    refine bodyPost_ret (v := .tuple #[]) (by simp [results, Try.results71, go_sem]) rfl ?_
    refine ⟨rfl, ?_, Below.refl _ _⟩
    rw [putRow_nil, if_pos hn0, List.append_nil]
    exact HS0.out
  obtain rfl : need0 = 0 := by omega
  clear hn0
  rw [List.append_nil] at S0 ⊢
  cases pre0 with
  | nil => simp at hkx0; omega
  | cons l ls =>
  obtain ⟨u, hlu⟩ : ∃ u, ls.length = u := ⟨_, rfl⟩
  obtain ⟨R, hrR⟩ : ∃ R, rs.length = R := ⟨_, rfl⟩
  rw [List.length_cons, hrR] at hyR0 hbnd0 S0 ⊢
  rw [List.length_cons, hlu] at hkx0
  rw [mOf_next] at S0
  have hr0 : rows[Y0 + 1]? = some r := by
    have h := congrArg (fun l => l[0]?) hdrop0
    simpa using h
  obtain ⟨n1, n2⟩ := hra r (List.mem_of_getElem? hr0)
  obtain ⟨pre, hpre⟩ : ∃ p : Row, p = [] := ⟨_, rfl⟩
  obtain ⟨cur, hcur⟩ : ∃ p : Row, p = [] := ⟨_, rfl⟩
  obtain ⟨done, hdn⟩ : ∃ d : Grid, d = done0 ++ [cur0] := ⟨_, rfl⟩
  have hPX : pre.length = 0 := by rw [hpre]; rfl
  have hCX : cur.length = 0 := by rw [hcur]; rfl
  have hDY : done.length = Y0 + 1 := by rw [hdn, List.length_append, List.length_singleton, hDY0]
  have hkx : 0 + (u + 1) = c.k := by omega
  have hyR : Y0 + 1 + 1 + R = c.n := by omega
  have hdrop : rows.drop (done.length + 1) = rs := by rw [hDY, ← List.drop_drop, hdrop0]; rfl
  have hdone : ∀ r ∈ done, r.length = c.k := fun q hq => by
    rw [hdn] at hq
    rcases List.mem_append.1 hq with h | h
    · exact hdone0 q h
    · have e : q = cur0 := by simpa using h
      rw [e, hcl, List.length_cons, hlu]; exact hkx0
  have hall : ∀ v ∈ pre ++ l :: ls, 0 ≤ v ∧ v ≤ 5 := fun v hv => hall0 v (by rw [hpre] at hv; simpa using hv)
  have hIH := hIHs ls
  obtain ⟨need, hneed⟩ : ∃ n : Int, n = r := ⟨_, rfl⟩
  subst hneed
  have HGOAL : Hid (∀ w' Z, Z = (if need ≤ (u : Int) ∧ l ≤ (R : Int) then putRow (contK rs done) R (pre ++ [l]) ls need (cur ++ [0]) else []) ++ (if 0 < need ∧ 0 < l then putRow (contK rs done) R (pre ++ [l - 1]) ls (need - 1) (cur ++ [1]) else []) → PutSt c rows w' (gs ++ Z) (mOf c.k done cur (u + 1) R) (pre ++ l :: ls) → Below c.Bz w w' → PutSt c rows w' (gs ++ putRow (contK (need :: rs) done0) (R + 1) (l :: ls) [] 0 cur0) (mOf c.k done0 cur0 0 (R + 1)) (l :: ls) ∧ Below c.Bz w w') := Lib.hid (fun w' Z hZ h1 h2 => ⟨by
    have e1 : putRow (contK (need :: rs) done0) (R + 1) (l :: ls) [] 0 cur0 = Z := by
      rw [putRow_nil, if_neg (by omega)]
      show putAll rs (l :: ls) need (done0 ++ [cur0]) = Z
      rw [putAll_contK, putRow_cons, hlu, hrR, hZ, hpre, hcur, hdn]
    rw [e1, mOf_next]
    rw [hcur, hpre, hdn, show u + 1 = c.k by omega] at h1
    exact h1, h2⟩)
  have HBND : Hid (gs.length + 2 ^ (u + 1 + R * c.k) ≤ 1000000000) := Lib.hid (by rw [show u + 1 + R * c.k = (R + 1) * c.k by rw [Nat.add_mul, Nat.one_mul]; omega]; exact hbnd0)
  replace S0 : PutSt c rows w gs (mOf c.k done cur (u + 1) R) (pre ++ l :: ls) := by
    rw [hcur, hpre, hdn, show u + 1 = c.k by omega]
    exact S0
  obtain ⟨bA, oA, hAr, _, crow⟩ := S0.row _ _ hr0
  have HGL2 : Hid (∀ z, (pre ++ z :: ls)[0]? = some z) := Lib.hid fun z => left_at hPX
  have HSETL : Hid (∀ a z, (pre ++ a :: ls).set 0 z = pre ++ z :: ls) := Lib.hid fun a z => left_set hPX
  have HROW : Hid ((mOf c.k done cur (u + 1) R)[(Y0 + 1)]? = some (cur ++ List.replicate (u + 1) 0)) := Lib.hid (mOf_at hDY)
  have HXR : Hid (0 < (cur ++ List.replicate (u + 1) (0 : Int)).length) := Lib.hid (by rw [List.length_append, List.length_replicate, hCX]; omega)
  have HRL : Hid ((cur ++ List.replicate (u + 1) (0 : Int)).length = c.k) := Lib.hid (by rw [List.length_append, List.length_replicate, hCX]; exact hkx)
  have HSETM : Hid (∀ z, (mOf c.k done cur (u + 1) R).set (Y0 + 1) ((cur ++ List.replicate (u + 1) 0).set 0 z) = mOf c.k done (cur ++ [z]) u R) := Lib.hid fun z => mOf_set hDY hCX z
  have HROW2 : Hid (∀ z, (mOf c.k done (cur ++ [z]) u R)[(Y0 + 1)]? = some (cur ++ [z] ++ List.replicate u 0)) := Lib.hid fun z => mOf_at hDY
  have HXR2 : Hid (∀ z, 0 < (cur ++ [z] ++ List.replicate u (0 : Int)).length) := Lib.hid fun z => by rw [List.length_append, List.length_append, List.length_replicate, List.length_singleton, hCX]; omega
  have HRL2 : Hid (∀ z, (cur ++ [z] ++ List.replicate u (0 : Int)).length = c.k) := Lib.hid fun z => by rw [List.length_append, List.length_append, List.length_replicate, List.length_singleton, hCX]; omega
  have HRESET : Hid (∀ z, (mOf c.k done (cur ++ [z]) u R).set (Y0 + 1) ((cur ++ [z] ++ List.replicate u 0).set 0 0) = mOf c.k done cur (u + 1) R) := Lib.hid fun z => mOf_reset hDY hCX z
  have HZERO : Hid (mOf c.k done (cur ++ [0]) u R = mOf c.k done cur (u + 1) R) := Lib.hid (mOf_zero _ _ _ _ _)
  have HLA : Hid ((putRow (contK rs done) R (pre ++ [l]) ls need (cur ++ [0])).length ≤ 2 ^ (u + R * c.k)) := Lib.hid (by
    have h := putRow_contK_len rs done ls (pre ++ [l]) need (cur ++ [0]) c.k R (by rw [List.length_append, List.length_singleton, hPX]; omega)
    rw [hlu, hrR] at h; exact h)
  have HPOS : Hid (2 ^ (u + 1 + R * c.k) = 2 * 2 ^ (u + R * c.k)) := Lib.hid (by rw [show u + 1 + R * c.k = (u + R * c.k) + 1 by omega, Nat.pow_succ, Nat.mul_comm])
  have HIH : Hid (∀ (z b need y x : Int) (gs : List Grid) (W : World), y = (((Y0 + 1) : Nat) : Int) → x = ((0 : Nat) : Int) + 1 → 0 ≤ need → need ≤ 5 → 0 ≤ z → z ≤ 5 → gs.length + 2 ^ (u + R * c.k) ≤ 1000000000 → PutSt c rows W gs (mOf c.k done (cur ++ [b]) u R) (pre ++ z :: ls) →
      Calls Try.prog 71 #[.int .i64 y, .int .i64 x, .int .i64 need, .pointer (some ⟨c.Pc, 0, none⟩), .pointer (some ⟨c.Pr, 0, none⟩), .pointer (some ⟨c.Po, 0, none⟩), .pointer (some ⟨c.Pm, 0, none⟩), .pointer (some ⟨c.Pl, 0, none⟩), .pointer (some ⟨c.Pf, 0, none⟩)] W
        fun e w' => e = .returned (.tuple #[]) ∧ PutSt c rows w' (gs ++ putRow (contK rs done) R (pre ++ [z]) ls need (cur ++ [b])) (mOf c.k done (cur ++ [b]) u R) (pre ++ z :: ls) ∧ Below c.Bz W w') := Lib.hid (by
    intro z b need y x gs W hy hx n1 n2 z1 z2 hb hS
    have e : pre ++ z :: ls = pre ++ [z] ++ ls := by simp
    rw [e] at hS
    have h := hIH done (pre ++ [z]) (cur ++ [b]) need y x gs W hdrop (by rw [hDY, hrR]; exact hyR) (by rw [hDY]; exact hy) (by rw [List.length_append, List.length_singleton, hPX]; rw [hx]; rfl) (by rw [List.length_append, List.length_append, hCX, hPX]; rfl) (by rw [List.length_append, List.length_singleton, hPX]; omega) n1 n2
      (fun v hv => by
        simp only [List.mem_append, List.mem_cons, List.not_mem_nil, or_false] at hv
        rcases hv with (hv | rfl) | hv
        · exact hall v (by simp [hv])
        · exact ⟨z1, z2⟩
        · exact hall v (by simp [hv])) (by rw [hlu, hrR]; exact hb) hdone (by rw [hlu, hrR]; exact hS)
    rw [hlu, hrR] at h
    rw [e]
    exact h)
  obtain ⟨l1, l2⟩ := hall l (by simp)
  have hX1 : 0 + u + 1 ≤ c.k := by omega
  have hX2 : c.k ≤ 0 + u + 1 := by omega
  have hY1 : (Y0 + 1) + R + 1 ≤ c.n := by omega
  have hY2 : c.n ≤ (Y0 + 1) + R + 1 := by omega
  have HBZ : Hid (c.Bz ≤ w.heap.size) := Lib.hid (by have := S0.sz; omega)
  have HS := Lib.hid S0
  have cc := cell_of_one S0.hc
  have cr := cell_of_one S0.hr
  have cl := cell_of_one S0.hl
  have cf : w.cell? ⟨c.Pf, 0, none⟩ = some (.func (.func 71) #[] #[.pointer (some ⟨c.Pc, 0, none⟩), .pointer (some ⟨c.Pr, 0, none⟩), .pointer (some ⟨c.Po, 0, none⟩), .pointer (some ⟨c.Pm, 0, none⟩), .pointer (some ⟨c.Pl, 0, none⟩), .pointer (some ⟨c.Pf, 0, none⟩)]) := cell_of_one S0.hf
  have cL := (S0.setL (HGL2.out l)).1
  rw [hAr] at cr
  have b2 : (((Y0 : Int) + 1) == (c.n : Int)) = false := by simp; omega
  clear S0 hIH hIHs hall hdone hdrop hbnd0 hcl hCX hPX hDY hlu hrR hkx hyR hpre hcur hdn hr0 hall0 hdone0 hdrop0 hDY0 hkx0 hyR0 hAr hra n01 n02
  by_cases h1 : need ≤ (c.k : Int) - 1
  case neg =>
    go_enter Try.func71, Try.ntmps71
    go_wp2_with fail
    have d1 : decide (need ≤ (c.k : Int) - 1) = false := by simp; omega
    go_quiet (fail)
    generalize hw1 : World.drewN w _ = w1
    have HS1 : Hid (PutSt c rows w1 (gs ++ []) (mOf c.k done cur (u + 1) R) (pre ++ l :: ls)) := Lib.hid (by rw [List.append_nil, ← hw1]; exact HS.out.ext ((Ext.refl w).drewN _))
    have HB1 : Hid (Below c.Bz w w1) := Lib.hid (by rw [← hw1]; exact Below.mono ((Ext.refl w).drewN _) HBZ.out)
    have HBND2 : Hid ((gs ++ []).length + 2 ^ (u + R * c.k) ≤ 1000000000) := Lib.hid (by have h1 := HBND.out; rw [HPOS.out] at h1; rw [List.append_nil]; omega)
    clear cc cr cl cL cf hw1
    have dc := cell_of_one HS1.out.hc
    have dl := cell_of_one HS1.out.hl
    have dL := (HS1.out.setL (HGL2.out l)).1
    by_cases h3 : 0 < need
    case neg =>
      go_wp2_with fail
      all_goals
        go_end0
        exact ⟨rfl, HGOAL.out _ ([] ++ []) (by rw [if_neg (fun h => by omega), if_neg (fun h => by omega)]) (by rw [List.append_nil]; exact HS1.out) HB1.out⟩
    by_cases h4 : 0 < l
    case neg =>
      go_wp2_with fail
      all_goals
        go_end0
        exact ⟨rfl, HGOAL.out _ ([] ++ []) (by rw [if_neg (fun h => by omega), if_neg (fun h => by omega)]) (by rw [List.append_nil]; exact HS1.out) HB1.out⟩
    obtain ⟨R1, cR, v1, q1, q2, q3, q4, qset⟩ := HS1.out.setM (y := (Y0 + 1)) (x := 0) HROW.out HXR.out
    obtain ⟨S2, B2⟩ := qset 1
    have em := cell_of_one HS1.out.hm
    have el := cell_of_one S2.hl
    obtain ⟨eL, fL, setL⟩ := S2.setL (HGL2.out l)
    obtain ⟨S3, B3⟩ := setL (l - 1)
    have ef : ((w1.setCell ⟨R1, 0, none⟩ (.int .i64 1)).setCell ⟨c.L, 0, none⟩ (.int .i64 (l - 1))).cell? ⟨c.Pf, 0, none⟩ = some (.func (.func 71) #[] #[.pointer (some ⟨c.Pc, 0, none⟩), .pointer (some ⟨c.Pr, 0, none⟩), .pointer (some ⟨c.Po, 0, none⟩), .pointer (some ⟨c.Pm, 0, none⟩), .pointer (some ⟨c.Pl, 0, none⟩), .pointer (some ⟨c.Pf, 0, none⟩)]) := cell_of_one S3.hf
    rw [HSETM.out 1, HSETL.out l (l - 1)] at S3
    have HS3 := Lib.hid S3
    have HB3 := Lib.hid (Below.trans HB1.out (Below.trans B2 B3))
    rw [HRL.out] at q1 q2
    clear S2 S3 B2 B3 qset setL
    go_wp2_with fail
    refine (HIH.out (l - 1) 1 (need - 1) _ _ _ _ (by simp) (by simp) (by omega) (by omega) (by omega) (by omega) HBND2.out HS3.out).mono ?_
    rintro e w3 ⟨rfl, S4, B4⟩
    have fl := cell_of_one S4.hl
    obtain ⟨gL, gF, setL4⟩ := S4.setL (HGL2.out (l - 1))
    obtain ⟨S5, B5⟩ := setL4 l
    rw [HSETL.out (l - 1) l] at S5
    obtain ⟨R5, cR5, v5, p1, p2, p3, p4, pset⟩ := S5.setM (y := (Y0 + 1)) (x := 0) (HROW2.out 1) (HXR2.out 1)
    have gm := cell_of_one S5.hm
    obtain ⟨S6, B6⟩ := pset 0
    rw [HRESET.out 1] at S6
    have HS6 := Lib.hid S6
    have HB6 := Lib.hid (Below.trans HB3.out (Below.trans B4 (Below.trans B5 B6)))
    rw [HRL2.out 1] at p1 p2
    clear S4 S5 S6 B4 B5 B6 setL4 pset
    go_wp2
    go_end0
    exact ⟨rfl, HGOAL.out _ ([] ++ putRow (contK rs done) R (pre ++ [l - 1]) ls (need - 1) (cur ++ [1])) (by rw [if_neg (fun h => by omega), if_pos ⟨h3, h4⟩]) (by rw [← List.append_assoc]; exact HS6.out) HB6.out⟩
  by_cases h2 : l ≤ (c.n : Int) - ((Y0 : Int) + 1) - 1
  case neg =>
    go_enter Try.func71, Try.ntmps71
    go_wp2_with fail
    go_quiet (fail)
    generalize hw1 : World.drewN w _ = w1
    have HS1 : Hid (PutSt c rows w1 (gs ++ []) (mOf c.k done cur (u + 1) R) (pre ++ l :: ls)) := Lib.hid (by rw [List.append_nil, ← hw1]; exact HS.out.ext ((Ext.refl w).drewN _))
    have HB1 : Hid (Below c.Bz w w1) := Lib.hid (by rw [← hw1]; exact Below.mono ((Ext.refl w).drewN _) HBZ.out)
    have HBND2 : Hid ((gs ++ []).length + 2 ^ (u + R * c.k) ≤ 1000000000) := Lib.hid (by have h1 := HBND.out; rw [HPOS.out] at h1; rw [List.append_nil]; omega)
    clear cc cr cl cL cf hw1
    have dc := cell_of_one HS1.out.hc
    have dl := cell_of_one HS1.out.hl
    have dL := (HS1.out.setL (HGL2.out l)).1
    by_cases h3 : 0 < need
    case neg =>
      go_wp2_with fail
      all_goals
        go_end0
        exact ⟨rfl, HGOAL.out _ ([] ++ []) (by rw [if_neg (fun h => by omega), if_neg (fun h => by omega)]) (by rw [List.append_nil]; exact HS1.out) HB1.out⟩
    by_cases h4 : 0 < l
    case neg =>
      go_wp2_with fail
      all_goals
        go_end0
        exact ⟨rfl, HGOAL.out _ ([] ++ []) (by rw [if_neg (fun h => by omega), if_neg (fun h => by omega)]) (by rw [List.append_nil]; exact HS1.out) HB1.out⟩
    obtain ⟨R1, cR, v1, q1, q2, q3, q4, qset⟩ := HS1.out.setM (y := (Y0 + 1)) (x := 0) HROW.out HXR.out
    obtain ⟨S2, B2⟩ := qset 1
    have em := cell_of_one HS1.out.hm
    have el := cell_of_one S2.hl
    obtain ⟨eL, fL, setL⟩ := S2.setL (HGL2.out l)
    obtain ⟨S3, B3⟩ := setL (l - 1)
    have ef : ((w1.setCell ⟨R1, 0, none⟩ (.int .i64 1)).setCell ⟨c.L, 0, none⟩ (.int .i64 (l - 1))).cell? ⟨c.Pf, 0, none⟩ = some (.func (.func 71) #[] #[.pointer (some ⟨c.Pc, 0, none⟩), .pointer (some ⟨c.Pr, 0, none⟩), .pointer (some ⟨c.Po, 0, none⟩), .pointer (some ⟨c.Pm, 0, none⟩), .pointer (some ⟨c.Pl, 0, none⟩), .pointer (some ⟨c.Pf, 0, none⟩)]) := cell_of_one S3.hf
    rw [HSETM.out 1, HSETL.out l (l - 1)] at S3
    have HS3 := Lib.hid S3
    have HB3 := Lib.hid (Below.trans HB1.out (Below.trans B2 B3))
    rw [HRL.out] at q1 q2
    clear S2 S3 B2 B3 qset setL
    go_wp2_with fail
    refine (HIH.out (l - 1) 1 (need - 1) _ _ _ _ (by simp) (by simp) (by omega) (by omega) (by omega) (by omega) HBND2.out HS3.out).mono ?_
    rintro e w3 ⟨rfl, S4, B4⟩
    have fl := cell_of_one S4.hl
    obtain ⟨gL, gF, setL4⟩ := S4.setL (HGL2.out (l - 1))
    obtain ⟨S5, B5⟩ := setL4 l
    rw [HSETL.out (l - 1) l] at S5
    obtain ⟨R5, cR5, v5, p1, p2, p3, p4, pset⟩ := S5.setM (y := (Y0 + 1)) (x := 0) (HROW2.out 1) (HXR2.out 1)
    have gm := cell_of_one S5.hm
    obtain ⟨S6, B6⟩ := pset 0
    rw [HRESET.out 1] at S6
    have HS6 := Lib.hid S6
    have HB6 := Lib.hid (Below.trans HB3.out (Below.trans B4 (Below.trans B5 B6)))
    rw [HRL2.out 1] at p1 p2
    clear S4 S5 S6 B4 B5 B6 setL4 pset
    go_wp2
    go_end0
    exact ⟨rfl, HGOAL.out _ ([] ++ putRow (contK rs done) R (pre ++ [l - 1]) ls (need - 1) (cur ++ [1])) (by rw [if_neg (fun h => by omega), if_pos ⟨h3, h4⟩]) (by rw [← List.append_assoc]; exact HS6.out) HB6.out⟩
  go_enter Try.func71, Try.ntmps71
  go_wp2_with fail
  go_quiet (fail)
  go_wp2_with fail
  refine (HIH.out l 0 need _ _ gs _ (by simp) (by simp) (by omega) (by omega) (by omega) (by omega) (by have h1 := HBND.out; rw [HPOS.out] at h1; omega) (by rw [HZERO.out]; exact HS.out.ext ((Ext.refl w).drewN _))).mono ?_
  rintro e w1 ⟨rfl, S1, B1⟩
  rw [HZERO.out] at S1
  have HS1 := Lib.hid S1
  have HB1 : Hid (Below c.Bz w w1) := Lib.hid (Below.trans (Below.mono ((Ext.refl w).drewN _) HBZ.out) B1)
  have HBND2 : Hid ((gs ++ putRow (contK rs done) R (pre ++ [l]) ls need (cur ++ [0])).length + 2 ^ (u + R * c.k) ≤ 1000000000) := Lib.hid (by have h1 := HBND.out; have h2 := HLA.out; rw [HPOS.out] at h1; rw [List.length_append]; omega)
  clear cc cr cl cL cf S1 B1
  have dc := cell_of_one HS1.out.hc
  have dl := cell_of_one HS1.out.hl
  have dL := (HS1.out.setL (HGL2.out l)).1
  by_cases h3 : 0 < need
  case neg =>
    go_wp2_with fail
    all_goals
      go_end0
      exact ⟨rfl, HGOAL.out _ (putRow (contK rs done) R (pre ++ [l]) ls need (cur ++ [0]) ++ []) (by rw [if_pos (show need ≤ (u : Int) ∧ l ≤ (R : Int) by omega), if_neg (fun h => by omega)]) (by rw [List.append_nil]; exact HS1.out) HB1.out⟩
  by_cases h4 : 0 < l
  case neg =>
    go_wp2_with fail
    all_goals
      go_end0
      exact ⟨rfl, HGOAL.out _ (putRow (contK rs done) R (pre ++ [l]) ls need (cur ++ [0]) ++ []) (by rw [if_pos (show need ≤ (u : Int) ∧ l ≤ (R : Int) by omega), if_neg (fun h => by omega)]) (by rw [List.append_nil]; exact HS1.out) HB1.out⟩
  obtain ⟨R1, cR, v1, q1, q2, q3, q4, qset⟩ := HS1.out.setM (y := (Y0 + 1)) (x := 0) HROW.out HXR.out
  obtain ⟨S2, B2⟩ := qset 1
  have em := cell_of_one HS1.out.hm
  have el := cell_of_one S2.hl
  obtain ⟨eL, fL, setL⟩ := S2.setL (HGL2.out l)
  obtain ⟨S3, B3⟩ := setL (l - 1)
  have ef : ((w1.setCell ⟨R1, 0, none⟩ (.int .i64 1)).setCell ⟨c.L, 0, none⟩ (.int .i64 (l - 1))).cell? ⟨c.Pf, 0, none⟩ = some (.func (.func 71) #[] #[.pointer (some ⟨c.Pc, 0, none⟩), .pointer (some ⟨c.Pr, 0, none⟩), .pointer (some ⟨c.Po, 0, none⟩), .pointer (some ⟨c.Pm, 0, none⟩), .pointer (some ⟨c.Pl, 0, none⟩), .pointer (some ⟨c.Pf, 0, none⟩)]) := cell_of_one S3.hf
  rw [HSETM.out 1, HSETL.out l (l - 1)] at S3
  have HS3 := Lib.hid S3
  have HB3 := Lib.hid (Below.trans HB1.out (Below.trans B2 B3))
  rw [HRL.out] at q1 q2
  clear S2 S3 B2 B3 qset setL
  go_wp2_with fail
  refine (HIH.out (l - 1) 1 (need - 1) _ _ _ _ (by simp) (by simp) (by omega) (by omega) (by omega) (by omega) HBND2.out HS3.out).mono ?_
  rintro e w3 ⟨rfl, S4, B4⟩
  have fl := cell_of_one S4.hl
  obtain ⟨gL, gF, setL4⟩ := S4.setL (HGL2.out (l - 1))
  obtain ⟨S5, B5⟩ := setL4 l
  rw [HSETL.out (l - 1) l] at S5
  obtain ⟨R5, cR5, v5, p1, p2, p3, p4, pset⟩ := S5.setM (y := (Y0 + 1)) (x := 0) (HROW2.out 1) (HXR2.out 1)
  have gm := cell_of_one S5.hm
  obtain ⟨S6, B6⟩ := pset 0
  rw [HRESET.out 1] at S6
  have HS6 := Lib.hid S6
  have HB6 := Lib.hid (Below.trans HB3.out (Below.trans B4 (Below.trans B5 B6)))
  rw [HRL2.out 1] at p1 p2
  clear S4 S5 S6 B4 B5 B6 setL4 pset
  go_wp2
  go_end0
  exact ⟨rfl, HGOAL.out _ (putRow (contK rs done) R (pre ++ [l]) ls need (cur ++ [0]) ++ putRow (contK rs done) R (pre ++ [l - 1]) ls (need - 1) (cur ++ [1])) (by rw [if_pos (show need ≤ (u : Int) ∧ l ≤ (R : Int) by omega), if_pos ⟨h3, h4⟩]) (by rw [← List.append_assoc]; exact HS6.out) HB6.out⟩

theorem put_any (c : Cx) (rows : List Int) (hn5 : c.n ≤ 5) (hk1 : 1 ≤ c.k) (hk5 : c.k ≤ 5) (hra : ∀ r ∈ rows, 0 ≤ r ∧ r ≤ 5) : ∀ (rs : List Int) (ls : Row), PutOk c rows rs ls := by
  intro rs
  induction rs with
  | nil =>
    intro ls
    induction ls with
    | nil => exact put_end0 c rows hn5 hk1 hk5
    | cons l ls ih => exact put_step c rows [] l ls hn5 hk5 ih
  | cons r rs ihr =>
    intro ls
    induction ls with
    | nil => exact put_endS c rows rs r hn5 hk1 hk5 hra ihr
    | cons l ls ih => exact put_step c rows (r :: rs) l ls hn5 hk5 ih
end Go.Proofs.Ytlhjbpachpjpkaa
