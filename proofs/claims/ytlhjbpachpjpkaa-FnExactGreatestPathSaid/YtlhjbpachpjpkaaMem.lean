/- How slices of integers, and slices of such slices, read in a world; what a call leaves as it was. -/
import Derived.Test.YtlhjbpachpjpkaaRows
import Derived.WalkKit
import Derived.Lib.Hide
import Derived.WalkSpells
import Derived.WalkLawsBesides
import Derived.Deep.QuietTactic
import Derived.BigQuiet
import Derived.Deep.Cut
import Derived.Deep.LoopGhost
import Derived.Deep.Draws
namespace Go.Proofs.Ytlhjbpachpjpkaa
open Go.RowKit

/-- the world has at most new blocks and draws -/
def Ext (w w' : World) : Prop := Below w.heap.size w w'
theorem Ext.refl (w : World) : Ext w w := Below.refl _ _
theorem Ext.size {w w' : World} (h : Ext w w') : w.heap.size ≤ w'.heap.size := Below.size h
theorem Ext.trans {a b c : World} (h : Ext a b) (k : Ext b c) : Ext a c := Below.trans h (Below.mono k h.size)
theorem Ext.cell {w w' : World} (h : Ext w w') {p : Addr} (hp : p.block < w.heap.size) : w'.cell? p = w.cell? p := Below.cell h hp
theorem Ext.drew {w w' : World} (h : Ext w w') : Ext w w'.drew := Below.drew h
theorem Ext.drewN {w w' : World} (h : Ext w w') (n : Nat) : Ext w (w'.drewN n) := by
  unfold Ext at *
  exact ⟨h.os, h.tape, h.output, h.size, h.block⟩
theorem Ext.alloc {w w' : World} (h : Ext w w') (o : Obj) : Ext w (w'.alloc o) := Below.alloc h h.size o

/-- the slice with this address reads as these numbers -/
def Ints (w : World) (A : Option Addr) (xs : List Int) : Prop :=
  ∀ k x, xs[k]? = some x → ∃ b o, A = some ⟨b, o, none⟩ ∧ b < w.heap.size ∧ w.cell? ⟨b, o + k, none⟩ = some (.int .i64 x)

theorem Ints.ext {w w' : World} {A : Option Addr} {xs : List Int} (h : Ints w A xs) (e : Ext w w') : Ints w' A xs := fun k x hk => by
  obtain ⟨b, o, h1, h2, h3⟩ := h k x hk
  exact ⟨b, o, h1, Nat.lt_of_lt_of_le h2 e.size, (e.cell (p := ⟨b, o + k, none⟩) h2).trans h3⟩

theorem Ints.at_ {w : World} {A : Option Addr} {xs : List Int} (h : Ints w A xs) {k : Nat} (hk : k < xs.length) :
    ∃ b o x, A = some ⟨b, o, none⟩ ∧ b < w.heap.size ∧ Hid (xs[k]? = some x) ∧ w.cell? ⟨b, o + k, none⟩ = some (.int .i64 x) := by
  obtain ⟨b, o, h1, h2, h3⟩ := h k xs[k] (List.getElem?_eq_getElem hk)
  exact ⟨b, o, xs[k], h1, h2, Lib.hid (List.getElem?_eq_getElem hk), h3⟩

def GridAt (w : World) (A : Option Addr) (g : List (List Int)) : Prop :=
  ∀ k r, g[k]? = some r → ∃ b o R c, A = some ⟨b, o, none⟩ ∧ b < w.heap.size ∧ w.cell? ⟨b, o + k, none⟩ = some (.slice R r.length c) ∧ r.length ≤ c ∧ Ints w R r

theorem GridAt.ext {w w' : World} {A : Option Addr} {g : List (List Int)} (h : GridAt w A g) (e : Ext w w') : GridAt w' A g := fun k r hk => by
  obtain ⟨b, o, R, c, h1, h2, h3, hc, h4⟩ := h k r hk
  exact ⟨b, o, R, c, h1, Nat.lt_of_lt_of_le h2 e.size, (e.cell (p := ⟨b, o + k, none⟩) h2).trans h3, hc, h4.ext e⟩

theorem GridAt.at_ {w : World} {A : Option Addr} {g : List (List Int)} (h : GridAt w A g) {k : Nat} (hk : k < g.length) :
    ∃ b o R c r, A = some ⟨b, o, none⟩ ∧ b < w.heap.size ∧ Hid (g[k]? = some r) ∧ w.cell? ⟨b, o + k, none⟩ = some (.slice R r.length c) ∧ Ints w R r := by
  obtain ⟨b, o, R, c, h1, h2, h3, _, h4⟩ := h k g[k] (List.getElem?_eq_getElem hk)
  exact ⟨b, o, R, c, g[k], h1, h2, Lib.hid (List.getElem?_eq_getElem hk), h3, h4⟩

theorem GridAt.at1 {w : World} {b o : Nat} {g : List (List Int)} (h : GridAt w (some ⟨b, o, none⟩) g) {k : Nat} (hk : k < g.length) :
    ∃ R c r, Hid (g[k]? = some r) ∧ w.cell? ⟨b, o + k, none⟩ = some (.slice R r.length c) ∧ Ints w R r := by
  obtain ⟨b', o', R, c, r, e, _, h3, h4, h5⟩ := h.at_ hk
  cases e
  exact ⟨R, c, r, h3, h4, h5⟩
theorem GridAt.head {w : World} {A : Option Addr} {r0 : List Int} {g : List (List Int)} (h : GridAt w A (r0 :: g)) :
    ∃ b o R c, A = some ⟨b, o, none⟩ ∧ b < w.heap.size ∧ w.cell? ⟨b, o, none⟩ = some (.slice R r0.length c) ∧ Ints w R r0 := by
  obtain ⟨b, o, R, c, h1, h2, h3, _, h4⟩ := h 0 r0 rfl
  exact ⟨b, o, R, c, h1, h2, h3, h4⟩
theorem GridAt.cap_ {w : World} {A : Option Addr} {g : List (List Int)} (h : GridAt w A g) {k : Nat} (hk : k < g.length) :
    ∃ b o R c r, A = some ⟨b, o, none⟩ ∧ b < w.heap.size ∧ Hid (g[k]? = some r) ∧ w.cell? ⟨b, o + k, none⟩ = some (.slice R r.length c) ∧ r.length ≤ c ∧ Ints w R r := by
  obtain ⟨b, o, R, c, h1, h2, h3, hc, h4⟩ := h k g[k] (List.getElem?_eq_getElem hk)
  exact ⟨b, o, R, c, g[k], h1, h2, Lib.hid (List.getElem?_eq_getElem hk), h3, hc, h4⟩
theorem Ints.at1 {w : World} {b o : Nat} {xs : List Int} (h : Ints w (some ⟨b, o, none⟩) xs) {k : Nat} (hk : k < xs.length) :
    ∃ x, Hid (xs[k]? = some x) ∧ w.cell? ⟨b, o + k, none⟩ = some (.int .i64 x) := by
  obtain ⟨b', o', x, e, _, h3, h4⟩ := h.at_ hk
  cases e
  exact ⟨x, h3, h4⟩

/-- numbers that are no danger to a sum -/
def Small (xs : List Int) : Prop := ∀ x ∈ xs, -1048576 ≤ x ∧ x ≤ 1048576
theorem sum_small {xs : List Int} (h : Small xs) (hl : xs.length ≤ 1048576) (k : Nat) : -1099511627776 ≤ (xs.take k).sum ∧ (xs.take k).sum ≤ 1099511627776 := by
  have key : ∀ l : List Int, (∀ x ∈ l, -1048576 ≤ x ∧ x ≤ 1048576) → -(1048576 * (l.length : Int)) ≤ l.sum ∧ l.sum ≤ 1048576 * (l.length : Int) := by
    intro l
    induction l with
    | nil => intro _; simp
    | cons x l ih =>
      intro h
      have h1 := h x List.mem_cons_self
      have h2 := ih (fun y hy => h y (List.mem_cons_of_mem _ hy))
      rw [List.sum_cons, List.length_cons]; omega
  have h1 := key (xs.take k) (fun x hx => h x (List.mem_of_mem_take hx))
  have h2 : (xs.take k).length ≤ xs.length := by rw [List.length_take]; omega
  omega

theorem take_succ_of {α : Type} {l : List α} {k : Nat} {x : α} (h : l[k]? = some x) : l.take (k + 1) = l.take k ++ [x] := by
  rw [List.take_add_one, h]; rfl
theorem take_all_succ {α : Type} {l : List α} {k : Nat} {x : α} (h : l[k]? = some x) (p : α → Bool) : (l.take (k + 1)).all p = ((l.take k).all p && p x) := by
  rw [take_succ_of h, List.all_append]; simp
theorem take_sum_succ {l : List Int} {k : Nat} {x : Int} (h : l[k]? = some x) : (l.take (k + 1)).sum = (l.take k).sum + x := by
  rw [take_succ_of h, List.sum_append]; simp
theorem all_false_of {α : Type} {l : List α} {k : Nat} {x : α} (h : l[k]? = some x) (p : α → Bool) (hp : p x = false) : l.all p = false := by
  rw [List.all_eq_false]
  exact ⟨x, List.mem_of_getElem? h, by simpa using hp⟩
theorem take_full {α : Type} (l : List α) : l.take l.length = l := List.take_length

def inR (n lo hi : Int) : Bool := decide (lo ≤ n) && decide (n ≤ hi)
def allIn (l : List Int) (lo hi : Int) : Bool := l.all fun x => inR x lo hi

def gridOk (g : List (List Int)) (lo hi : Int) : Bool :=
  inR g.length 1 5 && g.all fun r => decide (r.length = (g.headD []).length) && inR r.length 1 5 && allIn r lo hi
/-- of this size, and numbers in a range -/
def sized (g : List (List Int)) (rows cols lo hi : Int) : Bool :=
  decide ((g.length : Int) = rows) && g.all fun r => decide ((r.length : Int) = cols) && allIn r lo hi
def indexOf (xs : List Int) (v : Int) : Int := match xs.findIdx? (· == v) with | some i => i | none => -1
theorem indexOf_hit {xs : List Int} {v : Int} {k : Nat} (h : xs[k]? = some v) (hb : (xs.take k).all (· != v) = true) : indexOf xs v = k := by
  unfold indexOf
  have hk : k < xs.length := by
    rcases Nat.lt_or_ge k xs.length with h1 | h1
    · exact h1
    · rw [List.getElem?_eq_none h1] at h; cases h
  have : xs.findIdx? (· == v) = some k := by
    rw [List.findIdx?_eq_some_iff_getElem]
    refine ⟨hk, ?_, fun j hj => ?_⟩
    · rw [List.getElem?_eq_getElem hk] at h; simpa using h
    · rw [List.all_eq_true] at hb
      have := hb xs[j] (List.mem_take_iff_getElem.2 ⟨j, by omega, rfl⟩)
      simpa using this
  rw [this]
theorem indexOf_miss {xs : List Int} {v : Int} (hb : xs.all (· != v) = true) : indexOf xs v = -1 := by
  unfold indexOf
  have : xs.findIdx? (· == v) = none := by
    rw [List.findIdx?_eq_none_iff]
    intro x hx
    rw [List.all_eq_true] at hb
    simpa using hb x hx
  rw [this]

theorem inR_iff {n lo hi : Int} : inR n lo hi = true ↔ lo ≤ n ∧ n ≤ hi := by unfold inR; simp
theorem small_of {l : List Int} {lo hi : Int} (h : allIn l lo hi = true) (h1 : -1048576 ≤ lo) (h2 : hi ≤ 1048576) : Small l := by
  intro x hx
  have := inR_iff.1 ((List.all_eq_true.1 h) x hx)
  omega
def sumsOk (rows cols : List Int) : Bool :=
  inR rows.length 1 5 && inR cols.length 1 5 && allIn rows 0 cols.length && allIn cols 0 rows.length && (rows.sum == cols.sum)
theorem gridOk_rows {g : List (List Int)} {lo hi : Int} (h : gridOk g lo hi = true) : 1 ≤ g.length ∧ g.length ≤ 5 ∧ ∀ r ∈ g, r.length = (g.headD []).length ∧ 1 ≤ r.length ∧ r.length ≤ 5 ∧ allIn r lo hi = true := by
  simp only [gridOk, Bool.and_eq_true, List.all_eq_true, decide_eq_true_eq, inR_iff] at h
  refine ⟨by omega, by omega, fun r hr => ?_⟩
  obtain ⟨⟨h1, h2⟩, h3⟩ := h.2 r hr
  exact ⟨h1, by omega, by omega, h3⟩
/-- ascending numbers from 0 up to a limit: the test at place i -/
def riseAt (xs : List Int) (limit : Int) (i : Nat) : Bool := inR (xs[i]?.getD 0) 0 (limit - 1) && (i == 0 || decide (xs[i - 1]?.getD 0 < xs[i]?.getD 0))
def rising (xs : List Int) (limit : Int) : Bool := (List.range xs.length).all (riseAt xs limit)
theorem range_all_succ (p : Nat → Bool) (k : Nat) : (List.range (k + 1)).all p = ((List.range k).all p && p k) := by
  rw [List.range_succ, List.all_append]; simp
theorem range_all_false {p : Nat → Bool} {n k : Nat} (hk : k < n) (h : p k = false) : (List.range n).all p = false := by
  rw [List.all_eq_false]; exact ⟨k, List.mem_range.2 hk, by simpa using h⟩
def hasI (xs : List Int) (v : Int) : Bool := xs.contains v
theorem indexOf_contains (xs : List Int) (v : Int) : decide (0 ≤ indexOf xs v) = hasI xs v := by
  unfold indexOf hasI
  cases h : xs.findIdx? (· == v) with
  | none =>
    rw [List.findIdx?_eq_none_iff] at h
    have : xs.contains v = false := by
      rw [Bool.eq_false_iff]
      intro hc
      have := h v (List.contains_iff_mem.1 hc)
      simp at this
    rw [this]; rfl
  | some i =>
    rw [List.findIdx?_eq_some_iff_getElem] at h
    obtain ⟨hi, hv, _⟩ := h
    have : xs.contains v = true := List.contains_iff_mem.2 (by have e : xs[i] = v := by simpa using hv
                                                               rw [← e]; exact List.getElem_mem hi)
    rw [this]; simp
theorem contains_of {xs : List Int} {v : Int} {k : Nat} (h : xs[k]? = some v) : hasI xs v = true := List.contains_iff_mem.2 (List.mem_of_getElem? h)
theorem contains_not {xs : List Int} {v : Int} (h : xs.all (· != v) = true) : hasI xs v = false := by
  unfold hasI
  rw [Bool.eq_false_iff]
  intro hc
  rw [List.all_eq_true] at h
  have := h v (List.contains_iff_mem.1 hc)
  simp at this
theorem inR01 (x : Int) : inR x 0 1 = (x == 0 || x == 1) := by
  rw [Bool.eq_iff_iff, inR_iff]; simp; omega
def maskOk (mask : List (List Int)) (rows cols : List Int) : Bool := sumsOk rows cols && sized mask rows.length cols.length (-1) 1
def weightOk (g : List (List Int)) (rows cols : Int) : Bool := inR rows 1 5 && inR cols 1 5 && sized g rows cols (-100) 100
theorem sumsOk_parts {rows cols : List Int} (h : sumsOk rows cols = true) : 1 ≤ rows.length ∧ rows.length ≤ 5 ∧ 1 ≤ cols.length ∧ cols.length ≤ 5 ∧ allIn rows 0 cols.length = true ∧ allIn cols 0 rows.length = true ∧ rows.sum = cols.sum := by
  simp only [sumsOk, Bool.and_eq_true, inR_iff, beq_iff_eq] at h
  obtain ⟨⟨⟨⟨h1, h2⟩, h3⟩, h4⟩, h5⟩ := h
  exact ⟨by omega, by omega, by omega, by omega, h3, h4, h5⟩
theorem sized_iff {g : List (List Int)} {rows cols lo hi : Int} : sized g rows cols lo hi = true ↔ (g.length : Int) = rows ∧ ∀ r ∈ g, (r.length : Int) = cols ∧ allIn r lo hi = true := by
  unfold sized
  simp only [Bool.and_eq_true, decide_eq_true_eq, List.all_eq_true]
theorem gridOk_iff {g : List (List Int)} {lo hi : Int} : gridOk g lo hi = true ↔ (1 ≤ g.length ∧ g.length ≤ 5) ∧ ∀ r ∈ g, r.length = (g.headD []).length ∧ (1 ≤ r.length ∧ r.length ≤ 5) ∧ allIn r lo hi = true := by
  unfold gridOk
  simp only [Bool.and_eq_true, decide_eq_true_eq, List.all_eq_true, inR_iff]
  constructor
  · rintro ⟨h1, h2⟩
    exact ⟨by omega, fun r hr => by obtain ⟨⟨a, b⟩, c⟩ := h2 r hr; exact ⟨a, by omega, c⟩⟩
  · rintro ⟨h1, h2⟩
    exact ⟨by omega, fun r hr => by obtain ⟨a, b, c⟩ := h2 r hr; exact ⟨⟨a, by omega⟩, c⟩⟩
/-- a size from 1 to 5: both ways of testing a grid agree -/
theorem sized_grid (g : List (List Int)) {rows cols : Int} (hr : 1 ≤ rows ∧ rows ≤ 5) (hc : 1 ≤ cols ∧ cols ≤ 5) (lo hi : Int) :
    sized g rows cols lo hi = (gridOk g lo hi && decide ((g.length : Int) = rows) && decide (((g.headD []).length : Int) = cols)) := by
  rw [Bool.eq_iff_iff]
  simp only [Bool.and_eq_true, decide_eq_true_eq]
  rw [sized_iff, gridOk_iff]
  constructor
  · rintro ⟨h1, h2⟩
    cases g with
    | nil => simp at h1; omega
    | cons r0 g =>
      have h0 := h2 r0 List.mem_cons_self
      refine ⟨⟨⟨by simp only [List.length_cons] at *; omega, fun r hr => ?_⟩, h1⟩, by simpa using h0.1⟩
      obtain ⟨a, b⟩ := h2 r hr
      exact ⟨by simp only [List.headD_cons]; omega, by omega, b⟩
  · rintro ⟨⟨⟨h1, h2⟩, h3⟩, h4⟩
    refine ⟨h3, fun r hr => ?_⟩
    obtain ⟨a, b, c⟩ := h2 r hr
    exact ⟨by omega, c⟩
theorem weightOk_grid (g : List (List Int)) (rows cols : Int) : weightOk g rows cols = (gridOk g (-100) 100 && decide ((g.length : Int) = rows) && decide (((g.headD []).length : Int) = cols)) := by
  unfold weightOk
  by_cases h : (1 ≤ rows ∧ rows ≤ 5) ∧ 1 ≤ cols ∧ cols ≤ 5
  · rw [sized_grid g h.1 h.2, inR_iff.2 h.1, inR_iff.2 h.2]; rfl
  · have e : (inR rows 1 5 && inR cols 1 5) = false := by
      rw [Bool.eq_false_iff]; intro h2
      rw [Bool.and_eq_true, inR_iff, inR_iff] at h2
      exact h h2
    rw [e, Bool.false_and]
    symm
    rw [Bool.eq_false_iff]
    intro h2
    simp only [Bool.and_eq_true, decide_eq_true_eq, gridOk_iff] at h2
    obtain ⟨⟨⟨h3, h4⟩, h5⟩, h6⟩ := h2
    apply h
    cases g with
    | nil => simp at h3
    | cons r0 g =>
      obtain ⟨_, a, _⟩ := h4 r0 List.mem_cons_self
      simp only [List.headD_cons] at h6
      omega
theorem maskOk_grid (g : List (List Int)) (rows cols : List Int) : maskOk g rows cols = (sumsOk rows cols && gridOk g (-1) 1 && decide ((g.length : Int) = rows.length) && decide (((g.headD []).length : Int) = cols.length)) := by
  unfold maskOk
  cases h : sumsOk rows cols
  · rfl
  · obtain ⟨h1, h2, h3, h4, _⟩ := sumsOk_parts h
    rw [sized_grid g (by omega) (by omega)]; simp

/-- each cell of the image is that of the mask, or this is -1 -/
def meetRow (r k : List Int) (n : Nat) : Bool := (List.range n).all fun x => k[x]?.getD 0 == -1 || k[x]?.getD 0 == r[x]?.getD 0
def meetAt (m mask : List (List Int)) (y : Nat) : Bool := decide ((mask[y]?.getD []).length = (m[y]?.getD []).length) && meetRow (m[y]?.getD []) (mask[y]?.getD []) (m[y]?.getD []).length
def meets (m mask : List (List Int)) : Bool := gridOk m 0 1 && decide (mask.length = m.length) && (List.range m.length).all (meetAt m mask)
/-- the weight of the first k cells of a row; of the first k rows -/
def rowW (r v : List Int) (k : Nat) : Int := ((List.range k).map fun x => r[x]?.getD 0 * v[x]?.getD 0).sum
def gridW (m wt : List (List Int)) (k : Nat) : Int := ((List.range k).map fun y => rowW (m[y]?.getD []) (wt[y]?.getD []) (m[y]?.getD []).length).sum
def weightI (wt m : List (List Int)) : Int := gridW m wt m.length
theorem rowW_succ (r v : List Int) (k : Nat) : rowW r v (k + 1) = rowW r v k + r[k]?.getD 0 * v[k]?.getD 0 := by
  unfold rowW; rw [List.range_succ, List.map_append, List.sum_append]; simp
theorem gridW_succ (m wt : List (List Int)) (k : Nat) : gridW m wt (k + 1) = gridW m wt k + rowW (m[k]?.getD []) (wt[k]?.getD []) (m[k]?.getD []).length := by
  unfold gridW; rw [List.range_succ, List.map_append, List.sum_append]; simp

/-- a valid image and valid weights of its size -/
structure Weighs (wt m : List (List Int)) : Prop where
  len : wt.length = m.length
  small : m.length ≤ 5
  row : ∀ (k : Nat) (r v : List Int), m[k]? = some r → wt[k]? = some v → v.length = r.length ∧ r.length ≤ 5 ∧ (∀ x ∈ r, x = 0 ∨ x = 1) ∧ ∀ x ∈ v, -100 ≤ x ∧ x ≤ 100
theorem bit_of {x : Int} (h : inR x 0 1 = true) : x = 0 ∨ x = 1 := by have := inR_iff.1 h; omega
theorem weighs_of {wt m : List (List Int)} (h1 : gridOk m 0 1 = true) (h2 : weightOk wt m.length (m.headD []).length = true) : Weighs wt m := by
  obtain ⟨⟨a1, a2⟩, a3⟩ := gridOk_iff.1 h1
  simp only [weightOk, Bool.and_eq_true] at h2
  obtain ⟨b1, b2⟩ := sized_iff.1 h2.2
  refine ⟨by omega, a2, fun k r v hr hv => ?_⟩
  obtain ⟨c1, c2, c3⟩ := a3 r (List.mem_of_getElem? hr)
  obtain ⟨d1, d2⟩ := b2 v (List.mem_of_getElem? hv)
  refine ⟨by omega, c2.2, fun x hx => bit_of ((List.all_eq_true.1 c3) x hx), fun x hx => inR_iff.1 ((List.all_eq_true.1 d2) x hx)⟩
theorem getD_range {l : List Int} {lo hi : Int} (h : ∀ x ∈ l, lo ≤ x ∧ x ≤ hi) (h0 : lo ≤ 0 ∧ 0 ≤ hi) (k : Nat) : lo ≤ l[k]?.getD 0 ∧ l[k]?.getD 0 ≤ hi := by
  cases hk : l[k]? with
  | none => exact h0
  | some x => exact h x (List.mem_of_getElem? hk)
theorem rowW_bound {r v : List Int} (hr : ∀ x ∈ r, x = 0 ∨ x = 1) (hv : ∀ x ∈ v, -100 ≤ x ∧ x ≤ 100) (k : Nat) : -100 * (k : Int) ≤ rowW r v k ∧ rowW r v k ≤ 100 * k := by
  induction k with
  | zero => simp [rowW]
  | succ k ih =>
    rw [rowW_succ]
    have h1 : r[k]?.getD 0 = 0 ∨ r[k]?.getD 0 = 1 := by
      cases hk : r[k]? with
      | none => exact .inl rfl
      | some x => exact hr x (List.mem_of_getElem? hk)
    have h2 := getD_range hv (by omega) k
    rcases h1 with e | e <;> rw [e] <;> omega
theorem gridW_bound {wt m : List (List Int)} (h : Weighs wt m) (k : Nat) : -500 * (k : Int) ≤ gridW m wt k ∧ gridW m wt k ≤ 500 * k := by
  induction k with
  | zero => simp [gridW]
  | succ k ih =>
    rw [gridW_succ]
    cases hm : m[k]? with
    | none => simp [rowW]; omega
    | some r =>
      have hk : k < m.length := by
        rcases Nat.lt_or_ge k m.length with h1 | h1
        · exact h1
        · rw [List.getElem?_eq_none h1] at hm; cases hm
      cases hv : wt[k]? with
      | none =>
        have := h.len
        rw [List.getElem?_eq_none_iff] at hv; omega
      | some v =>
        obtain ⟨_, b, c, d⟩ := h.row k r v hm hv
        have := rowW_bound c d r.length
        simp only [Option.getD_some]
        omega
theorem row_at {m : List (List Int)} {k : Nat} {r : List Int} (h : m[k]? = some r) : m[k]?.getD [] = r := by rw [h]; rfl
theorem cell_at {r : List Int} {k : Nat} {x : Int} (h : r[k]? = some x) : r[k]?.getD 0 = x := by rw [h]; rfl
theorem ret_int {k : IntKind} {a b : Int} (h : a = b) : Ending.returned (.int k a) = .returned (.int k b) := by rw [h]
theorem ret_bool {a b : Bool} (h : a = b) : Ending.returned (.bool a) = .returned (.bool b) := by rw [h]
end Go.Proofs.Ytlhjbpachpjpkaa
