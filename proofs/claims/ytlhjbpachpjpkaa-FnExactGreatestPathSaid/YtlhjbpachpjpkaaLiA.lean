/- Texts merged: Lines1 Lines2 Lines3 Lines4. -/
import Derived.Test.YtlhjbpachpjpkaaDirs1
import Derived.Test.YtlhjbpachpjpkaaReA
import Derived.Deep.RegionHeld3
import Derived.IntWalk
import Derived.Test.YtlhjbpachpjpkaaTrans
import Derived.Test.YtlhjbpachpjpkaaTomA
namespace Go.Proofs.Ytlhjbpachpjpkaa
open Go.RowKit

def lineNo (k dx dy y x : Int) : Int := dx * y - dy * x + max 0 (dy * (k - 1))
def countN (n k dx dy : Int) : Int := max (lineNo k dx dy (n - 1) 0) (lineNo k dx dy (n - 1) (k - 1)) + 1
theorem dir_bd {dx dy : Int} (h : dirOk dx dy = true) : (0 ≤ dx ∧ dx ≤ 3) ∧ -3 ≤ dy ∧ dy ≤ 3 := by
  unfold dirOk at h
  rw [Bool.and_eq_true, Bool.and_eq_true, Bool.and_eq_true, inR_iff, inR_iff] at h
  exact ⟨h.1.1.1, h.1.1.2⟩
theorem mul_bd {a b : Int} (h1 : -3 ≤ a ∧ a ≤ 3) (h2 : 0 ≤ b ∧ b ≤ 5) : -15 ≤ a * b ∧ a * b ≤ 15 := by
  have : a = -3 ∨ a = -2 ∨ a = -1 ∨ a = 0 ∨ a = 1 ∨ a = 2 ∨ a = 3 := by omega
  rcases this with rfl | rfl | rfl | rfl | rfl | rfl | rfl <;> omega
theorem lineNo_bd {n k dx dy y x : Int} (hx : 0 ≤ dx ∧ dx ≤ 3) (hy : -3 ≤ dy ∧ dy ≤ 3) (hn : 1 ≤ n ∧ n ≤ 5) (hk : 1 ≤ k ∧ k ≤ 5) (h1 : 0 ≤ y ∧ y < n) (h2 : 0 ≤ x ∧ x < k) :
    0 ≤ lineNo k dx dy y x ∧ lineNo k dx dy y x < countN n k dx dy ∧ countN n k dx dy ≤ 100 := by
  unfold countN lineNo
  have hx' : dx = 0 ∨ dx = 1 ∨ dx = 2 ∨ dx = 3 := by omega
  have hy' : dy = -3 ∨ dy = -2 ∨ dy = -1 ∨ dy = 0 ∨ dy = 1 ∨ dy = 2 ∨ dy = 3 := by omega
  clear hx hy
  rcases hx' with rfl | rfl | rfl | rfl <;> rcases hy' with rfl | rfl | rfl | rfl | rfl | rfl | rfl <;> omega
theorem countN_bd {n k dx dy : Int} (hx : 0 ≤ dx ∧ dx ≤ 3) (hy : -3 ≤ dy ∧ dy ≤ 3) (hn : 1 ≤ n ∧ n ≤ 5) (hk : 1 ≤ k ∧ k ≤ 5) : 1 ≤ countN n k dx dy ∧ countN n k dx dy ≤ 100 := by
  have := lineNo_bd (y := 0) (x := 0) hx hy hn hk (by omega) (by omega)
  omega

end Go.Proofs.Ytlhjbpachpjpkaa

namespace Go.Proofs.Ytlhjbpachpjpkaa
open Go.RowKit

end Go.Proofs.Ytlhjbpachpjpkaa

namespace Go.Proofs.Ytlhjbpachpjpkaa
open Go.RowKit Tomo

def sumTo (f : Nat → Int) : Nat → Int
  | 0 => 0
  | x + 1 => sumTo f x + f x
def sum2 (f : Nat → Nat → Int) (k : Nat) : Nat → Int
  | 0 => 0
  | a + 1 => sum2 f k a + sumTo (f a) k
theorem sumTo_bd {f : Nat → Int} {C : Int} : ∀ {x : Nat}, (∀ i, i < x → -C ≤ f i ∧ f i ≤ C) → -(C * x) ≤ sumTo f x ∧ sumTo f x ≤ C * x
  | 0, _ => by simp [sumTo]
  | x + 1, h => by
    have h1 := sumTo_bd (x := x) (fun i hi => h i (by omega))
    have h2 := h x (by omega)
    have e : C * ((x + 1 : Nat) : Int) = C * x + C := by rw [Int.natCast_add, Int.mul_add]; simp
    unfold sumTo
    rw [e]; omega
theorem sum2_bd {f : Nat → Nat → Int} {C : Int} {k : Nat} : ∀ {a : Nat}, (∀ i l, i < a → l < k → -C ≤ f i l ∧ f i l ≤ C) → -(C * k * a) ≤ sum2 f k a ∧ sum2 f k a ≤ C * k * a
  | 0, _ => by simp [sum2]
  | a + 1, h => by
    have h1 := sum2_bd (a := a) (fun i l hi hl => h i l (by omega) hl)
    have h2 := sumTo_bd (x := k) (fun l hl => h a l (by omega) hl)
    have e : C * k * ((a + 1 : Nat) : Int) = C * k * a + C * k := by rw [Int.natCast_add, Int.mul_add]; simp
    unfold sum2
    rw [e]; omega
/-- a cell's share of the sum on a line -/
def onLine (g : Grid) (k : Nat) (dx dy : Int) (j : Nat) (y x : Nat) : Int := if lineNo k dx dy y x = j then at2 g y x else 0
/-- the sums on all lines -/
def lsI (g : Grid) (n k : Nat) (dx dy : Int) : List Int := (List.range (countN n k dx dy).toNat).map fun j : Nat => sum2 (onLine g k dx dy j) k n
/-- the sums of the cells ahead of (a, b) -/
def LsSt (g : Grid) (n k : Nat) (dx dy : Int) (a b : Nat) (q : List Int) : Prop := (q.length : Int) = countN n k dx dy ∧ ∀ j : Nat, (j : Int) < countN n k dx dy → q[j]? = some (sum2 (onLine g k dx dy j) k a + sumTo (onLine g k dx dy j a) b)
theorem LsSt.start {g : Grid} {n k L : Nat} {dx dy : Int} (h : countN n k dx dy = L) : LsSt g n k dx dy 0 0 (List.replicate L 0) :=
  ⟨by rw [List.length_replicate, h], fun j hj => by rw [List.getElem?_replicate, if_pos (by omega)]; simp [sum2, sumTo]⟩
theorem LsSt.row {g : Grid} {n k : Nat} {dx dy : Int} {a : Nat} {q : List Int} (h : LsSt g n k dx dy a k q) : LsSt g n k dx dy (a + 1) 0 q :=
  ⟨h.1, fun j hj => by rw [h.2 j hj]; simp [sum2, sumTo]⟩
theorem LsSt.done {g : Grid} {n k : Nat} {dx dy : Int} {q : List Int} (h : LsSt g n k dx dy n 0 q) : q = lsI g n k dx dy := by
  apply List.ext_getElem?
  intro j
  have h1 := h.1
  unfold lsI
  by_cases hj : (j : Int) < countN n k dx dy
  · rw [h.2 j hj, List.getElem?_map, List.getElem?_range (by omega)]
    simp [sumTo]
  · rw [List.getElem?_eq_none (by omega), List.getElem?_eq_none (by rw [List.length_map, List.length_range]; omega)]
theorem LsSt.put {g : Grid} {n k : Nat} {dx dy : Int} {a b : Nat} {q : List Int} (h : LsSt g n k dx dy a b q) {l : Nat} (hl : lineNo k dx dy a b = l) (hlt : (l : Int) < countN n k dx dy) {c ov : Int} (hc : at2 g a b = c) (ho : q[l]? = some ov) :
    LsSt g n k dx dy a (b + 1) (q.set l (ov + c)) := by
  refine ⟨by rw [List.length_set]; exact h.1, fun j hj => ?_⟩
  have h1 := h.2 j hj
  by_cases e : l = j
  · subst e
    rw [List.getElem?_set_self (by have := h.1; omega)]
    rw [h1] at ho
    have e2 := Option.some.inj ho
    have e3 : onLine g k dx dy l a b = c := by unfold onLine; rw [if_pos hl, hc]
    show _ = some (_ + (sumTo (onLine g k dx dy l a) b + onLine g k dx dy l a b))
    rw [e3]; congr 1; omega
  · rw [List.getElem?_set_ne e, h1]
    have e3 : onLine g k dx dy j a b = 0 := by unfold onLine; rw [if_neg (by omega)]
    show _ = some (_ + (sumTo (onLine g k dx dy j a) b + onLine g k dx dy j a b))
    rw [e3]; congr 1; omega
theorem onLine_bd {g : Grid} {n k : Nat} {C : Int} (hC : 0 ≤ C) (hg : ∀ y x, y < n → x < k → -C ≤ at2 g y x ∧ at2 g y x ≤ C) (dx dy : Int) (j : Nat) {y x : Nat} (hy : y < n) (hx : x < k) : -C ≤ onLine g k dx dy j y x ∧ onLine g k dx dy j y x ≤ C := by
  unfold onLine
  split
  · exact hg y x hy hx
  · omega
theorem LsSt.bd {g : Grid} {n k : Nat} {dx dy : Int} {a b : Nat} {q : List Int} (h : LsSt g n k dx dy a b q) (hn : n ≤ 5) (hk : k ≤ 5) (ha : a < n) (hb : b ≤ k) (hg : ∀ y x, y < n → x < k → -100 ≤ at2 g y x ∧ at2 g y x ≤ 100) {l : Nat} {ov : Int} (ho : q[l]? = some ov) : -5000 ≤ ov ∧ ov ≤ 5000 := by
  have hl : (l : Int) < countN n k dx dy := by have := (List.getElem?_eq_some_iff.1 ho).1; have := h.1; omega
  rw [h.2 l hl] at ho
  have e := Option.some.inj ho
  have b1 := sum2_bd (f := onLine g k dx dy l) (k := k) (a := a) (fun i x hi hx => onLine_bd (by omega) hg dx dy l (y := i) (x := x) (by omega) hx)
  have b2 := sumTo_bd (f := onLine g k dx dy l a) (x := b) (fun x hx => onLine_bd (by omega) hg dx dy l (y := a) (x := x) ha (by omega))
  have h5 : (k : Int) = 0 ∨ (k : Int) = 1 ∨ (k : Int) = 2 ∨ (k : Int) = 3 ∨ (k : Int) = 4 ∨ (k : Int) = 5 := by omega
  rcases h5 with h5 | h5 | h5 | h5 | h5 | h5 <;> rw [h5] at b1 <;> omega
theorem Shape.mem {g : Grid} {n k : Nat} (h : Shape g n k) {w : World} {b o : Nat} (hg : GridAt w (some ⟨b, o, none⟩) g) {y : Nat} (hy : y < n) :
    ∃ R rc, w.cell? ⟨b, o + y, none⟩ = some (.slice R k rc) ∧ Hid (∀ W, Ext w W → ∀ x, x < k → ∃ R' ro, R = some ⟨R', ro, none⟩ ∧ W.cell? ⟨R', ro + x, none⟩ = some (.int .i64 (at2 g y x))) := by
  obtain ⟨b5, o5, R5, c5, r, hA, _, hr, hc, hi⟩ := hg.at_ (k := y) (by rw [h.1]; exact hy)
  cases hA
  have hrl := h.row hr.out
  rw [hrl] at hc
  refine ⟨R5, c5, hc, Lib.hid fun W e x hx => ?_⟩
  obtain ⟨b7, o7, c, hA7, _, hcv, hc7⟩ := (hi.ext e).at_ (k := x) (by rw [hrl]; exact hx)
  exact ⟨b7, o7, hA7, by rw [hc7, at2_of hr.out hcv.out]⟩
theorem Own.row {w : World} {B b n c : Nat} {xs : List Int} (h : Own w B (.slice (some ⟨b, 0, none⟩) n c) xs) {j : Nat} (hj : j < xs.length) :
    (∃ y, xs[j]? = some y ∧ w.cell? ⟨b, j, none⟩ = some (.int .i64 y)) ∧ w.frozen? ⟨b, j, none⟩ = false ∧ Hid (∀ y, Own (w.setCell ⟨b, j, none⟩ (.int .i64 y)) B (.slice (some ⟨b, 0, none⟩) n c) (xs.set j y)) ∧ B ≤ b := by
  have e := h.ints.1
  subst e
  obtain ⟨h1, h2, h3⟩ := h.put hj
  refine ⟨h1, h2, Lib.hid fun y => ?_, (h.lt rfl).1⟩
  have := h3 y
  exact this

end Go.Proofs.Ytlhjbpachpjpkaa

namespace Go.Proofs.Ytlhjbpachpjpkaa
open Go.RowKit Tomo

theorem grid_bd {g : Grid} {lo hi : Int} (h : gridOk g lo hi = true) : Shape g g.length (g.headD []).length ∧ (1 ≤ g.length ∧ g.length ≤ 5) ∧ (1 ≤ (g.headD []).length ∧ (g.headD []).length ≤ 5) ∧ ∀ y x, y < g.length → x < (g.headD []).length → lo ≤ at2 g y x ∧ at2 g y x ≤ hi := by
  obtain ⟨hs, h1, h2, h3, h4⟩ := gridOk_shape h
  refine ⟨hs, ⟨h1, h2⟩, ⟨h3, h4⟩, fun y x hy hx => ?_⟩
  obtain ⟨r, hr⟩ : ∃ r, g[y]? = some r := ⟨_, List.getElem?_eq_getElem hy⟩
  have hrl := hs.row hr
  obtain ⟨c, hc⟩ : ∃ c, r[x]? = some c := ⟨_, List.getElem?_eq_getElem (by omega)⟩
  rw [at2_of hr hc]
  have h5 := ((gridOk_iff.1 h).2 r (List.mem_of_getElem? hr)).2.2
  exact inR_iff.1 ((List.all_eq_true.1 h5) c (List.mem_of_getElem? hc))
/-- the sums of a grid on all lines of a direction, where both are valid -/
def gsI (g : Grid) (dx dy : Int) : List Int := if gridOk g (-100) 100 = true ∧ dirOk dx dy = true then lsI g g.length (g.headD []).length dx dy else []

end Go.Proofs.Ytlhjbpachpjpkaa
