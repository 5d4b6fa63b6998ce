/- Texts merged: Lines1 Lines2 Lines3 Lines4. -/
import Derived.Test.YtiekgdgonleoaaaDiA
import Derived.Test.YtiekgdgonleoaaaReA
import Derived.Deep.RegionHeld3
import Derived.IntWalk
import Derived.Test.YtiekgdgonleoaaaTrans
import Derived.Test.YtiekgdgonleoaaaTomA
namespace Go.Proofs.Ytiekgdgonleoaaa
open Go.RowKit

def lineNo (k dx dy y x : Int) : Int := dx * y - dy * x + max 0 (dy * (k - 1))
def countN (n k dx dy : Int) : Int := max (lineNo k dx dy (n - 1) 0) (lineNo k dx dy (n - 1) (k - 1)) + 1
theorem dir_bd {dx dy : Int} (h : dirOk dx dy = true) : (0 ≤ dx ∧ dx ≤ 3) ∧ -3 ≤ dy ∧ dy ≤ 3 := by
  unfold dirOk at h
  rw [Bool.and_eq_true, Bool.and_eq_true, Bool.and_eq_true, inR_iff, inR_iff] at h
  exact ⟨h.1.1.1, h.1.1.2⟩
theorem mul_bd {a b : Int} (h1 : -3 ≤ a ∧ a ≤ 3) (h2 : 0 ≤ b ∧ b ≤ 5) : -15 ≤ a * b ∧ a * b ≤ 15 := by
  have : a = -3 ∨ a = -2 ∨ a = -1 ∨ a = 0 ∨ a = 1 ∨ a = 2 ∨ a = 3 := by omega
  rcases this with rfl | rfl | rfl | rfl | rfl | rfl | rfl <;> omega
theorem lineNo_bd {n k dx dy y x : Int} (hx : 0 ≤ dx ∧ dx ≤ 3) (hy : -3 ≤ dy ∧ dy ≤ 3) (hn : 1 ≤ n ∧ n ≤ 5) (hk : 1 ≤ k ∧ k ≤ 5) (h1 : 0 ≤ y ∧ y < n) (h2 : 0 ≤ x ∧ x < k) :
    0 ≤ lineNo k dx dy y x ∧ lineNo k dx dy y x < countN n k dx dy ∧ countN n k dx dy ≤ 100 := by
  unfold countN lineNo
  have hx' : dx = 0 ∨ dx = 1 ∨ dx = 2 ∨ dx = 3 := by omega
  have hy' : dy = -3 ∨ dy = -2 ∨ dy = -1 ∨ dy = 0 ∨ dy = 1 ∨ dy = 2 ∨ dy = 3 := by omega
  clear hx hy
  rcases hx' with rfl | rfl | rfl | rfl <;> rcases hy' with rfl | rfl | rfl | rfl | rfl | rfl | rfl <;> omega
theorem countN_bd {n k dx dy : Int} (hx : 0 ≤ dx ∧ dx ≤ 3) (hy : -3 ≤ dy ∧ dy ≤ 3) (hn : 1 ≤ n ∧ n ≤ 5) (hk : 1 ≤ k ∧ k ≤ 5) : 1 ≤ countN n k dx dy ∧ countN n k dx dy ≤ 100 := by
  have := lineNo_bd (y := 0) (x := 0) hx hy hn hk (by omega) (by omega)
  omega

theorem lineOf_any (k dx dy y x : Int) (w : World) (hx : 0 ≤ dx ∧ dx ≤ 3) (hy : -3 ≤ dy ∧ dy ≤ 3) (hk : 1 ≤ k ∧ k ≤ 5) (h1 : 0 ≤ y ∧ y ≤ 5) (h2 : 0 ≤ x ∧ x ≤ 5) :
    Calls Try.prog 53 #[.int .i64 k, .agg #[.int .i64 dx, .int .i64 dy], .int .i64 y, .int .i64 x] w fun e w' => e = .returned (.int .i64 (lineNo k dx dy y x)) ∧ w' = w.alloc (.cells #[.int .i64 dx, .int .i64 dy] 35) := by
  obtain ⟨a1, a2⟩ := mul_bd (a := dx) (b := y) (by omega) h1
  obtain ⟨b1, b2⟩ := mul_bd (a := dy) (b := x) hy h2
  obtain ⟨c1, c2⟩ := mul_bd (a := dy) (b := k - 1) hy (by omega)
  obtain ⟨k1, k2⟩ := hk
  have HL : Hid (lineNo k dx dy y x = dx * y - dy * x + max 0 (dy * (k - 1))) := Lib.hid rfl
  clear hx hy h1 h2
  go_enter Try.func53, Try.ntmps53
  go_wp2_with fail
  all_goals
    go_ret
    exact ⟨ret_int (by have := HL.out; omega), rfl⟩
theorem linesOk_any (n k : Nat) (dx dy : Int) (w : World) (hn : 1 ≤ n ∧ n ≤ 5) (hk : 1 ≤ k ∧ k ≤ 5) (hd : dirOk dx dy = true) :
    Calls Try.prog 54 #[.int .i64 n, .int .i64 k, .agg #[.int .i64 dx, .int .i64 dy]] w fun e w' => e = .returned (.bool true) ∧ Ext w w' := by
  have h1 : inR n 1 5 = true := inR_iff.2 (by omega)
  have h2 : inR k 1 5 = true := inR_iff.2 (by omega)
  have cd := fun W => implDirectionOk_any dx dy W
  rw [hd] at cd
  clear hn hk hd
  go_enter Try.func54, Try.ntmps54
  go_wp2_with (go_at_call 32; refine (within_any _ _ _ _).mono ?_; rintro e w' ⟨rfl, rfl⟩)
  refine (cd _).mono ?_
  rintro e w1 ⟨rfl, he⟩
  have HE : Hid (Ext w w1) := Lib.hid (((Ext.refl w).alloc _).trans he)
  clear he
  go_wp2_with fail
  go_ret
  exact ⟨rfl, HE.out⟩
set_option maxHeartbeats 1000000 in
theorem implCountLines_any (n k : Nat) (dx dy : Int) (w : World) (hn : 1 ≤ n ∧ n ≤ 5) (hk : 1 ≤ k ∧ k ≤ 5) (hd : dirOk dx dy = true) :
    Calls Try.prog 52 #[.int .i64 n, .int .i64 k, .agg #[.int .i64 dx, .int .i64 dy]] w fun e w' => e = .returned (.int .i64 (countN n k dx dy)) ∧ Ext w w' := by
  have co := fun W => linesOk_any n k dx dy W hn hk hd
  obtain ⟨hx, hy⟩ := dir_bd hd
  have c1 := fun W => lineOf_any k dx dy (n - 1) 0 W hx hy (by omega) (by omega) (by omega)
  have c2 := fun W => lineOf_any k dx dy (n - 1) (k - 1) W hx hy (by omega) (by omega) (by omega)
  obtain ⟨b1, b2⟩ := lineNo_bd (n := n) (k := k) (y := n - 1) (x := 0) hx hy (by omega) (by omega) (by omega) (by omega)
  obtain ⟨b3, b4⟩ := lineNo_bd (n := n) (k := k) (y := n - 1) (x := k - 1) hx hy (by omega) (by omega) (by omega) (by omega)
  have HC : Hid (countN n k dx dy = max (lineNo k dx dy (n - 1) 0) (lineNo k dx dy (n - 1) (k - 1)) + 1) := Lib.hid rfl
  obtain ⟨L1, hL1⟩ : ∃ L, lineNo k dx dy (n - 1) 0 = L := ⟨_, rfl⟩
  obtain ⟨L2, hL2⟩ : ∃ L, lineNo k dx dy (n - 1) (k - 1) = L := ⟨_, rfl⟩
  rw [hL1] at b1 b2 HC
  simp only [hL1] at c1
  rw [hL2] at b3 b4 HC
  simp only [hL2] at c2
  have b5 : L1 ≤ 100 := by omega
  have b6 : L2 ≤ 100 := by omega
  obtain ⟨n1, n2⟩ := hn
  obtain ⟨k1, k2⟩ := hk
  clear hd hx hy hL1 hL2 b2 b4
  go_enter Try.func52, Try.ntmps52
  go_wp2_with fail
  refine (co _).mono ?_
  rintro e w1 ⟨rfl, he⟩
  have q1 : w1.cell? ⟨w.heap.size, 0, none⟩ = some (.int .i64 dx) := (he.cell (by simp)).trans (by simp)
  have q2 : w1.cell? ⟨w.heap.size, 1, none⟩ = some (.int .i64 dy) := (he.cell (by simp)).trans (by simp)
  have q0 : w.heap.size < w1.heap.size := by have := he.size; simp at this; omega
  have q3 : ∀ o, (w1.alloc o).cell? ⟨w.heap.size, 0, none⟩ = some (.int .i64 dx) := fun o => (((Ext.refl w1).alloc o).cell q0).trans q1
  have q4 : ∀ o, (w1.alloc o).cell? ⟨w.heap.size, 1, none⟩ = some (.int .i64 dy) := fun o => (((Ext.refl w1).alloc o).cell q0).trans q2
  have HE : Hid (Ext w w1) := Lib.hid (((Ext.refl w).alloc _).trans he)
  clear he co q0
  go_wp2_with fail
  have hw1 : IntKind.i64.wrap ((n : Int) - 1) = (n : Int) - 1 := IntWalk.i64_in _ (by omega)
  have hw2 : IntKind.i64.wrap ((k : Int) - 1) = (k : Int) - 1 := IntWalk.i64_in _ (by omega)
  have hw3 : IntKind.i64.wrap (L1 + 1) = L1 + 1 := IntWalk.i64_in _ (by omega)
  have hw4 : IntKind.i64.wrap (L2 + 1) = L2 + 1 := IntWalk.i64_in _ (by omega)
  first | go_region_with (first | (go_at_call 53; with_reducible refine (c1 _).mono ?_; rintro e w' ⟨rfl, rfl⟩) | (go_at_call 53; with_reducible refine (c2 _).mono ?_; rintro e w' ⟨rfl, rfl⟩)) | fail
  all_goals go_wp2_with fail
  all_goals
    clear hw1 hw2 hw3 hw4
    go_ret
    refine ⟨ret_int (by have := HC.out; omega), HE.out.trans ?_⟩
    first | exact (((Ext.refl _).alloc _).alloc _).drew | exact (((Ext.refl _).alloc _).alloc _).drew.drew
end Go.Proofs.Ytiekgdgonleoaaa

namespace Go.Proofs.Ytiekgdgonleoaaa
open Go.RowKit

end Go.Proofs.Ytiekgdgonleoaaa

namespace Go.Proofs.Ytiekgdgonleoaaa
open Go.RowKit Tomo

def sumTo (f : Nat → Int) : Nat → Int
  | 0 => 0
  | x + 1 => sumTo f x + f x
def sum2 (f : Nat → Nat → Int) (k : Nat) : Nat → Int
  | 0 => 0
  | a + 1 => sum2 f k a + sumTo (f a) k
theorem sumTo_bd {f : Nat → Int} {C : Int} : ∀ {x : Nat}, (∀ i, i < x → -C ≤ f i ∧ f i ≤ C) → -(C * x) ≤ sumTo f x ∧ sumTo f x ≤ C * x
  | 0, _ => by simp [sumTo]
  | x + 1, h => by
    have h1 := sumTo_bd (x := x) (fun i hi => h i (by omega))
    have h2 := h x (by omega)
    have e : C * ((x + 1 : Nat) : Int) = C * x + C := by rw [Int.natCast_add, Int.mul_add]; simp
    unfold sumTo
    rw [e]; omega
theorem sum2_bd {f : Nat → Nat → Int} {C : Int} {k : Nat} : ∀ {a : Nat}, (∀ i l, i < a → l < k → -C ≤ f i l ∧ f i l ≤ C) → -(C * k * a) ≤ sum2 f k a ∧ sum2 f k a ≤ C * k * a
  | 0, _ => by simp [sum2]
  | a + 1, h => by
    have h1 := sum2_bd (a := a) (fun i l hi hl => h i l (by omega) hl)
    have h2 := sumTo_bd (x := k) (fun l hl => h a l (by omega) hl)
    have e : C * k * ((a + 1 : Nat) : Int) = C * k * a + C * k := by rw [Int.natCast_add, Int.mul_add]; simp
    unfold sum2
    rw [e]; omega
/-- a cell's share of the sum on a line -/
def onLine (g : Grid) (k : Nat) (dx dy : Int) (j : Nat) (y x : Nat) : Int := if lineNo k dx dy y x = j then at2 g y x else 0
/-- the sums on all lines -/
def lsI (g : Grid) (n k : Nat) (dx dy : Int) : List Int := (List.range (countN n k dx dy).toNat).map fun j : Nat => sum2 (onLine g k dx dy j) k n
/-- the sums of the cells ahead of (a, b) -/
def LsSt (g : Grid) (n k : Nat) (dx dy : Int) (a b : Nat) (q : List Int) : Prop := (q.length : Int) = countN n k dx dy ∧ ∀ j : Nat, (j : Int) < countN n k dx dy → q[j]? = some (sum2 (onLine g k dx dy j) k a + sumTo (onLine g k dx dy j a) b)
theorem LsSt.start {g : Grid} {n k L : Nat} {dx dy : Int} (h : countN n k dx dy = L) : LsSt g n k dx dy 0 0 (List.replicate L 0) :=
  ⟨by rw [List.length_replicate, h], fun j hj => by rw [List.getElem?_replicate, if_pos (by omega)]; simp [sum2, sumTo]⟩
theorem LsSt.row {g : Grid} {n k : Nat} {dx dy : Int} {a : Nat} {q : List Int} (h : LsSt g n k dx dy a k q) : LsSt g n k dx dy (a + 1) 0 q :=
  ⟨h.1, fun j hj => by rw [h.2 j hj]; simp [sum2, sumTo]⟩
theorem LsSt.done {g : Grid} {n k : Nat} {dx dy : Int} {q : List Int} (h : LsSt g n k dx dy n 0 q) : q = lsI g n k dx dy := by
  apply List.ext_getElem?
  intro j
  have h1 := h.1
  unfold lsI
  by_cases hj : (j : Int) < countN n k dx dy
  · rw [h.2 j hj, List.getElem?_map, List.getElem?_range (by omega)]
    simp [sumTo]
  · rw [List.getElem?_eq_none (by omega), List.getElem?_eq_none (by rw [List.length_map, List.length_range]; omega)]
theorem LsSt.put {g : Grid} {n k : Nat} {dx dy : Int} {a b : Nat} {q : List Int} (h : LsSt g n k dx dy a b q) {l : Nat} (hl : lineNo k dx dy a b = l) (hlt : (l : Int) < countN n k dx dy) {c ov : Int} (hc : at2 g a b = c) (ho : q[l]? = some ov) :
    LsSt g n k dx dy a (b + 1) (q.set l (ov + c)) := by
  refine ⟨by rw [List.length_set]; exact h.1, fun j hj => ?_⟩
  have h1 := h.2 j hj
  by_cases e : l = j
  · subst e
    rw [List.getElem?_set_self (by have := h.1; omega)]
    rw [h1] at ho
    have e2 := Option.some.inj ho
    have e3 : onLine g k dx dy l a b = c := by unfold onLine; rw [if_pos hl, hc]
    show _ = some (_ + (sumTo (onLine g k dx dy l a) b + onLine g k dx dy l a b))
    rw [e3]; congr 1; omega
  · rw [List.getElem?_set_ne e, h1]
    have e3 : onLine g k dx dy j a b = 0 := by unfold onLine; rw [if_neg (by omega)]
    show _ = some (_ + (sumTo (onLine g k dx dy j a) b + onLine g k dx dy j a b))
    rw [e3]; congr 1; omega
theorem onLine_bd {g : Grid} {n k : Nat} {C : Int} (hC : 0 ≤ C) (hg : ∀ y x, y < n → x < k → -C ≤ at2 g y x ∧ at2 g y x ≤ C) (dx dy : Int) (j : Nat) {y x : Nat} (hy : y < n) (hx : x < k) : -C ≤ onLine g k dx dy j y x ∧ onLine g k dx dy j y x ≤ C := by
  unfold onLine
  split
  · exact hg y x hy hx
  · omega
theorem LsSt.bd {g : Grid} {n k : Nat} {dx dy : Int} {a b : Nat} {q : List Int} (h : LsSt g n k dx dy a b q) (hn : n ≤ 5) (hk : k ≤ 5) (ha : a < n) (hb : b ≤ k) (hg : ∀ y x, y < n → x < k → -100 ≤ at2 g y x ∧ at2 g y x ≤ 100) {l : Nat} {ov : Int} (ho : q[l]? = some ov) : -5000 ≤ ov ∧ ov ≤ 5000 := by
  have hl : (l : Int) < countN n k dx dy := by have := (List.getElem?_eq_some_iff.1 ho).1; have := h.1; omega
  rw [h.2 l hl] at ho
  have e := Option.some.inj ho
  have b1 := sum2_bd (f := onLine g k dx dy l) (k := k) (a := a) (fun i x hi hx => onLine_bd (by omega) hg dx dy l (y := i) (x := x) (by omega) hx)
  have b2 := sumTo_bd (f := onLine g k dx dy l a) (x := b) (fun x hx => onLine_bd (by omega) hg dx dy l (y := a) (x := x) ha (by omega))
  have h5 : (k : Int) = 0 ∨ (k : Int) = 1 ∨ (k : Int) = 2 ∨ (k : Int) = 3 ∨ (k : Int) = 4 ∨ (k : Int) = 5 := by omega
  rcases h5 with h5 | h5 | h5 | h5 | h5 | h5 <;> rw [h5] at b1 <;> omega
theorem Shape.mem {g : Grid} {n k : Nat} (h : Shape g n k) {w : World} {b o : Nat} (hg : GridAt w (some ⟨b, o, none⟩) g) {y : Nat} (hy : y < n) :
    ∃ R rc, w.cell? ⟨b, o + y, none⟩ = some (.slice R k rc) ∧ Hid (∀ W, Ext w W → ∀ x, x < k → ∃ R' ro, R = some ⟨R', ro, none⟩ ∧ W.cell? ⟨R', ro + x, none⟩ = some (.int .i64 (at2 g y x))) := by
  obtain ⟨b5, o5, R5, c5, r, hA, _, hr, hc, hi⟩ := hg.at_ (k := y) (by rw [h.1]; exact hy)
  cases hA
  have hrl := h.row hr.out
  rw [hrl] at hc
  refine ⟨R5, c5, hc, Lib.hid fun W e x hx => ?_⟩
  obtain ⟨b7, o7, c, hA7, _, hcv, hc7⟩ := (hi.ext e).at_ (k := x) (by rw [hrl]; exact hx)
  exact ⟨b7, o7, hA7, by rw [hc7, at2_of hr.out hcv.out]⟩
theorem Own.row {w : World} {B b n c : Nat} {xs : List Int} (h : Own w B (.slice (some ⟨b, 0, none⟩) n c) xs) {j : Nat} (hj : j < xs.length) :
    (∃ y, xs[j]? = some y ∧ w.cell? ⟨b, j, none⟩ = some (.int .i64 y)) ∧ w.frozen? ⟨b, j, none⟩ = false ∧ Hid (∀ y, Own (w.setCell ⟨b, j, none⟩ (.int .i64 y)) B (.slice (some ⟨b, 0, none⟩) n c) (xs.set j y)) ∧ B ≤ b := by
  have e := h.ints.1
  subst e
  obtain ⟨h1, h2, h3⟩ := h.put hj
  refine ⟨h1, h2, Lib.hid fun y => ?_, (h.lt rfl).1⟩
  have := h3 y
  exact this

set_option maxHeartbeats 4000000 in
theorem sumsOn_any (A : Option Addr) (ca : Nat) (g : Grid) (n k : Nat) (dx dy : Int) (w : World) (hs : Shape g n k) (hn : 1 ≤ n ∧ n ≤ 5) (hk : 1 ≤ k ∧ k ≤ 5) (hb : ∀ y x, y < n → x < k → -100 ≤ at2 g y x ∧ at2 g y x ≤ 100) (hd : dirOk dx dy = true) (hx : GridAt w A g) :
    Calls Try.prog 48 #[.slice A n ca, .agg #[.int .i64 dx, .int .i64 dy]] w fun e w' => ∃ v, e = .returned v ∧ Own w' w.heap.size v (lsI g n k dx dy) ∧ Ext w w' := by
  have cc := fun W => implCountLines_any n k dx dy W hn hk hd
  obtain ⟨h1, h2⟩ := dir_bd hd
  obtain ⟨l1, l2⟩ := countN_bd (n := n) (k := k) h1 h2 (by omega) (by omega)
  have HLN : Hid (∀ y x : Nat, y < n → x < k → 0 ≤ lineNo k dx dy y x ∧ lineNo k dx dy y x < countN n k dx dy) := Lib.hid fun y x hy hx => by
    have := lineNo_bd (n := n) (k := k) (y := y) (x := x) h1 h2 (by omega) (by omega) (by omega) (by omega)
    exact ⟨this.1, this.2.1⟩
  have HC : Hid (∀ (y x : Nat) W, y < n → x < k → Calls Try.prog 53 #[.int .i64 k, .agg #[.int .i64 dx, .int .i64 dy], .int .i64 y, .int .i64 x] W fun e w' => e = .returned (.int .i64 (lineNo k dx dy y x)) ∧ w' = W.alloc (.cells #[.int .i64 dx, .int .i64 dy] 35)) := Lib.hid fun y x W hy hx => lineOf_any k dx dy y x W h1 h2 (by omega) (by omega) (by omega)
  obtain ⟨L, hL⟩ : ∃ L : Nat, countN n k dx dy = L := ⟨(countN n k dx dy).toNat, by omega⟩
  have HST := Lib.hid (LsSt.start (g := g) hL)
  have HLL := Lib.hid hL
  rw [hL] at l1 l2 HLN
  simp only [hL] at cc
  have hmk := run_make_row' (P := Try.prog) 27 3 (.int .i64 0) 8 Try.underlying27 infoInt rfl .i64 .i64 L (by omega) (by omega)
  obtain ⟨bm, om, _, _, _, hA, hbm, _⟩ := hx.at_ (k := 0) (by rw [hs.1]; omega)
  subst hA
  obtain ⟨R0, c0, q0, _⟩ := hs.mem hx (y := 0) (by omega)
  rw [Nat.add_zero] at q0
  have HS := Lib.hid hs
  have HX := Lib.hid hx
  have HB := Lib.hid hb
  obtain ⟨W0, hW0⟩ : ∃ W0, W0 = w.alloc (.cells #[.int .i64 dx, .int .i64 dy] 35) := ⟨_, rfl⟩
  have HW0 := Lib.hid hW0
  have HWE : Hid (Ext w W0) := Lib.hid (by rw [hW0]; exact (Ext.refl w).alloc _)
  have HWS : Hid (W0.heap.size = w.heap.size + 1) := Lib.hid (by rw [hW0]; simp)
  have HBX : Hid (∀ W, Ext W0 W → W.cell? ⟨w.heap.size, 0, none⟩ = some (.int .i64 dx) ∧ W.cell? ⟨w.heap.size, 1, none⟩ = some (.int .i64 dy)) := Lib.hid fun W e => by
    have h1 : w.heap.size < W0.heap.size := by rw [hW0]; simp
    exact ⟨(e.cell h1).trans (by rw [hW0]; simp), (e.cell h1).trans (by rw [hW0]; simp)⟩
  clear hW0
  obtain ⟨hn1, hn5⟩ := hn
  obtain ⟨hk1, hk5⟩ := hk
  clear hx hs hb hL hd h1 h2
  go_enter Try.func48, Try.ntmps48
  go_wp2_with fail
  first | go_region_with (go_at_call 52; refine (cc _).mono ?_; rintro e w1 ⟨rfl, he⟩) | fail
  all_goals
    rw [← HW0.out] at he
    have HE1 : Hid (Ext W0 w1) := Lib.hid ((Ext.refl W0).drew.trans he)
    have HO1 : Hid (Own (w1.alloc (.cells (madeCells #[.int .i64 0] L) 3)) W0.heap.size (.slice (some ⟨w1.heap.size, 0, none⟩) L L) (List.replicate L 0)) := Lib.hid ((own_zeros w1 L (by omega)).base HE1.out.size)
    have HE2 : Hid (Ext W0 (w1.alloc (.cells (madeCells #[.int .i64 0] L) 3))) := Lib.hid (HE1.out.alloc _)
    obtain ⟨bo, hbo⟩ : ∃ bo, w1.heap.size = bo := ⟨_, rfl⟩
    rw [hbo] at HO1 ⊢
    clear he hbo cc
    go_wp2_with fail
    go_loopw [21, 6, 7, 8, 9] (fun i _ _ _ _ wr => ∃ (a : Nat) (q : List Int), a ≤ n ∧ i = .int .i64 a ∧ Hid (Ext W0 wr) ∧ Hid (Own wr W0.heap.size (.slice (some ⟨bo, 0, none⟩) L L) q) ∧ Hid (LsSt g n k dx dy a 0 q)) (fun i _ _ _ _ _ => n - (intOf i).toNat)
    case atStart => exact ⟨0, _, Nat.zero_le _, rfl, HE2, HO1, HST⟩
    case round =>
      rename World => wa
      obtain ⟨a, q, ha, rfl, hE, hO, hS⟩ := hrel
      by_cases hlt : a < n
      · obtain ⟨R, rc, hq0, hcell⟩ := HS.out.mem HX.out hlt
        have hq1 := ((HWE.out.trans hE.out).cell (World.block_lt_of_cell? _ _ hq0)).trans hq0
        clear hq0
        go_wp2_with fail
        go_loopw [28, 8, 9] (fun i _ _ wr => ∃ (b : Nat) (q : List Int), b ≤ k ∧ i = .int .i64 b ∧ Hid (Ext W0 wr) ∧ Hid (Own wr W0.heap.size (.slice (some ⟨bo, 0, none⟩) L L) q) ∧ Hid (LsSt g n k dx dy a b q)) (fun i _ _ _ => k - (intOf i).toNat)
        case atStart => exact ⟨0, q, Nat.zero_le _, rfl, hE, hO, hS⟩
        case round =>
          rename World => wb
          clear hE hO hS
          obtain ⟨b, q, hbk, rfl, hE, hO, hS⟩ := hrel
          by_cases hltb : b < k
          · obtain ⟨R', ro, rfl, hc1⟩ := hcell.out wb (HWE.out.trans hE.out) b hltb
            obtain ⟨z, hz⟩ : ∃ z, at2 g a b = z := ⟨_, rfl⟩
            rw [hz] at hc1
            have hzb := HB.out a b hlt hltb
            rw [hz] at hzb
            obtain ⟨hz1, hz2⟩ := hzb
            have hll := HLN.out a b hlt hltb
            have cl := HC.out a b wb hlt hltb
            obtain ⟨l, hl⟩ : ∃ l : Nat, lineNo k dx dy a b = l := ⟨(lineNo k dx dy a b).toNat, by omega⟩
            rw [hl] at hll cl
            have hlL : l < L := by omega
            have hql : q.length = L := by have := hS.out.1; rw [HLL.out] at this; omega
            obtain ⟨⟨ov, hov, hoc⟩, hof, hput, hbB⟩ := hO.out.row (j := l) (by rw [hql]; exact hlL)
            obtain ⟨ov1, ov2⟩ := hS.out.bd hn5 hk5 hlt hbk HB.out hov
            have HN := Lib.hid (hS.out.put hl (by rw [HLL.out]; omega) hz hov)
            have hbl : bo < wb.heap.size := World.block_lt_of_cell? _ _ hoc
            have HO2 : Hid (Own ((wb.setCell ⟨bo, l, none⟩ (.int .i64 (ov + z))).alloc (.cells #[.int .i64 dx, .int .i64 dy] 35)) W0.heap.size (.slice (some ⟨bo, 0, none⟩) L L) (q.set l (ov + z))) := Lib.hid ((hput.out _).ext ((Ext.refl _).alloc _))
            have HE3 : Hid (Ext W0 ((wb.setCell ⟨bo, l, none⟩ (.int .i64 (ov + z))).alloc (.cells #[.int .i64 dx, .int .i64 dy] 35))) := Lib.hid (Ext.alloc (Below.setCell hE.out hbB _) _)
            have hoc2 : ∀ o, (wb.alloc o).cell? ⟨bo, l, none⟩ = some (.int .i64 ov) := fun o => (((Ext.refl wb).alloc o).cell hbl).trans hoc
            obtain ⟨bx1, bx2⟩ := HBX.out wb hE.out
            clear hll hput hov hl hz hql
            go_wp2_with (go_at_call 53; refine cl.mono ?_; rintro e w' ⟨rfl, rfl⟩)
            go_roundw
            case rel => exact ⟨b + 1, _, by omega, by go_num, HE3, HO2, HN⟩
            case measure => simp [intOf]; omega
          · obtain rfl : b = k := by omega
            have HN := Lib.hid hS.out.row
            go_wp2_with fail
            go_roundw
            case rel => exact ⟨a + 1, q, by omega, by go_num, hE, hO, HN⟩
            case measure => simp [intOf]; omega
      · obtain rfl : a = n := by omega
        have HD := Lib.hid hS.out.done
        go_wp2_with fail
        go_ret
        exact ⟨_, rfl, by rw [← HD.out]; exact hO.out.base HWE.out.size, HWE.out.trans hE.out⟩
end Go.Proofs.Ytiekgdgonleoaaa

namespace Go.Proofs.Ytiekgdgonleoaaa
open Go.RowKit Tomo

theorem grid_bd {g : Grid} {lo hi : Int} (h : gridOk g lo hi = true) : Shape g g.length (g.headD []).length ∧ (1 ≤ g.length ∧ g.length ≤ 5) ∧ (1 ≤ (g.headD []).length ∧ (g.headD []).length ≤ 5) ∧ ∀ y x, y < g.length → x < (g.headD []).length → lo ≤ at2 g y x ∧ at2 g y x ≤ hi := by
  obtain ⟨hs, h1, h2, h3, h4⟩ := gridOk_shape h
  refine ⟨hs, ⟨h1, h2⟩, ⟨h3, h4⟩, fun y x hy hx => ?_⟩
  obtain ⟨r, hr⟩ : ∃ r, g[y]? = some r := ⟨_, List.getElem?_eq_getElem hy⟩
  have hrl := hs.row hr
  obtain ⟨c, hc⟩ : ∃ c, r[x]? = some c := ⟨_, List.getElem?_eq_getElem (by omega)⟩
  rw [at2_of hr hc]
  have h5 := ((gridOk_iff.1 h).2 r (List.mem_of_getElem? hr)).2.2
  exact inR_iff.1 ((List.all_eq_true.1 h5) c (List.mem_of_getElem? hc))
/-- the sums of a grid on all lines of a direction, where both are valid -/
def gsI (g : Grid) (dx dy : Int) : List Int := if gridOk g (-100) 100 = true ∧ dirOk dx dy = true then lsI g g.length (g.headD []).length dx dy else []

set_option maxHeartbeats 2000000 in
theorem implGridSums_any (A : Option Addr) (ca : Nat) (g : Grid) (dx dy : Int) (w : World) (hl : g.length ≤ 1048576) (hr : ∀ r ∈ g, r.length ≤ 1048576) (hx : GridAt w A g) :
    Calls Try.prog 35 #[.slice A g.length ca, .agg #[.int .i64 dx, .int .i64 dy]] w fun e w' => ∃ v, e = .returned v ∧ Own w' w.heap.size v (gsI g dx dy) ∧ Ext w w' ∧ (gsI g dx dy = [] → v = .slice none 0 0) := by
  have cg := fun W (e : Ext w W) => gridOk_any A ca g (-100) 100 W hl hr (hx.ext e)
  have cd := fun W => implDirectionOk_any dx dy W
  cases h1 : gridOk g (-100) 100
  · simp only [h1] at cg
    have HR : Hid (gsI g dx dy = []) := Lib.hid (by unfold gsI; rw [if_neg (by rw [h1]; simp)])
    have cg2 := cg _ ((Ext.refl w).alloc (.cells #[.int .i64 dx, .int .i64 dy] 35))
    clear hx hr cg
    go_enter Try.func35, Try.ntmps35
    go_wp2_with (go_at_call 31; refine cg2.mono ?_; rintro e w' ⟨rfl, rfl⟩)
    go_ret
    exact ⟨_, rfl, by rw [HR.out]; exact Own.nil _ _, (Ext.refl w).alloc _, fun _ => rfl⟩
  simp only [h1] at cg
  have cg2 := cg _ ((Ext.refl w).alloc (.cells #[.int .i64 dx, .int .i64 dy] 35))
  cases h2 : dirOk dx dy
  · simp only [h2] at cd
    have HR : Hid (gsI g dx dy = []) := Lib.hid (by unfold gsI; rw [if_neg (by rw [h2]; simp)])
    clear hx hr cg
    go_enter Try.func35, Try.ntmps35
    go_wp2_with (go_at_call 31; refine cg2.mono ?_; rintro e w' ⟨rfl, rfl⟩)
    refine (cd _).mono ?_
    rintro e w1 ⟨rfl, he⟩
    have HE := Lib.hid (((Ext.refl w).alloc _).trans he)
    clear he
    go_wp2_with fail
    go_ret
    exact ⟨_, rfl, by rw [HR.out]; exact Own.nil _ _, HE.out, fun _ => rfl⟩
  simp only [h2] at cd
  obtain ⟨hs, hn, hk, hb⟩ := grid_bd h1
  have HNE : Hid (gsI g dx dy ≠ []) := Lib.hid (by
    have h3 : gsI g dx dy = lsI g g.length (g.headD []).length dx dy := by unfold gsI; rw [if_pos ⟨h1, h2⟩]
    obtain ⟨d1, d2⟩ := dir_bd h2
    have h4 := countN_bd (n := g.length) (k := (g.headD []).length) d1 d2 (by omega) (by omega)
    intro e
    rw [h3] at e
    have := congrArg List.length e
    unfold lsI at this
    rw [List.length_map, List.length_range, List.length_nil] at this
    omega)
  have HSO : Hid (∀ W, Ext w W → Calls Try.prog 48 #[.slice A g.length ca, .agg #[.int .i64 dx, .int .i64 dy]] W fun e w' => ∃ v, e = .returned v ∧ Own w' W.heap.size v (gsI g dx dy) ∧ Ext W w') := Lib.hid fun W e => by
    have h3 : gsI g dx dy = lsI g g.length (g.headD []).length dx dy := by unfold gsI; rw [if_pos ⟨h1, h2⟩]
    rw [h3]
    exact sumsOn_any A ca g g.length (g.headD []).length dx dy W hs hn hk hb h2 (hx.ext e)
  obtain ⟨n, hgn⟩ : ∃ n, g.length = n := ⟨_, rfl⟩
  rw [hgn] at HSO cg2 ⊢
  clear hx hr cg h1 h2 hs hn hk hb hgn hl
  go_enter Try.func35, Try.ntmps35
  go_wp2_with (go_at_call 31; refine cg2.mono ?_; rintro e w' ⟨rfl, rfl⟩)
  refine (cd _).mono ?_
  rintro e w1 ⟨rfl, he⟩
  have q1 : w1.cell? ⟨w.heap.size, 0, none⟩ = some (.int .i64 dx) := (he.cell (by simp)).trans (by simp)
  have q2 : w1.cell? ⟨w.heap.size, 1, none⟩ = some (.int .i64 dy) := (he.cell (by simp)).trans (by simp)
  have HE := Lib.hid (((Ext.refl w).alloc _).trans he)
  have cs := HSO.out w1 HE.out
  clear he cd
  go_wp2_with fail
  refine cs.mono ?_
  rintro e w2 ⟨v, rfl, ho, he⟩
  have HO := Lib.hid (ho.base HE.out.size)
  have HE2 := Lib.hid (HE.out.trans he)
  clear ho he cs
  go_wp2_with fail
  go_ret
  exact ⟨_, rfl, HO.out, HE2.out, fun h => absurd h HNE.out⟩
end Go.Proofs.Ytiekgdgonleoaaa
