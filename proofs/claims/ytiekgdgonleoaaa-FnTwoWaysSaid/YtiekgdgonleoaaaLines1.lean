/- Lines of a grid in a direction: their numbers, and how many there are. -/
import Derived.Test.YtiekgdgonleoaaaDirs1
import Derived.Test.YtiekgdgonleoaaaRead4
import Derived.Deep.RegionHeld3
import Derived.IntWalk
namespace Go.Proofs.Ytiekgdgonleoaaa
open Go.RowKit

def lineNo (k dx dy y x : Int) : Int := dx * y - dy * x + max 0 (dy * (k - 1))
def countN (n k dx dy : Int) : Int := max (lineNo k dx dy (n - 1) 0) (lineNo k dx dy (n - 1) (k - 1)) + 1
theorem dir_bd {dx dy : Int} (h : dirOk dx dy = true) : (0 ≤ dx ∧ dx ≤ 3) ∧ -3 ≤ dy ∧ dy ≤ 3 := by
  unfold dirOk at h
  rw [Bool.and_eq_true, Bool.and_eq_true, Bool.and_eq_true, inR_iff, inR_iff] at h
  exact ⟨h.1.1.1, h.1.1.2⟩
theorem mul_bd {a b : Int} (h1 : -3 ≤ a ∧ a ≤ 3) (h2 : 0 ≤ b ∧ b ≤ 5) : -15 ≤ a * b ∧ a * b ≤ 15 := by
  have : a = -3 ∨ a = -2 ∨ a = -1 ∨ a = 0 ∨ a = 1 ∨ a = 2 ∨ a = 3 := by omega
  rcases this with rfl | rfl | rfl | rfl | rfl | rfl | rfl <;> omega
theorem lineNo_bd {n k dx dy y x : Int} (hx : 0 ≤ dx ∧ dx ≤ 3) (hy : -3 ≤ dy ∧ dy ≤ 3) (hn : 1 ≤ n ∧ n ≤ 5) (hk : 1 ≤ k ∧ k ≤ 5) (h1 : 0 ≤ y ∧ y < n) (h2 : 0 ≤ x ∧ x < k) :
    0 ≤ lineNo k dx dy y x ∧ lineNo k dx dy y x < countN n k dx dy ∧ countN n k dx dy ≤ 100 := by
  unfold countN lineNo
  have hx' : dx = 0 ∨ dx = 1 ∨ dx = 2 ∨ dx = 3 := by omega
  have hy' : dy = -3 ∨ dy = -2 ∨ dy = -1 ∨ dy = 0 ∨ dy = 1 ∨ dy = 2 ∨ dy = 3 := by omega
  clear hx hy
  rcases hx' with rfl | rfl | rfl | rfl <;> rcases hy' with rfl | rfl | rfl | rfl | rfl | rfl | rfl <;> omega
theorem countN_bd {n k dx dy : Int} (hx : 0 ≤ dx ∧ dx ≤ 3) (hy : -3 ≤ dy ∧ dy ≤ 3) (hn : 1 ≤ n ∧ n ≤ 5) (hk : 1 ≤ k ∧ k ≤ 5) : 1 ≤ countN n k dx dy ∧ countN n k dx dy ≤ 100 := by
  have := lineNo_bd (y := 0) (x := 0) hx hy hn hk (by omega) (by omega)
  omega

theorem lineOf_any (k dx dy y x : Int) (w : World) (hx : 0 ≤ dx ∧ dx ≤ 3) (hy : -3 ≤ dy ∧ dy ≤ 3) (hk : 1 ≤ k ∧ k ≤ 5) (h1 : 0 ≤ y ∧ y ≤ 5) (h2 : 0 ≤ x ∧ x ≤ 5) :
    Calls Try.prog 53 #[.int .i64 k, .agg #[.int .i64 dx, .int .i64 dy], .int .i64 y, .int .i64 x] w fun e w' => e = .returned (.int .i64 (lineNo k dx dy y x)) ∧ w' = w.alloc (.cells #[.int .i64 dx, .int .i64 dy] 35) := by
  obtain ⟨a1, a2⟩ := mul_bd (a := dx) (b := y) (by omega) h1
  obtain ⟨b1, b2⟩ := mul_bd (a := dy) (b := x) hy h2
  obtain ⟨c1, c2⟩ := mul_bd (a := dy) (b := k - 1) hy (by omega)
  obtain ⟨k1, k2⟩ := hk
  have HL : Hid (lineNo k dx dy y x = dx * y - dy * x + max 0 (dy * (k - 1))) := Lib.hid rfl
  clear hx hy h1 h2
  go_enter Try.func53, Try.ntmps53
  go_wp2_with fail
  all_goals
    go_ret
    exact ⟨ret_int (by have := HL.out; omega), rfl⟩
theorem linesOk_any (n k : Nat) (dx dy : Int) (w : World) (hn : 1 ≤ n ∧ n ≤ 5) (hk : 1 ≤ k ∧ k ≤ 5) (hd : dirOk dx dy = true) :
    Calls Try.prog 54 #[.int .i64 n, .int .i64 k, .agg #[.int .i64 dx, .int .i64 dy]] w fun e w' => e = .returned (.bool true) ∧ Ext w w' := by
  have h1 : inR n 1 5 = true := inR_iff.2 (by omega)
  have h2 : inR k 1 5 = true := inR_iff.2 (by omega)
  have cd := fun W => implDirectionOk_any dx dy W
  rw [hd] at cd
  clear hn hk hd
  go_enter Try.func54, Try.ntmps54
  go_wp2_with (go_at_call 32; refine (within_any _ _ _ _).mono ?_; rintro e w' ⟨rfl, rfl⟩)
  refine (cd _).mono ?_
  rintro e w1 ⟨rfl, he⟩
  have HE : Hid (Ext w w1) := Lib.hid (((Ext.refl w).alloc _).trans he)
  clear he
  go_wp2_with fail
  go_ret
  exact ⟨rfl, HE.out⟩
set_option maxHeartbeats 1000000 in
theorem implCountLines_any (n k : Nat) (dx dy : Int) (w : World) (hn : 1 ≤ n ∧ n ≤ 5) (hk : 1 ≤ k ∧ k ≤ 5) (hd : dirOk dx dy = true) :
    Calls Try.prog 52 #[.int .i64 n, .int .i64 k, .agg #[.int .i64 dx, .int .i64 dy]] w fun e w' => e = .returned (.int .i64 (countN n k dx dy)) ∧ Ext w w' := by
  have co := fun W => linesOk_any n k dx dy W hn hk hd
  obtain ⟨hx, hy⟩ := dir_bd hd
  have c1 := fun W => lineOf_any k dx dy (n - 1) 0 W hx hy (by omega) (by omega) (by omega)
  have c2 := fun W => lineOf_any k dx dy (n - 1) (k - 1) W hx hy (by omega) (by omega) (by omega)
  obtain ⟨b1, b2⟩ := lineNo_bd (n := n) (k := k) (y := n - 1) (x := 0) hx hy (by omega) (by omega) (by omega) (by omega)
  obtain ⟨b3, b4⟩ := lineNo_bd (n := n) (k := k) (y := n - 1) (x := k - 1) hx hy (by omega) (by omega) (by omega) (by omega)
  have HC : Hid (countN n k dx dy = max (lineNo k dx dy (n - 1) 0) (lineNo k dx dy (n - 1) (k - 1)) + 1) := Lib.hid rfl
  obtain ⟨L1, hL1⟩ : ∃ L, lineNo k dx dy (n - 1) 0 = L := ⟨_, rfl⟩
  obtain ⟨L2, hL2⟩ : ∃ L, lineNo k dx dy (n - 1) (k - 1) = L := ⟨_, rfl⟩
  rw [hL1] at b1 b2 HC
  simp only [hL1] at c1
  rw [hL2] at b3 b4 HC
  simp only [hL2] at c2
  have b5 : L1 ≤ 100 := by omega
  have b6 : L2 ≤ 100 := by omega
  obtain ⟨n1, n2⟩ := hn
  obtain ⟨k1, k2⟩ := hk
  clear hd hx hy hL1 hL2 b2 b4
  go_enter Try.func52, Try.ntmps52
  go_wp2_with fail
  refine (co _).mono ?_
  rintro e w1 ⟨rfl, he⟩
  have q1 : w1.cell? ⟨w.heap.size, 0, none⟩ = some (.int .i64 dx) := (he.cell (by simp)).trans (by simp)
  have q2 : w1.cell? ⟨w.heap.size, 1, none⟩ = some (.int .i64 dy) := (he.cell (by simp)).trans (by simp)
  have q0 : w.heap.size < w1.heap.size := by have := he.size; simp at this; omega
  have q3 : ∀ o, (w1.alloc o).cell? ⟨w.heap.size, 0, none⟩ = some (.int .i64 dx) := fun o => (((Ext.refl w1).alloc o).cell q0).trans q1
  have q4 : ∀ o, (w1.alloc o).cell? ⟨w.heap.size, 1, none⟩ = some (.int .i64 dy) := fun o => (((Ext.refl w1).alloc o).cell q0).trans q2
  have HE : Hid (Ext w w1) := Lib.hid (((Ext.refl w).alloc _).trans he)
  clear he co q0
  go_wp2_with fail
  have hw1 : IntKind.i64.wrap ((n : Int) - 1) = (n : Int) - 1 := IntWalk.i64_in _ (by omega)
  have hw2 : IntKind.i64.wrap ((k : Int) - 1) = (k : Int) - 1 := IntWalk.i64_in _ (by omega)
  have hw3 : IntKind.i64.wrap (L1 + 1) = L1 + 1 := IntWalk.i64_in _ (by omega)
  have hw4 : IntKind.i64.wrap (L2 + 1) = L2 + 1 := IntWalk.i64_in _ (by omega)
  first | go_region_with (first | (go_at_call 53; with_reducible refine (c1 _).mono ?_; rintro e w' ⟨rfl, rfl⟩) | (go_at_call 53; with_reducible refine (c2 _).mono ?_; rintro e w' ⟨rfl, rfl⟩)) | fail
  all_goals go_wp2_with fail
  all_goals
    clear hw1 hw2 hw3 hw4
    go_ret
    refine ⟨ret_int (by have := HC.out; omega), HE.out.trans ?_⟩
    first | exact (((Ext.refl _).alloc _).alloc _).drew | exact (((Ext.refl _).alloc _).alloc _).drew.drew
end Go.Proofs.Ytiekgdgonleoaaa
