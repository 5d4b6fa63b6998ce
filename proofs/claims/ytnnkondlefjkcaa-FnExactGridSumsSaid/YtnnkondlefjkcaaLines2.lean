/- Lines of a grid: the reference's own count. -/
import Derived.Test.YtnnkondlefjkcaaLines1
namespace Go.Proofs.Ytnnkondlefjkcaa
open Go.RowKit

set_option maxHeartbeats 1000000 in
theorem specLineOf_any (n k : Nat) (dx dy : Int) (y x : Nat) (w : World) (hn : 1 ≤ n ∧ n ≤ 5) (hk : 1 ≤ k ∧ k ≤ 5) (hd : dirOk dx dy = true) (h1 : y < n) (h2 : x < k) :
    Calls Try.prog 71 #[.int .i64 n, .int .i64 k, .agg #[.int .i64 dx, .int .i64 dy], .int .i64 y, .int .i64 x] w fun e w' => e = .returned (.int .i64 (lineNo k dx dy y x)) ∧ Ext w w' := by
  have r1 : inR n 1 5 = true := inR_iff.2 (by omega)
  have r2 : inR k 1 5 = true := inR_iff.2 (by omega)
  have r3 : inR y 0 ((n : Int) - 1) = true := inR_iff.2 (by omega)
  have r4 : inR x 0 ((k : Int) - 1) = true := inR_iff.2 (by omega)
  obtain ⟨hx, hy⟩ := dir_bd hd
  have cd := fun W => specDirectionOk_any dx dy W
  rw [hd] at cd
  obtain ⟨p1, p2⟩ := mul_bd (a := dx) (b := y) (by omega) (by omega)
  obtain ⟨p3, p4⟩ := mul_bd (a := dy) (b := x) hy (by omega)
  obtain ⟨p5, p6⟩ := mul_bd (a := dy) (b := (k : Int) - 1) hy (by omega)
  have cl := fun W => l03Least_any k dx dy W hy (by omega)
  have HL : Hid (lineNo k dx dy y x = dx * y - dy * x + max 0 (dy * ((k : Int) - 1))) := Lib.hid rfl
  have p7 : 0 ≤ max 0 (dy * ((k : Int) - 1)) ∧ max 0 (dy * ((k : Int) - 1)) ≤ 15 := by omega
  obtain ⟨D, hD⟩ : ∃ D, max 0 (dy * ((k : Int) - 1)) = D := ⟨_, rfl⟩
  rw [hD] at HL p7
  simp only [hD] at cl
  obtain ⟨p7, p8⟩ := p7
  obtain ⟨n1, n2⟩ := hn
  obtain ⟨k1, k2⟩ := hk
  have r5 : (inR n 1 5 && inR k 1 5) = true := by rw [r1, r2]; rfl
  clear hd hx hy hD p5 p6 h1 h2
  go_enter Try.func71, Try.ntmps71
  go_wp2_with (first | (go_at_call 79; refine (l03Size_any _ _ _).mono ?_; rintro e w' ⟨rfl, rfl⟩) | (go_at_call 100; refine (l01In_any _ _ _ _).mono ?_; rintro e w' ⟨rfl, rfl⟩))
  refine (cd _).mono ?_
  rintro e w1 ⟨rfl, he⟩
  have q0 : w.heap.size < w1.heap.size := by have := he.size; simp at this; omega
  have q1 : w1.cell? ⟨w.heap.size, 0, none⟩ = some (.int .i64 dx) := (he.cell (by simp)).trans (by simp)
  have q2 : w1.cell? ⟨w.heap.size, 1, none⟩ = some (.int .i64 dy) := (he.cell (by simp)).trans (by simp)
  have q3 : ∀ o, (w1.alloc o).cell? ⟨w.heap.size, 0, none⟩ = some (.int .i64 dx) := fun o => (((Ext.refl w1).alloc o).cell q0).trans q1
  have q4 : ∀ o, (w1.alloc o).cell? ⟨w.heap.size, 1, none⟩ = some (.int .i64 dy) := fun o => (((Ext.refl w1).alloc o).cell q0).trans q2
  have HE : Hid (Ext w w1) := Lib.hid (((Ext.refl w).alloc _).trans he)
  clear he cd q0
  go_wp2_with (first | (go_at_call 79; refine (l03Size_any _ _ _).mono ?_; rintro e w' ⟨rfl, rfl⟩) | (go_at_call 100; refine (l01In_any _ _ _ _).mono ?_; rintro e w' ⟨rfl, rfl⟩))
  have hw1 : IntKind.i64.wrap (dx * (y : Int)) = dx * (y : Int) := IntWalk.i64_in _ (by omega)
  have hw2 : IntKind.i64.wrap (dy * (x : Int)) = dy * (x : Int) := IntWalk.i64_in _ (by omega)
  have hw3 : IntKind.i64.wrap (dx * (y : Int) - dy * (x : Int)) = dx * (y : Int) - dy * (x : Int) := IntWalk.i64_in _ (by omega)
  have hw4 : IntKind.i64.wrap (dx * (y : Int) - dy * (x : Int) + D) = dx * (y : Int) - dy * (x : Int) + D := IntWalk.i64_in _ (by omega)
  first | go_region_with (go_at_call 108; refine (cl _).mono ?_; rintro e w' ⟨rfl, rfl⟩) | fail
  all_goals go_wp2_with fail
  all_goals
    clear hw1 hw2 hw3 hw4
    go_ret
    refine ⟨ret_int (by have := HL.out; omega), HE.out.trans ?_⟩
    first | exact ((Ext.refl _).alloc _).drew | exact ((Ext.refl _).alloc _).drew.drew
theorem countN_of {n k : Nat} {dx dy c : Int} (hx : 0 ≤ dx ∧ dx ≤ 3) (hy : -3 ≤ dy ∧ dy ≤ 3) (hn : 1 ≤ n ∧ n ≤ 5) (hk : 1 ≤ k ∧ k ≤ 5)
    (h1 : ∀ y x : Nat, y < n → x < k → 1 + lineNo k dx dy y x ≤ c) (h2 : c = 0 ∨ ∃ y x : Nat, y < n ∧ x < k ∧ c = 1 + lineNo k dx dy y x) : c = countN n k dx dy := by
  have a1 := h1 (n - 1) 0 (by omega) (by omega)
  have a2 := h1 (n - 1) (k - 1) (by omega) (by omega)
  have e1 : ((n - 1 : Nat) : Int) = (n : Int) - 1 := by omega
  have e2 : ((k - 1 : Nat) : Int) = (k : Int) - 1 := by omega
  rw [e1] at a1 a2
  rw [e2] at a2
  have b0 := (lineNo_bd (n := n) (k := k) (y := n - 1) (x := 0) hx hy (by omega) (by omega) (by omega) (by omega)).1
  have hc : countN n k dx dy = max (lineNo k dx dy (n - 1) 0) (lineNo k dx dy (n - 1) (k - 1)) + 1 := rfl
  have a3 : 1 + lineNo k dx dy (n - 1) 0 ≤ c := a1
  rcases h2 with rfl | ⟨y, x, hy1, hx1, rfl⟩
  · omega
  · have := (lineNo_bd (n := n) (k := k) (y := y) (x := x) hx hy (by omega) (by omega) (by omega) (by omega)).2.1
    omega
set_option maxHeartbeats 2000000 in
theorem specCountLines_any (n k : Nat) (dx dy : Int) (w : World) (hn : 1 ≤ n ∧ n ≤ 5) (hk : 1 ≤ k ∧ k ≤ 5) (hd : dirOk dx dy = true) :
    Calls Try.prog 70 #[.int .i64 n, .int .i64 k, .agg #[.int .i64 dx, .int .i64 dy]] w fun e w' => e = .returned (.int .i64 (countN n k dx dy)) ∧ Ext w w' := by
  have r1 : inR n 1 5 = true := inR_iff.2 (by omega)
  have r2 : inR k 1 5 = true := inR_iff.2 (by omega)
  have r5 : (inR n 1 5 && inR k 1 5) = true := by rw [r1, r2]; rfl
  have cd := fun W => specDirectionOk_any dx dy W
  rw [hd] at cd
  obtain ⟨hx, hy⟩ := dir_bd hd
  have HC : Hid (∀ (y x : Nat) W, y < n → x < k → Calls Try.prog 71 #[.int .i64 n, .int .i64 k, .agg #[.int .i64 dx, .int .i64 dy], .int .i64 y, .int .i64 x] W fun e w' => e = .returned (.int .i64 (lineNo k dx dy y x)) ∧ Ext W w') := Lib.hid fun y x W h1 h2 => specLineOf_any n k dx dy y x W hn hk hd h1 h2
  have HLB : Hid (∀ y x : Nat, y < n → x < k → 0 ≤ lineNo k dx dy y x ∧ lineNo k dx dy y x ≤ 100) := Lib.hid fun y x h1 h2 => by
    have := lineNo_bd (n := n) (k := k) (y := y) (x := x) hx hy (by omega) (by omega) (by omega) (by omega)
    omega
  have HEND := Lib.hid (fun (c : Int) h1 h2 => countN_of (c := c) hx hy hn hk h1 h2)
  obtain ⟨W0, hW0⟩ : ∃ W0, W0 = w.alloc (.cells #[.int .i64 dx, .int .i64 dy] 32) := ⟨_, rfl⟩
  have HW0 := Lib.hid hW0
  have HWE : Hid (Ext w W0) := Lib.hid (by rw [hW0]; exact (Ext.refl w).alloc _)
  have HBX : Hid (∀ W, Ext W0 W → W.cell? ⟨w.heap.size, 0, none⟩ = some (.int .i64 dx) ∧ W.cell? ⟨w.heap.size, 1, none⟩ = some (.int .i64 dy)) := Lib.hid fun W e => by
    have h1 : w.heap.size < W0.heap.size := by rw [hW0]; simp
    exact ⟨(e.cell h1).trans (by rw [hW0]; simp), (e.cell h1).trans (by rw [hW0]; simp)⟩
  clear hW0 hx hy hd
  obtain ⟨hn1, hn5⟩ := hn
  obtain ⟨hk1, hk5⟩ := hk
  go_enter Try.func70, Try.ntmps70
  go_wp2_with (go_at_call 79; refine (l03Size_any _ _ _).mono ?_; rintro e w' ⟨rfl, rfl⟩)
  refine (cd _).mono ?_
  rintro e w1 ⟨rfl, he⟩
  rw [← HW0.out] at he
  have HE1 := Lib.hid he
  clear he cd
  go_wp2_with fail
  go_loopw [7, 8, 9] (fun cv i _ wr => ∃ (a : Nat) (c : Int), a ≤ n ∧ i = .int .i64 a ∧ cv = .int .i64 c ∧ 0 ≤ c ∧ c ≤ 200 ∧ Hid (Ext W0 wr) ∧ Hid (∀ y x : Nat, y < a → x < k → 1 + lineNo k dx dy y x ≤ c) ∧ Hid (c = 0 ∨ ∃ y x : Nat, y < n ∧ x < k ∧ c = 1 + lineNo k dx dy y x)) (fun _ i _ _ => n - (intOf i).toNat)
  case atStart => exact ⟨0, 0, Nat.zero_le _, rfl, rfl, by omega, by omega, HE1, Lib.hid (fun y x h => by omega), Lib.hid (.inl rfl)⟩
  case round =>
    rename World => wa
    obtain ⟨a, c, ha, rfl, rfl, hc0, hc1, hE, hA, hB⟩ := hrel
    by_cases hlt : a < n
    · go_wp2_with fail
      go_loopw [7, 9] (fun cv i wr => ∃ (b : Nat) (c : Int), b ≤ k ∧ i = .int .i64 b ∧ cv = .int .i64 c ∧ 0 ≤ c ∧ c ≤ 200 ∧ Hid (Ext W0 wr) ∧ Hid (∀ y x : Nat, (y < a ∧ x < k) ∨ (y = a ∧ x < b) → 1 + lineNo k dx dy y x ≤ c) ∧ Hid (c = 0 ∨ ∃ y x : Nat, y < n ∧ x < k ∧ c = 1 + lineNo k dx dy y x)) (fun _ i _ => k - (intOf i).toNat)
      case atStart => exact ⟨0, c, Nat.zero_le _, rfl, rfl, hc0, hc1, hE, Lib.hid (fun y x h => by
        rcases h with ⟨h1, h2⟩ | ⟨_, h⟩
        · exact hA.out y x h1 h2
        · omega), hB⟩
      case round =>
        rename World => wb
        clear hE hA hB hc0 hc1
        obtain ⟨b, c, hbk, rfl, rfl, hc0, hc1, hE, hA, hB⟩ := hrel
        by_cases hltb : b < k
        · have cl := HC.out a b wb hlt hltb
          have hlb := HLB.out a b hlt hltb
          obtain ⟨l, hl⟩ : ∃ l : Int, lineNo k dx dy a b = l := ⟨_, rfl⟩
          rw [hl] at cl hlb
          obtain ⟨hl1, hl2⟩ := hlb
          have HNA : Hid (∀ y x : Nat, (y < a ∧ x < k) ∨ (y = a ∧ x < b + 1) → 1 + lineNo k dx dy y x ≤ max c (1 + l)) := Lib.hid (fun y x h => by
            by_cases e : y = a ∧ x = b
            · obtain ⟨rfl, rfl⟩ := e
              rw [hl]; omega
            · have := hA.out y x (by omega)
              omega)
          have HNB : Hid (max c (1 + l) = 0 ∨ ∃ y x : Nat, y < n ∧ x < k ∧ max c (1 + l) = 1 + lineNo k dx dy y x) := Lib.hid (by
            right
            by_cases e : c ≤ 1 + l
            · exact ⟨a, b, hlt, hltb, by rw [hl]; omega⟩
            · rcases hB.out with e2 | ⟨y, x, e1, e2, e3⟩
              · omega
              · exact ⟨y, x, e1, e2, by omega⟩)
          obtain ⟨bx1, bx2⟩ := HBX.out wb hE.out
          clear hl hA hB
          obtain ⟨M, hM⟩ : ∃ M, max c (1 + l) = M := ⟨_, rfl⟩
          rw [hM] at HNA HNB
          have hM1 : 0 ≤ M := by omega
          have hM2 : M ≤ 200 := by omega
          go_wp2_with fail
          refine cl.mono ?_
          rintro e w2 ⟨rfl, he⟩
          have HE2 := Lib.hid (hE.out.trans he)
          clear he cl
          go_wp2_with fail
          all_goals
            go_roundw
            case rel => exact ⟨b + 1, M, by omega, by go_num, by first | rfl | (congr 1; omega), hM1, hM2, HE2, HNA, HNB⟩
            case measure => simp [intOf]; omega
        · obtain rfl : b = k := by omega
          have HNA : Hid (∀ y x : Nat, y < a + 1 → x < b → 1 + lineNo b dx dy y x ≤ c) := Lib.hid (fun y x h1 h2 => hA.out y x (by omega))
          go_wp2_with fail
          go_roundw
          case rel => exact ⟨a + 1, c, by omega, by go_num, rfl, hc0, hc1, hE, HNA, hB⟩
          case measure => simp [intOf]; omega
    · obtain rfl : a = n := by omega
      have HF := Lib.hid (HEND.out c hA.out hB.out)
      go_wp2_with fail
      go_ret
      exact ⟨ret_int HF.out, HWE.out.trans hE.out⟩
end Go.Proofs.Ytnnkondlefjkcaa
