/- Directions: when they are valid. -/
import Derived.Test.YtmffhmokbifadaaRead1
import Derived.Deep.OwnRows
namespace Go.Proofs.Ytmffhmokbifadaa
open Go.RowKit

def dirOk (dx dy : Int) : Bool := inR dx 0 3 && inR dy (-3) 3 && (Int.gcd dx dy == 1) && (decide (0 < dx) || dy == 1)

theorem dir_cases {dx dy : Int} (h1 : inR dx 0 3 = true) (h2 : inR dy (-3) 3 = true) : (dx = 0 ∨ dx = 1 ∨ dx = 2 ∨ dx = 3) ∧ (dy = -3 ∨ dy = -2 ∨ dy = -1 ∨ dy = 0 ∨ dy = 1 ∨ dy = 2 ∨ dy = 3) := by
  have := inR_iff.1 h1
  have := inR_iff.1 h2
  omega

/-- no number greater than 1 divides both -/
theorem dirOk_div {dx dy : Int} (h1 : inR dx 0 3 = true) (h2 : inR dy (-3) 3 = true) :
    dirOk dx dy = (!(dx == 0 && dy != 1) && !(dx % 2 == 0 && dy.tmod 2 == 0) && !(dx % 3 == 0 && dy.tmod 3 == 0)) := by
  obtain ⟨h3, h4⟩ := dir_cases h1 h2
  rcases h3 with rfl | rfl | rfl | rfl <;> rcases h4 with rfl | rfl | rfl | rfl | rfl | rfl | rfl <;> decide

theorem l03Gcd_any (a b : Int) (w : World) (ha : -1000000 ≤ a ∧ a ≤ 1000000) (hb : -1000000 ≤ b ∧ b ≤ 1000000) :
    Calls Try.prog 42 #[.int .i64 a, .int .i64 b] w fun e w' => e = .returned (.int .i64 (Int.gcd a b)) ∧ w = w' := by
  obtain ⟨ha1, ha2⟩ := ha
  obtain ⟨hb1, hb2⟩ := hb
  obtain ⟨G, hG⟩ : ∃ G : Nat, Int.gcd a b = G := ⟨_, rfl⟩
  rw [hG]
  obtain ⟨m, hm⟩ : ∃ m : Nat, max a (-a) = m := ⟨a.natAbs, by omega⟩
  obtain ⟨n, hn⟩ : ∃ n : Nat, max b (-b) = n := ⟨b.natAbs, by omega⟩
  have HG : Hid (Nat.gcd m n = G) := Lib.hid (by
    have e1 : m = a.natAbs := by omega
    have e2 : n = b.natAbs := by omega
    rw [e1, e2, ← hG]; rfl)
  have hmb : m ≤ 1000000 := by omega
  have hnb : n ≤ 1000000 := by omega
  clear hG
  by_cases sa : 0 ≤ a <;> by_cases sb : 0 ≤ b
  all_goals
    have HM := Lib.hid hm; have HN := Lib.hid hn; clear hm hn
    go_enter Try.func42, Try.ntmps42
    go_wp2_with fail
    go_loop [0, 1, 5] (fun x y _ => ∃ (p q : Nat), x = .int .i64 p ∧ y = .int .i64 q ∧ p ≤ 1000000 ∧ q ≤ 1000000 ∧ Hid (Nat.gcd p q = G)) (fun _ y _ => (intOf y).toNat)
    case atStart => exact ⟨m, n, by have := HM.out; congr 1; omega, by have := HN.out; congr 1; omega, hmb, hnb, HG⟩
    case round =>
      obtain ⟨p, q, rfl, rfl, hp, hq, hg⟩ := hrel
      by_cases hq0 : q = 0
      · have b1 : ((q : Int) != 0) = false := by rw [bne_eq_false_iff_eq]; omega
        have HQ := Lib.hid hq0; clear hq0
        go_wp2_with fail
        go_ret
        exact ⟨ret_int (by have := hg.out; rw [HQ.out, Nat.gcd_zero_right] at this; omega), rfl⟩
      · have b1 : ((q : Int) != 0) = true := by rw [bne_iff_ne]; omega
        have hq1 : 1 ≤ q := by omega
        have hm2 : p % q < q := Nat.mod_lt _ (by omega)
        have HE : Hid (Nat.gcd q (p % q) = G) := Lib.hid (by have := hg.out; rw [← this, Nat.gcd_comm p q, Nat.gcd_rec q p, Nat.gcd_comm])
        clear hq0
        go_wp2_with fail
        go_round
        case rel => exact ⟨q, p % q, rfl, by first | rfl | (congr 1; omega), by omega, by omega, HE⟩
        case measure => simp [intOf]; omega

set_option maxHeartbeats 2000000 in
theorem implDirectionOk_any (dx dy : Int) (w : World) :
    Calls Try.prog 24 #[.agg #[.int .i64 dx, .int .i64 dy]] w fun e w' => e = .returned (.bool (dirOk dx dy)) ∧ Ext w w' := by
  cases h1 : inR dx 0 3
  · go_enter Try.func24, Try.ntmps24
    go_wp2_with (go_at_call 21; refine (within_any _ _ _ _).mono ?_; rintro e w' ⟨rfl, rfl⟩)
    go_ret
    exact ⟨ret_bool (by simp [dirOk, h1]), (Ext.refl _).alloc _⟩
  cases h2 : inR dy (-3) 3
  · go_enter Try.func24, Try.ntmps24
    go_wp2_with (go_at_call 21; refine (within_any _ _ _ _).mono ?_; rintro e w' ⟨rfl, rfl⟩)
    go_ret
    exact ⟨ret_bool (by simp [dirOk, h2]), (Ext.refl _).alloc _⟩
  have HD := Lib.hid (dirOk_div h1 h2)
  obtain ⟨hx1, hx2⟩ := inR_iff.1 h1
  obtain ⟨hy1, hy2⟩ := inR_iff.1 h2
  by_cases hbad : dx = 0 ∧ dy ≠ 1
  · have b1 : (dx == 0) = true := by simpa using hbad.1
    have b2 : (dy != 1) = true := by simpa using hbad.2
    clear hbad
    go_enter Try.func24, Try.ntmps24
    go_wp2_with (go_at_call 21; refine (within_any _ _ _ _).mono ?_; rintro e w' ⟨rfl, rfl⟩)
    go_ret
    exact ⟨ret_bool (by rw [HD.out, b1, b2]; simp), (Ext.refl _).alloc _⟩
  have hgood : (dx == 0 && dy != 1) = false := by
    rw [Bool.eq_false_iff]; intro h; apply hbad; simpa using h
  clear hbad
  have HGO := Lib.hid hgood
  have hsplit : (dx == 0) = false ∨ ((dx == 0) = true ∧ (dy != 1) = false) := by
    cases e1 : (dx == 0)
    · exact .inl rfl
    · rw [e1] at hgood; exact .inr ⟨rfl, by simpa using hgood⟩
  clear hgood
  rcases hsplit with b1 | ⟨b1, b2⟩
  all_goals
    go_enter Try.func24, Try.ntmps24
    go_wp2_with (go_at_call 21; refine (within_any _ _ _ _).mono ?_; rintro e w' ⟨rfl, rfl⟩)
    go_loop [3] (fun t => ∃ n : Int, 2 ≤ n ∧ n ≤ 4 ∧ t = .int .i64 n ∧ Hid ((3 ≤ n → (dx % 2 == 0 && dy.tmod 2 == 0) = false) ∧ (4 ≤ n → (dx % 3 == 0 && dy.tmod 3 == 0) = false))) (fun t => (4 - intOf t).toNat)
    case atStart => exact ⟨2, by omega, by omega, rfl, Lib.hid ⟨fun h => by omega, fun h => by omega⟩⟩
    case round =>
      obtain ⟨n, hn1, hn2, rfl, hp⟩ := hrel
      have hn : n = 2 ∨ n = 3 ∨ n = 4 := by omega
      clear hn1 hn2
      rcases hn with rfl | rfl | rfl
      · cases hA : (dx % 2 == 0)
        · go_wp2_with fail
          go_round
          case rel => exact ⟨3, by omega, by omega, rfl, Lib.hid (by have := hp.out; simp_all)⟩
          case measure => simp [intOf]
        · cases hB : (dy.tmod 2 == 0)
          · go_wp2_with fail
            go_round
            case rel => exact ⟨3, by omega, by omega, rfl, Lib.hid (by have := hp.out; simp_all)⟩
            case measure => simp [intOf]
          · go_wp2_with fail
            go_ret
            exact ⟨ret_bool (by rw [HD.out, hA, hB]; simp), (Ext.refl _).alloc _⟩
      · cases hA : (dx % 3 == 0)
        · go_wp2_with fail
          go_round
          case rel => exact ⟨4, by omega, by omega, rfl, Lib.hid (by have := hp.out; simp_all)⟩
          case measure => simp [intOf]
        · cases hB : (dy.tmod 3 == 0)
          · go_wp2_with fail
            go_round
            case rel => exact ⟨4, by omega, by omega, rfl, Lib.hid (by have := hp.out; simp_all)⟩
            case measure => simp [intOf]
          · go_wp2_with fail
            go_ret
            exact ⟨ret_bool (by rw [HD.out, hA, hB]; simp), (Ext.refl _).alloc _⟩
      · go_wp2_with fail
        go_ret
        exact ⟨ret_bool (by rw [HD.out, HGO.out, hp.out.1 (by omega), hp.out.2 (by omega)]; rfl), (Ext.refl _).alloc _⟩

set_option maxHeartbeats 2000000 in
theorem specDirectionOk_any (dx dy : Int) (w : World) :
    Calls Try.prog 37 #[.agg #[.int .i64 dx, .int .i64 dy]] w fun e w' => e = .returned (.bool (dirOk dx dy)) ∧ Ext w w' := by
  cases h1 : inR dx 0 3
  · go_enter Try.func37, Try.ntmps37
    go_wp2_with (go_at_call 36; refine (l01In_any _ _ _ _).mono ?_; rintro e w' ⟨rfl, rfl⟩)
    go_ret
    exact ⟨ret_bool (by simp [dirOk, h1]), (Ext.refl _).alloc _⟩
  cases h2 : inR dy (-3) 3
  · go_enter Try.func37, Try.ntmps37
    go_wp2_with (go_at_call 36; refine (l01In_any _ _ _ _).mono ?_; rintro e w' ⟨rfl, rfl⟩)
    go_ret
    exact ⟨ret_bool (by simp [dirOk, h1, h2]), (Ext.refl _).alloc _⟩
  obtain ⟨hx1, hx2⟩ := inR_iff.1 h1
  obtain ⟨hy1, hy2⟩ := inR_iff.1 h2
  obtain ⟨G, hG⟩ : ∃ G : Int, (Int.gcd dx dy : Int) = G := ⟨_, rfl⟩
  have cg := fun w => l03Gcd_any dx dy w (by omega) (by omega)
  rw [hG] at cg
  by_cases hg1 : G = 1
  · have b1 : (G == 1) = true := by simpa using hg1
    have HG : Hid ((Int.gcd dx dy == 1) = true) := Lib.hid (by simp; omega)
    clear hG hg1
    by_cases hpos : 0 < dx
    · go_enter Try.func37, Try.ntmps37
      go_wp2_with (first | (go_at_call 36; refine (l01In_any _ _ _ _).mono ?_; rintro e w' ⟨rfl, rfl⟩) | (go_at_call 42; refine (cg _).mono ?_; rintro e w' ⟨rfl, rfl⟩))
      go_ret
      exact ⟨ret_bool (by unfold dirOk; rw [h1, h2, HG.out, decide_eq_true hpos]; rfl), (Ext.refl _).alloc _⟩
    · go_enter Try.func37, Try.ntmps37
      go_wp2_with (first | (go_at_call 36; refine (l01In_any _ _ _ _).mono ?_; rintro e w' ⟨rfl, rfl⟩) | (go_at_call 42; refine (cg _).mono ?_; rintro e w' ⟨rfl, rfl⟩))
      go_ret
      exact ⟨ret_bool (by unfold dirOk; rw [h1, h2, HG.out]; rfl), (Ext.refl _).alloc _⟩
  · have b1 : (G == 1) = false := by simpa using hg1
    have HG : Hid ((Int.gcd dx dy == 1) = false) := Lib.hid (by simp; omega)
    clear hG hg1
    go_enter Try.func37, Try.ntmps37
    go_wp2_with (first | (go_at_call 36; refine (l01In_any _ _ _ _).mono ?_; rintro e w' ⟨rfl, rfl⟩) | (go_at_call 42; refine (cg _).mono ?_; rintro e w' ⟨rfl, rfl⟩))
    go_ret
    exact ⟨ret_bool (by unfold dirOk; rw [h1, h2, HG.out]; rfl), (Ext.refl _).alloc _⟩
end Go.Proofs.Ytmffhmokbifadaa
