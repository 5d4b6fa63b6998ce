/- The smallest readers: tests of ranges, sums, searches. -/
import Derived.Test.YtmcnpdpplmbofaaMem
namespace Go.Proofs.Ytmcnpdpplmbofaa
open Go.RowKit

theorem within_any (n lo hi : Int) (w : World) : Calls Try.prog 41 #[.int .i64 n, .int .i64 lo, .int .i64 hi] w fun e w' => e = .returned (.bool (inR n lo hi)) ∧ w = w' := by
  by_cases h1 : lo ≤ n
  · by_cases h2 : n ≤ hi
    · go_enter Try.func41, Try.ntmps41
      go_wp2
      go_ret
      exact ⟨by simp [inR]; omega, rfl⟩
    · go_enter Try.func41, Try.ntmps41
      go_wp2
      go_ret
      exact ⟨by simp [inR]; omega, rfl⟩
  · go_enter Try.func41, Try.ntmps41
    go_wp2
    go_ret
    exact ⟨by simp [inR]; omega, rfl⟩

theorem l01In_any (n lo hi : Int) (w : World) : Calls Try.prog 32 #[.int .i64 n, .int .i64 lo, .int .i64 hi] w fun e w' => e = .returned (.bool (inR n lo hi)) ∧ w = w' := by
  by_cases h1 : lo ≤ n
  · by_cases h2 : n ≤ hi
    · go_enter Try.func32, Try.ntmps32
      go_wp2
      go_ret
      exact ⟨by simp [inR]; omega, rfl⟩
    · go_enter Try.func32, Try.ntmps32
      go_wp2
      go_ret
      exact ⟨by simp [inR]; omega, rfl⟩
  · go_enter Try.func32, Try.ntmps32
    go_wp2
    go_ret
    exact ⟨by simp [inR]; omega, rfl⟩

theorem allWithin_any (A : Option Addr) (cap : Nat) (xs : List Int) (lo hi : Int) (w : World) (hl : xs.length ≤ 1048576) (hx : Ints w A xs) :
    Calls Try.prog 47 #[.slice A xs.length cap, .int .i64 lo, .int .i64 hi] w fun e w' => e = .returned (.bool (allIn xs lo hi)) ∧ w = w' := by
  go_enter Try.func47, Try.ntmps47
  go_wp2_with fail
  go_loop [11] (fun i => ∃ k : Nat, k ≤ xs.length ∧ i = .int .i64 k ∧ Hid ((xs.take k).all (fun x => inR x lo hi) = true)) (fun i => xs.length - (intOf i).toNat)
  case atStart => exact ⟨0, Nat.zero_le _, rfl, Lib.hid (by simp)⟩
  case round =>
    obtain ⟨k, hk, rfl, hall⟩ := hrel
    by_cases hlt : k < xs.length
    · obtain ⟨b, o, x, rfl, _, HX, hcell⟩ := hx.at_ hlt
      clear hx
      cases hin : inR x lo hi
      · go_wp2_with (go_at_call 41; refine (within_any _ _ _ _).mono ?_; rintro e w' ⟨rfl, rfl⟩)
        go_ret
        exact ⟨ret_bool (all_false_of HX.out _ hin).symm, rfl⟩
      · go_wp2_with (go_at_call 41; refine (within_any _ _ _ _).mono ?_; rintro e w' ⟨rfl, rfl⟩)
        go_round
        case rel => exact ⟨k + 1, by omega, by go_num, Lib.hid (by rw [take_all_succ HX.out, hall.out, hin]; rfl)⟩
        case measure => simp [intOf]; omega
    · obtain rfl : k = xs.length := by omega
      go_wp2_with fail
      go_ret
      exact ⟨ret_bool (by have := hall.out; rw [List.take_length] at this; exact this.symm), rfl⟩

theorem sumOf_any (A : Option Addr) (cap : Nat) (xs : List Int) (w : World) (hl : xs.length ≤ 1048576) (hsm : Small xs) (hx : Ints w A xs) :
    Calls Try.prog 48 #[.slice A xs.length cap] w fun e w' => e = .returned (.int .i64 xs.sum) ∧ w = w' := by
  go_enter Try.func48, Try.ntmps48
  go_wp2_with fail
  go_loop [3, 8] (fun t i => ∃ (k : Nat) (s : Int), k ≤ xs.length ∧ i = .int .i64 k ∧ t = .int .i64 s ∧ Hid (s = (xs.take k).sum)) (fun _ i => xs.length - (intOf i).toNat)
  case atStart => exact ⟨0, 0, Nat.zero_le _, rfl, rfl, Lib.hid (by simp)⟩
  case round =>
    obtain ⟨k, s, hk, rfl, rfl, hs⟩ := hrel
    by_cases hlt : k < xs.length
    · obtain ⟨b, o, x, rfl, _, HX, hcell⟩ := hx.at_ hlt
      have h1 := sum_small hsm hl (k + 1)
      rw [take_sum_succ HX.out, ← hs.out] at h1
      obtain ⟨h2, h3⟩ := h1
      clear hx
      go_wp2
      go_round
      case rel => exact ⟨k + 1, s + x, by omega, by go_num, rfl, Lib.hid (by rw [take_sum_succ HX.out, hs.out])⟩
      case measure => simp [intOf]; omega
    · obtain rfl : k = xs.length := by omega
      go_wp2_with fail
      go_ret
      exact ⟨ret_int (by have := hs.out; rw [take_full] at this; exact this), rfl⟩

theorem l03Total_any (A : Option Addr) (cap : Nat) (xs : List Int) (w : World) (hl : xs.length ≤ 1048576) (hsm : Small xs) (hx : Ints w A xs) :
    Calls Try.prog 33 #[.slice A xs.length cap] w fun e w' => e = .returned (.int .i64 xs.sum) ∧ w = w' := by
  go_enter Try.func33, Try.ntmps33
  go_wp2_with fail
  go_loop [3, 8] (fun t i => ∃ (k : Nat) (s : Int), k ≤ xs.length ∧ i = .int .i64 k ∧ t = .int .i64 s ∧ Hid (s = (xs.take k).sum)) (fun _ i => xs.length - (intOf i).toNat)
  case atStart => exact ⟨0, 0, Nat.zero_le _, rfl, rfl, Lib.hid (by simp)⟩
  case round =>
    obtain ⟨k, s, hk, rfl, rfl, hs⟩ := hrel
    by_cases hlt : k < xs.length
    · obtain ⟨b, o, x, rfl, _, HX, hcell⟩ := hx.at_ hlt
      have h1 := sum_small hsm hl (k + 1)
      rw [take_sum_succ HX.out, ← hs.out] at h1
      obtain ⟨h2, h3⟩ := h1
      clear hx
      go_wp2
      go_round
      case rel => exact ⟨k + 1, s + x, by omega, by go_num, rfl, Lib.hid (by rw [take_sum_succ HX.out, hs.out])⟩
      case measure => simp [intOf]; omega
    · obtain rfl : k = xs.length := by omega
      go_wp2_with fail
      go_ret
      exact ⟨ret_int (by have := hs.out; rw [take_full] at this; exact this), rfl⟩

theorem index_any (A : Option Addr) (cap : Nat) (xs : List Int) (v : Int) (w : World) (hl : xs.length ≤ 1048576) (hx : Ints w A xs) :
    Calls Try.prog 42 #[.slice A xs.length cap, .int .i64 v] w fun e w' => e = .returned (.int .i64 (indexOf xs v)) ∧ w = w' := by
  go_enter Try.func42, Try.ntmps42
  go_wp2_with fail
  go_loop [8] (fun i => ∃ (k : Nat), k ≤ xs.length ∧ i = .int .i64 k ∧ Hid ((xs.take k).all (· != v) = true)) (fun i => xs.length - (intOf i).toNat)
  case atStart => exact ⟨0, Nat.zero_le _, rfl, Lib.hid (by simp)⟩
  case round =>
    obtain ⟨k, hk, rfl, hs⟩ := hrel
    by_cases hlt : k < xs.length
    · obtain ⟨b, o, x, rfl, _, HX, hcell⟩ := hx.at_ hlt
      clear hx
      by_cases e : v = x
      · subst e
        go_wp2
        go_ret
        exact ⟨ret_int (indexOf_hit HX.out hs.out).symm, rfl⟩
      · have e1 : (v == x) = false := by simpa using e
        have e2 : (x != v) = true := by simp; exact fun h => e h.symm
        have E2 := Lib.hid e2; clear e e2
        go_wp2
        go_round
        case rel => exact ⟨k + 1, by omega, by go_num, Lib.hid (by rw [take_all_succ HX.out, hs.out, E2.out]; rfl)⟩
        case measure => simp [intOf]; omega
    · obtain rfl : k = xs.length := by omega
      go_wp2_with fail
      go_ret
      exact ⟨ret_int (by have := hs.out; rw [take_full] at this; exact (indexOf_miss this).symm), rfl⟩

set_option maxHeartbeats 1000000 in
theorem l08Size_any (A : Option Addr) (cap : Nat) (g : List (List Int)) (rows cols lo hi : Int) (w : World) (hl : g.length ≤ 1048576) (hr : ∀ r ∈ g, r.length ≤ 1048576) (hx : GridAt w A g) :
    Calls Try.prog 23 #[.slice A g.length cap, .int .i64 rows, .int .i64 cols, .int .i64 lo, .int .i64 hi] w fun e w' => e = .returned (.bool (sized g rows cols lo hi)) ∧ w = w' := by
  by_cases hn : (g.length : Int) = rows
  · subst hn
    go_enter Try.func23, Try.ntmps23
    go_wp2_with fail
    go_loop [21] (fun i => ∃ (k : Nat), k ≤ g.length ∧ i = .int .i64 k ∧ Hid ((g.take k).all (fun r => decide ((r.length : Int) = cols) && allIn r lo hi) = true)) (fun i => g.length - (intOf i).toNat)
    case atStart => exact ⟨0, Nat.zero_le _, rfl, Lib.hid (by simp)⟩
    case round =>
      obtain ⟨k, hk, rfl, hs⟩ := hrel
      by_cases hlt : k < g.length
      · obtain ⟨b, o, R, c, r, rfl, _, HX, hcell, hrow⟩ := hx.at_ hlt
        have hrl := hr r (List.mem_of_getElem? HX.out)
        clear hx hr
        by_cases hc : (r.length : Int) = cols
        · have hc1 : ((r.length : Int) != cols) = false := by simpa using hc
          have HC := Lib.hid hc; clear hc
          go_wp2_with fail
          go_loop [31] (fun i => ∃ (j : Nat), j ≤ r.length ∧ i = .int .i64 j ∧ Hid ((r.take j).all (fun x => inR x lo hi) = true)) (fun i => r.length - (intOf i).toNat)
          case atStart => exact ⟨0, Nat.zero_le _, rfl, Lib.hid (by simp)⟩
          case round =>
            obtain ⟨j, hj, rfl, hs2⟩ := hrel
            by_cases hlt2 : j < r.length
            · obtain ⟨b2, o2, x, rfl, _, HX2, hcell2⟩ := hrow.at_ hlt2
              clear hrow
              cases hin : inR x lo hi
              · go_wp2_with (go_at_call 32; refine (l01In_any _ _ _ _).mono ?_; rintro e w' ⟨rfl, rfl⟩)
                go_ret
                refine ⟨ret_bool ?_, rfl⟩
                unfold sized
                rw [all_false_of HX.out _ (by have := all_false_of HX2.out (fun x => inR x lo hi) hin; simp only [allIn, this, Bool.and_false]), Bool.and_false]
              · go_wp2_with (go_at_call 32; refine (l01In_any _ _ _ _).mono ?_; rintro e w' ⟨rfl, rfl⟩)
                go_round
                case rel => exact ⟨j + 1, by omega, by go_num, Lib.hid (by rw [take_all_succ HX2.out, hs2.out, hin]; rfl)⟩
                case measure => simp [intOf]; omega
            · obtain rfl : j = r.length := by omega
              go_wp2_with fail
              go_round
              case rel => exact ⟨k + 1, by omega, by go_num, Lib.hid (by rw [take_all_succ HX.out, hs.out]; have := hs2.out; rw [take_full] at this; simp [allIn, this, HC.out])⟩
              case measure => simp [intOf]; omega
        · have hc1 : ((r.length : Int) != cols) = true := by simpa using hc
          have HC := Lib.hid hc; clear hc
          go_wp2_with fail
          go_ret
          refine ⟨ret_bool ?_, rfl⟩
          unfold sized
          rw [all_false_of HX.out _ (by simp [HC.out]), Bool.and_false]
      · obtain rfl : k = g.length := by omega
        go_wp2_with fail
        go_ret
        exact ⟨ret_bool (by have := hs.out; rw [take_full] at this; simp only [sized, this, decide_true, Bool.and_true]), rfl⟩
  · have hn1 : ((g.length : Int) != rows) = true := by simpa using hn
    have HN := Lib.hid hn; clear hn
    go_enter Try.func23, Try.ntmps23
    go_wp2_with fail
    go_ret
    exact ⟨ret_bool (by simp [sized, HN.out]), rfl⟩

theorem l03Size_any (n m : Int) (w : World) : Calls Try.prog 31 #[.int .i64 n, .int .i64 m] w fun e w' => e = .returned (.bool (inR n 1 5 && inR m 1 5)) ∧ w = w' := by
  cases h : inR n 1 5
  all_goals
    go_enter Try.func31, Try.ntmps31
    go_wp2_with (go_at_call 32; refine (l01In_any _ _ _ _).mono ?_; rintro e w' ⟨rfl, rfl⟩)
    go_ret
    exact ⟨by simp, rfl⟩

end Go.Proofs.Ytmcnpdpplmbofaa
