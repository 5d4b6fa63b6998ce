/- Texts merged: Read1 Read2 Read3 Read4 Read6. -/
import Derived.Test.YtlhjbpachpjpkaaMem
namespace Go.Proofs.Ytlhjbpachpjpkaa
open Go.RowKit

theorem within_any (n lo hi : Int) (w : World) : Calls Try.prog 55 #[.int .i64 n, .int .i64 lo, .int .i64 hi] w fun e w' => e = .returned (.bool (inR n lo hi)) ∧ w = w' := by
  by_cases h1 : lo ≤ n
  · by_cases h2 : n ≤ hi
    · go_enter Try.func55, Try.ntmps55
      go_wp2
      go_ret
      exact ⟨by simp [inR]; omega, rfl⟩
    · go_enter Try.func55, Try.ntmps55
      go_wp2
      go_ret
      exact ⟨by simp [inR]; omega, rfl⟩
  · go_enter Try.func55, Try.ntmps55
    go_wp2
    go_ret
    exact ⟨by simp [inR]; omega, rfl⟩

theorem l01In_any (n lo hi : Int) (w : World) : Calls Try.prog 66 #[.int .i64 n, .int .i64 lo, .int .i64 hi] w fun e w' => e = .returned (.bool (inR n lo hi)) ∧ w = w' := by
  by_cases h1 : lo ≤ n
  · by_cases h2 : n ≤ hi
    · go_enter Try.func66, Try.ntmps66
      go_wp2
      go_ret
      exact ⟨by simp [inR]; omega, rfl⟩
    · go_enter Try.func66, Try.ntmps66
      go_wp2
      go_ret
      exact ⟨by simp [inR]; omega, rfl⟩
  · go_enter Try.func66, Try.ntmps66
    go_wp2
    go_ret
    exact ⟨by simp [inR]; omega, rfl⟩

theorem allWithin_any (A : Option Addr) (cap : Nat) (xs : List Int) (lo hi : Int) (w : World) (hl : xs.length ≤ 1048576) (hx : Ints w A xs) :
    Calls Try.prog 73 #[.slice A xs.length cap, .int .i64 lo, .int .i64 hi] w fun e w' => e = .returned (.bool (allIn xs lo hi)) ∧ w = w' := by
  go_enter Try.func73, Try.ntmps73
  go_wp2_with fail
  go_loop [11] (fun i => ∃ k : Nat, k ≤ xs.length ∧ i = .int .i64 k ∧ Hid ((xs.take k).all (fun x => inR x lo hi) = true)) (fun i => xs.length - (intOf i).toNat)
  case atStart => exact ⟨0, Nat.zero_le _, rfl, Lib.hid (by simp)⟩
  case round =>
    obtain ⟨k, hk, rfl, hall⟩ := hrel
    by_cases hlt : k < xs.length
    · obtain ⟨b, o, x, rfl, _, HX, hcell⟩ := hx.at_ hlt
      clear hx
      cases hin : inR x lo hi
      · go_wp2_with (go_at_call 55; refine (within_any _ _ _ _).mono ?_; rintro e w' ⟨rfl, rfl⟩)
        go_ret
        exact ⟨ret_bool (all_false_of HX.out _ hin).symm, rfl⟩
      · go_wp2_with (go_at_call 55; refine (within_any _ _ _ _).mono ?_; rintro e w' ⟨rfl, rfl⟩)
        go_round
        case rel => exact ⟨k + 1, by omega, by go_num, Lib.hid (by rw [take_all_succ HX.out, hall.out, hin]; rfl)⟩
        case measure => simp [intOf]; omega
    · obtain rfl : k = xs.length := by omega
      go_wp2_with fail
      go_ret
      exact ⟨ret_bool (by have := hall.out; rw [List.take_length] at this; exact this.symm), rfl⟩

theorem sumOf_any (A : Option Addr) (cap : Nat) (xs : List Int) (w : World) (hl : xs.length ≤ 1048576) (hsm : Small xs) (hx : Ints w A xs) :
    Calls Try.prog 37 #[.slice A xs.length cap] w fun e w' => e = .returned (.int .i64 xs.sum) ∧ w = w' := by
  go_enter Try.func37, Try.ntmps37
  go_wp2_with fail
  go_loop [3, 8] (fun t i => ∃ (k : Nat) (s : Int), k ≤ xs.length ∧ i = .int .i64 k ∧ t = .int .i64 s ∧ Hid (s = (xs.take k).sum)) (fun _ i => xs.length - (intOf i).toNat)
  case atStart => exact ⟨0, 0, Nat.zero_le _, rfl, rfl, Lib.hid (by simp)⟩
  case round =>
    obtain ⟨k, s, hk, rfl, rfl, hs⟩ := hrel
    by_cases hlt : k < xs.length
    · obtain ⟨b, o, x, rfl, _, HX, hcell⟩ := hx.at_ hlt
      have h1 := sum_small hsm hl (k + 1)
      rw [take_sum_succ HX.out, ← hs.out] at h1
      obtain ⟨h2, h3⟩ := h1
      clear hx
      go_wp2
      go_round
      case rel => exact ⟨k + 1, s + x, by omega, by go_num, rfl, Lib.hid (by rw [take_sum_succ HX.out, hs.out])⟩
      case measure => simp [intOf]; omega
    · obtain rfl : k = xs.length := by omega
      go_wp2_with fail
      go_ret
      exact ⟨ret_int (by have := hs.out; rw [take_full] at this; exact this), rfl⟩

theorem l03Total_any (A : Option Addr) (cap : Nat) (xs : List Int) (w : World) (hl : xs.length ≤ 1048576) (hsm : Small xs) (hx : Ints w A xs) :
    Calls Try.prog 85 #[.slice A xs.length cap] w fun e w' => e = .returned (.int .i64 xs.sum) ∧ w = w' := by
  go_enter Try.func85, Try.ntmps85
  go_wp2_with fail
  go_loop [3, 8] (fun t i => ∃ (k : Nat) (s : Int), k ≤ xs.length ∧ i = .int .i64 k ∧ t = .int .i64 s ∧ Hid (s = (xs.take k).sum)) (fun _ i => xs.length - (intOf i).toNat)
  case atStart => exact ⟨0, 0, Nat.zero_le _, rfl, rfl, Lib.hid (by simp)⟩
  case round =>
    obtain ⟨k, s, hk, rfl, rfl, hs⟩ := hrel
    by_cases hlt : k < xs.length
    · obtain ⟨b, o, x, rfl, _, HX, hcell⟩ := hx.at_ hlt
      have h1 := sum_small hsm hl (k + 1)
      rw [take_sum_succ HX.out, ← hs.out] at h1
      obtain ⟨h2, h3⟩ := h1
      clear hx
      go_wp2
      go_round
      case rel => exact ⟨k + 1, s + x, by omega, by go_num, rfl, Lib.hid (by rw [take_sum_succ HX.out, hs.out])⟩
      case measure => simp [intOf]; omega
    · obtain rfl : k = xs.length := by omega
      go_wp2_with fail
      go_ret
      exact ⟨ret_int (by have := hs.out; rw [take_full] at this; exact this), rfl⟩

theorem index_any (A : Option Addr) (cap : Nat) (xs : List Int) (v : Int) (w : World) (hl : xs.length ≤ 1048576) (hx : Ints w A xs) :
    Calls Try.prog 74 #[.slice A xs.length cap, .int .i64 v] w fun e w' => e = .returned (.int .i64 (indexOf xs v)) ∧ w = w' := by
  go_enter Try.func74, Try.ntmps74
  go_wp2_with fail
  go_loop [8] (fun i => ∃ (k : Nat), k ≤ xs.length ∧ i = .int .i64 k ∧ Hid ((xs.take k).all (· != v) = true)) (fun i => xs.length - (intOf i).toNat)
  case atStart => exact ⟨0, Nat.zero_le _, rfl, Lib.hid (by simp)⟩
  case round =>
    obtain ⟨k, hk, rfl, hs⟩ := hrel
    by_cases hlt : k < xs.length
    · obtain ⟨b, o, x, rfl, _, HX, hcell⟩ := hx.at_ hlt
      clear hx
      by_cases e : v = x
      · subst e
        go_wp2
        go_ret
        exact ⟨ret_int (indexOf_hit HX.out hs.out).symm, rfl⟩
      · have e1 : (v == x) = false := by simpa using e
        have e2 : (x != v) = true := by simp; exact fun h => e h.symm
        have E2 := Lib.hid e2; clear e e2
        go_wp2
        go_round
        case rel => exact ⟨k + 1, by omega, by go_num, Lib.hid (by rw [take_all_succ HX.out, hs.out, E2.out]; rfl)⟩
        case measure => simp [intOf]; omega
    · obtain rfl : k = xs.length := by omega
      go_wp2_with fail
      go_ret
      exact ⟨ret_int (by have := hs.out; rw [take_full] at this; exact (indexOf_miss this).symm), rfl⟩


theorem l03Size_any (n m : Int) (w : World) : Calls Try.prog 97 #[.int .i64 n, .int .i64 m] w fun e w' => e = .returned (.bool (inR n 1 5 && inR m 1 5)) ∧ w = w' := by
  cases h : inR n 1 5
  all_goals
    go_enter Try.func97, Try.ntmps97
    go_wp2_with (go_at_call 66; refine (l01In_any _ _ _ _).mono ?_; rintro e w' ⟨rfl, rfl⟩)
    go_ret
    exact ⟨by simp, rfl⟩

end Go.Proofs.Ytlhjbpachpjpkaa

namespace Go.Proofs.Ytlhjbpachpjpkaa
open Go.RowKit

set_option maxHeartbeats 1000000 in
theorem gridOk_any (A : Option Addr) (cap : Nat) (g : List (List Int)) (lo hi : Int) (w : World) (hl : g.length ≤ 1048576) (hr : ∀ r ∈ g, r.length ≤ 1048576) (hx : GridAt w A g) :
    Calls Try.prog 72 #[.slice A g.length cap, .int .i64 lo, .int .i64 hi] w fun e w' => e = .returned (.bool (gridOk g lo hi)) ∧ w = w' := by
  cases hn : inR g.length 1 5
  · go_enter Try.func72, Try.ntmps72
    go_wp2_with (go_at_call 55; refine (within_any _ _ _ _).mono ?_; rintro e w' ⟨rfl, rfl⟩)
    go_ret
    exact ⟨ret_bool (by simp [gridOk, hn]), rfl⟩
  · obtain ⟨r0, g', rfl⟩ : ∃ r0 g', g = r0 :: g' := by
      cases g with
      | nil => simp [inR] at hn
      | cons r0 g' => exact ⟨r0, g', rfl⟩
    obtain ⟨b, o, R0, c0, rfl, _, hcell0, _⟩ := hx.head
    generalize hg : r0 :: g' = g at *
    have hhd : g.headD [] = r0 := by rw [← hg]; rfl
    have HD := Lib.hid hhd
    clear hg hhd
    go_enter Try.func72, Try.ntmps72
    go_wp2_with (go_at_call 55; refine (within_any _ _ _ _).mono ?_; rintro e w' ⟨rfl, rfl⟩)
    go_loop [15] (fun i => ∃ (k : Nat), k ≤ g.length ∧ i = .int .i64 k ∧ Hid ((g.take k).all (fun r => decide (r.length = (g.headD []).length) && inR r.length 1 5 && allIn r lo hi) = true)) (fun i => g.length - (intOf i).toNat)
    case atStart => exact ⟨0, Nat.zero_le _, rfl, Lib.hid (by simp)⟩
    case round =>
      obtain ⟨k, hk, rfl, hs⟩ := hrel
      by_cases hlt : k < g.length
      · obtain ⟨R, c, r, HX, hcell, hrow⟩ := hx.at1 hlt
        have hrl := hr r (List.mem_of_getElem? HX.out)
        clear hx hr
        by_cases he : r.length = r0.length
        · have he1 : ((r.length : Int) != (r0.length : Int)) = false := by rw [bne_eq_false_iff_eq]; omega
          have HE := Lib.hid he; clear he
          cases hw5 : inR r.length 1 5
          · go_wp2_with (go_at_call 55; refine (within_any _ _ _ _).mono ?_; rintro e w' ⟨rfl, rfl⟩)
            go_ret
            refine ⟨ret_bool ?_, rfl⟩
            unfold gridOk
            rw [all_false_of HX.out _ (by simp [hw5]), Bool.and_false]
          · cases ha : allIn r lo hi
            · go_wp2_with (first | (go_at_call 55; refine (within_any _ _ _ _).mono ?_; rintro e w' ⟨rfl, rfl⟩) | (go_at_call 73; refine (allWithin_any _ _ r _ _ _ hrl hrow).mono ?_; rintro e w' ⟨rfl, rfl⟩))
              go_ret
              refine ⟨ret_bool ?_, rfl⟩
              unfold gridOk
              rw [all_false_of HX.out _ (by simp [ha]), Bool.and_false]
            · go_wp2_with (first | (go_at_call 55; refine (within_any _ _ _ _).mono ?_; rintro e w' ⟨rfl, rfl⟩) | (go_at_call 73; refine (allWithin_any _ _ r _ _ _ hrl hrow).mono ?_; rintro e w' ⟨rfl, rfl⟩))
              go_round
              case rel => exact ⟨k + 1, by omega, by go_num, Lib.hid (by rw [take_all_succ HX.out, hs.out, HD.out, hw5, ha, decide_eq_true HE.out]; rfl)⟩
              case measure => simp [intOf]; omega
        · have he1 : ((r.length : Int) != (r0.length : Int)) = true := by rw [bne_iff_ne]; omega
          have HE := Lib.hid he; clear he
          go_wp2_with fail
          go_ret
          refine ⟨ret_bool ?_, rfl⟩
          unfold gridOk
          rw [all_false_of HX.out _ (by rw [HD.out]; simp [HE.out]), Bool.and_false]
      · obtain rfl : k = g.length := by omega
        go_wp2_with fail
        go_ret
        exact ⟨ret_bool (by have := hs.out; rw [take_full] at this; simp only [gridOk, this, hn, Bool.and_true]), rfl⟩

theorem implImageOk_any (A : Option Addr) (cap : Nat) (g : List (List Int)) (w : World) (hl : g.length ≤ 1048576) (hr : ∀ r ∈ g, r.length ≤ 1048576) (hx : GridAt w A g) :
    Calls Try.prog 36 #[.slice A g.length cap] w fun e w' => e = .returned (.bool (gridOk g 0 1)) ∧ w = w' := by
  go_enter Try.func36, Try.ntmps36
  go_wp2_with (go_at_call 72; refine (gridOk_any _ _ g _ _ _ hl hr hx).mono ?_; rintro e w' ⟨rfl, rfl⟩)
  go_ret
  exact ⟨rfl, rfl⟩

set_option maxHeartbeats 1000000 in
theorem implSumsOk_any (A B : Option Addr) (ca cb : Nat) (rows cols : List Int) (w : World) (hl : rows.length ≤ 1048576) (hl2 : cols.length ≤ 1048576) (hx : Ints w A rows) (hy : Ints w B cols) :
    Calls Try.prog 70 #[.slice A rows.length ca, .slice B cols.length cb] w fun e w' => e = .returned (.bool (sumsOk rows cols)) ∧ w = w' := by
  cases h1 : inR rows.length 1 5
  · go_enter Try.func70, Try.ntmps70
    go_wp2_with (go_at_call 55; refine (within_any _ _ _ _).mono ?_; rintro e w' ⟨rfl, rfl⟩)
    go_ret
    exact ⟨ret_bool (by simp [sumsOk, h1]), rfl⟩
  cases h2 : inR cols.length 1 5
  · go_enter Try.func70, Try.ntmps70
    go_wp2_with (go_at_call 55; refine (within_any _ _ _ _).mono ?_; rintro e w' ⟨rfl, rfl⟩)
    go_ret
    exact ⟨ret_bool (by simp [sumsOk, h1, h2]), rfl⟩
  cases h3 : allIn rows 0 cols.length
  · go_enter Try.func70, Try.ntmps70
    go_wp2_with (first | (go_at_call 55; refine (within_any _ _ _ _).mono ?_; rintro e w' ⟨rfl, rfl⟩) | (go_at_call 73; refine (allWithin_any _ _ rows _ _ _ hl hx).mono ?_; rintro e w' ⟨rfl, rfl⟩))
    go_ret
    exact ⟨ret_bool (by simp [sumsOk, h1, h2, h3]), rfl⟩
  cases h4 : allIn cols 0 rows.length
  · go_enter Try.func70, Try.ntmps70
    go_wp2_with (first | (go_at_call 55; refine (within_any _ _ _ _).mono ?_; rintro e w' ⟨rfl, rfl⟩) | (go_at_call 73; (first | (with_reducible refine (allWithin_any _ _ rows _ _ _ hl hx).mono ?_) | (with_reducible refine (allWithin_any _ _ cols _ _ _ hl2 hy).mono ?_)); rintro e w' ⟨rfl, rfl⟩))
    go_ret
    exact ⟨ret_bool (by simp [sumsOk, h1, h2, h3, h4]), rfl⟩
  · have i1 := inR_iff.1 h1
    have i2 := inR_iff.1 h2
    have s1 := small_of h3 (by omega) (by omega)
    have s2 := small_of h4 (by omega) (by omega)
    have S1 := Lib.hid s1; have S2 := Lib.hid s2
    clear s1 s2 i1 i2
    go_enter Try.func70, Try.ntmps70
    go_wp2_with (first | (go_at_call 55; refine (within_any _ _ _ _).mono ?_; rintro e w' ⟨rfl, rfl⟩) | (go_at_call 73; (first | (with_reducible refine (allWithin_any _ _ rows _ _ _ hl hx).mono ?_) | (with_reducible refine (allWithin_any _ _ cols _ _ _ hl2 hy).mono ?_)); rintro e w' ⟨rfl, rfl⟩) | (go_at_call 37; (first | (with_reducible refine (sumOf_any _ _ rows _ hl S1.out hx).mono ?_) | (with_reducible refine (sumOf_any _ _ cols _ hl2 S2.out hy).mono ?_)); rintro e w' ⟨rfl, rfl⟩))
    go_ret
    exact ⟨ret_bool (by simp [sumsOk, h1, h2, h3, h4]), rfl⟩

end Go.Proofs.Ytlhjbpachpjpkaa

namespace Go.Proofs.Ytlhjbpachpjpkaa
open Go.RowKit

set_option maxHeartbeats 1000000 in
theorem specImageOk_any (A : Option Addr) (cap : Nat) (g : List (List Int)) (w : World) (hl : g.length ≤ 1048576) (hr : ∀ r ∈ g, r.length ≤ 1048576) (hx : GridAt w A g) :
    Calls Try.prog 32 #[.slice A g.length cap] w fun e w' => e = .returned (.bool (gridOk g 0 1)) ∧ w = w' := by
  cases hn : inR g.length 1 5
  · go_enter Try.func32, Try.ntmps32
    go_wp2_with (go_at_call 66; refine (l01In_any _ _ _ _).mono ?_; rintro e w' ⟨rfl, rfl⟩)
    go_ret
    exact ⟨ret_bool (by simp [gridOk, hn]), rfl⟩
  · obtain ⟨r0, g', rfl⟩ : ∃ r0 g', g = r0 :: g' := by
      cases g with
      | nil => simp [inR] at hn
      | cons r0 g' => exact ⟨r0, g', rfl⟩
    obtain ⟨b, o, R0, c0, rfl, _, hcell0, _⟩ := hx.head
    have hg0 : (r0 :: g')[0]? = some r0 := rfl
    generalize hg : r0 :: g' = g at *
    have hhd : g.headD [] = r0 := by rw [← hg]; rfl
    have HD := Lib.hid hhd
    have HG0 := Lib.hid hg0
    clear hg hhd hg0
    obtain ⟨hp1, hp2⟩ := inR_iff.1 hn
    cases hn0 : inR r0.length 1 5
    · go_enter Try.func32, Try.ntmps32
      go_wp2_with (go_at_call 66; refine (l01In_any _ _ _ _).mono ?_; rintro e w' ⟨rfl, rfl⟩)
      go_ret
      refine ⟨ret_bool ?_, rfl⟩
      unfold gridOk
      rw [all_false_of HG0.out _ (by simp [hn0]), Bool.and_false]
    go_enter Try.func32, Try.ntmps32
    go_wp2_with (go_at_call 66; refine (l01In_any _ _ _ _).mono ?_; rintro e w' ⟨rfl, rfl⟩)
    go_loop [21] (fun i => ∃ (k : Nat), k ≤ g.length ∧ i = .int .i64 k ∧ Hid ((g.take k).all (fun r => decide (r.length = (g.headD []).length) && inR r.length 1 5 && allIn r 0 1) = true)) (fun i => g.length - (intOf i).toNat)
    case atStart => exact ⟨0, Nat.zero_le _, rfl, Lib.hid (by simp)⟩
    case round =>
      obtain ⟨k, hk, rfl, hs⟩ := hrel
      by_cases hlt : k < g.length
      · obtain ⟨R, c, r, HX, hcell, hrow⟩ := hx.at1 hlt
        have hrl := hr r (List.mem_of_getElem? HX.out)
        clear hx hr
        by_cases he : r.length = r0.length
        · have he1 : ((r.length : Int) != (r0.length : Int)) = false := by rw [bne_eq_false_iff_eq]; omega
          have HE := Lib.hid he; clear he
          go_wp2_with fail
          go_loop [34] (fun i => ∃ (j : Nat), j ≤ r.length ∧ i = .int .i64 j ∧ Hid ((r.take j).all (fun x => inR x 0 1) = true)) (fun i => r.length - (intOf i).toNat)
          case atStart => exact ⟨0, Nat.zero_le _, rfl, Lib.hid (by simp)⟩
          case round =>
            obtain ⟨j, hj, rfl, hs2⟩ := hrel
            by_cases hlt2 : j < r.length
            · obtain ⟨b2, o2, x, rfl, _, HX2, hcell2⟩ := hrow.at_ hlt2
              clear hrow
              by_cases e0 : x = 0
              · subst e0
                go_wp2
                go_round
                case rel => exact ⟨j + 1, by omega, by go_num, Lib.hid (by rw [take_all_succ HX2.out, hs2.out]; rfl)⟩
                case measure => simp [intOf]; omega
              · by_cases e1 : x = 1
                · subst e1
                  clear e0
                  go_wp2
                  go_round
                  case rel => exact ⟨j + 1, by omega, by go_num, Lib.hid (by rw [take_all_succ HX2.out, hs2.out]; rfl)⟩
                  case measure => simp [intOf]; omega
                · have f0 : (x != 0) = true := by simpa using e0
                  have f1 : (x != 1) = true := by simpa using e1
                  have hb : inR x 0 1 = false := by rw [inR01]; simp [e0, e1]
                  have HB := Lib.hid hb
                  clear hb e0 e1
                  go_wp2
                  go_ret
                  refine ⟨ret_bool ?_, rfl⟩
                  unfold gridOk
                  rw [all_false_of HX.out _ (by have := all_false_of HX2.out (fun x => inR x 0 1) HB.out; simp only [allIn, this, Bool.and_false]), Bool.and_false]
            · obtain rfl : j = r.length := by omega
              go_wp2_with fail
              go_round
              case rel => exact ⟨k + 1, by omega, by go_num, Lib.hid (by rw [take_all_succ HX.out, hs.out, HD.out, decide_eq_true HE.out, HE.out, hn0]; have := hs2.out; rw [take_full] at this; simp [allIn, this])⟩
              case measure => simp [intOf]; omega
        · have he1 : ((r.length : Int) != (r0.length : Int)) = true := by rw [bne_iff_ne]; omega
          have HE := Lib.hid he; clear he
          go_wp2_with fail
          go_ret
          refine ⟨ret_bool ?_, rfl⟩
          unfold gridOk
          rw [all_false_of HX.out _ (by rw [HD.out]; simp [HE.out]), Bool.and_false]
      · obtain rfl : k = g.length := by omega
        go_wp2_with fail
        go_ret
        exact ⟨ret_bool (by have := hs.out; rw [take_full] at this; simp only [gridOk, this, hn, Bool.and_true]), rfl⟩

set_option maxHeartbeats 1000000 in
theorem specSumsOk_any (A B : Option Addr) (ca cb : Nat) (rows cols : List Int) (w : World) (hl : rows.length ≤ 1048576) (hl2 : cols.length ≤ 1048576) (hx : Ints w A rows) (hy : Ints w B cols) :
    Calls Try.prog 77 #[.slice A rows.length ca, .slice B cols.length cb] w fun e w' => e = .returned (.bool (sumsOk rows cols)) ∧ w = w' := by
  cases h1 : inR rows.length 1 5 && inR cols.length 1 5
  · go_enter Try.func77, Try.ntmps77
    go_wp2_with (go_at_call 97; refine (l03Size_any _ _ _).mono ?_; rintro e w' ⟨rfl, rfl⟩)
    go_ret
    exact ⟨ret_bool (by simp [sumsOk, h1]), rfl⟩
  have i1 := h1
  simp only [Bool.and_eq_true, inR_iff] at i1
  obtain ⟨⟨i2, i3⟩, i4, i5⟩ := i1
  go_enter Try.func77, Try.ntmps77
  go_wp2_with (go_at_call 97; refine (l03Size_any _ _ _).mono ?_; rintro e w' ⟨rfl, rfl⟩)
  go_loop [17] (fun i => ∃ (k : Nat), k ≤ rows.length ∧ i = .int .i64 k ∧ Hid ((rows.take k).all (fun x => inR x 0 cols.length) = true)) (fun i => rows.length - (intOf i).toNat)
  case atStart => exact ⟨0, Nat.zero_le _, rfl, Lib.hid (by simp)⟩
  case round =>
    obtain ⟨k, hk, rfl, hall⟩ := hrel
    by_cases hlt : k < rows.length
    · obtain ⟨b, o, x, rfl, _, HX, hcell⟩ := hx.at_ hlt
      clear hx
      cases hin : inR x 0 cols.length
      · go_wp2_with (go_at_call 66; refine (l01In_any _ _ _ _).mono ?_; rintro e w' ⟨rfl, rfl⟩)
        go_ret
        exact ⟨ret_bool (by simp [sumsOk, allIn, all_false_of HX.out (fun x => inR x 0 cols.length) hin]), rfl⟩
      · go_wp2_with (go_at_call 66; refine (l01In_any _ _ _ _).mono ?_; rintro e w' ⟨rfl, rfl⟩)
        go_round
        case rel => exact ⟨k + 1, by omega, by go_num, Lib.hid (by rw [take_all_succ HX.out, hall.out, hin]; rfl)⟩
        case measure => simp [intOf]; omega
    · obtain rfl : k = rows.length := by omega
      go_wp2_with fail
      go_loop [29] (fun i => ∃ (k : Nat), k ≤ cols.length ∧ i = .int .i64 k ∧ Hid ((cols.take k).all (fun x => inR x 0 rows.length) = true)) (fun i => cols.length - (intOf i).toNat)
      case atStart => exact ⟨0, Nat.zero_le _, rfl, Lib.hid (by simp)⟩
      case round =>
        obtain ⟨k, hk2, rfl, hall2⟩ := hrel
        by_cases hlt2 : k < cols.length
        · obtain ⟨b, o, x, rfl, _, HX, hcell⟩ := hy.at_ hlt2
          clear hy
          cases hin : inR x 0 rows.length
          · go_wp2_with (go_at_call 66; refine (l01In_any _ _ _ _).mono ?_; rintro e w' ⟨rfl, rfl⟩)
            go_ret
            exact ⟨ret_bool (by simp [sumsOk, allIn, all_false_of HX.out (fun x => inR x 0 rows.length) hin]), rfl⟩
          · go_wp2_with (go_at_call 66; refine (l01In_any _ _ _ _).mono ?_; rintro e w' ⟨rfl, rfl⟩)
            go_round
            case rel => exact ⟨k + 1, by omega, by go_num, Lib.hid (by rw [take_all_succ HX.out, hall2.out, hin]; rfl)⟩
            case measure => simp [intOf]; omega
        · obtain rfl : k = cols.length := by omega
          have a1 := hall.out
          have a2 := hall2.out
          rw [take_full] at a1 a2
          have S1 := Lib.hid (small_of (l := rows) a1 (by omega) (by omega))
          have S2 := Lib.hid (small_of (l := cols) a2 (by omega) (by omega))
          have A1 := Lib.hid a1; have A2 := Lib.hid a2; clear a1 a2
          go_wp2_with (go_at_call 85; (first | (with_reducible refine (l03Total_any _ _ rows _ hl S1.out hx).mono ?_) | (with_reducible refine (l03Total_any _ _ cols _ hl2 S2.out hy).mono ?_)); rintro e w' ⟨rfl, rfl⟩)
          go_ret
          exact ⟨ret_bool (by simp [sumsOk, h1, allIn, A1.out, A2.out]), rfl⟩




end Go.Proofs.Ytlhjbpachpjpkaa

namespace Go.Proofs.Ytlhjbpachpjpkaa
open Go.RowKit




end Go.Proofs.Ytlhjbpachpjpkaa

namespace Go.Proofs.Ytlhjbpachpjpkaa
open Go.RowKit

theorem lt_of_at {α : Type} {l : List α} {k : Nat} {x : α} (h : l[k]? = some x) : k < l.length := by
  rcases Nat.lt_or_ge k l.length with h1 | h1
  · exact h1
  · rw [List.getElem?_eq_none h1] at h; cases h

theorem meetAt_eq {m mask : List (List Int)} {k : Nat} {r v : List Int} (h1 : m[k]? = some r) (h2 : mask[k]? = some v) : meetAt m mask k = (decide (v.length = r.length) && meetRow r v r.length) := by
  unfold meetAt; rw [h1, h2]; rfl
theorem meetRow_succ {r v : List Int} {j : Nat} {x y : Int} (h1 : r[j]? = some x) (h2 : v[j]? = some y) : meetRow r v (j + 1) = (meetRow r v j && (y == -1 || y == x)) := by
  unfold meetRow; rw [range_all_succ, h1, h2]; rfl
theorem meetRow_false {r v : List Int} {n j : Nat} {x y : Int} (hj : j < n) (h1 : r[j]? = some x) (h2 : v[j]? = some y) (h : (y == -1 || y == x) = false) : meetRow r v n = false :=
  range_all_false hj (by rw [h1, h2]; exact h)
/-- a mask that is met has the image's size and numbers of its own -/
theorem sized_of_meets {m mask : List (List Int)} (h : meets m mask = true) (lo hi : Int) (h1 : lo ≤ -1) (h2 : 1 ≤ hi) : sized mask m.length (m.headD []).length lo hi = true := by
  simp only [meets, Bool.and_eq_true, decide_eq_true_eq] at h
  obtain ⟨⟨hg, hl⟩, hall⟩ := h
  rw [gridOk_iff] at hg
  rw [sized_iff]
  refine ⟨by omega, fun v hv => ?_⟩
  obtain ⟨k, hk, rfl⟩ := List.mem_iff_getElem.1 hv
  have hkm : k < m.length := by omega
  have hmk := List.getElem?_eq_getElem hkm
  have hvk := List.getElem?_eq_getElem hk
  have hat := (List.all_eq_true.1 hall) k (List.mem_range.2 hkm)
  rw [meetAt_eq hmk hvk] at hat
  simp only [Bool.and_eq_true, decide_eq_true_eq] at hat
  obtain ⟨a1, a2⟩ := hat
  obtain ⟨b1, _, b3⟩ := hg.2 m[k] (List.getElem_mem hkm)
  refine ⟨by omega, List.all_eq_true.2 fun y hy => ?_⟩
  obtain ⟨j, hj, rfl⟩ := List.mem_iff_getElem.1 hy
  have hjr : j < m[k].length := by omega
  have c1 := (List.all_eq_true.1 a2) j (List.mem_range.2 hjr)
  rw [List.getElem?_eq_getElem hjr, List.getElem?_eq_getElem hj] at c1
  simp only [Option.getD_some, Bool.or_eq_true, beq_iff_eq] at c1
  have c2 := inR_iff.1 ((List.all_eq_true.1 b3) _ (List.getElem_mem hjr))
  rw [inR_iff]; omega



theorem rising_succ {xs : List Int} {limit : Int} {k : Nat} : (List.range (k + 1)).all (riseAt xs limit) = ((List.range k).all (riseAt xs limit) && riseAt xs limit k) := range_all_succ _ _
theorem riseAt_zero {xs : List Int} {limit x : Int} (h : xs[0]? = some x) : riseAt xs limit 0 = inR x 0 (limit - 1) := by unfold riseAt; rw [h]; simp
theorem riseAt_next {xs : List Int} {limit x y : Int} {k : Nat} (h : xs[k + 1]? = some x) (hy : xs[k]? = some y) : riseAt xs limit (k + 1) = (inR x 0 (limit - 1) && decide (y < x)) := by
  unfold riseAt; rw [h, Nat.add_sub_cancel, hy]; simp



end Go.Proofs.Ytlhjbpachpjpkaa
