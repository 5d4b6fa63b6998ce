/- Tests of grids, images and sums. -/
import Derived.Test.YtcojhogndimboaaRead1
namespace Go.Proofs.Ytcojhogndimboaa
open Go.RowKit

set_option maxHeartbeats 1000000 in
theorem gridOk_any (A : Option Addr) (cap : Nat) (g : List (List Int)) (lo hi : Int) (w : World) (hl : g.length ≤ 1048576) (hr : ∀ r ∈ g, r.length ≤ 1048576) (hx : GridAt w A g) :
    Calls Try.prog 16 #[.slice A g.length cap, .int .i64 lo, .int .i64 hi] w fun e w' => e = .returned (.bool (gridOk g lo hi)) ∧ w = w' := by
  cases hn : inR g.length 1 5
  · go_enter Try.func16, Try.ntmps16
    go_wp2_with (go_at_call 25; refine (within_any _ _ _ _).mono ?_; rintro e w' ⟨rfl, rfl⟩)
    go_ret
    exact ⟨ret_bool (by simp [gridOk, hn]), rfl⟩
  · obtain ⟨r0, g', rfl⟩ : ∃ r0 g', g = r0 :: g' := by
      cases g with
      | nil => simp [inR] at hn
      | cons r0 g' => exact ⟨r0, g', rfl⟩
    obtain ⟨b, o, R0, c0, rfl, _, hcell0, _⟩ := hx.head
    generalize hg : r0 :: g' = g at *
    have hhd : g.headD [] = r0 := by rw [← hg]; rfl
    have HD := Lib.hid hhd
    clear hg hhd
    go_enter Try.func16, Try.ntmps16
    go_wp2_with (go_at_call 25; refine (within_any _ _ _ _).mono ?_; rintro e w' ⟨rfl, rfl⟩)
    go_loop [15] (fun i => ∃ (k : Nat), k ≤ g.length ∧ i = .int .i64 k ∧ Hid ((g.take k).all (fun r => decide (r.length = (g.headD []).length) && inR r.length 1 5 && allIn r lo hi) = true)) (fun i => g.length - (intOf i).toNat)
    case atStart => exact ⟨0, Nat.zero_le _, rfl, Lib.hid (by simp)⟩
    case round =>
      obtain ⟨k, hk, rfl, hs⟩ := hrel
      by_cases hlt : k < g.length
      · obtain ⟨R, c, r, HX, hcell, hrow⟩ := hx.at1 hlt
        have hrl := hr r (List.mem_of_getElem? HX.out)
        clear hx hr
        by_cases he : r.length = r0.length
        · have he1 : ((r.length : Int) != (r0.length : Int)) = false := by rw [bne_eq_false_iff_eq]; omega
          have HE := Lib.hid he; clear he
          cases hw5 : inR r.length 1 5
          · go_wp2_with (go_at_call 25; refine (within_any _ _ _ _).mono ?_; rintro e w' ⟨rfl, rfl⟩)
            go_ret
            refine ⟨ret_bool ?_, rfl⟩
            unfold gridOk
            rw [all_false_of HX.out _ (by simp [hw5]), Bool.and_false]
          · cases ha : allIn r lo hi
            · go_wp2_with (first | (go_at_call 25; refine (within_any _ _ _ _).mono ?_; rintro e w' ⟨rfl, rfl⟩) | (go_at_call 26; refine (allWithin_any _ _ r _ _ _ hrl hrow).mono ?_; rintro e w' ⟨rfl, rfl⟩))
              go_ret
              refine ⟨ret_bool ?_, rfl⟩
              unfold gridOk
              rw [all_false_of HX.out _ (by simp [ha]), Bool.and_false]
            · go_wp2_with (first | (go_at_call 25; refine (within_any _ _ _ _).mono ?_; rintro e w' ⟨rfl, rfl⟩) | (go_at_call 26; refine (allWithin_any _ _ r _ _ _ hrl hrow).mono ?_; rintro e w' ⟨rfl, rfl⟩))
              go_round
              case rel => exact ⟨k + 1, by omega, by go_num, Lib.hid (by rw [take_all_succ HX.out, hs.out, HD.out, hw5, ha, decide_eq_true HE.out]; rfl)⟩
              case measure => simp [intOf]; omega
        · have he1 : ((r.length : Int) != (r0.length : Int)) = true := by rw [bne_iff_ne]; omega
          have HE := Lib.hid he; clear he
          go_wp2_with fail
          go_ret
          refine ⟨ret_bool ?_, rfl⟩
          unfold gridOk
          rw [all_false_of HX.out _ (by rw [HD.out]; simp [HE.out]), Bool.and_false]
      · obtain rfl : k = g.length := by omega
        go_wp2_with fail
        go_ret
        exact ⟨ret_bool (by have := hs.out; rw [take_full] at this; simp only [gridOk, this, hn, Bool.and_true]), rfl⟩

theorem implImageOk_any (A : Option Addr) (cap : Nat) (g : List (List Int)) (w : World) (hl : g.length ≤ 1048576) (hr : ∀ r ∈ g, r.length ≤ 1048576) (hx : GridAt w A g) :
    Calls Try.prog 35 #[.slice A g.length cap] w fun e w' => e = .returned (.bool (gridOk g 0 1)) ∧ w = w' := by
  go_enter Try.func35, Try.ntmps35
  go_wp2_with (go_at_call 16; refine (gridOk_any _ _ g _ _ _ hl hr hx).mono ?_; rintro e w' ⟨rfl, rfl⟩)
  go_ret
  exact ⟨rfl, rfl⟩

set_option maxHeartbeats 1000000 in
theorem implSumsOk_any (A B : Option Addr) (ca cb : Nat) (rows cols : List Int) (w : World) (hl : rows.length ≤ 1048576) (hl2 : cols.length ≤ 1048576) (hx : Ints w A rows) (hy : Ints w B cols) :
    Calls Try.prog 15 #[.slice A rows.length ca, .slice B cols.length cb] w fun e w' => e = .returned (.bool (sumsOk rows cols)) ∧ w = w' := by
  cases h1 : inR rows.length 1 5
  · go_enter Try.func15, Try.ntmps15
    go_wp2_with (go_at_call 25; refine (within_any _ _ _ _).mono ?_; rintro e w' ⟨rfl, rfl⟩)
    go_ret
    exact ⟨ret_bool (by simp [sumsOk, h1]), rfl⟩
  cases h2 : inR cols.length 1 5
  · go_enter Try.func15, Try.ntmps15
    go_wp2_with (go_at_call 25; refine (within_any _ _ _ _).mono ?_; rintro e w' ⟨rfl, rfl⟩)
    go_ret
    exact ⟨ret_bool (by simp [sumsOk, h1, h2]), rfl⟩
  cases h3 : allIn rows 0 cols.length
  · go_enter Try.func15, Try.ntmps15
    go_wp2_with (first | (go_at_call 25; refine (within_any _ _ _ _).mono ?_; rintro e w' ⟨rfl, rfl⟩) | (go_at_call 26; refine (allWithin_any _ _ rows _ _ _ hl hx).mono ?_; rintro e w' ⟨rfl, rfl⟩))
    go_ret
    exact ⟨ret_bool (by simp [sumsOk, h1, h2, h3]), rfl⟩
  cases h4 : allIn cols 0 rows.length
  · go_enter Try.func15, Try.ntmps15
    go_wp2_with (first | (go_at_call 25; refine (within_any _ _ _ _).mono ?_; rintro e w' ⟨rfl, rfl⟩) | (go_at_call 26; (first | (with_reducible refine (allWithin_any _ _ rows _ _ _ hl hx).mono ?_) | (with_reducible refine (allWithin_any _ _ cols _ _ _ hl2 hy).mono ?_)); rintro e w' ⟨rfl, rfl⟩))
    go_ret
    exact ⟨ret_bool (by simp [sumsOk, h1, h2, h3, h4]), rfl⟩
  · have i1 := inR_iff.1 h1
    have i2 := inR_iff.1 h2
    have s1 := small_of h3 (by omega) (by omega)
    have s2 := small_of h4 (by omega) (by omega)
    have S1 := Lib.hid s1; have S2 := Lib.hid s2
    clear s1 s2 i1 i2
    go_enter Try.func15, Try.ntmps15
    go_wp2_with (first | (go_at_call 25; refine (within_any _ _ _ _).mono ?_; rintro e w' ⟨rfl, rfl⟩) | (go_at_call 26; (first | (with_reducible refine (allWithin_any _ _ rows _ _ _ hl hx).mono ?_) | (with_reducible refine (allWithin_any _ _ cols _ _ _ hl2 hy).mono ?_)); rintro e w' ⟨rfl, rfl⟩) | (go_at_call 27; (first | (with_reducible refine (sumOf_any _ _ rows _ hl S1.out hx).mono ?_) | (with_reducible refine (sumOf_any _ _ cols _ hl2 S2.out hy).mono ?_)); rintro e w' ⟨rfl, rfl⟩))
    go_ret
    exact ⟨ret_bool (by simp [sumsOk, h1, h2, h3, h4]), rfl⟩

end Go.Proofs.Ytcojhogndimboaa
