/- Tests of grids, images and sums. -/
import Derived.Test.YtmffhmokbifadaaRead1
namespace Go.Proofs.Ytmffhmokbifadaa
open Go.RowKit

set_option maxHeartbeats 1000000 in
theorem gridOk_any (A : Option Addr) (cap : Nat) (g : List (List Int)) (lo hi : Int) (w : World) (hl : g.length ≤ 1048576) (hr : ∀ r ∈ g, r.length ≤ 1048576) (hx : GridAt w A g) :
    Calls Try.prog 30 #[.slice A g.length cap, .int .i64 lo, .int .i64 hi] w fun e w' => e = .returned (.bool (gridOk g lo hi)) ∧ w = w' := by
  cases hn : inR g.length 1 5
  · go_enter Try.func30, Try.ntmps30
    go_wp2_with (go_at_call 21; refine (within_any _ _ _ _).mono ?_; rintro e w' ⟨rfl, rfl⟩)
    go_ret
    exact ⟨ret_bool (by simp [gridOk, hn]), rfl⟩
  · obtain ⟨r0, g', rfl⟩ : ∃ r0 g', g = r0 :: g' := by
      cases g with
      | nil => simp [inR] at hn
      | cons r0 g' => exact ⟨r0, g', rfl⟩
    obtain ⟨b, o, R0, c0, rfl, _, hcell0, _⟩ := hx.head
    generalize hg : r0 :: g' = g at *
    have hhd : g.headD [] = r0 := by rw [← hg]; rfl
    have HD := Lib.hid hhd
    clear hg hhd
    go_enter Try.func30, Try.ntmps30
    go_wp2_with (go_at_call 21; refine (within_any _ _ _ _).mono ?_; rintro e w' ⟨rfl, rfl⟩)
    go_loop [15] (fun i => ∃ (k : Nat), k ≤ g.length ∧ i = .int .i64 k ∧ Hid ((g.take k).all (fun r => decide (r.length = (g.headD []).length) && inR r.length 1 5 && allIn r lo hi) = true)) (fun i => g.length - (intOf i).toNat)
    case atStart => exact ⟨0, Nat.zero_le _, rfl, Lib.hid (by simp)⟩
    case round =>
      obtain ⟨k, hk, rfl, hs⟩ := hrel
      by_cases hlt : k < g.length
      · obtain ⟨R, c, r, HX, hcell, hrow⟩ := hx.at1 hlt
        have hrl := hr r (List.mem_of_getElem? HX.out)
        clear hx hr
        by_cases he : r.length = r0.length
        · have he1 : ((r.length : Int) != (r0.length : Int)) = false := by rw [bne_eq_false_iff_eq]; omega
          have HE := Lib.hid he; clear he
          cases hw5 : inR r.length 1 5
          · go_wp2_with (go_at_call 21; refine (within_any _ _ _ _).mono ?_; rintro e w' ⟨rfl, rfl⟩)
            go_ret
            refine ⟨ret_bool ?_, rfl⟩
            unfold gridOk
            rw [all_false_of HX.out _ (by simp [hw5]), Bool.and_false]
          · cases ha : allIn r lo hi
            · go_wp2_with (first | (go_at_call 21; refine (within_any _ _ _ _).mono ?_; rintro e w' ⟨rfl, rfl⟩) | (go_at_call 27; refine (allWithin_any _ _ r _ _ _ hrl hrow).mono ?_; rintro e w' ⟨rfl, rfl⟩))
              go_ret
              refine ⟨ret_bool ?_, rfl⟩
              unfold gridOk
              rw [all_false_of HX.out _ (by simp [ha]), Bool.and_false]
            · go_wp2_with (first | (go_at_call 21; refine (within_any _ _ _ _).mono ?_; rintro e w' ⟨rfl, rfl⟩) | (go_at_call 27; refine (allWithin_any _ _ r _ _ _ hrl hrow).mono ?_; rintro e w' ⟨rfl, rfl⟩))
              go_round
              case rel => exact ⟨k + 1, by omega, by go_num, Lib.hid (by rw [take_all_succ HX.out, hs.out, HD.out, hw5, ha, decide_eq_true HE.out]; rfl)⟩
              case measure => simp [intOf]; omega
        · have he1 : ((r.length : Int) != (r0.length : Int)) = true := by rw [bne_iff_ne]; omega
          have HE := Lib.hid he; clear he
          go_wp2_with fail
          go_ret
          refine ⟨ret_bool ?_, rfl⟩
          unfold gridOk
          rw [all_false_of HX.out _ (by rw [HD.out]; simp [HE.out]), Bool.and_false]
      · obtain rfl : k = g.length := by omega
        go_wp2_with fail
        go_ret
        exact ⟨ret_bool (by have := hs.out; rw [take_full] at this; simp only [gridOk, this, hn, Bool.and_true]), rfl⟩

theorem implImageOk_any (A : Option Addr) (cap : Nat) (g : List (List Int)) (w : World) (hl : g.length ≤ 1048576) (hr : ∀ r ∈ g, r.length ≤ 1048576) (hx : GridAt w A g) :
    Calls Try.prog 29 #[.slice A g.length cap] w fun e w' => e = .returned (.bool (gridOk g 0 1)) ∧ w = w' := by
  go_enter Try.func29, Try.ntmps29
  go_wp2_with (go_at_call 30; refine (gridOk_any _ _ g _ _ _ hl hr hx).mono ?_; rintro e w' ⟨rfl, rfl⟩)
  go_ret
  exact ⟨rfl, rfl⟩


end Go.Proofs.Ytmffhmokbifadaa
