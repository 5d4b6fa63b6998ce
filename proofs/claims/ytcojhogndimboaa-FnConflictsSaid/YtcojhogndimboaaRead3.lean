/- More tests of images, sums, lists and masks. -/
import Derived.Test.YtcojhogndimboaaRead2
namespace Go.Proofs.Ytcojhogndimboaa
open Go.RowKit

set_option maxHeartbeats 1000000 in
theorem specImageOk_any (A : Option Addr) (cap : Nat) (g : List (List Int)) (w : World) (hl : g.length ≤ 1048576) (hr : ∀ r ∈ g, r.length ≤ 1048576) (hx : GridAt w A g) :
    Calls Try.prog 21 #[.slice A g.length cap] w fun e w' => e = .returned (.bool (gridOk g 0 1)) ∧ w = w' := by
  cases hn : inR g.length 1 5
  · go_enter Try.func21, Try.ntmps21
    go_wp2_with (go_at_call 30; refine (l01In_any _ _ _ _).mono ?_; rintro e w' ⟨rfl, rfl⟩)
    go_ret
    exact ⟨ret_bool (by simp [gridOk, hn]), rfl⟩
  · obtain ⟨r0, g', rfl⟩ : ∃ r0 g', g = r0 :: g' := by
      cases g with
      | nil => simp [inR] at hn
      | cons r0 g' => exact ⟨r0, g', rfl⟩
    obtain ⟨b, o, R0, c0, rfl, _, hcell0, _⟩ := hx.head
    have hg0 : (r0 :: g')[0]? = some r0 := rfl
    generalize hg : r0 :: g' = g at *
    have hhd : g.headD [] = r0 := by rw [← hg]; rfl
    have HD := Lib.hid hhd
    have HG0 := Lib.hid hg0
    clear hg hhd hg0
    obtain ⟨hp1, hp2⟩ := inR_iff.1 hn
    cases hn0 : inR r0.length 1 5
    · go_enter Try.func21, Try.ntmps21
      go_wp2_with (go_at_call 30; refine (l01In_any _ _ _ _).mono ?_; rintro e w' ⟨rfl, rfl⟩)
      go_ret
      refine ⟨ret_bool ?_, rfl⟩
      unfold gridOk
      rw [all_false_of HG0.out _ (by simp [hn0]), Bool.and_false]
    go_enter Try.func21, Try.ntmps21
    go_wp2_with (go_at_call 30; refine (l01In_any _ _ _ _).mono ?_; rintro e w' ⟨rfl, rfl⟩)
    go_loop [21] (fun i => ∃ (k : Nat), k ≤ g.length ∧ i = .int .i64 k ∧ Hid ((g.take k).all (fun r => decide (r.length = (g.headD []).length) && inR r.length 1 5 && allIn r 0 1) = true)) (fun i => g.length - (intOf i).toNat)
    case atStart => exact ⟨0, Nat.zero_le _, rfl, Lib.hid (by simp)⟩
    case round =>
      obtain ⟨k, hk, rfl, hs⟩ := hrel
      by_cases hlt : k < g.length
      · obtain ⟨R, c, r, HX, hcell, hrow⟩ := hx.at1 hlt
        have hrl := hr r (List.mem_of_getElem? HX.out)
        clear hx hr
        by_cases he : r.length = r0.length
        · have he1 : ((r.length : Int) != (r0.length : Int)) = false := by rw [bne_eq_false_iff_eq]; omega
          have HE := Lib.hid he; clear he
          go_wp2_with fail
          go_loop [34] (fun i => ∃ (j : Nat), j ≤ r.length ∧ i = .int .i64 j ∧ Hid ((r.take j).all (fun x => inR x 0 1) = true)) (fun i => r.length - (intOf i).toNat)
          case atStart => exact ⟨0, Nat.zero_le _, rfl, Lib.hid (by simp)⟩
          case round =>
            obtain ⟨j, hj, rfl, hs2⟩ := hrel
            by_cases hlt2 : j < r.length
            · obtain ⟨b2, o2, x, rfl, _, HX2, hcell2⟩ := hrow.at_ hlt2
              clear hrow
              by_cases e0 : x = 0
              · subst e0
                go_wp2
                go_round
                case rel => exact ⟨j + 1, by omega, by go_num, Lib.hid (by rw [take_all_succ HX2.out, hs2.out]; rfl)⟩
                case measure => simp [intOf]; omega
              · by_cases e1 : x = 1
                · subst e1
                  clear e0
                  go_wp2
                  go_round
                  case rel => exact ⟨j + 1, by omega, by go_num, Lib.hid (by rw [take_all_succ HX2.out, hs2.out]; rfl)⟩
                  case measure => simp [intOf]; omega
                · have f0 : (x != 0) = true := by simpa using e0
                  have f1 : (x != 1) = true := by simpa using e1
                  have hb : inR x 0 1 = false := by rw [inR01]; simp [e0, e1]
                  have HB := Lib.hid hb
                  clear hb e0 e1
                  go_wp2
                  go_ret
                  refine ⟨ret_bool ?_, rfl⟩
                  unfold gridOk
                  rw [all_false_of HX.out _ (by have := all_false_of HX2.out (fun x => inR x 0 1) HB.out; simp only [allIn, this, Bool.and_false]), Bool.and_false]
            · obtain rfl : j = r.length := by omega
              go_wp2_with fail
              go_round
              case rel => exact ⟨k + 1, by omega, by go_num, Lib.hid (by rw [take_all_succ HX.out, hs.out, HD.out, decide_eq_true HE.out, HE.out, hn0]; have := hs2.out; rw [take_full] at this; simp [allIn, this])⟩
              case measure => simp [intOf]; omega
        · have he1 : ((r.length : Int) != (r0.length : Int)) = true := by rw [bne_iff_ne]; omega
          have HE := Lib.hid he; clear he
          go_wp2_with fail
          go_ret
          refine ⟨ret_bool ?_, rfl⟩
          unfold gridOk
          rw [all_false_of HX.out _ (by rw [HD.out]; simp [HE.out]), Bool.and_false]
      · obtain rfl : k = g.length := by omega
        go_wp2_with fail
        go_ret
        exact ⟨ret_bool (by have := hs.out; rw [take_full] at this; simp only [gridOk, this, hn, Bool.and_true]), rfl⟩


theorem contains_any (A : Option Addr) (cap : Nat) (xs : List Int) (v : Int) (w : World) (hl : xs.length ≤ 1048576) (hx : Ints w A xs) :
    Calls Try.prog 18 #[.slice A xs.length cap, .int .i64 v] w fun e w' => e = .returned (.bool (hasI xs v)) ∧ w = w' := by
  go_enter Try.func18, Try.ntmps18
  go_wp2_with (go_at_call 28; refine (index_any _ _ xs _ _ hl hx).mono ?_; rintro e w' ⟨rfl, rfl⟩)
  go_ret
  exact ⟨ret_bool (indexOf_contains xs v), rfl⟩



end Go.Proofs.Ytcojhogndimboaa
