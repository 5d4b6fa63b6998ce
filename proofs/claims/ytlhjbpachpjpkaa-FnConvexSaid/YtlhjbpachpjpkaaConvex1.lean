/- Images whose rows are intervals. -/
import Derived.Test.YtlhjbpachpjpkaaInterval
import Derived.Test.YtlhjbpachpjpkaaReA
namespace Go.Proofs.Ytlhjbpachpjpkaa
open Go.RowKit

def rowConv (r : List Int) : Bool := (ivImpl r).2.2
def hconvex (m : List (List Int)) : Bool := gridOk m 0 1 && m.all rowConv

set_option maxHeartbeats 1000000 in
theorem implIsHConvex_any (A : Option Addr) (cap : Nat) (m : List (List Int)) (w : World) (hl : m.length ≤ 1048576) (hr : ∀ r ∈ m, r.length ≤ 1048576) (hx : GridAt w A m) :
    Calls Try.prog 12 #[.slice A m.length cap] w fun e w' => e = .returned (.bool (hconvex m)) ∧ w = w' := by
  cases h : gridOk m 0 1
  · go_enter Try.func12, Try.ntmps12
    go_wp2_with (go_at_call 36; refine (implImageOk_any _ _ m _ hl hr hx).mono ?_; rintro e w' ⟨rfl, rfl⟩)
    go_ret
    exact ⟨ret_bool (by simp [hconvex, h]), rfl⟩
  · go_enter Try.func12, Try.ntmps12
    go_wp2_with (go_at_call 36; refine (implImageOk_any _ _ m _ hl hr hx).mono ?_; rintro e w' ⟨rfl, rfl⟩)
    go_loop [13] (fun i => ∃ k : Nat, k ≤ m.length ∧ i = .int .i64 k ∧ Hid ((m.take k).all rowConv = true)) (fun i => m.length - (intOf i).toNat)
    case atStart => exact ⟨0, Nat.zero_le _, rfl, Lib.hid (by simp)⟩
    case round =>
      obtain ⟨k, hk, rfl, hs⟩ := hrel
      by_cases hlt : k < m.length
      · obtain ⟨b, o, R, c, r, rfl, _, HX, hcell, hcap, hrow⟩ := hx.cap_ hlt
        have ci := implIntervalOf_any R c r w (hr r (List.mem_of_getElem? HX.out)) hcap hrow
        unfold ret3 at ci
        obtain ⟨p, hp⟩ : ∃ p, (ivImpl r).1 = p := ⟨_, rfl⟩
        obtain ⟨q, hq⟩ : ∃ q, (ivImpl r).2.1 = q := ⟨_, rfl⟩
        obtain ⟨z, hz⟩ : ∃ z, (ivImpl r).2.2 = z := ⟨_, rfl⟩
        rw [hp, hq, hz] at ci
        have HZ : Hid (rowConv r = z) := Lib.hid hz
        clear hp hq hz hx hr
        cases z
        · go_wp2_with (go_at_call 39; refine ci.mono ?_; rintro e w' ⟨rfl, rfl⟩)
          go_ret
          exact ⟨ret_bool (by unfold hconvex; rw [all_false_of HX.out _ HZ.out, Bool.and_false]), rfl⟩
        · go_wp2_with (go_at_call 39; refine ci.mono ?_; rintro e w' ⟨rfl, rfl⟩)
          go_round
          case rel => exact ⟨k + 1, by omega, by go_num, Lib.hid (by rw [take_all_succ HX.out, hs.out, HZ.out]; rfl)⟩
          case measure => simp [intOf]; omega
      · obtain rfl : k = m.length := by omega
        go_wp2_with fail
        go_ret
        exact ⟨ret_bool (by have := hs.out; rw [take_full] at this; unfold hconvex; rw [h, this]; rfl), rfl⟩

set_option maxHeartbeats 1000000 in
theorem specIsHConvex_any (A : Option Addr) (cap : Nat) (m : List (List Int)) (w : World) (hl : m.length ≤ 1048576) (hr : ∀ r ∈ m, r.length ≤ 1048576) (hx : GridAt w A m) :
    Calls Try.prog 67 #[.slice A m.length cap] w fun e w' => e = .returned (.bool (hconvex m)) ∧ w = w' := by
  cases h : gridOk m 0 1
  · go_enter Try.func67, Try.ntmps67
    go_wp2_with (go_at_call 32; refine (specImageOk_any _ _ m _ hl hr hx).mono ?_; rintro e w' ⟨rfl, rfl⟩)
    go_ret
    exact ⟨ret_bool (by simp [hconvex, h]), rfl⟩
  · go_enter Try.func67, Try.ntmps67
    go_wp2_with (go_at_call 32; refine (specImageOk_any _ _ m _ hl hr hx).mono ?_; rintro e w' ⟨rfl, rfl⟩)
    go_loop [13] (fun i => ∃ k : Nat, k ≤ m.length ∧ i = .int .i64 k ∧ Hid ((m.take k).all rowConv = true)) (fun i => m.length - (intOf i).toNat)
    case atStart => exact ⟨0, Nat.zero_le _, rfl, Lib.hid (by simp)⟩
    case round =>
      obtain ⟨k, hk, rfl, hs⟩ := hrel
      by_cases hlt : k < m.length
      · obtain ⟨b, o, R, c, r, rfl, _, HX, hcell, hcap, hrow⟩ := hx.cap_ hlt
        have ci := specIntervalOf_any R c r w (hr r (List.mem_of_getElem? HX.out)) hrow
        rw [iv_eq] at ci
        unfold ret3 at ci
        obtain ⟨p, hp⟩ : ∃ p, (ivImpl r).1 = p := ⟨_, rfl⟩
        obtain ⟨q, hq⟩ : ∃ q, (ivImpl r).2.1 = q := ⟨_, rfl⟩
        obtain ⟨z, hz⟩ : ∃ z, (ivImpl r).2.2 = z := ⟨_, rfl⟩
        rw [hp, hq, hz] at ci
        have HZ : Hid (rowConv r = z) := Lib.hid hz
        clear hp hq hz hx hr
        cases z
        · go_wp2_with (go_at_call 90; refine ci.mono ?_; rintro e w' ⟨rfl, rfl⟩)
          go_ret
          exact ⟨ret_bool (by unfold hconvex; rw [all_false_of HX.out _ HZ.out, Bool.and_false]), rfl⟩
        · go_wp2_with (go_at_call 90; refine ci.mono ?_; rintro e w' ⟨rfl, rfl⟩)
          go_round
          case rel => exact ⟨k + 1, by omega, by go_num, Lib.hid (by rw [take_all_succ HX.out, hs.out, HZ.out]; rfl)⟩
          case measure => simp [intOf]; omega
      · obtain rfl : k = m.length := by omega
        go_wp2_with fail
        go_ret
        exact ⟨ret_bool (by have := hs.out; rw [take_full] at this; unfold hconvex; rw [h, this]; rfl), rfl⟩
end Go.Proofs.Ytlhjbpachpjpkaa
