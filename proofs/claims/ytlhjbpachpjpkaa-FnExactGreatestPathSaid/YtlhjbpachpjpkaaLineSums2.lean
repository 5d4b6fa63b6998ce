/- FnSums: contracts of the functions that it calls. -/
import Derived.Test.YtlhjbpachpjpkaaLineSums1
import Derived.Test.YtlhjbpachpjpkaaInterval
namespace Go.Proofs.Ytlhjbpachpjpkaa
open Go.RowKit Tomo

set_option maxHeartbeats 2000000 in
theorem same_any (A B : Option Addr) (ca cb : Nat) (xs : List Int) (w : World) (hl : xs.length ≤ 1000000) (hx : Ints w A xs) (hy : Ints w B xs) :
    Calls Try.prog 45 #[.slice A xs.length ca, .slice B xs.length cb] w fun e w' => e = .returned (.bool true) ∧ w = w' := by
  have HX := Lib.hid hx
  have HY := Lib.hid hy
  clear hx hy
  go_enter Try.func45, Try.ntmps45
  go_wp2_with fail
  go_loopw [14, 5, 6] (fun i _ _ wr => ∃ (j : Nat), j ≤ xs.length ∧ i = .int .i64 j ∧ Hid (wr = w)) (fun i _ _ _ => xs.length - (intOf i).toNat)
  case atStart => exact ⟨0, Nat.zero_le _, rfl, Lib.hid rfl⟩
  case round =>
    rename World => wr
    obtain ⟨j, hj, rfl, hw⟩ := hrel
    obtain rfl := hw.out
    clear hw
    by_cases hlt : j < xs.length
    · obtain ⟨b, o, x, rfl, _, hxx, hc⟩ := HX.out.at_ hlt
      obtain ⟨b2, o2, x2, rfl, _, hxx2, hc2⟩ := HY.out.at_ hlt
      obtain rfl : x = x2 := by have h := hxx.out; rw [hxx2.out] at h; exact (Option.some.inj h).symm
      go_wp2_with fail
      go_roundw
      case rel => exact ⟨j + 1, by omega, by go_num, Lib.hid (by trivial)⟩
      case measure => simp [intOf]; omega
    · obtain rfl : j = xs.length := by omega
      go_wp2_with fail
      go_ret
      exact ⟨rfl, by trivial⟩
end Go.Proofs.Ytlhjbpachpjpkaa
