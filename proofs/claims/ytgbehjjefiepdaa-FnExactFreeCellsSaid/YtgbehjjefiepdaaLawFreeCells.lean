/- The law of FreeCells: its walk. -/
import Derived.Test.YtgbehjjefiepdaaReach5
import Derived.Test.YtgbehjjefiepdaaHelp2
namespace Go.Proofs.Ytgbehjjefiepdaa
open Go.RowKit

set_option maxHeartbeats 2000000 in
theorem law_FreeCells (w : World) (A0 : Option Addr) (c0 : Nat) (xs0 : List (List Int)) (h630 : xs0.length ≤ 9223372036854775807) (hr630 : ∀ r ∈ xs0, r.length ≤ 9223372036854775807) (hx0 : GridAt w A0 xs0) :
    Calls Try.prog 8 #[.slice A0 xs0.length c0] w fun e w' => e = .returned (.bool true) ∧ Ext w w' := by
  by_cases hz0 : (1048576 : Int) < szGrid xs0
  case pos =>
    have cz0 : Calls Try.prog 32 #[.slice A0 xs0.length c0, .int .i64 1048576] w fun e w' => e = .returned (.int .i64 (-1)) ∧ w = w' := by
      have h := szIntSS_any A0 c0 xs0 1048576 w h630 hr630 (by omega) (by omega) hx0
      rw [show szOf (szGrid xs0) (1048576) = -1 from if_pos hz0] at h; exact h
    go_enter Try.func8, Try.ntmps8
    go_wp2_with fail
    refine cz0.mono ?_
    rintro e w' ⟨rfl, rfl⟩
    go_wp2_with fail
    go_ret
    exact ⟨rfl, Ext.refl _⟩
  have cz0 : ∃ l0 : Int, 0 ≤ l0 ∧ l0 ≤ 1048576 ∧ Calls Try.prog 32 #[.slice A0 xs0.length c0, .int .i64 1048576] w fun e w' => e = .returned (.int .i64 l0) ∧ w = w' := by
    have h := szIntSS_any A0 c0 xs0 1048576 w h630 hr630 (by omega) (by omega) hx0
    rw [show szOf (szGrid xs0) (1048576) = 1048576 - (szGrid xs0 : Nat) from if_neg hz0] at h
    exact ⟨_, by omega, by omega, h⟩
  have hl0 : xs0.length ≤ 1048576 := by have := sz_len xs0; omega
  have hr0 : ∀ r ∈ xs0, r.length ≤ 1048576 := fun r hr => by have := sz_row xs0 r hr; omega
  obtain ⟨l0, hl0a, hl0b, cz0⟩ := cz0
  clear hz0
  go_enter Try.func8, Try.ntmps8
  go_wp2_with fail
  refine cz0.mono ?_
  rintro e w' ⟨rfl, rfl⟩
  go_wp2_with fail
  refine (toIntSS_any _ _ xs0 _ hl0 hr0 hx0).mono ?_
  rintro e w1 ⟨rfl, h1⟩
  go_wp2_with fail
  refine (specFreeCells_any _ _ xs0 _ hl0 hr0 h1.at_).mono ?_
  rintro e w2 ⟨rfl, h2⟩
  go_wp2_with fail
  refine (toIntSS_any _ _ xs0 _ hl0 hr0 (hx0.ext (h1.ext.trans h2))).mono ?_
  rintro e w3 ⟨rfl, h3⟩
  go_wp2_with fail
  refine (implFreeCells_any _ _ xs0 _ hl0 hr0 h3.at_).mono ?_
  rintro e w4 ⟨rfl, h4⟩
  go_wp2_with fail
  refine (toIntSS_any _ _ xs0 _ hl0 hr0 (hx0.ext (((h1.ext.trans h2).trans h3.ext).trans h4))).mono ?_
  rintro e w5 ⟨rfl, h5⟩
  go_wp2_with fail
  refine (eqIntSS_same _ _ _ _ xs0 _ hl0 hr0 (h3.at_.ext (h4.trans h5.ext)) h5.at_).mono ?_
  rintro e w6 ⟨rfl, h6⟩
  go_wp2_with fail
  go_ret
  exact ⟨rfl, (((((h1.ext.trans h2).trans h3.ext).trans h4).trans h5.ext).trans h6.ext)⟩
end Go.Proofs.Ytgbehjjefiepdaa
