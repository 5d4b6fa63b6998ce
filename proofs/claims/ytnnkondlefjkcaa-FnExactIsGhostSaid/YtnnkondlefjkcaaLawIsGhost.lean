/- The law of IsGhost: its walk. -/
import Derived.Test.YtnnkondlefjkcaaIsGhost2
import Derived.Test.YtnnkondlefjkcaaDirs6
import Derived.Test.YtnnkondlefjkcaaDirs7
import Derived.Test.YtnnkondlefjkcaaHelp2
namespace Go.Proofs.Ytnnkondlefjkcaa
open Go.RowKit

set_option maxHeartbeats 2000000 in
theorem law_IsGhost (w : World) (A0 : Option Addr) (c0 : Nat) (xs0 : List (List Int)) (h630 : xs0.length ≤ 9223372036854775807) (hr630 : ∀ r ∈ xs0, r.length ≤ 9223372036854775807) (hx0 : GridAt w A0 xs0) (A1 : Option Addr) (c1 : Nat) (xs1 : List (Int × Int)) (h631 : xs1.length ≤ 9223372036854775807) (hx1 : LDirs w A1 xs1) :
    Calls Try.prog 10 #[.slice A0 xs0.length c0, .slice A1 xs1.length c1] w fun e w' => e = .returned (.bool true) ∧ Ext w w' := by
  by_cases hz0 : (1048576 : Int) < szGrid xs0
  case pos =>
    have cz0 : Calls Try.prog 15 #[.slice A0 xs0.length c0, .int .i64 1048576] w fun e w' => e = .returned (.int .i64 (-1)) ∧ w = w' := by
      have h := szIntSS_any A0 c0 xs0 1048576 w h630 hr630 (by omega) (by omega) hx0
      rw [show szOf (szGrid xs0) (1048576) = -1 from if_pos hz0] at h; exact h
    go_enter Try.func10, Try.ntmps10
    go_wp2_with fail
    refine cz0.mono ?_
    rintro e w' ⟨rfl, rfl⟩
    go_wp2_with fail
    go_ret
    exact ⟨rfl, Ext.refl _⟩
  have cz0 : ∃ l0 : Int, 0 ≤ l0 ∧ l0 ≤ 1048576 ∧ Calls Try.prog 15 #[.slice A0 xs0.length c0, .int .i64 1048576] w fun e w' => e = .returned (.int .i64 l0) ∧ w = w' := by
    have h := szIntSS_any A0 c0 xs0 1048576 w h630 hr630 (by omega) (by omega) hx0
    rw [show szOf (szGrid xs0) (1048576) = 1048576 - (szGrid xs0 : Nat) from if_neg hz0] at h
    exact ⟨_, by omega, by omega, h⟩
  have hl0 : xs0.length ≤ 1048576 := by have := sz_len xs0; omega
  have hr0 : ∀ r ∈ xs0, r.length ≤ 1048576 := fun r hr => by have := sz_row xs0 r hr; omega
  obtain ⟨l0, hl0a, hl0b, cz0⟩ := cz0
  clear hz0
  by_cases hz1 : (l0 : Int) < xs1.length
  case pos =>
    have cz1 : Calls Try.prog 35 #[.slice A1 xs1.length c1, .int .i64 l0] w fun e w' => e = .returned (.int .i64 (-1)) ∧ w = w' := by
      have h := szDirectionS_any A1 c1 xs1.length l0 w h631 (by omega) (by omega)
      rw [show szOf (xs1.length) (l0) = -1 from if_pos hz1] at h; exact h
    go_enter Try.func10, Try.ntmps10
    go_wp2_with fail
    refine cz0.mono ?_
    rintro e w' ⟨rfl, rfl⟩
    go_wp2_with fail
    refine cz1.mono ?_
    rintro e w' ⟨rfl, rfl⟩
    go_wp2_with fail
    go_ret
    exact ⟨rfl, Ext.refl _⟩
  have cz1 : ∃ l1 : Int, 0 ≤ l1 ∧ l1 ≤ 1048576 ∧ Calls Try.prog 35 #[.slice A1 xs1.length c1, .int .i64 l0] w fun e w' => e = .returned (.int .i64 l1) ∧ w = w' := by
    have h := szDirectionS_any A1 c1 xs1.length l0 w h631 (by omega) (by omega)
    rw [show szOf (xs1.length) (l0) = l0 - (xs1.length : Nat) from if_neg hz1] at h
    exact ⟨_, by omega, by omega, h⟩
  have hl1 : xs1.length ≤ 1048576 := by omega
  obtain ⟨l1, hl1a, hl1b, cz1⟩ := cz1
  clear hz1
  go_enter Try.func10, Try.ntmps10
  go_wp2_with fail
  refine cz0.mono ?_
  rintro e w' ⟨rfl, rfl⟩
  go_wp2_with fail
  refine cz1.mono ?_
  rintro e w' ⟨rfl, rfl⟩
  go_wp2_with fail
  refine (toIntSS_any _ _ xs0 _ hl0 hr0 hx0).mono ?_
  rintro e w1 ⟨rfl, h1⟩
  go_wp2_with fail
  refine (toDirectionS_any _ _ xs1 _ hl1 (hx1.ext h1.ext)).mono ?_
  rintro e w2 ⟨rfl, h2⟩
  go_wp2_with fail
  refine (specIsGhost_any _ _ _ _ xs0 xs1 _ hl0 hr0 (h1.at_.ext h2.ext) hl1 (Nat.le_refl _) h2.at_).mono ?_
  rintro e w3 ⟨rfl, h3⟩
  go_wp2_with fail
  refine (toIntSS_any _ _ xs0 _ hl0 hr0 (hx0.ext ((h1.ext.trans h2.ext).trans h3))).mono ?_
  rintro e w4 ⟨rfl, h4⟩
  go_wp2_with fail
  refine (toDirectionS_any _ _ xs1 _ hl1 (hx1.ext (((h1.ext.trans h2.ext).trans h3).trans h4.ext))).mono ?_
  rintro e w5 ⟨rfl, h5⟩
  go_wp2_with fail
  refine (implIsGhost_any _ _ _ _ xs0 xs1 _ hl0 hr0 (h4.at_.ext h5.ext) hl1 (Nat.le_refl _) h5.at_).mono ?_
  rintro e w6 ⟨rfl, h6⟩
  go_wp2_with fail
  refine (toIntSS_any _ _ xs0 _ hl0 hr0 (hx0.ext (((((h1.ext.trans h2.ext).trans h3).trans h4.ext).trans h5.ext).trans h6))).mono ?_
  rintro e w7 ⟨rfl, h7⟩
  go_wp2_with fail
  refine (eqIntSS_same _ _ _ _ xs0 _ hl0 hr0 (h4.at_.ext ((h5.ext.trans h6).trans h7.ext)) h7.at_).mono ?_
  rintro e w8 ⟨rfl, h8⟩
  go_wp2_with fail
  refine (toDirectionS_any _ _ xs1 _ hl1 (hx1.ext (((((((h1.ext.trans h2.ext).trans h3).trans h4.ext).trans h5.ext).trans h6).trans h7.ext).trans h8.ext))).mono ?_
  rintro e w9 ⟨rfl, h9⟩
  go_wp2_with fail
  refine (eqDirectionS_same _ _ _ _ xs1 _ hl1 (h5.at_.ext (((h6.trans h7.ext).trans h8.ext).trans h9.ext)) h9.at_).mono ?_
  rintro e w10 ⟨rfl, h10⟩
  go_wp2_with fail
  go_ret
  exact ⟨rfl, (((((((((h1.ext.trans h2.ext).trans h3).trans h4.ext).trans h5.ext).trans h6).trans h7.ext).trans h8.ext).trans h9.ext).trans h10)⟩
end Go.Proofs.Ytnnkondlefjkcaa
