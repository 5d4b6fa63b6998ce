/- The law of GreatestPath: its walk. -/
import Derived.Test.YtlhjbpachpjpkaaGreat1
import Derived.Test.YtlhjbpachpjpkaaGreat2
import Derived.Test.YtlhjbpachpjpkaaHelp2
namespace Go.Proofs.Ytlhjbpachpjpkaa
open Go.RowKit

set_option maxHeartbeats 2000000 in
theorem law_GreatestPath (w : World) (A0 : Option Addr) (c0 : Nat) (xs0 : List Int) (h630 : xs0.length ≤ 9223372036854775807) (hx0 : Ints w A0 xs0) (A1 : Option Addr) (c1 : Nat) (xs1 : List Int) (h631 : xs1.length ≤ 9223372036854775807) (hx1 : Ints w A1 xs1) :
    Calls Try.prog 5 #[.slice A0 xs0.length c0, .slice A1 xs1.length c1] w fun e w' => e = .returned (.bool true) ∧ Ext w w' := by
  by_cases hl0 : xs0.length ≤ 1048576
  case neg =>
    go_enter Try.func5, Try.ntmps5
    go_wp2_with fail
    go_ret
    exact ⟨rfl, Ext.refl _⟩
  by_cases hl1 : xs1.length ≤ 1048576
  case neg =>
    go_enter Try.func5, Try.ntmps5
    go_wp2_with fail
    go_ret
    exact ⟨rfl, Ext.refl _⟩
  go_enter Try.func5, Try.ntmps5
  go_wp2_with fail
  refine (toIntS_any _ _ xs0 _ hl0 hx0).mono ?_
  rintro e w1 ⟨rfl, h1⟩
  go_wp2_with fail
  refine (toIntS_any _ _ xs1 _ hl1 (hx1.ext h1.ext)).mono ?_
  rintro e w2 ⟨rfl, h2⟩
  go_wp2_with fail
  refine (specGreatestPath_any _ _ _ _ xs0 xs1 _ hl0 hl1 (Nat.le_refl _) (h1.at_.ext h2.ext) h2.at_ (h1.typed.ext h2.ext) h2.typed).mono ?_
  rintro e w3 ⟨rfl, h3⟩
  go_wp2_with fail
  refine (toIntS_any _ _ xs0 _ hl0 (hx0.ext ((h1.ext.trans h2.ext).trans h3))).mono ?_
  rintro e w4 ⟨rfl, h4⟩
  go_wp2_with fail
  refine (toIntS_any _ _ xs1 _ hl1 (hx1.ext (((h1.ext.trans h2.ext).trans h3).trans h4.ext))).mono ?_
  rintro e w5 ⟨rfl, h5⟩
  go_wp2_with fail
  refine (implGreatestPath_any _ _ _ _ xs0 xs1 _ hl0 hl1 (h4.at_.ext h5.ext) h5.at_).mono ?_
  rintro e w6 ⟨rfl, h6⟩
  go_wp2_with fail
  refine (toIntS_any _ _ xs0 _ hl0 (hx0.ext (((((h1.ext.trans h2.ext).trans h3).trans h4.ext).trans h5.ext).trans h6))).mono ?_
  rintro e w7 ⟨rfl, h7⟩
  go_wp2_with fail
  refine (eqIntS_same _ _ _ _ xs0 _ hl0 (h4.at_.ext ((h5.ext.trans h6).trans h7.ext)) h7.at_).mono ?_
  rintro e w8 ⟨rfl, h8⟩
  go_wp2_with fail
  refine (toIntS_any _ _ xs1 _ hl1 (hx1.ext (((((((h1.ext.trans h2.ext).trans h3).trans h4.ext).trans h5.ext).trans h6).trans h7.ext).trans h8.ext))).mono ?_
  rintro e w9 ⟨rfl, h9⟩
  go_wp2_with fail
  refine (eqIntS_same _ _ _ _ xs1 _ hl1 (h5.at_.ext (((h6.trans h7.ext).trans h8.ext).trans h9.ext)) h9.at_).mono ?_
  rintro e w10 ⟨rfl, h10⟩
  go_wp2_with fail
  go_ret
  exact ⟨rfl, (((((((((h1.ext.trans h2.ext).trans h3).trans h4.ext).trans h5.ext).trans h6).trans h7.ext).trans h8.ext).trans h9.ext).trans h10.ext)⟩
end Go.Proofs.Ytlhjbpachpjpkaa
