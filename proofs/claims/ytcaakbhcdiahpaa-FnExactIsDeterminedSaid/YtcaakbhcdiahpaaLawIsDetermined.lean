/- The law of IsDetermined: its walk. -/
import Derived.Test.YtcaakbhcdiahpaaDirs6
import Derived.Test.YtcaakbhcdiahpaaDirs7
namespace Go.Proofs.Ytcaakbhcdiahpaa
open Go.RowKit

set_option maxHeartbeats 2000000 in
theorem law_IsDetermined (w : World) (a0 : Int) (_w0 : (Lit.int .i64 a0).wf = true) (a1 : Int) (_w1 : (Lit.int .i64 a1).wf = true) (A2 : Option Addr) (c2 : Nat) (xs2 : List (Int × Int)) (h632 : xs2.length ≤ 9223372036854775807) (hx2 : LDirs w A2 xs2) :
    Calls Try.prog 9 #[.int .i64 a0, .int .i64 a1, .slice A2 xs2.length c2] w fun e w' => e = .returned (.bool true) ∧ Ext w w' := by
  by_cases hz2 : (1048576 : Int) < xs2.length
  case pos =>
    have cz2 : Calls Try.prog 24 #[.slice A2 xs2.length c2, .int .i64 1048576] w fun e w' => e = .returned (.int .i64 (-1)) ∧ w = w' := by
      have h := szDirectionS_any A2 c2 xs2.length 1048576 w h632 (by omega) (by omega)
      rw [show szOf (xs2.length) (1048576) = -1 from if_pos hz2] at h; exact h
    go_enter Try.func9, Try.ntmps9
    go_wp2_with fail
    refine cz2.mono ?_
    rintro e w' ⟨rfl, rfl⟩
    go_wp2_with fail
    go_ret
    exact ⟨rfl, Ext.refl _⟩
  have cz2 : ∃ l2 : Int, 0 ≤ l2 ∧ l2 ≤ 1048576 ∧ Calls Try.prog 24 #[.slice A2 xs2.length c2, .int .i64 1048576] w fun e w' => e = .returned (.int .i64 l2) ∧ w = w' := by
    have h := szDirectionS_any A2 c2 xs2.length 1048576 w h632 (by omega) (by omega)
    rw [show szOf (xs2.length) (1048576) = 1048576 - (xs2.length : Nat) from if_neg hz2] at h
    exact ⟨_, by omega, by omega, h⟩
  have hl2 : xs2.length ≤ 1048576 := by omega
  obtain ⟨l2, hl2a, hl2b, cz2⟩ := cz2
  clear hz2
  go_enter Try.func9, Try.ntmps9
  go_wp2_with fail
  refine cz2.mono ?_
  rintro e w' ⟨rfl, rfl⟩
  go_wp2_with fail
  refine (toDirectionS_any _ _ xs2 _ hl2 hx2).mono ?_
  rintro e w1 ⟨rfl, h1⟩
  go_wp2_with fail
  refine (specIsDetermined_any _ _ _ _ xs2 _ hl2 (Nat.le_refl _) h1.at_).mono ?_
  rintro e w2 ⟨rfl, h2⟩
  go_wp2_with fail
  refine (toDirectionS_any _ _ xs2 _ hl2 (hx2.ext (h1.ext.trans h2))).mono ?_
  rintro e w3 ⟨rfl, h3⟩
  go_wp2_with fail
  refine (implIsDetermined_any _ _ _ _ xs2 _ hl2 (Nat.le_refl _) h3.at_).mono ?_
  rintro e w4 ⟨rfl, h4⟩
  go_wp2_with fail
  refine (toDirectionS_any _ _ xs2 _ hl2 (hx2.ext (((h1.ext.trans h2).trans h3.ext).trans h4))).mono ?_
  rintro e w5 ⟨rfl, h5⟩
  go_wp2_with fail
  refine (eqDirectionS_same _ _ _ _ xs2 _ hl2 (h3.at_.ext (h4.trans h5.ext)) h5.at_).mono ?_
  rintro e w6 ⟨rfl, h6⟩
  go_wp2_with fail
  go_ret
  exact ⟨rfl, (((((h1.ext.trans h2).trans h3.ext).trans h4).trans h5.ext).trans h6)⟩
end Go.Proofs.Ytcaakbhcdiahpaa
