/- IsFixed, in the reference and in the program. -/
import Derived.Test.YtlhjbpachpjpkaaReach2
import Derived.Test.YtlhjbpachpjpkaaPaint3
import Derived.Test.YtlhjbpachpjpkaaCellIn
namespace Go.Proofs.Ytlhjbpachpjpkaa
open Go.RowKit Tomo


noncomputable def isFixed (m : Grid) (y x : Int) : Bool := cellIn m y x && fixB (allI (rsI m) (csI m)) y.toNat x.toNat

theorem hasCell2_any (A : Option Addr) (ca : Nat) (m : Grid) (y x : Int) (w : World) (hl : m.length ≤ 1048576) (hr : ∀ r ∈ m, r.length ≤ 1048576) (hx : GridAt w A m) :
    Calls Try.prog 56 #[.slice A m.length ca, .int .i64 y, .int .i64 x] w fun e w' => e = .returned (.bool (cellIn m y x)) ∧ w = w' := by
  have ci := implImageOk_any A ca m w hl hr hx
  cases h : gridOk m 0 1
  · rw [h] at ci
    have HC : Hid (cellIn m y x = false) := Lib.hid (by unfold cellIn; rw [h]; rfl)
    clear hx hr
    go_enter Try.func56, Try.ntmps56
    go_wp2_with (go_at_call 36; refine ci.mono ?_; rintro e w' ⟨rfl, rfl⟩)
    go_ret
    exact ⟨ret_bool HC.out.symm, rfl⟩
  · refine (hasCell_any A ca m m.length (m.headD []).length y x w hl (Img.of h) hx).mono fun e w' hh => ⟨?_, hh.2⟩
    rw [hh.1]; unfold cellIn; rw [h, Bool.true_and]


end Go.Proofs.Ytlhjbpachpjpkaa
