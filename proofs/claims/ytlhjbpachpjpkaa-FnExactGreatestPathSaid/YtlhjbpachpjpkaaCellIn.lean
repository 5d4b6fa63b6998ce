/- The test of a cell's place. -/
import Derived.Test.YtlhjbpachpjpkaaReA
import Derived.Test.YtlhjbpachpjpkaaPaint1
import Derived.Test.YtlhjbpachpjpkaaTomA
namespace Go.Proofs.Ytlhjbpachpjpkaa
open Go.RowKit Tomo

/-- the cell lies in the image, and the image is one -/
def cellIn (m : Grid) (y x : Int) : Bool := gridOk m 0 1 && (inR y 0 (m.length - 1) && inR x 0 ((m.headD []).length - 1))
set_option maxHeartbeats 2000000 in
theorem l02In_any (A : Option Addr) (ca : Nat) (m : Grid) (y x : Int) (w : World) (hl : m.length ≤ 1048576) (hr : ∀ r ∈ m, r.length ≤ 1048576) (hx : GridAt w A m) :
    Calls Try.prog 109 #[.slice A m.length ca, .int .i64 y, .int .i64 x] w fun e w' => e = .returned (.bool (cellIn m y x)) ∧ w = w' := by
  have ci := specImageOk_any A ca m w hl hr hx
  cases h : gridOk m 0 1
  · rw [h] at ci
    have HC : Hid (cellIn m y x = false) := Lib.hid (by unfold cellIn; rw [h]; rfl)
    clear hx hr
    go_enter Try.func109, Try.ntmps109
    go_wp2_with (go_at_call 32; refine ci.mono ?_; rintro e w' ⟨rfl, rfl⟩)
    go_ret
    exact ⟨ret_bool HC.out.symm, rfl⟩
  · have hi := Img.of h
    rw [h] at ci
    obtain ⟨hn1, hn5⟩ := hi.2.1
    obtain ⟨hk1, hk5⟩ := hi.2.2.1
    obtain ⟨n, hn⟩ : ∃ n, m.length = n := ⟨_, rfl⟩
    obtain ⟨k, hk⟩ : ∃ k, (m.headD []).length = k := ⟨_, rfl⟩
    have HC : Hid (cellIn m y x = (inR y 0 (n - 1) && inR x 0 (k - 1))) := Lib.hid (by unfold cellIn; rw [h, hn, hk, Bool.true_and])
    rw [hn, hk] at hi
    rw [hn] at ci hl hn1 hn5 ⊢
    rw [hk] at hk1 hk5
    obtain ⟨b, o, R0, c0, r0, rfl, _, HX, hq0, _⟩ := hx.at_ (k := 0) (by rw [hi.1.1]; omega)
    have hr0l : r0.length = k := hi.1.row HX.out
    rw [hr0l, Nat.add_zero] at hq0
    clear hr hr0l hi hx hn hk h
    cases b1 : inR y 0 (n - 1) <;> cases b2 : inR x 0 (k - 1)
    all_goals
      go_enter Try.func109, Try.ntmps109
      go_wp2_with (first | (go_at_call 32; refine ci.mono ?_; rintro e w' ⟨rfl, rfl⟩) | (go_at_call 66; refine (l01In_any _ _ _ _).mono ?_; rintro e w' ⟨rfl, rfl⟩))
      go_ret
      exact ⟨ret_bool (by rw [HC.out, b1, b2]; rfl), rfl⟩
end Go.Proofs.Ytlhjbpachpjpkaa
