/- Wiping a piece out of an image: the program's walk. -/
import Derived.Test.YtgbehjjefiepdaaPaint1
import Derived.Test.YtgbehjjefiepdaaRead2
namespace Go.Proofs.Ytgbehjjefiepdaa
open Go.RowKit
set_option maxHeartbeats 2000000 in
theorem hasCell_any (A : Option Addr) (cap : Nat) (m : List (List Int)) (n k : Nat) (y x : Int) (w : World) (hl : m.length ≤ 1048576) (hi : Img m n k) (hx : GridAt w A m) :
    Calls Try.prog 66 #[.slice A n cap, .int .i64 y, .int .i64 x] w fun e w' => e = .returned (.bool (inR y 0 (n - 1) && inR x 0 (k - 1))) ∧ w = w' := by
  have hr : ∀ r ∈ m, r.length ≤ 1048576 := fun r hr => by rw [hi.1.2 r hr]; have := hi.2.2.1; omega
  have ci := implImageOk_any A cap m w hl hr hx
  rw [hi.ok, hi.1.1] at ci
  obtain ⟨hn1, hn5⟩ := hi.2.1
  obtain ⟨hk1, hk5⟩ := hi.2.2.1
  obtain ⟨b, o, R0, c0, r0, rfl, _, HX, hq0, _⟩ := hx.at_ (k := 0) (by rw [hi.1.1]; omega)
  have hr0l : r0.length = k := hi.1.row HX.out
  rw [hr0l, Nat.add_zero] at hq0
  clear hr hr0l hi hx
  cases b1 : inR y 0 (n - 1) <;> cases b2 : inR x 0 (k - 1)
  all_goals
    go_enter Try.func66, Try.ntmps66
    go_wp2_with (first | (go_at_call 70; refine ci.mono ?_; rintro e w' ⟨rfl, rfl⟩) | (go_at_call 60; refine (within_any _ _ _ _).mono ?_; rintro e w' ⟨rfl, rfl⟩))
    go_ret
    exact ⟨ret_bool (by simp), rfl⟩

set_option maxHeartbeats 2000000 in
theorem CellAt_any (A : Option Addr) (cap : Nat) (m : List (List Int)) (n k : Nat) (y x : Int) (w : World) (hl : m.length ≤ 1048576) (hi : Img m n k) (hx : GridAt w A m) :
    Calls Try.prog 61 #[.slice A n cap, .int .i64 y, .int .i64 x] w fun e w' => e = .returned (.int .i64 (cellI m y x)) ∧ w = w' := by
  have ch := hasCell_any A cap m n k y x w hl hi hx
  cases b1 : (inR y 0 (n - 1) && inR x 0 (k - 1))
  · rw [b1] at ch
    have HC : Hid (cellI m y x = -1) := Lib.hid (cellI_out hi.1 (by
      rw [← inR_iff, ← inR_iff]
      cases e1 : inR y 0 (n - 1)
      · exact .inl (by simp)
      · rw [e1, Bool.true_and] at b1; exact .inr (by rw [b1]; simp)))
    clear hi hx
    go_enter Try.func61, Try.ntmps61
    go_wp2_with (go_at_call 66; refine ch.mono ?_; rintro e w' ⟨rfl, rfl⟩)
    go_ret
    exact ⟨ret_int HC.out.symm, rfl⟩
  · rw [b1] at ch
    rw [Bool.and_eq_true, inR_iff, inR_iff] at b1
    obtain ⟨⟨y1, y2⟩, x1, x2⟩ := b1
    obtain ⟨i, rfl⟩ : ∃ i : Nat, y = i := ⟨y.toNat, by omega⟩
    obtain ⟨j, rfl⟩ : ∃ j : Nat, x = j := ⟨x.toNat, by omega⟩
    obtain ⟨r, v, hr, hrl, hv, _⟩ := hi.cell (i := i) (j := j) (by omega) (by omega)
    have HC : Hid (cellI m i j = v) := Lib.hid (cellI_of hr hv)
    obtain ⟨b, o, R, c, r', rfl, _, HX, hq, hints⟩ := hx.at_ (k := i) (by rw [hi.1.1]; omega)
    obtain rfl : r' = r := by have := HX.out; rw [hr] at this; exact (Option.some.inj this).symm
    obtain ⟨b2, o2, v', rfl, _, HV, hq2⟩ := hints.at_ (k := j) (by omega)
    obtain rfl : v' = v := by have := HV.out; rw [hv] at this; exact (Option.some.inj this).symm
    rw [hrl] at hq
    have hi1 := hi.2.1.2
    have hi2 := hi.2.2.1.2
    clear hi hx hints HX HV hr hv hrl
    go_enter Try.func61, Try.ntmps61
    go_wp2_with (go_at_call 66; refine ch.mono ?_; rintro e w' ⟨rfl, rfl⟩)
    go_ret
    exact ⟨ret_int HC.out.symm, rfl⟩

end Go.Proofs.Ytgbehjjefiepdaa
