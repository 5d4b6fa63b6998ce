/- Weights and masks: their tests. -/
import Derived.Test.YtnnkondlefjkcaaRead3
namespace Go.Proofs.Ytnnkondlefjkcaa
open Go.RowKit

theorem specWeightOk_any (A : Option Addr) (cap : Nat) (g : List (List Int)) (rows cols : Int) (w : World) (hl : g.length ≤ 1048576) (hr : ∀ r ∈ g, r.length ≤ 1048576) (hx : GridAt w A g) :
    Calls Try.prog 111 #[.slice A g.length cap, .int .i64 rows, .int .i64 cols] w fun e w' => e = .returned (.bool (weightOk g rows cols)) ∧ w = w' := by
  cases h : inR rows 1 5 && inR cols 1 5
  · go_enter Try.func111, Try.ntmps111
    go_wp2_with (go_at_call 79; refine (l03Size_any _ _ _).mono ?_; rintro e w' ⟨rfl, rfl⟩)
    go_ret
    exact ⟨ret_bool (by simp [weightOk, h]), rfl⟩
  · go_enter Try.func111, Try.ntmps111
    go_wp2_with (first | (go_at_call 79; refine (l03Size_any _ _ _).mono ?_; rintro e w' ⟨rfl, rfl⟩) | (go_at_call 106; refine (l08Size_any _ _ g _ _ _ _ _ hl hr hx).mono ?_; rintro e w' ⟨rfl, rfl⟩))
    go_ret
    exact ⟨ret_bool (by simp [weightOk, h]), rfl⟩

set_option maxHeartbeats 1000000 in
theorem implWeightOk_any (A : Option Addr) (cap : Nat) (g : List (List Int)) (rows cols : Int) (w : World) (hl : g.length ≤ 1048576) (hr : ∀ r ∈ g, r.length ≤ 1048576) (hx : GridAt w A g) :
    Calls Try.prog 113 #[.slice A g.length cap, .int .i64 rows, .int .i64 cols] w fun e w' => e = .returned (.bool (weightOk g rows cols)) ∧ w = w' := by
  rw [weightOk_grid]
  cases h : gridOk g (-100) 100
  · go_enter Try.func113, Try.ntmps113
    go_wp2_with (go_at_call 72; refine (gridOk_any _ _ g _ _ _ hl hr hx).mono ?_; rintro e w' ⟨rfl, rfl⟩)
    go_ret
    exact ⟨ret_bool (by simp), rfl⟩
  · have hp1 := (gridOk_rows h).1
    obtain ⟨r0, g', rfl⟩ : ∃ r0 g', g = r0 :: g' := by
      cases g with
      | nil => simp at hp1
      | cons r0 g' => exact ⟨r0, g', rfl⟩
    obtain ⟨b, o, R0, c0, rfl, _, hcell0, _⟩ := hx.head
    generalize hg : r0 :: g' = g at *
    have hhd : g.headD [] = r0 := by rw [← hg]; rfl
    rw [hhd]
    clear hg hhd
    by_cases e1 : (g.length : Int) = rows
    · have b1 : ((g.length : Int) == rows) = true := by simpa using e1
      have E1 := Lib.hid e1; clear e1
      by_cases e2 : (r0.length : Int) = cols
      · have b2 : ((r0.length : Int) == cols) = true := by simpa using e2
        have E2 := Lib.hid e2; clear e2
        go_enter Try.func113, Try.ntmps113
        go_wp2_with (go_at_call 72; refine (gridOk_any _ _ g _ _ _ hl hr hx).mono ?_; rintro e w' ⟨rfl, rfl⟩)
        go_ret
        exact ⟨ret_bool (by simp [E1.out, E2.out]), rfl⟩
      · have b2 : ((r0.length : Int) == cols) = false := by simpa using e2
        have E2 := Lib.hid e2; clear e2
        go_enter Try.func113, Try.ntmps113
        go_wp2_with (go_at_call 72; refine (gridOk_any _ _ g _ _ _ hl hr hx).mono ?_; rintro e w' ⟨rfl, rfl⟩)
        go_ret
        exact ⟨ret_bool (by simp [E1.out, E2.out]), rfl⟩
    · have b1 : ((g.length : Int) == rows) = false := by simpa using e1
      have E1 := Lib.hid e1; clear e1
      go_enter Try.func113, Try.ntmps113
      go_wp2_with (go_at_call 72; refine (gridOk_any _ _ g _ _ _ hl hr hx).mono ?_; rintro e w' ⟨rfl, rfl⟩)
      go_ret
      exact ⟨ret_bool (by simp [E1.out]), rfl⟩


end Go.Proofs.Ytnnkondlefjkcaa
