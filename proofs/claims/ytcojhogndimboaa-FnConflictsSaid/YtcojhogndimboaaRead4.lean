/- Weights and masks: their tests. -/
import Derived.Test.YtcojhogndimboaaRead3
namespace Go.Proofs.Ytcojhogndimboaa
open Go.RowKit




set_option maxHeartbeats 1000000 in
theorem implMaskOk_any (A B D : Option Addr) (ca cb cd : Nat) (g : List (List Int)) (rows cols : List Int) (w : World) (hl : g.length ≤ 1048576) (hr : ∀ r ∈ g, r.length ≤ 1048576) (hx : GridAt w A g)
    (hl1 : rows.length ≤ 1048576) (hl2 : cols.length ≤ 1048576) (hy : Ints w B rows) (hz : Ints w D cols) :
    Calls Try.prog 6 #[.slice A g.length ca, .slice B rows.length cb, .slice D cols.length cd] w fun e w' => e = .returned (.bool (maskOk g rows cols)) ∧ w = w' := by
  rw [maskOk_grid]
  cases hs : sumsOk rows cols
  · go_enter Try.func6, Try.ntmps6
    go_wp2_with (go_at_call 15; refine (implSumsOk_any _ _ _ _ rows cols _ hl1 hl2 hy hz).mono ?_; rintro e w' ⟨rfl, rfl⟩)
    go_ret
    exact ⟨ret_bool (by simp), rfl⟩
  cases h : gridOk g (-1) 1
  · go_enter Try.func6, Try.ntmps6
    go_wp2_with (first | (go_at_call 15; refine (implSumsOk_any _ _ _ _ rows cols _ hl1 hl2 hy hz).mono ?_; rintro e w' ⟨rfl, rfl⟩) | (go_at_call 16; refine (gridOk_any _ _ g _ _ _ hl hr hx).mono ?_; rintro e w' ⟨rfl, rfl⟩))
    go_ret
    exact ⟨ret_bool (by simp), rfl⟩
  · have hp1 := (gridOk_rows h).1
    obtain ⟨r0, g', rfl⟩ : ∃ r0 g', g = r0 :: g' := by
      cases g with
      | nil => simp at hp1
      | cons r0 g' => exact ⟨r0, g', rfl⟩
    obtain ⟨b, o, R0, c0, rfl, _, hcell0, _⟩ := hx.head
    generalize hg : r0 :: g' = g at *
    have hhd : g.headD [] = r0 := by rw [← hg]; rfl
    rw [hhd]
    clear hg hhd
    by_cases e1 : (g.length : Int) = rows.length
    · have b1 : ((g.length : Int) == (rows.length : Int)) = true := by simpa using e1
      have E1 := Lib.hid e1; clear e1
      by_cases e2 : (r0.length : Int) = cols.length
      · have b2 : ((r0.length : Int) == (cols.length : Int)) = true := by simpa using e2
        have E2 := Lib.hid e2; clear e2
        go_enter Try.func6, Try.ntmps6
        go_wp2_with (first | (go_at_call 15; refine (implSumsOk_any _ _ _ _ rows cols _ hl1 hl2 hy hz).mono ?_; rintro e w' ⟨rfl, rfl⟩) | (go_at_call 16; refine (gridOk_any _ _ g _ _ _ hl hr hx).mono ?_; rintro e w' ⟨rfl, rfl⟩))
        go_ret
        exact ⟨ret_bool (by rw [decide_eq_true E1.out, decide_eq_true E2.out]; rfl), rfl⟩
      · have b2 : ((r0.length : Int) == (cols.length : Int)) = false := by simp; omega
        have E2 := Lib.hid e2; clear e2
        go_enter Try.func6, Try.ntmps6
        go_wp2_with (first | (go_at_call 15; refine (implSumsOk_any _ _ _ _ rows cols _ hl1 hl2 hy hz).mono ?_; rintro e w' ⟨rfl, rfl⟩) | (go_at_call 16; refine (gridOk_any _ _ g _ _ _ hl hr hx).mono ?_; rintro e w' ⟨rfl, rfl⟩))
        go_ret
        exact ⟨ret_bool (by rw [decide_eq_true E1.out, decide_eq_false E2.out]; rfl), rfl⟩
    · have b1 : ((g.length : Int) == (rows.length : Int)) = false := by simp; omega
      have E1 := Lib.hid e1; clear e1
      go_enter Try.func6, Try.ntmps6
      go_wp2_with (first | (go_at_call 15; refine (implSumsOk_any _ _ _ _ rows cols _ hl1 hl2 hy hz).mono ?_; rintro e w' ⟨rfl, rfl⟩) | (go_at_call 16; refine (gridOk_any _ _ g _ _ _ hl hr hx).mono ?_; rintro e w' ⟨rfl, rfl⟩))
      go_ret
      exact ⟨ret_bool (by rw [decide_eq_false E1.out]; rfl), rfl⟩
end Go.Proofs.Ytcojhogndimboaa
