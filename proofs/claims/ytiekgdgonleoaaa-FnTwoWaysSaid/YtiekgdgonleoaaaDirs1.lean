/- Directions: when they are valid. -/
import Derived.Test.YtiekgdgonleoaaaRead1
import Derived.Deep.OwnRows
namespace Go.Proofs.Ytiekgdgonleoaaa
open Go.RowKit

def dirOk (dx dy : Int) : Bool := inR dx 0 3 && inR dy (-3) 3 && (Int.gcd dx dy == 1) && (decide (0 < dx) || dy == 1)

theorem dir_cases {dx dy : Int} (h1 : inR dx 0 3 = true) (h2 : inR dy (-3) 3 = true) : (dx = 0 ∨ dx = 1 ∨ dx = 2 ∨ dx = 3) ∧ (dy = -3 ∨ dy = -2 ∨ dy = -1 ∨ dy = 0 ∨ dy = 1 ∨ dy = 2 ∨ dy = 3) := by
  have := inR_iff.1 h1
  have := inR_iff.1 h2
  omega

/-- no number greater than 1 divides both -/
theorem dirOk_div {dx dy : Int} (h1 : inR dx 0 3 = true) (h2 : inR dy (-3) 3 = true) :
    dirOk dx dy = (!(dx == 0 && dy != 1) && !(dx % 2 == 0 && dy.tmod 2 == 0) && !(dx % 3 == 0 && dy.tmod 3 == 0)) := by
  obtain ⟨h3, h4⟩ := dir_cases h1 h2
  rcases h3 with rfl | rfl | rfl | rfl <;> rcases h4 with rfl | rfl | rfl | rfl | rfl | rfl | rfl <;> decide


set_option maxHeartbeats 2000000 in
theorem implDirectionOk_any (dx dy : Int) (w : World) :
    Calls Try.prog 46 #[.agg #[.int .i64 dx, .int .i64 dy]] w fun e w' => e = .returned (.bool (dirOk dx dy)) ∧ Ext w w' := by
  cases h1 : inR dx 0 3
  · go_enter Try.func46, Try.ntmps46
    go_wp2_with (go_at_call 32; refine (within_any _ _ _ _).mono ?_; rintro e w' ⟨rfl, rfl⟩)
    go_ret
    exact ⟨ret_bool (by simp [dirOk, h1]), (Ext.refl _).alloc _⟩
  cases h2 : inR dy (-3) 3
  · go_enter Try.func46, Try.ntmps46
    go_wp2_with (go_at_call 32; refine (within_any _ _ _ _).mono ?_; rintro e w' ⟨rfl, rfl⟩)
    go_ret
    exact ⟨ret_bool (by simp [dirOk, h2]), (Ext.refl _).alloc _⟩
  have HD := Lib.hid (dirOk_div h1 h2)
  obtain ⟨hx1, hx2⟩ := inR_iff.1 h1
  obtain ⟨hy1, hy2⟩ := inR_iff.1 h2
  by_cases hbad : dx = 0 ∧ dy ≠ 1
  · have b1 : (dx == 0) = true := by simpa using hbad.1
    have b2 : (dy != 1) = true := by simpa using hbad.2
    clear hbad
    go_enter Try.func46, Try.ntmps46
    go_wp2_with (go_at_call 32; refine (within_any _ _ _ _).mono ?_; rintro e w' ⟨rfl, rfl⟩)
    go_ret
    exact ⟨ret_bool (by rw [HD.out, b1, b2]; simp), (Ext.refl _).alloc _⟩
  have hgood : (dx == 0 && dy != 1) = false := by
    rw [Bool.eq_false_iff]; intro h; apply hbad; simpa using h
  clear hbad
  have HGO := Lib.hid hgood
  have hsplit : (dx == 0) = false ∨ ((dx == 0) = true ∧ (dy != 1) = false) := by
    cases e1 : (dx == 0)
    · exact .inl rfl
    · rw [e1] at hgood; exact .inr ⟨rfl, by simpa using hgood⟩
  clear hgood
  rcases hsplit with b1 | ⟨b1, b2⟩
  all_goals
    go_enter Try.func46, Try.ntmps46
    go_wp2_with (go_at_call 32; refine (within_any _ _ _ _).mono ?_; rintro e w' ⟨rfl, rfl⟩)
    go_loop [3] (fun t => ∃ n : Int, 2 ≤ n ∧ n ≤ 4 ∧ t = .int .i64 n ∧ Hid ((3 ≤ n → (dx % 2 == 0 && dy.tmod 2 == 0) = false) ∧ (4 ≤ n → (dx % 3 == 0 && dy.tmod 3 == 0) = false))) (fun t => (4 - intOf t).toNat)
    case atStart => exact ⟨2, by omega, by omega, rfl, Lib.hid ⟨fun h => by omega, fun h => by omega⟩⟩
    case round =>
      obtain ⟨n, hn1, hn2, rfl, hp⟩ := hrel
      have hn : n = 2 ∨ n = 3 ∨ n = 4 := by omega
      clear hn1 hn2
      rcases hn with rfl | rfl | rfl
      · cases hA : (dx % 2 == 0)
        · go_wp2_with fail
          go_round
          case rel => exact ⟨3, by omega, by omega, rfl, Lib.hid (by have := hp.out; simp_all)⟩
          case measure => simp [intOf]
        · cases hB : (dy.tmod 2 == 0)
          · go_wp2_with fail
            go_round
            case rel => exact ⟨3, by omega, by omega, rfl, Lib.hid (by have := hp.out; simp_all)⟩
            case measure => simp [intOf]
          · go_wp2_with fail
            go_ret
            exact ⟨ret_bool (by rw [HD.out, hA, hB]; simp), (Ext.refl _).alloc _⟩
      · cases hA : (dx % 3 == 0)
        · go_wp2_with fail
          go_round
          case rel => exact ⟨4, by omega, by omega, rfl, Lib.hid (by have := hp.out; simp_all)⟩
          case measure => simp [intOf]
        · cases hB : (dy.tmod 3 == 0)
          · go_wp2_with fail
            go_round
            case rel => exact ⟨4, by omega, by omega, rfl, Lib.hid (by have := hp.out; simp_all)⟩
            case measure => simp [intOf]
          · go_wp2_with fail
            go_ret
            exact ⟨ret_bool (by rw [HD.out, hA, hB]; simp), (Ext.refl _).alloc _⟩
      · go_wp2_with fail
        go_ret
        exact ⟨ret_bool (by rw [HD.out, HGO.out, hp.out.1 (by omega), hp.out.2 (by omega)]; rfl), (Ext.refl _).alloc _⟩

end Go.Proofs.Ytiekgdgonleoaaa
