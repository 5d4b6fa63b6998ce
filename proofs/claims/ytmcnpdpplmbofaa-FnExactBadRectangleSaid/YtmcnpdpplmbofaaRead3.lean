/- More tests of images, sums, lists and masks. -/
import Derived.Test.YtmcnpdpplmbofaaRead2
namespace Go.Proofs.Ytmcnpdpplmbofaa
open Go.RowKit

set_option maxHeartbeats 1000000 in
theorem specImageOk_any (A : Option Addr) (cap : Nat) (g : List (List Int)) (w : World) (hl : g.length ≤ 1048576) (hr : ∀ r ∈ g, r.length ≤ 1048576) (hx : GridAt w A g) :
    Calls Try.prog 36 #[.slice A g.length cap] w fun e w' => e = .returned (.bool (gridOk g 0 1)) ∧ w = w' := by
  cases hn : inR g.length 1 5
  · go_enter Try.func36, Try.ntmps36
    go_wp2_with (go_at_call 32; refine (l01In_any _ _ _ _).mono ?_; rintro e w' ⟨rfl, rfl⟩)
    go_ret
    exact ⟨ret_bool (by simp [gridOk, hn]), rfl⟩
  · obtain ⟨r0, g', rfl⟩ : ∃ r0 g', g = r0 :: g' := by
      cases g with
      | nil => simp [inR] at hn
      | cons r0 g' => exact ⟨r0, g', rfl⟩
    obtain ⟨b, o, R0, c0, rfl, _, hcell0, _⟩ := hx.head
    have hg0 : (r0 :: g')[0]? = some r0 := rfl
    generalize hg : r0 :: g' = g at *
    have hhd : g.headD [] = r0 := by rw [← hg]; rfl
    have HD := Lib.hid hhd
    have HG0 := Lib.hid hg0
    clear hg hhd hg0
    obtain ⟨hp1, hp2⟩ := inR_iff.1 hn
    cases hn0 : inR r0.length 1 5
    · go_enter Try.func36, Try.ntmps36
      go_wp2_with (go_at_call 32; refine (l01In_any _ _ _ _).mono ?_; rintro e w' ⟨rfl, rfl⟩)
      go_ret
      refine ⟨ret_bool ?_, rfl⟩
      unfold gridOk
      rw [all_false_of HG0.out _ (by simp [hn0]), Bool.and_false]
    go_enter Try.func36, Try.ntmps36
    go_wp2_with (go_at_call 32; refine (l01In_any _ _ _ _).mono ?_; rintro e w' ⟨rfl, rfl⟩)
    go_loop [21] (fun i => ∃ (k : Nat), k ≤ g.length ∧ i = .int .i64 k ∧ Hid ((g.take k).all (fun r => decide (r.length = (g.headD []).length) && inR r.length 1 5 && allIn r 0 1) = true)) (fun i => g.length - (intOf i).toNat)
    case atStart => exact ⟨0, Nat.zero_le _, rfl, Lib.hid (by simp)⟩
    case round =>
      obtain ⟨k, hk, rfl, hs⟩ := hrel
      by_cases hlt : k < g.length
      · obtain ⟨R, c, r, HX, hcell, hrow⟩ := hx.at1 hlt
        have hrl := hr r (List.mem_of_getElem? HX.out)
        clear hx hr
        by_cases he : r.length = r0.length
        · have he1 : ((r.length : Int) != (r0.length : Int)) = false := by rw [bne_eq_false_iff_eq]; omega
          have HE := Lib.hid he; clear he
          go_wp2_with fail
          go_loop [34] (fun i => ∃ (j : Nat), j ≤ r.length ∧ i = .int .i64 j ∧ Hid ((r.take j).all (fun x => inR x 0 1) = true)) (fun i => r.length - (intOf i).toNat)
          case atStart => exact ⟨0, Nat.zero_le _, rfl, Lib.hid (by simp)⟩
          case round =>
            obtain ⟨j, hj, rfl, hs2⟩ := hrel
            by_cases hlt2 : j < r.length
            · obtain ⟨b2, o2, x, rfl, _, HX2, hcell2⟩ := hrow.at_ hlt2
              clear hrow
              by_cases e0 : x = 0
              · subst e0
                go_wp2
                go_round
                case rel => exact ⟨j + 1, by omega, by go_num, Lib.hid (by rw [take_all_succ HX2.out, hs2.out]; rfl)⟩
                case measure => simp [intOf]; omega
              · by_cases e1 : x = 1
                · subst e1
                  clear e0
                  go_wp2
                  go_round
                  case rel => exact ⟨j + 1, by omega, by go_num, Lib.hid (by rw [take_all_succ HX2.out, hs2.out]; rfl)⟩
                  case measure => simp [intOf]; omega
                · have f0 : (x != 0) = true := by simpa using e0
                  have f1 : (x != 1) = true := by simpa using e1
                  have hb : inR x 0 1 = false := by rw [inR01]; simp [e0, e1]
                  have HB := Lib.hid hb
                  clear hb e0 e1
                  go_wp2
                  go_ret
                  refine ⟨ret_bool ?_, rfl⟩
                  unfold gridOk
                  rw [all_false_of HX.out _ (by have := all_false_of HX2.out (fun x => inR x 0 1) HB.out; simp only [allIn, this, Bool.and_false]), Bool.and_false]
            · obtain rfl : j = r.length := by omega
              go_wp2_with fail
              go_round
              case rel => exact ⟨k + 1, by omega, by go_num, Lib.hid (by rw [take_all_succ HX.out, hs.out, HD.out, decide_eq_true HE.out, HE.out, hn0]; have := hs2.out; rw [take_full] at this; simp [allIn, this])⟩
              case measure => simp [intOf]; omega
        · have he1 : ((r.length : Int) != (r0.length : Int)) = true := by rw [bne_iff_ne]; omega
          have HE := Lib.hid he; clear he
          go_wp2_with fail
          go_ret
          refine ⟨ret_bool ?_, rfl⟩
          unfold gridOk
          rw [all_false_of HX.out _ (by rw [HD.out]; simp [HE.out]), Bool.and_false]
      · obtain rfl : k = g.length := by omega
        go_wp2_with fail
        go_ret
        exact ⟨ret_bool (by have := hs.out; rw [take_full] at this; simp only [gridOk, this, hn, Bool.and_true]), rfl⟩

set_option maxHeartbeats 1000000 in
theorem specSumsOk_any (A B : Option Addr) (ca cb : Nat) (rows cols : List Int) (w : World) (hl : rows.length ≤ 1048576) (hl2 : cols.length ≤ 1048576) (hx : Ints w A rows) (hy : Ints w B cols) :
    Calls Try.prog 22 #[.slice A rows.length ca, .slice B cols.length cb] w fun e w' => e = .returned (.bool (sumsOk rows cols)) ∧ w = w' := by
  cases h1 : inR rows.length 1 5 && inR cols.length 1 5
  · go_enter Try.func22, Try.ntmps22
    go_wp2_with (go_at_call 31; refine (l03Size_any _ _ _).mono ?_; rintro e w' ⟨rfl, rfl⟩)
    go_ret
    exact ⟨ret_bool (by simp [sumsOk, h1]), rfl⟩
  have i1 := h1
  simp only [Bool.and_eq_true, inR_iff] at i1
  obtain ⟨⟨i2, i3⟩, i4, i5⟩ := i1
  go_enter Try.func22, Try.ntmps22
  go_wp2_with (go_at_call 31; refine (l03Size_any _ _ _).mono ?_; rintro e w' ⟨rfl, rfl⟩)
  go_loop [17] (fun i => ∃ (k : Nat), k ≤ rows.length ∧ i = .int .i64 k ∧ Hid ((rows.take k).all (fun x => inR x 0 cols.length) = true)) (fun i => rows.length - (intOf i).toNat)
  case atStart => exact ⟨0, Nat.zero_le _, rfl, Lib.hid (by simp)⟩
  case round =>
    obtain ⟨k, hk, rfl, hall⟩ := hrel
    by_cases hlt : k < rows.length
    · obtain ⟨b, o, x, rfl, _, HX, hcell⟩ := hx.at_ hlt
      clear hx
      cases hin : inR x 0 cols.length
      · go_wp2_with (go_at_call 32; refine (l01In_any _ _ _ _).mono ?_; rintro e w' ⟨rfl, rfl⟩)
        go_ret
        exact ⟨ret_bool (by simp [sumsOk, allIn, all_false_of HX.out (fun x => inR x 0 cols.length) hin]), rfl⟩
      · go_wp2_with (go_at_call 32; refine (l01In_any _ _ _ _).mono ?_; rintro e w' ⟨rfl, rfl⟩)
        go_round
        case rel => exact ⟨k + 1, by omega, by go_num, Lib.hid (by rw [take_all_succ HX.out, hall.out, hin]; rfl)⟩
        case measure => simp [intOf]; omega
    · obtain rfl : k = rows.length := by omega
      go_wp2_with fail
      go_loop [29] (fun i => ∃ (k : Nat), k ≤ cols.length ∧ i = .int .i64 k ∧ Hid ((cols.take k).all (fun x => inR x 0 rows.length) = true)) (fun i => cols.length - (intOf i).toNat)
      case atStart => exact ⟨0, Nat.zero_le _, rfl, Lib.hid (by simp)⟩
      case round =>
        obtain ⟨k, hk2, rfl, hall2⟩ := hrel
        by_cases hlt2 : k < cols.length
        · obtain ⟨b, o, x, rfl, _, HX, hcell⟩ := hy.at_ hlt2
          clear hy
          cases hin : inR x 0 rows.length
          · go_wp2_with (go_at_call 32; refine (l01In_any _ _ _ _).mono ?_; rintro e w' ⟨rfl, rfl⟩)
            go_ret
            exact ⟨ret_bool (by simp [sumsOk, allIn, all_false_of HX.out (fun x => inR x 0 rows.length) hin]), rfl⟩
          · go_wp2_with (go_at_call 32; refine (l01In_any _ _ _ _).mono ?_; rintro e w' ⟨rfl, rfl⟩)
            go_round
            case rel => exact ⟨k + 1, by omega, by go_num, Lib.hid (by rw [take_all_succ HX.out, hall2.out, hin]; rfl)⟩
            case measure => simp [intOf]; omega
        · obtain rfl : k = cols.length := by omega
          have a1 := hall.out
          have a2 := hall2.out
          rw [take_full] at a1 a2
          have S1 := Lib.hid (small_of (l := rows) a1 (by omega) (by omega))
          have S2 := Lib.hid (small_of (l := cols) a2 (by omega) (by omega))
          have A1 := Lib.hid a1; have A2 := Lib.hid a2; clear a1 a2
          go_wp2_with (go_at_call 33; (first | (with_reducible refine (l03Total_any _ _ rows _ hl S1.out hx).mono ?_) | (with_reducible refine (l03Total_any _ _ cols _ hl2 S2.out hy).mono ?_)); rintro e w' ⟨rfl, rfl⟩)
          go_ret
          exact ⟨ret_bool (by simp [sumsOk, h1, allIn, A1.out, A2.out]), rfl⟩

theorem contains_any (A : Option Addr) (cap : Nat) (xs : List Int) (v : Int) (w : World) (hl : xs.length ≤ 1048576) (hx : Ints w A xs) :
    Calls Try.prog 30 #[.slice A xs.length cap, .int .i64 v] w fun e w' => e = .returned (.bool (hasI xs v)) ∧ w = w' := by
  go_enter Try.func30, Try.ntmps30
  go_wp2_with (go_at_call 42; refine (index_any _ _ xs _ _ hl hx).mono ?_; rintro e w' ⟨rfl, rfl⟩)
  go_ret
  exact ⟨ret_bool (indexOf_contains xs v), rfl⟩

theorem l08Has_any (A : Option Addr) (cap : Nat) (xs : List Int) (v : Int) (w : World) (hl : xs.length ≤ 1048576) (hx : Ints w A xs) :
    Calls Try.prog 26 #[.slice A xs.length cap, .int .i64 v] w fun e w' => e = .returned (.bool (hasI xs v)) ∧ w = w' := by
  go_enter Try.func26, Try.ntmps26
  go_wp2_with fail
  go_loop [9] (fun i => ∃ (k : Nat), k ≤ xs.length ∧ i = .int .i64 k ∧ Hid ((xs.take k).all (· != v) = true)) (fun i => xs.length - (intOf i).toNat)
  case atStart => exact ⟨0, Nat.zero_le _, rfl, Lib.hid (by simp)⟩
  case round =>
    obtain ⟨k, hk, rfl, hs⟩ := hrel
    by_cases hlt : k < xs.length
    · obtain ⟨b, o, x, rfl, _, HX, hcell⟩ := hx.at_ hlt
      clear hx
      by_cases e : x = v
      · subst e
        go_wp2
        go_ret
        exact ⟨ret_bool (contains_of HX.out).symm, rfl⟩
      · have e1 : (x == v) = false := by simpa using e
        have e2 : (x != v) = true := by simpa using e
        have E2 := Lib.hid e2; clear e e2
        go_wp2
        go_round
        case rel => exact ⟨k + 1, by omega, by go_num, Lib.hid (by rw [take_all_succ HX.out, hs.out, E2.out]; rfl)⟩
        case measure => simp [intOf]; omega
    · obtain rfl : k = xs.length := by omega
      go_wp2_with fail
      go_ret
      exact ⟨ret_bool (by have := hs.out; rw [take_full] at this; exact (contains_not this).symm), rfl⟩


end Go.Proofs.Ytmcnpdpplmbofaa
