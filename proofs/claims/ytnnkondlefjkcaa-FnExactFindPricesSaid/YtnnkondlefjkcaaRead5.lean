/- The weight of an image; where an image meets a mask. -/
import Derived.Test.YtnnkondlefjkcaaRead4
namespace Go.Proofs.Ytnnkondlefjkcaa
open Go.RowKit

set_option maxHeartbeats 2000000 in
theorem l09Weight_any (A B : Option Addr) (ca cb : Nat) (wt m : List (List Int)) (w : World) (hw : Weighs wt m) (hx : GridAt w A wt) (hy : GridAt w B m) :
    Calls Try.prog 112 #[.slice A wt.length ca, .slice B m.length cb] w fun e w' => e = .returned (.int .i64 (weightI wt m)) ∧ w = w' := by
  have hm5 := hw.small
  have hlen := hw.len
  go_enter Try.func112, Try.ntmps112
  go_wp2_with fail
  go_loop [5, 12] (fun t i => ∃ (k : Nat) (s : Int), k ≤ m.length ∧ i = .int .i64 k ∧ t = .int .i64 s ∧ Hid (s = gridW m wt k)) (fun _ i => m.length - (intOf i).toNat)
  case atStart => exact ⟨0, 0, Nat.zero_le _, rfl, rfl, Lib.hid (by simp [gridW])⟩
  case round =>
    obtain ⟨k, s, hk, rfl, rfl, hs⟩ := hrel
    by_cases hlt : k < m.length
    · obtain ⟨b, o, R, c, r, rfl, _, HX, hcell, hrow⟩ := hy.at_ hlt
      obtain ⟨b2, o2, V, c2, v, rfl, _, HV, hcell2, hvrow⟩ := hx.at_ (k := k) (by omega)
      obtain ⟨hvl, hr5, hbits, hrng⟩ := hw.row k r v HX.out HV.out
      have HB := Lib.hid (And.intro hbits hrng)
      have HG := Lib.hid (And.intro (gridW_bound hw k) (And.intro (row_at HX.out) (row_at HV.out)))
      have hkl : k < wt.length := by omega
      have HL := Lib.hid hlen
      clear hx hy hw hbits hrng hlen
      go_wp2_with fail
      go_loop [5, 19] (fun t i => ∃ (j : Nat) (s2 : Int), j ≤ r.length ∧ i = .int .i64 j ∧ t = .int .i64 s2 ∧ Hid (s2 = s + rowW r v j)) (fun _ i => r.length - (intOf i).toNat)
      case atStart => exact ⟨0, s, Nat.zero_le _, rfl, rfl, Lib.hid (by simp [rowW])⟩
      case round =>
        obtain ⟨j, s2, hj, rfl, rfl, hs2⟩ := hrel
        by_cases hlt2 : j < r.length
        · obtain ⟨b3, o3, x, rfl, _, HX2, hcell3⟩ := hrow.at_ hlt2
          obtain ⟨b4, o4, y, rfl, _, HV2, hcell4⟩ := hvrow.at_ (k := j) (by omega)
          have hjl : j < v.length := by omega
          have e1 := hs.out
          have e2 := hs2.out
          have e3 := rowW_bound HB.out.1 HB.out.2 j
          have e4 := HG.out.1
          have hs2a : -100000 ≤ s2 := by omega
          have hs2b : s2 ≤ 100000 := by omega
          have hy1 := HB.out.2 y (List.mem_of_getElem? HV2.out)
          obtain ⟨hy2, hy3⟩ := hy1
          have hbit := HB.out.1 x (List.mem_of_getElem? HX2.out)
          clear hrow hvrow e1 e2 e3 e4
          rcases hbit with rfl | rfl
          · go_wp2
            go_round
            case rel => exact ⟨j + 1, s2, by omega, by go_num, rfl, Lib.hid (by rw [rowW_succ, cell_at HX2.out, hs2.out]; simp)⟩
            case measure => simp [intOf]; omega
          · go_wp2
            go_round
            case rel => exact ⟨j + 1, s2 + y, by omega, by go_num, rfl, Lib.hid (by rw [rowW_succ, cell_at HX2.out, cell_at HV2.out, hs2.out, Int.one_mul, Int.add_assoc])⟩
            case measure => simp [intOf]; omega
        · obtain rfl : j = r.length := by omega
          go_wp2_with fail
          go_round
          case rel => exact ⟨k + 1, s2, by omega, by go_num, rfl, Lib.hid (by rw [gridW_succ, HG.out.2.1, HG.out.2.2, hs2.out, hs.out])⟩
          case measure => simp [intOf]; omega
    · obtain rfl : k = m.length := by omega
      go_wp2_with fail
      go_ret
      exact ⟨ret_int hs.out, rfl⟩

def ret2ib (a : Int) (b : Bool) : Ending := .returned (.tuple #[.int .i64 a, .bool b])

/-- the weight and whether there is one -/
def weightOf (wt m : List (List Int)) : Int × Bool := if gridOk m 0 1 && weightOk wt m.length (m.headD []).length then (weightI wt m, true) else (0, false)

set_option maxHeartbeats 1000000 in
theorem specWeightOf_any (A B : Option Addr) (ca cb : Nat) (wt m : List (List Int)) (w : World) (hl : wt.length ≤ 1048576) (hr : ∀ r ∈ wt, r.length ≤ 1048576) (hl2 : m.length ≤ 1048576) (hr2 : ∀ r ∈ m, r.length ≤ 1048576) (hx : GridAt w A wt) (hy : GridAt w B m) :
    Calls Try.prog 75 #[.slice A wt.length ca, .slice B m.length cb] w fun e w' => e = .returned (.tuple #[.int .i64 (weightOf wt m).1, .bool (weightOf wt m).2]) ∧ w = w' := by
  cases h : gridOk m 0 1
  · have e : weightOf wt m = (0, false) := by simp [weightOf, h]
    rw [e]
    go_enter Try.func75, Try.ntmps75
    go_wp2_with (go_at_call 57; refine (specImageOk_any _ _ m _ hl2 hr2 hy).mono ?_; rintro e w' ⟨rfl, rfl⟩)
    go_ret2
    exact ⟨rfl, rfl⟩
  · have hp1 := (gridOk_rows h).1
    obtain ⟨r0, m', rfl⟩ : ∃ r0 m', m = r0 :: m' := by
      cases m with
      | nil => simp at hp1
      | cons r0 m' => exact ⟨r0, m', rfl⟩
    obtain ⟨b, o, R0, c0, rfl, _, hcell0, _⟩ := hy.head
    generalize hg : r0 :: m' = m at *
    have hhd : m.headD [] = r0 := by rw [← hg]; rfl
    clear hg
    cases h2 : weightOk wt m.length r0.length
    · have e : weightOf wt m = (0, false) := by unfold weightOf; rw [h, hhd, h2]; rfl
      rw [e]
      clear e hhd
      go_enter Try.func75, Try.ntmps75
      go_wp2_with (first | (go_at_call 57; refine (specImageOk_any _ _ m _ hl2 hr2 hy).mono ?_; rintro e w' ⟨rfl, rfl⟩) | (go_at_call 111; refine (specWeightOk_any _ _ wt _ _ _ hl hr hx).mono ?_; rintro e w' ⟨rfl, rfl⟩))
      go_ret2
      exact ⟨rfl, rfl⟩
    · have e : weightOf wt m = (weightI wt m, true) := by unfold weightOf; rw [h, hhd, h2]; rfl
      have hws := Lib.hid (weighs_of h (by rw [hhd]; exact h2))
      rw [e]
      clear e hhd
      go_enter Try.func75, Try.ntmps75
      go_wp2_with (first | (go_at_call 57; refine (specImageOk_any _ _ m _ hl2 hr2 hy).mono ?_; rintro e w' ⟨rfl, rfl⟩) | (go_at_call 111; refine (specWeightOk_any _ _ wt _ _ _ hl hr hx).mono ?_; rintro e w' ⟨rfl, rfl⟩) | (go_at_call 112; refine (l09Weight_any _ _ _ _ wt m _ hws.out hx hy).mono ?_; rintro e w' ⟨rfl, rfl⟩))
      go_ret2
      exact ⟨rfl, rfl⟩

set_option maxHeartbeats 2000000 in
theorem implWeightOf_any (A B : Option Addr) (ca cb : Nat) (wt m : List (List Int)) (w : World) (hl : wt.length ≤ 1048576) (hr : ∀ r ∈ wt, r.length ≤ 1048576) (hl2 : m.length ≤ 1048576) (hr2 : ∀ r ∈ m, r.length ≤ 1048576) (hx : GridAt w A wt) (hy : GridAt w B m) :
    Calls Try.prog 77 #[.slice A wt.length ca, .slice B m.length cb] w fun e w' => e = .returned (.tuple #[.int .i64 (weightOf wt m).1, .bool (weightOf wt m).2]) ∧ w = w' := by
  cases h : gridOk m 0 1
  · have e : weightOf wt m = (0, false) := by simp [weightOf, h]
    rw [e]
    go_enter Try.func77, Try.ntmps77
    go_wp2_with (go_at_call 60; refine (implImageOk_any _ _ m _ hl2 hr2 hy).mono ?_; rintro e w' ⟨rfl, rfl⟩)
    go_ret2
    exact ⟨rfl, rfl⟩
  · have hp1 := (gridOk_rows h).1
    obtain ⟨r0, m', rfl⟩ : ∃ r0 m', m = r0 :: m' := by
      cases m with
      | nil => simp at hp1
      | cons r0 m' => exact ⟨r0, m', rfl⟩
    obtain ⟨b, o, R0, c0, rfl, _, hcell0, _⟩ := hy.head
    generalize hg : r0 :: m' = m at *
    have hhd : m.headD [] = r0 := by rw [← hg]; rfl
    clear hg
    cases h2 : weightOk wt m.length r0.length
    · have e : weightOf wt m = (0, false) := by unfold weightOf; rw [h, hhd, h2]; rfl
      rw [e]
      clear e hhd
      go_enter Try.func77, Try.ntmps77
      go_wp2_with (first | (go_at_call 60; refine (implImageOk_any _ _ m _ hl2 hr2 hy).mono ?_; rintro e w' ⟨rfl, rfl⟩) | (go_at_call 113; refine (implWeightOk_any _ _ wt _ _ _ hl hr hx).mono ?_; rintro e w' ⟨rfl, rfl⟩))
      go_ret2
      exact ⟨rfl, rfl⟩
    · have e : weightOf wt m = (weightI wt m, true) := by unfold weightOf; rw [h, hhd, h2]; rfl
      have hw : Weighs wt m := weighs_of h (by rw [hhd]; exact h2)
      have hm5 := hw.small
      have hlen1 : wt.length ≤ m.length := Nat.le_of_eq hw.len
      have hlen2 : m.length ≤ wt.length := Nat.le_of_eq hw.len.symm
      rw [e]
      clear e hhd
      go_enter Try.func77, Try.ntmps77
      go_wp2_with (first | (go_at_call 60; refine (implImageOk_any _ _ m _ hl2 hr2 hy).mono ?_; rintro e w' ⟨rfl, rfl⟩) | (go_at_call 113; refine (implWeightOk_any _ _ wt _ _ _ hl hr hx).mono ?_; rintro e w' ⟨rfl, rfl⟩))
      go_loop [6, 27] (fun t i => ∃ (k : Nat) (s : Int), k ≤ m.length ∧ i = .int .i64 k ∧ t = .int .i64 s ∧ Hid (s = gridW m wt k)) (fun _ i => m.length - (intOf i).toNat)
      case atStart => exact ⟨0, 0, Nat.zero_le _, rfl, rfl, Lib.hid (by simp [gridW])⟩
      case round =>
        obtain ⟨k, s, hk, rfl, rfl, hs⟩ := hrel
        by_cases hlt : k < m.length
        · obtain ⟨R, c, r, HX, hcell, hrow⟩ := hy.at1 hlt
          obtain ⟨b2, o2, V, c2, v, rfl, _, HV, hcell2, hvrow⟩ := hx.at_ (k := k) (by omega)
          obtain ⟨hvl, hr5, hbits, hrng⟩ := hw.row k r v HX.out HV.out
          have HB := Lib.hid (And.intro hbits hrng)
          have HG := Lib.hid (And.intro (gridW_bound hw k) (And.intro (row_at HX.out) (row_at HV.out)))
          have hkl : k < wt.length := by omega
          clear hx hy hw hbits hrng hr hr2 h h2
          go_wp2_with fail
          go_loop [6, 34] (fun t i => ∃ (j : Nat) (s2 : Int), j ≤ r.length ∧ i = .int .i64 j ∧ t = .int .i64 s2 ∧ Hid (s2 = s + rowW r v j)) (fun _ i => r.length - (intOf i).toNat)
          case atStart => exact ⟨0, s, Nat.zero_le _, rfl, rfl, Lib.hid (by simp [rowW])⟩
          case round =>
            obtain ⟨j, s2, hj, rfl, rfl, hs2⟩ := hrel
            by_cases hlt2 : j < r.length
            · obtain ⟨b3, o3, x, rfl, _, HX2, hcell3⟩ := hrow.at_ hlt2
              obtain ⟨b4, o4, y, rfl, _, HV2, hcell4⟩ := hvrow.at_ (k := j) (by omega)
              have hjl : j < v.length := by omega
              have e1 := hs.out
              have e2 := hs2.out
              have e3 := rowW_bound HB.out.1 HB.out.2 j
              have e4 := HG.out.1
              have hs2a : -100000 ≤ s2 := by omega
              have hs2b : s2 ≤ 100000 := by omega
              have hy1 := HB.out.2 y (List.mem_of_getElem? HV2.out)
              obtain ⟨hy2, hy3⟩ := hy1
              have hbit := HB.out.1 x (List.mem_of_getElem? HX2.out)
              clear hrow hvrow e1 e2 e3 e4
              rcases hbit with rfl | rfl
              · go_wp2
                go_round
                case rel => exact ⟨j + 1, s2, by omega, by go_num, rfl, Lib.hid (by rw [rowW_succ, cell_at HX2.out, hs2.out]; simp)⟩
                case measure => simp [intOf]; omega
              · go_wp2
                go_round
                case rel => exact ⟨j + 1, s2 + y, by omega, by go_num, rfl, Lib.hid (by rw [rowW_succ, cell_at HX2.out, cell_at HV2.out, hs2.out, Int.one_mul, Int.add_assoc])⟩
                case measure => simp [intOf]; omega
            · obtain rfl : j = r.length := by omega
              go_wp2_with fail
              go_round
              case rel => exact ⟨k + 1, s2, by omega, by go_num, rfl, Lib.hid (by rw [gridW_succ, HG.out.2.1, HG.out.2.2, hs2.out, hs.out])⟩
              case measure => simp [intOf]; omega
        · obtain rfl : k = m.length := by omega
          go_wp2_with fail
          go_ret2
          exact ⟨by rw [hs.out]; rfl, rfl⟩
end Go.Proofs.Ytnnkondlefjkcaa
