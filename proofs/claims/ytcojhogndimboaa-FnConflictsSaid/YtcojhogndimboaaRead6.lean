/- Where an image meets a mask; ascending lists. -/
import Derived.Test.YtcojhogndimboaaRead3
namespace Go.Proofs.Ytcojhogndimboaa
open Go.RowKit

theorem lt_of_at {α : Type} {l : List α} {k : Nat} {x : α} (h : l[k]? = some x) : k < l.length := by
  rcases Nat.lt_or_ge k l.length with h1 | h1
  · exact h1
  · rw [List.getElem?_eq_none h1] at h; cases h

theorem meetAt_eq {m mask : List (List Int)} {k : Nat} {r v : List Int} (h1 : m[k]? = some r) (h2 : mask[k]? = some v) : meetAt m mask k = (decide (v.length = r.length) && meetRow r v r.length) := by
  unfold meetAt; rw [h1, h2]; rfl
theorem meetRow_succ {r v : List Int} {j : Nat} {x y : Int} (h1 : r[j]? = some x) (h2 : v[j]? = some y) : meetRow r v (j + 1) = (meetRow r v j && (y == -1 || y == x)) := by
  unfold meetRow; rw [range_all_succ, h1, h2]; rfl
theorem meetRow_false {r v : List Int} {n j : Nat} {x y : Int} (hj : j < n) (h1 : r[j]? = some x) (h2 : v[j]? = some y) (h : (y == -1 || y == x) = false) : meetRow r v n = false :=
  range_all_false hj (by rw [h1, h2]; exact h)
/-- a mask that is met has the image's size and numbers of its own -/
theorem sized_of_meets {m mask : List (List Int)} (h : meets m mask = true) (lo hi : Int) (h1 : lo ≤ -1) (h2 : 1 ≤ hi) : sized mask m.length (m.headD []).length lo hi = true := by
  simp only [meets, Bool.and_eq_true, decide_eq_true_eq] at h
  obtain ⟨⟨hg, hl⟩, hall⟩ := h
  rw [gridOk_iff] at hg
  rw [sized_iff]
  refine ⟨by omega, fun v hv => ?_⟩
  obtain ⟨k, hk, rfl⟩ := List.mem_iff_getElem.1 hv
  have hkm : k < m.length := by omega
  have hmk := List.getElem?_eq_getElem hkm
  have hvk := List.getElem?_eq_getElem hk
  have hat := (List.all_eq_true.1 hall) k (List.mem_range.2 hkm)
  rw [meetAt_eq hmk hvk] at hat
  simp only [Bool.and_eq_true, decide_eq_true_eq] at hat
  obtain ⟨a1, a2⟩ := hat
  obtain ⟨b1, _, b3⟩ := hg.2 m[k] (List.getElem_mem hkm)
  refine ⟨by omega, List.all_eq_true.2 fun y hy => ?_⟩
  obtain ⟨j, hj, rfl⟩ := List.mem_iff_getElem.1 hy
  have hjr : j < m[k].length := by omega
  have c1 := (List.all_eq_true.1 a2) j (List.mem_range.2 hjr)
  rw [List.getElem?_eq_getElem hjr, List.getElem?_eq_getElem hj] at c1
  simp only [Option.getD_some, Bool.or_eq_true, beq_iff_eq] at c1
  have c2 := inR_iff.1 ((List.all_eq_true.1 b3) _ (List.getElem_mem hjr))
  rw [inR_iff]; omega

set_option maxHeartbeats 2000000 in
theorem implMeetsMask_any (A B : Option Addr) (ca cb : Nat) (m mask : List (List Int)) (w : World) (hl : m.length ≤ 1048576) (hr : ∀ r ∈ m, r.length ≤ 1048576) (hl2 : mask.length ≤ 1048576) (hr2 : ∀ r ∈ mask, r.length ≤ 1048576) (hx : GridAt w A m) (hy : GridAt w B mask) :
    Calls Try.prog 24 #[.slice A m.length ca, .slice B mask.length cb] w fun e w' => e = .returned (.bool (meets m mask)) ∧ w = w' := by
  cases h : gridOk m 0 1
  · go_enter Try.func24, Try.ntmps24
    go_wp2_with (go_at_call 35; refine (implImageOk_any _ _ m _ hl hr hx).mono ?_; rintro e w' ⟨rfl, rfl⟩)
    go_ret
    exact ⟨ret_bool (by simp [meets, h]), rfl⟩
  by_cases hlen : mask.length = m.length
  · have b1 : ((mask.length : Int) != (m.length : Int)) = false := by rw [bne_eq_false_iff_eq]; omega
    have hle : m.length ≤ mask.length := by omega
    have HL := Lib.hid hlen; clear hlen
    go_enter Try.func24, Try.ntmps24
    go_wp2_with (go_at_call 35; refine (implImageOk_any _ _ m _ hl hr hx).mono ?_; rintro e w' ⟨rfl, rfl⟩)
    go_loop [21] (fun i => ∃ (k : Nat), k ≤ m.length ∧ i = .int .i64 k ∧ Hid ((List.range k).all (meetAt m mask) = true)) (fun i => m.length - (intOf i).toNat)
    case atStart => exact ⟨0, Nat.zero_le _, rfl, Lib.hid (by simp)⟩
    case round =>
      obtain ⟨k, hk, rfl, hs⟩ := hrel
      by_cases hlt : k < m.length
      · obtain ⟨b, o, R, c, r, rfl, _, HX, hcell, hrow⟩ := hx.at_ hlt
        obtain ⟨b2, o2, V, c2, v, rfl, _, HV, hcell2, hvrow⟩ := hy.at_ (k := k) (by omega)
        have hrl := hr r (List.mem_of_getElem? HX.out)
        have hvl := hr2 v (List.mem_of_getElem? HV.out)
        have hkm : k < mask.length := by omega
        have HM := Lib.hid (meetAt_eq HX.out HV.out)
        clear hx hy hr hr2
        by_cases hrv : v.length = r.length
        · have b2 : ((v.length : Int) != (r.length : Int)) = false := by rw [bne_eq_false_iff_eq]; omega
          have hle2 : r.length ≤ v.length := by omega
          have HRV := Lib.hid hrv; clear hrv
          go_wp2_with fail
          go_loop [36] (fun i => ∃ (j : Nat), j ≤ r.length ∧ i = .int .i64 j ∧ Hid (meetRow r v j = true)) (fun i => r.length - (intOf i).toNat)
          case atStart => exact ⟨0, Nat.zero_le _, rfl, Lib.hid (by simp [meetRow])⟩
          case round =>
            obtain ⟨j, hj, rfl, hs2⟩ := hrel
            by_cases hlt2 : j < r.length
            · obtain ⟨b3, o3, x, rfl, _, HX2, hcell3⟩ := hrow.at_ hlt2
              obtain ⟨b4, o4, y, rfl, _, HV2, hcell4⟩ := hvrow.at_ (k := j) (by omega)
              have hjv : j < v.length := by omega
              have HM2 := Lib.hid (meetRow_succ HX2.out HV2.out)
              clear hrow hvrow
              by_cases e1 : y = -1
              · subst e1
                go_wp2
                go_round
                case rel => exact ⟨j + 1, by omega, by go_num, Lib.hid (by rw [HM2.out, hs2.out]; rfl)⟩
                case measure => simp [intOf]; omega
              · by_cases e2 : y = x
                · subst e2
                  have f1 : (y != -1) = true := by simpa using e1
                  clear e1
                  go_wp2
                  go_round
                  case rel => exact ⟨j + 1, by omega, by go_num, Lib.hid (by rw [HM2.out, hs2.out]; simp)⟩
                  case measure => simp [intOf]; omega
                · have f1 : (y != -1) = true := by simpa using e1
                  have f2 : (y != x) = true := by simpa using e2
                  have HF : Hid ((y == -1 || y == x) = false) := Lib.hid (by simp [e1, e2])
                  clear e1 e2
                  go_wp2
                  go_ret
                  refine ⟨ret_bool ?_, rfl⟩
                  unfold meets
                  rw [range_all_false hlt (by rw [HM.out, meetRow_false hlt2 HX2.out HV2.out HF.out, Bool.and_false]), Bool.and_false]
            · obtain rfl : j = r.length := by omega
              go_wp2_with fail
              go_round
              case rel => exact ⟨k + 1, by omega, by go_num, Lib.hid (by rw [range_all_succ, hs.out, HM.out, hs2.out, decide_eq_true HRV.out]; rfl)⟩
              case measure => simp [intOf]; omega
        · have b2 : ((v.length : Int) != (r.length : Int)) = true := by rw [bne_iff_ne]; omega
          have HRV := Lib.hid hrv; clear hrv
          go_wp2_with fail
          go_ret
          refine ⟨ret_bool ?_, rfl⟩
          unfold meets
          rw [range_all_false hlt (by rw [HM.out, decide_eq_false HRV.out]; rfl), Bool.and_false]
      · obtain rfl : k = m.length := by omega
        go_wp2_with fail
        go_ret
        exact ⟨ret_bool (by unfold meets; rw [h, hs.out, decide_eq_true HL.out]; rfl), rfl⟩
  · have b1 : ((mask.length : Int) != (m.length : Int)) = true := by rw [bne_iff_ne]; omega
    have HL := Lib.hid hlen; clear hlen
    go_enter Try.func24, Try.ntmps24
    go_wp2_with (go_at_call 35; refine (implImageOk_any _ _ m _ hl hr hx).mono ?_; rintro e w' ⟨rfl, rfl⟩)
    go_ret
    exact ⟨ret_bool (by unfold meets; rw [decide_eq_false HL.out]; simp), rfl⟩


theorem rising_succ {xs : List Int} {limit : Int} {k : Nat} : (List.range (k + 1)).all (riseAt xs limit) = ((List.range k).all (riseAt xs limit) && riseAt xs limit k) := range_all_succ _ _
theorem riseAt_zero {xs : List Int} {limit x : Int} (h : xs[0]? = some x) : riseAt xs limit 0 = inR x 0 (limit - 1) := by unfold riseAt; rw [h]; simp
theorem riseAt_next {xs : List Int} {limit x y : Int} {k : Nat} (h : xs[k + 1]? = some x) (hy : xs[k]? = some y) : riseAt xs limit (k + 1) = (inR x 0 (limit - 1) && decide (y < x)) := by
  unfold riseAt; rw [h, Nat.add_sub_cancel, hy]; simp

set_option maxHeartbeats 1000000 in
theorem rising_any (A : Option Addr) (cap : Nat) (xs : List Int) (limit : Int) (w : World) (hl : xs.length ≤ 1048576) (hlim : -1048576 ≤ limit) (hlim2 : limit ≤ 1048576) (hx : Ints w A xs) :
    Calls Try.prog 17 #[.slice A xs.length cap, .int .i64 limit] w fun e w' => e = .returned (.bool (rising xs limit)) ∧ w = w' := by
  go_enter Try.func17, Try.ntmps17
  go_wp2_with fail
  go_loop [9] (fun i => ∃ (k : Nat), k ≤ xs.length ∧ i = .int .i64 k ∧ Hid ((List.range k).all (riseAt xs limit) = true)) (fun i => xs.length - (intOf i).toNat)
  case atStart => exact ⟨0, Nat.zero_le _, rfl, Lib.hid (by simp)⟩
  case round =>
    obtain ⟨k, hk, rfl, hs⟩ := hrel
    by_cases hlt : k < xs.length
    · obtain ⟨b, o, x, rfl, _, HX, hcell⟩ := hx.at_ hlt
      cases hin : inR x 0 (limit - 1)
      · clear hx
        go_wp2_with (go_at_call 25; refine (within_any _ _ _ _).mono ?_; rintro e w' ⟨rfl, rfl⟩)
        go_ret
        refine ⟨ret_bool ?_, rfl⟩
        unfold rising
        symm
        refine range_all_false hlt ?_
        cases k with
        | zero => rw [riseAt_zero HX.out, hin]
        | succ j =>
          have hj := List.getElem?_eq_getElem (show j < xs.length by omega)
          rw [riseAt_next HX.out hj, hin]; rfl
      · by_cases hk0 : k = 0
        · have hk1 : ¬ 0 < (k : Int) := by omega
          have HN : Hid (riseAt xs limit k = inR x 0 (limit - 1)) := Lib.hid (by
            have := HX.out
            rw [hk0] at this ⊢
            exact riseAt_zero this)
          clear hx hk0
          go_wp2_with (go_at_call 25; refine (within_any _ _ _ _).mono ?_; rintro e w' ⟨rfl, rfl⟩)
          go_round
          case rel => exact ⟨k + 1, by omega, by go_num, Lib.hid (by rw [rising_succ, hs.out, HN.out, hin]; rfl)⟩
          case measure => simp [intOf]; omega
        · obtain ⟨j, rfl⟩ : ∃ j, k = j + 1 := ⟨k - 1, by omega⟩
          clear hk0
          obtain ⟨y, HY, hcell2⟩ := hx.at1 (k := j) (by omega)
          have HN := Lib.hid (riseAt_next (limit := limit) HX.out HY.out)
          have hpos : (0 : Int) < ((j + 1 : Nat) : Int) := by omega
          clear hx
          by_cases hlt2 : y < x
          · have hge : ¬ x ≤ y := by omega
            go_wp2_with (go_at_call 25; refine (within_any _ _ _ _).mono ?_; rintro e w' ⟨rfl, rfl⟩)
            go_round
            case rel => exact ⟨j + 1 + 1, by omega, by go_num, Lib.hid (by rw [rising_succ, hs.out, HN.out, hin, decide_eq_true hlt2]; rfl)⟩
            case measure => simp [intOf]; omega
          · have hge : x ≤ y := by omega
            go_wp2_with (go_at_call 25; refine (within_any _ _ _ _).mono ?_; rintro e w' ⟨rfl, rfl⟩)
            go_ret
            refine ⟨ret_bool ?_, rfl⟩
            unfold rising
            symm
            exact range_all_false hlt (by rw [HN.out, decide_eq_false (by omega), Bool.and_false])
    · obtain rfl : k = xs.length := by omega
      go_wp2_with fail
      go_ret
      exact ⟨ret_bool hs.out.symm, rfl⟩


end Go.Proofs.Ytcojhogndimboaa
