/- Texts merged: Convex1 Convex2. -/
import Derived.Test.YtlhjbpachpjpkaaInterval
import Derived.Test.YtlhjbpachpjpkaaReA
import Derived.Test.YtlhjbpachpjpkaaTrans
namespace Go.Proofs.Ytlhjbpachpjpkaa
open Go.RowKit

def rowConv (r : List Int) : Bool := (ivImpl r).2.2
def hconvex (m : List (List Int)) : Bool := gridOk m 0 1 && m.all rowConv

set_option maxHeartbeats 1000000 in
theorem implIsHConvex_any (A : Option Addr) (cap : Nat) (m : List (List Int)) (w : World) (hl : m.length ≤ 1048576) (hr : ∀ r ∈ m, r.length ≤ 1048576) (hx : GridAt w A m) :
    Calls Try.prog 12 #[.slice A m.length cap] w fun e w' => e = .returned (.bool (hconvex m)) ∧ w = w' := by
  cases h : gridOk m 0 1
  · go_enter Try.func12, Try.ntmps12
    go_wp2_with (go_at_call 36; refine (implImageOk_any _ _ m _ hl hr hx).mono ?_; rintro e w' ⟨rfl, rfl⟩)
    go_ret
    exact ⟨ret_bool (by simp [hconvex, h]), rfl⟩
  · go_enter Try.func12, Try.ntmps12
    go_wp2_with (go_at_call 36; refine (implImageOk_any _ _ m _ hl hr hx).mono ?_; rintro e w' ⟨rfl, rfl⟩)
    go_loop [13] (fun i => ∃ k : Nat, k ≤ m.length ∧ i = .int .i64 k ∧ Hid ((m.take k).all rowConv = true)) (fun i => m.length - (intOf i).toNat)
    case atStart => exact ⟨0, Nat.zero_le _, rfl, Lib.hid (by simp)⟩
    case round =>
      obtain ⟨k, hk, rfl, hs⟩ := hrel
      by_cases hlt : k < m.length
      · obtain ⟨b, o, R, c, r, rfl, _, HX, hcell, hcap, hrow⟩ := hx.cap_ hlt
        have ci := implIntervalOf_any R c r w (hr r (List.mem_of_getElem? HX.out)) hcap hrow
        unfold ret3 at ci
        obtain ⟨p, hp⟩ : ∃ p, (ivImpl r).1 = p := ⟨_, rfl⟩
        obtain ⟨q, hq⟩ : ∃ q, (ivImpl r).2.1 = q := ⟨_, rfl⟩
        obtain ⟨z, hz⟩ : ∃ z, (ivImpl r).2.2 = z := ⟨_, rfl⟩
        rw [hp, hq, hz] at ci
        have HZ : Hid (rowConv r = z) := Lib.hid hz
        clear hp hq hz hx hr
        cases z
        · go_wp2_with (go_at_call 39; refine ci.mono ?_; rintro e w' ⟨rfl, rfl⟩)
          go_ret
          exact ⟨ret_bool (by unfold hconvex; rw [all_false_of HX.out _ HZ.out, Bool.and_false]), rfl⟩
        · go_wp2_with (go_at_call 39; refine ci.mono ?_; rintro e w' ⟨rfl, rfl⟩)
          go_round
          case rel => exact ⟨k + 1, by omega, by go_num, Lib.hid (by rw [take_all_succ HX.out, hs.out, HZ.out]; rfl)⟩
          case measure => simp [intOf]; omega
      · obtain rfl : k = m.length := by omega
        go_wp2_with fail
        go_ret
        exact ⟨ret_bool (by have := hs.out; rw [take_full] at this; unfold hconvex; rw [h, this]; rfl), rfl⟩

set_option maxHeartbeats 1000000 in
theorem specIsHConvex_any (A : Option Addr) (cap : Nat) (m : List (List Int)) (w : World) (hl : m.length ≤ 1048576) (hr : ∀ r ∈ m, r.length ≤ 1048576) (hx : GridAt w A m) :
    Calls Try.prog 67 #[.slice A m.length cap] w fun e w' => e = .returned (.bool (hconvex m)) ∧ w = w' := by
  cases h : gridOk m 0 1
  · go_enter Try.func67, Try.ntmps67
    go_wp2_with (go_at_call 32; refine (specImageOk_any _ _ m _ hl hr hx).mono ?_; rintro e w' ⟨rfl, rfl⟩)
    go_ret
    exact ⟨ret_bool (by simp [hconvex, h]), rfl⟩
  · go_enter Try.func67, Try.ntmps67
    go_wp2_with (go_at_call 32; refine (specImageOk_any _ _ m _ hl hr hx).mono ?_; rintro e w' ⟨rfl, rfl⟩)
    go_loop [13] (fun i => ∃ k : Nat, k ≤ m.length ∧ i = .int .i64 k ∧ Hid ((m.take k).all rowConv = true)) (fun i => m.length - (intOf i).toNat)
    case atStart => exact ⟨0, Nat.zero_le _, rfl, Lib.hid (by simp)⟩
    case round =>
      obtain ⟨k, hk, rfl, hs⟩ := hrel
      by_cases hlt : k < m.length
      · obtain ⟨b, o, R, c, r, rfl, _, HX, hcell, hcap, hrow⟩ := hx.cap_ hlt
        have ci := specIntervalOf_any R c r w (hr r (List.mem_of_getElem? HX.out)) hrow
        rw [iv_eq] at ci
        unfold ret3 at ci
        obtain ⟨p, hp⟩ : ∃ p, (ivImpl r).1 = p := ⟨_, rfl⟩
        obtain ⟨q, hq⟩ : ∃ q, (ivImpl r).2.1 = q := ⟨_, rfl⟩
        obtain ⟨z, hz⟩ : ∃ z, (ivImpl r).2.2 = z := ⟨_, rfl⟩
        rw [hp, hq, hz] at ci
        have HZ : Hid (rowConv r = z) := Lib.hid hz
        clear hp hq hz hx hr
        cases z
        · go_wp2_with (go_at_call 90; refine ci.mono ?_; rintro e w' ⟨rfl, rfl⟩)
          go_ret
          exact ⟨ret_bool (by unfold hconvex; rw [all_false_of HX.out _ HZ.out, Bool.and_false]), rfl⟩
        · go_wp2_with (go_at_call 90; refine ci.mono ?_; rintro e w' ⟨rfl, rfl⟩)
          go_round
          case rel => exact ⟨k + 1, by omega, by go_num, Lib.hid (by rw [take_all_succ HX.out, hs.out, HZ.out]; rfl)⟩
          case measure => simp [intOf]; omega
      · obtain rfl : k = m.length := by omega
        go_wp2_with fail
        go_ret
        exact ⟨ret_bool (by have := hs.out; rw [take_full] at this; unfold hconvex; rw [h, this]; rfl), rfl⟩
end Go.Proofs.Ytlhjbpachpjpkaa

namespace Go.Proofs.Ytlhjbpachpjpkaa
open Go.RowKit

def vconvex (m : List (List Int)) : Bool := gridOk m 0 1 && hconvex (tr m)
def convexI (m : List (List Int)) : Bool := hconvex m && vconvex m
theorem hconvex_nil : hconvex [] = false := rfl

theorem specIsVConvex_any (A : Option Addr) (cap : Nat) (m : List (List Int)) (w : World) (hl : m.length ≤ 1048576) (hr : ∀ r ∈ m, r.length ≤ 1048576) (hx : GridAt w A m) :
    Calls Try.prog 68 #[.slice A m.length cap] w fun e w' => e = .returned (.bool (vconvex m)) ∧ Ext w w' := by
  have ct := specTransposeOf_any A cap m w hl hr hx
  cases h : gridOk m 0 1
  · have hv : vconvex m = false := by simp [vconvex, h]
    rw [hv]
    have c2 := specIsHConvex_any none 0 [] w (by simp) (by simp) (fun k r hk => by simp at hk)
    rw [hconvex_nil] at c2
    go_enter Try.func68, Try.ntmps68
    go_wp2_with fail
    refine ct.mono ?_
    rintro e w' ⟨k1, _⟩
    obtain ⟨rfl, rfl⟩ := k1 h
    clear k1 ct
    go_wp2_with fail
    refine c2.mono ?_
    rintro e w' ⟨rfl, rfl⟩
    go_wp2
    go_ret
    exact ⟨rfl, Ext.refl _⟩
  · have hv : vconvex m = hconvex (tr m) := by simp [vconvex, h]
    have htl := (tr_shape m).1
    have hsh := gridOk_shape h
    have hr2 : ∀ r ∈ tr m, r.length ≤ 1048576 := fun r hr => by rw [(tr_shape m).2 r hr]; omega
    rw [hv]
    have HR2 := Lib.hid hr2
    have HTL := Lib.hid htl
    clear hr2 hsh htl
    go_enter Try.func68, Try.ntmps68
    go_wp2_with fail
    refine ct.mono ?_
    rintro e w1 ⟨_, k1⟩
    obtain ⟨b, c, rfl, ho, he⟩ := k1 h
    clear k1 ct
    have hg := ho.gridAt
    rw [← HTL.out]
    have c2 := fun hh => specIsHConvex_any (some ⟨b, 0, none⟩) c (tr m) w1 hh HR2.out hg
    have hlen : (tr m).length ≤ 1048576 := by have := gridOk_shape h; have := HTL.out; omega
    have c3 := c2 hlen
    clear c2 hlen hg ho
    go_wp2_with fail
    refine c3.mono ?_
    rintro e w' ⟨rfl, rfl⟩
    go_wp2
    go_ret
    exact ⟨rfl, he⟩

theorem specIsConvex_any (A : Option Addr) (cap : Nat) (m : List (List Int)) (w : World) (hl : m.length ≤ 1048576) (hr : ∀ r ∈ m, r.length ≤ 1048576) (hx : GridAt w A m) :
    Calls Try.prog 33 #[.slice A m.length cap] w fun e w' => e = .returned (.bool (convexI m)) ∧ Ext w w' := by
  have c1 := specIsHConvex_any A cap m w hl hr hx
  have c2 := specIsVConvex_any A cap m w hl hr hx
  cases h : hconvex m
  · have hv : convexI m = false := by simp [convexI, h]
    rw [hv]
    rw [h] at c1
    go_enter Try.func33, Try.ntmps33
    go_wp2_with fail
    refine c1.mono ?_
    rintro e w' ⟨rfl, rfl⟩
    go_wp2
    go_ret
    exact ⟨rfl, Ext.refl _⟩
  · have hv : convexI m = vconvex m := by simp [convexI, h]
    rw [hv]
    rw [h] at c1
    go_enter Try.func33, Try.ntmps33
    go_wp2_with fail
    refine c1.mono ?_
    rintro e w' ⟨rfl, rfl⟩
    go_wp2_with fail
    refine c2.mono ?_
    rintro e w' ⟨rfl, he⟩
    go_wp2
    go_ret
    exact ⟨by simp, he⟩

theorem implIsVConvex_any (A : Option Addr) (cap : Nat) (m : List (List Int)) (w : World) (hl : m.length ≤ 1048576) (hr : ∀ r ∈ m, r.length ≤ 1048576) (hx : GridAt w A m) :
    Calls Try.prog 13 #[.slice A m.length cap] w fun e w' => e = .returned (.bool (vconvex m)) ∧ Ext w w' := by
  have ct := implTransposeOf_any A cap m w hl hr hx
  cases h : gridOk m 0 1
  · have hv : vconvex m = false := by simp [vconvex, h]
    rw [hv]
    have c2 := implIsHConvex_any none 0 [] w (by simp) (by simp) (fun k r hk => by simp at hk)
    rw [hconvex_nil] at c2
    go_enter Try.func13, Try.ntmps13
    go_wp2_with fail
    refine ct.mono ?_
    rintro e w' ⟨k1, _⟩
    obtain ⟨rfl, rfl⟩ := k1 h
    clear k1 ct
    go_wp2_with fail
    refine c2.mono ?_
    rintro e w' ⟨rfl, rfl⟩
    go_wp2
    go_ret
    exact ⟨rfl, Ext.refl _⟩
  · have hv : vconvex m = hconvex (tr m) := by simp [vconvex, h]
    have htl := (tr_shape m).1
    have hsh := gridOk_shape h
    have hr2 : ∀ r ∈ tr m, r.length ≤ 1048576 := fun r hr => by rw [(tr_shape m).2 r hr]; omega
    rw [hv]
    have HR2 := Lib.hid hr2
    have HTL := Lib.hid htl
    clear hr2 hsh htl
    go_enter Try.func13, Try.ntmps13
    go_wp2_with fail
    refine ct.mono ?_
    rintro e w1 ⟨_, k1⟩
    obtain ⟨b, c, rfl, ho, he⟩ := k1 h
    clear k1 ct
    have hg := ho.gridAt
    rw [← HTL.out]
    have c2 := fun hh => implIsHConvex_any (some ⟨b, 0, none⟩) c (tr m) w1 hh HR2.out hg
    have hlen : (tr m).length ≤ 1048576 := by have := gridOk_shape h; have := HTL.out; omega
    have c3 := c2 hlen
    clear c2 hlen hg ho
    go_wp2_with fail
    refine c3.mono ?_
    rintro e w' ⟨rfl, rfl⟩
    go_wp2
    go_ret
    exact ⟨rfl, he⟩

theorem implIsConvex_any (A : Option Addr) (cap : Nat) (m : List (List Int)) (w : World) (hl : m.length ≤ 1048576) (hr : ∀ r ∈ m, r.length ≤ 1048576) (hx : GridAt w A m) :
    Calls Try.prog 10 #[.slice A m.length cap] w fun e w' => e = .returned (.bool (convexI m)) ∧ Ext w w' := by
  have c1 := implIsHConvex_any A cap m w hl hr hx
  have c2 := implIsVConvex_any A cap m w hl hr hx
  cases h : hconvex m
  · have hv : convexI m = false := by simp [convexI, h]
    rw [hv]
    rw [h] at c1
    go_enter Try.func10, Try.ntmps10
    go_wp2_with fail
    refine c1.mono ?_
    rintro e w' ⟨rfl, rfl⟩
    go_wp2
    go_ret
    exact ⟨rfl, Ext.refl _⟩
  · have hv : convexI m = vconvex m := by simp [convexI, h]
    rw [hv]
    rw [h] at c1
    go_enter Try.func10, Try.ntmps10
    go_wp2_with fail
    refine c1.mono ?_
    rintro e w' ⟨rfl, rfl⟩
    go_wp2_with fail
    refine c2.mono ?_
    rintro e w' ⟨rfl, he⟩
    go_wp2
    go_ret
    exact ⟨by simp, he⟩
end Go.Proofs.Ytlhjbpachpjpkaa
