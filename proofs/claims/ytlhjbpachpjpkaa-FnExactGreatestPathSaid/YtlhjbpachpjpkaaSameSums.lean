/- Two images with the same sums: the program's test says so. -/
import Derived.Test.YtlhjbpachpjpkaaNear
import Derived.Test.YtlhjbpachpjpkaaSums
import Derived.BigQuiet
import Derived.Deep.QuietTactic
namespace Go.Proofs.Ytlhjbpachpjpkaa
open Go.RowKit Tomo

set_option maxHeartbeats 2000000 in
theorem EqualInts_any (A B : Option Addr) (ca cb : Nat) (xs : List Int) (w : World) (hl : xs.length ≤ 1000000) (hx : Ints w A xs) (hy : Ints w B xs) :
    Calls Try.prog 44 #[.slice A xs.length ca, .slice B xs.length cb] w fun e w' => e = .returned (.bool true) ∧ Ext w w' := by
  have HX := Lib.hid hx
  have HY := Lib.hid hy
  clear hx hy
  go_enter Try.func44, Try.ntmps44
  go_wp2_with fail
  go_loopw [13, 5] (fun i _ wr => ∃ (j : Nat), j ≤ xs.length ∧ i = .int .i64 j ∧ Hid (Ext w wr)) (fun i _ _ => xs.length - (intOf i).toNat)
  case atStart => exact ⟨0, Nat.zero_le _, rfl, Lib.hid (Ext.refl _)⟩
  case round =>
    rename World => wr
    obtain ⟨j, hj, rfl, hE⟩ := hrel
    by_cases hlt : j < xs.length
    · have hlt2 : (j : Int) < (xs.length : Int) := by omega
      obtain ⟨b, o, x, rfl, _, hxx, hc⟩ := (HX.out.ext hE.out).at_ hlt
      obtain ⟨b2, o2, x2, rfl, _, hxx2, hc2⟩ := (HY.out.ext hE.out).at_ hlt
      obtain rfl : x = x2 := by have h := hxx.out; rw [hxx2.out] at h; exact (Option.some.inj h).symm
      go_wp2_with fail
      go_quiet (fail)
      all_goals
        go_wp2_with fail
        go_roundw
        case rel => exact ⟨j + 1, by omega, by go_num, Lib.hid (hE.out.trans ((Ext.refl _).drewN _))⟩
        case measure => simp [intOf]; omega
    · obtain rfl : j = xs.length := by omega
      go_wp2_with fail
      go_ret
      exact ⟨rfl, hE.out⟩
set_option maxRecDepth 100000 in
set_option maxHeartbeats 4000000 in
theorem SameSums_any (A B : Option Addr) (ca cb : Nat) (x m : Grid) (n k : Nat) (w : World) (hi : Img x n k) (hj : Img m n k) (hr : rsI x = rsI m) (hc : csI x = csI m) (hx : GridAt w A x) (hy : GridAt w B m) :
    Calls Try.prog 15 #[.slice A n ca, .slice B n cb] w fun e w' => e = .returned (.bool true) ∧ Ext w w' := by
  obtain ⟨hn1, hn5⟩ := hi.2.1
  obtain ⟨hk1, hk5⟩ := hi.2.2.1
  have h1 := hi.1.1
  have h2 := hj.1.1
  have hxr : ∀ r ∈ x, r.length ≤ 1048576 := fun r hr => by rw [hi.1.2 r hr]; omega
  have hmr : ∀ r ∈ m, r.length ≤ 1048576 := fun r hr => by rw [hj.1.2 r hr]; omega
  have cs := sameSize_any A B ca cb x m n k w hi (by omega) hmr hx hy
  rw [sameSz_img hj, h2] at cs
  have HRX := Lib.hid (fun W (e : Ext w W) => by have h := implRowSums_any A ca x W (by omega) hxr (hx.ext e); rw [h1, hr] at h; exact h)
  have HRM := Lib.hid (fun W (e : Ext w W) => by have h := implRowSums_any B cb m W (by omega) hmr (hy.ext e); rw [h2] at h; exact h)
  have HCX := Lib.hid (fun W (e : Ext w W) => by have h := implColSums_any A ca x W (by omega) hxr (hx.ext e); rw [h1, hc] at h; exact h)
  have HCM := Lib.hid (fun W (e : Ext w W) => by have h := implColSums_any B cb m W (by omega) hmr (hy.ext e); rw [h2] at h; exact h)
  have hrl : (rsI m).length ≤ 5 := by unfold rsI; rw [if_pos hj.ok, List.length_map, h2]; exact hn5
  have hcl : (csI m).length ≤ 5 := by unfold csI; rw [if_pos hj.ok, List.length_map, (tr_shape m).1, hj.head]; exact hk5
  obtain ⟨rs, hrs⟩ : ∃ rs, rsI m = rs := ⟨_, rfl⟩
  obtain ⟨cs', hcs⟩ : ∃ cs, csI m = cs := ⟨_, rfl⟩
  rw [hrs] at HRX HRM hrl
  rw [hcs] at HCX HCM hcl
  clear hx hy hi hj h1 h2 hxr hmr hr hc hrs hcs
  go_enter Try.func15, Try.ntmps15
  go_wp2_with fail
  refine cs.mono ?_
  rintro e w1 ⟨rfl, d, rfl⟩
  have E1 : Ext w (w.drewN d) := (Ext.refl w).drewN d
  obtain ⟨w1, hw1⟩ : ∃ w1, w.drewN d = w1 := ⟨_, rfl⟩
  rw [hw1] at E1 ⊢
  have HE1 := Lib.hid E1
  have c1 := HRX.out w1 E1
  clear cs hw1 E1
  go_wp2_with fail
  refine c1.mono ?_
  rintro e w2 ⟨v, rfl, ho, he⟩
  obtain ⟨A2, k2, rfl, _, hi2⟩ := ho.slice
  have HE2 := Lib.hid (HE1.out.trans he)
  have HI2 := Lib.hid hi2
  have c2 := HRM.out w2 HE2.out
  clear c1 ho he hi2
  go_wp2_with fail
  refine c2.mono ?_
  rintro e w3 ⟨v, rfl, ho, he⟩
  obtain ⟨A3, k3, rfl, _, hi3⟩ := ho.slice
  have HE3 := Lib.hid (HE2.out.trans he)
  have c3 := EqualInts_any A2 A3 k2 k3 rs w3 (by omega) (HI2.out.ext he) hi3
  clear c2 ho he hi3
  go_wp2_with fail
  refine c3.mono ?_
  rintro e w4 ⟨rfl, he⟩
  have HE4 := Lib.hid (HE3.out.trans he)
  have c4 := HCX.out w4 HE4.out
  clear c3 he
  go_wp2_with fail
  refine c4.mono ?_
  rintro e w5 ⟨v, rfl, ho, he⟩
  obtain ⟨A5, k5, rfl, _, hi5⟩ := ho.slice
  have HE5 := Lib.hid (HE4.out.trans he)
  have HI5 := Lib.hid hi5
  have c5 := HCM.out w5 HE5.out
  clear c4 ho he hi5
  go_wp2_with fail
  refine c5.mono ?_
  rintro e w6 ⟨v, rfl, ho, he⟩
  obtain ⟨A6, k6, rfl, _, hi6⟩ := ho.slice
  have HE6 := Lib.hid (HE5.out.trans he)
  have c6 := EqualInts_any A5 A6 k5 k6 cs' w6 (by omega) (HI5.out.ext he) hi6
  clear c5 ho he hi6
  go_wp2_with fail
  refine c6.mono ?_
  rintro e w7 ⟨rfl, he⟩
  have HE7 := Lib.hid (HE6.out.trans he)
  clear c6 he
  go_wp2_with fail
  go_ret
  exact ⟨rfl, HE7.out⟩
end Go.Proofs.Ytlhjbpachpjpkaa
