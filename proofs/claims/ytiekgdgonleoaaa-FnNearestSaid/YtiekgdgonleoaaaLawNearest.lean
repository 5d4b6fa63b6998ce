/- The law FnNearest: its walk. -/
import Derived.Test.YtiekgdgonleoaaaPair
import Derived.Test.YtiekgdgonleoaaaMake6
import Derived.Test.YtiekgdgonleoaaaAlike
import Derived.Test.YtiekgdgonleoaaaNear3
import Derived.Test.YtiekgdgonleoaaaSameSums
import Derived.Test.YtiekgdgonleoaaaBytes
namespace Go.Proofs.Ytiekgdgonleoaaa
open Go.RowKit Tomo

set_option maxRecDepth 100000 in
set_option maxHeartbeats 16000000 in
theorem law_Nearest (w : World) (A0 : Option Addr) (c0 : Nat) (xs0 : List Int) (h630 : xs0.length ≤ 9223372036854775807) (hx0 : Bytes w A0 xs0) :
    Calls Try.prog 3 #[.slice A0 xs0.length c0] w fun e w' => e = .returned (.bool true) ∧ Ext w w' := by
  by_cases hlen : xs0.length ≤ 1048576
  case neg =>
    go_enter Try.func3, Try.ntmps3
    go_wp2_with fail
    go_ret
    exact ⟨rfl, Ext.refl _⟩
  have cp := MakePair_any A0 c0 xs0 w hx0 hlen
  have HX0 := Lib.hid hx0
  clear hx0
  go_enter Try.func3, Try.ntmps3
  go_wp2_with fail
  refine cp.mono ?_
  rintro e w1 ⟨b1, c1, b2, c2, m, q, n, k, rfl, ho1, ho2, hP, he⟩
  have HE1 := Lib.hid he
  have HM := Lib.hid ho1.gridAt
  have HQ := Lib.hid ho2.gridAt
  have HP := Lib.hid hP
  have him := hP.1.2
  obtain ⟨hn1, hn5⟩ := him.2.1
  obtain ⟨hk1, hk5⟩ := him.2.2.1
  obtain ⟨R0, cr0, o0, q0, _⟩ := row_fact him HM.out (show 0 < n by omega)
  rw [Nat.zero_add] at q0
  have hn0 : 0 < n := by omega
  have hnI : (0 : Int) < (n : Int) := by omega
  have cm := MakeSized_any 30 n k A0 c0 xs0 w1 (by omega) ⟨hn1, hn5⟩ ⟨hk1, hk5⟩ (HX0.out.ext he) hlen
  clear cp ho1 ho2 hP him he
  go_wp2_with fail
  refine cm.mono ?_
  rintro e w2 ⟨bp, cpp, p, rfl, hop, hgp, hpl, hpk, he⟩
  have HE2 := Lib.hid he
  have hip : Img p n k := by have h := Img.of hgp; rw [hpl, hpk] at h; exact h
  have HPG := Lib.hid hop.gridAt
  obtain ⟨l1, l2, l3, l4, l5, l6, l7⟩ := near_law HP.out.1.1 HP.out.1.2 hip HP.out.2.1.1 HP.out.2.2.1 HP.out.2.2.2
  obtain ⟨k1, k2⟩ := near_self HP.out.1.1 HP.out.1.2
  obtain ⟨k3, _⟩ := near_law HP.out.1.1 HP.out.1.2 HP.out.1.2 HP.out.1.1 rfl rfl
  have hmr : ∀ r ∈ m, r.length ≤ 1048576 := fun r hr => by rw [HP.out.1.2.1.2 r hr]; omega
  have hpr : ∀ r ∈ p, r.length ≤ 1048576 := fun r hr => by rw [hip.1.2 r hr]; omega
  have hml := HP.out.1.2.1.1
  have HRS := Lib.hid (fun W (e : Ext w1 W) => by have h := implRowSums_any (some ⟨b1, 0, none⟩) c1 m W (by omega) hmr (HM.out.ext e); rw [hml] at h; exact h)
  have HCS := Lib.hid (fun W (e : Ext w1 W) => by have h := implColSums_any (some ⟨b1, 0, none⟩) c1 m W (by omega) hmr (HM.out.ext e); rw [hml] at h; exact h)
  have hrl : (rsI m).length ≤ 5 := by unfold rsI; rw [if_pos HP.out.1.1, List.length_map, hml]; exact hn5
  have hcl : (csI m).length ≤ 5 := by unfold csI; rw [if_pos HP.out.1.1, List.length_map, (tr_shape m).1, HP.out.1.2.head]; exact hk5
  have HNP := Lib.hid (fun W (e : Ext w2 W) (A B : Option Addr) (ca cb : Nat) (hx : Ints W A (rsI m)) (hy : Ints W B (csI m)) => by
    have h := implNearestImage_any A B (some ⟨bp, 0, none⟩) ca cb cpp (rsI m) (csI m) p W (by omega) (by omega) (by omega) hpr hx hy (HPG.out.ext e)
    rw [l1, hpl] at h
    exact h)
  have HNM := Lib.hid (fun W (e : Ext w1 W) (A B : Option Addr) (ca cb : Nat) (hx : Ints W A (rsI m)) (hy : Ints W B (csI m)) => by
    have h := implNearestImage_any A B (some ⟨b1, 0, none⟩) ca cb c1 (rsI m) (csI m) m W (by omega) (by omega) (by omega) hmr hx hy (HM.out.ext e)
    rw [k3, k1, k2, hml] at h
    exact h)
  have HMN := Lib.hid hml
  obtain ⟨x, hx⟩ : ∃ x, nearI p (rsI m) (csI m) = x := ⟨_, rfl⟩
  obtain ⟨D, hD⟩ : ∃ D, nearD p (rsI m) (csI m) = D := ⟨_, rfl⟩
  rw [hx] at l2 l3 l4 l5 HNP
  rw [hD] at l5 l6 l7 HNP
  have HSS := Lib.hid (fun W (X : Option Addr) (xc : Nat) (e : Ext w1 W) (hg : GridAt W X x) => SameSums_any X (some ⟨b1, 0, none⟩) xc c1 x m n k W l2 HP.out.1.2 l3 l4 hg (HM.out.ext e))
  have toE : ∀ {W : World} {e : Ending} {W' : World} {v : Value}, e = .returned v ∧ Drew W W' → e = .returned v ∧ Ext W W' := fun {W e W' v} h => ⟨h.1, by obtain ⟨_, d, rfl⟩ := h; exact (Ext.refl _).drewN d⟩
  have HD1 := Lib.hid (fun W (X : Option Addr) (xc : Nat) (e : Ext w2 W) (hg : GridAt W X x) => by
    have h := (implDistanceOf_any X (some ⟨bp, 0, none⟩) xc cpp x p n k W l2 hip hg (HPG.out.ext e)).mono fun _ _ h => toE h
    rw [l5] at h
    exact h)
  have HD2 := Lib.hid (fun W (e1 : Ext w1 W) (e : Ext w2 W) => (implDistanceOf_any (some ⟨b1, 0, none⟩) (some ⟨bp, 0, none⟩) c1 cpp m p n k W HP.out.1.2 hip (HM.out.ext e1) (HPG.out.ext e)).mono fun _ _ h => toE h)
  have HD3 := Lib.hid (fun W (e1 : Ext w1 W) (e : Ext w2 W) => (implDistanceOf_any (some ⟨b2, 0, none⟩) (some ⟨bp, 0, none⟩) c2 cpp q p n k W HP.out.2.1.2 hip (HQ.out.ext e1) (HPG.out.ext e)).mono fun _ _ h => toE h)
  have HAL := Lib.hid (fun W (Y : Option Addr) (yc : Nat) (e : Ext w1 W) (hg : GridAt W Y m) => by
    have h := alike_yes Y (some ⟨b1, 0, none⟩) yc c1 m W (by omega) (fun r hr => by rw [HP.out.1.2.1.2 r hr]; omega) hg (HM.out.ext e)
    rw [hml] at h
    exact h)
  obtain ⟨dm, hdm⟩ : ∃ dm, dist m p = dm := ⟨_, rfl⟩
  obtain ⟨dq, hdq⟩ : ∃ dq, dist q p = dq := ⟨_, rfl⟩
  rw [hdm] at l6 HD2
  rw [hdq] at l7 HD3
  have HXL := Lib.hid l2.1.1
  obtain ⟨rs, hrs⟩ : ∃ rs, rsI m = rs := ⟨_, rfl⟩
  obtain ⟨cs, hcs⟩ : ∃ cs, csI m = cs := ⟨_, rfl⟩
  rw [hrs] at HRS HNP HNM hrl
  rw [hcs] at HCS HNP HNM hcl
  rw [hpl]
  clear cm hop hgp hpl hpk he hip l1 l2 l3 l4 l5 k1 k2 k3 hmr hpr hml hx hD hdm hdq hrs hcs q0 toE
  have t1 := HRS.out w2 HE2.out
  go_wp2_with fail
  refine t1.mono ?_
  rintro e w3 ⟨v3, rfl, ho3, he3⟩
  obtain ⟨A3, c3, rfl, _, hi3⟩ := ho3.slice
  have HE3 := Lib.hid (HE2.out.trans he3)
  have HE23 := Lib.hid he3
  have HI3 := Lib.hid hi3
  have t2 := HCS.out w3 HE3.out
  clear t1 ho3 he3 hi3
  go_wp2_with fail
  refine t2.mono ?_
  rintro e w4 ⟨v4, rfl, ho4, he4⟩
  obtain ⟨A4, c4, rfl, _, hi4⟩ := ho4.slice
  have HE4 := Lib.hid (HE3.out.trans he4)
  have HE24 := Lib.hid (HE23.out.trans he4)
  have t3 := HNP.out w4 HE24.out A3 A4 c3 c4 (HI3.out.ext he4) hi4
  clear t2 ho4 he4 hi4 HI3
  go_wp2_with fail
  refine t3.mono ?_
  rintro e w5 ⟨v5, rfl, ho5, he5⟩
  obtain ⟨X, xc, hX, hgx⟩ := ho5.sliceAny
  rw [HXL.out] at hX
  subst hX
  have HGX := Lib.hid hgx
  have HE5 := Lib.hid (HE4.out.trans he5)
  have HE25 := Lib.hid (HE24.out.trans he5)
  have t4 := HRS.out w5 HE5.out
  clear t3 ho5 he5 hgx
  go_wp2_with fail
  refine t4.mono ?_
  rintro e w6 ⟨v6, rfl, ho6, he6⟩
  obtain ⟨A6, c6, rfl, _, hi6⟩ := ho6.slice
  have HE6 := Lib.hid (HE5.out.trans he6)
  have HE26 := Lib.hid (HE25.out.trans he6)
  have HE56 := Lib.hid he6
  have HI6 := Lib.hid hi6
  have t5 := HCS.out w6 HE6.out
  clear t4 ho6 he6 hi6
  go_wp2_with fail
  refine t5.mono ?_
  rintro e w7 ⟨v7, rfl, ho7, he7⟩
  obtain ⟨A7, c7, rfl, _, hi7⟩ := ho7.slice
  have HE7 := Lib.hid (HE6.out.trans he7)
  have HE27 := Lib.hid (HE26.out.trans he7)
  have HE57 := Lib.hid (HE56.out.trans he7)
  have t6 := HNM.out w7 HE7.out A6 A7 c6 c7 (HI6.out.ext he7) hi7
  clear t5 ho7 he7 hi7 HI6
  go_wp2_with fail
  refine t6.mono ?_
  rintro e w8 ⟨v8, rfl, ho8, he8⟩
  obtain ⟨Y, yc, hY, hgy⟩ := ho8.sliceAny
  rw [HMN.out] at hY
  subst hY
  have HGY := Lib.hid hgy
  have HE8 := Lib.hid (HE7.out.trans he8)
  have HE28 := Lib.hid (HE27.out.trans he8)
  have HE58 := Lib.hid (HE57.out.trans he8)
  have t7 := HSS.out w8 X xc HE8.out (HGX.out.ext HE58.out)
  clear t6 ho8 he8 hgy
  go_wp2_with fail
  refine t7.mono ?_
  rintro e w9 ⟨rfl, he9⟩
  have HE9 := Lib.hid (HE8.out.trans he9)
  have HE29 := Lib.hid (HE28.out.trans he9)
  have HE89 := Lib.hid he9
  have t8 := HD1.out w9 X xc HE29.out (HGX.out.ext (HE58.out.trans he9))
  clear t7 he9
  go_wp2_with fail
  refine t8.mono ?_
  rintro e wa ⟨rfl, hea⟩
  have HEA := Lib.hid (HE9.out.trans hea)
  have HE2A := Lib.hid (HE29.out.trans hea)
  have HE8A := Lib.hid (HE89.out.trans hea)
  have t9 := HD2.out wa HEA.out HE2A.out
  clear t8 hea
  go_wp2_with fail
  refine t9.mono ?_
  rintro e wc ⟨rfl, hec⟩
  have HEC := Lib.hid (HEA.out.trans hec)
  have HE2C := Lib.hid (HE2A.out.trans hec)
  have HE8C := Lib.hid (HE8A.out.trans hec)
  have t10 := HD3.out wc HEC.out HE2C.out
  clear t9 hec
  go_wp2_with fail
  refine t10.mono ?_
  rintro e wd ⟨rfl, hed⟩
  have HED := Lib.hid (HEC.out.trans hed)
  have t11 := HAL.out wd Y yc HED.out (HGY.out.ext (HE8C.out.trans hed))
  clear t10 hed
  go_wp2_with fail
  refine t11.mono ?_
  rintro e we ⟨rfl, rfl⟩
  go_wp2_with fail
  go_ret
  exact ⟨rfl, HE1.out.trans HED.out⟩
end Go.Proofs.Ytiekgdgonleoaaa
