/- The heaviest image, in the reference and in the program. -/
import Derived.Test.YtpmpbdcbiaohdaaBest
import Derived.Test.YtpmpbdcbiaohdaaReA
namespace Go.Proofs.Ytpmpbdcbiaohdaa
open Go.RowKit Tomo

noncomputable def heavyOk (wt : Grid) (rows cols : List Int) : Bool := exI rows cols && weightOk wt rows.length cols.length
noncomputable def heavyI (wt : Grid) (rows cols : List Int) : Grid := if heavyOk wt rows cols = true then bestI (weightI wt) (allI rows cols) else []
noncomputable def heavyW (wt : Grid) (rows cols : List Int) : Int := if heavyOk wt rows cols = true then weightI wt (bestI (weightI wt) (allI rows cols)) else 0
theorem heavyI_bound (wt : Grid) (rows cols : List Int) : GBound (heavyI wt rows cols) := by
  unfold heavyI
  split
  · exact bestI_bound _ _ _
  · exact nil_bound
theorem heavy_off {wt : Grid} {rows cols : List Int} (h : heavyOk wt rows cols = false) : heavyI wt rows cols = [] ∧ heavyW wt rows cols = 0 := by
  unfold heavyI heavyW; rw [h]; simp
theorem heavy_on {wt : Grid} {rows cols : List Int} (h : heavyOk wt rows cols = true) : heavyI wt rows cols = bestI (weightI wt) (allI rows cols) ∧ heavyW wt rows cols = weightI wt (bestI (weightI wt) (allI rows cols)) := by
  unfold heavyI heavyW; rw [h]; simp
theorem weighs_img {wt g : Grid} {n k : Nat} (h : Img g n k) (h2 : weightOk wt n k = true) : Weighs wt g := weighs_of h.ok (by rw [h.1.1, h.head]; exact h2)
theorem weightOf_img {wt g : Grid} {n k : Nat} (h : Img g n k) (h2 : weightOk wt n k = true) : weightOf wt g = (weightI wt g, true) := by
  unfold weightOf; rw [h.ok, h.1.1, h.head, h2]; rfl


set_option maxHeartbeats 4000000 in
theorem implHeaviestImage_any (A B A2 : Option Addr) (ca cb c2 : Nat) (rows cols : List Int) (wt : Grid) (w : World) (hl : rows.length ≤ 1048576) (hl2 : cols.length ≤ 1048576) (hl3 : wt.length ≤ 1048576) (hr3 : ∀ r ∈ wt, r.length ≤ 1048576) (hx : Ints w A rows) (hy : Ints w B cols) (hz : GridAt w A2 wt) :
    Calls Try.prog 6 #[.slice A rows.length ca, .slice B cols.length cb, .slice A2 wt.length c2] w fun e w' => ∃ v, e = .returned (.tuple #[v, .int .i64 (heavyW wt rows cols), .bool (heavyOk wt rows cols)]) ∧ OwnGrid w' w.heap.size v (heavyI wt rows cols) ∧ Ext w w' := by
  have cl := implAllImages_any A B ca cb rows cols w hl hl2 hx hy
  have HWK := Lib.hid (fun W (e : Ext w W) => implWeightOk_any A2 c2 wt rows.length cols.length W hl3 hr3 (hz.ext e))
  have hlen := allI_len rows cols
  obtain ⟨so, hso⟩ : ∃ so, sumsOk rows cols = so := ⟨_, rfl⟩
  rw [hso] at cl
  cases hgs : allI rows cols with
  | nil =>
    have hex : exI rows cols = false := by
      cases e : exI rows cols
      · rfl
      · exact absurd hgs (allI_some e).2
    have hk : heavyOk wt rows cols = false := by unfold heavyOk; rw [hex]; rfl
    obtain ⟨q1, q2⟩ := heavy_off hk
    rw [hk, q2]
    have HP := Lib.hid q1
    simp only [hgs] at cl
    clear hx hy hz hk q1 q2 HWK hgs hex hso hlen
    go_enter Try.func6, Try.ntmps6
    go_wp2_with fail
    refine cl.mono ?_
    rintro e w2 ⟨v, rfl, ho, he⟩
    obtain ⟨Ag, cg, rfl, _⟩ := ho.slice
    have HE2 := Lib.hid he
    clear ho he cl
    go_wp2
    go_ret3
    exact ⟨_, rfl, by rw [HP.out]; exact OwnGrid.nil _ _, HE2.out⟩
  | cons g0 gs0 =>
  have hex : exI rows cols = true := exI_of (by rw [hgs]; simp)
  have HIMG : Hid (∀ m, m ∈ g0 :: gs0 → Img m rows.length cols.length) := Lib.hid fun m hm => allI_img (by rw [hgs]; exact hm)
  obtain ⟨gs, hgs2⟩ : ∃ gs, g0 :: gs0 = gs := ⟨_, rfl⟩
  have HG0 : Hid (gs[0]? = some g0) := Lib.hid (by rw [← hgs2]; rfl)
  rw [hgs2] at hgs HIMG
  have hne : 0 < gs.length := by rw [← hgs2]; simp
  simp only [hgs] at cl
  rw [hgs] at hlen
  obtain ⟨N, hN⟩ : ∃ N, gs.length = N := ⟨_, rfl⟩
  rw [hN] at hne hlen
  have HN := Lib.hid hN
  clear hN
  cases h2 : weightOk wt rows.length cols.length
  · rw [h2] at HWK
    have hk : heavyOk wt rows cols = false := by unfold heavyOk; rw [h2, Bool.and_false]
    obtain ⟨q1, q2⟩ := heavy_off hk
    rw [hk, q2]
    have HP := Lib.hid q1
    clear hx hy hz hk q1 q2 hgs hex hso h2 hgs2
    go_enter Try.func6, Try.ntmps6
    go_wp2_with fail
    refine cl.mono ?_
    rintro e w2 ⟨v, rfl, ho, he⟩
    obtain ⟨Ag, cg, rfl, _⟩ := ho.slice
    rw [HN.out]
    have HE2 := Lib.hid he
    have cw := HWK.out w2 he
    clear ho he cl
    go_wp2_with (go_at_call 10; refine cw.mono ?_; rintro e w' ⟨rfl, rfl⟩)
    go_ret3
    exact ⟨_, rfl, by rw [HP.out]; exact OwnGrid.nil _ _, HE2.out⟩
  rw [h2] at HWK
  have hk : heavyOk wt rows cols = true := by unfold heavyOk; rw [hex, h2]; rfl
  obtain ⟨q1, q2⟩ := heavy_on hk
  rw [hgs] at q1 q2
  rw [hk, q2]
  have HP := Lib.hid q1
  have HCW : Hid (∀ (W : World) (e : Ext w W) (g : Grid) (Ag : Option Addr) (cg : Nat), g ∈ gs → GridAt W Ag g → Calls Try.prog 9 #[.slice A2 wt.length c2, .slice Ag g.length cg] W fun e w' => e = .returned (.tuple #[.int .i64 (weightI wt g), .bool true]) ∧ W = w') := Lib.hid (fun W e g Ag cg hg hga => by
    have himg := HIMG.out g hg
    have h := implWeightOf_any A2 Ag c2 cg wt g W hl3 hr3 (by rw [himg.1.1]; exact hl) (fun r hr => by rw [himg.1.2 r hr]; exact hl2) (hz.ext e) hga
    rw [weightOf_img himg h2] at h
    exact h)
  clear hx hy hz hk q1 q2 hgs hex hso h2 hgs2
  go_enter Try.func6, Try.ntmps6
  go_wp2_with fail
  refine cl.mono ?_
  rintro e w2 ⟨v, rfl, ho, he⟩
  obtain ⟨us, hu⟩ := ho.u
  obtain ⟨Ag, cg, rfl, _⟩ := ho.slice
  rw [HN.out] at hu ⊢
  have HE2 := Lib.hid he
  have HU := Lib.hid hu
  have cw := HWK.out w2 he
  obtain ⟨b0, u0', g0', Au0, cu0, hA0, hb0, _, hg0', hcell0, _, hog0⟩ := hu.elt (k := 0) (by rw [HN.out]; exact hne)
  subst hA0
  obtain rfl : g0' = g0 := by have h := hg0'.out; rw [HG0.out] at h; exact (Option.some.inj h).symm
  have cw0 := HCW.out w2 he g0' Au0 cu0 (List.mem_of_getElem? HG0.out) hog0.gridAt
  have HOG0 := Lib.hid hog0
  obtain ⟨W0, hW0⟩ : ∃ W, weightI wt g0' = W := ⟨_, rfl⟩
  rw [hW0] at cw0
  have HW0 := Lib.hid hW0
  clear ho he cl hu hog0 hW0 hg0'
  go_wp2_with (first | (go_at_call 10; refine cw.mono ?_; rintro e w' ⟨rfl, rfl⟩) | (go_at_call 9; refine cw0.mono ?_; rintro e w' ⟨rfl, rfl⟩))
  go_loopw [47, 11, 12, 15, 16, 17, 51] (fun i best most _ _ _ _ wr => ∃ (j : Nat) (gb : Grid) (M : Int), j ≤ N ∧ i = .int .i64 j ∧ wr = w2 ∧ most = .int .i64 M ∧ Hid (M = weightI wt gb) ∧ Hid (OwnGrid w2 w.heap.size best gb) ∧ Hid (gb = bestI (weightI wt) (gs.take (if j = 0 then 1 else j)))) (fun i _ _ _ _ _ _ _ => N - (intOf i).toNat)
  case atStart => exact ⟨0, g0', W0, Nat.zero_le _, rfl, rfl, rfl, Lib.hid HW0.out.symm, HOG0, Lib.hid (by rw [if_pos rfl]; exact (bestI_zero HG0.out).symm)⟩
  case round =>
    obtain ⟨j, gb, M, hj, rfl, rfl, rfl, hM, hob, hgb⟩ := hrel
    by_cases hlt : j < N
    · obtain ⟨b, u, g, Au, cu, hA, hb, _, hg, hcell, _, hog⟩ := HU.out.elt (by rw [HN.out]; exact hlt)
      cases hA
      have cc := HCW.out wr HE2.out g Au cu (List.mem_of_getElem? hg.out) hog.gridAt
      obtain ⟨W, hW⟩ : ∃ W, weightI wt g = W := ⟨_, rfl⟩
      rw [hW] at cc
      have HW := Lib.hid hW
      have HOG := Lib.hid hog
      clear hog hW
      have HB : bestI (weightI wt) (gs.take (j + 1)) = if M < W then g else gb := by
        by_cases hj0 : j = 0
        · subst hj0
          have e1 := bestI_zero (f := weightI wt) hg.out
          have e2 := hgb.out
          rw [if_pos rfl, e1] at e2
          rw [Nat.zero_add, e1, e2, if_neg]
          rw [hM.out, e2, HW.out]; omega
        · have h := bestI_take (f := weightI wt) hg.out (by omega)
          have e2 := hgb.out
          rw [if_neg hj0] at e2
          rw [← e2, ← hM.out, HW.out] at h
          exact h
      have hj1 : (if j + 1 = 0 then 1 else j + 1) = j + 1 := if_neg (by omega)
      by_cases hgt : M < W
      · rw [if_pos hgt] at HB
        replace HB : Hid (g = bestI (weightI wt) (gs.take (if j + 1 = 0 then 1 else j + 1))) := Lib.hid (by rw [hj1]; exact HB.symm)
        clear hj1
        go_wp2_with fail
        refine cc.mono ?_
        rintro e w' ⟨rfl, rfl⟩
        go_wp2
        go_roundw
        case rel => exact ⟨j + 1, g, W, by omega, by go_num, trivial, rfl, Lib.hid HW.out.symm, HOG, HB⟩
        case measure => simp [intOf]; omega
      · rw [if_neg hgt] at HB
        replace HB : Hid (gb = bestI (weightI wt) (gs.take (if j + 1 = 0 then 1 else j + 1))) := Lib.hid (by rw [hj1]; exact HB.symm)
        clear hj1
        go_wp2_with fail
        refine cc.mono ?_
        rintro e w' ⟨rfl, rfl⟩
        go_wp2
        go_roundw
        case rel => exact ⟨j + 1, gb, M, by omega, by go_num, trivial, rfl, hM, hob, HB⟩
        case measure => simp [intOf]; omega
    · obtain rfl : j = N := by omega
      have HG : Hid (gb = bestI (weightI wt) gs) := Lib.hid (by have h := hgb.out; rw [if_neg (by omega), ← HN.out, take_full] at h; exact h)
      have HM : Hid (M = weightI wt (bestI (weightI wt) gs)) := Lib.hid (by rw [← HG.out]; exact hM.out)
      go_wp2
      go_ret3
      exact ⟨_, by rw [HM.out]; rfl, by rw [HP.out, ← HG.out]; exact hob.out, HE2.out⟩
end Go.Proofs.Ytpmpbdcbiaohdaa
