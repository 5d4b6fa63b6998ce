/- The law of AddGhost: its walk. -/
import Derived.Test.YtelojckohnopdaaGhost2
import Derived.Test.YtelojckohnopdaaMark4
import Derived.Test.YtelojckohnopdaaHelp2
namespace Go.Proofs.Ytelojckohnopdaa
open Go.RowKit Tomo

set_option maxRecDepth 100000 in
set_option maxHeartbeats 4000000 in
theorem law_AddGhost (w : World) (A0 : Option Addr) (c0 : Nat) (xs0 : List (List Int)) (h630 : xs0.length ≤ 9223372036854775807) (hr630 : ∀ r ∈ xs0, r.length ≤ 9223372036854775807) (hx0 : GridAt w A0 xs0) (A1 : Option Addr) (c1 : Nat) (xs1 : List (List Int)) (h631 : xs1.length ≤ 9223372036854775807) (hr631 : ∀ r ∈ xs1, r.length ≤ 9223372036854775807) (hx1 : GridAt w A1 xs1) (a2 : Int) (_w2 : (Lit.int .i64 a2).wf = true) (a3 : Int) (_w3 : (Lit.int .i64 a3).wf = true) :
    Calls Try.prog 5 #[.slice A0 xs0.length c0, .slice A1 xs1.length c1, .int .i64 a2, .int .i64 a3] w fun e w' => e = .returned (.bool true) ∧ Ext w w' := by
  by_cases hz0 : (1048576 : Int) < szGrid xs0
  case pos =>
    have cz0 : Calls Try.prog 10 #[.slice A0 xs0.length c0, .int .i64 1048576] w fun e w' => e = .returned (.int .i64 (-1)) ∧ w = w' := by
      have h := szIntSS_any A0 c0 xs0 1048576 w h630 hr630 (by omega) (by omega) hx0
      rw [show szOf (szGrid xs0) (1048576) = -1 from if_pos hz0] at h; exact h
    go_enter Try.func5, Try.ntmps5
    go_wp2_with fail
    refine cz0.mono ?_
    rintro e w' ⟨rfl, rfl⟩
    go_wp2_with fail
    go_ret
    exact ⟨rfl, Ext.refl _⟩
  have cz0 : ∃ l0 : Int, 0 ≤ l0 ∧ l0 ≤ 1048576 ∧ Calls Try.prog 10 #[.slice A0 xs0.length c0, .int .i64 1048576] w fun e w' => e = .returned (.int .i64 l0) ∧ w = w' := by
    have h := szIntSS_any A0 c0 xs0 1048576 w h630 hr630 (by omega) (by omega) hx0
    rw [show szOf (szGrid xs0) (1048576) = 1048576 - (szGrid xs0 : Nat) from if_neg hz0] at h
    exact ⟨_, by omega, by omega, h⟩
  have hl0 : xs0.length ≤ 1048576 := by have := sz_len xs0; omega
  have hr0 : ∀ r ∈ xs0, r.length ≤ 1048576 := fun r hr => by have := sz_row xs0 r hr; omega
  have ht0 : Hid (total xs0 ≤ 1000000000) := Lib.hid (by have := sz_total xs0; omega)
  obtain ⟨l0, hl0a, hl0b, cz0⟩ := cz0
  clear hz0
  by_cases hz1 : (l0 : Int) < szGrid xs1
  case pos =>
    have cz1 : Calls Try.prog 10 #[.slice A1 xs1.length c1, .int .i64 l0] w fun e w' => e = .returned (.int .i64 (-1)) ∧ w = w' := by
      have h := szIntSS_any A1 c1 xs1 l0 w h631 hr631 (by omega) (by omega) hx1
      rw [show szOf (szGrid xs1) (l0) = -1 from if_pos hz1] at h; exact h
    go_enter Try.func5, Try.ntmps5
    go_wp2_with fail
    refine cz0.mono ?_
    rintro e w' ⟨rfl, rfl⟩
    go_wp2_with fail
    refine cz1.mono ?_
    rintro e w' ⟨rfl, rfl⟩
    go_wp2_with fail
    go_ret
    exact ⟨rfl, Ext.refl _⟩
  have cz1 : ∃ l1 : Int, 0 ≤ l1 ∧ l1 ≤ 1048576 ∧ Calls Try.prog 10 #[.slice A1 xs1.length c1, .int .i64 l0] w fun e w' => e = .returned (.int .i64 l1) ∧ w = w' := by
    have h := szIntSS_any A1 c1 xs1 l0 w h631 hr631 (by omega) (by omega) hx1
    rw [show szOf (szGrid xs1) (l0) = l0 - (szGrid xs1 : Nat) from if_neg hz1] at h
    exact ⟨_, by omega, by omega, h⟩
  have hl1 : xs1.length ≤ 1048576 := by have := sz_len xs1; omega
  have hr1 : ∀ r ∈ xs1, r.length ≤ 1048576 := fun r hr => by have := sz_row xs1 r hr; omega
  have ht1 : Hid (total xs1 ≤ 1000000000) := Lib.hid (by have := sz_total xs1; omega)
  obtain ⟨l1, hl1a, hl1b, cz1⟩ := cz1
  clear hz1
  have HR0 := Lib.hid (addI_bound xs0 xs1 a2 a3)
  have HE0 : Hid (Ext w w) := Lib.hid (Ext.refl w)
  go_enter Try.func5, Try.ntmps5
  go_wp2_with fail
  refine cz0.mono ?_
  rintro e w' ⟨rfl, rfl⟩
  go_wp2_with fail
  refine cz1.mono ?_
  rintro e w' ⟨rfl, rfl⟩
  go_wp2_with fail
  refine (toIntSS_any _ _ xs0 _ hl0 hr0 (hx0.ext HE0.out)).mono ?_
  rintro e w1 ⟨rfl, h1⟩
  have O1 := Lib.hid (toIntSS_in h1 hl0 hr0)
  have e1 := h1.ext
  clear h1
  have HE1 := Lib.hid (HE0.out.trans e1)
  have sz1 := e1.size
  clear HE0
  go_wp2_with fail
  refine (toIntSS_any _ _ xs1 _ hl1 hr1 (hx1.ext HE1.out)).mono ?_
  rintro e w2 ⟨rfl, h2⟩
  have O2 := Lib.hid (toIntSS_in h2 hl1 hr1)
  have e2 := h2.ext
  clear h2
  have O3 := Lib.hid (O1.out.seg (Seg.ext e2 (by omega)))
  clear O1
  have HE2 := Lib.hid (HE1.out.trans e2)
  have sz2 := e2.size
  clear HE1
  go_wp2_with fail
  refine (specAddGhost_any _ _ _ _ xs0 xs1 a2 a3 _ hl0 hr0 hl1 hr1 (O3.out.1.gridAt) (O2.out.1.gridAt)).mono ?_
  rintro e w3 ⟨W0, rfl, o0, e3⟩
  obtain ⟨WA0, Wc0, rfl, _⟩ := o0.slice
  have O4 := Lib.hid o0.in_
  clear o0
  have O5 := Lib.hid (O3.out.seg (Seg.ext e3 (by omega)))
  clear O3
  have O6 := Lib.hid (O2.out.seg (Seg.ext e3 (by omega)))
  clear O2
  have HE3 := Lib.hid (HE2.out.trans e3)
  have sz3 := e3.size
  clear HE2
  go_wp2_with fail
  refine (toIntSS_any _ _ xs0 _ hl0 hr0 (hx0.ext HE3.out)).mono ?_
  rintro e w4 ⟨rfl, h4⟩
  have O7 := Lib.hid (toIntSS_in h4 hl0 hr0)
  have e4 := h4.ext
  clear h4
  have O8 := Lib.hid (O4.out.seg (Seg.ext e4 (by omega)))
  clear O4
  have HE4 := Lib.hid (HE3.out.trans e4)
  have sz4 := e4.size
  clear HE3
  go_wp2_with fail
  refine (toIntSS_any _ _ xs1 _ hl1 hr1 (hx1.ext HE4.out)).mono ?_
  rintro e w5 ⟨rfl, h5⟩
  have O9 := Lib.hid (toIntSS_in h5 hl1 hr1)
  have e5 := h5.ext
  clear h5
  have O10 := Lib.hid (O8.out.seg (Seg.ext e5 (by omega)))
  clear O8
  have O11 := Lib.hid (O7.out.seg (Seg.ext e5 (by omega)))
  clear O7
  have HE5 := Lib.hid (HE4.out.trans e5)
  have sz5 := e5.size
  clear HE4
  go_wp2_with fail
  refine (implAddGhost_any _ _ _ _ xs0 xs1 a2 a3 _ hl0 hr0 hl1 hr1 (O11.out.1.gridAt) (O9.out.1.gridAt)).mono ?_
  rintro e w6 ⟨G0, rfl, o0, e6⟩
  obtain ⟨GA0, Gc0, rfl, _⟩ := o0.slice
  have O12 := Lib.hid o0.in_
  clear o0
  have O13 := Lib.hid (O10.out.seg (Seg.ext e6 (by omega)))
  clear O10
  have O14 := Lib.hid (O11.out.seg (Seg.ext e6 (by omega)))
  clear O11
  have O15 := Lib.hid (O9.out.seg (Seg.ext e6 (by omega)))
  clear O9
  have HE6 := Lib.hid (HE5.out.trans e6)
  have sz6 := e6.size
  clear HE5
  go_wp2_with fail
  refine (eqIntSS_same _ _ _ _ _ _ HR0.out.1 HR0.out.2.1 O12.out.1.gridAt O13.out.1.gridAt).mono ?_
  rintro e w7 ⟨rfl, d7⟩
  have e7 := d7.ext
  clear d7
  have O16 := Lib.hid (O13.out.seg (Seg.ext e7 (by omega)))
  clear O13
  have O17 := Lib.hid (O14.out.seg (Seg.ext e7 (by omega)))
  clear O14
  have O18 := Lib.hid (O15.out.seg (Seg.ext e7 (by omega)))
  clear O15
  have O19 := Lib.hid (O12.out.seg (Seg.ext e7 (by omega)))
  clear O12
  have HE7 := Lib.hid (HE6.out.trans e7)
  have sz7 := e7.size
  clear HE6
  go_wp2_with fail
  refine (toIntSS_any _ _ xs0 _ hl0 hr0 (hx0.ext HE7.out)).mono ?_
  rintro e w8 ⟨rfl, h8⟩
  have O20 := Lib.hid (toIntSS_in h8 hl0 hr0)
  have e8 := h8.ext
  clear h8
  have O21 := Lib.hid (O16.out.seg (Seg.ext e8 (by omega)))
  clear O16
  have O22 := Lib.hid (O17.out.seg (Seg.ext e8 (by omega)))
  clear O17
  have O23 := Lib.hid (O18.out.seg (Seg.ext e8 (by omega)))
  clear O18
  have O24 := Lib.hid (O19.out.seg (Seg.ext e8 (by omega)))
  clear O19
  have HE8 := Lib.hid (HE7.out.trans e8)
  have sz8 := e8.size
  clear HE7
  go_wp2_with fail
  refine (eqIntSS_same _ _ _ _ xs0 _ hl0 hr0 O22.out.1.gridAt O20.out.1.gridAt).mono ?_
  rintro e w9 ⟨rfl, d9⟩
  have e9 := d9.ext
  clear d9
  have O25 := Lib.hid (O21.out.seg (Seg.ext e9 (by omega)))
  clear O21
  have O26 := Lib.hid (O22.out.seg (Seg.ext e9 (by omega)))
  clear O22
  have O27 := Lib.hid (O23.out.seg (Seg.ext e9 (by omega)))
  clear O23
  have O28 := Lib.hid (O24.out.seg (Seg.ext e9 (by omega)))
  clear O24
  have HE9 := Lib.hid (HE8.out.trans e9)
  have sz9 := e9.size
  clear HE8
  go_wp2_with fail
  refine (toIntSS_any _ _ xs1 _ hl1 hr1 (hx1.ext HE9.out)).mono ?_
  rintro e w10 ⟨rfl, h10⟩
  have O29 := Lib.hid (toIntSS_in h10 hl1 hr1)
  have e10 := h10.ext
  clear h10
  have O30 := Lib.hid (O25.out.seg (Seg.ext e10 (by omega)))
  clear O25
  have O31 := Lib.hid (O26.out.seg (Seg.ext e10 (by omega)))
  clear O26
  have O32 := Lib.hid (O27.out.seg (Seg.ext e10 (by omega)))
  clear O27
  have O33 := Lib.hid (O28.out.seg (Seg.ext e10 (by omega)))
  clear O28
  have HE10 := Lib.hid (HE9.out.trans e10)
  have sz10 := e10.size
  clear HE9
  go_wp2_with fail
  refine (eqIntSS_same _ _ _ _ xs1 _ hl1 hr1 O32.out.1.gridAt O29.out.1.gridAt).mono ?_
  rintro e w11 ⟨rfl, d11⟩
  have e11 := d11.ext
  clear d11
  have O34 := Lib.hid (O30.out.seg (Seg.ext e11 (by omega)))
  clear O30
  have O35 := Lib.hid (O31.out.seg (Seg.ext e11 (by omega)))
  clear O31
  have O36 := Lib.hid (O32.out.seg (Seg.ext e11 (by omega)))
  clear O32
  have O37 := Lib.hid (O33.out.seg (Seg.ext e11 (by omega)))
  clear O33
  have HE11 := Lib.hid (HE10.out.trans e11)
  have sz11 := e11.size
  clear HE10
  go_wp2_with fail
  refine (markIntSS_in 1 (by simp) (by omega) (by omega) ht0.out O35.out).mono ?_
  rintro e w12 ⟨K38, rfl, hK38, _, on12⟩
  have bK38 : K38 ≤ 1100000000 := by have h1 := hK38.out; have h2 := ht0.out; omega
  clear hK38
  have O39 := Lib.hid (O34.out.seg (Seg.onlyIn on12 (by omega)))
  clear O34
  have O40 := Lib.hid (O36.out.seg (Seg.onlyIn on12 (by omega)))
  clear O36
  have O41 := Lib.hid (O37.out.seg (Seg.onlyIn on12 (by omega)))
  clear O37
  have HE12 := Lib.hid (Ext.onlyIn HE11.out on12 (by omega))
  have sz12 : w11.heap.size ≤ w12.heap.size := by rw [on12.size]; exact Nat.le_refl _
  clear HE11
  go_wp2_with fail
  refine (markIntSS_in K38 (by rfl) (by omega) (by omega) ht1.out O40.out).mono ?_
  rintro e w13 ⟨K42, rfl, hK42, _, on13⟩
  have bK42 : K42 ≤ 2200000000 := by have h1 := hK42.out; have h2 := ht1.out; omega
  clear hK42
  have O43 := Lib.hid (O39.out.seg (Seg.onlyIn on13 (by omega)))
  clear O39
  have O44 := Lib.hid (O41.out.seg (Seg.onlyIn on13 (by omega)))
  clear O41
  have HE13 := Lib.hid (Ext.onlyIn HE12.out on13 (by omega))
  have sz13 : w12.heap.size ≤ w13.heap.size := by rw [on13.size]; exact Nat.le_refl _
  clear HE12
  go_wp2_with fail
  refine (eqIntSS_same _ _ _ _ _ _ HR0.out.1 HR0.out.2.1 O44.out.1.gridAt O43.out.1.gridAt).mono ?_
  rintro e w14 ⟨rfl, d14⟩
  have e14 := d14.ext
  clear d14
  have O45 := Lib.hid (O43.out.seg (Seg.ext e14 (by omega)))
  clear O43
  have O46 := Lib.hid (O44.out.seg (Seg.ext e14 (by omega)))
  clear O44
  have HE14 := Lib.hid (HE13.out.trans e14)
  have sz14 := e14.size
  clear HE13
  go_wp2_with fail
  refine (markIntSS_in 1 (by simp) (by omega) (by have := HR0.out.1; omega) HR0.out.2.2 O46.out).mono ?_
  rintro e w15 ⟨K47, rfl, hK47, o48, on15⟩
  have O48 := Lib.hid o48
  clear o48 O46
  have O49 := Lib.hid (O45.out.seg (Seg.onlyIn on15 (by omega)))
  clear O45
  have HE15 := Lib.hid (Ext.onlyIn HE14.out on15 (by omega))
  have sz15 : w14.heap.size ≤ w15.heap.size := by rw [on15.size]; exact Nat.le_refl _
  clear HE14
  have bK47 : K47 ≤ 1100000000 := by have h1 := hK47.out; have h2 := HR0.out.2.2; omega
  go_wp2_with fail
  refine (heldIntSS_in 1 (by simp) (by omega) (by have := HR0.out.1; omega) HR0.out.2.2 O48.out).mono ?_
  rintro e w' ⟨K50, rfl, hK50, rfl⟩
  have bK50 : K50 ≤ 1100000000 := by have h1 := hK50.out; have h2 := HR0.out.2.2; omega
  obtain rfl : K50 = K47 := by rw [hK50.out, hK47.out]
  go_wp2_with fail
  refine (toIntSS_any _ _ xs0 _ hl0 hr0 (hx0.ext HE15.out)).mono ?_
  rintro e w16 ⟨rfl, h16⟩
  have O51 := Lib.hid (toIntSS_in h16 hl0 hr0)
  have e16 := h16.ext
  clear h16
  have O52 := Lib.hid (O49.out.seg (Seg.ext e16 (by omega)))
  clear O49
  have O53 := Lib.hid (O48.out.seg (Seg.ext e16 (by omega)))
  clear O48
  have HE16 := Lib.hid (HE15.out.trans e16)
  have sz16 := e16.size
  clear HE15
  go_wp2_with fail
  refine (toIntSS_any _ _ xs1 _ hl1 hr1 (hx1.ext HE16.out)).mono ?_
  rintro e w17 ⟨rfl, h17⟩
  have O54 := Lib.hid (toIntSS_in h17 hl1 hr1)
  have e17 := h17.ext
  clear h17
  have O55 := Lib.hid (O52.out.seg (Seg.ext e17 (by omega)))
  clear O52
  have O56 := Lib.hid (O53.out.seg (Seg.ext e17 (by omega)))
  clear O53
  have O57 := Lib.hid (O51.out.seg (Seg.ext e17 (by omega)))
  clear O51
  have HE17 := Lib.hid (HE16.out.trans e17)
  have sz17 := e17.size
  clear HE16
  go_wp2_with fail
  refine (implAddGhost_any _ _ _ _ xs0 xs1 a2 a3 _ hl0 hr0 hl1 hr1 (O57.out.1.gridAt) (O54.out.1.gridAt)).mono ?_
  rintro e w18 ⟨H0, rfl, o0, e18⟩
  obtain ⟨HA0, Hc0, rfl, _⟩ := o0.slice
  have O58 := Lib.hid o0.in_
  clear o0
  have O59 := Lib.hid (O55.out.seg (Seg.ext e18 (by omega)))
  clear O55
  have O60 := Lib.hid (O56.out.seg (Seg.ext e18 (by omega)))
  clear O56
  have O61 := Lib.hid (O57.out.seg (Seg.ext e18 (by omega)))
  clear O57
  have O62 := Lib.hid (O54.out.seg (Seg.ext e18 (by omega)))
  clear O54
  have HE18 := Lib.hid (HE17.out.trans e18)
  have sz18 := e18.size
  clear HE17
  go_wp2_with fail
  refine (eqIntSS_same _ _ _ _ _ _ HR0.out.1 HR0.out.2.1 O58.out.1.gridAt O59.out.1.gridAt).mono ?_
  rintro e w19 ⟨rfl, d19⟩
  have e19 := d19.ext
  clear d19
  have O63 := Lib.hid (O59.out.seg (Seg.ext e19 (by omega)))
  clear O59
  have O64 := Lib.hid (O60.out.seg (Seg.ext e19 (by omega)))
  clear O60
  have O65 := Lib.hid (O58.out.seg (Seg.ext e19 (by omega)))
  clear O58
  have HE19 := Lib.hid (HE18.out.trans e19)
  have sz19 := e19.size
  clear HE18
  go_wp2_with fail
  refine (heldIntSS_in 1 (by simp) (by omega) (by have := HR0.out.1; omega) HR0.out.2.2 O64.out).mono ?_
  rintro e w' ⟨K66, rfl, hK66, rfl⟩
  have bK66 : K66 ≤ 1100000000 := by have h1 := hK66.out; have h2 := HR0.out.2.2; omega
  obtain rfl : K66 = K50 := by rw [hK66.out, hK50.out]
  go_wp2_with fail
  go_ret
  exact ⟨rfl, HE19.out⟩
end Go.Proofs.Ytelojckohnopdaa
