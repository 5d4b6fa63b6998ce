/- The law of NearestImage: its walk. -/
import Derived.Test.YtgbehjjefiepdaaNear2
import Derived.Test.YtgbehjjefiepdaaMark4
import Derived.Test.YtgbehjjefiepdaaHelp2
namespace Go.Proofs.Ytgbehjjefiepdaa
open Go.RowKit Tomo

set_option maxRecDepth 100000 in
set_option maxHeartbeats 4000000 in
theorem law_NearestImage (w : World) (A0 : Option Addr) (c0 : Nat) (xs0 : List Int) (h630 : xs0.length ≤ 9223372036854775807) (hx0 : Ints w A0 xs0) (A1 : Option Addr) (c1 : Nat) (xs1 : List Int) (h631 : xs1.length ≤ 9223372036854775807) (hx1 : Ints w A1 xs1) (A2 : Option Addr) (c2 : Nat) (xs2 : List (List Int)) (h632 : xs2.length ≤ 9223372036854775807) (hr632 : ∀ r ∈ xs2, r.length ≤ 9223372036854775807) (hx2 : GridAt w A2 xs2) :
    Calls Try.prog 11 #[.slice A0 xs0.length c0, .slice A1 xs1.length c1, .slice A2 xs2.length c2] w fun e w' => e = .returned (.bool true) ∧ Ext w w' := by
  by_cases hl0 : xs0.length ≤ 1048576
  case neg =>
    go_enter Try.func11, Try.ntmps11
    go_wp2_with fail
    go_ret
    exact ⟨rfl, Ext.refl _⟩
  by_cases hl1 : xs1.length ≤ 1048576
  case neg =>
    go_enter Try.func11, Try.ntmps11
    go_wp2_with fail
    go_ret
    exact ⟨rfl, Ext.refl _⟩
  by_cases hz2 : (1048576 : Int) < szGrid xs2
  case pos =>
    have cz2 : Calls Try.prog 32 #[.slice A2 xs2.length c2, .int .i64 1048576] w fun e w' => e = .returned (.int .i64 (-1)) ∧ w = w' := by
      have h := szIntSS_any A2 c2 xs2 1048576 w h632 hr632 (by omega) (by omega) hx2
      rw [show szOf (szGrid xs2) (1048576) = -1 from if_pos hz2] at h; exact h
    go_enter Try.func11, Try.ntmps11
    go_wp2_with fail
    refine cz2.mono ?_
    rintro e w' ⟨rfl, rfl⟩
    go_wp2_with fail
    go_ret
    exact ⟨rfl, Ext.refl _⟩
  have cz2 : ∃ l2 : Int, 0 ≤ l2 ∧ l2 ≤ 1048576 ∧ Calls Try.prog 32 #[.slice A2 xs2.length c2, .int .i64 1048576] w fun e w' => e = .returned (.int .i64 l2) ∧ w = w' := by
    have h := szIntSS_any A2 c2 xs2 1048576 w h632 hr632 (by omega) (by omega) hx2
    rw [show szOf (szGrid xs2) (1048576) = 1048576 - (szGrid xs2 : Nat) from if_neg hz2] at h
    exact ⟨_, by omega, by omega, h⟩
  have hl2 : xs2.length ≤ 1048576 := by have := sz_len xs2; omega
  have hr2 : ∀ r ∈ xs2, r.length ≤ 1048576 := fun r hr => by have := sz_row xs2 r hr; omega
  have ht2 : Hid (total xs2 ≤ 1000000000) := Lib.hid (by have := sz_total xs2; omega)
  obtain ⟨l2, hl2a, hl2b, cz2⟩ := cz2
  clear hz2
  have HR0 := Lib.hid (nearI_bound xs2 xs0 xs1)
  have HE0 : Hid (Ext w w) := Lib.hid (Ext.refl w)
  go_enter Try.func11, Try.ntmps11
  go_wp2_with fail
  refine cz2.mono ?_
  rintro e w' ⟨rfl, rfl⟩
  go_wp2_with fail
  refine (toIntS_any _ _ xs0 _ hl0 (hx0.ext HE0.out)).mono ?_
  rintro e w1 ⟨rfl, h1⟩
  have O1 := Lib.hid (toIntS_in h1 hl0)
  have e1 := h1.ext
  clear h1
  have HE1 := Lib.hid (HE0.out.trans e1)
  have sz1 := e1.size
  clear HE0
  go_wp2_with fail
  refine (toIntS_any _ _ xs1 _ hl1 (hx1.ext HE1.out)).mono ?_
  rintro e w2 ⟨rfl, h2⟩
  have O2 := Lib.hid (toIntS_in h2 hl1)
  have e2 := h2.ext
  clear h2
  have O3 := Lib.hid (O1.out.seg (Seg.ext e2 (by omega)))
  clear O1
  have HE2 := Lib.hid (HE1.out.trans e2)
  have sz2 := e2.size
  clear HE1
  go_wp2_with fail
  refine (toIntSS_any _ _ xs2 _ hl2 hr2 (hx2.ext HE2.out)).mono ?_
  rintro e w3 ⟨rfl, h3⟩
  have O4 := Lib.hid (toIntSS_in h3 hl2 hr2)
  have e3 := h3.ext
  clear h3
  have O5 := Lib.hid (O3.out.seg (Seg.ext e3 (by omega)))
  clear O3
  have O6 := Lib.hid (O2.out.seg (Seg.ext e3 (by omega)))
  clear O2
  have HE3 := Lib.hid (HE2.out.trans e3)
  have sz3 := e3.size
  clear HE2
  go_wp2_with fail
  refine (specNearestImage_any _ _ _ _ _ _ xs0 xs1 xs2 _ hl0 hl1 hl2 hr2 (Nat.le_refl _) (O5.out.1.typed) (O6.out.1.typed) (O4.out.1.gridAt)).mono ?_
  rintro e w4 ⟨W0, rfl, o0, e4⟩
  obtain ⟨WA0, Wc0, rfl, _⟩ := o0.slice
  have O7 := Lib.hid o0.in_
  clear o0
  have O8 := Lib.hid (O5.out.seg (Seg.ext e4 (by omega)))
  clear O5
  have O9 := Lib.hid (O6.out.seg (Seg.ext e4 (by omega)))
  clear O6
  have O10 := Lib.hid (O4.out.seg (Seg.ext e4 (by omega)))
  clear O4
  have HE4 := Lib.hid (HE3.out.trans e4)
  have sz4 := e4.size
  clear HE3
  go_wp2_with fail
  refine (toIntS_any _ _ xs0 _ hl0 (hx0.ext HE4.out)).mono ?_
  rintro e w5 ⟨rfl, h5⟩
  have O11 := Lib.hid (toIntS_in h5 hl0)
  have e5 := h5.ext
  clear h5
  have O12 := Lib.hid (O7.out.seg (Seg.ext e5 (by omega)))
  clear O7
  have HE5 := Lib.hid (HE4.out.trans e5)
  have sz5 := e5.size
  clear HE4
  go_wp2_with fail
  refine (toIntS_any _ _ xs1 _ hl1 (hx1.ext HE5.out)).mono ?_
  rintro e w6 ⟨rfl, h6⟩
  have O13 := Lib.hid (toIntS_in h6 hl1)
  have e6 := h6.ext
  clear h6
  have O14 := Lib.hid (O12.out.seg (Seg.ext e6 (by omega)))
  clear O12
  have O15 := Lib.hid (O11.out.seg (Seg.ext e6 (by omega)))
  clear O11
  have HE6 := Lib.hid (HE5.out.trans e6)
  have sz6 := e6.size
  clear HE5
  go_wp2_with fail
  refine (toIntSS_any _ _ xs2 _ hl2 hr2 (hx2.ext HE6.out)).mono ?_
  rintro e w7 ⟨rfl, h7⟩
  have O16 := Lib.hid (toIntSS_in h7 hl2 hr2)
  have e7 := h7.ext
  clear h7
  have O17 := Lib.hid (O14.out.seg (Seg.ext e7 (by omega)))
  clear O14
  have O18 := Lib.hid (O15.out.seg (Seg.ext e7 (by omega)))
  clear O15
  have O19 := Lib.hid (O13.out.seg (Seg.ext e7 (by omega)))
  clear O13
  have HE7 := Lib.hid (HE6.out.trans e7)
  have sz7 := e7.size
  clear HE6
  go_wp2_with fail
  refine (implNearestImage_any _ _ _ _ _ _ xs0 xs1 xs2 _ hl0 hl1 hl2 hr2 (O18.out.1.ints.2) (O19.out.1.ints.2) (O16.out.1.gridAt)).mono ?_
  rintro e w8 ⟨G0, rfl, o0, e8⟩
  obtain ⟨GA0, Gc0, rfl, _⟩ := o0.slice
  have O20 := Lib.hid o0.in_
  clear o0
  have O21 := Lib.hid (O17.out.seg (Seg.ext e8 (by omega)))
  clear O17
  have O22 := Lib.hid (O18.out.seg (Seg.ext e8 (by omega)))
  clear O18
  have O23 := Lib.hid (O19.out.seg (Seg.ext e8 (by omega)))
  clear O19
  have O24 := Lib.hid (O16.out.seg (Seg.ext e8 (by omega)))
  clear O16
  have HE8 := Lib.hid (HE7.out.trans e8)
  have sz8 := e8.size
  clear HE7
  go_wp2_with fail
  refine (eqIntSS_same _ _ _ _ _ _ HR0.out.1 HR0.out.2.1 O20.out.1.gridAt O21.out.1.gridAt).mono ?_
  rintro e w9 ⟨rfl, d9⟩
  have e9 := d9.ext
  clear d9
  have O25 := Lib.hid (O21.out.seg (Seg.ext e9 (by omega)))
  clear O21
  have O26 := Lib.hid (O22.out.seg (Seg.ext e9 (by omega)))
  clear O22
  have O27 := Lib.hid (O23.out.seg (Seg.ext e9 (by omega)))
  clear O23
  have O28 := Lib.hid (O24.out.seg (Seg.ext e9 (by omega)))
  clear O24
  have O29 := Lib.hid (O20.out.seg (Seg.ext e9 (by omega)))
  clear O20
  have HE9 := Lib.hid (HE8.out.trans e9)
  have sz9 := e9.size
  clear HE8
  go_wp2_with fail
  refine (toIntS_any _ _ xs0 _ hl0 (hx0.ext HE9.out)).mono ?_
  rintro e w10 ⟨rfl, h10⟩
  have O30 := Lib.hid (toIntS_in h10 hl0)
  have e10 := h10.ext
  clear h10
  have O31 := Lib.hid (O25.out.seg (Seg.ext e10 (by omega)))
  clear O25
  have O32 := Lib.hid (O26.out.seg (Seg.ext e10 (by omega)))
  clear O26
  have O33 := Lib.hid (O27.out.seg (Seg.ext e10 (by omega)))
  clear O27
  have O34 := Lib.hid (O28.out.seg (Seg.ext e10 (by omega)))
  clear O28
  have O35 := Lib.hid (O29.out.seg (Seg.ext e10 (by omega)))
  clear O29
  have HE10 := Lib.hid (HE9.out.trans e10)
  have sz10 := e10.size
  clear HE9
  go_wp2_with fail
  refine (eqIntS_same _ _ _ _ xs0 _ hl0 O32.out.1.ints.2 O30.out.1.ints.2).mono ?_
  rintro e w11 ⟨rfl, d11⟩
  have e11 := d11.ext
  clear d11
  have O36 := Lib.hid (O31.out.seg (Seg.ext e11 (by omega)))
  clear O31
  have O37 := Lib.hid (O32.out.seg (Seg.ext e11 (by omega)))
  clear O32
  have O38 := Lib.hid (O33.out.seg (Seg.ext e11 (by omega)))
  clear O33
  have O39 := Lib.hid (O34.out.seg (Seg.ext e11 (by omega)))
  clear O34
  have O40 := Lib.hid (O35.out.seg (Seg.ext e11 (by omega)))
  clear O35
  have HE11 := Lib.hid (HE10.out.trans e11)
  have sz11 := e11.size
  clear HE10
  go_wp2_with fail
  refine (toIntS_any _ _ xs1 _ hl1 (hx1.ext HE11.out)).mono ?_
  rintro e w12 ⟨rfl, h12⟩
  have O41 := Lib.hid (toIntS_in h12 hl1)
  have e12 := h12.ext
  clear h12
  have O42 := Lib.hid (O36.out.seg (Seg.ext e12 (by omega)))
  clear O36
  have O43 := Lib.hid (O37.out.seg (Seg.ext e12 (by omega)))
  clear O37
  have O44 := Lib.hid (O38.out.seg (Seg.ext e12 (by omega)))
  clear O38
  have O45 := Lib.hid (O39.out.seg (Seg.ext e12 (by omega)))
  clear O39
  have O46 := Lib.hid (O40.out.seg (Seg.ext e12 (by omega)))
  clear O40
  have HE12 := Lib.hid (HE11.out.trans e12)
  have sz12 := e12.size
  clear HE11
  go_wp2_with fail
  refine (eqIntS_same _ _ _ _ xs1 _ hl1 O44.out.1.ints.2 O41.out.1.ints.2).mono ?_
  rintro e w13 ⟨rfl, d13⟩
  have e13 := d13.ext
  clear d13
  have O47 := Lib.hid (O42.out.seg (Seg.ext e13 (by omega)))
  clear O42
  have O48 := Lib.hid (O43.out.seg (Seg.ext e13 (by omega)))
  clear O43
  have O49 := Lib.hid (O44.out.seg (Seg.ext e13 (by omega)))
  clear O44
  have O50 := Lib.hid (O45.out.seg (Seg.ext e13 (by omega)))
  clear O45
  have O51 := Lib.hid (O46.out.seg (Seg.ext e13 (by omega)))
  clear O46
  have HE13 := Lib.hid (HE12.out.trans e13)
  have sz13 := e13.size
  clear HE12
  go_wp2_with fail
  refine (toIntSS_any _ _ xs2 _ hl2 hr2 (hx2.ext HE13.out)).mono ?_
  rintro e w14 ⟨rfl, h14⟩
  have O52 := Lib.hid (toIntSS_in h14 hl2 hr2)
  have e14 := h14.ext
  clear h14
  have O53 := Lib.hid (O47.out.seg (Seg.ext e14 (by omega)))
  clear O47
  have O54 := Lib.hid (O48.out.seg (Seg.ext e14 (by omega)))
  clear O48
  have O55 := Lib.hid (O49.out.seg (Seg.ext e14 (by omega)))
  clear O49
  have O56 := Lib.hid (O50.out.seg (Seg.ext e14 (by omega)))
  clear O50
  have O57 := Lib.hid (O51.out.seg (Seg.ext e14 (by omega)))
  clear O51
  have HE14 := Lib.hid (HE13.out.trans e14)
  have sz14 := e14.size
  clear HE13
  go_wp2_with fail
  refine (eqIntSS_same _ _ _ _ xs2 _ hl2 hr2 O56.out.1.gridAt O52.out.1.gridAt).mono ?_
  rintro e w15 ⟨rfl, d15⟩
  have e15 := d15.ext
  clear d15
  have O58 := Lib.hid (O53.out.seg (Seg.ext e15 (by omega)))
  clear O53
  have O59 := Lib.hid (O54.out.seg (Seg.ext e15 (by omega)))
  clear O54
  have O60 := Lib.hid (O55.out.seg (Seg.ext e15 (by omega)))
  clear O55
  have O61 := Lib.hid (O56.out.seg (Seg.ext e15 (by omega)))
  clear O56
  have O62 := Lib.hid (O57.out.seg (Seg.ext e15 (by omega)))
  clear O57
  have HE15 := Lib.hid (HE14.out.trans e15)
  have sz15 := e15.size
  clear HE14
  go_wp2_with fail
  refine (markIntS_in 1 (by simp) (by omega) (by omega) O59.out).mono ?_
  rintro e w16 ⟨K63, rfl, hK63, _, on16⟩
  have bK63 : K63 ≤ 1100000000 := by have h1 := hK63.out; omega
  clear hK63
  have O64 := Lib.hid (O58.out.seg (Seg.onlyIn on16 (by omega)))
  clear O58
  have O65 := Lib.hid (O60.out.seg (Seg.onlyIn on16 (by omega)))
  clear O60
  have O66 := Lib.hid (O61.out.seg (Seg.onlyIn on16 (by omega)))
  clear O61
  have O67 := Lib.hid (O62.out.seg (Seg.onlyIn on16 (by omega)))
  clear O62
  have HE16 := Lib.hid (Ext.onlyIn HE15.out on16 (by omega))
  have sz16 : w15.heap.size ≤ w16.heap.size := by rw [on16.size]; exact Nat.le_refl _
  clear HE15
  go_wp2_with fail
  refine (markIntS_in K63 (by rfl) (by omega) (by omega) O65.out).mono ?_
  rintro e w17 ⟨K68, rfl, hK68, _, on17⟩
  have bK68 : K68 ≤ 2200000000 := by have h1 := hK68.out; omega
  clear hK68
  have O69 := Lib.hid (O64.out.seg (Seg.onlyIn on17 (by omega)))
  clear O64
  have O70 := Lib.hid (O66.out.seg (Seg.onlyIn on17 (by omega)))
  clear O66
  have O71 := Lib.hid (O67.out.seg (Seg.onlyIn on17 (by omega)))
  clear O67
  have HE17 := Lib.hid (Ext.onlyIn HE16.out on17 (by omega))
  have sz17 : w16.heap.size ≤ w17.heap.size := by rw [on17.size]; exact Nat.le_refl _
  clear HE16
  go_wp2_with fail
  refine (markIntSS_in K68 (by rfl) (by omega) (by omega) ht2.out O70.out).mono ?_
  rintro e w18 ⟨K72, rfl, hK72, _, on18⟩
  have bK72 : K72 ≤ 3300000000 := by have h1 := hK72.out; have h2 := ht2.out; omega
  clear hK72
  have O73 := Lib.hid (O69.out.seg (Seg.onlyIn on18 (by omega)))
  clear O69
  have O74 := Lib.hid (O71.out.seg (Seg.onlyIn on18 (by omega)))
  clear O71
  have HE18 := Lib.hid (Ext.onlyIn HE17.out on18 (by omega))
  have sz18 : w17.heap.size ≤ w18.heap.size := by rw [on18.size]; exact Nat.le_refl _
  clear HE17
  go_wp2_with fail
  refine (eqIntSS_same _ _ _ _ _ _ HR0.out.1 HR0.out.2.1 O74.out.1.gridAt O73.out.1.gridAt).mono ?_
  rintro e w19 ⟨rfl, d19⟩
  have e19 := d19.ext
  clear d19
  have O75 := Lib.hid (O73.out.seg (Seg.ext e19 (by omega)))
  clear O73
  have O76 := Lib.hid (O74.out.seg (Seg.ext e19 (by omega)))
  clear O74
  have HE19 := Lib.hid (HE18.out.trans e19)
  have sz19 := e19.size
  clear HE18
  go_wp2_with fail
  refine (markIntSS_in 1 (by simp) (by omega) (by have := HR0.out.1; omega) HR0.out.2.2 O76.out).mono ?_
  rintro e w20 ⟨K77, rfl, hK77, o78, on20⟩
  have O78 := Lib.hid o78
  clear o78 O76
  have O79 := Lib.hid (O75.out.seg (Seg.onlyIn on20 (by omega)))
  clear O75
  have HE20 := Lib.hid (Ext.onlyIn HE19.out on20 (by omega))
  have sz20 : w19.heap.size ≤ w20.heap.size := by rw [on20.size]; exact Nat.le_refl _
  clear HE19
  have bK77 : K77 ≤ 1100000000 := by have h1 := hK77.out; have h2 := HR0.out.2.2; omega
  go_wp2_with fail
  refine (heldIntSS_in 1 (by simp) (by omega) (by have := HR0.out.1; omega) HR0.out.2.2 O78.out).mono ?_
  rintro e w' ⟨K80, rfl, hK80, rfl⟩
  have bK80 : K80 ≤ 1100000000 := by have h1 := hK80.out; have h2 := HR0.out.2.2; omega
  obtain rfl : K80 = K77 := by rw [hK80.out, hK77.out]
  go_wp2_with fail
  refine (toIntS_any _ _ xs0 _ hl0 (hx0.ext HE20.out)).mono ?_
  rintro e w21 ⟨rfl, h21⟩
  have O81 := Lib.hid (toIntS_in h21 hl0)
  have e21 := h21.ext
  clear h21
  have O82 := Lib.hid (O79.out.seg (Seg.ext e21 (by omega)))
  clear O79
  have O83 := Lib.hid (O78.out.seg (Seg.ext e21 (by omega)))
  clear O78
  have HE21 := Lib.hid (HE20.out.trans e21)
  have sz21 := e21.size
  clear HE20
  go_wp2_with fail
  refine (toIntS_any _ _ xs1 _ hl1 (hx1.ext HE21.out)).mono ?_
  rintro e w22 ⟨rfl, h22⟩
  have O84 := Lib.hid (toIntS_in h22 hl1)
  have e22 := h22.ext
  clear h22
  have O85 := Lib.hid (O82.out.seg (Seg.ext e22 (by omega)))
  clear O82
  have O86 := Lib.hid (O83.out.seg (Seg.ext e22 (by omega)))
  clear O83
  have O87 := Lib.hid (O81.out.seg (Seg.ext e22 (by omega)))
  clear O81
  have HE22 := Lib.hid (HE21.out.trans e22)
  have sz22 := e22.size
  clear HE21
  go_wp2_with fail
  refine (toIntSS_any _ _ xs2 _ hl2 hr2 (hx2.ext HE22.out)).mono ?_
  rintro e w23 ⟨rfl, h23⟩
  have O88 := Lib.hid (toIntSS_in h23 hl2 hr2)
  have e23 := h23.ext
  clear h23
  have O89 := Lib.hid (O85.out.seg (Seg.ext e23 (by omega)))
  clear O85
  have O90 := Lib.hid (O86.out.seg (Seg.ext e23 (by omega)))
  clear O86
  have O91 := Lib.hid (O87.out.seg (Seg.ext e23 (by omega)))
  clear O87
  have O92 := Lib.hid (O84.out.seg (Seg.ext e23 (by omega)))
  clear O84
  have HE23 := Lib.hid (HE22.out.trans e23)
  have sz23 := e23.size
  clear HE22
  go_wp2_with fail
  refine (implNearestImage_any _ _ _ _ _ _ xs0 xs1 xs2 _ hl0 hl1 hl2 hr2 (O91.out.1.ints.2) (O92.out.1.ints.2) (O88.out.1.gridAt)).mono ?_
  rintro e w24 ⟨H0, rfl, o0, e24⟩
  obtain ⟨HA0, Hc0, rfl, _⟩ := o0.slice
  have O93 := Lib.hid o0.in_
  clear o0
  have O94 := Lib.hid (O89.out.seg (Seg.ext e24 (by omega)))
  clear O89
  have O95 := Lib.hid (O90.out.seg (Seg.ext e24 (by omega)))
  clear O90
  have O96 := Lib.hid (O91.out.seg (Seg.ext e24 (by omega)))
  clear O91
  have O97 := Lib.hid (O92.out.seg (Seg.ext e24 (by omega)))
  clear O92
  have O98 := Lib.hid (O88.out.seg (Seg.ext e24 (by omega)))
  clear O88
  have HE24 := Lib.hid (HE23.out.trans e24)
  have sz24 := e24.size
  clear HE23
  go_wp2_with fail
  refine (eqIntSS_same _ _ _ _ _ _ HR0.out.1 HR0.out.2.1 O93.out.1.gridAt O94.out.1.gridAt).mono ?_
  rintro e w25 ⟨rfl, d25⟩
  have e25 := d25.ext
  clear d25
  have O99 := Lib.hid (O94.out.seg (Seg.ext e25 (by omega)))
  clear O94
  have O100 := Lib.hid (O95.out.seg (Seg.ext e25 (by omega)))
  clear O95
  have O101 := Lib.hid (O93.out.seg (Seg.ext e25 (by omega)))
  clear O93
  have HE25 := Lib.hid (HE24.out.trans e25)
  have sz25 := e25.size
  clear HE24
  go_wp2_with fail
  refine (heldIntSS_in 1 (by simp) (by omega) (by have := HR0.out.1; omega) HR0.out.2.2 O100.out).mono ?_
  rintro e w' ⟨K102, rfl, hK102, rfl⟩
  have bK102 : K102 ≤ 1100000000 := by have h1 := hK102.out; have h2 := HR0.out.2.2; omega
  obtain rfl : K102 = K80 := by rw [hK102.out, hK80.out]
  go_wp2_with fail
  go_ret
  exact ⟨rfl, HE25.out⟩
end Go.Proofs.Ytgbehjjefiepdaa
