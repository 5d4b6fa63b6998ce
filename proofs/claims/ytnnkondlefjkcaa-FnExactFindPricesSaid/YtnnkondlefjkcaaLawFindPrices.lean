/- The law of FindPrices: its walk. -/
import Derived.Test.YtnnkondlefjkcaaFindLaw
import Derived.Test.YtnnkondlefjkcaaMark4
import Derived.Test.YtnnkondlefjkcaaHelp2
namespace Go.Proofs.Ytnnkondlefjkcaa
open Go.RowKit Tomo

set_option maxRecDepth 100000 in
set_option maxHeartbeats 4000000 in
theorem law_FindPrices (w : World) (A0 : Option Addr) (c0 : Nat) (xs0 : List (List Int)) (h630 : xs0.length ≤ 9223372036854775807) (hr630 : ∀ r ∈ xs0, r.length ≤ 9223372036854775807) (hx0 : GridAt w A0 xs0) (A1 : Option Addr) (c1 : Nat) (xs1 : List (List Int)) (h631 : xs1.length ≤ 9223372036854775807) (hr631 : ∀ r ∈ xs1, r.length ≤ 9223372036854775807) (hx1 : GridAt w A1 xs1) :
    Calls Try.prog 8 #[.slice A0 xs0.length c0, .slice A1 xs1.length c1] w fun e w' => e = .returned (.bool true) ∧ Ext w w' := by
  by_cases hz0 : (1048576 : Int) < szGrid xs0
  case pos =>
    have cz0 : Calls Try.prog 15 #[.slice A0 xs0.length c0, .int .i64 1048576] w fun e w' => e = .returned (.int .i64 (-1)) ∧ w = w' := by
      have h := szIntSS_any A0 c0 xs0 1048576 w h630 hr630 (by omega) (by omega) hx0
      rw [show szOf (szGrid xs0) (1048576) = -1 from if_pos hz0] at h; exact h
    go_enter Try.func8, Try.ntmps8
    go_wp2_with fail
    refine cz0.mono ?_
    rintro e w' ⟨rfl, rfl⟩
    go_wp2_with fail
    go_ret
    exact ⟨rfl, Ext.refl _⟩
  have cz0 : ∃ l0 : Int, 0 ≤ l0 ∧ l0 ≤ 1048576 ∧ Calls Try.prog 15 #[.slice A0 xs0.length c0, .int .i64 1048576] w fun e w' => e = .returned (.int .i64 l0) ∧ w = w' := by
    have h := szIntSS_any A0 c0 xs0 1048576 w h630 hr630 (by omega) (by omega) hx0
    rw [show szOf (szGrid xs0) (1048576) = 1048576 - (szGrid xs0 : Nat) from if_neg hz0] at h
    exact ⟨_, by omega, by omega, h⟩
  have hl0 : xs0.length ≤ 1048576 := by have := sz_len xs0; omega
  have hr0 : ∀ r ∈ xs0, r.length ≤ 1048576 := fun r hr => by have := sz_row xs0 r hr; omega
  have ht0 : Hid (total xs0 ≤ 1000000000) := Lib.hid (by have := sz_total xs0; omega)
  obtain ⟨l0, hl0a, hl0b, cz0⟩ := cz0
  clear hz0
  by_cases hz1 : (l0 : Int) < szGrid xs1
  case pos =>
    have cz1 : Calls Try.prog 15 #[.slice A1 xs1.length c1, .int .i64 l0] w fun e w' => e = .returned (.int .i64 (-1)) ∧ w = w' := by
      have h := szIntSS_any A1 c1 xs1 l0 w h631 hr631 (by omega) (by omega) hx1
      rw [show szOf (szGrid xs1) (l0) = -1 from if_pos hz1] at h; exact h
    go_enter Try.func8, Try.ntmps8
    go_wp2_with fail
    refine cz0.mono ?_
    rintro e w' ⟨rfl, rfl⟩
    go_wp2_with fail
    refine cz1.mono ?_
    rintro e w' ⟨rfl, rfl⟩
    go_wp2_with fail
    go_ret
    exact ⟨rfl, Ext.refl _⟩
  have cz1 : ∃ l1 : Int, 0 ≤ l1 ∧ l1 ≤ 1048576 ∧ Calls Try.prog 15 #[.slice A1 xs1.length c1, .int .i64 l0] w fun e w' => e = .returned (.int .i64 l1) ∧ w = w' := by
    have h := szIntSS_any A1 c1 xs1 l0 w h631 hr631 (by omega) (by omega) hx1
    rw [show szOf (szGrid xs1) (l0) = l0 - (szGrid xs1 : Nat) from if_neg hz1] at h
    exact ⟨_, by omega, by omega, h⟩
  have hl1 : xs1.length ≤ 1048576 := by have := sz_len xs1; omega
  have hr1 : ∀ r ∈ xs1, r.length ≤ 1048576 := fun r hr => by have := sz_row xs1 r hr; omega
  have ht1 : Hid (total xs1 ≤ 1000000000) := Lib.hid (by have := sz_total xs1; omega)
  obtain ⟨l1, hl1a, hl1b, cz1⟩ := cz1
  clear hz1
  have HR0 := Lib.hid (fpA_bound xs0 xs1)
  have HR1 := Lib.hid (fpB_bound xs0 xs1)
  have HE0 : Hid (Ext w w) := Lib.hid (Ext.refl w)
  go_enter Try.func8, Try.ntmps8
  go_wp2_with fail
  refine cz0.mono ?_
  rintro e w' ⟨rfl, rfl⟩
  go_wp2_with fail
  refine cz1.mono ?_
  rintro e w' ⟨rfl, rfl⟩
  go_wp2_with fail
  refine (toIntSS_any _ _ xs0 _ hl0 hr0 (hx0.ext HE0.out)).mono ?_
  rintro e w1 ⟨rfl, h1⟩
  have O1 := Lib.hid (toIntSS_in h1 hl0 hr0)
  have e1 := h1.ext
  clear h1
  have HE1 := Lib.hid (HE0.out.trans e1)
  have sz1 := e1.size
  clear HE0
  go_wp2_with fail
  refine (toIntSS_any _ _ xs1 _ hl1 hr1 (hx1.ext HE1.out)).mono ?_
  rintro e w2 ⟨rfl, h2⟩
  have O2 := Lib.hid (toIntSS_in h2 hl1 hr1)
  have e2 := h2.ext
  clear h2
  have O3 := Lib.hid (O1.out.seg (Seg.ext e2 (by omega)))
  clear O1
  have HE2 := Lib.hid (HE1.out.trans e2)
  have sz2 := e2.size
  clear HE1
  go_wp2_with fail
  refine (specFindPrices_any _ _ _ _ xs0 xs1 _ hl0 hr0 hl1 hr1 (O3.out.1.gridAt) (O2.out.1.gridAt)).mono ?_
  rintro e w3 ⟨W0, W1, rfl, o0, o1, e3⟩
  obtain ⟨WA0, Wc0, rfl, _⟩ := o0.slice
  have O4 := Lib.hid o0.in_
  clear o0
  obtain ⟨WA1, Wc1, rfl, _⟩ := o1.slice
  have O5 := Lib.hid o1.in_
  clear o1
  have O6 := Lib.hid (O3.out.seg (Seg.ext e3 (by omega)))
  clear O3
  have O7 := Lib.hid (O2.out.seg (Seg.ext e3 (by omega)))
  clear O2
  have HE3 := Lib.hid (HE2.out.trans e3)
  have sz3 := e3.size
  clear HE2
  go_wp2_with fail
  refine (toIntSS_any _ _ xs0 _ hl0 hr0 (hx0.ext HE3.out)).mono ?_
  rintro e w4 ⟨rfl, h4⟩
  have O8 := Lib.hid (toIntSS_in h4 hl0 hr0)
  have e4 := h4.ext
  clear h4
  have O9 := Lib.hid (O4.out.seg (Seg.ext e4 (by omega)))
  clear O4
  have O10 := Lib.hid (O5.out.seg (Seg.ext e4 (by omega)))
  clear O5
  have HE4 := Lib.hid (HE3.out.trans e4)
  have sz4 := e4.size
  clear HE3
  go_wp2_with fail
  refine (toIntSS_any _ _ xs1 _ hl1 hr1 (hx1.ext HE4.out)).mono ?_
  rintro e w5 ⟨rfl, h5⟩
  have O11 := Lib.hid (toIntSS_in h5 hl1 hr1)
  have e5 := h5.ext
  clear h5
  have O12 := Lib.hid (O9.out.seg (Seg.ext e5 (by omega)))
  clear O9
  have O13 := Lib.hid (O10.out.seg (Seg.ext e5 (by omega)))
  clear O10
  have O14 := Lib.hid (O8.out.seg (Seg.ext e5 (by omega)))
  clear O8
  have HE5 := Lib.hid (HE4.out.trans e5)
  have sz5 := e5.size
  clear HE4
  go_wp2_with fail
  refine (implFindPrices_any _ _ _ _ xs0 xs1 _ hl0 hr0 hl1 hr1 (O14.out.1.gridAt) (O11.out.1.gridAt)).mono ?_
  rintro e w6 ⟨G0, G1, midG, rfl, mlG, mhG, o0, o1, e6⟩
  obtain ⟨GA0, Gc0, rfl, _⟩ := o0.1.slice
  have O15 := Lib.hid o0
  clear o0
  obtain ⟨GA1, Gc1, rfl, _⟩ := o1.1.slice
  have O16 := Lib.hid o1
  clear o1
  have O17 := Lib.hid (O12.out.seg (Seg.ext e6 (by omega)))
  clear O12
  have O18 := Lib.hid (O13.out.seg (Seg.ext e6 (by omega)))
  clear O13
  have O19 := Lib.hid (O14.out.seg (Seg.ext e6 (by omega)))
  clear O14
  have O20 := Lib.hid (O11.out.seg (Seg.ext e6 (by omega)))
  clear O11
  have HE6 := Lib.hid (HE5.out.trans e6)
  have sz6 := e6.size
  clear HE5
  go_wp2_with fail
  refine (eqIntS_same _ _ _ _ _ _ HR0.out O15.out.1.ints.2 O17.out.1.ints.2).mono ?_
  rintro e w7 ⟨rfl, d7⟩
  have e7 := d7.ext
  clear d7
  have O21 := Lib.hid (O17.out.seg (Seg.ext e7 (by omega)))
  clear O17
  have O22 := Lib.hid (O18.out.seg (Seg.ext e7 (by omega)))
  clear O18
  have O23 := Lib.hid (O19.out.seg (Seg.ext e7 (by omega)))
  clear O19
  have O24 := Lib.hid (O20.out.seg (Seg.ext e7 (by omega)))
  clear O20
  have O25 := Lib.hid (O15.out.seg (Seg.ext e7 (by omega)))
  clear O15
  have O26 := Lib.hid (O16.out.seg (Seg.ext e7 (by omega)))
  clear O16
  have HE7 := Lib.hid (HE6.out.trans e7)
  have sz7 := e7.size
  clear HE6
  go_wp2_with fail
  refine (eqIntS_same _ _ _ _ _ _ HR1.out O26.out.1.ints.2 O22.out.1.ints.2).mono ?_
  rintro e w8 ⟨rfl, d8⟩
  have e8 := d8.ext
  clear d8
  have O27 := Lib.hid (O21.out.seg (Seg.ext e8 (by omega)))
  clear O21
  have O28 := Lib.hid (O22.out.seg (Seg.ext e8 (by omega)))
  clear O22
  have O29 := Lib.hid (O23.out.seg (Seg.ext e8 (by omega)))
  clear O23
  have O30 := Lib.hid (O24.out.seg (Seg.ext e8 (by omega)))
  clear O24
  have O31 := Lib.hid (O25.out.seg (Seg.ext e8 (by omega)))
  clear O25
  have O32 := Lib.hid (O26.out.seg (Seg.ext e8 (by omega)))
  clear O26
  have HE8 := Lib.hid (HE7.out.trans e8)
  have sz8 := e8.size
  clear HE7
  go_wp2_with fail
  refine (toIntSS_any _ _ xs0 _ hl0 hr0 (hx0.ext HE8.out)).mono ?_
  rintro e w9 ⟨rfl, h9⟩
  have O33 := Lib.hid (toIntSS_in h9 hl0 hr0)
  have e9 := h9.ext
  clear h9
  have O34 := Lib.hid (O27.out.seg (Seg.ext e9 (by omega)))
  clear O27
  have O35 := Lib.hid (O28.out.seg (Seg.ext e9 (by omega)))
  clear O28
  have O36 := Lib.hid (O29.out.seg (Seg.ext e9 (by omega)))
  clear O29
  have O37 := Lib.hid (O30.out.seg (Seg.ext e9 (by omega)))
  clear O30
  have O38 := Lib.hid (O31.out.seg (Seg.ext e9 (by omega)))
  clear O31
  have O39 := Lib.hid (O32.out.seg (Seg.ext e9 (by omega)))
  clear O32
  have HE9 := Lib.hid (HE8.out.trans e9)
  have sz9 := e9.size
  clear HE8
  go_wp2_with fail
  refine (eqIntSS_same _ _ _ _ xs0 _ hl0 hr0 O36.out.1.gridAt O33.out.1.gridAt).mono ?_
  rintro e w10 ⟨rfl, d10⟩
  have e10 := d10.ext
  clear d10
  have O40 := Lib.hid (O34.out.seg (Seg.ext e10 (by omega)))
  clear O34
  have O41 := Lib.hid (O35.out.seg (Seg.ext e10 (by omega)))
  clear O35
  have O42 := Lib.hid (O36.out.seg (Seg.ext e10 (by omega)))
  clear O36
  have O43 := Lib.hid (O37.out.seg (Seg.ext e10 (by omega)))
  clear O37
  have O44 := Lib.hid (O38.out.seg (Seg.ext e10 (by omega)))
  clear O38
  have O45 := Lib.hid (O39.out.seg (Seg.ext e10 (by omega)))
  clear O39
  have HE10 := Lib.hid (HE9.out.trans e10)
  have sz10 := e10.size
  clear HE9
  go_wp2_with fail
  refine (toIntSS_any _ _ xs1 _ hl1 hr1 (hx1.ext HE10.out)).mono ?_
  rintro e w11 ⟨rfl, h11⟩
  have O46 := Lib.hid (toIntSS_in h11 hl1 hr1)
  have e11 := h11.ext
  clear h11
  have O47 := Lib.hid (O40.out.seg (Seg.ext e11 (by omega)))
  clear O40
  have O48 := Lib.hid (O41.out.seg (Seg.ext e11 (by omega)))
  clear O41
  have O49 := Lib.hid (O42.out.seg (Seg.ext e11 (by omega)))
  clear O42
  have O50 := Lib.hid (O43.out.seg (Seg.ext e11 (by omega)))
  clear O43
  have O51 := Lib.hid (O44.out.seg (Seg.ext e11 (by omega)))
  clear O44
  have O52 := Lib.hid (O45.out.seg (Seg.ext e11 (by omega)))
  clear O45
  have HE11 := Lib.hid (HE10.out.trans e11)
  have sz11 := e11.size
  clear HE10
  go_wp2_with fail
  refine (eqIntSS_same _ _ _ _ xs1 _ hl1 hr1 O50.out.1.gridAt O46.out.1.gridAt).mono ?_
  rintro e w12 ⟨rfl, d12⟩
  have e12 := d12.ext
  clear d12
  have O53 := Lib.hid (O47.out.seg (Seg.ext e12 (by omega)))
  clear O47
  have O54 := Lib.hid (O48.out.seg (Seg.ext e12 (by omega)))
  clear O48
  have O55 := Lib.hid (O49.out.seg (Seg.ext e12 (by omega)))
  clear O49
  have O56 := Lib.hid (O50.out.seg (Seg.ext e12 (by omega)))
  clear O50
  have O57 := Lib.hid (O51.out.seg (Seg.ext e12 (by omega)))
  clear O51
  have O58 := Lib.hid (O52.out.seg (Seg.ext e12 (by omega)))
  clear O52
  have HE12 := Lib.hid (HE11.out.trans e12)
  have sz12 := e12.size
  clear HE11
  go_wp2_with fail
  refine (markIntSS_in 1 (by simp) (by omega) (by omega) ht0.out O55.out).mono ?_
  rintro e w13 ⟨K59, rfl, hK59, _, on13⟩
  have bK59 : K59 ≤ 1100000000 := by have h1 := hK59.out; have h2 := ht0.out; omega
  clear hK59
  have O60 := Lib.hid (O53.out.seg (Seg.onlyIn on13 (by omega)))
  clear O53
  have O61 := Lib.hid (O54.out.seg (Seg.onlyIn on13 (by omega)))
  clear O54
  have O62 := Lib.hid (O56.out.seg (Seg.onlyIn on13 (by omega)))
  clear O56
  have O63 := Lib.hid (O57.out.seg (Seg.onlyIn on13 (by omega)))
  clear O57
  have O64 := Lib.hid (O58.out.seg (Seg.onlyIn on13 (by omega)))
  clear O58
  have HE13 := Lib.hid (Ext.onlyIn HE12.out on13 (by omega))
  have sz13 : w12.heap.size ≤ w13.heap.size := by rw [on13.size]; exact Nat.le_refl _
  clear HE12
  go_wp2_with fail
  refine (markIntSS_in K59 (by rfl) (by omega) (by omega) ht1.out O62.out).mono ?_
  rintro e w14 ⟨K65, rfl, hK65, _, on14⟩
  have bK65 : K65 ≤ 2200000000 := by have h1 := hK65.out; have h2 := ht1.out; omega
  clear hK65
  have O66 := Lib.hid (O60.out.seg (Seg.onlyIn on14 (by omega)))
  clear O60
  have O67 := Lib.hid (O61.out.seg (Seg.onlyIn on14 (by omega)))
  clear O61
  have O68 := Lib.hid (O63.out.seg (Seg.onlyIn on14 (by omega)))
  clear O63
  have O69 := Lib.hid (O64.out.seg (Seg.onlyIn on14 (by omega)))
  clear O64
  have HE14 := Lib.hid (Ext.onlyIn HE13.out on14 (by omega))
  have sz14 : w13.heap.size ≤ w14.heap.size := by rw [on14.size]; exact Nat.le_refl _
  clear HE13
  go_wp2_with fail
  refine (eqIntS_same _ _ _ _ _ _ HR0.out O68.out.1.ints.2 O66.out.1.ints.2).mono ?_
  rintro e w15 ⟨rfl, d15⟩
  have e15 := d15.ext
  clear d15
  have O70 := Lib.hid (O66.out.seg (Seg.ext e15 (by omega)))
  clear O66
  have O71 := Lib.hid (O67.out.seg (Seg.ext e15 (by omega)))
  clear O67
  have O72 := Lib.hid (O68.out.seg (Seg.ext e15 (by omega)))
  clear O68
  have O73 := Lib.hid (O69.out.seg (Seg.ext e15 (by omega)))
  clear O69
  have HE15 := Lib.hid (HE14.out.trans e15)
  have sz15 := e15.size
  clear HE14
  go_wp2_with fail
  refine (eqIntS_same _ _ _ _ _ _ HR1.out O73.out.1.ints.2 O71.out.1.ints.2).mono ?_
  rintro e w16 ⟨rfl, d16⟩
  have e16 := d16.ext
  clear d16
  have O74 := Lib.hid (O70.out.seg (Seg.ext e16 (by omega)))
  clear O70
  have O75 := Lib.hid (O71.out.seg (Seg.ext e16 (by omega)))
  clear O71
  have O76 := Lib.hid (O72.out.seg (Seg.ext e16 (by omega)))
  clear O72
  have O77 := Lib.hid (O73.out.seg (Seg.ext e16 (by omega)))
  clear O73
  have HE16 := Lib.hid (HE15.out.trans e16)
  have sz16 := e16.size
  clear HE15
  go_wp2_with fail
  refine (markIntS_in 1 (by simp) (by omega) (by have := HR0.out; omega) O76.out).mono ?_
  rintro e w17 ⟨K78, rfl, hK78, o79, on17⟩
  have O79 := Lib.hid o79
  clear o79 O76
  have O80 := Lib.hid (O74.out.seg (Seg.onlyIn on17 (by omega)))
  clear O74
  have O81 := Lib.hid (O75.out.seg (Seg.onlyIn on17 (by omega)))
  clear O75
  have O82 := Lib.hid (O77.out.seg (Seg.onlyIn on17 (by omega)))
  clear O77
  have HE17 := Lib.hid (Ext.onlyIn HE16.out on17 (by omega))
  have sz17 : w16.heap.size ≤ w17.heap.size := by rw [on17.size]; exact Nat.le_refl _
  clear HE16
  have bK78 : K78 ≤ 1100000000 := by have h1 := hK78.out; have h2 := HR0.out; omega
  go_wp2_with fail
  refine (markIntS_in K78 (by rfl) (by omega) (by have := HR1.out; omega) O82.out).mono ?_
  rintro e w18 ⟨K83, rfl, hK83, o84, on18⟩
  have O84 := Lib.hid o84
  clear o84 O82
  have O85 := Lib.hid (O80.out.seg (Seg.onlyIn on18 (by omega)))
  clear O80
  have O86 := Lib.hid (O81.out.seg (Seg.onlyIn on18 (by omega)))
  clear O81
  have O87 := Lib.hid (O79.out.seg (Seg.onlyIn on18 (by omega)))
  clear O79
  have HE18 := Lib.hid (Ext.onlyIn HE17.out on18 (by omega))
  have sz18 : w17.heap.size ≤ w18.heap.size := by rw [on18.size]; exact Nat.le_refl _
  clear HE17
  have bK83 : K83 ≤ 2200000000 := by have h1 := hK83.out; have h2 := HR1.out; omega
  go_wp2_with fail
  refine (heldIntS_in 1 (by simp) (by omega) (by have := HR0.out; omega) O87.out).mono ?_
  rintro e w' ⟨K88, rfl, hK88, rfl⟩
  have bK88 : K88 ≤ 1100000000 := by have h1 := hK88.out; have h2 := HR0.out; omega
  obtain rfl : K88 = K78 := by rw [hK88.out, hK78.out]
  go_wp2_with fail
  refine (heldIntS_in K88 (by rfl) (by omega) (by have := HR1.out; omega) O84.out).mono ?_
  rintro e w' ⟨K89, rfl, hK89, rfl⟩
  have bK89 : K89 ≤ 2200000000 := by have h1 := hK89.out; have h2 := HR1.out; omega
  obtain rfl : K89 = K83 := by rw [hK89.out, hK83.out]
  go_wp2_with fail
  refine (toIntSS_any _ _ xs0 _ hl0 hr0 (hx0.ext HE18.out)).mono ?_
  rintro e w19 ⟨rfl, h19⟩
  have O90 := Lib.hid (toIntSS_in h19 hl0 hr0)
  have e19 := h19.ext
  clear h19
  have O91 := Lib.hid (O85.out.seg (Seg.ext e19 (by omega)))
  clear O85
  have O92 := Lib.hid (O86.out.seg (Seg.ext e19 (by omega)))
  clear O86
  have O93 := Lib.hid (O87.out.seg (Seg.ext e19 (by omega)))
  clear O87
  have O94 := Lib.hid (O84.out.seg (Seg.ext e19 (by omega)))
  clear O84
  have HE19 := Lib.hid (HE18.out.trans e19)
  have sz19 := e19.size
  clear HE18
  go_wp2_with fail
  refine (toIntSS_any _ _ xs1 _ hl1 hr1 (hx1.ext HE19.out)).mono ?_
  rintro e w20 ⟨rfl, h20⟩
  have O95 := Lib.hid (toIntSS_in h20 hl1 hr1)
  have e20 := h20.ext
  clear h20
  have O96 := Lib.hid (O91.out.seg (Seg.ext e20 (by omega)))
  clear O91
  have O97 := Lib.hid (O92.out.seg (Seg.ext e20 (by omega)))
  clear O92
  have O98 := Lib.hid (O93.out.seg (Seg.ext e20 (by omega)))
  clear O93
  have O99 := Lib.hid (O94.out.seg (Seg.ext e20 (by omega)))
  clear O94
  have O100 := Lib.hid (O90.out.seg (Seg.ext e20 (by omega)))
  clear O90
  have HE20 := Lib.hid (HE19.out.trans e20)
  have sz20 := e20.size
  clear HE19
  go_wp2_with fail
  refine (implFindPrices_any _ _ _ _ xs0 xs1 _ hl0 hr0 hl1 hr1 (O100.out.1.gridAt) (O95.out.1.gridAt)).mono ?_
  rintro e w21 ⟨H0, H1, midH, rfl, mlH, mhH, o0, o1, e21⟩
  obtain ⟨HA0, Hc0, rfl, _⟩ := o0.1.slice
  have O101 := Lib.hid o0
  clear o0
  obtain ⟨HA1, Hc1, rfl, _⟩ := o1.1.slice
  have O102 := Lib.hid o1
  clear o1
  have O103 := Lib.hid (O96.out.seg (Seg.ext e21 (by omega)))
  clear O96
  have O104 := Lib.hid (O97.out.seg (Seg.ext e21 (by omega)))
  clear O97
  have O105 := Lib.hid (O98.out.seg (Seg.ext e21 (by omega)))
  clear O98
  have O106 := Lib.hid (O99.out.seg (Seg.ext e21 (by omega)))
  clear O99
  have O107 := Lib.hid (O100.out.seg (Seg.ext e21 (by omega)))
  clear O100
  have O108 := Lib.hid (O95.out.seg (Seg.ext e21 (by omega)))
  clear O95
  have HE21 := Lib.hid (HE20.out.trans e21)
  have sz21 := e21.size
  clear HE20
  go_wp2_with fail
  refine (eqIntS_same _ _ _ _ _ _ HR0.out O101.out.1.ints.2 O103.out.1.ints.2).mono ?_
  rintro e w22 ⟨rfl, d22⟩
  have e22 := d22.ext
  clear d22
  have O109 := Lib.hid (O103.out.seg (Seg.ext e22 (by omega)))
  clear O103
  have O110 := Lib.hid (O104.out.seg (Seg.ext e22 (by omega)))
  clear O104
  have O111 := Lib.hid (O105.out.seg (Seg.ext e22 (by omega)))
  clear O105
  have O112 := Lib.hid (O106.out.seg (Seg.ext e22 (by omega)))
  clear O106
  have O113 := Lib.hid (O101.out.seg (Seg.ext e22 (by omega)))
  clear O101
  have O114 := Lib.hid (O102.out.seg (Seg.ext e22 (by omega)))
  clear O102
  have HE22 := Lib.hid (HE21.out.trans e22)
  have sz22 := e22.size
  clear HE21
  go_wp2_with fail
  refine (eqIntS_same _ _ _ _ _ _ HR1.out O114.out.1.ints.2 O110.out.1.ints.2).mono ?_
  rintro e w23 ⟨rfl, d23⟩
  have e23 := d23.ext
  clear d23
  have O115 := Lib.hid (O109.out.seg (Seg.ext e23 (by omega)))
  clear O109
  have O116 := Lib.hid (O110.out.seg (Seg.ext e23 (by omega)))
  clear O110
  have O117 := Lib.hid (O111.out.seg (Seg.ext e23 (by omega)))
  clear O111
  have O118 := Lib.hid (O112.out.seg (Seg.ext e23 (by omega)))
  clear O112
  have O119 := Lib.hid (O113.out.seg (Seg.ext e23 (by omega)))
  clear O113
  have O120 := Lib.hid (O114.out.seg (Seg.ext e23 (by omega)))
  clear O114
  have HE23 := Lib.hid (HE22.out.trans e23)
  have sz23 := e23.size
  clear HE22
  go_wp2_with fail
  refine (heldIntS_in 1 (by simp) (by omega) (by have := HR0.out; omega) O117.out).mono ?_
  rintro e w' ⟨K121, rfl, hK121, rfl⟩
  have bK121 : K121 ≤ 1100000000 := by have h1 := hK121.out; have h2 := HR0.out; omega
  obtain rfl : K121 = K88 := by rw [hK121.out, hK88.out]
  go_wp2_with fail
  refine (heldIntS_in K121 (by rfl) (by omega) (by have := HR1.out; omega) O118.out).mono ?_
  rintro e w' ⟨K122, rfl, hK122, rfl⟩
  have bK122 : K122 ≤ 2200000000 := by have h1 := hK122.out; have h2 := HR1.out; omega
  obtain rfl : K122 = K89 := by rw [hK122.out, hK89.out]
  go_wp2_with fail
  go_ret
  exact ⟨rfl, HE23.out⟩
end Go.Proofs.Ytnnkondlefjkcaa
