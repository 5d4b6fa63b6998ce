/- The law of BadRectangle: its walk. -/
import Derived.Test.YtmcnpdpplmbofaaBad3
import Derived.Test.YtmcnpdpplmbofaaMark4
import Derived.Test.YtmcnpdpplmbofaaHelp2
namespace Go.Proofs.Ytmcnpdpplmbofaa
open Go.RowKit Tomo

set_option maxRecDepth 100000 in
set_option maxHeartbeats 4000000 in
theorem law_BadRectangle (w : World) (A0 : Option Addr) (c0 : Nat) (xs0 : List (List Int)) (h630 : xs0.length ≤ 9223372036854775807) (hr630 : ∀ r ∈ xs0, r.length ≤ 9223372036854775807) (hx0 : GridAt w A0 xs0) (A1 : Option Addr) (c1 : Nat) (xs1 : List Int) (h631 : xs1.length ≤ 9223372036854775807) (hx1 : Ints w A1 xs1) (A2 : Option Addr) (c2 : Nat) (xs2 : List Int) (h632 : xs2.length ≤ 9223372036854775807) (hx2 : Ints w A2 xs2) :
    Calls Try.prog 3 #[.slice A0 xs0.length c0, .slice A1 xs1.length c1, .slice A2 xs2.length c2] w fun e w' => e = .returned (.bool true) ∧ Ext w w' := by
  by_cases hl1 : xs1.length ≤ 1048576
  case neg =>
    go_enter Try.func3, Try.ntmps3
    go_wp2_with fail
    go_ret
    exact ⟨rfl, Ext.refl _⟩
  by_cases hl2 : xs2.length ≤ 1048576
  case neg =>
    go_enter Try.func3, Try.ntmps3
    go_wp2_with fail
    go_ret
    exact ⟨rfl, Ext.refl _⟩
  by_cases hz0 : (1048576 : Int) < szGrid xs0
  case pos =>
    have cz0 : Calls Try.prog 4 #[.slice A0 xs0.length c0, .int .i64 1048576] w fun e w' => e = .returned (.int .i64 (-1)) ∧ w = w' := by
      have h := szIntSS_any A0 c0 xs0 1048576 w h630 hr630 (by omega) (by omega) hx0
      rw [show szOf (szGrid xs0) (1048576) = -1 from if_pos hz0] at h; exact h
    go_enter Try.func3, Try.ntmps3
    go_wp2_with fail
    refine cz0.mono ?_
    rintro e w' ⟨rfl, rfl⟩
    go_wp2_with fail
    go_ret
    exact ⟨rfl, Ext.refl _⟩
  have cz0 : ∃ l0 : Int, 0 ≤ l0 ∧ l0 ≤ 1048576 ∧ Calls Try.prog 4 #[.slice A0 xs0.length c0, .int .i64 1048576] w fun e w' => e = .returned (.int .i64 l0) ∧ w = w' := by
    have h := szIntSS_any A0 c0 xs0 1048576 w h630 hr630 (by omega) (by omega) hx0
    rw [show szOf (szGrid xs0) (1048576) = 1048576 - (szGrid xs0 : Nat) from if_neg hz0] at h
    exact ⟨_, by omega, by omega, h⟩
  have hl0 : xs0.length ≤ 1048576 := by have := sz_len xs0; omega
  have hr0 : ∀ r ∈ xs0, r.length ≤ 1048576 := fun r hr => by have := sz_row xs0 r hr; omega
  have ht0 : Hid (total xs0 ≤ 1000000000) := Lib.hid (by have := sz_total xs0; omega)
  obtain ⟨l0, hl0a, hl0b, cz0⟩ := cz0
  clear hz0
  have HR0 := Lib.hid ((bad_small xs0 xs1 xs2).1)
  have HR1 := Lib.hid ((bad_small xs0 xs1 xs2).2)
  have HE0 : Hid (Ext w w) := Lib.hid (Ext.refl w)
  go_enter Try.func3, Try.ntmps3
  go_wp2_with fail
  refine cz0.mono ?_
  rintro e w' ⟨rfl, rfl⟩
  go_wp2_with fail
  refine (toIntSS_any _ _ xs0 _ hl0 hr0 (hx0.ext HE0.out)).mono ?_
  rintro e w1 ⟨rfl, h1⟩
  have O1 := Lib.hid (toIntSS_in h1 hl0 hr0)
  have e1 := h1.ext
  clear h1
  have HE1 := Lib.hid (HE0.out.trans e1)
  have sz1 := e1.size
  clear HE0
  go_wp2_with fail
  refine (toIntS_any _ _ xs1 _ hl1 (hx1.ext HE1.out)).mono ?_
  rintro e w2 ⟨rfl, h2⟩
  have O2 := Lib.hid (toIntS_in h2 hl1)
  have e2 := h2.ext
  clear h2
  have O3 := Lib.hid (O1.out.seg (Seg.ext e2 (by omega)))
  clear O1
  have HE2 := Lib.hid (HE1.out.trans e2)
  have sz2 := e2.size
  clear HE1
  go_wp2_with fail
  refine (toIntS_any _ _ xs2 _ hl2 (hx2.ext HE2.out)).mono ?_
  rintro e w3 ⟨rfl, h3⟩
  have O4 := Lib.hid (toIntS_in h3 hl2)
  have e3 := h3.ext
  clear h3
  have O5 := Lib.hid (O3.out.seg (Seg.ext e3 (by omega)))
  clear O3
  have O6 := Lib.hid (O2.out.seg (Seg.ext e3 (by omega)))
  clear O2
  have HE3 := Lib.hid (HE2.out.trans e3)
  have sz3 := e3.size
  clear HE2
  go_wp2_with fail
  refine (specBadRectangle_any _ _ _ _ _ _ xs0 xs1 xs2 _ hl0 hr0 (O5.out.1.gridAt) hl1 hl2 (Nat.le_refl _) (O6.out.1.typed) (O4.out.1.typed)).mono ?_
  rintro e w4 ⟨W0, W1, rfl, o0, o1, e4⟩
  obtain ⟨WA0, Wc0, rfl, _⟩ := o0.slice
  have O7 := Lib.hid o0.in_
  clear o0
  obtain ⟨WA1, Wc1, rfl, _⟩ := o1.slice
  have O8 := Lib.hid o1.in_
  clear o1
  have O9 := Lib.hid (O5.out.seg (Seg.ext e4 (by omega)))
  clear O5
  have O10 := Lib.hid (O6.out.seg (Seg.ext e4 (by omega)))
  clear O6
  have O11 := Lib.hid (O4.out.seg (Seg.ext e4 (by omega)))
  clear O4
  have HE4 := Lib.hid (HE3.out.trans e4)
  have sz4 := e4.size
  clear HE3
  go_wp2_with fail
  refine (toIntSS_any _ _ xs0 _ hl0 hr0 (hx0.ext HE4.out)).mono ?_
  rintro e w5 ⟨rfl, h5⟩
  have O12 := Lib.hid (toIntSS_in h5 hl0 hr0)
  have e5 := h5.ext
  clear h5
  have O13 := Lib.hid (O7.out.seg (Seg.ext e5 (by omega)))
  clear O7
  have O14 := Lib.hid (O8.out.seg (Seg.ext e5 (by omega)))
  clear O8
  have HE5 := Lib.hid (HE4.out.trans e5)
  have sz5 := e5.size
  clear HE4
  go_wp2_with fail
  refine (toIntS_any _ _ xs1 _ hl1 (hx1.ext HE5.out)).mono ?_
  rintro e w6 ⟨rfl, h6⟩
  have O15 := Lib.hid (toIntS_in h6 hl1)
  have e6 := h6.ext
  clear h6
  have O16 := Lib.hid (O13.out.seg (Seg.ext e6 (by omega)))
  clear O13
  have O17 := Lib.hid (O14.out.seg (Seg.ext e6 (by omega)))
  clear O14
  have O18 := Lib.hid (O12.out.seg (Seg.ext e6 (by omega)))
  clear O12
  have HE6 := Lib.hid (HE5.out.trans e6)
  have sz6 := e6.size
  clear HE5
  go_wp2_with fail
  refine (toIntS_any _ _ xs2 _ hl2 (hx2.ext HE6.out)).mono ?_
  rintro e w7 ⟨rfl, h7⟩
  have O19 := Lib.hid (toIntS_in h7 hl2)
  have e7 := h7.ext
  clear h7
  have O20 := Lib.hid (O16.out.seg (Seg.ext e7 (by omega)))
  clear O16
  have O21 := Lib.hid (O17.out.seg (Seg.ext e7 (by omega)))
  clear O17
  have O22 := Lib.hid (O18.out.seg (Seg.ext e7 (by omega)))
  clear O18
  have O23 := Lib.hid (O15.out.seg (Seg.ext e7 (by omega)))
  clear O15
  have HE7 := Lib.hid (HE6.out.trans e7)
  have sz7 := e7.size
  clear HE6
  go_wp2_with fail
  refine (implBadRectangle_any _ _ _ _ _ _ xs0 xs1 xs2 _ hl0 hr0 (O22.out.1.gridAt) hl1 hl2 (O23.out.1.ints.2) (O19.out.1.ints.2)).mono ?_
  rintro e w8 ⟨G0, G1, midG, rfl, mlG, mhG, o0, o1, e8⟩
  obtain ⟨GA0, Gc0, rfl, _⟩ := o0.1.slice
  have O24 := Lib.hid o0
  clear o0
  obtain ⟨GA1, Gc1, rfl, _⟩ := o1.1.slice
  have O25 := Lib.hid o1
  clear o1
  have O26 := Lib.hid (O20.out.seg (Seg.ext e8 (by omega)))
  clear O20
  have O27 := Lib.hid (O21.out.seg (Seg.ext e8 (by omega)))
  clear O21
  have O28 := Lib.hid (O22.out.seg (Seg.ext e8 (by omega)))
  clear O22
  have O29 := Lib.hid (O23.out.seg (Seg.ext e8 (by omega)))
  clear O23
  have O30 := Lib.hid (O19.out.seg (Seg.ext e8 (by omega)))
  clear O19
  have HE8 := Lib.hid (HE7.out.trans e8)
  have sz8 := e8.size
  clear HE7
  go_wp2_with fail
  refine (eqIntS_same _ _ _ _ _ _ HR0.out O24.out.1.ints.2 O26.out.1.ints.2).mono ?_
  rintro e w9 ⟨rfl, d9⟩
  have e9 := d9.ext
  clear d9
  have O31 := Lib.hid (O26.out.seg (Seg.ext e9 (by omega)))
  clear O26
  have O32 := Lib.hid (O27.out.seg (Seg.ext e9 (by omega)))
  clear O27
  have O33 := Lib.hid (O28.out.seg (Seg.ext e9 (by omega)))
  clear O28
  have O34 := Lib.hid (O29.out.seg (Seg.ext e9 (by omega)))
  clear O29
  have O35 := Lib.hid (O30.out.seg (Seg.ext e9 (by omega)))
  clear O30
  have O36 := Lib.hid (O24.out.seg (Seg.ext e9 (by omega)))
  clear O24
  have O37 := Lib.hid (O25.out.seg (Seg.ext e9 (by omega)))
  clear O25
  have HE9 := Lib.hid (HE8.out.trans e9)
  have sz9 := e9.size
  clear HE8
  go_wp2_with fail
  refine (eqIntS_same _ _ _ _ _ _ HR1.out O37.out.1.ints.2 O32.out.1.ints.2).mono ?_
  rintro e w10 ⟨rfl, d10⟩
  have e10 := d10.ext
  clear d10
  have O38 := Lib.hid (O31.out.seg (Seg.ext e10 (by omega)))
  clear O31
  have O39 := Lib.hid (O32.out.seg (Seg.ext e10 (by omega)))
  clear O32
  have O40 := Lib.hid (O33.out.seg (Seg.ext e10 (by omega)))
  clear O33
  have O41 := Lib.hid (O34.out.seg (Seg.ext e10 (by omega)))
  clear O34
  have O42 := Lib.hid (O35.out.seg (Seg.ext e10 (by omega)))
  clear O35
  have O43 := Lib.hid (O36.out.seg (Seg.ext e10 (by omega)))
  clear O36
  have O44 := Lib.hid (O37.out.seg (Seg.ext e10 (by omega)))
  clear O37
  have HE10 := Lib.hid (HE9.out.trans e10)
  have sz10 := e10.size
  clear HE9
  go_wp2_with fail
  refine (toIntSS_any _ _ xs0 _ hl0 hr0 (hx0.ext HE10.out)).mono ?_
  rintro e w11 ⟨rfl, h11⟩
  have O45 := Lib.hid (toIntSS_in h11 hl0 hr0)
  have e11 := h11.ext
  clear h11
  have O46 := Lib.hid (O38.out.seg (Seg.ext e11 (by omega)))
  clear O38
  have O47 := Lib.hid (O39.out.seg (Seg.ext e11 (by omega)))
  clear O39
  have O48 := Lib.hid (O40.out.seg (Seg.ext e11 (by omega)))
  clear O40
  have O49 := Lib.hid (O41.out.seg (Seg.ext e11 (by omega)))
  clear O41
  have O50 := Lib.hid (O42.out.seg (Seg.ext e11 (by omega)))
  clear O42
  have O51 := Lib.hid (O43.out.seg (Seg.ext e11 (by omega)))
  clear O43
  have O52 := Lib.hid (O44.out.seg (Seg.ext e11 (by omega)))
  clear O44
  have HE11 := Lib.hid (HE10.out.trans e11)
  have sz11 := e11.size
  clear HE10
  go_wp2_with fail
  refine (eqIntSS_same _ _ _ _ xs0 _ hl0 hr0 O48.out.1.gridAt O45.out.1.gridAt).mono ?_
  rintro e w12 ⟨rfl, d12⟩
  have e12 := d12.ext
  clear d12
  have O53 := Lib.hid (O46.out.seg (Seg.ext e12 (by omega)))
  clear O46
  have O54 := Lib.hid (O47.out.seg (Seg.ext e12 (by omega)))
  clear O47
  have O55 := Lib.hid (O48.out.seg (Seg.ext e12 (by omega)))
  clear O48
  have O56 := Lib.hid (O49.out.seg (Seg.ext e12 (by omega)))
  clear O49
  have O57 := Lib.hid (O50.out.seg (Seg.ext e12 (by omega)))
  clear O50
  have O58 := Lib.hid (O51.out.seg (Seg.ext e12 (by omega)))
  clear O51
  have O59 := Lib.hid (O52.out.seg (Seg.ext e12 (by omega)))
  clear O52
  have HE12 := Lib.hid (HE11.out.trans e12)
  have sz12 := e12.size
  clear HE11
  go_wp2_with fail
  refine (toIntS_any _ _ xs1 _ hl1 (hx1.ext HE12.out)).mono ?_
  rintro e w13 ⟨rfl, h13⟩
  have O60 := Lib.hid (toIntS_in h13 hl1)
  have e13 := h13.ext
  clear h13
  have O61 := Lib.hid (O53.out.seg (Seg.ext e13 (by omega)))
  clear O53
  have O62 := Lib.hid (O54.out.seg (Seg.ext e13 (by omega)))
  clear O54
  have O63 := Lib.hid (O55.out.seg (Seg.ext e13 (by omega)))
  clear O55
  have O64 := Lib.hid (O56.out.seg (Seg.ext e13 (by omega)))
  clear O56
  have O65 := Lib.hid (O57.out.seg (Seg.ext e13 (by omega)))
  clear O57
  have O66 := Lib.hid (O58.out.seg (Seg.ext e13 (by omega)))
  clear O58
  have O67 := Lib.hid (O59.out.seg (Seg.ext e13 (by omega)))
  clear O59
  have HE13 := Lib.hid (HE12.out.trans e13)
  have sz13 := e13.size
  clear HE12
  go_wp2_with fail
  refine (eqIntS_same _ _ _ _ xs1 _ hl1 O64.out.1.ints.2 O60.out.1.ints.2).mono ?_
  rintro e w14 ⟨rfl, d14⟩
  have e14 := d14.ext
  clear d14
  have O68 := Lib.hid (O61.out.seg (Seg.ext e14 (by omega)))
  clear O61
  have O69 := Lib.hid (O62.out.seg (Seg.ext e14 (by omega)))
  clear O62
  have O70 := Lib.hid (O63.out.seg (Seg.ext e14 (by omega)))
  clear O63
  have O71 := Lib.hid (O64.out.seg (Seg.ext e14 (by omega)))
  clear O64
  have O72 := Lib.hid (O65.out.seg (Seg.ext e14 (by omega)))
  clear O65
  have O73 := Lib.hid (O66.out.seg (Seg.ext e14 (by omega)))
  clear O66
  have O74 := Lib.hid (O67.out.seg (Seg.ext e14 (by omega)))
  clear O67
  have HE14 := Lib.hid (HE13.out.trans e14)
  have sz14 := e14.size
  clear HE13
  go_wp2_with fail
  refine (toIntS_any _ _ xs2 _ hl2 (hx2.ext HE14.out)).mono ?_
  rintro e w15 ⟨rfl, h15⟩
  have O75 := Lib.hid (toIntS_in h15 hl2)
  have e15 := h15.ext
  clear h15
  have O76 := Lib.hid (O68.out.seg (Seg.ext e15 (by omega)))
  clear O68
  have O77 := Lib.hid (O69.out.seg (Seg.ext e15 (by omega)))
  clear O69
  have O78 := Lib.hid (O70.out.seg (Seg.ext e15 (by omega)))
  clear O70
  have O79 := Lib.hid (O71.out.seg (Seg.ext e15 (by omega)))
  clear O71
  have O80 := Lib.hid (O72.out.seg (Seg.ext e15 (by omega)))
  clear O72
  have O81 := Lib.hid (O73.out.seg (Seg.ext e15 (by omega)))
  clear O73
  have O82 := Lib.hid (O74.out.seg (Seg.ext e15 (by omega)))
  clear O74
  have HE15 := Lib.hid (HE14.out.trans e15)
  have sz15 := e15.size
  clear HE14
  go_wp2_with fail
  refine (eqIntS_same _ _ _ _ xs2 _ hl2 O80.out.1.ints.2 O75.out.1.ints.2).mono ?_
  rintro e w16 ⟨rfl, d16⟩
  have e16 := d16.ext
  clear d16
  have O83 := Lib.hid (O76.out.seg (Seg.ext e16 (by omega)))
  clear O76
  have O84 := Lib.hid (O77.out.seg (Seg.ext e16 (by omega)))
  clear O77
  have O85 := Lib.hid (O78.out.seg (Seg.ext e16 (by omega)))
  clear O78
  have O86 := Lib.hid (O79.out.seg (Seg.ext e16 (by omega)))
  clear O79
  have O87 := Lib.hid (O80.out.seg (Seg.ext e16 (by omega)))
  clear O80
  have O88 := Lib.hid (O81.out.seg (Seg.ext e16 (by omega)))
  clear O81
  have O89 := Lib.hid (O82.out.seg (Seg.ext e16 (by omega)))
  clear O82
  have HE16 := Lib.hid (HE15.out.trans e16)
  have sz16 := e16.size
  clear HE15
  go_wp2_with fail
  refine (markIntSS_in 1 (by simp) (by omega) (by omega) ht0.out O85.out).mono ?_
  rintro e w17 ⟨K90, rfl, hK90, _, on17⟩
  have bK90 : K90 ≤ 1100000000 := by have h1 := hK90.out; have h2 := ht0.out; omega
  clear hK90
  have O91 := Lib.hid (O83.out.seg (Seg.onlyIn on17 (by omega)))
  clear O83
  have O92 := Lib.hid (O84.out.seg (Seg.onlyIn on17 (by omega)))
  clear O84
  have O93 := Lib.hid (O86.out.seg (Seg.onlyIn on17 (by omega)))
  clear O86
  have O94 := Lib.hid (O87.out.seg (Seg.onlyIn on17 (by omega)))
  clear O87
  have O95 := Lib.hid (O88.out.seg (Seg.onlyIn on17 (by omega)))
  clear O88
  have O96 := Lib.hid (O89.out.seg (Seg.onlyIn on17 (by omega)))
  clear O89
  have HE17 := Lib.hid (Ext.onlyIn HE16.out on17 (by omega))
  have sz17 : w16.heap.size ≤ w17.heap.size := by rw [on17.size]; exact Nat.le_refl _
  clear HE16
  go_wp2_with fail
  refine (markIntS_in K90 (by rfl) (by omega) (by omega) O93.out).mono ?_
  rintro e w18 ⟨K97, rfl, hK97, _, on18⟩
  have bK97 : K97 ≤ 2200000000 := by have h1 := hK97.out; omega
  clear hK97
  have O98 := Lib.hid (O91.out.seg (Seg.onlyIn on18 (by omega)))
  clear O91
  have O99 := Lib.hid (O92.out.seg (Seg.onlyIn on18 (by omega)))
  clear O92
  have O100 := Lib.hid (O94.out.seg (Seg.onlyIn on18 (by omega)))
  clear O94
  have O101 := Lib.hid (O95.out.seg (Seg.onlyIn on18 (by omega)))
  clear O95
  have O102 := Lib.hid (O96.out.seg (Seg.onlyIn on18 (by omega)))
  clear O96
  have HE18 := Lib.hid (Ext.onlyIn HE17.out on18 (by omega))
  have sz18 : w17.heap.size ≤ w18.heap.size := by rw [on18.size]; exact Nat.le_refl _
  clear HE17
  go_wp2_with fail
  refine (markIntS_in K97 (by rfl) (by omega) (by omega) O100.out).mono ?_
  rintro e w19 ⟨K103, rfl, hK103, _, on19⟩
  have bK103 : K103 ≤ 3300000000 := by have h1 := hK103.out; omega
  clear hK103
  have O104 := Lib.hid (O98.out.seg (Seg.onlyIn on19 (by omega)))
  clear O98
  have O105 := Lib.hid (O99.out.seg (Seg.onlyIn on19 (by omega)))
  clear O99
  have O106 := Lib.hid (O101.out.seg (Seg.onlyIn on19 (by omega)))
  clear O101
  have O107 := Lib.hid (O102.out.seg (Seg.onlyIn on19 (by omega)))
  clear O102
  have HE19 := Lib.hid (Ext.onlyIn HE18.out on19 (by omega))
  have sz19 : w18.heap.size ≤ w19.heap.size := by rw [on19.size]; exact Nat.le_refl _
  clear HE18
  go_wp2_with fail
  refine (eqIntS_same _ _ _ _ _ _ HR0.out O106.out.1.ints.2 O104.out.1.ints.2).mono ?_
  rintro e w20 ⟨rfl, d20⟩
  have e20 := d20.ext
  clear d20
  have O108 := Lib.hid (O104.out.seg (Seg.ext e20 (by omega)))
  clear O104
  have O109 := Lib.hid (O105.out.seg (Seg.ext e20 (by omega)))
  clear O105
  have O110 := Lib.hid (O106.out.seg (Seg.ext e20 (by omega)))
  clear O106
  have O111 := Lib.hid (O107.out.seg (Seg.ext e20 (by omega)))
  clear O107
  have HE20 := Lib.hid (HE19.out.trans e20)
  have sz20 := e20.size
  clear HE19
  go_wp2_with fail
  refine (eqIntS_same _ _ _ _ _ _ HR1.out O111.out.1.ints.2 O109.out.1.ints.2).mono ?_
  rintro e w21 ⟨rfl, d21⟩
  have e21 := d21.ext
  clear d21
  have O112 := Lib.hid (O108.out.seg (Seg.ext e21 (by omega)))
  clear O108
  have O113 := Lib.hid (O109.out.seg (Seg.ext e21 (by omega)))
  clear O109
  have O114 := Lib.hid (O110.out.seg (Seg.ext e21 (by omega)))
  clear O110
  have O115 := Lib.hid (O111.out.seg (Seg.ext e21 (by omega)))
  clear O111
  have HE21 := Lib.hid (HE20.out.trans e21)
  have sz21 := e21.size
  clear HE20
  go_wp2_with fail
  refine (markIntS_in 1 (by simp) (by omega) (by have := HR0.out; omega) O114.out).mono ?_
  rintro e w22 ⟨K116, rfl, hK116, o117, on22⟩
  have O117 := Lib.hid o117
  clear o117 O114
  have O118 := Lib.hid (O112.out.seg (Seg.onlyIn on22 (by omega)))
  clear O112
  have O119 := Lib.hid (O113.out.seg (Seg.onlyIn on22 (by omega)))
  clear O113
  have O120 := Lib.hid (O115.out.seg (Seg.onlyIn on22 (by omega)))
  clear O115
  have HE22 := Lib.hid (Ext.onlyIn HE21.out on22 (by omega))
  have sz22 : w21.heap.size ≤ w22.heap.size := by rw [on22.size]; exact Nat.le_refl _
  clear HE21
  have bK116 : K116 ≤ 1100000000 := by have h1 := hK116.out; have h2 := HR0.out; omega
  go_wp2_with fail
  refine (markIntS_in K116 (by rfl) (by omega) (by have := HR1.out; omega) O120.out).mono ?_
  rintro e w23 ⟨K121, rfl, hK121, o122, on23⟩
  have O122 := Lib.hid o122
  clear o122 O120
  have O123 := Lib.hid (O118.out.seg (Seg.onlyIn on23 (by omega)))
  clear O118
  have O124 := Lib.hid (O119.out.seg (Seg.onlyIn on23 (by omega)))
  clear O119
  have O125 := Lib.hid (O117.out.seg (Seg.onlyIn on23 (by omega)))
  clear O117
  have HE23 := Lib.hid (Ext.onlyIn HE22.out on23 (by omega))
  have sz23 : w22.heap.size ≤ w23.heap.size := by rw [on23.size]; exact Nat.le_refl _
  clear HE22
  have bK121 : K121 ≤ 2200000000 := by have h1 := hK121.out; have h2 := HR1.out; omega
  go_wp2_with fail
  refine (heldIntS_in 1 (by simp) (by omega) (by have := HR0.out; omega) O125.out).mono ?_
  rintro e w' ⟨K126, rfl, hK126, rfl⟩
  have bK126 : K126 ≤ 1100000000 := by have h1 := hK126.out; have h2 := HR0.out; omega
  obtain rfl : K126 = K116 := by rw [hK126.out, hK116.out]
  go_wp2_with fail
  refine (heldIntS_in K126 (by rfl) (by omega) (by have := HR1.out; omega) O122.out).mono ?_
  rintro e w' ⟨K127, rfl, hK127, rfl⟩
  have bK127 : K127 ≤ 2200000000 := by have h1 := hK127.out; have h2 := HR1.out; omega
  obtain rfl : K127 = K121 := by rw [hK127.out, hK121.out]
  go_wp2_with fail
  refine (toIntSS_any _ _ xs0 _ hl0 hr0 (hx0.ext HE23.out)).mono ?_
  rintro e w24 ⟨rfl, h24⟩
  have O128 := Lib.hid (toIntSS_in h24 hl0 hr0)
  have e24 := h24.ext
  clear h24
  have O129 := Lib.hid (O123.out.seg (Seg.ext e24 (by omega)))
  clear O123
  have O130 := Lib.hid (O124.out.seg (Seg.ext e24 (by omega)))
  clear O124
  have O131 := Lib.hid (O125.out.seg (Seg.ext e24 (by omega)))
  clear O125
  have O132 := Lib.hid (O122.out.seg (Seg.ext e24 (by omega)))
  clear O122
  have HE24 := Lib.hid (HE23.out.trans e24)
  have sz24 := e24.size
  clear HE23
  go_wp2_with fail
  refine (toIntS_any _ _ xs1 _ hl1 (hx1.ext HE24.out)).mono ?_
  rintro e w25 ⟨rfl, h25⟩
  have O133 := Lib.hid (toIntS_in h25 hl1)
  have e25 := h25.ext
  clear h25
  have O134 := Lib.hid (O129.out.seg (Seg.ext e25 (by omega)))
  clear O129
  have O135 := Lib.hid (O130.out.seg (Seg.ext e25 (by omega)))
  clear O130
  have O136 := Lib.hid (O131.out.seg (Seg.ext e25 (by omega)))
  clear O131
  have O137 := Lib.hid (O132.out.seg (Seg.ext e25 (by omega)))
  clear O132
  have O138 := Lib.hid (O128.out.seg (Seg.ext e25 (by omega)))
  clear O128
  have HE25 := Lib.hid (HE24.out.trans e25)
  have sz25 := e25.size
  clear HE24
  go_wp2_with fail
  refine (toIntS_any _ _ xs2 _ hl2 (hx2.ext HE25.out)).mono ?_
  rintro e w26 ⟨rfl, h26⟩
  have O139 := Lib.hid (toIntS_in h26 hl2)
  have e26 := h26.ext
  clear h26
  have O140 := Lib.hid (O134.out.seg (Seg.ext e26 (by omega)))
  clear O134
  have O141 := Lib.hid (O135.out.seg (Seg.ext e26 (by omega)))
  clear O135
  have O142 := Lib.hid (O136.out.seg (Seg.ext e26 (by omega)))
  clear O136
  have O143 := Lib.hid (O137.out.seg (Seg.ext e26 (by omega)))
  clear O137
  have O144 := Lib.hid (O138.out.seg (Seg.ext e26 (by omega)))
  clear O138
  have O145 := Lib.hid (O133.out.seg (Seg.ext e26 (by omega)))
  clear O133
  have HE26 := Lib.hid (HE25.out.trans e26)
  have sz26 := e26.size
  clear HE25
  go_wp2_with fail
  refine (implBadRectangle_any _ _ _ _ _ _ xs0 xs1 xs2 _ hl0 hr0 (O144.out.1.gridAt) hl1 hl2 (O145.out.1.ints.2) (O139.out.1.ints.2)).mono ?_
  rintro e w27 ⟨H0, H1, midH, rfl, mlH, mhH, o0, o1, e27⟩
  obtain ⟨HA0, Hc0, rfl, _⟩ := o0.1.slice
  have O146 := Lib.hid o0
  clear o0
  obtain ⟨HA1, Hc1, rfl, _⟩ := o1.1.slice
  have O147 := Lib.hid o1
  clear o1
  have O148 := Lib.hid (O140.out.seg (Seg.ext e27 (by omega)))
  clear O140
  have O149 := Lib.hid (O141.out.seg (Seg.ext e27 (by omega)))
  clear O141
  have O150 := Lib.hid (O142.out.seg (Seg.ext e27 (by omega)))
  clear O142
  have O151 := Lib.hid (O143.out.seg (Seg.ext e27 (by omega)))
  clear O143
  have O152 := Lib.hid (O144.out.seg (Seg.ext e27 (by omega)))
  clear O144
  have O153 := Lib.hid (O145.out.seg (Seg.ext e27 (by omega)))
  clear O145
  have O154 := Lib.hid (O139.out.seg (Seg.ext e27 (by omega)))
  clear O139
  have HE27 := Lib.hid (HE26.out.trans e27)
  have sz27 := e27.size
  clear HE26
  go_wp2_with fail
  refine (eqIntS_same _ _ _ _ _ _ HR0.out O146.out.1.ints.2 O148.out.1.ints.2).mono ?_
  rintro e w28 ⟨rfl, d28⟩
  have e28 := d28.ext
  clear d28
  have O155 := Lib.hid (O148.out.seg (Seg.ext e28 (by omega)))
  clear O148
  have O156 := Lib.hid (O149.out.seg (Seg.ext e28 (by omega)))
  clear O149
  have O157 := Lib.hid (O150.out.seg (Seg.ext e28 (by omega)))
  clear O150
  have O158 := Lib.hid (O151.out.seg (Seg.ext e28 (by omega)))
  clear O151
  have O159 := Lib.hid (O146.out.seg (Seg.ext e28 (by omega)))
  clear O146
  have O160 := Lib.hid (O147.out.seg (Seg.ext e28 (by omega)))
  clear O147
  have HE28 := Lib.hid (HE27.out.trans e28)
  have sz28 := e28.size
  clear HE27
  go_wp2_with fail
  refine (eqIntS_same _ _ _ _ _ _ HR1.out O160.out.1.ints.2 O156.out.1.ints.2).mono ?_
  rintro e w29 ⟨rfl, d29⟩
  have e29 := d29.ext
  clear d29
  have O161 := Lib.hid (O155.out.seg (Seg.ext e29 (by omega)))
  clear O155
  have O162 := Lib.hid (O156.out.seg (Seg.ext e29 (by omega)))
  clear O156
  have O163 := Lib.hid (O157.out.seg (Seg.ext e29 (by omega)))
  clear O157
  have O164 := Lib.hid (O158.out.seg (Seg.ext e29 (by omega)))
  clear O158
  have O165 := Lib.hid (O159.out.seg (Seg.ext e29 (by omega)))
  clear O159
  have O166 := Lib.hid (O160.out.seg (Seg.ext e29 (by omega)))
  clear O160
  have HE29 := Lib.hid (HE28.out.trans e29)
  have sz29 := e29.size
  clear HE28
  go_wp2_with fail
  refine (heldIntS_in 1 (by simp) (by omega) (by have := HR0.out; omega) O163.out).mono ?_
  rintro e w' ⟨K167, rfl, hK167, rfl⟩
  have bK167 : K167 ≤ 1100000000 := by have h1 := hK167.out; have h2 := HR0.out; omega
  obtain rfl : K167 = K126 := by rw [hK167.out, hK126.out]
  go_wp2_with fail
  refine (heldIntS_in K167 (by rfl) (by omega) (by have := HR1.out; omega) O164.out).mono ?_
  rintro e w' ⟨K168, rfl, hK168, rfl⟩
  have bK168 : K168 ≤ 2200000000 := by have h1 := hK168.out; have h2 := HR1.out; omega
  obtain rfl : K168 = K127 := by rw [hK168.out, hK127.out]
  go_wp2_with fail
  go_ret
  exact ⟨rfl, HE29.out⟩
end Go.Proofs.Ytmcnpdpplmbofaa
