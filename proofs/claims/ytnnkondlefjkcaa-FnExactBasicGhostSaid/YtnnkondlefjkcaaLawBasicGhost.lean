/- The law of BasicGhost: its walk. -/
import Derived.Test.YtnnkondlefjkcaaBasicLaw
import Derived.Test.YtnnkondlefjkcaaDirsMark
import Derived.Test.YtnnkondlefjkcaaDirs7
import Derived.Test.YtnnkondlefjkcaaHelp2
namespace Go.Proofs.Ytnnkondlefjkcaa
open Go.RowKit Tomo

set_option maxRecDepth 100000 in
set_option maxHeartbeats 4000000 in
theorem law_BasicGhost (w : World) (A0 : Option Addr) (c0 : Nat) (xs0 : List (Int × Int)) (h630 : xs0.length ≤ 9223372036854775807) (hx0 : LDirs w A0 xs0) :
    Calls Try.prog 9 #[.slice A0 xs0.length c0] w fun e w' => e = .returned (.bool true) ∧ Ext w w' := by
  by_cases hz0 : (1048576 : Int) < xs0.length
  case pos =>
    have cz0 : Calls Try.prog 35 #[.slice A0 xs0.length c0, .int .i64 1048576] w fun e w' => e = .returned (.int .i64 (-1)) ∧ w = w' := by
      have h := szDirectionS_any A0 c0 xs0.length 1048576 w h630 (by omega) (by omega)
      rw [show szOf (xs0.length) (1048576) = -1 from if_pos hz0] at h; exact h
    go_enter Try.func9, Try.ntmps9
    go_wp2_with fail
    refine cz0.mono ?_
    rintro e w' ⟨rfl, rfl⟩
    go_wp2_with fail
    go_ret
    exact ⟨rfl, Ext.refl _⟩
  have cz0 : ∃ l0 : Int, 0 ≤ l0 ∧ l0 ≤ 1048576 ∧ Calls Try.prog 35 #[.slice A0 xs0.length c0, .int .i64 1048576] w fun e w' => e = .returned (.int .i64 l0) ∧ w = w' := by
    have h := szDirectionS_any A0 c0 xs0.length 1048576 w h630 (by omega) (by omega)
    rw [show szOf (xs0.length) (1048576) = 1048576 - (xs0.length : Nat) from if_neg hz0] at h
    exact ⟨_, by omega, by omega, h⟩
  have hl0 : xs0.length ≤ 1048576 := by omega
  obtain ⟨l0, hl0a, hl0b, cz0⟩ := cz0
  clear hz0
  have HR0 := Lib.hid (bgRes_bound xs0)
  have HE0 : Hid (Ext w w) := Lib.hid (Ext.refl w)
  go_enter Try.func9, Try.ntmps9
  go_wp2_with fail
  refine cz0.mono ?_
  rintro e w' ⟨rfl, rfl⟩
  go_wp2_with fail
  refine (toDirectionS_any _ _ xs0 _ hl0 (hx0.ext HE0.out)).mono ?_
  rintro e w1 ⟨rfl, h1⟩
  have O1 := Lib.hid (toDirectionS_in h1)
  have e1 := h1.ext
  clear h1
  have HE1 := Lib.hid (HE0.out.trans e1)
  have sz1 := e1.size
  clear HE0
  go_wp2_with fail
  refine (specBasicGhost_any _ _ xs0 _ hl0 (Nat.le_refl _) O1.out.dirs).mono ?_
  rintro e w2 ⟨W0, rfl, o0, e2⟩
  obtain ⟨WA0, Wc0, rfl, _⟩ := o0.slice
  have O2 := Lib.hid o0.in_
  clear o0
  have O3 := Lib.hid (O1.out.seg (Seg.ext e2 (by omega)))
  clear O1
  have HE2 := Lib.hid (HE1.out.trans e2)
  have sz2 := e2.size
  clear HE1
  go_wp2_with fail
  refine (toDirectionS_any _ _ xs0 _ hl0 (hx0.ext HE2.out)).mono ?_
  rintro e w3 ⟨rfl, h3⟩
  have O4 := Lib.hid (toDirectionS_in h3)
  have e3 := h3.ext
  clear h3
  have O5 := Lib.hid (O2.out.seg (Seg.ext e3 (by omega)))
  clear O2
  have HE3 := Lib.hid (HE2.out.trans e3)
  have sz3 := e3.size
  clear HE2
  go_wp2_with fail
  refine (implBasicGhost_any _ _ xs0 _ hl0 (Nat.le_refl _) O4.out.dirs).mono ?_
  rintro e w4 ⟨G0, rfl, o0, e4⟩
  obtain ⟨GA0, Gc0, rfl, _⟩ := o0.slice
  have O6 := Lib.hid o0.in_
  clear o0
  have O7 := Lib.hid (O5.out.seg (Seg.ext e4 (by omega)))
  clear O5
  have O8 := Lib.hid (O4.out.seg (Seg.ext e4 (by omega)))
  clear O4
  have HE4 := Lib.hid (HE3.out.trans e4)
  have sz4 := e4.size
  clear HE3
  go_wp2_with fail
  refine (eqIntSS_same _ _ _ _ _ _ HR0.out.1 HR0.out.2.1 O6.out.1.gridAt O7.out.1.gridAt).mono ?_
  rintro e w5 ⟨rfl, d5⟩
  have e5 := d5.ext
  clear d5
  have O9 := Lib.hid (O7.out.seg (Seg.ext e5 (by omega)))
  clear O7
  have O10 := Lib.hid (O8.out.seg (Seg.ext e5 (by omega)))
  clear O8
  have O11 := Lib.hid (O6.out.seg (Seg.ext e5 (by omega)))
  clear O6
  have HE5 := Lib.hid (HE4.out.trans e5)
  have sz5 := e5.size
  clear HE4
  go_wp2_with fail
  refine (toDirectionS_any _ _ xs0 _ hl0 (hx0.ext HE5.out)).mono ?_
  rintro e w6 ⟨rfl, h6⟩
  have O12 := Lib.hid (toDirectionS_in h6)
  have e6 := h6.ext
  clear h6
  have O13 := Lib.hid (O9.out.seg (Seg.ext e6 (by omega)))
  clear O9
  have O14 := Lib.hid (O10.out.seg (Seg.ext e6 (by omega)))
  clear O10
  have O15 := Lib.hid (O11.out.seg (Seg.ext e6 (by omega)))
  clear O11
  have HE6 := Lib.hid (HE5.out.trans e6)
  have sz6 := e6.size
  clear HE5
  go_wp2_with fail
  refine (eqDirectionS_same _ _ _ _ xs0 _ hl0 O14.out.dirs O12.out.dirs).mono ?_
  rintro e w7 ⟨rfl, d7⟩
  have e7 := d7
  clear d7
  have O16 := Lib.hid (O13.out.seg (Seg.ext e7 (by omega)))
  clear O13
  have O17 := Lib.hid (O14.out.seg (Seg.ext e7 (by omega)))
  clear O14
  have O18 := Lib.hid (O15.out.seg (Seg.ext e7 (by omega)))
  clear O15
  have HE7 := Lib.hid (HE6.out.trans e7)
  have sz7 := e7.size
  clear HE6
  go_wp2_with fail
  refine (markDirectionS_in 1 (by simp) (by omega) hl0 O17.out).mono ?_
  rintro e w8 ⟨K19, rfl, hK19, _, on8⟩
  have bK19 : K19 ≤ 1100000000 := by have h1 := hK19.out; omega
  clear hK19
  have O20 := Lib.hid (O16.out.seg (Seg.onlyIn on8 (by omega)))
  clear O16
  have O21 := Lib.hid (O18.out.seg (Seg.onlyIn on8 (by omega)))
  clear O18
  have HE8 := Lib.hid (Ext.onlyIn HE7.out on8 (by omega))
  have sz8 : w7.heap.size ≤ w8.heap.size := by rw [on8.size]; exact Nat.le_refl _
  clear HE7
  go_wp2_with fail
  refine (eqIntSS_same _ _ _ _ _ _ HR0.out.1 HR0.out.2.1 O21.out.1.gridAt O20.out.1.gridAt).mono ?_
  rintro e w9 ⟨rfl, d9⟩
  have e9 := d9.ext
  clear d9
  have O22 := Lib.hid (O20.out.seg (Seg.ext e9 (by omega)))
  clear O20
  have O23 := Lib.hid (O21.out.seg (Seg.ext e9 (by omega)))
  clear O21
  have HE9 := Lib.hid (HE8.out.trans e9)
  have sz9 := e9.size
  clear HE8
  go_wp2_with fail
  refine (markIntSS_in 1 (by simp) (by omega) (by have := HR0.out.1; omega) HR0.out.2.2 O23.out).mono ?_
  rintro e w10 ⟨K24, rfl, hK24, o25, on10⟩
  have O25 := Lib.hid o25
  clear o25 O23
  have O26 := Lib.hid (O22.out.seg (Seg.onlyIn on10 (by omega)))
  clear O22
  have HE10 := Lib.hid (Ext.onlyIn HE9.out on10 (by omega))
  have sz10 : w9.heap.size ≤ w10.heap.size := by rw [on10.size]; exact Nat.le_refl _
  clear HE9
  have bK24 : K24 ≤ 1100000000 := by have h1 := hK24.out; have h2 := HR0.out.2.2; omega
  go_wp2_with fail
  refine (heldIntSS_in 1 (by simp) (by omega) (by have := HR0.out.1; omega) HR0.out.2.2 O25.out).mono ?_
  rintro e w' ⟨K27, rfl, hK27, rfl⟩
  have bK27 : K27 ≤ 1100000000 := by have h1 := hK27.out; have h2 := HR0.out.2.2; omega
  obtain rfl : K27 = K24 := by rw [hK27.out, hK24.out]
  go_wp2_with fail
  refine (toDirectionS_any _ _ xs0 _ hl0 (hx0.ext HE10.out)).mono ?_
  rintro e w11 ⟨rfl, h11⟩
  have O28 := Lib.hid (toDirectionS_in h11)
  have e11 := h11.ext
  clear h11
  have O29 := Lib.hid (O26.out.seg (Seg.ext e11 (by omega)))
  clear O26
  have O30 := Lib.hid (O25.out.seg (Seg.ext e11 (by omega)))
  clear O25
  have HE11 := Lib.hid (HE10.out.trans e11)
  have sz11 := e11.size
  clear HE10
  go_wp2_with fail
  refine (implBasicGhost_any _ _ xs0 _ hl0 (Nat.le_refl _) O28.out.dirs).mono ?_
  rintro e w12 ⟨H0, rfl, o0, e12⟩
  obtain ⟨HA0, Hc0, rfl, _⟩ := o0.slice
  have O31 := Lib.hid o0.in_
  clear o0
  have O32 := Lib.hid (O29.out.seg (Seg.ext e12 (by omega)))
  clear O29
  have O33 := Lib.hid (O30.out.seg (Seg.ext e12 (by omega)))
  clear O30
  have O34 := Lib.hid (O28.out.seg (Seg.ext e12 (by omega)))
  clear O28
  have HE12 := Lib.hid (HE11.out.trans e12)
  have sz12 := e12.size
  clear HE11
  go_wp2_with fail
  refine (eqIntSS_same _ _ _ _ _ _ HR0.out.1 HR0.out.2.1 O31.out.1.gridAt O32.out.1.gridAt).mono ?_
  rintro e w13 ⟨rfl, d13⟩
  have e13 := d13.ext
  clear d13
  have O35 := Lib.hid (O32.out.seg (Seg.ext e13 (by omega)))
  clear O32
  have O36 := Lib.hid (O33.out.seg (Seg.ext e13 (by omega)))
  clear O33
  have O37 := Lib.hid (O31.out.seg (Seg.ext e13 (by omega)))
  clear O31
  have HE13 := Lib.hid (HE12.out.trans e13)
  have sz13 := e13.size
  clear HE12
  go_wp2_with fail
  refine (heldIntSS_in 1 (by simp) (by omega) (by have := HR0.out.1; omega) HR0.out.2.2 O36.out).mono ?_
  rintro e w' ⟨K38, rfl, hK38, rfl⟩
  have bK38 : K38 ≤ 1100000000 := by have h1 := hK38.out; have h2 := HR0.out.2.2; omega
  obtain rfl : K38 = K27 := by rw [hK38.out, hK27.out]
  go_wp2_with fail
  go_ret
  exact ⟨rfl, HE13.out⟩
end Go.Proofs.Ytnnkondlefjkcaa
