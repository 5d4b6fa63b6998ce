/- The law of GridSums: its walk. -/
import Derived.Test.YtnnkondlefjkcaaLinesLaw
import Derived.Test.YtnnkondlefjkcaaMark4
import Derived.Test.YtnnkondlefjkcaaHelp2
namespace Go.Proofs.Ytnnkondlefjkcaa
open Go.RowKit Tomo

set_option maxRecDepth 100000 in
set_option maxHeartbeats 4000000 in
theorem law_GridSums (w : World) (A0 : Option Addr) (c0 : Nat) (xs0 : List (List Int)) (h630 : xs0.length ≤ 9223372036854775807) (hr630 : ∀ r ∈ xs0, r.length ≤ 9223372036854775807) (hx0 : GridAt w A0 xs0) (a1 b1 : Int) :
    Calls Try.prog 7 #[.slice A0 xs0.length c0, .agg #[.int .i64 a1, .int .i64 b1]] w fun e w' => e = .returned (.bool true) ∧ Ext w w' := by
  obtain ⟨W0, hW0⟩ : ∃ W0, w.alloc (.cells #[.int .i64 a1, .int .i64 b1] 29) = W0 := ⟨_, rfl⟩
  have HW0 := Lib.hid hW0
  have HWE : Hid (Ext w W0) := Lib.hid (by rw [← hW0]; exact (Ext.refl w).alloc _)
  have HBX : Hid (∀ W, Ext W0 W → W.cell? ⟨w.heap.size, 0, none⟩ = some (.int .i64 a1) ∧ W.cell? ⟨w.heap.size, 1, none⟩ = some (.int .i64 b1)) := Lib.hid fun W e => by
    have h1 : w.heap.size < W0.heap.size := by rw [← hW0]; simp
    exact ⟨(e.cell h1).trans (by rw [← hW0]; simp), (e.cell h1).trans (by rw [← hW0]; simp)⟩
  replace hx0 := hx0.ext HWE.out
  clear hW0
  by_cases hz0 : (1048576 : Int) < szGrid xs0
  case pos =>
    have cz0 : Calls Try.prog 15 #[.slice A0 xs0.length c0, .int .i64 1048576] W0 fun e w' => e = .returned (.int .i64 (-1)) ∧ W0 = w' := by
      have h := szIntSS_any A0 c0 xs0 1048576 W0 h630 hr630 (by omega) (by omega) hx0
      rw [show szOf (szGrid xs0) (1048576) = -1 from if_pos hz0] at h; exact h
    go_enter Try.func7, Try.ntmps7
    go_wp2_with fail
    rw [HW0.out]
    refine cz0.mono ?_
    rintro e w' ⟨rfl, rfl⟩
    go_wp2_with fail
    go_ret
    exact ⟨rfl, HWE.out⟩
  have cz0 : ∃ l0 : Int, 0 ≤ l0 ∧ l0 ≤ 1048576 ∧ Calls Try.prog 15 #[.slice A0 xs0.length c0, .int .i64 1048576] W0 fun e w' => e = .returned (.int .i64 l0) ∧ W0 = w' := by
    have h := szIntSS_any A0 c0 xs0 1048576 W0 h630 hr630 (by omega) (by omega) hx0
    rw [show szOf (szGrid xs0) (1048576) = 1048576 - (szGrid xs0 : Nat) from if_neg hz0] at h
    exact ⟨_, by omega, by omega, h⟩
  have hl0 : xs0.length ≤ 1048576 := by have := sz_len xs0; omega
  have hr0 : ∀ r ∈ xs0, r.length ≤ 1048576 := fun r hr => by have := sz_row xs0 r hr; omega
  have ht0 : Hid (total xs0 ≤ 1000000000) := Lib.hid (by have := sz_total xs0; omega)
  obtain ⟨l0, hl0a, hl0b, cz0⟩ := cz0
  clear hz0
  have HR0 := Lib.hid (gsI_bound xs0 a1 b1)
  have HE0 : Hid (Ext W0 W0) := Lib.hid (Ext.refl W0)
  go_enter Try.func7, Try.ntmps7
  go_wp2_with fail
  rw [HW0.out]
  refine cz0.mono ?_
  rintro e w' ⟨rfl, rfl⟩
  obtain ⟨bx1, bx2⟩ := HBX.out W0 HE0.out
  go_upto_region 5 with fail
  go_cut [6] (fun s wx => ∃ A c, s = .slice A (gsI xs0 a1 b1).length c ∧ Hid (Ext W0 wx) ∧ Hid (OwnIn wx W0.heap.size wx.heap.size (.slice A (gsI xs0 a1 b1).length c) (gsI xs0 a1 b1)))
  case first =>
    first | go_region_with (first | (go_at_call 17; refine (toIntSS_any _ _ xs0 _ hl0 hr0 ?_).mono ?_; refine hx0.ext (HE0.out.trans ?_); (repeat (first | exact Ext.refl _ | apply Ext.drew | apply Ext.alloc)); rintro e wA ⟨rfl, hA⟩; have eA : Ext W0 wA := Ext.trans (by (repeat (first | exact Ext.refl _ | apply Ext.drew | apply Ext.alloc))) hA.ext; have bxA := HBX.out wA (HE0.out.trans eA); obtain ⟨bx3, bx4⟩ := bxA) | (go_at_call 27; refine (toDirection_x _ _ _).mono ?_; rintro e w' ⟨rfl, rfl⟩) | (go_at_call 26; refine (specGridSums_any _ _ xs0 a1 b1 _ hl0 hr0 (?_)).mono ?_; refine hA.at_.ext ?_; (repeat (first | exact Ext.refl _ | apply Ext.drew | apply Ext.alloc)); rintro e wB ⟨v, rfl, hB⟩)) | fail
    all_goals
      go_wp2_with fail
      go_meet
      have hB1 := hB.1
      have hB2 := hB.2
      obtain ⟨VA, Vc, rfl, _⟩ := hB1.slice
      have eB : Ext wA wB := Ext.trans (by (repeat (first | exact Ext.refl _ | apply Ext.drew | apply Ext.alloc))) hB2
      exact ⟨VA, Vc, rfl, Lib.hid (eA.trans eB), Lib.hid (Own.in_ (hB1.base (Nat.le_trans eA.size (Ext.size (by (repeat (first | exact Ext.refl _ | apply Ext.drew | apply Ext.alloc)))))))⟩
  case rest =>
    rename World => w1
    obtain ⟨WA0, Wc0, rfl, hE, hO⟩ := hcut
    have O1 := hO
    clear hO bx1 bx2
    have e1 := hE.out
    clear hE
    have HE1 := Lib.hid (HE0.out.trans e1)
    have sz1 := e1.size
    clear HE0
    go_wp2_with fail
    refine (toIntSS_any _ _ xs0 _ hl0 hr0 (hx0.ext HE1.out)).mono ?_
    rintro e w2 ⟨rfl, h2⟩
    have O2 := Lib.hid (toIntSS_in h2 hl0 hr0)
    have e2 := h2.ext
    clear h2
    have O3 := Lib.hid (O1.out.seg (Seg.ext e2 (by omega)))
    clear O1
    have HE2 := Lib.hid (HE1.out.trans e2)
    have sz2 := e2.size
    clear HE1
    obtain ⟨bx1, bx2⟩ := HBX.out w2 HE2.out
    go_wp2_with (go_at_call 27; refine (toDirection_x _ _ _).mono ?_; rintro e w' ⟨rfl, rfl⟩)
    refine (implGridSums_any _ _ xs0 a1 b1 _ hl0 hr0 (O2.out.1.gridAt.ext ((((Ext.refl _).alloc _).alloc _).alloc _))).mono ?_
    rintro e w3 ⟨G0, rfl, o0, e3⟩
    replace e3 := Ext.trans ((((Ext.refl _).alloc _).alloc _).alloc _) e3.1
    obtain ⟨GA0, Gc0, rfl, _⟩ := o0.slice
    have O4 := Lib.hid (Own.in_ (o0.base (Ext.size ((((Ext.refl w2).alloc _).alloc _).alloc _))))
    clear o0 bx1 bx2
    have O5 := Lib.hid (O3.out.seg (Seg.ext e3 (by omega)))
    clear O3
    have O6 := Lib.hid (O2.out.seg (Seg.ext e3 (by omega)))
    clear O2
    have HE3 := Lib.hid (HE2.out.trans e3)
    have sz3 := e3.size
    clear HE2
    go_wp2_with fail
    refine (eqIntS_same _ _ _ _ _ _ HR0.out O4.out.1.ints.2 O5.out.1.ints.2).mono ?_
    rintro e w4 ⟨rfl, d4⟩
    have e4 := d4.ext
    clear d4
    have O7 := Lib.hid (O5.out.seg (Seg.ext e4 (by omega)))
    clear O5
    have O8 := Lib.hid (O6.out.seg (Seg.ext e4 (by omega)))
    clear O6
    have O9 := Lib.hid (O4.out.seg (Seg.ext e4 (by omega)))
    clear O4
    have HE4 := Lib.hid (HE3.out.trans e4)
    have sz4 := e4.size
    clear HE3
    go_wp2_with fail
    refine (toIntSS_any _ _ xs0 _ hl0 hr0 (hx0.ext HE4.out)).mono ?_
    rintro e w5 ⟨rfl, h5⟩
    have O10 := Lib.hid (toIntSS_in h5 hl0 hr0)
    have e5 := h5.ext
    clear h5
    have O11 := Lib.hid (O7.out.seg (Seg.ext e5 (by omega)))
    clear O7
    have O12 := Lib.hid (O8.out.seg (Seg.ext e5 (by omega)))
    clear O8
    have O13 := Lib.hid (O9.out.seg (Seg.ext e5 (by omega)))
    clear O9
    have HE5 := Lib.hid (HE4.out.trans e5)
    have sz5 := e5.size
    clear HE4
    go_wp2_with fail
    refine (eqIntSS_same _ _ _ _ xs0 _ hl0 hr0 O12.out.1.gridAt O10.out.1.gridAt).mono ?_
    rintro e w6 ⟨rfl, d6⟩
    have e6 := d6.ext
    clear d6
    have O14 := Lib.hid (O11.out.seg (Seg.ext e6 (by omega)))
    clear O11
    have O15 := Lib.hid (O12.out.seg (Seg.ext e6 (by omega)))
    clear O12
    have O16 := Lib.hid (O13.out.seg (Seg.ext e6 (by omega)))
    clear O13
    have HE6 := Lib.hid (HE5.out.trans e6)
    have sz6 := e6.size
    clear HE5
    go_wp2_with fail
    refine (markIntSS_in 1 (by simp) (by omega) (by omega) ht0.out O15.out).mono ?_
    rintro e w7 ⟨K17, rfl, hK17, _, on7⟩
    have bK17 : K17 ≤ 1100000000 := by have h1 := hK17.out; have h2 := ht0.out; omega
    clear hK17
    have O18 := Lib.hid (O14.out.seg (Seg.onlyIn on7 (by omega)))
    clear O14
    have O19 := Lib.hid (O16.out.seg (Seg.onlyIn on7 (by omega)))
    clear O16
    have HE7 := Lib.hid (Ext.onlyIn HE6.out on7 (by omega))
    have sz7 : w6.heap.size ≤ w7.heap.size := by rw [on7.size]; exact Nat.le_refl _
    clear HE6
    go_wp2_with fail
    refine (eqIntS_same _ _ _ _ _ _ HR0.out O19.out.1.ints.2 O18.out.1.ints.2).mono ?_
    rintro e w8 ⟨rfl, d8⟩
    have e8 := d8.ext
    clear d8
    have O20 := Lib.hid (O18.out.seg (Seg.ext e8 (by omega)))
    clear O18
    have O21 := Lib.hid (O19.out.seg (Seg.ext e8 (by omega)))
    clear O19
    have HE8 := Lib.hid (HE7.out.trans e8)
    have sz8 := e8.size
    clear HE7
    go_wp2_with fail
    refine (markIntS_in 1 (by simp) (by omega) (by have := HR0.out; omega) O21.out).mono ?_
    rintro e w9 ⟨K22, rfl, hK22, o23, on9⟩
    have O23 := Lib.hid o23
    clear o23 O21
    have O24 := Lib.hid (O20.out.seg (Seg.onlyIn on9 (by omega)))
    clear O20
    have HE9 := Lib.hid (Ext.onlyIn HE8.out on9 (by omega))
    have sz9 : w8.heap.size ≤ w9.heap.size := by rw [on9.size]; exact Nat.le_refl _
    clear HE8
    have bK22 : K22 ≤ 1100000000 := by have h1 := hK22.out; have h2 := HR0.out; omega
    go_wp2_with fail
    refine (heldIntS_in 1 (by simp) (by omega) (by have := HR0.out; omega) O23.out).mono ?_
    rintro e w' ⟨K25, rfl, hK25, rfl⟩
    have bK25 : K25 ≤ 1100000000 := by have h1 := hK25.out; have h2 := HR0.out; omega
    obtain rfl : K25 = K22 := by rw [hK25.out, hK22.out]
    obtain ⟨bx1, bx2⟩ := HBX.out w9 HE9.out
    go_upto_region 24 with fail
    go_cut [12] (fun s wx => ∃ A c, s = .slice A (gsI xs0 a1 b1).length c ∧ Hid (Ext w9 wx) ∧ Hid (OwnIn wx w9.heap.size wx.heap.size (.slice A (gsI xs0 a1 b1).length c) (gsI xs0 a1 b1)))
    case first =>
      first | go_region_with (first | (go_at_call 17; refine (toIntSS_any _ _ xs0 _ hl0 hr0 ?_).mono ?_; refine hx0.ext (HE9.out.trans ?_); (repeat (first | exact Ext.refl _ | apply Ext.drew | apply Ext.alloc)); rintro e wA ⟨rfl, hA⟩; have eA : Ext w9 wA := Ext.trans (by (repeat (first | exact Ext.refl _ | apply Ext.drew | apply Ext.alloc))) hA.ext; have bxA := HBX.out wA (HE9.out.trans eA); obtain ⟨bx3, bx4⟩ := bxA) | (go_at_call 27; refine (toDirection_x _ _ _).mono ?_; rintro e w' ⟨rfl, rfl⟩) | (go_at_call 28; refine (implGridSums_any _ _ xs0 a1 b1 _ hl0 hr0 (?_)).mono ?_; refine hA.at_.ext ?_; (repeat (first | exact Ext.refl _ | apply Ext.drew | apply Ext.alloc)); rintro e wB ⟨v, rfl, hB⟩)) | fail
      all_goals
        go_wp2_with fail
        go_meet
        have hB1 := hB.1
        have hB2 := hB.2.1
        obtain ⟨VA, Vc, rfl, _⟩ := hB1.slice
        have eB : Ext wA wB := Ext.trans (by (repeat (first | exact Ext.refl _ | apply Ext.drew | apply Ext.alloc))) hB2
        exact ⟨VA, Vc, rfl, Lib.hid (eA.trans eB), Lib.hid (Own.in_ (hB1.base (Nat.le_trans eA.size (Ext.size (by (repeat (first | exact Ext.refl _ | apply Ext.drew | apply Ext.alloc)))))))⟩
    case rest =>
      rename World => w10
      obtain ⟨HA0, Hc0, rfl, hE, hO⟩ := hcut
      have O26 := hO
      clear hO bx1 bx2
      have e10 := hE.out
      clear hE
      have O27 := Lib.hid (O24.out.seg (Seg.ext e10 (by omega)))
      clear O24
      have O28 := Lib.hid (O23.out.seg (Seg.ext e10 (by omega)))
      clear O23
      have HE10 := Lib.hid (HE9.out.trans e10)
      have sz10 := e10.size
      clear HE9
      go_wp2_with fail
      refine (eqIntS_same _ _ _ _ _ _ HR0.out O26.out.1.ints.2 O27.out.1.ints.2).mono ?_
      rintro e w11 ⟨rfl, d11⟩
      have e11 := d11.ext
      clear d11
      have O29 := Lib.hid (O27.out.seg (Seg.ext e11 (by omega)))
      clear O27
      have O30 := Lib.hid (O28.out.seg (Seg.ext e11 (by omega)))
      clear O28
      have O31 := Lib.hid (O26.out.seg (Seg.ext e11 (by omega)))
      clear O26
      have HE11 := Lib.hid (HE10.out.trans e11)
      have sz11 := e11.size
      clear HE10
      go_wp2_with fail
      refine (heldIntS_in 1 (by simp) (by omega) (by have := HR0.out; omega) O30.out).mono ?_
      rintro e w' ⟨K32, rfl, hK32, rfl⟩
      have bK32 : K32 ≤ 1100000000 := by have h1 := hK32.out; have h2 := HR0.out; omega
      obtain rfl : K32 = K25 := by rw [hK32.out, hK25.out]
      go_wp2_with fail
      go_ret
      exact ⟨rfl, HWE.out.trans HE11.out⟩
end Go.Proofs.Ytnnkondlefjkcaa
