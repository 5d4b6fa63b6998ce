/- NearestImage, in the reference and in the program. -/
import Derived.Test.YtiekgdgonleoaaaNear
namespace Go.Proofs.Ytiekgdgonleoaaa
open Go.RowKit Tomo

noncomputable def nearOk (prior : Grid) (rows cols : List Int) : Bool := exI rows cols && sameSz prior rows.length cols.length
noncomputable def nearB (prior : Grid) (gs : List Grid) : Grid := bestI (fun m => - dist m prior) gs
noncomputable def nearI (prior : Grid) (rows cols : List Int) : Grid := if nearOk prior rows cols = true then nearB prior (allI rows cols) else []
noncomputable def nearD (prior : Grid) (rows cols : List Int) : Int := if nearOk prior rows cols = true then dist (nearB prior (allI rows cols)) prior else 0
theorem nearI_bound (prior : Grid) (rows cols : List Int) : GBound (nearI prior rows cols) := by
  unfold nearI
  split
  · exact bestI_bound _ _ _
  · exact nil_bound
theorem near_off {prior : Grid} {rows cols : List Int} (h : nearOk prior rows cols = false) : nearI prior rows cols = [] ∧ nearD prior rows cols = 0 := by
  unfold nearI nearD; rw [h]; simp
theorem near_on {prior : Grid} {rows cols : List Int} (h : nearOk prior rows cols = true) : nearI prior rows cols = nearB prior (allI rows cols) ∧ nearD prior rows cols = dist (nearB prior (allI rows cols)) prior := by
  unfold nearI nearD; rw [h]; simp
theorem dist_nonneg {a b : Grid} {n k : Nat} (h : Img a n k) : 0 ≤ dist a b := by rw [dist_img h]; omega
theorem nearB_zero {prior : Grid} {gs : List Grid} {g : Grid} (h : gs[0]? = some g) : nearB prior (gs.take 1) = g := bestI_zero h
theorem nearB_take {prior : Grid} {gs : List Grid} {j : Nat} {g : Grid} (h : gs[j]? = some g) (hj : 0 < j) : nearB prior (gs.take (j + 1)) = if dist g prior < dist (nearB prior (gs.take j)) prior then g else nearB prior (gs.take j) := by
  have h1 := bestI_take (f := fun m => - dist m prior) h hj
  unfold nearB
  rw [h1]
  by_cases hd : dist g prior < dist (bestI (fun m => - dist m prior) (gs.take j)) prior
  · rw [if_pos hd, if_pos (by omega)]
  · rw [if_neg hd, if_neg (by omega)]



set_option maxHeartbeats 4000000 in
theorem implNearestImage_any (A B A2 : Option Addr) (ca cb c2 : Nat) (rows cols : List Int) (prior : Grid) (w : World) (hl : rows.length ≤ 1048576) (hl2 : cols.length ≤ 1048576) (hl3 : prior.length ≤ 1048576) (hr3 : ∀ r ∈ prior, r.length ≤ 1048576) (hx : Ints w A rows) (hy : Ints w B cols) (hz : GridAt w A2 prior) :
    Calls Try.prog 7 #[.slice A rows.length ca, .slice B cols.length cb, .slice A2 prior.length c2] w fun e w' => ∃ v, e = .returned (.tuple #[v, .int .i64 (nearD prior rows cols), .bool (nearOk prior rows cols)]) ∧ OwnGrid w' w.heap.size v (nearI prior rows cols) ∧ Ext w w' := by
  have cl := implAllImages_any A B ca cb rows cols w hl hl2 hx hy
  have hlen := allI_len rows cols
  obtain ⟨so, hso⟩ : ∃ so, sumsOk rows cols = so := ⟨_, rfl⟩
  rw [hso] at cl
  cases hgs : allI rows cols with
  | nil =>
    have hex : exI rows cols = false := by
      cases e : exI rows cols
      · rfl
      · exact absurd hgs (allI_some e).2
    have hk : nearOk prior rows cols = false := by unfold nearOk; rw [hex]; rfl
    obtain ⟨q1, q2⟩ := near_off hk
    rw [hk, q2]
    have HP := Lib.hid q1
    simp only [hgs] at cl
    clear hx hy hz hk q1 q2 hgs hex hso hlen
    go_enter Try.func7, Try.ntmps7
    go_wp2_with fail
    refine cl.mono ?_
    rintro e w2 ⟨v, rfl, ho, he⟩
    obtain ⟨Ag, cg, rfl, _⟩ := ho.slice
    have HE2 := Lib.hid he
    clear ho he cl
    go_wp2
    go_ret3
    exact ⟨_, rfl, by rw [HP.out]; exact OwnGrid.nil _ _, HE2.out⟩
  | cons g0 gs0 =>
  have hex : exI rows cols = true := exI_of (by rw [hgs]; simp)
  have HIMG : Hid (∀ m, m ∈ g0 :: gs0 → Img m rows.length cols.length) := Lib.hid fun m hm => allI_img (by rw [hgs]; exact hm)
  obtain ⟨gs, hgs2⟩ : ∃ gs, g0 :: gs0 = gs := ⟨_, rfl⟩
  have HG0 : Hid (gs[0]? = some g0) := Lib.hid (by rw [← hgs2]; rfl)
  rw [hgs2] at hgs HIMG
  have hne : 0 < gs.length := by rw [← hgs2]; simp
  simp only [hgs] at cl
  rw [hgs] at hlen
  obtain ⟨N, hN⟩ : ∃ N, gs.length = N := ⟨_, rfl⟩
  rw [hN] at hne hlen
  have HN := Lib.hid hN
  clear hN
  have HSZ := Lib.hid (fun (W : World) (e : Ext w W) (g : Grid) (Ag : Option Addr) (cg : Nat) (hi : Img g rows.length cols.length) (hga : GridAt W Ag g) => sameSize_any Ag A2 cg c2 g prior rows.length cols.length W hi hl3 hr3 hga (hz.ext e))
  have hdef : nearOk prior rows cols = sameSz prior rows.length cols.length := by unfold nearOk; rw [hex]; rfl
  cases hk : sameSz prior rows.length cols.length
  · rw [hk] at hdef HSZ
    obtain ⟨q1, q2⟩ := near_off hdef
    rw [hdef, q2]
    have HP := Lib.hid q1
    obtain ⟨n, hn⟩ : ∃ n, rows.length = n := ⟨_, rfl⟩
    rw [hn] at HIMG HSZ
    clear hx hy hz hk q1 q2 hgs hex hso hgs2 hdef hn
    go_enter Try.func7, Try.ntmps7
    go_wp2_with fail
    refine cl.mono ?_
    rintro e w2 ⟨v, rfl, ho, he⟩
    obtain ⟨us, hu⟩ := ho.u
    obtain ⟨Ag, cg, rfl, _⟩ := ho.slice
    rw [HN.out] at hu ⊢
    obtain ⟨b0, u0', g0', Au0, cu0, hA0, hb0, _, hg0', hcell0, _, hog0⟩ := hu.elt (k := 0) (by rw [HN.out]; exact hne)
    subst hA0
    have himg0 := HIMG.out g0' (List.mem_of_getElem? hg0'.out)
    rw [himg0.1.1] at hcell0
    have cw := HSZ.out w2 he g0' Au0 cu0 himg0 hog0.gridAt
    have HE2 := Lib.hid he
    clear ho he cl hu hog0 hg0' himg0 HSZ
    go_wp2_with fail
    refine cw.mono ?_
    rintro e w3 ⟨rfl, hd⟩
    have HE3 := Lib.hid (HE2.out.trans hd.ext)
    clear hd
    go_wp2
    go_ret3
    exact ⟨_, rfl, by rw [HP.out]; exact OwnGrid.nil _ _, HE3.out⟩
  rw [hk] at hdef HSZ
  obtain ⟨q1, q2⟩ := near_on hdef
  rw [hgs] at q1 q2
  rw [hdef, q2]
  have HP := Lib.hid q1
  have hpi := sameSz_iff hk
  have HCW := Lib.hid (fun (W : World) (e : Ext w W) (g : Grid) (Ag : Option Addr) (cg : Nat) (hw : Img g rows.length cols.length) (hg : GridAt W Ag g) => implDistanceOf_any Ag A2 cg c2 g prior rows.length cols.length W hw hpi hg (hz.ext e))
  have HPL := hpi.1.1
  obtain ⟨n, hn⟩ : ∃ n, rows.length = n := ⟨_, rfl⟩
  obtain ⟨k, hkk⟩ : ∃ k, cols.length = k := ⟨_, rfl⟩
  rw [hn] at HPL
  rw [HPL] at HSZ ⊢
  rw [hn, hkk] at HIMG HCW HSZ cl ⊢
  clear hx hy hz hk q1 q2 hgs hex hso hgs2 hdef hpi HPL hn hkk
  have hnz : ((N : Int) == 0) = false := by simp; omega
  go_enter Try.func7, Try.ntmps7
  go_wp2_with fail
  refine cl.mono ?_
  rintro e w2 ⟨v, rfl, ho, he⟩
  obtain ⟨us, hu⟩ := ho.u
  obtain ⟨Ag, cg, rfl, _⟩ := ho.slice
  rw [HN.out] at hu ⊢
  have HE2 := Lib.hid he
  have HU := Lib.hid hu
  obtain ⟨b0, u0', g0', Au0, cu0, hA0, hb0, _, hg0', hcell0, _, hog0⟩ := hu.elt (k := 0) (by rw [HN.out]; exact hne)
  subst hA0
  obtain rfl : g0' = g0 := by have h := hg0'.out; rw [HG0.out] at h; exact (Option.some.inj h).symm
  have himg0 := HIMG.out g0' (List.mem_of_getElem? HG0.out)
  have cw := HSZ.out w2 he g0' Au0 cu0 himg0 hog0.gridAt
  have hog1 := hog0
  rw [himg0.1.1] at hcell0 hog1
  have HOG0 := Lib.hid hog1
  clear ho he cl hu hog0 hog1 hg0' himg0 HSZ
  go_wp2_with fail
  refine cw.mono ?_
  rintro e w3 ⟨rfl, hd⟩
  have HE3 := Lib.hid hd.ext
  have hcell1 : w3.cell? ⟨b0, 0, none⟩ = some (.slice Au0 n cu0) := (hd.ext.cell (p := ⟨b0, 0, none⟩) hb0).trans hcell0
  clear hd hcell0
  go_wp2_with fail
  go_loopw [36, 11, 13] (fun i best _ wr => ∃ (j : Nat) (gb : Grid) (Ab : Option Addr) (cb2 : Nat), j ≤ N ∧ i = .int .i64 j ∧ best = .slice Ab n cb2 ∧ Hid (Ext w2 wr) ∧ Hid (OwnGrid w2 w.heap.size (.slice Ab n cb2) gb) ∧ Hid (Img gb n k) ∧ Hid (gb = nearB prior (gs.take (if j = 0 then 1 else j)))) (fun i _ _ _ => N - (intOf i).toNat)
  case atStart => exact ⟨0, g0', Au0, cu0, Nat.zero_le _, rfl, rfl, HE3, HOG0, Lib.hid (HIMG.out g0' (List.mem_of_getElem? HG0.out)), Lib.hid (by rw [if_pos rfl]; exact (nearB_zero HG0.out).symm)⟩
  case round =>
    obtain ⟨j, gb, Ab, cb2, hj, rfl, rfl, hE, hob, hib, hgb⟩ := hrel
    by_cases hlt : j < N
    · obtain ⟨b, u, g, Au, cu, hA, hb, _, hg, hcell, _, hog⟩ := HU.out.elt (by rw [HN.out]; exact hlt)
      cases hA
      have himg := HIMG.out g (List.mem_of_getElem? hg.out)
      have cc := HCW.out wr (HE2.out.trans hE.out) g Au cu himg (hog.ext hE.out).gridAt
      have H2 : Hid (∀ W, Ext w2 W → Calls Try.prog 11 #[.slice Ab n cb2, .slice A2 n c2] W fun e w' => e = .returned (.int .i64 (dist gb prior)) ∧ Drew W w') := Lib.hid (fun W e => HCW.out W (HE2.out.trans e) gb Ab cb2 hib.out (hob.out.ext e).gridAt)
      have hcell2 : wr.cell? ⟨b0, j, none⟩ = some (.slice Au n cu) := by rw [← himg.1.1]; exact (hE.out.cell (p := ⟨b0, j, none⟩) hb).trans hcell
      have HL := Lib.hid himg.1.1
      have HIG := Lib.hid himg
      obtain ⟨W, hW⟩ : ∃ W, dist g prior = W := ⟨_, rfl⟩
      obtain ⟨M, hM⟩ : ∃ M, dist gb prior = M := ⟨_, rfl⟩
      rw [hW] at cc
      rw [hM] at H2
      have HW := Lib.hid hW
      have HM := Lib.hid hM
      have HOG : Hid (OwnGrid w2 w.heap.size (.slice Au n cu) g) := Lib.hid (by rw [← HL.out]; exact hog)
      clear hog hW hM hcell himg
      have HB : nearB prior (gs.take (j + 1)) = if W < M then g else gb := by
        by_cases hj0 : j = 0
        · subst hj0
          have e1 := nearB_zero (prior := prior) hg.out
          have e2 := hgb.out
          rw [if_pos rfl, e1] at e2
          rw [Nat.zero_add, e1, e2, if_neg]
          rw [← HM.out, e2, HW.out]; omega
        · have h := nearB_take (prior := prior) hg.out (by omega)
          have e2 := hgb.out
          rw [if_neg hj0] at e2
          rw [← e2, HM.out, HW.out] at h
          exact h
      have hj1 : (if j + 1 = 0 then 1 else j + 1) = j + 1 := if_neg (by omega)
      by_cases hgt : W < M
      · rw [if_pos hgt] at HB
        replace HB : Hid (g = nearB prior (gs.take (if j + 1 = 0 then 1 else j + 1))) := Lib.hid (by rw [hj1]; exact HB.symm)
        clear hj1
        go_wp2_with fail
        refine cc.mono ?_
        rintro e w4 ⟨rfl, hd⟩
        have HE4 := Lib.hid (hE.out.trans hd.ext)
        clear hd
        go_wp2_with fail
        refine (H2.out w4 HE4.out).mono ?_
        rintro e w5 ⟨rfl, hd⟩
        have HE5 := Lib.hid (HE4.out.trans hd.ext)
        clear hd
        go_wp2
        go_roundw
        case rel => exact ⟨j + 1, g, Au, cu, by omega, by go_num, rfl, HE5, HOG, HIG, HB⟩
        case measure => simp [intOf]; omega
      · rw [if_neg hgt] at HB
        replace HB : Hid (gb = nearB prior (gs.take (if j + 1 = 0 then 1 else j + 1))) := Lib.hid (by rw [hj1]; exact HB.symm)
        clear hj1
        go_wp2_with fail
        refine cc.mono ?_
        rintro e w4 ⟨rfl, hd⟩
        have HE4 := Lib.hid (hE.out.trans hd.ext)
        clear hd
        go_wp2_with fail
        refine (H2.out w4 HE4.out).mono ?_
        rintro e w5 ⟨rfl, hd⟩
        have HE5 := Lib.hid (HE4.out.trans hd.ext)
        clear hd
        go_wp2
        go_roundw
        case rel => exact ⟨j + 1, gb, Ab, cb2, by omega, by go_num, rfl, HE5, hob, hib, HB⟩
        case measure => simp [intOf]; omega
    · obtain rfl : j = N := by omega
      have HG : Hid (gb = nearB prior gs) := Lib.hid (by have h := hgb.out; rw [if_neg (by omega), ← HN.out, take_full] at h; exact h)
      have H2 := HCW.out wr (HE2.out.trans hE.out) gb Ab cb2 hib.out (hob.out.ext hE.out).gridAt
      rw [HG.out] at H2
      go_wp2_with fail
      refine H2.mono ?_
      rintro e w5 ⟨rfl, hd⟩
      have HE5 := Lib.hid (hE.out.trans hd.ext)
      clear hd
      go_wp2
      go_ret3
      exact ⟨_, rfl, by rw [HP.out, ← HG.out]; exact hob.out.ext HE5.out, HE2.out.trans HE5.out⟩
end Go.Proofs.Ytiekgdgonleoaaa
