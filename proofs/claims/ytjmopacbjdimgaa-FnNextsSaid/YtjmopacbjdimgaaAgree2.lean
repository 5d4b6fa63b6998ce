/- Images that agree with one in some cells: the program. -/
import Derived.Test.YtjmopacbjdimgaaAgree
namespace Go.Proofs.Ytjmopacbjdimgaa
open Go.RowKit Tomo

set_option maxHeartbeats 4000000 in
theorem agreeing_any (A D : Option Addr) (ca cd : Nat) (m : Grid) (cells : List Int) (w : World) (hl : m.length ≤ 1048576) (hr : ∀ r ∈ m, r.length ≤ 1048576) (hlen : cells.length ≤ 1048576) (hgm : GridAt w A m) (hc : Ints w D cells) :
    Calls Try.prog 12 #[.slice A m.length ca, .slice D cells.length cd] w fun e w' => ∃ v, e = .returned (.tuple #[v, .bool (agreeOk m cells)]) ∧ OwnGrids w' w.heap.size v (if agreeOk m cells = true then agreeI m cells else []) ∧ Ext w w' := by
  have ci := implImageOk_any A ca m w hl hr hgm
  cases h : gridOk m 0 1
  · rw [h] at ci
    have HP : Hid (agreeOk m cells = false) := Lib.hid (by unfold agreeOk; rw [h]; rfl)
    rw [HP.out]
    clear hgm hc HP
    go_enter Try.func12, Try.ntmps12
    go_wp2_with (go_at_call 14; refine ci.mono ?_; rintro e w' ⟨rfl, rfl⟩)
    go_ret2
    exact ⟨_, rfl, OwnGrids.nil _ _, Ext.refl _⟩
  rw [h] at ci
  have himg := Img.of h
  obtain ⟨hn1, hn5⟩ := himg.2.1
  obtain ⟨hk1, hk5⟩ := himg.2.2.1
  have hnk : m.length * (m.headD []).length ≤ 25 := Nat.mul_le_mul hn5 hk5
  have cl := rising_any D cd cells (m.length * (m.headD []).length : Nat) w hlen (by omega) (by omega) hc
  have HAO : Hid (agreeOk m cells = rising cells (m.length * (m.headD []).length : Nat)) := Lib.hid (by unfold agreeOk; rw [h]; rfl)
  obtain ⟨bb, oo, _, _, _, hA, _⟩ := hgm.at_ (k := 0) (by omega)
  subst hA
  obtain ⟨R0, c0, q0⟩ := himg.head2 hgm
  obtain ⟨e1, e2⟩ := rs_len h
  have HRI : Hid (agreeOk m cells = true → ∀ c ∈ cells, 0 ≤ c ∧ c < (m.length * (m.headD []).length : Nat)) := Lib.hid (fun hh => rising_all (by rw [← HAO.out]; exact hh))
  have cr := implRowSums_any (some ⟨bb, oo, none⟩) ca m w hl hr hgm
  have HCS := Lib.hid (fun W (e : Ext w W) => implColSums_any (some ⟨bb, oo, none⟩) ca m W hl hr (hgm.ext e))
  have HCA : Hid (∀ (W : World) (A1 B1 : Option Addr) (c1 c2 : Nat), Ints W A1 (rsI m) → Ints W B1 (csI m) → Calls Try.prog 13 #[.slice A1 (rsI m).length c1, .slice B1 (csI m).length c2] W fun e w' => ∃ v, e = .returned (.tuple #[v, .bool (sumsOk (rsI m) (csI m))]) ∧ OwnGrids w' W.heap.size v (allI (rsI m) (csI m)) ∧ Ext W w') :=
    Lib.hid (fun W A1 B1 c1 c2 h1 h2 => implAllImages_any A1 B1 c1 c2 (rsI m) (csI m) W (by rw [e1]; exact hl) (by rw [e2]; omega) h1 h2)
  have HIMG : Hid (∀ g, g ∈ allI (rsI m) (csI m) → Img g m.length (m.headD []).length) := Lib.hid (fun g hg' => by have := allI_img hg'; rw [e1, e2] at this; exact this)
  have HDEF : Hid (agreeI m cells = (allI (rsI m) (csI m)).filter fun x => agrees m x (m.headD []).length cells) := Lib.hid rfl
  have hgl := allI_len (rsI m) (csI m)
  have HM := Lib.hid himg
  have HGM := Lib.hid hgm
  have HC := Lib.hid hc
  obtain ⟨rs, hrs⟩ : ∃ rs, rsI m = rs := ⟨_, rfl⟩
  obtain ⟨cs, hcs⟩ : ∃ cs, csI m = cs := ⟨_, rfl⟩
  rw [hrs] at cr HCA HIMG HDEF hgl
  rw [hcs] at HCA HIMG HDEF hgl
  simp only [hcs] at HCS
  obtain ⟨gs, hgs⟩ : ∃ gs, allI rs cs = gs := ⟨_, rfl⟩
  rw [hgs] at HCA HIMG HDEF hgl
  obtain ⟨so, hso⟩ : ∃ so, sumsOk rs cs = so := ⟨_, rfl⟩
  rw [hso] at HCA
  obtain ⟨hs, hhs⟩ : ∃ hs, agreeI m cells = hs := ⟨_, rfl⟩
  rw [hhs] at HDEF ⊢
  obtain ⟨ok, hok⟩ : ∃ ok, agreeOk m cells = ok := ⟨_, rfl⟩
  rw [hok] at HAO HRI ⊢
  obtain ⟨n, hn⟩ : ∃ n, m.length = n := ⟨_, rfl⟩
  obtain ⟨k, hk⟩ : ∃ k, (m.headD []).length = k := ⟨_, rfl⟩
  rw [hn, hk] at HAO cl hnk HIMG HM HRI
  rw [hk] at HDEF hk1 hk5 q0
  rw [hn] at ci cr hn1 hn5 ⊢
  simp only [hn] at HCS
  rw [Int.natCast_mul] at HAO cl
  have g1 : 0 ≤ (n : Int) * (k : Int) := by rw [← Int.natCast_mul]; omega
  have g2 : (n : Int) * (k : Int) ≤ 25 := by rw [← Int.natCast_mul]; omega
  rw [← HAO.out] at cl
  clear HAO himg hgm hc hn hk h hrs hcs hgs hso hhs hok hr hl e1 e2
  cases ok
  · clear cr
    go_enter Try.func12, Try.ntmps12
    go_wp2_with (first | (go_at_call 14; refine ci.mono ?_; rintro e w' ⟨rfl, rfl⟩) | (go_at_call 21; refine cl.mono ?_; rintro e w' ⟨rfl, rfl⟩))
    go_ret2
    exact ⟨_, rfl, OwnGrids.nil _ _, Ext.refl _⟩
  have HRI2 := Lib.hid (HRI.out rfl)
  clear HRI
  go_enter Try.func12, Try.ntmps12
  go_wp2_with (first | (go_at_call 14; refine ci.mono ?_; rintro e w' ⟨rfl, rfl⟩) | (go_at_call 21; refine cl.mono ?_; rintro e w' ⟨rfl, rfl⟩))
  refine cr.mono ?_
  rintro e w1 ⟨v1, rfl, ho1, he1⟩
  obtain ⟨A1, c1, rfl, _⟩ := ho1.slice
  have HO1 := Lib.hid ho1
  have HE1 := Lib.hid he1
  clear ho1 he1 ci cr cl
  go_wp2_with fail
  refine (HCS.out w1 HE1.out).mono ?_
  rintro e w2 ⟨v2, rfl, ho2, he2⟩
  obtain ⟨A2, c2, rfl, _⟩ := ho2.slice
  have HE2 := Lib.hid (HE1.out.trans he2)
  have HT1 := Lib.hid ((HO1.out.ext he2).ints.2)
  have HT2 := Lib.hid ho2.ints.2
  clear ho2 he2
  go_wp2_with fail
  refine (HCA.out w2 A1 A2 c1 c2 HT1.out HT2.out).mono ?_
  rintro e w3 ⟨v3, rfl, ho3, he3⟩
  have HE3 := Lib.hid (HE2.out.trans he3)
  obtain ⟨us, hu⟩ := (ho3.base HE2.out.size).u
  obtain ⟨L, cL, rfl, _⟩ := ho3.slice
  have HU := Lib.hid hu
  have HUL := Lib.hid hu.1
  clear ho3 he3 hu HT1 HT2 HE2 HE1 HO1 HCA HCS
  go_wp2_with fail
  go_loopw [41, 8, 10, 11, 13, 14, 15, 45, 46, 47] (fun i vo _ _ _ _ _ _ _ _ wr => ∃ j : Nat, j ≤ gs.length ∧ i = .int .i64 j ∧ Hid (Ext w3 wr) ∧ Hid (wr.ownsRow w3.heap.size 23 1 vo ((gs.take j).filter fun x => agrees m x k cells).length (pickU (fun x => agrees m x k cells) (us.take j) (gs.take j)))) (fun i _ _ _ _ _ _ _ _ _ _ => gs.length - (intOf i).toNat)
  case atStart => exact ⟨0, Nat.zero_le _, rfl, Lib.hid (Ext.refl _), Lib.hid (World.ownsRow_nil _ _ _ _)⟩
  case round =>
    rename World => wo
    obtain ⟨j, hj, rfl, hE, hf⟩ := hrel
    by_cases hlt : j < gs.length
    · obtain ⟨b, u, g, Au, cu, rfl, hb, hus, hg, hcell, hue, hog⟩ := HU.out.elt hlt
      have himg := HIMG.out g (List.mem_of_getElem? hg.out)
      have hgl2 := himg.1.1
      have HX := Lib.hid himg
      have HGX := Lib.hid (hog.ext hE.out).gridAt
      have HGW := Lib.hid (HGM.out.ext (HE3.out.trans hE.out))
      have HCW := Lib.hid (HC.out.ext (HE3.out.trans hE.out))
      have q0w : wo.cell? ⟨bb, oo, none⟩ = some (.slice R0 k c0) := by
        obtain ⟨_, _, _, _, _, hA, hb0, _⟩ := HGM.out.at_ (k := 0) (by rw [HM.out.1.1]; omega)
        cases hA
        exact ((HE3.out.trans hE.out).cell (p := ⟨bb, oo, none⟩) hb0).trans q0
      have HS := Lib.hid (filter_take_succ hg.out fun x => agrees m x k cells)
      have HLE := filter_take_le gs j fun x => agrees m x k cells
      have hcell2 : wo.cell? ⟨b, j, none⟩ = some (.slice Au n cu) := by rw [← hgl2]; exact (hE.out.cell (p := ⟨b, j, none⟩) hb).trans hcell
      rw [hgl2] at hue
      have HPS : Hid (pickU (fun x => agrees m x k cells) (us.take (j + 1)) (gs.take (j + 1)) = if agrees m g k cells = true then pickU (fun x => agrees m x k cells) (us.take j) (gs.take j) ++ [u] else pickU (fun x => agrees m x k cells) (us.take j) (gs.take j)) := Lib.hid (by
        rw [take_succ_of hus.out, take_succ_of hg.out]
        exact pickU_snoc _ u g _ _ (by rw [List.length_take, List.length_take, HUL.out]))
      clear hog himg hcell hgl2
      obtain ⟨N, hN⟩ : ∃ N, ((gs.take j).filter fun x => agrees m x k cells).length = N := ⟨_, rfl⟩
      rw [hN] at hf HLE
      have HN := Lib.hid hN
      clear hN
      have hB := hE.out.size
      go_wp2_with fail
      go_loopw [47, 11, 13, 14, 15] (fun i f _ _ _ wi => ∃ (i2 : Nat) (fl : Bool), i2 ≤ cells.length ∧ i = .int .i64 i2 ∧ f = .bool fl ∧ Hid (Drew wo wi) ∧ Hid (fl = agrees m g k (cells.take i2))) (fun i _ _ _ _ _ => cells.length - (intOf i).toNat)
      case atStart => exact ⟨0, true, Nat.zero_le _, rfl, rfl, Lib.hid (Drew.refl wo), Lib.hid rfl⟩
      case round =>
        obtain ⟨i2, fl, hi2, rfl, rfl, hd, hs2⟩ := hrel
        obtain ⟨d, hd'⟩ := hd.out
        subst hd'
        by_cases hlt2 : i2 < cells.length
        · obtain ⟨bc, oc, cv, rfl, _, hcv, hq⟩ := HCW.out.at_ hlt2
          obtain ⟨c1', c2'⟩ := HRI2.out cv (List.mem_of_getElem? hcv.out)
          obtain ⟨C, rfl⟩ : ∃ C : Nat, cv = C := ⟨cv.toNat, by omega⟩
          have hC : C < n * k := by omega
          obtain ⟨h1, h2⟩ := cell_split (by omega) hC
          have g3 : 0 ≤ (C : Int) / (k : Int) := Int.ediv_nonneg (by omega) (by omega)
          have g4 : (C : Int) / (k : Int) < (n : Int) := by rw [← Int.natCast_ediv]; omega
          have g5 : 0 ≤ (C : Int) % (k : Int) := Int.emod_nonneg _ (by omega)
          have g6 : (C : Int) % (k : Int) < (k : Int) := Int.emod_lt_of_pos _ (by omega)
          obtain ⟨b1, o1, cR1, b3, o3, v, hA1, hb1, q1, q3, hv, _⟩ := HM.out.cell2 (by omega) hC HGW.out
          cases hA1
          obtain ⟨b5, o5, cR5, b7, o7, v', rfl, hb5, q5, q7, hv', _⟩ := HX.out.cell2 (by omega) hC HGX.out
          have HS' := agrees_succ (m := m) (x := g) (k := k) hcv.out
          rw [hv.out, hv'.out, ← hs2.out] at HS'
          have HS2 := Lib.hid HS'
          clear HS' hC
          cases fl
          · have HT : Hid (false = agrees m g k (cells.take (i2 + 1))) := Lib.hid (by rw [HS2.out]; rfl)
            go_wp2_with fail
            go_quiet (fail)
            go_wp2_with fail
            go_quiet (fail)
            go_wp2_with fail
            go_roundw
            case rel => exact ⟨i2 + 1, false, by omega, by go_num, rfl, Lib.hid ⟨_, rfl⟩, HT⟩
            case measure => simp [intOf]; omega
          · cases e : (v' == v)
            · have HT : Hid (false = agrees m g k (cells.take (i2 + 1))) := Lib.hid (by
                rw [HS2.out, Bool.true_and]
                symm
                have h := e
                simp only [beq_eq_false_iff_ne, ne_eq] at h ⊢
                omega)
              go_wp2_with fail
              go_quiet (fail)
              go_wp2_with fail
              go_quiet (fail)
              go_wp2_with fail
              go_roundw
              case rel => exact ⟨i2 + 1, false, by omega, by go_num, rfl, Lib.hid ⟨_, rfl⟩, HT⟩
              case measure => simp [intOf]; omega
            · have HT : Hid (true = agrees m g k (cells.take (i2 + 1))) := Lib.hid (by
                rw [HS2.out, Bool.true_and]
                symm
                have h := e
                simp only [beq_iff_eq] at h ⊢
                omega)
              go_wp2_with fail
              go_quiet (fail)
              go_wp2_with fail
              go_quiet (fail)
              go_wp2_with fail
              go_roundw
              case rel => exact ⟨i2 + 1, true, by omega, by go_num, rfl, Lib.hid ⟨_, rfl⟩, HT⟩
              case measure => simp [intOf]; omega
        · obtain rfl : i2 = cells.length := by omega
          have hfl : fl = agrees m g k cells := by have := hs2.out; rw [take_full] at this; exact this
          rw [← hfl] at HS HPS
          have hfB := ownsRow_ext hf.out (hd.out.ext)
          have HFB := Lib.hid hfB
          have HED := Lib.hid (hE.out.trans hd.out.ext)
          have hBd := HED.out.size
          clear hf hs2 hfl hfB
          cases fl
          · have HX2 : Hid ((wo.drewN d).ownsRow w3.heap.size 23 1 u8 ((gs.take (j + 1)).filter fun x => agrees m x k cells).length (pickU (fun x => agrees m x k cells) (us.take (j + 1)) (gs.take (j + 1)))) := Lib.hid (by rw [HS.out, HPS.out, if_neg (by simp), if_neg (by simp), List.append_nil, HN.out]; exact HFB.out)
            go_wp2
            go_roundw
            case rel => exact ⟨j + 1, by omega, by go_num, HED, HX2⟩
            case measure => simp [intOf]; omega
          · go_wp2_with (at_builtin; refine app_img (ownsRow_ext HFB.out ((Ext.refl (wo.drewN d)).alloc _)) (Nat.le_trans hBd (by simp)) (u := .slice Au n cu) rfl (by omega) (new_cell rfl) rfl _ _ rfl rfl rfl ?_)
            intro b2 cap2 w4 ho4 hb4
            have HX2 : Hid (w4.ownsRow w3.heap.size 23 1 (.slice (some ⟨b2, 0, none⟩) (N + 1) cap2) ((gs.take (j + 1)).filter fun x => agrees m x k cells).length (pickU (fun x => agrees m x k cells) (us.take (j + 1)) (gs.take (j + 1)))) := Lib.hid (by rw [HS.out, HPS.out, if_pos trivial, if_pos trivial, List.length_append, HN.out, hue.out]; exact ho4)
            have HE4 : Hid (Ext w3 w4) := Lib.hid (hb4 w3 (HED.out.alloc _))
            clear ho4 hb4
            go_wp2
            go_roundw
            case rel => exact ⟨j + 1, by omega, by go_num, HE4, HX2⟩
            case measure => simp [intOf]; omega
    · obtain rfl : j = gs.length := by omega
      have HG : Hid (OwnGrids wo w.heap.size u8 hs) := Lib.hid (by
        have h := hf.out
        rw [take_full, ← HUL.out, take_full] at h
        rw [HDEF.out]
        exact (HU.out.pick hE.out (fun x => agrees m x k cells) HE3.out.size h).grids)
      go_wp2
      go_ret2
      exact ⟨_, rfl, HG.out, HE3.out.trans hE.out⟩

set_option maxHeartbeats 2000000 in
theorem implCountAgreeing_any (A D : Option Addr) (ca cd : Nat) (m : Grid) (cells : List Int) (w : World) (hl : m.length ≤ 1048576) (hr : ∀ r ∈ m, r.length ≤ 1048576) (hlen : cells.length ≤ 1048576) (hgm : GridAt w A m) (hc : Ints w D cells) :
    Calls Try.prog 5 #[.slice A m.length ca, .slice D cells.length cd] w fun e w' => e = .returned (.int .i64 (agreeCount m cells)) ∧ Ext w w' := by
  have c1 := agreeing_any A D ca cd m cells w hl hr hlen hgm hc
  have hgl : (agreeI m cells).length ≤ 33554432 := Nat.le_trans (List.length_filter_le _ _) (allI_len _ _)
  have HDEF : Hid (agreeCount m cells = if agreeOk m cells = true then ((agreeI m cells).length : Int) else -1) := Lib.hid rfl
  obtain ⟨hs, hhs⟩ : ∃ hs, agreeI m cells = hs := ⟨_, rfl⟩
  rw [hhs] at HDEF hgl c1
  cases h : agreeOk m cells
  · rw [h] at c1 HDEF
    clear hgm hc hhs h
    go_enter Try.func5, Try.ntmps5
    go_wp2_with fail
    refine c1.mono ?_
    rintro e w' ⟨v, rfl, _, he⟩
    have HE := Lib.hid he
    clear he
    go_wp2
    go_ret
    exact ⟨ret_int HDEF.out.symm, HE.out⟩
  · rw [h] at c1 HDEF
    simp only [↓reduceIte] at c1
    clear hgm hc hhs h
    go_enter Try.func5, Try.ntmps5
    go_wp2_with fail
    refine c1.mono ?_
    rintro e w' ⟨v, rfl, ho, he⟩
    obtain ⟨L, cL, rfl, _⟩ := ho.slice
    have HE := Lib.hid he
    clear he ho c1
    go_wp2
    go_ret
    exact ⟨ret_int HDEF.out.symm, HE.out⟩

end Go.Proofs.Ytjmopacbjdimgaa
