/- The law FnSums: its walk. -/
import Derived.Test.YtkkglfnfamlkgaaMake5
import Derived.Test.YtkkglfnfamlkgaaSums2
import Derived.Test.YtkkglfnfamlkgaaBytes
import Derived.Test.YtkkglfnfamlkgaaRead2
import Derived.Deep.RegionHeld3
namespace Go.Proofs.Ytkkglfnfamlkgaa
open Go.RowKit Tomo

set_option maxRecDepth 100000 in
set_option maxHeartbeats 8000000 in
theorem law_Sums (w : World) (A0 : Option Addr) (c0 : Nat) (xs0 : List Int) (h630 : xs0.length ≤ 9223372036854775807) (hx0 : Bytes w A0 xs0) :
    Calls Try.prog 3 #[.slice A0 xs0.length c0] w fun e w' => e = .returned (.bool true) ∧ Ext w w' := by
  by_cases hlen : xs0.length ≤ 1048576
  case neg =>
    go_enter Try.func3, Try.ntmps3
    go_wp2_with fail
    go_ret
    exact ⟨rfl, Ext.refl _⟩
  have cm : Calls Try.prog 4 #[.slice A0 xs0.length c0, .int .i64 0, .int .i64 5] w _ := MakeImage_any 5 A0 c0 xs0 w (Or.inr rfl) hx0 hlen
  have HX0 := Lib.hid hx0
  clear hx0
  go_enter Try.func3, Try.ntmps3
  go_wp2_with fail
  refine cm.mono ?_
  rintro e w1 ⟨b, cap, m, rfl, ho, hg, he⟩
  have HE1 := Lib.hid he
  have himg := Img.of hg
  obtain ⟨hn1, hn5⟩ := himg.2.1
  obtain ⟨hk1, hk5⟩ := himg.2.2.1
  have hgm := ho.gridAt
  obtain ⟨R0, rc0, r0, hr0, q0, _⟩ := hgm.at1 (k := 0) (by omega)
  rw [Nat.add_zero, himg.1.2 r0 (List.mem_of_getElem? hr0.out)] at q0
  have hrl : ∀ r ∈ m, r.length ≤ 1048576 := fun r hr => by have := himg.1.2 r hr; omega
  have hml : m.length ≤ 1048576 := by omega
  have cb := CountBlack_any (some ⟨b, 0, none⟩) cap m w1 hg hgm
  have cd := MakeDirections_any 20 A0 c0 xs0 w1 (by omega) (HX0.out.ext he) hlen
  have HQ0 : Hid (∀ W, Ext w1 W → W.cell? ⟨b, 0, none⟩ = some (.slice R0 (m.headD []).length rc0)) := Lib.hid fun W e => (e.cell (World.block_lt_of_cell? _ _ q0)).trans q0
  have HRS := Lib.hid (fun (W : World) (e : Ext w1 W) => implRowSums_any (some ⟨b, 0, none⟩) cap m W hml hrl (hgm.ext e))
  have HCS := Lib.hid (fun (W : World) (e : Ext w1 W) => implColSums_any (some ⟨b, 0, none⟩) cap m W hml hrl (hgm.ext e))
  have HLS := Lib.hid (fun (dx dy : Int) (hd : dirOk dx dy = true) (W : World) (e : Ext w1 W) => LineSums_any (some ⟨b, 0, none⟩) cap m dx dy W hg hd (hgm.ext e))
  have HGS := Lib.hid (fun (dx dy : Int) (W : World) (e : Ext w1 W) => implGridSums_any (some ⟨b, 0, none⟩) cap m dx dy W hml hrl (hgm.ext e))
  have HCL := Lib.hid (fun (dx dy : Int) (hd : dirOk dx dy = true) (W : World) => implCountLines_any m.length (m.headD []).length dx dy W ⟨hn1, hn5⟩ ⟨hk1, hk5⟩ hd)
  have HTR := Lib.hid (fun (W : World) (e : Ext w1 W) => (implTransposeOf_any (some ⟨b, 0, none⟩) cap m W hml hrl (hgm.ext e)).mono fun _ _ hh => hh.2 hg)
  have HRT := Lib.hid (fun (W : World) (b' cap' : Nat) (hx : GridAt W (some ⟨b', 0, none⟩) (tr m)) => by
    have h := implRowSums_any (some ⟨b', 0, none⟩) cap' (tr m) W (by rw [(tr_head hg).1]; omega) (fun r hr => by have := (tr_shape m).2 r hr; omega) hx
    rw [(tr_head hg).1, rsI_tr hg] at h
    exact h)
  have HG := Lib.hid hg
  obtain ⟨n, hnn⟩ : ∃ n, m.length = n := ⟨_, rfl⟩
  obtain ⟨K, hK⟩ : ∃ K, (m.headD []).length = K := ⟨_, rfl⟩
  have HMN := Lib.hid hnn
  have HK := Lib.hid hK
  obtain ⟨z, hz⟩ : ∃ z, blackI m = z := ⟨_, rfl⟩
  have HZ := Lib.hid hz
  rw [hz] at cb
  rw [hnn] at cb HRS HCS HLS HGS HCL HTR hn1 hn5 ⊢
  rw [hK] at HQ0 HCL HTR HRT hk1 hk5
  clear cm ho he himg hgm hrl hml q0 hr0 hnn hK hg hz
  go_wp2_with fail
  refine cb.mono ?_
  rintro e w2 ⟨rfl, rfl⟩
  clear cb
  go_wp2_with fail
  refine cd.mono ?_
  rintro e w2 ⟨v, ds, rfl, hod, hdl, hdv, he2⟩
  obtain ⟨D, dc, rfl, _, hld⟩ := hod.slice
  have HE2 := Lib.hid he2
  have HDV := Lib.hid hdv
  have HLD := Lib.hid hld
  clear cd hod hdv he2 hld
  go_wp2_with fail
  go_loopw [20, 6, 7] (fun i _ _ wr => ∃ j : Nat, j ≤ ds.length ∧ i = .int .i64 j ∧ Hid (Ext w2 wr)) (fun i _ _ _ => ds.length - (intOf i).toNat)
  case atStart => exact ⟨0, Nat.zero_le _, rfl, Lib.hid (Ext.refl _)⟩
  case round =>
    rename World => wr
    obtain ⟨j, hj, rfl, hE⟩ := hrel
    by_cases hlt : j < ds.length
    · obtain ⟨b4, o4, dx, dy, rfl, hb4, HXY, hd1, hd2⟩ := (HLD.out.ext hE.out).at_ hlt
      have hdk := HDV.out (dx, dy) (List.mem_of_getElem? HXY.out)
      have cl := HLS.out dx dy hdk _ ((HE2.out.trans hE.out).alloc (.cells #[.int .i64 dx, .int .i64 dy] 29))
      obtain ⟨hlen1, hlen2⟩ := gsI_len HG.out hdk
      have hbd := gsI_bd HG.out hdk
      have htot := gsI_total HG.out hdk
      rw [HMN.out, HK.out] at hlen1
      rw [HZ.out] at htot
      have c9 := HCL.out dx dy hdk
      rw [← hlen1] at c9
      have cg := HGS.out dx dy
      obtain ⟨ls, hls⟩ : ∃ ls, gsI m dx dy = ls := ⟨_, rfl⟩
      rw [hls] at cl hlen1 hlen2 hbd htot c9 cg
      have HDK := Lib.hid hdk
      have HBD := Lib.hid hbd
      have HTOT := Lib.hid htot
      have HC9 := Lib.hid c9
      have HCG := Lib.hid cg
      clear hdk hlen1 hbd htot hls c9 cg
      go_wp2_with fail
      refine cl.mono ?_
      rintro e w5 ⟨v5, rfl, ho5, he5⟩
      have hx5 : w5.cell? ⟨wr.heap.size, 0, none⟩ = some (.int .i64 dx) := (he5.cell (by simp)).trans (by simp)
      have hy5 : w5.cell? ⟨wr.heap.size, 1, none⟩ = some (.int .i64 dy) := (he5.cell (by simp)).trans (by simp)
      have HE5 := Lib.hid ((hE.out.alloc _).trans he5)
      obtain ⟨A5, c5, rfl, _, hi5⟩ := ho5.slice
      have HI5 := Lib.hid hi5
      have HKP : Hid (∀ W, Ext w5 W → W.cell? ⟨wr.heap.size, 0, none⟩ = some (.int .i64 dx) ∧ W.cell? ⟨wr.heap.size, 1, none⟩ = some (.int .i64 dy) ∧ W.cell? ⟨b, 0, none⟩ = some (.slice R0 K rc0) ∧ Ext w5 W) := Lib.hid fun W e => ⟨(e.cell (World.block_lt_of_cell? _ _ hx5)).trans hx5, (e.cell (World.block_lt_of_cell? _ _ hy5)).trans hy5, HQ0.out W ((HE2.out.trans HE5.out).trans e), e⟩
      clear cl ho5 he5 hi5 hd1 hd2 hb4
      go_wp2_with fail
      have hn0 : 0 < n := hn1
      have hnI : (0 : Int) < (n : Int) := by omega
      first | go_region_held3 (fun W => W.cell? ⟨wr.heap.size, 0, none⟩ = some (.int .i64 dx) ∧ W.cell? ⟨wr.heap.size, 1, none⟩ = some (.int .i64 dy) ∧ W.cell? ⟨b, 0, none⟩ = some (.slice R0 K rc0) ∧ Ext w5 W) (first | exact HKP.out _ (by (repeat (first | assumption | exact (‹_ ∧ _ ∧ _ ∧ Ext w5 _›).2.2.2 | exact Ext.refl _ | apply Ext.drew)); done)) (first
        | (go_at_call 8; have c8 := implDirectionOk_any dx dy w5.drew; rw [HDK.out] at c8; refine c8.mono ?_; rintro e w8 ⟨rfl, he8⟩; have hX8 : Ext w5 w8 := (Ext.refl w5).drew.trans he8)
        | (go_at_call 9; refine (HC9.out w8).mono ?_; rintro e w9 ⟨rfl, he9⟩; have hX9 : Ext w5 w9 := hX8.trans he9)
        | (go_at_call 10; refine (total_any A5 c5 ls w9 (by omega) HBD.out (HI5.out.ext hX9)).mono ?_; rintro e w10 ⟨rfl, rfl⟩; rw [HTOT.out])
        | (go_at_call 12; refine (HCG.out w9 ((HE2.out.trans HE5.out).trans hX9)).mono ?_; rintro e w11 ⟨v11, rfl, ho11, he11, _⟩; obtain ⟨A11, c11, rfl, _, hi11⟩ := ho11.slice; have hX11 : Ext w5 w11 := hX9.trans he11)
        | (go_at_call 11; refine (same_any A5 A11 c5 c11 ls w11 (by omega) (HI5.out.ext hX11) hi11).mono ?_; rintro e w12 ⟨rfl, rfl⟩)) | fail
      all_goals
        have hxx : Ext w5 w11 := (‹_ ∧ _ ∧ _ ∧ Ext w5 w11›).2.2.2
        have HEN := Lib.hid (HE5.out.trans hxx)
        go_wp2_with fail
        go_roundw
        case rel => exact ⟨j + 1, by omega, by go_num, HEN⟩
        case measure => simp [intOf]; omega
    · obtain rfl : j = ds.length := by omega
      have HE3 := Lib.hid (HE2.out.trans hE.out)
      have cr := HRS.out wr HE3.out
      obtain ⟨rs, hrs⟩ : ∃ rs, rsI m = rs := ⟨_, rfl⟩
      obtain ⟨cs, hcs⟩ : ∃ cs, csI m = cs := ⟨_, rfl⟩
      have r1 := rsI_len HG.out
      have r2 := csI_len HG.out
      have r3 := in_bd (rsI_in HG.out) (by rw [HK.out]; exact hk5)
      have r4 := in_bd (csI_in HG.out) (by rw [HMN.out]; exact hn5)
      have r5 := rsI_total HG.out
      have r6 := csI_total HG.out
      have r7 := sums_ok HG.out
      have r8 := gsI_rows HG.out
      rw [hrs, HMN.out] at r1
      rw [hcs, HK.out] at r2
      rw [hrs] at r3 r5 r7 r8 cr
      rw [hcs] at r4 r6 r7
      rw [HZ.out] at r5 r6
      have HHC := HCS
      rw [hcs] at HHC HRT
      have HLR := Lib.hid (fun W (e : Ext w1 W) => HLS.out 1 0 (by decide) W e)
      rw [r8] at HLR
      have hr5 : rs.length ≤ 5 := by omega
      have hc5 : cs.length ≤ 5 := by omega
      have b9 : ((cs.length : Int) == (K : Int)) = true := by rw [r2]; simp
      have R1 := Lib.hid r1
      have R2 := Lib.hid r2
      have R3 := Lib.hid r3
      have R4 := Lib.hid r4
      have R5 := Lib.hid r5
      have R6 := Lib.hid r6
      have R7 := Lib.hid r7
      clear r1 r2 r3 r4 r5 r6 r7 r8 hrs hcs HCS HRS HLS HGS HCL HLD
      go_wp2_with fail
      refine cr.mono ?_
      rintro e w3 ⟨v3, rfl, ho3, he3⟩
      obtain ⟨A3, c3, rfl, _, hi3⟩ := ho3.slice
      have HE4 := Lib.hid (HE3.out.trans he3)
      have HI3 := Lib.hid hi3
      have cc := HHC.out w3 HE4.out
      clear cr ho3 he3 hi3
      go_wp2_with fail
      refine cc.mono ?_
      rintro e w4 ⟨v4, rfl, ho4', he4⟩
      obtain ⟨A4, c4, rfl, _, hi4⟩ := ho4'.slice
      have HE5 := Lib.hid (HE4.out.trans he4)
      have HI3' := Lib.hid (HI3.out.ext he4)
      have HI4 := Lib.hid hi4
      have q0 := HQ0.out w4 HE5.out
      have t1 := total_any A3 c3 rs w4 (by omega) R3.out HI3'.out
      rw [R5.out] at t1
      have t2 := total_any A4 c4 cs w4 (by omega) R4.out hi4
      rw [R6.out] at t2
      clear cc ho4' he4 hi4 HI3
      have hn0 : 0 < n := hn1
      have hnI : (0 : Int) < (n : Int) := by omega
      go_wp2_with fail
      refine t1.mono ?_
      rintro e w5 ⟨rfl, rfl⟩
      clear t1
      go_wp2_with fail
      refine t2.mono ?_
      rintro e w5 ⟨rfl, rfl⟩
      clear t2
      go_wp2_with fail
      have cl := HLR.out w4 HE5.out
      clear q0
      refine cl.mono ?_
      rintro e w5 ⟨v5, rfl, ho5, he5⟩
      obtain ⟨A5, c5, rfl, _, hi5⟩ := ho5.slice
      have HE6 := Lib.hid (HE5.out.trans he5)
      have cs1 := same_any A3 A5 c3 c5 rs w5 (by omega) (HI3'.out.ext he5) hi5
      have HI5 := Lib.hid (HI4.out.ext he5)
      have HI6 := Lib.hid (HI3'.out.ext he5)
      clear cl ho5 he5 hi5
      go_wp2_with fail
      refine cs1.mono ?_
      rintro e w6 ⟨rfl, rfl⟩
      clear cs1
      have q0 := HQ0.out w5 HE6.out
      have cso := implSumsOk_any A3 A4 c3 c4 rs cs w5 (by omega) (by omega) HI6.out HI5.out
      rw [R7.out] at cso
      have ctr := HTR.out w5 HE6.out
      go_wp2_with fail
      refine cso.mono ?_
      rintro e w6 ⟨rfl, rfl⟩
      clear cso q0
      go_wp2_with fail
      refine ctr.mono ?_
      rintro e w6 ⟨b6, cap6, rfl, ho6, he6⟩
      have cr6 := HRT.out w6 b6 cap6 ho6.gridAt
      have HE7 := Lib.hid (HE6.out.trans he6)
      have HI7 := Lib.hid (HI5.out.ext he6)
      clear ctr ho6 he6
      go_wp2_with fail
      refine cr6.mono ?_
      rintro e w7 ⟨v7, rfl, ho7, he7⟩
      obtain ⟨A7, c7, rfl, _, hi7⟩ := ho7.slice
      have HE8 := Lib.hid (HE7.out.trans he7)
      have cs2 := same_any A4 A7 c4 c7 cs w7 (by omega) (HI7.out.ext he7) hi7
      clear cr6 ho7 he7 hi7
      go_wp2_with fail
      refine cs2.mono ?_
      rintro e w8 ⟨rfl, rfl⟩
      go_wp2_with fail
      go_ret
      exact ⟨rfl, HE1.out.trans HE8.out⟩
end Go.Proofs.Ytkkglfnfamlkgaa
