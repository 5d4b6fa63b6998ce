/- FindPrices: the reference's relaxation. -/
import Derived.Test.YtnnkondlefjkcaaFind1
import Derived.IntWalk
import Derived.Deep.DeepCutAuto
import Derived.Deep.QuietTactic
namespace Go.Proofs.Ytnnkondlefjkcaa
open Go.RowKit Tomo

theorem Own.setOther {w : World} {B b n c : Nat} {xs : List Int} (h : Own w B (.slice (some ⟨b, 0, none⟩) n c) xs) {b' j : Nat} (hne : b ≠ b') (v : Value) : Own (w.setCell ⟨b', j, none⟩ v) B (.slice (some ⟨b, 0, none⟩) n c) xs :=
  ownsRow_setCell_other (a := ⟨b', j, none⟩) h (fun he => hne (by simpa [Value.ownBlock] using he)) _

set_option maxRecDepth 100000 in
set_option maxHeartbeats 8000000 in
theorem l09Relax_any (A B : Option Addr) (ca cb : Nat) (wt m : Grid) (n k bR cR bK cK L0 : Nat) (R0 K0 : List Int) (w0 w : World) (hin : FpIn wt m n k) (hx : GridAt w0 A wt) (hy : GridAt w0 B m) (he : Ext w0 w) (hR : Own w w0.heap.size (.slice (some ⟨bR, 0, none⟩) n cR) R0) (hK : Own w w0.heap.size (.slice (some ⟨bK, 0, none⟩) k cK) K0) (hne : bR ≠ bK) (hL : RxOk n k L0 R0 K0) (hL0 : L0 ≤ 1000000) :
    Calls Try.prog 76 #[.slice A n ca, .slice B n cb, .slice (some ⟨bR, 0, none⟩) n cR, .slice (some ⟨bK, 0, none⟩) k cK] w fun e w' => ∃ R' K' f, e = .returned (.bool f) ∧ rxAll m wt k n (R0, K0, false) = (R', K', f) ∧ Own w' w0.heap.size (.slice (some ⟨bR, 0, none⟩) n cR) R' ∧ Own w' w0.heap.size (.slice (some ⟨bK, 0, none⟩) k cK) K' ∧ RxOk n k (L0 + 2500) R' K' ∧ Ext w0 w' := by
  obtain ⟨hn1, hn5⟩ := hin.n1
  obtain ⟨hk1, hk5⟩ := hin.k1
  obtain ⟨bm, om, _, _, _, hA, _⟩ := hy.at_ (k := 0) (by rw [hin.sm.1]; omega)
  subst hA
  obtain ⟨bw, ow, _, _, _, hA, _⟩ := hx.at_ (k := 0) (by rw [hin.sw.1]; omega)
  subst hA
  have HIN := Lib.hid hin
  have HXW := Lib.hid hx
  have HXM := Lib.hid hy
  have HE := Lib.hid he
  have HRR := Lib.hid hR
  have HKK := Lib.hid hK
  have HLL := Lib.hid hL
  obtain ⟨S0, hS0⟩ : ∃ S0, S0 = (R0, K0, false) := ⟨_, rfl⟩
  have HS0 := Lib.hid hS0
  have HST0 : Hid (rxAll m wt k 0 S0 = (R0, K0, false)) := Lib.hid (by rw [hS0]; rfl)
  rw [← hS0]
  clear hin hx hy he hR hK hL hS0
  go_enter Try.func76, Try.ntmps76
  go_wp2_with fail
  go_loopw [16, 9, 10, 11, 12, 13] (fun i fl _ _ _ _ wr => ∃ (a : Nat) (R K : List Int) (f : Bool) (L : Nat), a ≤ n ∧ i = .int .i64 a ∧ fl = .bool f ∧ L ≤ L0 + 500 * a ∧ Hid (Ext w0 wr) ∧ Hid (Own wr w0.heap.size (.slice (some ⟨bR, 0, none⟩) n cR) R) ∧ Hid (Own wr w0.heap.size (.slice (some ⟨bK, 0, none⟩) k cK) K) ∧ Hid (rxAll m wt k a S0 = (R, K, f)) ∧ Hid (RxOk n k L R K)) (fun i _ _ _ _ _ _ => n - (intOf i).toNat)
  case atStart => exact ⟨0, _, _, false, L0, Nat.zero_le _, rfl, rfl, by omega, HE, HRR, HKK, HST0, HLL⟩
  case round =>
    rename World => wa
    obtain ⟨a, R, K, f, L, ha, rfl, rfl, hLb, hE, hR, hK, hS, hL⟩ := hrel
    by_cases hlt : a < n
    · obtain ⟨Rm, cm, hq0, hcell⟩ := HIN.out.sm.mem HXM.out hlt
      obtain ⟨Rw0, cw, hwp, hwc⟩ := HIN.out.sw.mem HXW.out hlt
      have hq1 := (hE.out.cell (World.block_lt_of_cell? _ _ hq0)).trans hq0
      clear hq0
      have HSA : Hid (rxRow m wt a 0 (rxAll m wt k a S0) = (R, K, f)) := Lib.hid hS.out
      go_wp2_with fail
      go_loopw [23, 9, 12, 13] (fun i fl _ _ wr => ∃ (b : Nat) (R K : List Int) (f : Bool) (L : Nat), b ≤ k ∧ i = .int .i64 b ∧ fl = .bool f ∧ L ≤ L0 + 500 * a + 100 * b ∧ Hid (Ext w0 wr) ∧ Hid (Own wr w0.heap.size (.slice (some ⟨bR, 0, none⟩) n cR) R) ∧ Hid (Own wr w0.heap.size (.slice (some ⟨bK, 0, none⟩) k cK) K) ∧ Hid (rxRow m wt a b (rxAll m wt k a S0) = (R, K, f)) ∧ Hid (RxOk n k L R K)) (fun i _ _ _ _ => k - (intOf i).toNat)
      case atStart => exact ⟨0, R, K, f, L, Nat.zero_le _, rfl, rfl, by omega, hE, hR, hK, HSA, hL⟩
      case round =>
        rename World => wb
        clear hE hR hK hS hL HSA hLb
        obtain ⟨b, R, K, f, L, hbk, rfl, rfl, hLb, hE, hR, hK, hS, hL⟩ := hrel
        by_cases hltb : b < k
        · obtain ⟨R', ro, rfl, hc1⟩ := hcell.out wb hE.out b hltb
          obtain ⟨Rw, rw', rfl, hw1⟩ := hwc.out wb hE.out b hltb
          have hwp1 := (hE.out.cell (World.block_lt_of_cell? _ _ hwp)).trans hwp
          obtain ⟨⟨rv, hrv, hrc⟩, hrf, hrput, hbR⟩ := hR.out.row (j := a) (by rw [hL.out.n]; exact hlt)
          obtain ⟨⟨kv, hkv, hkc⟩, hkf, hkput, hbK⟩ := hK.out.row (j := b) (by rw [hL.out.k]; exact hltb)
          obtain ⟨hrb1, hrb2⟩ := hL.out.r rv (List.mem_of_getElem? hrv)
          obtain ⟨hkb1, hkb2⟩ := hL.out.c kv (List.mem_of_getElem? hkv)
          obtain ⟨wv, hwv⟩ : ∃ wv, at2 wt a b = wv := ⟨_, rfl⟩
          have hwb := HIN.out.wb a b hlt hltb
          rw [hwv] at hw1 hwb
          obtain ⟨hwb1, hwb2⟩ := hwb
          have HC : Hid (∀ W, Ext wb W → W.cell? ⟨bR, a, none⟩ = some (.int .i64 rv) ∧ W.cell? ⟨bw, ow + a, none⟩ = some (.slice (some ⟨Rw, rw', none⟩) k cw) ∧ W.cell? ⟨Rw, rw' + b, none⟩ = some (.int .i64 wv) ∧ W.cell? ⟨bK, b, none⟩ = some (.int .i64 kv) ∧ Ext wb W) := Lib.hid fun W e => ⟨(e.cell (World.block_lt_of_cell? _ _ hrc)).trans hrc, (e.cell (World.block_lt_of_cell? _ _ hwp1)).trans hwp1, (e.cell (World.block_lt_of_cell? _ _ hw1)).trans hw1, (e.cell (World.block_lt_of_cell? _ _ hkc)).trans hkc, e⟩
          have hlK := hL.out.k
          have hlR := hL.out.n
          have HWV := Lib.hid hwv
          clear hwv
          have g1 : (0 : Int) ≤ (a : Int) := by omega
          have g2 : (a : Int) < (n : Int) := by omega
          have g3 : (0 : Int) ≤ (b : Int) := by omega
          have g4 : (b : Int) < (k : Int) := by omega
          rcases HIN.out.bit a b hlt hltb with hbit | hbit
          · have HB := Lib.hid hbit
            rw [hbit] at hc1
            clear hbit
            have hws : IntKind.i64.wrap (kv - wv) = kv - wv := IntWalk.i64_in _ (by omega)
            by_cases hcond : kv - wv < rv
            · have HN := Lib.hid (rx_hit0 hS.out HB.out HWV.out hrv hkv hcond)
              have HL := Lib.hid (hL.out.setR (b := a) (v := kv - wv) (by omega))
              have HST : Hid (∀ W, Ext wb W → W.cell? ⟨bR, a, none⟩ = some (.int .i64 rv) ∧ W.frozen? ⟨bR, a, none⟩ = false ∧ Ext w0 (W.setCell ⟨bR, a, none⟩ (.int .i64 (kv - wv))) ∧ Own (W.setCell ⟨bR, a, none⟩ (.int .i64 (kv - wv))) w0.heap.size (.slice (some ⟨bK, 0, none⟩) k cK) K ∧ Own (W.setCell ⟨bR, a, none⟩ (.int .i64 (kv - wv))) w0.heap.size (.slice (some ⟨bR, 0, none⟩) n cR) (R.set a (kv - wv))) := Lib.hid fun W e => by
                obtain ⟨_, hf', hput', hb'⟩ := (hR.out.ext e).row (j := a) (by omega)
                exact ⟨(e.cell (World.block_lt_of_cell? _ _ hrc)).trans hrc, hf', Below.setCell (hE.out.trans e) hb' _, (hK.out.ext e).setOther (Ne.symm hne) _, hput'.out _⟩
              have HE0 := hE
              have HR0 := hR
              have HK0 := hK
              clear hE hR hK hL hS hrput hkput hrf hkf hrv hkv hwp1 hrc hkc hw1
              go_upto_region 8 with fail
              go_cut [48] (fun s wx => s = .bool false ∧ Hid (Ext wb wx))
              case first =>
                go_quiet (fail)
                all_goals
                  go_wp2_with fail
                  go_meet
                  exact ⟨by first | rfl | (simp; omega) | simp, Lib.hid ((Ext.refl _).drewN _)⟩
              case rest =>
              rename World => wx1
              obtain ⟨rfl, hewx1⟩ := hcut
              go_upto_region 11 with fail
              go_cut [84] (fun s wx => s = .bool true ∧ Hid (Ext wx1 wx))
              case first =>
                clear HXM HXW HIN HS0 HST0 HLL HRR HKK HE hcell hwc hwp hq1 HB HWV
                obtain ⟨q1, q2, q3, q4, _⟩ := HC.out wx1 hewx1.out
                go_quiet (fail)
                all_goals
                  go_wp2_with fail
                  go_meet
                  exact ⟨by first | rfl | (simp; omega) | simp, Lib.hid ((Ext.refl _).drewN _)⟩
              case rest =>
              rename World => wx2
              obtain ⟨rfl, hewx2⟩ := hcut
              have HX2 := Lib.hid (hewx1.out.trans hewx2.out)
              obtain ⟨_, q2, q3, q4, _⟩ := HC.out wx2 HX2.out
              obtain ⟨k1, k2, hE2, hR2, hK2⟩ := HST.out wx2 HX2.out
              have HE2 := Lib.hid hE2
              have HR2 := Lib.hid hK2
              have HK2 := Lib.hid hR2
              clear hE2 hR2 hK2
              clear HXM HXW HIN HS0 HST0 HLL HRR HKK HE hcell hwc hwp hq1 HB HWV
              go_wp2_with fail
              first | go_region_with fail | fail
              all_goals
                go_wp2_with fail
                go_roundw
                case rel => exact ⟨b + 1, _, K, true, L + 100, by omega, by go_num, rfl, by omega, Lib.hid (HE2.out.trans (by (repeat (first | exact Ext.refl _ | apply Ext.drew)))), Lib.hid (HR2.out.ext (by (repeat (first | exact Ext.refl _ | apply Ext.drew)))), Lib.hid (HK2.out.ext (by (repeat (first | exact Ext.refl _ | apply Ext.drew)))), HN, HL⟩
                case measure => simp [intOf]; omega
            · have HN := Lib.hid (rx_skip0 hS.out HB.out HWV.out hrv hkv hcond)
              have HL := hL
              have HE0 := hE
              have HR0 := hR
              have HK0 := hK
              clear hE hR hK hL hS hrput hkput hrf hkf hrv hkv hwp1 hrc hkc hw1
              go_upto_region 8 with fail
              go_cut [48] (fun s wx => s = .bool false ∧ Hid (Ext wb wx))
              case first =>
                go_quiet (fail)
                all_goals
                  go_wp2_with fail
                  go_meet
                  exact ⟨by first | rfl | (simp; omega) | simp, Lib.hid ((Ext.refl _).drewN _)⟩
              case rest =>
              rename World => wx1
              obtain ⟨rfl, hewx1⟩ := hcut
              go_upto_region 11 with fail
              go_cut [84] (fun s wx => s = .bool false ∧ Hid (Ext wx1 wx))
              case first =>
                clear HXM HXW HIN HS0 HST0 HLL HRR HKK HE hcell hwc hwp hq1 HB HWV
                obtain ⟨q1, q2, q3, q4, _⟩ := HC.out wx1 hewx1.out
                go_quiet (fail)
                all_goals
                  go_wp2_with fail
                  go_meet
                  exact ⟨by first | rfl | (simp; omega) | simp, Lib.hid ((Ext.refl _).drewN _)⟩
              case rest =>
              rename World => wx2
              obtain ⟨rfl, hewx2⟩ := hcut
              have HX2 := Lib.hid (hewx1.out.trans hewx2.out)
              have HE4 := Lib.hid (HE0.out.trans HX2.out)
              have HR4 := Lib.hid (HR0.out.ext HX2.out)
              have HK4 := Lib.hid (HK0.out.ext HX2.out)
              go_wp2_with fail
              go_roundw
              case rel => exact ⟨b + 1, R, K, f, L, by omega, by go_num, rfl, by omega, HE4, HR4, HK4, HN, HL⟩
              case measure => simp [intOf]; omega
          · have HB := Lib.hid hbit
            rw [hbit] at hc1
            clear hbit
            have hws : IntKind.i64.wrap (rv + wv) = rv + wv := IntWalk.i64_in _ (by omega)
            by_cases hcond : rv + wv < kv
            · have HN := Lib.hid (rx_hit1 hS.out HB.out HWV.out hrv hkv hcond)
              have HL := Lib.hid (hL.out.setK (b := b) (v := rv + wv) (by omega))
              have HST : Hid (∀ W, Ext wb W → W.cell? ⟨bK, b, none⟩ = some (.int .i64 kv) ∧ W.frozen? ⟨bK, b, none⟩ = false ∧ Ext w0 (W.setCell ⟨bK, b, none⟩ (.int .i64 (rv + wv))) ∧ Own (W.setCell ⟨bK, b, none⟩ (.int .i64 (rv + wv))) w0.heap.size (.slice (some ⟨bR, 0, none⟩) n cR) R ∧ Own (W.setCell ⟨bK, b, none⟩ (.int .i64 (rv + wv))) w0.heap.size (.slice (some ⟨bK, 0, none⟩) k cK) (K.set b (rv + wv))) := Lib.hid fun W e => by
                obtain ⟨_, hf', hput', hb'⟩ := (hK.out.ext e).row (j := b) (by omega)
                exact ⟨(e.cell (World.block_lt_of_cell? _ _ hkc)).trans hkc, hf', Below.setCell (hE.out.trans e) hb' _, (hR.out.ext e).setOther hne _, hput'.out _⟩
              have HE0 := hE
              have HR0 := hR
              have HK0 := hK
              clear hE hR hK hL hS hrput hkput hrf hkf hrv hkv hwp1 hrc hkc hw1
              go_upto_region 8 with fail
              go_cut [48] (fun s wx => s = .bool true ∧ Hid (Ext wb wx))
              case first =>
                clear HXM HXW HIN HS0 HST0 HLL HRR HKK HE hcell hwc hwp hq1 HB HWV
                obtain ⟨q1, q2, q3, q4, _⟩ := HC.out wb (Ext.refl wb)
                go_quiet (fail)
                all_goals
                  go_wp2_with fail
                  go_meet
                  exact ⟨by first | rfl | (simp; omega) | simp, Lib.hid ((Ext.refl _).drewN _)⟩
              case rest =>
              rename World => wx1
              obtain ⟨rfl, hewx1⟩ := hcut
              obtain ⟨q1, q2, q3, _, _⟩ := HC.out wx1 hewx1.out
              obtain ⟨k1, k2, hE2, hR2, hK2⟩ := HST.out wx1 hewx1.out
              have HE2 := Lib.hid hE2
              have HR2 := Lib.hid hR2
              have HK2 := Lib.hid hK2
              clear hE2 hR2 hK2
              go_upto_if 48 with fail
              go_cut [9] (fun s wx => s = .bool true ∧ Hid (Ext w0 wx) ∧ Hid (Own wx w0.heap.size (.slice (some ⟨bR, 0, none⟩) n cR) R) ∧ Hid (Own wx w0.heap.size (.slice (some ⟨bK, 0, none⟩) k cK) (K.set b (rv + wv))))
              case first =>
                clear HXM HXW HIN HS0 HST0 HLL HRR HKK HE hcell hwc hwp hq1 HB HWV
                go_wp2_with fail
                first | go_region_with fail | fail
                all_goals
                  go_wp2_with fail
                  go_meet
                  exact ⟨rfl, Lib.hid (HE2.out.trans (by (repeat (first | exact Ext.refl _ | apply Ext.drew)))), Lib.hid (HR2.out.ext (by (repeat (first | exact Ext.refl _ | apply Ext.drew)))), Lib.hid (HK2.out.ext (by (repeat (first | exact Ext.refl _ | apply Ext.drew))))⟩
              case rest =>
              rename World => wx2
              clear q1 q2 q3 k1 k2 HE2 HR2 HK2
              obtain ⟨rfl, hE3, hR3, hK3⟩ := hcut
              go_upto_region 11 with fail
              go_cut [84] (fun s wx => s = .bool false ∧ Hid (Ext wx2 wx))
              case first =>
                go_quiet (fail)
                all_goals
                  go_wp2_with fail
                  go_meet
                  exact ⟨by first | rfl | (simp; omega) | simp, Lib.hid ((Ext.refl _).drewN _)⟩
              case rest =>
              rename World => wx3
              obtain ⟨rfl, hewx3⟩ := hcut
              have HE4 := Lib.hid (hE3.out.trans hewx3.out)
              have HR4 := Lib.hid (hR3.out.ext hewx3.out)
              have HK4 := Lib.hid (hK3.out.ext hewx3.out)
              go_wp2_with fail
              go_roundw
              case rel => exact ⟨b + 1, R, _, true, L + 100, by omega, by go_num, rfl, by omega, HE4, HR4, HK4, HN, HL⟩
              case measure => simp [intOf]; omega
            · have HN := Lib.hid (rx_skip1 hS.out HB.out HWV.out hrv hkv hcond)
              have HL := hL
              have HE0 := hE
              have HR0 := hR
              have HK0 := hK
              clear hE hR hK hL hS hrput hkput hrf hkf hrv hkv hwp1 hrc hkc hw1
              go_upto_region 8 with fail
              go_cut [48] (fun s wx => s = .bool false ∧ Hid (Ext wb wx))
              case first =>
                clear HXM HXW HIN HS0 HST0 HLL HRR HKK HE hcell hwc hwp hq1 HB HWV
                obtain ⟨q1, q2, q3, q4, _⟩ := HC.out wb (Ext.refl wb)
                go_quiet (fail)
                all_goals
                  go_wp2_with fail
                  go_meet
                  exact ⟨by first | rfl | (simp; omega) | simp, Lib.hid ((Ext.refl _).drewN _)⟩
              case rest =>
              rename World => wx1
              obtain ⟨rfl, hewx1⟩ := hcut
              go_upto_region 11 with fail
              go_cut [84] (fun s wx => s = .bool false ∧ Hid (Ext wx1 wx))
              case first =>
                go_quiet (fail)
                all_goals
                  go_wp2_with fail
                  go_meet
                  exact ⟨by first | rfl | (simp; omega) | simp, Lib.hid ((Ext.refl _).drewN _)⟩
              case rest =>
              rename World => wx2
              obtain ⟨rfl, hewx2⟩ := hcut
              have HX2 := Lib.hid (hewx1.out.trans hewx2.out)
              have HE4 := Lib.hid (HE0.out.trans HX2.out)
              have HR4 := Lib.hid (HR0.out.ext HX2.out)
              have HK4 := Lib.hid (HK0.out.ext HX2.out)
              go_wp2_with fail
              go_roundw
              case rel => exact ⟨b + 1, R, K, f, L, by omega, by go_num, rfl, by omega, HE4, HR4, HK4, HN, HL⟩
              case measure => simp [intOf]; omega
        · obtain rfl : b = k := by omega
          have HN : Hid (rxAll m wt b (a + 1) S0 = (R, K, f)) := Lib.hid (by rw [rxAll_succ]; exact hS.out)
          go_wp2_with fail
          go_roundw
          case rel => exact ⟨a + 1, R, K, f, L, by omega, by go_num, rfl, by omega, hE, hR, hK, HN, hL⟩
          case measure => simp [intOf]; omega
    · obtain rfl : a = n := by omega
      go_wp2_with fail
      go_ret
      exact ⟨R, K, f, rfl, hS.out, hR.out, hK.out, hL.out.mono (by omega), hE.out⟩
end Go.Proofs.Ytnnkondlefjkcaa
