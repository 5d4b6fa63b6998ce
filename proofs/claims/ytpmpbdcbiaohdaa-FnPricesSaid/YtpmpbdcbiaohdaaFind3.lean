/- FindPrices in the program. -/
import Derived.Test.YtpmpbdcbiaohdaaFind2
import Derived.Test.YtpmpbdcbiaohdaaCopy
import Derived.Test.YtpmpbdcbiaohdaaMaA
namespace Go.Proofs.Ytpmpbdcbiaohdaa
open Go.RowKit Tomo

theorem Own.rebase {w : World} {B B' b n c : Nat} {xs : List Int} (h : Own w B (.slice (some ⟨b, 0, none⟩) n c) xs) (hb : B' ≤ b) : Own w B' (.slice (some ⟨b, 0, none⟩) n c) xs := by
  obtain ⟨h1, h2⟩ := h
  refine ⟨h1, ?_⟩
  rcases h2 with ⟨hv, _⟩ | ⟨g, cap, cur, hv, _, hr⟩
  · cases hv
  · refine Or.inr ⟨g, cap, cur, hv, ?_, hr⟩
    cases hv
    exact hb

set_option maxRecDepth 100000 in
set_option maxHeartbeats 16000000 in
theorem implFindPrices_any (A B : Option Addr) (ca cb : Nat) (wt m : Grid) (w : World) (hl : wt.length ≤ 1048576) (hr : ∀ r ∈ wt, r.length ≤ 1048576) (hl2 : m.length ≤ 1048576) (hr2 : ∀ r ∈ m, r.length ≤ 1048576) (hx : GridAt w A wt) (hy : GridAt w B m) :
    Calls Try.prog 12 #[.slice A wt.length ca, .slice B m.length cb] w fun e w' => ∃ v1 v2 mid, e = .returned (.tuple #[v1, v2, .bool (fpI wt m).isSome]) ∧ w.heap.size ≤ mid ∧ mid ≤ w'.heap.size ∧ OwnIn w' w.heap.size mid v1 (fpA wt m) ∧ OwnIn w' mid w'.heap.size v2 (fpB wt m) ∧ Ext w w' := by
  have cw := implWeightOf_any A B ca cb wt m w hl hr hl2 hr2 hx hy
  obtain ⟨p, hp⟩ : ∃ p, (weightOf wt m).1 = p := ⟨_, rfl⟩
  obtain ⟨z, hz⟩ : ∃ z, (weightOf wt m).2 = z := ⟨_, rfl⟩
  rw [hp, hz] at cw
  clear hp
  cases z
  · have HN : Hid (fpI wt m = none) := Lib.hid (by unfold fpI; rw [hz]; rfl)
    have HA : Hid (fpA wt m = [] ∧ fpB wt m = []) := Lib.hid (by unfold fpA fpB; rw [HN.out]; exact ⟨rfl, rfl⟩)
    clear hx hy hz
    go_enter Try.func12, Try.ntmps12
    go_wp2_with (go_at_call 9; refine cw.mono ?_; rintro e w' ⟨rfl, rfl⟩)
    go_ret3
    exact ⟨_, _, w.heap.size, by rw [HN.out]; rfl, Nat.le_refl _, Nat.le_refl _, by rw [HA.out.1]; exact ⟨Own.nil _ _, fun b hb => by cases hb⟩, by rw [HA.out.2]; exact ⟨Own.nil _ _, fun b hb => by cases hb⟩, Ext.refl _⟩
  have hin := fp_in hz
  have HRES : Hid (fpI wt m = fpFrom m wt m.length (m.headD []).length (m.length + (m.headD []).length + 1) (List.replicate m.length 0) (List.replicate (m.headD []).length 0)) := Lib.hid (by unfold fpI; rw [if_pos hz])
  rw [hin.sw.1] at cw hl ⊢
  obtain ⟨n, hgn⟩ : ∃ n, m.length = n := ⟨_, rfl⟩
  obtain ⟨k, hgk⟩ : ∃ k, (m.headD []).length = k := ⟨_, rfl⟩
  rw [hgn] at cw hin HRES hl hl2 ⊢
  rw [hgk] at hin HRES
  clear hz hgn hgk hr hr2
  have HAB : Hid (∀ p q, fpI wt m = some (p, q) → fpA wt m = p ∧ fpB wt m = q) := Lib.hid fun p q h => by unfold fpA fpB; rw [h]; exact ⟨rfl, rfl⟩
  have HNO : Hid (fpI wt m = none → fpA wt m = [] ∧ fpB wt m = []) := Lib.hid fun h => by unfold fpA fpB; rw [h]; exact ⟨rfl, rfl⟩
  obtain ⟨RES, hRES⟩ : ∃ RES, fpI wt m = RES := ⟨_, rfl⟩
  rw [hRES] at HRES HAB HNO ⊢
  obtain ⟨PA, hPA⟩ : ∃ PA, fpA wt m = PA := ⟨_, rfl⟩
  obtain ⟨PB, hPB⟩ : ∃ PB, fpB wt m = PB := ⟨_, rfl⟩
  rw [hPA, hPB] at HAB HNO ⊢
  clear hRES hPA hPB
  obtain ⟨hn1, hn5⟩ := hin.n1
  obtain ⟨hk1, hk5⟩ := hin.k1
  obtain ⟨bm, om, _, _, _, hA, hbm, _⟩ := hy.at_ (k := 0) (by rw [hin.sm.1]; omega)
  subst hA
  obtain ⟨bw, ow, _, _, _, hA, _⟩ := hx.at_ (k := 0) (by rw [hin.sw.1]; omega)
  subst hA
  obtain ⟨Rh, ch, q0, _⟩ := hin.sm.mem hy (y := 0) (by omega)
  rw [Nat.add_zero] at q0
  have HQ0 : Hid (∀ W, Ext w W → W.cell? ⟨bm, om, none⟩ = some (.slice Rh k ch)) := Lib.hid fun W e => (e.cell hbm).trans q0
  have HIN := Lib.hid hin
  have HXW := Lib.hid hx
  have HXM := Lib.hid hy
  have hmk1 := run_make_row' (P := Try.prog) 27 3 (.int .i64 0) 8 Try.underlying27 infoInt rfl .i64 .i64 n (by omega) (by omega)
  have hmk2 := run_make_row' (P := Try.prog) 27 3 (.int .i64 0) 8 Try.underlying27 infoInt rfl .i64 .i64 k (by omega) (by omega)
  have hz1 : (w.alloc (.cells (madeCells #[.int .i64 0] n) 3)).heap.size = w.heap.size + 1 := by simp
  have HR0 : Hid (Own ((w.alloc (.cells (madeCells #[.int .i64 0] n) 3)).alloc (.cells (madeCells #[.int .i64 0] k) 3)) w.heap.size (.slice (some ⟨w.heap.size, 0, none⟩) n n) (List.replicate n 0)) := Lib.hid ((own_zeros w n (by omega)).ext ((Ext.refl _).alloc _))
  have HK0 : Hid (Own ((w.alloc (.cells (madeCells #[.int .i64 0] n) 3)).alloc (.cells (madeCells #[.int .i64 0] k) 3)) w.heap.size (.slice (some ⟨w.heap.size + 1, 0, none⟩) k k) (List.replicate k 0)) := Lib.hid (by
    have h := (own_zeros (w.alloc (.cells (madeCells #[.int .i64 0] n) 3)) k (by omega)).base (B' := w.heap.size) (by rw [hz1]; omega)
    rw [hz1] at h
    exact h)
  have HE0 : Hid (Ext w ((w.alloc (.cells (madeCells #[.int .i64 0] n) 3)).alloc (.cells (madeCells #[.int .i64 0] k) 3))) := Lib.hid (((Ext.refl w).alloc _).alloc _)
  have HL0 := Lib.hid (RxOk.zero n k)
  have qa := HQ0.out _ ((Ext.refl w).alloc (.cells (madeCells #[.int .i64 0] n) 3))
  clear hin hx hy q0 hz1
  go_enter Try.func12, Try.ntmps12
  go_wp2_with (go_at_call 9; refine cw.mono ?_; rintro e w' ⟨rfl, rfl⟩)
  clear cw hmk1 hmk2 qa
  have hne : w.heap.size ≠ w.heap.size + 1 := by omega
  go_loopw [11, 12, 13, 14, 15, 16] (fun i _ _ _ _ _ wr => ∃ (t : Nat) (R K : List Int) (L : Nat), t ≤ n + k + 1 ∧ i = .int .i64 t ∧ L ≤ 2500 * t ∧ Hid (Ext w wr) ∧ Hid (Own wr w.heap.size (.slice (some ⟨w.heap.size, 0, none⟩) n n) R) ∧ Hid (Own wr w.heap.size (.slice (some ⟨w.heap.size + 1, 0, none⟩) k k) K) ∧ Hid (RxOk n k L R K) ∧ Hid (fpFrom m wt n k (n + k + 1 - t) R K = RES)) (fun i _ _ _ _ _ _ => n + k + 1 - (intOf i).toNat)
  case atStart => exact ⟨0, _, _, 0, by omega, rfl, by omega, HE0, HR0, HK0, HL0, Lib.hid HRES.out.symm⟩
  case round =>
    rename World => w1
    clear HE0 HR0 HK0 HL0 HRES
    obtain ⟨t, R1, K1, L1, ht, rfl, hLt, hE1, hR1, hK1, hL1, hF1⟩ := hrel
    have qb := HQ0.out w1 hE1.out
    by_cases hlt0 : t ≤ n + k
    · have hf1 : Hid (n + k + 1 - t = (n + k - t) + 1) := Lib.hid (by omega)
      obtain ⟨S0, hS0⟩ : ∃ S0, S0 = (R1, K1, false) := ⟨_, rfl⟩
      have HS0 : Hid (rxAll m wt k 0 S0 = (R1, K1, false)) := Lib.hid (by rw [hS0]; rfl)
      have HSE := Lib.hid hS0
      clear hS0
      have hlt2 : (t : Int) ≤ (n : Int) + (k : Int) := by omega
      go_wp2_with fail
      have HLT := Lib.hid hlt0
      clear hlt0
      go_loopw [47, 12, 13, 14, 15, 16] (fun i fl _ _ _ _ wr => ∃ (a : Nat) (R K : List Int) (f : Bool) (L : Nat), a ≤ n ∧ i = .int .i64 a ∧ fl = .bool f ∧ L ≤ L1 + 500 * a ∧ Hid (Ext w wr) ∧ Hid (Own wr w.heap.size (.slice (some ⟨w.heap.size, 0, none⟩) n n) R) ∧ Hid (Own wr w.heap.size (.slice (some ⟨w.heap.size + 1, 0, none⟩) k k) K) ∧ Hid (rxAll m wt k a S0 = (R, K, f)) ∧ Hid (RxOk n k L R K)) (fun i _ _ _ _ _ _ => n - (intOf i).toNat)
      case atStart => exact ⟨0, _, _, false, L1, Nat.zero_le _, rfl, rfl, by omega, hE1, hR1, hK1, HS0, hL1⟩
      case round =>
        rename World => wa
        obtain ⟨a, R, K, f, L, ha, rfl, rfl, hLb, hE, hR, hK, hS, hL⟩ := hrel
        by_cases hlt : a < n
        · obtain ⟨Rm, cm, hq0, hcell⟩ := HIN.out.sm.mem HXM.out hlt
          obtain ⟨Rw0, cw, hwp, hwc⟩ := HIN.out.sw.mem HXW.out hlt
          have hq1 := (hE.out.cell (World.block_lt_of_cell? _ _ hq0)).trans hq0
          clear hq0
          have HSA : Hid (rxRow m wt a 0 (rxAll m wt k a S0) = (R, K, f)) := Lib.hid hS.out
          go_wp2_with fail
          go_loopw [54, 12, 15, 16] (fun i fl _ _ wr => ∃ (b : Nat) (R K : List Int) (f : Bool) (L : Nat), b ≤ k ∧ i = .int .i64 b ∧ fl = .bool f ∧ L ≤ L1 + 500 * a + 100 * b ∧ Hid (Ext w wr) ∧ Hid (Own wr w.heap.size (.slice (some ⟨w.heap.size, 0, none⟩) n n) R) ∧ Hid (Own wr w.heap.size (.slice (some ⟨w.heap.size + 1, 0, none⟩) k k) K) ∧ Hid (rxRow m wt a b (rxAll m wt k a S0) = (R, K, f)) ∧ Hid (RxOk n k L R K)) (fun i _ _ _ _ => k - (intOf i).toNat)
          case atStart => exact ⟨0, R, K, f, L, Nat.zero_le _, rfl, rfl, by omega, hE, hR, hK, HSA, hL⟩
          case round =>
            rename World => wb
            clear hE hR hK hS hL HSA hLb
            obtain ⟨b, R, K, f, L, hbk, rfl, rfl, hLb, hE, hR, hK, hS, hL⟩ := hrel
            by_cases hltb : b < k
            · obtain ⟨R', ro, rfl, hc1⟩ := hcell.out wb hE.out b hltb
              obtain ⟨Rw, rw', rfl, hw1⟩ := hwc.out wb hE.out b hltb
              have hwp1 := (hE.out.cell (World.block_lt_of_cell? _ _ hwp)).trans hwp
              obtain ⟨⟨rv, hrv, hrc⟩, hrf, hrput, hbR⟩ := hR.out.row (j := a) (by rw [hL.out.n]; exact hlt)
              obtain ⟨⟨kv, hkv, hkc⟩, hkf, hkput, hbK⟩ := hK.out.row (j := b) (by rw [hL.out.k]; exact hltb)
              obtain ⟨hrb1, hrb2⟩ := hL.out.r rv (List.mem_of_getElem? hrv)
              obtain ⟨hkb1, hkb2⟩ := hL.out.c kv (List.mem_of_getElem? hkv)
              obtain ⟨wv, hwv⟩ : ∃ wv, at2 wt a b = wv := ⟨_, rfl⟩
              have hwb := HIN.out.wb a b hlt hltb
              rw [hwv] at hw1 hwb
              obtain ⟨hwb1, hwb2⟩ := hwb
              have HC : Hid (∀ W, Ext wb W → W.cell? ⟨w.heap.size, a, none⟩ = some (.int .i64 rv) ∧ W.cell? ⟨bw, ow + a, none⟩ = some (.slice (some ⟨Rw, rw', none⟩) k cw) ∧ W.cell? ⟨Rw, rw' + b, none⟩ = some (.int .i64 wv) ∧ W.cell? ⟨w.heap.size + 1, b, none⟩ = some (.int .i64 kv) ∧ Ext wb W) := Lib.hid fun W e => ⟨(e.cell (World.block_lt_of_cell? _ _ hrc)).trans hrc, (e.cell (World.block_lt_of_cell? _ _ hwp1)).trans hwp1, (e.cell (World.block_lt_of_cell? _ _ hw1)).trans hw1, (e.cell (World.block_lt_of_cell? _ _ hkc)).trans hkc, e⟩
              have hlK := hL.out.k
              have hlR := hL.out.n
              have HWV := Lib.hid hwv
              clear hwv
              have g1 : (0 : Int) ≤ (a : Int) := by omega
              have g2 : (a : Int) < (n : Int) := by omega
              have g3 : (0 : Int) ≤ (b : Int) := by omega
              have g4 : (b : Int) < (k : Int) := by omega
              rcases HIN.out.bit a b hlt hltb with hbit | hbit
              · have HB := Lib.hid hbit
                rw [hbit] at hc1
                clear hbit
                have hws : IntKind.i64.wrap (kv - wv) = kv - wv := IntWalk.i64_in _ (by omega)
                by_cases hcond : kv - wv < rv
                · have HN := Lib.hid (rx_hit0 hS.out HB.out HWV.out hrv hkv hcond)
                  have HL := Lib.hid (hL.out.setR (b := a) (v := kv - wv) (by omega))
                  have HST : Hid (∀ W, Ext wb W → W.cell? ⟨w.heap.size, a, none⟩ = some (.int .i64 rv) ∧ W.frozen? ⟨w.heap.size, a, none⟩ = false ∧ Ext w (W.setCell ⟨w.heap.size, a, none⟩ (.int .i64 (kv - wv))) ∧ Own (W.setCell ⟨w.heap.size, a, none⟩ (.int .i64 (kv - wv))) w.heap.size (.slice (some ⟨w.heap.size + 1, 0, none⟩) k k) K ∧ Own (W.setCell ⟨w.heap.size, a, none⟩ (.int .i64 (kv - wv))) w.heap.size (.slice (some ⟨w.heap.size, 0, none⟩) n n) (R.set a (kv - wv))) := Lib.hid fun W e => by
                    obtain ⟨_, hf', hput', hb'⟩ := (hR.out.ext e).row (j := a) (by omega)
                    exact ⟨(e.cell (World.block_lt_of_cell? _ _ hrc)).trans hrc, hf', Below.setCell (hE.out.trans e) hb' _, (hK.out.ext e).setOther (Ne.symm hne) _, hput'.out _⟩
                  have HE0 := hE
                  have HR0 := hR
                  have HK0 := hK
                  clear hE hR hK hL hS hrput hkput hrf hkf hrv hkv hwp1 hrc hkc hw1
                  go_upto_region 16 with fail
                  go_cut [79] (fun s wx => s = .bool false ∧ Hid (Ext wb wx))
                  case first =>
                    go_quiet (fail)
                    all_goals
                      go_wp2_with fail
                      go_meet
                      exact ⟨by first | rfl | (simp; omega) | simp, Lib.hid ((Ext.refl _).drewN _)⟩
                  case rest =>
                  rename World => wx1
                  obtain ⟨rfl, hewx1⟩ := hcut
                  go_upto_region 19 with fail
                  go_cut [115] (fun s wx => s = .bool true ∧ Hid (Ext wx1 wx))
                  case first =>
                    clear HXM HXW HIN hcell hwc hwp hq1 HB HWV HQ0 HAB HNO hE1 hR1 hK1 hL1 hF1 HS0 HSE hf1
                    obtain ⟨q1, q2, q3, q4, _⟩ := HC.out wx1 hewx1.out
                    go_quiet (fail)
                    all_goals
                      go_wp2_with fail
                      go_meet
                      exact ⟨by first | rfl | (simp; omega) | simp, Lib.hid ((Ext.refl _).drewN _)⟩
                  case rest =>
                  rename World => wx2
                  obtain ⟨rfl, hewx2⟩ := hcut
                  have HX2 := Lib.hid (hewx1.out.trans hewx2.out)
                  obtain ⟨_, q2, q3, q4, _⟩ := HC.out wx2 HX2.out
                  obtain ⟨k1, k2, hE2, hR2, hK2⟩ := HST.out wx2 HX2.out
                  have HE2 := Lib.hid hE2
                  have HR2 := Lib.hid hK2
                  have HK2 := Lib.hid hR2
                  clear hE2 hR2 hK2
                  clear HXM HXW HIN hcell hwc hwp hq1 HB HWV HQ0 HAB HNO hE1 hR1 hK1 hL1 hF1 HS0 HSE hf1
                  go_wp2_with fail
                  first | go_region_with fail | fail
                  all_goals
                    go_wp2_with fail
                    go_roundw
                    case rel => exact ⟨b + 1, _, K, true, L + 100, by omega, by go_num, rfl, by omega, Lib.hid (HE2.out.trans (by (repeat (first | exact Ext.refl _ | apply Ext.drew)))), Lib.hid (HR2.out.ext (by (repeat (first | exact Ext.refl _ | apply Ext.drew)))), Lib.hid (HK2.out.ext (by (repeat (first | exact Ext.refl _ | apply Ext.drew)))), HN, HL⟩
                    case measure => simp [intOf]; omega
                · have HN := Lib.hid (rx_skip0 hS.out HB.out HWV.out hrv hkv hcond)
                  have HL := hL
                  have HE0 := hE
                  have HR0 := hR
                  have HK0 := hK
                  clear hE hR hK hL hS hrput hkput hrf hkf hrv hkv hwp1 hrc hkc hw1
                  go_upto_region 16 with fail
                  go_cut [79] (fun s wx => s = .bool false ∧ Hid (Ext wb wx))
                  case first =>
                    go_quiet (fail)
                    all_goals
                      go_wp2_with fail
                      go_meet
                      exact ⟨by first | rfl | (simp; omega) | simp, Lib.hid ((Ext.refl _).drewN _)⟩
                  case rest =>
                  rename World => wx1
                  obtain ⟨rfl, hewx1⟩ := hcut
                  go_upto_region 19 with fail
                  go_cut [115] (fun s wx => s = .bool false ∧ Hid (Ext wx1 wx))
                  case first =>
                    clear HXM HXW HIN hcell hwc hwp hq1 HB HWV HQ0 HAB HNO hE1 hR1 hK1 hL1 hF1 HS0 HSE hf1
                    obtain ⟨q1, q2, q3, q4, _⟩ := HC.out wx1 hewx1.out
                    go_quiet (fail)
                    all_goals
                      go_wp2_with fail
                      go_meet
                      exact ⟨by first | rfl | (simp; omega) | simp, Lib.hid ((Ext.refl _).drewN _)⟩
                  case rest =>
                  rename World => wx2
                  obtain ⟨rfl, hewx2⟩ := hcut
                  have HX2 := Lib.hid (hewx1.out.trans hewx2.out)
                  have HE4 := Lib.hid (HE0.out.trans HX2.out)
                  have HR4 := Lib.hid (HR0.out.ext HX2.out)
                  have HK4 := Lib.hid (HK0.out.ext HX2.out)
                  go_wp2_with fail
                  go_roundw
                  case rel => exact ⟨b + 1, R, K, f, L, by omega, by go_num, rfl, by omega, HE4, HR4, HK4, HN, HL⟩
                  case measure => simp [intOf]; omega
              · have HB := Lib.hid hbit
                rw [hbit] at hc1
                clear hbit
                have hws : IntKind.i64.wrap (rv + wv) = rv + wv := IntWalk.i64_in _ (by omega)
                by_cases hcond : rv + wv < kv
                · have HN := Lib.hid (rx_hit1 hS.out HB.out HWV.out hrv hkv hcond)
                  have HL := Lib.hid (hL.out.setK (b := b) (v := rv + wv) (by omega))
                  have HST : Hid (∀ W, Ext wb W → W.cell? ⟨w.heap.size + 1, b, none⟩ = some (.int .i64 kv) ∧ W.frozen? ⟨w.heap.size + 1, b, none⟩ = false ∧ Ext w (W.setCell ⟨w.heap.size + 1, b, none⟩ (.int .i64 (rv + wv))) ∧ Own (W.setCell ⟨w.heap.size + 1, b, none⟩ (.int .i64 (rv + wv))) w.heap.size (.slice (some ⟨w.heap.size, 0, none⟩) n n) R ∧ Own (W.setCell ⟨w.heap.size + 1, b, none⟩ (.int .i64 (rv + wv))) w.heap.size (.slice (some ⟨w.heap.size + 1, 0, none⟩) k k) (K.set b (rv + wv))) := Lib.hid fun W e => by
                    obtain ⟨_, hf', hput', hb'⟩ := (hK.out.ext e).row (j := b) (by omega)
                    exact ⟨(e.cell (World.block_lt_of_cell? _ _ hkc)).trans hkc, hf', Below.setCell (hE.out.trans e) hb' _, (hR.out.ext e).setOther hne _, hput'.out _⟩
                  have HE0 := hE
                  have HR0 := hR
                  have HK0 := hK
                  clear hE hR hK hL hS hrput hkput hrf hkf hrv hkv hwp1 hrc hkc hw1
                  go_upto_region 16 with fail
                  go_cut [79] (fun s wx => s = .bool true ∧ Hid (Ext wb wx))
                  case first =>
                    clear HXM HXW HIN hcell hwc hwp hq1 HB HWV HQ0 HAB HNO hE1 hR1 hK1 hL1 hF1 HS0 HSE hf1
                    obtain ⟨q1, q2, q3, q4, _⟩ := HC.out wb (Ext.refl wb)
                    go_quiet (fail)
                    all_goals
                      go_wp2_with fail
                      go_meet
                      exact ⟨by first | rfl | (simp; omega) | simp, Lib.hid ((Ext.refl _).drewN _)⟩
                  case rest =>
                  rename World => wx1
                  obtain ⟨rfl, hewx1⟩ := hcut
                  obtain ⟨q1, q2, q3, _, _⟩ := HC.out wx1 hewx1.out
                  obtain ⟨k1, k2, hE2, hR2, hK2⟩ := HST.out wx1 hewx1.out
                  have HE2 := Lib.hid hE2
                  have HR2 := Lib.hid hR2
                  have HK2 := Lib.hid hK2
                  clear hE2 hR2 hK2
                  go_upto_if 79 with fail
                  go_cut [12] (fun s wx => s = .bool true ∧ Hid (Ext w wx) ∧ Hid (Own wx w.heap.size (.slice (some ⟨w.heap.size, 0, none⟩) n n) R) ∧ Hid (Own wx w.heap.size (.slice (some ⟨w.heap.size + 1, 0, none⟩) k k) (K.set b (rv + wv))))
                  case first =>
                    clear HXM HXW HIN hcell hwc hwp hq1 HB HWV HQ0 HAB HNO hE1 hR1 hK1 hL1 hF1 HS0 HSE hf1
                    go_wp2_with fail
                    first | go_region_with fail | fail
                    all_goals
                      go_wp2_with fail
                      go_meet
                      exact ⟨rfl, Lib.hid (HE2.out.trans (by (repeat (first | exact Ext.refl _ | apply Ext.drew)))), Lib.hid (HR2.out.ext (by (repeat (first | exact Ext.refl _ | apply Ext.drew)))), Lib.hid (HK2.out.ext (by (repeat (first | exact Ext.refl _ | apply Ext.drew))))⟩
                  case rest =>
                  rename World => wx2
                  clear q1 q2 q3 k1 k2 HE2 HR2 HK2
                  obtain ⟨rfl, hE3, hR3, hK3⟩ := hcut
                  go_upto_region 19 with fail
                  go_cut [115] (fun s wx => s = .bool false ∧ Hid (Ext wx2 wx))
                  case first =>
                    go_quiet (fail)
                    all_goals
                      go_wp2_with fail
                      go_meet
                      exact ⟨by first | rfl | (simp; omega) | simp, Lib.hid ((Ext.refl _).drewN _)⟩
                  case rest =>
                  rename World => wx3
                  obtain ⟨rfl, hewx3⟩ := hcut
                  have HE4 := Lib.hid (hE3.out.trans hewx3.out)
                  have HR4 := Lib.hid (hR3.out.ext hewx3.out)
                  have HK4 := Lib.hid (hK3.out.ext hewx3.out)
                  go_wp2_with fail
                  go_roundw
                  case rel => exact ⟨b + 1, R, _, true, L + 100, by omega, by go_num, rfl, by omega, HE4, HR4, HK4, HN, HL⟩
                  case measure => simp [intOf]; omega
                · have HN := Lib.hid (rx_skip1 hS.out HB.out HWV.out hrv hkv hcond)
                  have HL := hL
                  have HE0 := hE
                  have HR0 := hR
                  have HK0 := hK
                  clear hE hR hK hL hS hrput hkput hrf hkf hrv hkv hwp1 hrc hkc hw1
                  go_upto_region 16 with fail
                  go_cut [79] (fun s wx => s = .bool false ∧ Hid (Ext wb wx))
                  case first =>
                    clear HXM HXW HIN hcell hwc hwp hq1 HB HWV HQ0 HAB HNO hE1 hR1 hK1 hL1 hF1 HS0 HSE hf1
                    obtain ⟨q1, q2, q3, q4, _⟩ := HC.out wb (Ext.refl wb)
                    go_quiet (fail)
                    all_goals
                      go_wp2_with fail
                      go_meet
                      exact ⟨by first | rfl | (simp; omega) | simp, Lib.hid ((Ext.refl _).drewN _)⟩
                  case rest =>
                  rename World => wx1
                  obtain ⟨rfl, hewx1⟩ := hcut
                  go_upto_region 19 with fail
                  go_cut [115] (fun s wx => s = .bool false ∧ Hid (Ext wx1 wx))
                  case first =>
                    go_quiet (fail)
                    all_goals
                      go_wp2_with fail
                      go_meet
                      exact ⟨by first | rfl | (simp; omega) | simp, Lib.hid ((Ext.refl _).drewN _)⟩
                  case rest =>
                  rename World => wx2
                  obtain ⟨rfl, hewx2⟩ := hcut
                  have HX2 := Lib.hid (hewx1.out.trans hewx2.out)
                  have HE4 := Lib.hid (HE0.out.trans HX2.out)
                  have HR4 := Lib.hid (HR0.out.ext HX2.out)
                  have HK4 := Lib.hid (HK0.out.ext HX2.out)
                  go_wp2_with fail
                  go_roundw
                  case rel => exact ⟨b + 1, R, K, f, L, by omega, by go_num, rfl, by omega, HE4, HR4, HK4, HN, HL⟩
                  case measure => simp [intOf]; omega
            · obtain rfl : b = k := by omega
              have HN : Hid (rxAll m wt b (a + 1) S0 = (R, K, f)) := Lib.hid (by rw [rxAll_succ]; exact hS.out)
              go_wp2_with fail
              go_roundw
              case rel => exact ⟨a + 1, R, K, f, L, by omega, by go_num, rfl, by omega, hE, hR, hK, HN, hL⟩
              case measure => simp [intOf]; omega
        · obtain rfl : a = n := by omega
          cases f
          · have HP : Hid (RES = some (R.map (fun x => -x), K)) := Lib.hid (by rw [← hF1.out, hf1.out, fp_end (show rxAll m wt k a (R1, K1, false) = (R, K, false) by rw [← HSE.out]; exact hS.out)])
            have HN0 : Hid (Own wa w.heap.size (.slice (some ⟨w.heap.size, 0, none⟩) a a) (((R.take 0).map fun x => -x) ++ R.drop 0)) := Lib.hid (by rw [List.take_zero, List.drop_zero]; exact hR.out)
            have hlR := hL.out.n
            go_wp2_with fail
            go_loopw [137, 17] (fun i _ wr => ∃ (c : Nat), c ≤ a ∧ i = .int .i64 c ∧ Hid (Own wr w.heap.size (.slice (some ⟨w.heap.size, 0, none⟩) a a) (((R.take c).map fun x => -x) ++ R.drop c)) ∧ Hid (Own wr w.heap.size (.slice (some ⟨w.heap.size + 1, 0, none⟩) k k) K) ∧ Hid (Ext w wr)) (fun i _ _ => a - (intOf i).toNat)
            case atStart => exact ⟨0, Nat.zero_le _, rfl, HN0, hK, hE⟩
            case round =>
              rename World => wo
              clear HN0 hE hR hK
              obtain ⟨c, hc, rfl, ho, hK, hE⟩ := hrel
              have hll : ((R.take c).map fun x => -x).length = c := by rw [List.length_map, List.length_take]; omega
              by_cases hlc : c < a
              · obtain ⟨x, hx⟩ : ∃ x, R[c]? = some x := ⟨R[c], List.getElem?_eq_getElem (by omega)⟩
                obtain ⟨hx1, hx2⟩ := hL.out.r x (List.mem_of_getElem? hx)
                have hrd := mark_read hll hx
                obtain ⟨⟨x', hx', hxc⟩, hxf, hput, hbR⟩ := ho.out.row (j := c) (by rw [List.length_append, hll, List.length_drop]; omega)
                rw [hrd] at hx'
                cases hx'
                have hwn : IntKind.i64.wrap (-x) = -x := IntWalk.i64_in _ (by omega)
                have HN : Hid (Own (wo.setCell ⟨w.heap.size, c, none⟩ (.int .i64 (-x))) w.heap.size (.slice (some ⟨w.heap.size, 0, none⟩) a a) (((R.take (c + 1)).map fun x => -x) ++ R.drop (c + 1))) := Lib.hid (by
                  have h := hput.out (-x)
                  rw [mark_step hll hx] at h
                  rw [take_succ_of hx, List.map_append]
                  exact h)
                have HK2 := Lib.hid (hK.out.setOther (Ne.symm hne) (j := c) (.int .i64 (-x)))
                have HE2 : Hid (Ext w (wo.setCell ⟨w.heap.size, c, none⟩ (.int .i64 (-x)))) := Lib.hid (Below.setCell hE.out hbR _)
                clear hput ho hK hE hx hrd hll
                go_wp2_with fail
                go_roundw
                case rel => exact ⟨c + 1, by omega, by go_num, HN, HK2, HE2⟩
                case measure => simp [intOf]; omega
              · obtain rfl : c = a := by omega
                have HO2 : Hid (Own wo w.heap.size (.slice (some ⟨w.heap.size, 0, none⟩) c c) (R.map fun x => -x)) := Lib.hid (by
                  have h := ho.out
                  rw [List.take_of_length_le (by omega), List.drop_of_length_le (by omega), List.append_nil] at h
                  exact h)
                go_wp2_with fail
                go_ret3
                refine ⟨_, _, w.heap.size + 1, by rw [HP.out]; rfl, by omega, ?_, ⟨by rw [(HAB.out _ _ HP.out).1]; exact HO2.out, fun b hb => ?_⟩, ⟨by rw [(HAB.out _ _ HP.out).2]; exact hK.out.rebase (Nat.le_refl _), fun b hb => (hK.out.lt hb).2⟩, hE.out⟩
                · have hs2 : w.heap.size + 1 < wo.heap.size := (hK.out.lt rfl).2
                  omega
                · have : w.heap.size = b := by simpa [Value.ownBlock] using hb
                  omega
          · have HN : Hid (fpFrom m wt a k (a + k + 1 - (t + 1)) R K = RES) := Lib.hid (by
              rw [show a + k + 1 - (t + 1) = a + k - t by have := HLT.out; omega, ← fp_go (show rxAll m wt k a (R1, K1, false) = (R, K, true) by rw [← HSE.out]; exact hS.out), ← hf1.out]
              exact hF1.out)
            go_wp2_with fail
            go_roundw
            case rel => exact ⟨t + 1, R, K, L, by have := HLT.out; omega, by go_num, by omega, hE, hR, hK, hL, HN⟩
            case measure => have := HLT.out; simp [intOf]; omega
    · have HP : Hid (RES = none) := Lib.hid (by
        have h := hF1.out
        rw [show n + k + 1 - t = 0 by omega, fpFrom] at h
        exact h.symm)
      go_wp2_with fail
      go_ret3
      exact ⟨_, _, w.heap.size, by rw [HP.out]; rfl, Nat.le_refl _, hE1.out.size, by rw [(HNO.out HP.out).1]; exact ⟨Own.nil _ _, fun b hb => by cases hb⟩, by rw [(HNO.out HP.out).2]; exact ⟨Own.nil _ _, fun b hb => by cases hb⟩, hE1.out⟩
end Go.Proofs.Ytpmpbdcbiaohdaa
