/- FindPrices in the reference. -/
import Derived.Test.YtnnkondlefjkcaaFind2
import Derived.Test.YtnnkondlefjkcaaCopy
namespace Go.Proofs.Ytnnkondlefjkcaa
open Go.RowKit Tomo

set_option maxRecDepth 100000 in
set_option maxHeartbeats 8000000 in
theorem specFindPrices_any (A B : Option Addr) (ca cb : Nat) (wt m : Grid) (w : World) (hl : wt.length ≤ 1048576) (hr : ∀ r ∈ wt, r.length ≤ 1048576) (hl2 : m.length ≤ 1048576) (hr2 : ∀ r ∈ m, r.length ≤ 1048576) (hx : GridAt w A wt) (hy : GridAt w B m) :
    Calls Try.prog 33 #[.slice A wt.length ca, .slice B m.length cb] w fun e w' => ∃ v1 v2, e = .returned (.tuple #[v1, v2, .bool (fpI wt m).isSome]) ∧ Own w' w.heap.size v1 (fpA wt m) ∧ Own w' w.heap.size v2 (fpB wt m) ∧ Ext w w' := by
  have cw := specWeightOf_any A B ca cb wt m w hl hr hl2 hr2 hx hy
  obtain ⟨p, hp⟩ : ∃ p, (weightOf wt m).1 = p := ⟨_, rfl⟩
  obtain ⟨z, hz⟩ : ∃ z, (weightOf wt m).2 = z := ⟨_, rfl⟩
  rw [hp, hz] at cw
  clear hp
  cases z
  · have HN : Hid (fpI wt m = none) := Lib.hid (by unfold fpI; rw [hz]; rfl)
    have HA : Hid (fpA wt m = [] ∧ fpB wt m = []) := Lib.hid (by unfold fpA fpB; rw [HN.out]; exact ⟨rfl, rfl⟩)
    clear hx hy hz
    go_enter Try.func33, Try.ntmps33
    go_wp2_with (go_at_call 75; refine cw.mono ?_; rintro e w' ⟨rfl, rfl⟩)
    go_ret3
    exact ⟨_, _, by rw [HN.out]; rfl, by rw [HA.out.1]; exact Own.nil _ _, by rw [HA.out.2]; exact Own.nil _ _, Ext.refl _⟩
  have hin := fp_in hz
  have HRES : Hid (fpI wt m = fpFrom m wt m.length (m.headD []).length (m.length + (m.headD []).length + 1) (List.replicate m.length 0) (List.replicate (m.headD []).length 0)) := Lib.hid (by unfold fpI; rw [if_pos hz])
  rw [hin.sw.1] at cw hl ⊢
  obtain ⟨n, hgn⟩ : ∃ n, m.length = n := ⟨_, rfl⟩
  obtain ⟨k, hgk⟩ : ∃ k, (m.headD []).length = k := ⟨_, rfl⟩
  rw [hgn] at cw hin HRES hl hl2 ⊢
  rw [hgk] at hin HRES
  clear hz hgn hgk hr hr2
  have HAB : Hid (∀ p q, fpI wt m = some (p, q) → fpA wt m = p ∧ fpB wt m = q) := Lib.hid fun p q h => by unfold fpA fpB; rw [h]; exact ⟨rfl, rfl⟩
  have HNO : Hid (fpI wt m = none → fpA wt m = [] ∧ fpB wt m = []) := Lib.hid fun h => by unfold fpA fpB; rw [h]; exact ⟨rfl, rfl⟩
  obtain ⟨RES, hRES⟩ : ∃ RES, fpI wt m = RES := ⟨_, rfl⟩
  rw [hRES] at HRES HAB HNO ⊢
  obtain ⟨PA, hPA⟩ : ∃ PA, fpA wt m = PA := ⟨_, rfl⟩
  obtain ⟨PB, hPB⟩ : ∃ PB, fpB wt m = PB := ⟨_, rfl⟩
  rw [hPA, hPB] at HAB HNO ⊢
  clear hRES hPA hPB
  obtain ⟨hn1, hn5⟩ := hin.n1
  obtain ⟨hk1, hk5⟩ := hin.k1
  obtain ⟨bm, om, _, _, _, hA, hbm, _⟩ := hy.at_ (k := 0) (by rw [hin.sm.1]; omega)
  subst hA
  obtain ⟨bw, ow, _, _, _, hA, _⟩ := hx.at_ (k := 0) (by rw [hin.sw.1]; omega)
  subst hA
  obtain ⟨Rh, ch, q0, _⟩ := hin.sm.mem hy (y := 0) (by omega)
  rw [Nat.add_zero] at q0
  have HQ0 : Hid (∀ W, Ext w W → W.cell? ⟨bm, om, none⟩ = some (.slice Rh k ch)) := Lib.hid fun W e => (e.cell hbm).trans q0
  have HIN := Lib.hid hin
  have HXW := Lib.hid hx
  have HXM := Lib.hid hy
  have hmk1 := run_make_row' (P := Try.prog) 30 3 (.int .i64 0) 8 Try.underlying30 infoInt rfl .i64 .i64 n (by omega) (by omega)
  have hmk2 := run_make_row' (P := Try.prog) 30 3 (.int .i64 0) 8 Try.underlying30 infoInt rfl .i64 .i64 k (by omega) (by omega)
  have hz1 : (w.alloc (.cells (madeCells #[.int .i64 0] n) 3)).heap.size = w.heap.size + 1 := by simp
  have HR0 : Hid (Own ((w.alloc (.cells (madeCells #[.int .i64 0] n) 3)).alloc (.cells (madeCells #[.int .i64 0] k) 3)) w.heap.size (.slice (some ⟨w.heap.size, 0, none⟩) n n) (List.replicate n 0)) := Lib.hid ((own_zeros w n (by omega)).ext ((Ext.refl _).alloc _))
  have HK0 : Hid (Own ((w.alloc (.cells (madeCells #[.int .i64 0] n) 3)).alloc (.cells (madeCells #[.int .i64 0] k) 3)) w.heap.size (.slice (some ⟨w.heap.size + 1, 0, none⟩) k k) (List.replicate k 0)) := Lib.hid (by
    have h := (own_zeros (w.alloc (.cells (madeCells #[.int .i64 0] n) 3)) k (by omega)).base (B' := w.heap.size) (by rw [hz1]; omega)
    rw [hz1] at h
    exact h)
  have HE0 : Hid (Ext w ((w.alloc (.cells (madeCells #[.int .i64 0] n) 3)).alloc (.cells (madeCells #[.int .i64 0] k) 3))) := Lib.hid (((Ext.refl w).alloc _).alloc _)
  have HL0 := Lib.hid (RxOk.zero n k)
  have qa := HQ0.out _ ((Ext.refl w).alloc (.cells (madeCells #[.int .i64 0] n) 3))
  clear hin hx hy q0 hz1
  go_enter Try.func33, Try.ntmps33
  go_wp2_with (go_at_call 75; refine cw.mono ?_; rintro e w' ⟨rfl, rfl⟩)
  clear cw hmk1 hmk2 qa
  go_loopw [11, 12, 14] (fun i _ _ wr => ∃ (t : Nat) (R K : List Int) (L : Nat), t ≤ n + k + 1 ∧ i = .int .i64 t ∧ L ≤ 2500 * t ∧ Hid (Ext w wr) ∧ Hid (Own wr w.heap.size (.slice (some ⟨w.heap.size, 0, none⟩) n n) R) ∧ Hid (Own wr w.heap.size (.slice (some ⟨w.heap.size + 1, 0, none⟩) k k) K) ∧ Hid (RxOk n k L R K) ∧ Hid (fpFrom m wt n k (n + k + 1 - t) R K = RES)) (fun i _ _ _ => n + k + 1 - (intOf i).toNat)
  case atStart => exact ⟨0, _, _, 0, by omega, rfl, by omega, HE0, HR0, HK0, HL0, Lib.hid HRES.out.symm⟩
  case round =>
    rename World => wa
    clear HE0 HR0 HK0 HL0 HRES
    obtain ⟨t, R, K, L, ht, rfl, hLt, hE, hR, hK, hL, hF⟩ := hrel
    have qb := HQ0.out wa hE.out
    by_cases hlt : t ≤ n + k
    · have crx := l09Relax_any (some ⟨bw, ow, none⟩) (some ⟨bm, om, none⟩) ca cb wt m n k w.heap.size n (w.heap.size + 1) k L R K w wa HIN.out HXW.out HXM.out hE.out hR.out hK.out (by omega) hL.out (by omega)
      have hf1 : n + k + 1 - t = (n + k - t) + 1 := by omega
      rw [hf1] at hF
      clear hf1
      go_wp2_with fail
      refine crx.mono ?_
      rintro e w1 ⟨R', K', f, rfl, hrx, hR', hK', hL', he'⟩
      have HRX := Lib.hid hrx
      have HR' := Lib.hid hR'
      have HK' := Lib.hid hK'
      have HL' := Lib.hid hL'
      have HE' := Lib.hid he'
      clear crx hrx hR' hK' hL' he' qb
      cases f
      · have HP : Hid (RES = some (R'.map (fun x => -x), K')) := Lib.hid (by rw [← hF.out, fp_end HRX.out])
        have HOE : Hid (Own (w1.alloc (.cells #[] 3)) w1.heap.size (.slice (some ⟨w1.heap.size, 0, none⟩) 0 0) ((R'.take 0).map fun x => -x)) := Lib.hid (by rw [List.take_zero]; exact Own.empty w1 _ (Nat.le_refl _))
        have HEE : Hid (Ext w1 (w1.alloc (.cells #[] 3))) := Lib.hid ((Ext.refl _).alloc _)
        have hlR := HL'.out.n
        clear hE hR hK hL hF
        go_wp2_with fail
        go_loopw [51, 12, 14] (fun i o _ wr => ∃ (c g cap : Nat), c ≤ n ∧ i = .int .i64 c ∧ o = .slice (some ⟨g, 0, none⟩) c cap ∧ Hid (Own wr w1.heap.size (.slice (some ⟨g, 0, none⟩) c cap) ((R'.take c).map fun x => -x)) ∧ Hid (Ext w1 wr)) (fun i _ _ _ => n - (intOf i).toNat)
        case atStart => exact ⟨0, _, 0, Nat.zero_le _, rfl, rfl, HOE, HEE⟩
        case round =>
          rename World => wo
          clear HOE HEE
          obtain ⟨c, g, cap, hc, rfl, rfl, ho, he⟩ := hrel
          by_cases hlc : c < n
          · obtain ⟨⟨x, hx, hxc⟩, _, _, _⟩ := (HR'.out.ext he.out).row (j := c) (by rw [hlR]; exact hlc)
            obtain ⟨hx1, hx2⟩ := HL'.out.r x (List.mem_of_getElem? hx)
            have HX := Lib.hid hx
            have hB : w1.heap.size ≤ wo.heap.size := he.out.size
            have hwn : IntKind.i64.wrap (-x) = -x := IntWalk.i64_in _ (by omega)
            have hll : ((R'.take c).map fun x => -x).length = c := by rw [List.length_map, List.length_take]; omega
            have HI : Hid (Ints (wo.alloc (.cells #[.int .i64 (-x)] 3)) (some ⟨wo.heap.size, 0, none⟩) [-x]) := Lib.hid (fun j z hj => by
              cases j with
              | zero => have : -x = z := by simpa using hj
                        exact ⟨wo.heap.size, 0, rfl, by simp, by rw [← this]; exact new_cell rfl⟩
              | succ j => simp at hj)
            clear hx
            go_wp2_with (at_builtin; refine app_ints (ys := [-x]) (ho.out.ext ((Ext.refl wo).alloc _)) (by simp; omega) (by simp; omega) (by simp) HI.out rfl _ _ rfl rfl rfl ?_)
            intro g2 cap2 w2 hown hb _ _
            have HN : Hid (Own w2 w1.heap.size (.slice (some ⟨g2, 0, none⟩) (c + 1) cap2) ((R'.take (c + 1)).map fun x => -x)) := Lib.hid (by
              rw [take_succ_of HX.out, List.map_append, List.map_take]
              exact hown)
            have HE2 : Hid (Ext w1 w2) := Lib.hid (hb w1 (he.out.alloc _))
            clear hown hb ho he hll
            go_wp2_with fail
            go_roundw
            case rel => exact ⟨c + 1, g2, cap2, by omega, by go_num, rfl, HN, HE2⟩
            case measure => simp [intOf]; omega
          · obtain rfl : c = n := by omega
            have HO2 : Hid (Own wo w1.heap.size (.slice (some ⟨g, 0, none⟩) c cap) (R'.map fun x => -x)) := Lib.hid (by have h := ho.out; rw [List.take_of_length_le (by omega)] at h; exact h)
            go_wp2_with fail
            go_ret3
            exact ⟨_, _, by rw [HP.out]; rfl, by rw [(HAB.out _ _ HP.out).1]; exact HO2.out.base HE'.out.size, by rw [(HAB.out _ _ HP.out).2]; exact HK'.out.ext he.out, HE'.out.trans he.out⟩
      · have HN : Hid (fpFrom m wt n k (n + k - t) R' K' = RES) := Lib.hid (by rw [← fp_go HRX.out]; exact hF.out)
        have hf2 : n + k - t = n + k + 1 - (t + 1) := by omega
        rw [hf2] at HN
        go_wp2_with fail
        go_roundw
        case rel => exact ⟨t + 1, R', K', L + 2500, by omega, by go_num, by omega, HE', HR', HK', HL', HN⟩
        case measure => simp [intOf]; omega
    · have HP : Hid (RES = none) := Lib.hid (by
        have h := hF.out
        rw [show n + k + 1 - t = 0 by omega, fpFrom] at h
        exact h.symm)
      go_wp2_with fail
      go_ret3
      exact ⟨_, _, by rw [HP.out]; rfl, by rw [(HNO.out HP.out).1]; exact Own.nil _ _, by rw [(HNO.out HP.out).2]; exact Own.nil _ _, hE.out⟩
end Go.Proofs.Ytnnkondlefjkcaa
