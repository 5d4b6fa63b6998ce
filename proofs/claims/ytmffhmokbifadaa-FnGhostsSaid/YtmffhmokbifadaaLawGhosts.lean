/- The law FnGhosts: its walk. -/
import Derived.Test.YtmffhmokbifadaaMake5
import Derived.Test.YtmffhmokbifadaaMake6
import Derived.Test.YtmffhmokbifadaaAlike
import Derived.Test.YtmffhmokbifadaaGhostM
import Derived.Test.YtmffhmokbifadaaGhost2
import Derived.Test.YtmffhmokbifadaaIsGhost2
import Derived.Test.YtmffhmokbifadaaDirs6
import Derived.Test.YtmffhmokbifadaaBytes
import Derived.Deep.RegionHeld3
namespace Go.Proofs.Ytmffhmokbifadaa
open Go.RowKit Tomo

theorem OwnGrid.sliceAny {w : World} {B : Nat} {v : Value} {g : List (List Int)} (h : OwnGrid w B v g) : ∃ A c, v = .slice A g.length c ∧ GridAt w A g := by
  by_cases h0 : 0 < g.length
  · obtain ⟨b, c, rfl, _⟩ := h.form h0
    exact ⟨_, c, rfl, h.gridAt⟩
  · have h0' : g.length = 0 := by omega
    obtain ⟨us, h1, h2, _, _⟩ := h
    rcases h2.2 with ⟨hv, _⟩ | ⟨g', cap, cur, hv, _⟩
    · exact ⟨none, 0, by rw [hv, h0'], fun k r hk => by have := (List.getElem?_eq_some_iff.1 hk).1; omega⟩
    · exact ⟨_, cap, hv, fun k r hk => by have := (List.getElem?_eq_some_iff.1 hk).1; omega⟩
set_option maxRecDepth 100000 in
set_option maxHeartbeats 8000000 in
theorem law_Ghosts (w : World) (A0 : Option Addr) (c0 : Nat) (xs0 : List Int) (h630 : xs0.length ≤ 9223372036854775807) (hx0 : Bytes w A0 xs0) :
    Calls Try.prog 3 #[.slice A0 xs0.length c0] w fun e w' => e = .returned (.bool true) ∧ Ext w w' := by
  by_cases hlen : xs0.length ≤ 1048576
  case neg =>
    go_enter Try.func3, Try.ntmps3
    go_wp2_with fail
    go_ret
    exact ⟨rfl, Ext.refl _⟩
  have cd := MakeDirections_any 20 A0 c0 xs0 w (by omega) hx0 hlen
  have HX0 := Lib.hid hx0
  clear hx0
  go_enter Try.func3, Try.ntmps3
  go_wp2_with fail
  refine cd.mono ?_
  rintro e w1 ⟨v, ds, rfl, hod, hdl, hdv, hds, he⟩
  obtain ⟨D, dc, rfl, hdc, hld⟩ := hod.slice
  have HE1 := Lib.hid he
  have HLD := Lib.hid hld
  have HDS := Lib.hid hds
  have HDV := Lib.hid hdv
  have cb := implBasicGhost_any D dc ds w1 (by omega) hdc hld
  clear cd hod hdv hds he hld
  go_wp2_with fail
  refine cb.mono ?_
  rintro e w2 ⟨v, rfl, hog, he2⟩
  obtain ⟨G, gc, rfl, hgg⟩ := hog.sliceAny
  have HG2 := Lib.hid hgg
  have HE2 := Lib.hid he2
  have cs := implGhostSize_any D dc ds w2 (by omega) hdc (HLD.out.ext he2)
  have hsz : ghSize ds = (ghR ds ds.length, ghC ds ds.length) := by unfold ghSize; rw [if_pos HDS.out]
  have hgb := gh_bounds HDS.out ds.length (Nat.le_refl _)
  have hr1 := ghR_ge (ds := ds) ds.length
  have HOK : Hid (bgOk ds = (inR (ghSize ds).1 1 5 && inR (ghSize ds).2 1 5)) := Lib.hid rfl
  have HBI := Lib.hid (fun (h : bgOk ds = true) => bgI_ghost h)
  have HBO := Lib.hid (fun (h : bgOk ds = true) => bgI_ok h)
  have HAG := Lib.hid (fun (m : Grid) (h : bgOk ds = true) => add_ghost (m := m) h)
  have HDT : Hid (isDet (ghSize ds).1 (ghSize ds).2 ds = false) := Lib.hid (by unfold isDet; simp)
  rw [hsz] at cs HOK HBI HAG HDT
  dsimp only at cs HOK HBI HAG HDT
  obtain ⟨a, ha⟩ : ∃ a, ghR ds ds.length = a := ⟨_, rfl⟩
  obtain ⟨b, hb⟩ : ∃ b, ghC ds ds.length = b := ⟨_, rfl⟩
  rw [ha, hb] at cs HOK HBI HAG HDT hgb
  rw [ha] at hr1
  obtain ⟨_, _, hb1⟩ := hgb
  clear cb hog hgg he2 hsz ha hb
  go_wp2_with fail
  refine cs.mono ?_
  rintro e w3 ⟨rfl, he3⟩
  have HE23 := Lib.hid he3
  have HE3 := Lib.hid (HE2.out.trans he3)
  have co := implDirectionsOk_any D dc ds w3 (by omega) hdc (HLD.out.ext HE3.out)
  rw [HDS.out] at co
  clear cs he3
  go_wp2_with fail
  refine co.mono ?_
  rintro e w4 ⟨rfl, he4⟩
  have HE24 := Lib.hid (HE23.out.trans he4)
  have HE4 := Lib.hid (HE3.out.trans he4)
  clear co he4
  cases hok : bgOk ds
  · have hlen0 : (bgRes ds).length = 0 := by unfold bgRes; rw [hok]; rfl
    have hno : ¬ (a ≤ 5 ∧ b ≤ 5) := fun hh => by
      have h1 := HOK.out
      rw [hok] at h1
      have h2 : (inR a 1 5 && inR b 1 5) = true := by rw [Bool.and_eq_true, inR_iff, inR_iff]; omega
      rw [h2] at h1; cases h1
    rw [hlen0]
    clear hlen0
    by_cases ha5 : a ≤ 5
    · have hb5 : ¬ b ≤ 5 := fun h => hno ⟨ha5, h⟩
      clear hno
      go_wp2_with fail
      go_ret
      exact ⟨rfl, HE1.out.trans HE4.out⟩
    · clear hno
      go_wp2_with fail
      go_ret
      exact ⟨rfl, HE1.out.trans HE4.out⟩
  · obtain ⟨n, k, hbg, ⟨hn5, hk5⟩, hna, hkb, hre⟩ := HBI.out hok
    obtain ⟨hgo, hgh⟩ := HBO.out hok
    have hgl : (bgRes ds).length = n := by rw [hre]; exact hbg.s.1
    have hgk : ((bgRes ds).headD []).length = k := by rw [hre]; exact shape_headD hbg.s hbg.n1.1
    have HBN := Lib.hid hbg.n1
    have HBK := Lib.hid hbg.k1
    have HSH := Lib.hid hbg.s
    subst hna hkb
    have hn1 : 1 ≤ n := hbg.n1.1
    have hk1 : 1 ≤ k := hbg.k1.1
    have hn0 : 0 < n := hn1
    have hnI : (0 : Int) < (n : Int) := by omega
    have d1 : decide ((n : Int) < 1) = false := by simp; omega
    have d2 : decide ((k : Int) < 1) = false := by simp; omega
    have d3 : decide ((n : Int) ≤ 5) = true := by simp; omega
    have d4 : decide ((k : Int) ≤ 5) = true := by simp; omega
    have hrl : ∀ r ∈ bgRes ds, r.length = k := fun r hr => HSH.out.2 r (by rw [← hre]; exact hr)
    have hrl2 : ∀ r ∈ bgRes ds, r.length ≤ 1048576 := fun r hr => by have := hrl r hr; omega
    obtain ⟨bg, og, Rg, cg, rg, rfl, _, hrg, hcg, _⟩ := (HG2.out.ext (Ext.refl _)).at_ (k := 0) (by rw [hgl]; exact hn0)
    have hcg4 : Hid (∀ W, Ext w1 W → Ext w2 W → W.cell? ⟨bg, og, none⟩ = some (.slice Rg k cg)) := Lib.hid fun W _ e2 => by
      have h := (e2.cell (World.block_lt_of_cell? _ _ hcg)).trans hcg
      rw [Nat.add_zero, hrl rg (List.mem_of_getElem? hrg.out)] at h
      exact h
    have q0 := hcg4.out w4 HE4.out HE24.out
    have ci := fun W (e : Ext w2 W) (e1 : Ext w1 W) => implIsGhost_any (some ⟨bg, og, none⟩) D gc dc (bgRes ds) ds W (by rw [hgl]; omega) hrl2 (HG2.out.ext e) (by omega) hdc (HLD.out.ext e1)
    rw [hgh, hgl] at ci
    have ci4 := ci w4 HE24.out HE4.out
    have cdt := fun W (e1 : Ext w1 W) => implIsDetermined_any n k D dc ds W (by omega) hdc (HLD.out.ext e1)
    rw [HDT.out] at cdt
    have CDT := Lib.hid cdt
    have CAG := Lib.hid (fun (m : Grid) (bm cm : Nat) W (e : Ext w2 W) (hm : gridOk m 0 1 = true) (hx : GridAt W (some ⟨bm, 0, none⟩) m) => by
      have hI := Img.of hm
      have h := implAddGhost_any (some ⟨bm, 0, none⟩) (some ⟨bg, og, none⟩) cm gc m (bgRes ds) 0 0 W (by have := hI.2.1; omega) (fun r hr => by have := hI.1.2 r hr; have := hI.2.2.1; omega) (by rw [hgl]; omega) hrl2 hx (HG2.out.ext e)
      rw [hgl] at h
      exact h)
    rw [hgl]
    clear hcg hrg hgl hgk hre hgo hgh hbg hrl hrl2 ci cdt hn0
    go_wp2_with fail
    refine ci4.mono ?_
    rintro e w5 ⟨rfl, he5⟩
    have HE5 := Lib.hid (HE4.out.trans he5)
    have HE25 := Lib.hid (HE24.out.trans he5)
    have cdt5 := CDT.out w5 HE5.out
    clear ci4 he5 q0
    go_wp2_with fail
    refine cdt5.mono ?_
    rintro e w6 ⟨rfl, he6⟩
    have HE6 := Lib.hid (HE5.out.trans he6)
    have HE26 := Lib.hid (HE25.out.trans he6)
    have cm := MakeSized_any 40 n k A0 c0 xs0 w6 (by omega) ⟨hn1, hn5⟩ ⟨hk1, hk5⟩ (HX0.out.ext (HE1.out.trans HE6.out)) hlen
    clear cdt5 he6
    go_wp2_with fail
    refine cm.mono ?_
    rintro e w7 ⟨bm, cm', m, rfl, hom, hgm, hml, hmk, he7⟩
    have HE7 := Lib.hid (HE6.out.trans he7)
    have HE27 := Lib.hid (HE26.out.trans he7)
    have HM := Lib.hid hom.gridAt
    have HGM := Lib.hid hgm
    have HML := Lib.hid hml
    have cag := CAG.out m bm cm' w7 HE27.out hgm hom.gridAt
    have HAD := Lib.hid (fun h => HAG.out m hok hgm (by rw [hml]) (by rw [hmk]) h)
    rw [hml] at cag ⊢
    clear cm hom hgm hml hmk he7 CAG
    go_wp2_with fail
    refine cag.mono ?_
    rintro e w8 ⟨vx, rfl, hox, he8⟩
    obtain ⟨X, xc, rfl, hgx⟩ := hox.sliceAny
    have HE8 := Lib.hid (HE7.out.trans he8)
    have HM8 := Lib.hid (HM.out.ext he8)
    have HX8 := Lib.hid hgx
    clear cag hox he8 hgx
    cases hadd : addOk m (bgRes ds) 0 0
    · have hx0 : (addI m (bgRes ds) 0 0).length = 0 := by unfold addI; rw [hadd]; rfl
      rw [hx0]
      clear hx0
      go_wp2_with fail
      go_ret
      exact ⟨rfl, HE1.out.trans HE8.out⟩
    · obtain ⟨hxo, hxl, hxn, hxs⟩ := HAD.out hadd
      rw [HML.out] at hxl
      obtain ⟨x, hx⟩ : ∃ x, addI m (bgRes ds) 0 0 = x := ⟨_, rfl⟩
      rw [hx] at hxo hxl hxn hxs HX8
      have HXS := Lib.hid hxs
      have HXO := Lib.hid hxo
      have HLX := Lib.hid (fun dx dy (hd : dirOk dx dy = true) W (e : Ext w8 W) => by
        have h := LineSums_any X xc x dx dy W hxo hd (HX8.out.ext e)
        rw [hxl] at h
        exact h)
      have HLM := Lib.hid (fun dx dy (hd : dirOk dx dy = true) W (e : Ext w8 W) => by
        have h := LineSums_any (some ⟨bm, 0, none⟩) cm' m dx dy W HGM.out hd (HM8.out.ext e)
        rw [HML.out] at h
        exact h)
      have HAL := Lib.hid (fun W (e : Ext w8 W) => by
        have hI := Img.of hxo
        have hI2 := Img.of HGM.out
        have h := alike_no X (some ⟨bm, 0, none⟩) xc cm' x m W (by rw [HML.out]; omega) (fun r hr => by have := hI.1.2 r hr; have := hI.2.2.1; omega) (fun r hr => by have := hI2.1.2 r hr; have := hI2.2.2.1; omega) hxn (HX8.out.ext e) (HM8.out.ext e)
        rw [hxl, HML.out] at h
        exact h)
      rw [hx, hxl]
      clear hxo hxl hxn hxs hx HAD
      go_wp2_with fail
      go_loopw [95, 12] (fun i _ wr => ∃ j : Nat, j ≤ ds.length ∧ i = .int .i64 j ∧ Hid (Ext w8 wr)) (fun i _ _ => ds.length - (intOf i).toNat)
      case atStart => exact ⟨0, Nat.zero_le _, rfl, Lib.hid (Ext.refl _)⟩
      case round =>
        rename World => wr
        obtain ⟨j, hj, rfl, hE⟩ := hrel
        by_cases hlt : j < ds.length
        · obtain ⟨b4, o4, dx, dy, rfl, hb4, HXY, hd1, hd2⟩ := (HLD.out.ext (HE8.out.trans hE.out)).at_ hlt
          have hdk := HDV.out (dx, dy) (List.mem_of_getElem? HXY.out)
          have hsame := HXS.out (dx, dy) (List.mem_of_getElem? HXY.out)
          have hll := (gsI_len HGM.out hdk).2
          have cx := fun W (e : Ext w8 W) => HLX.out dx dy hdk W e
          have cm := fun W (e : Ext w8 W) => HLM.out dx dy hdk W e
          dsimp only at hsame
          obtain ⟨ls, hls⟩ : ∃ ls, gsI m dx dy = ls := ⟨_, rfl⟩
          rw [hls] at hsame hll cm
          rw [hsame] at cx
          have CX := Lib.hid cx
          have CM := Lib.hid cm
          obtain ⟨wb, hwb⟩ : ∃ wb, wb = wr.alloc (.cells #[.int .i64 dx, .int .i64 dy] 37) := ⟨_, rfl⟩
          have hx5 : wb.cell? ⟨wr.heap.size, 0, none⟩ = some (.int .i64 dx) := by rw [hwb]; simp
          have hy5 : wb.cell? ⟨wr.heap.size, 1, none⟩ = some (.int .i64 dy) := by rw [hwb]; simp
          have HEB := Lib.hid (hE.out.trans (by rw [hwb]; exact (Ext.refl wr).alloc _ : Ext wr wb))
          have HWB := Lib.hid hwb
          have HKP : Hid (∀ W, Ext wb W → W.cell? ⟨wr.heap.size, 0, none⟩ = some (.int .i64 dx) ∧ W.cell? ⟨wr.heap.size, 1, none⟩ = some (.int .i64 dy) ∧ Ext wb W) := Lib.hid fun W e => ⟨(e.cell (World.block_lt_of_cell? _ _ hx5)).trans hx5, (e.cell (World.block_lt_of_cell? _ _ hy5)).trans hy5, e⟩
          clear hdk hsame hls cx cm hwb
          go_wp2_with fail
          rw [← HWB.out]
          first | go_region_held3 (fun W => W.cell? ⟨wr.heap.size, 0, none⟩ = some (.int .i64 dx) ∧ W.cell? ⟨wr.heap.size, 1, none⟩ = some (.int .i64 dy) ∧ Ext wb W) (first | exact HKP.out _ (by (repeat (first | assumption | exact (‹_ ∧ _ ∧ Ext wb _›).2.2 | exact Ext.refl _ | apply Ext.drew)); done)) (first
            | (go_at_call 13; refine (same_any A9 A10 c9 c10 ls w10 (by omega) (hi9.ext he10) hi10).mono ?_; rintro e w11 ⟨rfl, rfl⟩)
            | (go_at_call 14; refine (CM.out w9 (HEB.out.trans hX9)).mono ?_; rintro e w10 ⟨v10, rfl, ho10, he10⟩; obtain ⟨A10, c10, rfl, _, hi10⟩ := ho10.slice; have hX10 : Ext wb w10 := hX9.trans he10)
            | (go_at_call 14; refine (CX.out wb.drew (HEB.out.trans (Ext.refl wb).drew)).mono ?_; rintro e w9 ⟨v9, rfl, ho9, he9⟩; obtain ⟨A9, c9, rfl, _, hi9⟩ := ho9.slice; have hX9 : Ext wb w9 := (Ext.refl wb).drew.trans he9)) | fail
          all_goals
            have hxx : Ext wb w10 := (‹_ ∧ _ ∧ Ext wb w10›).2.2
            have HEN := Lib.hid (HEB.out.trans hxx)
            go_wp2_with fail
            go_roundw
            case rel => exact ⟨j + 1, by omega, by go_num, HEN⟩
            case measure => simp [intOf]; omega
        · obtain rfl : j = ds.length := by omega
          have cal := HAL.out wr hE.out
          go_wp2_with fail
          refine cal.mono ?_
          rintro e w9 ⟨rfl, rfl⟩
          go_wp2_with fail
          go_ret
          exact ⟨rfl, HE1.out.trans (HE8.out.trans hE.out)⟩
end Go.Proofs.Ytmffhmokbifadaa
