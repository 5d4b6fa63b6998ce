/- The laws' drawn arguments: a list of valid directions. -/
import Derived.Test.YtmffhmokbifadaaMake4
import Derived.Test.YtmffhmokbifadaaDirs4
import Derived.Deep.DeepCutAuto
import Derived.Deep.RegionHeld3
namespace Go.Proofs.Ytmffhmokbifadaa
open Go.RowKit Tomo

theorem one_cells {W : World} {q : Nat} {dx dy : Int} (h1 : W.cell? ⟨q, 0, none⟩ = some (.int .i64 dx)) (h2 : W.cell? ⟨q, 1, none⟩ = some (.int .i64 dy)) : ∀ j u, (flatD [(dx, dy)])[j]? = some u → W.cell? ((⟨q, 0, none⟩ : Addr).add j) = some u := by
  intro j u hu
  rw [addr_add]
  rcases j with _ | _ | j
  · have : Value.int .i64 dx = u := by simpa [flatD] using hu
    rw [← this]; exact h1
  · have : Value.int .i64 dy = u := by simpa [flatD] using hu
    rw [← this]; exact h2
  · simp [flatD] at hu
theorem OwnD.empty1 (w : World) (o : Obj) (B : Nat) (hB : B ≤ w.heap.size) : OwnD ((w.alloc o).alloc (.cells #[] 37)) B (.slice (some ⟨w.heap.size + 1, 0, none⟩) 0 0) [] := by
  have h := OwnD.empty (w.alloc o) B (by simp; omega)
  rw [show (w.alloc o).heap.size = w.heap.size + 1 by simp] at h
  exact h
theorem dirsOk_one {dx dy : Int} (h : dirOk dx dy = true) : dirsOk [(dx, dy)] = true := by
  simp [dirsOk, dOkAt, anyD, inR, h]
set_option maxRecDepth 100000 in
set_option maxHeartbeats 4000000 in
theorem MakeDirections_any (k : Nat) (A : Option Addr) (c : Nat) (xs : List Int) (w : World) (hk : k ≤ 1000) (hb : Bytes w A xs) (hl : xs.length ≤ 1048576) :
    Calls Try.prog 5 #[.slice A xs.length c, .int .i64 k] w fun e w' => ∃ v ds, e = .returned v ∧ OwnD w' w.heap.size v ds ∧ ds.length ≤ 3 ∧ (∀ d ∈ ds, dirOk d.1 d.2 = true) ∧ dirsOk ds = true ∧ Ext w w' := by
  have c1 := l18New_any k A c xs w hk hb hl
  have HB := Lib.hid hb
  clear hb
  go_enter Try.func5, Try.ntmps5
  go_wp2_with fail
  refine c1.mono ?_
  rintro e w1 ⟨rfl, h1, h2, h3⟩
  have HO : Hid (OwnD (w1.alloc (.cells #[] 37)) (w.heap.size + 1) (.slice (some ⟨w1.heap.size, 0, none⟩) 0 0) []) := Lib.hid (OwnD.empty w1 _ (by omega))
  have cb := l01Below_any 3 A c w.heap.size xs w (w1.alloc (.cells #[] 37)) (by omega) (by omega) (Nat.le_refl _) HB.out (h2.alloc _) (h1.blk (((Ext.refl w1).alloc _).block _ h1.lt)) hl
  clear c1 h1 h2 h3
  go_wp2_with fail
  refine cb.mono ?_
  rintro e w2 ⟨x, rfl, hx, h1, h2, h3⟩
  have HC2 := Lib.hid h1
  have HE2 := Lib.hid h2
  have HO2 := Lib.hid (HO.out.keeps h3.keeps (by omega))
  clear cb h1 h2 h3 HO
  go_wp2_with fail
  go_loopw [7, 6, 8] (fun t o _ wr => ∃ (j g lc : Nat) (ds : List (Int × Int)), t = .int .i64 j ∧ o = .slice (some ⟨g, 0, none⟩) ds.length lc ∧ ds.length + j ≤ 3 ∧ Hid (∀ d ∈ ds, dirOk d.1 d.2 = true) ∧ Hid (ds = [] ∧ 1 ≤ j ∨ dirsOk ds = true) ∧ Hid (OwnD wr (w.heap.size + 1) (.slice (some ⟨g, 0, none⟩) ds.length lc) ds) ∧ Hid (Cur wr w.heap.size xs.length A c) ∧ Hid (Ext w wr)) (fun t _ _ _ => (intOf t).toNat)
  case atStart => exact ⟨1 + x, _, 0, [], by first | rfl | (congr 1; omega), rfl, by simp; omega, Lib.hid (fun d hd => by cases hd), Lib.hid (Or.inl ⟨rfl, by omega⟩), HO2, HC2, HE2⟩
  case round =>
    rename World => wr
    obtain ⟨j, g, lc, ds, rfl, rfl, hds, HV, HDS, ho, hc, he⟩ := hrel
    by_cases hj : 0 < j
    · have cd := l03Direction_any A c w.heap.size xs w wr (Nat.le_refl _) HB.out he.out hc.out hl
      go_wp2_with fail
      refine cd.mono ?_
      rintro e w3 ⟨dx, dy, rfl, hdo, g1, g2, g3⟩
      have HO3 := Lib.hid (ho.out.keeps g3 (by omega))
      have HDO := Lib.hid hdo
      have HC3 := Lib.hid g1
      have HE3 := Lib.hid g2
      clear cd g1 g2 g3 hdo ho hc he
      obtain ⟨Wb, hWb⟩ : ∃ Wb, Wb = w3.alloc (.cells #[.int .i64 dx, .int .i64 dy] 37) := ⟨_, rfl⟩
      have HWB := Lib.hid hWb
      have hEb : Ext w3 Wb := by rw [hWb]; exact (Ext.refl w3).alloc _
      have hbx1 : Wb.cell? ⟨w3.heap.size, 0, none⟩ = some (.int .i64 dx) := by rw [hWb]; simp
      have hbx2 : Wb.cell? ⟨w3.heap.size, 1, none⟩ = some (.int .i64 dy) := by rw [hWb]; simp
      have HOB := Lib.hid (HO3.out.ext hEb)
      have HCB := Lib.hid (HC3.out.blk (hEb.block _ HC3.out.lt))
      have HEB := Lib.hid (HE3.out.trans hEb)
      have HK : Hid (∀ W, Ext Wb W → W.cell? ⟨w3.heap.size, 0, none⟩ = some (.int .i64 dx) ∧ W.cell? ⟨w3.heap.size, 1, none⟩ = some (.int .i64 dy) ∧ Ext Wb W) := Lib.hid fun W e => ⟨(e.cell (World.block_lt_of_cell? _ _ hbx1)).trans hbx1, (e.cell (World.block_lt_of_cell? _ _ hbx2)).trans hbx2, e⟩
      have HSRC : Hid (∀ W, Ext Wb W → ∀ j u, (flatD ds)[j]? = some u → W.cell? ((⟨g, 0, none⟩ : Addr).add j) = some u) := Lib.hid fun W e j u hu => by
        obtain ⟨_, _, hlt, hcl⟩ := HOB.out.cells
        rw [addr_add]
        exact (e.cell (p := ⟨g, j, none⟩) hlt).trans (hcl j u hu)
      have hd3 : ds.length ≤ 2 := by omega
      clear hWb hEb
      have HDS1 : dirsOk ([] ++ ds ++ [(dx, dy)]) = false → Hid (dirsOk ds = true) := fun hf => Lib.hid (by
        rcases HDS.out with ⟨h0, _⟩ | h0
        · rw [h0, List.nil_append, List.nil_append, dirsOk_one HDO.out] at hf; cases hf
        · exact h0)
      cases hdok : dirsOk ([] ++ ds ++ [(dx, dy)])
      · have HD2 := HDS1 hdok
        clear HDS1
        go_upto_region 7 with fail
        rw [← HWB.out]
        first | go_region_held3 (fun W => W.cell? ⟨w3.heap.size, 0, none⟩ = some (.int .i64 dx) ∧ W.cell? ⟨w3.heap.size, 1, none⟩ = some (.int .i64 dy) ∧ Ext Wb W) (first | exact HK.out _ (by (repeat (first | assumption | exact (‹_ ∧ _ ∧ Ext Wb _›).2.2 | exact Ext.refl _ | apply Ext.drew | apply Ext.alloc)); done) | go_keep) (first
          | (go_at_call 20; obtain ⟨A6, c6, hv6, hc6, hl6⟩ := ho6.slice; subst hv6; have cdo := specDirectionsOk_any A6 c6 ([] ++ ds ++ [(dx, dy)]) _ (by simp; omega) hc6 hl6; rw [hdok] at cdo; refine cdo.mono ?_; rintro e w7 ⟨rfl, hE7⟩; have HX7 : Ext Wb w7 := HX6.trans hE7)
          | (refine app_dirs_step (B := Wb.heap.size) (xs := [] ++ ds) (ys := [(dx, dy)]) (ho5.ext (by (repeat (first | exact Ext.refl _ | apply Ext.drew | apply Ext.alloc)); done)) (Nat.le_trans HX5.size (Ext.size (w := w5) (by (repeat (first | exact Ext.refl _ | apply Ext.drew | apply Ext.alloc)); done))) (by simp; omega) ?hy (by rfl) _ _ (by rfl) (by rfl) (by rfl) ?_; (case hy => exact one_cells (by first | (simp; done) | exact hg5.cell (by simp) (by simp [Value.ownBlock])) (by first | (simp; done) | exact hg5.cell (by simp) (by simp [Value.ownBlock]))); intro v6 w6 ho6 hb6 hg6; have HX6 : Ext Wb w6 := hb6 Wb (HX5.trans (by (repeat (first | exact Ext.refl _ | apply Ext.drew | apply Ext.alloc)); done)))
          | (refine app_dirs_step (B := Wb.heap.size) (xs := []) (ys := ds) ((OwnD.empty Wb Wb.heap.size (Nat.le_refl _)).ext (by (repeat (first | assumption | exact (‹_ ∧ _ ∧ Ext Wb _›).2.2 | exact Ext.refl _ | apply Ext.drew | apply Ext.alloc)); done)) (by first | (simp; done) | (simp; omega)) (by simp; omega) (HSRC.out _ (by (repeat (first | assumption | exact (‹_ ∧ _ ∧ Ext Wb _›).2.2 | exact Ext.refl _ | apply Ext.drew | apply Ext.alloc)); done)) (by rfl) _ _ (by rfl) (by rfl) (by rfl) ?_; intro v5 w5 ho5 hb5 hg5; have HX5 : Ext Wb w5 := hb5 Wb (by (repeat (first | assumption | exact (‹_ ∧ _ ∧ Ext Wb _›).2.2 | exact Ext.refl _ | apply Ext.drew | apply Ext.alloc)); done))
          | (refine app_dirs_step (B := Wb.heap.size) (xs := []) (ys := ds) ((OwnD.empty1 Wb _ Wb.heap.size (Nat.le_refl _)).ext (by (repeat (first | assumption | exact (‹_ ∧ _ ∧ Ext Wb _›).2.2 | exact Ext.refl _ | apply Ext.drew | apply Ext.alloc)); done)) (by first | (simp; done) | (simp; omega)) (by simp; omega) (HSRC.out _ (by (repeat (first | assumption | exact (‹_ ∧ _ ∧ Ext Wb _›).2.2 | exact Ext.refl _ | apply Ext.drew | apply Ext.alloc)); done)) (by rfl) _ _ (by rfl) (by rfl) (by rfl) ?_; intro v5 w5 ho5 hb5 hg5; have HX5 : Ext Wb w5 := hb5 Wb (by (repeat (first | assumption | exact (‹_ ∧ _ ∧ Ext Wb _›).2.2 | exact Ext.refl _ | apply Ext.drew | apply Ext.alloc)); done))) | fail
        all_goals
          have h7 : Ext Wb w7 := (‹_ ∧ _ ∧ Ext Wb w7›).2.2
          go_wp2_with fail
          refine ⟨⟨j - 1, g, lc, ds, by congr 1; omega, rfl, by omega, HV, Lib.hid (Or.inr HD2.out), Lib.hid (HOB.out.ext h7), Lib.hid (HCB.out.blk (h7.block _ HCB.out.lt)), Lib.hid (HEB.out.trans h7)⟩, ?_⟩
          simp [intOf]; omega
      · have HD2 : Hid (dirsOk (ds ++ [(dx, dy)]) = true) := Lib.hid hdok
        clear HDS1
        go_upto_region 7 with fail
        rw [← HWB.out]
        first | go_region_held3 (fun W => W.cell? ⟨w3.heap.size, 0, none⟩ = some (.int .i64 dx) ∧ W.cell? ⟨w3.heap.size, 1, none⟩ = some (.int .i64 dy) ∧ Ext Wb W) (first | exact HK.out _ (by (repeat (first | assumption | exact (‹_ ∧ _ ∧ Ext Wb _›).2.2 | exact Ext.refl _ | apply Ext.drew | apply Ext.alloc)); done) | go_keep) (first
          | (go_at_call 20; obtain ⟨A6, c6, hv6, hc6, hl6⟩ := ho6.slice; subst hv6; have cdo := specDirectionsOk_any A6 c6 ([] ++ ds ++ [(dx, dy)]) _ (by simp; omega) hc6 hl6; rw [hdok] at cdo; refine cdo.mono ?_; rintro e w7 ⟨rfl, hE7⟩; have HX7 : Ext Wb w7 := HX6.trans hE7)
          | (refine app_dirs_step (B := Wb.heap.size) (xs := [] ++ ds) (ys := [(dx, dy)]) (ho5.ext (by (repeat (first | exact Ext.refl _ | apply Ext.drew | apply Ext.alloc)); done)) (Nat.le_trans HX5.size (Ext.size (w := w5) (by (repeat (first | exact Ext.refl _ | apply Ext.drew | apply Ext.alloc)); done))) (by simp; omega) ?hy (by rfl) _ _ (by rfl) (by rfl) (by rfl) ?_; (case hy => exact one_cells (by first | (simp; done) | exact hg5.cell (by simp) (by simp [Value.ownBlock])) (by first | (simp; done) | exact hg5.cell (by simp) (by simp [Value.ownBlock]))); intro v6 w6 ho6 hb6 hg6; have HX6 : Ext Wb w6 := hb6 Wb (HX5.trans (by (repeat (first | exact Ext.refl _ | apply Ext.drew | apply Ext.alloc)); done)))
          | (refine app_dirs_step (B := Wb.heap.size) (xs := []) (ys := ds) ((OwnD.empty Wb Wb.heap.size (Nat.le_refl _)).ext (by (repeat (first | assumption | exact (‹_ ∧ _ ∧ Ext Wb _›).2.2 | exact Ext.refl _ | apply Ext.drew | apply Ext.alloc)); done)) (by first | (simp; done) | (simp; omega)) (by simp; omega) (HSRC.out _ (by (repeat (first | assumption | exact (‹_ ∧ _ ∧ Ext Wb _›).2.2 | exact Ext.refl _ | apply Ext.drew | apply Ext.alloc)); done)) (by rfl) _ _ (by rfl) (by rfl) (by rfl) ?_; intro v5 w5 ho5 hb5 hg5; have HX5 : Ext Wb w5 := hb5 Wb (by (repeat (first | assumption | exact (‹_ ∧ _ ∧ Ext Wb _›).2.2 | exact Ext.refl _ | apply Ext.drew | apply Ext.alloc)); done))
          | (refine app_dirs_step (B := Wb.heap.size) (xs := []) (ys := ds) ((OwnD.empty1 Wb _ Wb.heap.size (Nat.le_refl _)).ext (by (repeat (first | assumption | exact (‹_ ∧ _ ∧ Ext Wb _›).2.2 | exact Ext.refl _ | apply Ext.drew | apply Ext.alloc)); done)) (by first | (simp; done) | (simp; omega)) (by simp; omega) (HSRC.out _ (by (repeat (first | assumption | exact (‹_ ∧ _ ∧ Ext Wb _›).2.2 | exact Ext.refl _ | apply Ext.drew | apply Ext.alloc)); done)) (by rfl) _ _ (by rfl) (by rfl) (by rfl) ?_; intro v5 w5 ho5 hb5 hg5; have HX5 : Ext Wb w5 := hb5 Wb (by (repeat (first | assumption | exact (‹_ ∧ _ ∧ Ext Wb _›).2.2 | exact Ext.refl _ | apply Ext.drew | apply Ext.alloc)); done))) | fail
        all_goals
          obtain ⟨h71, h72, h7⟩ := (‹_ ∧ _ ∧ Ext Wb w7›)
          have HO7 := Lib.hid (HOB.out.ext h7)
          have HC7 := Lib.hid (HCB.out.blk (h7.block _ HCB.out.lt))
          have HE7 := Lib.hid (HEB.out.trans h7)
          clear cdo ho5 hb5 hg5 HX5 ho6 hb6 hg6 HX6 HX7 hE7 h7
          have hbw : Below (w.heap.size + 1) w7 (w7.alloc (.cells #[.int .i64 dx, .int .i64 dy] 37)) := Below.alloc (Below.refl _ _) (by have := HC7.out.lt; omega) _
          go_wp2_with (at_builtin; refine app_dirs (B := w.heap.size + 1) (xs := ds) (ys := [(dx, dy)]) (HO7.out.ext ((Ext.refl w7).alloc _)) (by have := HC7.out.lt; simp; omega) (by simp; omega) (one_cells (by simp) (by simp)) rfl _ _ rfl rfl rfl ?_)
          intro v8 w8 ho8 hb8 hg8
          have hB8 := hb8 w7 hbw
          obtain ⟨g8, c8, hv8, hc8⟩ := ho8.form (by simp)
          subst hv8
          have HO8 := Lib.hid ho8
          have HC8 := Lib.hid (HC7.out.blk (hB8.block _ (by omega)))
          have HE8 : Hid (Ext w w8) := Lib.hid (Below.trans HE7.out (Below.mono hB8 (by omega)))
          have HV8 : Hid (∀ d ∈ ds ++ [(dx, dy)], dirOk d.1 d.2 = true) := Lib.hid fun d hd => by
            rcases List.mem_append.1 hd with h | h
            · exact HV.out d h
            · rw [List.mem_singleton.1 h]; exact HDO.out
          clear ho8 hb8 hg8 hB8 hbw
          go_wp2_with fail
          refine ⟨⟨j - 1, g8, c8, ds ++ [(dx, dy)], by congr 1; omega, rfl, by simp; omega, HV8, Lib.hid (Or.inr HD2.out), HO8, HC8, HE8⟩, ?_⟩
          simp [intOf]; omega
    · obtain rfl : j = 0 := by omega
      go_wp2_with fail
      go_ret
      have hfin : dirsOk ds = true := by
        rcases HDS.out with ⟨_, h0⟩ | h0
        · omega
        · exact h0
      exact ⟨_, ds, rfl, ho.out.base (by omega), by omega, HV.out, hfin, he.out⟩
end Go.Proofs.Ytmffhmokbifadaa
