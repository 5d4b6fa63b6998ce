/- Images that meet a mask: how many, and which. -/
import Derived.Test.YtcojhogndimboaaPick
import Derived.Test.YtcojhogndimboaaRead4
import Derived.Test.YtcojhogndimboaaRead6
namespace Go.Proofs.Ytcojhogndimboaa
open Go.RowKit Tomo

noncomputable def maskedI (mask : Grid) (rows cols : List Int) : List Grid := (allI rows cols).filter fun m => meets m mask
noncomputable def maskedCount (mask : Grid) (rows cols : List Int) : Int := if maskOk mask rows cols = true then ((maskedI mask rows cols).length : Int) else -1
theorem filter_take_succ {α : Type} {l : List α} {k : Nat} {x : α} (h : l[k]? = some x) (p : α → Bool) : (l.take (k + 1)).filter p = (l.take k).filter p ++ (if p x = true then [x] else []) := by
  rw [take_succ_of h, List.filter_append]
  by_cases hp : p x = true <;> simp [hp]
theorem filter_take_le {α : Type} (l : List α) (k : Nat) (p : α → Bool) : ((l.take k).filter p).length ≤ l.length :=
  Nat.le_trans (List.length_filter_le _ _) (by rw [List.length_take]; omega)


set_option maxHeartbeats 2000000 in
theorem masked_any (A0 A B : Option Addr) (c0 ca cb : Nat) (mask : List (List Int)) (rows cols : List Int) (w : World) (hl0 : mask.length ≤ 1048576) (hr0 : ∀ r ∈ mask, r.length ≤ 1048576) (hm : GridAt w A0 mask)
    (hl : rows.length ≤ 1048576) (hl2 : cols.length ≤ 1048576) (hx : Ints w A rows) (hy : Ints w B cols) :
    Calls Try.prog 14 #[.slice A0 mask.length c0, .slice A rows.length ca, .slice B cols.length cb] w fun e w' => ∃ v, e = .returned v ∧ OwnGrids w' w.heap.size v (maskedI mask rows cols) ∧ Ext w w' := by
  have cl := implAllImages_any A B ca cb rows cols w hl hl2 hx hy
  have HCM := Lib.hid (fun (w' : World) (e : Ext w w') (g : List (List Int)) (Au : Option Addr) (cu : Nat) (h1 : g.length ≤ 1048576) (h2 : ∀ r ∈ g, r.length ≤ 1048576) (hg : GridAt w' Au g) => implMeetsMask_any Au A0 cu c0 g mask w' h1 h2 hl0 hr0 hg (hm.ext e))
  have HIMG : Hid (∀ m, m ∈ allI rows cols → Img m rows.length cols.length) := Lib.hid fun m hm => allI_img hm
  have HDEF : Hid (maskedI mask rows cols = (allI rows cols).filter fun m => meets m mask) := Lib.hid rfl
  have hlen := allI_len rows cols
  obtain ⟨so, hso⟩ : ∃ so, sumsOk rows cols = so := ⟨_, rfl⟩
  obtain ⟨gs, hgs⟩ : ∃ gs, allI rows cols = gs := ⟨_, rfl⟩
  rw [hgs] at HIMG HDEF hlen
  simp only [hgs] at cl
  rw [hso] at cl
  clear hx hy hm hgs hso hl0 hr0
  go_enter Try.func14, Try.ntmps14
  go_wp2_with fail
  refine cl.mono ?_
  rintro e w2 ⟨v, rfl, ho, he⟩
  have HE2 := Lib.hid he
  obtain ⟨us, hu⟩ := ho.u
  obtain ⟨Ag, cg, rfl, _⟩ := ho.slice
  have HU := Lib.hid hu
  have HUL := Lib.hid hu.1
  clear ho he hu cl
  go_wp2_with fail
  go_loopw [20, 9, 11] (fun i vo _ wr => ∃ j : Nat, j ≤ gs.length ∧ i = .int .i64 j ∧ Hid (Ext w2 wr) ∧ Hid (wr.ownsRow w2.heap.size 23 1 vo ((gs.take j).filter fun m => meets m mask).length (pickU (fun m => meets m mask) (us.take j) (gs.take j)))) (fun i _ _ _ => gs.length - (intOf i).toNat)
  case atStart => exact ⟨0, Nat.zero_le _, rfl, Lib.hid (Ext.refl _), Lib.hid (World.ownsRow_nil _ _ _ _)⟩
  case round =>
    obtain ⟨j, hj, rfl, hE, hf⟩ := hrel
    by_cases hlt : j < gs.length
    · obtain ⟨b, u, g, Au, cu, rfl, hb, hus, hg, hcell, hue, hog⟩ := HU.out.elt hlt
      have himg := HIMG.out g (List.mem_of_getElem? hg.out)
      have cc := HCM.out wr (HE2.out.trans hE.out) g Au cu (by rw [himg.1.1]; have := himg.2.1.2; omega) (fun r hr => by rw [himg.1.2 r hr]; have := himg.2.2.1.2; omega) (hog.ext hE.out).gridAt
      have HS := Lib.hid (filter_take_succ hg.out fun m => meets m mask)
      have HLE := filter_take_le gs j fun m => meets m mask
      have hcell2 : wr.cell? ⟨b, j, none⟩ = some (.slice Au g.length cu) := (hE.out.cell (p := ⟨b, j, none⟩) hb).trans hcell
      have HPS : Hid (pickU (fun m => meets m mask) (us.take (j + 1)) (gs.take (j + 1)) = if meets g mask = true then pickU (fun m => meets m mask) (us.take j) (gs.take j) ++ [u] else pickU (fun m => meets m mask) (us.take j) (gs.take j)) := Lib.hid (by
        rw [take_succ_of hus.out, take_succ_of hg.out]
        exact pickU_snoc _ u g _ _ (by rw [List.length_take, List.length_take, HUL.out]))
      clear hog himg hcell
      obtain ⟨N, hN⟩ : ∃ N, ((gs.take j).filter fun m => meets m mask).length = N := ⟨_, rfl⟩
      rw [hN] at hf HLE
      have HN := Lib.hid hN
      clear hN
      have hB := hE.out.size
      cases hmm : meets g mask
      · rw [hmm] at cc
        have HX : Hid (wr.ownsRow w2.heap.size 23 1 u9 ((gs.take (j + 1)).filter fun m => meets m mask).length (pickU (fun m => meets m mask) (us.take (j + 1)) (gs.take (j + 1)))) := Lib.hid (by rw [HS.out, HPS.out, if_neg (by rw [hmm]; simp), if_neg (by rw [hmm]; simp), List.append_nil, HN.out]; exact hf.out)
        go_wp2_with fail
        refine cc.mono ?_
        rintro e w' ⟨rfl, rfl⟩
        go_wp2
        go_roundw
        case rel => exact ⟨j + 1, by omega, by go_num, hE, HX⟩
        case measure => simp [intOf]; omega
      · rw [hmm] at cc
        go_wp2_with fail
        refine cc.mono ?_
        rintro e w' ⟨rfl, rfl⟩
        go_wp2_with (at_builtin; refine app_img (ownsRow_ext hf.out ((Ext.refl wr).alloc _)) (by simp; omega) (u := .slice Au g.length cu) rfl (by omega) (by simp) rfl _ _ rfl rfl rfl ?_)
        intro b2 cap2 w3 ho3 hb3
        have HX : Hid (w3.ownsRow w2.heap.size 23 1 (.slice (some ⟨b2, 0, none⟩) (N + 1) cap2) ((gs.take (j + 1)).filter fun m => meets m mask).length (pickU (fun m => meets m mask) (us.take (j + 1)) (gs.take (j + 1)))) := Lib.hid (by rw [HS.out, HPS.out, if_pos hmm, if_pos hmm, List.length_append, HN.out, hue.out]; exact ho3)
        have HE3 : Hid (Ext w2 w3) := Lib.hid (hb3 w2 (hE.out.alloc _))
        clear ho3 hb3
        go_wp2
        go_roundw
        case rel => exact ⟨j + 1, by omega, by go_num, HE3, HX⟩
        case measure => simp [intOf]; omega
    · obtain rfl : j = gs.length := by omega
      have HG : Hid (OwnGrids wr w.heap.size u9 (maskedI mask rows cols)) := Lib.hid (by
        have h := hf.out
        rw [take_full, ← HUL.out, take_full] at h
        rw [HDEF.out]
        exact (HU.out.pick hE.out (fun m => meets m mask) HE2.out.size h).grids)
      go_wp2
      go_ret
      exact ⟨_, rfl, HG.out, HE2.out.trans hE.out⟩

set_option maxHeartbeats 2000000 in
theorem implMaskedCount_any (A0 A B : Option Addr) (c0 ca cb : Nat) (mask : List (List Int)) (rows cols : List Int) (w : World) (hl0 : mask.length ≤ 1048576) (hr0 : ∀ r ∈ mask, r.length ≤ 1048576) (hm : GridAt w A0 mask)
    (hl : rows.length ≤ 1048576) (hl2 : cols.length ≤ 1048576) (hx : Ints w A rows) (hy : Ints w B cols) :
    Calls Try.prog 5 #[.slice A0 mask.length c0, .slice A rows.length ca, .slice B cols.length cb] w fun e w' => e = .returned (.int .i64 (maskedCount mask rows cols)) ∧ Ext w w' := by
  have cm := implMaskOk_any A0 A B c0 ca cb mask rows cols w hl0 hr0 hm hl hl2 hx hy
  have cl := masked_any A0 A B c0 ca cb mask rows cols w hl0 hr0 hm hl hl2 hx hy
  have hlen : (maskedI mask rows cols).length ≤ 33554432 := Nat.le_trans (List.length_filter_le _ _) (allI_len rows cols)
  cases h : maskOk mask rows cols
  · rw [h] at cm
    have HP : Hid (maskedCount mask rows cols = -1) := Lib.hid (by unfold maskedCount; rw [h]; rfl)
    clear cl
    go_enter Try.func5, Try.ntmps5
    go_wp2_with (go_at_call 6; refine cm.mono ?_; rintro e w' ⟨rfl, rfl⟩)
    go_ret
    exact ⟨ret_int HP.out.symm, Ext.refl _⟩
  · rw [h] at cm
    have HP : Hid (maskedCount mask rows cols = ((maskedI mask rows cols).length : Int)) := Lib.hid (by unfold maskedCount; rw [h]; rfl)
    obtain ⟨gs, hgs⟩ : ∃ gs, maskedI mask rows cols = gs := ⟨_, rfl⟩
    rw [hgs] at HP hlen
    simp only [hgs] at cl
    clear hx hy hm hgs h hl0 hr0
    go_enter Try.func5, Try.ntmps5
    go_wp2_with (go_at_call 6; refine cm.mono ?_; rintro e w' ⟨rfl, rfl⟩)
    refine cl.mono ?_
    rintro e w2 ⟨v, rfl, ho, he⟩
    have HE2 := Lib.hid he
    obtain ⟨Ag, cg, rfl, _⟩ := ho.slice
    clear ho he cl cm
    go_wp2
    go_ret
    exact ⟨ret_int HP.out.symm, HE2.out⟩
end Go.Proofs.Ytcojhogndimboaa
