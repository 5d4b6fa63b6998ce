/- All convex polyominoes with given sums, in the reference and in the program. -/
import Derived.Test.YtlhjbpachpjpkaaMark3
import Derived.Test.YtlhjbpachpjpkaaMasked
import Derived.Test.YtlhjbpachpjpkaaCvA
import Derived.Test.YtlhjbpachpjpkaaPieces
namespace Go.Proofs.Ytlhjbpachpjpkaa
open Go.RowKit Tomo

noncomputable def polyP (m : Grid) : Bool := convexI m && (pieces m == 1)
noncomputable def polyL (rows cols : List Int) : List Grid := (allI rows cols).filter polyP
noncomputable def polyFirst (rows cols : List Int) : Grid := (polyL rows cols).headD []
noncomputable def polyAny (rows cols : List Int) : Bool := decide (polyL rows cols ≠ [])
theorem polyL_bound (rows cols : List Int) : GsBound (polyL rows cols) := by
  have hmem : ∀ g ∈ polyL rows cols, g ∈ allI rows cols := fun g hg => (List.mem_filter.1 hg).1
  have h1 : (polyL rows cols).length ≤ 33554432 := Nat.le_trans (List.length_filter_le _ _) (allI_len rows cols)
  have h2 := totals_le (gs := polyL rows cols) (M := 25) (fun g hg => img_total (allI_img (hmem g hg)))
  have h3 : (polyL rows cols).length * 25 ≤ 33554432 * 25 := Nat.mul_le_mul_right 25 h1
  exact ⟨by omega, fun g hg => img_bound (allI_img (hmem g hg)), by omega⟩
theorem polyFirst_bound (rows cols : List Int) : GBound (polyFirst rows cols) := by
  unfold polyFirst
  cases h : polyL rows cols with
  | nil => exact nil_bound
  | cons g gs => exact (polyL_bound rows cols).2.1 g (by rw [h]; exact List.mem_cons_self)
theorem ownsRow_none (w : World) (B : Nat) (hB : B ≤ w.heap.size) : (w.alloc (.cells #[] 23)).ownsRow B 23 1 (.slice (some ⟨w.heap.size, 0, none⟩) 0 0) 0 [] :=
  World.ownsRow_lit (base := B) (e := 23) (size := 1) w #[] 0 hB (by decide) rfl


set_option maxHeartbeats 4000000 in
theorem implConvexImages_any (A B : Option Addr) (ca cb : Nat) (rows cols : List Int) (w : World) (hl : rows.length ≤ 1048576) (hl2 : cols.length ≤ 1048576) (hx : Ints w A rows) (hy : Ints w B cols) :
    Calls Try.prog 7 #[.slice A rows.length ca, .slice B cols.length cb] w fun e w' => ∃ v, e = .returned (.tuple #[v, .bool (sumsOk rows cols)]) ∧ OwnGrids w' w.heap.size v (polyL rows cols) ∧ Ext w w' := by
  have cl := implAllImages_any A B ca cb rows cols w hl hl2 hx hy
  have HC1 := Lib.hid (fun (W : World) (g : Grid) (Ag : Option Addr) (cg : Nat) (h1 : g.length ≤ 1048576) (h2 : ∀ r ∈ g, r.length ≤ 1048576) (hg : GridAt W Ag g) => implIsConvex_any Ag cg g W h1 h2 hg)
  have HC2 := Lib.hid (fun (W : World) (g : Grid) (Ag : Option Addr) (cg : Nat) (h1 : g.length ≤ 1048576) (h2 : ∀ r ∈ g, r.length ≤ 1048576) (hg : GridAt W Ag g) => implIsPolyomino_any Ag cg g W h1 h2 hg)
  have HIMG : Hid (∀ m, m ∈ allI rows cols → Img m rows.length cols.length) := Lib.hid fun m hm => allI_img hm
  have HDEF : Hid (polyL rows cols = (allI rows cols).filter polyP) := Lib.hid rfl
  have hlen := allI_len rows cols
  cases hso : sumsOk rows cols
  · have HP : Hid (polyL rows cols = []) := Lib.hid (by unfold polyL allI; rw [hso]; rfl)
    rw [hso] at cl
    clear hx hy
    go_enter Try.func7, Try.ntmps7
    go_wp2_with fail
    refine cl.mono ?_
    rintro e w2 ⟨v, rfl, ho, he⟩
    have HE2 := Lib.hid he
    clear ho he cl
    go_wp2
    go_ret2
    exact ⟨_, rfl, by rw [HP.out]; exact OwnGrids.nil _ _, HE2.out⟩
  rw [hso] at cl
  obtain ⟨gs, hgs⟩ : ∃ gs, allI rows cols = gs := ⟨_, rfl⟩
  rw [hgs] at HIMG HDEF hlen
  simp only [hgs] at cl
  clear hx hy hgs hso
  go_enter Try.func7, Try.ntmps7
  go_wp2_with fail
  refine cl.mono ?_
  rintro e w2 ⟨v, rfl, ho, he⟩
  have HE2 := Lib.hid he
  obtain ⟨us, hu⟩ := ho.u
  obtain ⟨Ag, cg, rfl, _⟩ := ho.slice
  have HU := Lib.hid hu
  have HUL := Lib.hid hu.1
  clear ho he hu cl
  go_wp2_with fail
  go_loopw [21, 8, 10] (fun i vo _ wr => ∃ j : Nat, j ≤ gs.length ∧ i = .int .i64 j ∧ Hid (Ext w2 wr) ∧ Hid (wr.ownsRow w2.heap.size 23 1 vo ((gs.take j).filter polyP).length (pickU polyP (us.take j) (gs.take j)))) (fun i _ _ _ => gs.length - (intOf i).toNat)
  case atStart => exact ⟨0, Nat.zero_le _, rfl, Lib.hid (Ext.refl _), Lib.hid (World.ownsRow_nil _ _ _ _)⟩
  case round =>
    obtain ⟨j, hj, rfl, hE, hf⟩ := hrel
    by_cases hlt : j < gs.length
    · obtain ⟨b, u, g, Au, cu, rfl, hb, hus, hg, hcell, hue, hog⟩ := HU.out.elt hlt
      have himg := HIMG.out g (List.mem_of_getElem? hg.out)
      have hb1 : g.length ≤ 1048576 := by rw [himg.1.1]; exact hl
      have hb2 : ∀ r ∈ g, r.length ≤ 1048576 := fun r hr => by rw [himg.1.2 r hr]; exact hl2
      have c1 := HC1.out wr g Au cu hb1 hb2 (hog.ext hE.out).gridAt
      have H2 : Hid (∀ W, Ext wr W → Calls Try.prog 11 #[.slice Au g.length cu] W fun e w' => e = .returned (.bool (pieces g == 1)) ∧ Ext W w') := Lib.hid (fun W e => HC2.out W g Au cu hb1 hb2 (hog.ext (hE.out.trans e)).gridAt)
      have HS := Lib.hid (filter_take_succ hg.out polyP)
      have HLE := filter_take_le gs j polyP
      have hcell2 : wr.cell? ⟨b, j, none⟩ = some (.slice Au g.length cu) := (hE.out.cell (p := ⟨b, j, none⟩) hb).trans hcell
      have HPS : Hid (pickU polyP (us.take (j + 1)) (gs.take (j + 1)) = if polyP g = true then pickU polyP (us.take j) (gs.take j) ++ [u] else pickU polyP (us.take j) (gs.take j)) := Lib.hid (by
        rw [take_succ_of hus.out, take_succ_of hg.out]
        exact pickU_snoc _ u g _ _ (by rw [List.length_take, List.length_take, HUL.out]))
      clear hog himg hcell hb1 hb2
      obtain ⟨N, hN⟩ : ∃ N, ((gs.take j).filter polyP).length = N := ⟨_, rfl⟩
      rw [hN] at hf HLE
      have HN := Lib.hid hN
      clear hN
      have HSKIP : Hid (polyP g = false → ∀ W, Ext wr W → W.ownsRow w2.heap.size 23 1 u8 ((gs.take (j + 1)).filter polyP).length (pickU polyP (us.take (j + 1)) (gs.take (j + 1)))) := Lib.hid (fun hp W e => by
        rw [HS.out, HPS.out, if_neg (by rw [hp]; simp), if_neg (by rw [hp]; simp), List.append_nil, HN.out]; exact ownsRow_ext hf.out e)
      cases e1 : convexI g
      · rw [e1] at c1
        have HF : Hid (polyP g = false) := Lib.hid (by unfold polyP; rw [e1]; rfl)
        go_wp2_with fail
        refine c1.mono ?_
        rintro e w3 ⟨rfl, he3⟩
        have HE3 := Lib.hid (hE.out.trans he3)
        have HX := Lib.hid (HSKIP.out HF.out w3 he3)
        clear he3
        go_wp2
        go_roundw
        case rel => exact ⟨j + 1, by omega, by go_num, HE3, HX⟩
        case measure => simp [intOf]; omega
      · rw [e1] at c1
        cases e2 : (pieces g == 1)
        · rw [e2] at H2
          have HF : Hid (polyP g = false) := Lib.hid (by unfold polyP; rw [e1, e2]; rfl)
          go_wp2_with (go_at_call 10; refine c1.mono ?_; rintro e w3 ⟨rfl, he3⟩)
          refine (H2.out w3 he3).mono ?_
          rintro e w4 ⟨rfl, he4⟩
          have HE3 := Lib.hid (hE.out.trans (he3.trans he4))
          have HX := Lib.hid (HSKIP.out HF.out w4 (he3.trans he4))
          clear he3 he4
          go_wp2
          go_roundw
          case rel => exact ⟨j + 1, by omega, by go_num, HE3, HX⟩
          case measure => simp [intOf]; omega
        · rw [e2] at H2
          have HT : Hid (polyP g = true) := Lib.hid (by unfold polyP; rw [e1, e2]; rfl)
          go_wp2_with (go_at_call 10; refine c1.mono ?_; rintro e w3 ⟨rfl, he3⟩)
          refine (H2.out w3 he3).mono ?_
          rintro e w4 ⟨rfl, he4⟩
          have HE4 := Lib.hid (hE.out.trans (he3.trans he4))
          have HF4 := Lib.hid (ownsRow_ext hf.out (he3.trans he4))
          have hB4 := HE4.out.size
          clear he3 he4
          go_wp2_with (at_builtin; refine app_img (ownsRow_ext HF4.out ((Ext.refl w4).alloc _)) (Nat.le_trans hB4 (by simp)) (u := .slice Au g.length cu) rfl (by omega) (new_cell rfl) rfl _ _ rfl rfl rfl ?_)
          intro b2 cap2 w5 ho5 hb5
          have HX : Hid (w5.ownsRow w2.heap.size 23 1 (.slice (some ⟨b2, 0, none⟩) (N + 1) cap2) ((gs.take (j + 1)).filter polyP).length (pickU polyP (us.take (j + 1)) (gs.take (j + 1)))) := Lib.hid (by rw [HS.out, HPS.out, if_pos HT.out, if_pos HT.out, List.length_append, HN.out, hue.out]; exact ho5)
          have HE5 : Hid (Ext w2 w5) := Lib.hid (hb5 w2 (HE4.out.alloc _))
          clear ho5 hb5
          go_wp2
          go_roundw
          case rel => exact ⟨j + 1, by omega, by go_num, HE5, HX⟩
          case measure => simp [intOf]; omega
    · obtain rfl : j = gs.length := by omega
      have HG : Hid (OwnGrids wr w.heap.size u8 (polyL rows cols)) := Lib.hid (by
        have h := hf.out
        rw [take_full, ← HUL.out, take_full] at h
        rw [HDEF.out]
        exact (HU.out.pick hE.out polyP HE2.out.size h).grids)
      go_wp2
      go_ret2
      exact ⟨_, rfl, HG.out, HE2.out.trans hE.out⟩


set_option maxHeartbeats 4000000 in
theorem implConvexImage_any (A B : Option Addr) (ca cb : Nat) (rows cols : List Int) (w : World) (hl : rows.length ≤ 1048576) (hl2 : cols.length ≤ 1048576) (hx : Ints w A rows) (hy : Ints w B cols) :
    Calls Try.prog 17 #[.slice A rows.length ca, .slice B cols.length cb] w fun e w' => ∃ v, e = .returned (.tuple #[v, .bool (polyAny rows cols)]) ∧ OwnGrid w' w.heap.size v (polyFirst rows cols) ∧ Ext w w' := by
  have cl := implConvexImages_any A B ca cb rows cols w hl hl2 hx hy
  have hlen : (polyL rows cols).length ≤ 33554432 := Nat.le_trans (List.length_filter_le _ _) (allI_len rows cols)
  have HSO : Hid (sumsOk rows cols = false → polyL rows cols = []) := Lib.hid (fun h => by unfold polyL allI; rw [h]; rfl)
  cases hgs : polyL rows cols with
  | nil =>
    have h1 : polyAny rows cols = false := by unfold polyAny; rw [hgs]; rfl
    have HF : Hid (polyFirst rows cols = []) := Lib.hid (by unfold polyFirst; rw [hgs]; rfl)
    rw [h1]
    simp only [hgs] at cl
    clear hx hy hgs hlen h1 HSO
    cases hso : sumsOk rows cols
    all_goals
      rw [hso] at cl
      go_enter Try.func17, Try.ntmps17
      go_wp2_with fail
      refine cl.mono ?_
      rintro e w2 ⟨v, rfl, ho, he⟩
      obtain ⟨Ag, cg, rfl, _⟩ := ho.slice
      have HE2 := Lib.hid he
      clear ho he cl
      go_wp2
      go_ret2
      exact ⟨_, rfl, by rw [HF.out]; exact OwnGrid.nil _ _, HE2.out⟩
  | cons g gs =>
    have h1 : polyAny rows cols = true := by unfold polyAny; rw [hgs]; rfl
    have HF : Hid (polyFirst rows cols = g) := Lib.hid (by unfold polyFirst; rw [hgs]; rfl)
    have hso : sumsOk rows cols = true := by
      cases h : sumsOk rows cols
      · have := HSO.out h; rw [hgs] at this; cases this
      · rfl
    rw [h1]
    rw [hso] at cl
    simp only [hgs] at cl
    rw [hgs] at hlen
    obtain ⟨N, hN⟩ : ∃ N, (g :: gs).length = N := ⟨_, rfl⟩
    have hN1 : 1 ≤ N := by rw [← hN]; simp
    rw [hN] at hlen
    have HN := Lib.hid hN
    clear hx hy hgs h1 HSO hN hso
    go_enter Try.func17, Try.ntmps17
    go_wp2_with fail
    refine cl.mono ?_
    rintro e w2 ⟨v, rfl, ho, he⟩
    obtain ⟨Ag, cg, rfl, _⟩ := ho.slice
    obtain ⟨b, u, hA, _, _, hcu, hou⟩ := ho.elt (k := 0) (g := g) rfl
    subst hA
    rw [HN.out]
    have HO := Lib.hid hou
    have HE2 := Lib.hid he
    clear ho he hou cl
    go_wp2
    go_ret2
    exact ⟨_, rfl, by rw [HF.out]; exact HO.out, HE2.out⟩
end Go.Proofs.Ytlhjbpachpjpkaa
