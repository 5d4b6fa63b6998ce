/- AddGhost, in the reference and in the program. -/
import Derived.Test.YtiekgdgonleoaaaGhost1
namespace Go.Proofs.Ytiekgdgonleoaaa
open Go.RowKit Tomo


set_option maxRecDepth 100000 in
set_option maxHeartbeats 4000000 in
theorem implAddGhost_any (A B : Option Addr) (ca cb : Nat) (m g : Grid) (y x : Int) (w : World) (hl : m.length ≤ 1048576) (hr : ∀ r ∈ m, r.length ≤ 1048576) (hl2 : g.length ≤ 1048576) (hr2 : ∀ r ∈ g, r.length ≤ 1048576) (hx : GridAt w A m) (hy : GridAt w B g) :
    Calls Try.prog 13 #[.slice A m.length ca, .slice B g.length cb, .int .i64 y, .int .i64 x] w fun e w' => ∃ v, e = .returned (.tuple #[v, .bool (addOk m g y x)]) ∧ OwnGrid w' w.heap.size v (addI m g y x) ∧ Ext w w' := by
  have ci : ∀ d, Calls Try.prog 27 #[.slice A m.length ca] (w.drewN d) fun e w' => e = .returned (.bool (gridOk m 0 1)) ∧ w' = w.drewN d := fun d => (implImageOk_any A ca m (w.drewN d) hl hr (hx.ext ((Ext.refl w).drewN d))).mono fun e w' h => ⟨h.1, h.2.symm⟩
  have cg : ∀ d, Calls Try.prog 31 #[.slice B g.length cb, .int .i64 (-9223372036854775808), .int .i64 9223372036854775807] (w.drewN d) fun e w' => e = .returned (.bool (gridOk g (-9223372036854775808) 9223372036854775807)) ∧ w' = w.drewN d := fun d => (gridOk_any B cb g (-9223372036854775808) 9223372036854775807 (w.drewN d) hl2 hr2 (hy.ext ((Ext.refl w).drewN d))).mono fun e w' h => ⟨h.1, h.2.symm⟩
  cases h1 : gridOk m 0 1
  · simp only [h1] at ci
    obtain ⟨q1, q2⟩ := addOk_bad (m := m) (g := g) (y := y) (x := x) (by unfold addPre; rw [h1]; rfl)
    clear hx hy cg
    rw [q1]
    go_enter Try.func13, Try.ntmps13
    go_wp2_with fail
    go_quiet ((first | (go_at_call 27; with_reducible refine Calls.quiet_of_same (ci _)) | (go_at_call 31; with_reducible refine Calls.quiet_of_same (cg _)) | (go_at_call 32; exact Calls.quiet_of_same ((within_any _ _ _ _).mono fun e w' h => ⟨h.1, h.2.symm⟩))))
    go_wp2_with fail
    go_ret2
    exact ⟨_, rfl, by rw [q2]; exact OwnGrid.nil _ _, (Ext.refl w).drewN _⟩
  simp only [h1] at ci
  have himg := Img.of h1
  obtain ⟨hn1, hn5⟩ := himg.2.1
  obtain ⟨hk1, hk5⟩ := himg.2.2.1
  cases h2 : gridOk g (-9223372036854775808) 9223372036854775807
  · simp only [h2] at cg
    obtain ⟨q1, q2⟩ := addOk_bad (m := m) (g := g) (y := y) (x := x) (by
      unfold addPre
      have h3 : gridOk g (-1) 1 = false := by
        cases e : gridOk g (-1) 1
        · rfl
        · have h4 : gridOk g (-9223372036854775808) 9223372036854775807 = true := by
            obtain ⟨k1, k2⟩ := gridOk_iff.1 e
            refine gridOk_iff.2 ⟨k1, fun r hr => ⟨(k2 r hr).1, (k2 r hr).2.1, ?_⟩⟩
            unfold allIn
            rw [List.all_eq_true]
            intro c hc
            have := inR_iff.1 ((List.all_eq_true.1 (k2 r hr).2.2) c hc)
            rw [inR_iff]; omega
          rw [h4] at h2; cases h2
      rw [h3]; simp)
    clear hx hy himg
    rw [q1]
    go_enter Try.func13, Try.ntmps13
    go_wp2_with fail
    go_quiet ((first | (go_at_call 27; with_reducible refine Calls.quiet_of_same (ci _)) | (go_at_call 31; with_reducible refine Calls.quiet_of_same (cg _)) | (go_at_call 32; exact Calls.quiet_of_same ((within_any _ _ _ _).mono fun e w' h => ⟨h.1, h.2.symm⟩))))
    go_wp2_with fail
    go_ret2
    exact ⟨_, rfl, by rw [q2]; exact OwnGrid.nil _ _, (Ext.refl w).drewN _⟩
  simp only [h2] at cg
  obtain ⟨g1, g2⟩ := gridOk_iff.1 h2
  have hgsh := gridOk_shape h2
  obtain ⟨bm, om, _, _, _, hA, _⟩ := hx.at_ (k := 0) (by omega)
  subst hA
  obtain ⟨R0, c0, q0⟩ := himg.head3 hx
  obtain ⟨bg, og, _, _, _, hB, _⟩ := hy.at_ (k := 0) (by omega)
  subst hB
  obtain ⟨R1, c1, r1, hr1, q3, _⟩ := hy.at1 (k := 0) (by omega)
  rw [Nat.add_zero, hgsh.1.row hr1.out] at q3
  cases h3 : inR y 0 ((m.length : Int) - g.length)
  · obtain ⟨q1, q2⟩ := addOk_bad (m := m) (g := g) (y := y) (x := x) (by unfold addPre; rw [h3]; simp)
    clear hx hy himg hgsh g2 hr1
    rw [q1]
    go_enter Try.func13, Try.ntmps13
    go_wp2_with fail
    go_quiet ((first | (go_at_call 27; with_reducible refine Calls.quiet_of_same (ci _)) | (go_at_call 31; with_reducible refine Calls.quiet_of_same (cg _)) | (go_at_call 32; exact Calls.quiet_of_same ((within_any _ _ _ _).mono fun e w' h => ⟨h.1, h.2.symm⟩))))
    go_wp2_with fail
    go_ret2
    exact ⟨_, rfl, by rw [q2]; exact OwnGrid.nil _ _, (Ext.refl w).drewN _⟩
  cases h4 : inR x 0 (((m.headD []).length : Int) - (g.headD []).length)
  · obtain ⟨q1, q2⟩ := addOk_bad (m := m) (g := g) (y := y) (x := x) (by unfold addPre; rw [h4]; simp)
    have hgk5 := hgsh.2.2.2.2
    clear hx hy himg hgsh g2 hr1
    obtain ⟨k, hk⟩ : ∃ k, (m.headD []).length = k := ⟨_, rfl⟩
    obtain ⟨gk, hgk⟩ : ∃ gk, (g.headD []).length = gk := ⟨_, rfl⟩
    rw [hk] at h4 q0 hk1 hk5
    rw [hgk] at h4 q3 hgk5
    rw [q1]
    go_enter Try.func13, Try.ntmps13
    go_wp2_with fail
    go_quiet ((first | (go_at_call 27; with_reducible refine Calls.quiet_of_same (ci _)) | (go_at_call 31; with_reducible refine Calls.quiet_of_same (cg _)) | (go_at_call 32; exact Calls.quiet_of_same ((within_any _ _ _ _).mono fun e w' h => ⟨h.1, h.2.symm⟩))))
    go_wp2_with fail
    go_ret2
    exact ⟨_, rfl, by rw [q2]; exact OwnGrid.nil _ _, (Ext.refl w).drewN _⟩
  obtain ⟨y1, y2⟩ := inR_iff.1 h3
  obtain ⟨x1, x2⟩ := inR_iff.1 h4
  obtain ⟨Y, rfl⟩ : ∃ Y : Nat, y = Y := ⟨y.toNat, by omega⟩
  obtain ⟨X, rfl⟩ : ∃ X : Nat, x = X := ⟨x.toNat, by omega⟩
  have hrows : ∀ r ∈ g, r.length = (g.headD []).length := fun r hr => (g2 r hr).1
  have hgn5 := hgsh.2.2.1
  have hgk5 := hgsh.2.2.2.2
  have hnot : ∀ a b r c, g[a]? = some r → r[b]? = some c → inR c (-1) 1 = false → addOk m g Y X = false ∧ addI m g Y X = [] := fun a b r c hr hc h =>
    addOk_bad (by unfold addPre; rw [gridOk_cell hr hc h]; simp)
  have hyes : (g.all fun r => allIn r (-1) 1) = true → addPre m g Y X = true := fun h => by
    have h5 : gridOk g (-1) 1 = true := gridOk_iff.2 ⟨g1, fun r hr => ⟨(g2 r hr).1, (g2 r hr).2.1, (List.all_eq_true.1 h) r hr⟩⟩
    unfold addPre; rw [h1, h5, h3, h4]; rfl
  have HCC : Hid (∀ d, Calls Try.prog 33 #[.slice (some ⟨bm, om, none⟩) m.length ca] (w.drewN d) fun e w' => ∃ b cap, e = .returned (.slice (some ⟨b, 0, none⟩) m.length cap) ∧ OwnGrid w' w.heap.size (.slice (some ⟨b, 0, none⟩) m.length cap) m ∧ Ext w w') := Lib.hid (fun d => (copyGrid_any (some ⟨bm, om, none⟩) ca m (w.drewN d) (by omega) (by omega) (fun r hr => by have := himg.1.2 r hr; omega) (hx.ext ((Ext.refl w).drewN d))).mono fun e w' ⟨b, cap, h1, h2, h3⟩ => ⟨b, cap, h1, h2, ((Ext.refl w).drewN d).trans h3⟩)
  have HIMOK := Lib.hid (fun (W : World) (q : Grid) (b c : Nat) (h1 : Shape q m.length (m.headD []).length) (hg : GridAt W (some ⟨b, 0, none⟩) q) => implImageOk_any (some ⟨b, 0, none⟩) c q W (by rw [h1.1]; exact hl) (fun r hr => by rw [h1.2 r hr]; omega) hg)
  have HM := Lib.hid himg
  have HG := Lib.hid hy
  have HSUM := Lib.hid (fun (q : Grid) (h : AddSt m.length (m.headD []).length m g (g.headD []).length Y X g.length 0 q) => h.sum rfl rfl rfl rfl)
  have HNOT := Lib.hid hnot
  have HYES : Hid ((g.all fun r => allIn r (-1) 1) = true → addOk m g Y X = gridOk (sumG m g Y X) 0 1 ∧ (gridOk (sumG m g Y X) 0 1 = true → addI m g Y X = sumG m g Y X) ∧ (gridOk (sumG m g Y X) 0 1 = false → addI m g Y X = [])) := Lib.hid (fun h => by
    have h1 := hyes h
    have e1 : addOk m g Y X = gridOk (sumG m g Y X) 0 1 := by unfold addOk; rw [h1, Bool.true_and]; rfl
    refine ⟨e1, fun h2 => by unfold addI; rw [e1, if_pos h2]; rfl, fun h2 => by unfold addI; rw [e1, h2]; rfl⟩)
  have HROWS : Hid (∀ r ∈ g, r.length = (g.headD []).length) := Lib.hid hrows
  have HBITS : Hid (∀ i l, i < m.length → l < (m.headD []).length → at2 m i l = 0 ∨ at2 m i l = 1) := Lib.hid (fun i l hi hl => by
    obtain ⟨r, c, h1, _, h3, h4⟩ := himg.cell hi hl
    rw [at2_of h1 h3]; exact h4)
  obtain ⟨n, hn⟩ : ∃ n, m.length = n := ⟨_, rfl⟩
  obtain ⟨k, hk⟩ : ∃ k, (m.headD []).length = k := ⟨_, rfl⟩
  obtain ⟨gn, hgn⟩ : ∃ gn, g.length = gn := ⟨_, rfl⟩
  obtain ⟨gk, hgk⟩ : ∃ gk, (g.headD []).length = gk := ⟨_, rfl⟩
  have HGN := Lib.hid hgn
  rw [hn, hk] at HIMOK HSUM HM HBITS
  rw [hgn, hgk] at HSUM
  rw [hgk] at HROWS
  rw [hn] at HCC hn1 hn5 h3 y2
  simp only [hn] at ci
  rw [hgn] at h3 y2 g1 hgn5 hl2
  simp only [hgn] at cg
  rw [hk] at q0 hk1 hk5 h4 x2
  rw [hgk] at q3 h4 x2 hgk5
  rw [hn] at hl
  rw [hn, hgn]
  clear h1 h2 hgsh g2 hr1
  obtain ⟨ok, hok⟩ : ∃ ok, addOk m g Y X = ok := ⟨_, rfl⟩
  obtain ⟨res, hres⟩ : ∃ res, addI m g Y X = res := ⟨_, rfl⟩
  rw [hok, hres] at HNOT HYES ⊢
  obtain ⟨sg, hsg⟩ : ∃ sg, sumG m g Y X = sg := ⟨_, rfl⟩
  rw [hsg] at HYES
  simp only [hsg] at HSUM
  clear hx hy himg hyes hnot hrows hn hk hgn hgk hok hres hsg hr hr2
  have go : ∀ okv : Bool, ok = okv → Calls Try.prog 13 #[.slice (some ⟨bm, om, none⟩) n ca, .slice (some ⟨bg, og, none⟩) gn cb, .int .i64 (Y : Int), .int .i64 (X : Int)] w fun e w' => ∃ v, e = .returned (.tuple #[v, .bool okv]) ∧ OwnGrid w' w.heap.size v res ∧ Ext w w' := by
    intro okv hokv
    have HOK := Lib.hid hokv
    clear hokv
    cases okv
    all_goals
      go_enter Try.func13, Try.ntmps13
      go_wp2_with fail
      go_quiet ((first | (go_at_call 27; with_reducible refine Calls.quiet_of_same (ci _)) | (go_at_call 31; with_reducible refine Calls.quiet_of_same (cg _)) | (go_at_call 32; exact Calls.quiet_of_same ((within_any _ _ _ _).mono fun e w' h => ⟨h.1, h.2.symm⟩))))
      go_wp2_with fail
      refine (HCC.out _).mono ?_
      rintro e w1 ⟨b4, c4, rfl, ho4, he4⟩
      have HE4 := Lib.hid he4
      have HO4 := Lib.hid ho4
      clear ho4 he4
      go_wp2_with fail
      go_loopw [51, 11, 12, 13, 14] (fun i _ _ _ _ wr => ∃ (a : Nat) (q : Grid), a ≤ gn ∧ i = .int .i64 a ∧ Hid (Ext w wr) ∧ Hid (OwnGrid wr w.heap.size (.slice (some ⟨b4, 0, none⟩) n c4) q) ∧ Hid (AddSt n k m g gk Y X a 0 q) ∧ Hid (((g.take a).all fun r => allIn r (-1) 1) = true)) (fun i _ _ _ _ _ => gn - (intOf i).toNat)
      case atStart => exact ⟨0, m, Nat.zero_le _, rfl, HE4, HO4, Lib.hid (AddSt.start HM.out.1), Lib.hid rfl⟩
      case round =>
        rename World => wa
        obtain ⟨a, q, ha, rfl, hE, hq, hS, hA⟩ := hrel
        by_cases hlt : a < gn
        · obtain ⟨b5, o5, R5, c5, gr, hA5, _, hgr, hcg, hig⟩ := (HG.out.ext hE.out).at_ (k := a) (by rw [HGN.out]; exact hlt)
          cases hA5
          have hgrl := HROWS.out gr (List.mem_of_getElem? hgr.out)
          rw [hgrl] at hcg
          have HGR := Lib.hid hgrl
          have HIG : Hid (∀ W, Ext w W → Ints W R5 gr) := Lib.hid (fun W e => by
            obtain ⟨b6, o6, R6, c6, hA6, hb6, hc6, _, hi6⟩ := HG.out a gr hgr.out
            cases hA6
            have e1 := (hE.out.cell (p := ⟨bg, og + a, none⟩) hb6).trans hc6
            rw [e1] at hcg
            cases hcg
            exact hi6.ext e)
          clear hgrl hig
          go_wp2_with fail
          go_loopw [58, 13, 14] (fun i _ _ wr => ∃ (b : Nat) (q : Grid), b ≤ gk ∧ i = .int .i64 b ∧ Hid (Ext w wr) ∧ Hid (OwnGrid wr w.heap.size (.slice (some ⟨b4, 0, none⟩) n c4) q) ∧ Hid (AddSt n k m g gk Y X a b q) ∧ Hid (((gr.take b).all fun c => inR c (-1) 1) = true)) (fun i _ _ _ => gk - (intOf i).toNat)
          case atStart => exact ⟨0, q, Nat.zero_le _, rfl, hE, hq, hS, Lib.hid rfl⟩
          case round =>
            rename World => wb
            clear hq hS hE
            obtain ⟨b, q, hbk, rfl, hE, hq, hS, hB⟩ := hrel
            by_cases hltb : b < gk
            · obtain ⟨b7, o7, cv, rfl, _, hcv, hc7⟩ := (HIG.out wb hE.out).at_ (k := b) (by rw [HGR.out]; exact hltb)
              cases hin : inR cv (-1) 1
              · have HR := Lib.hid (HNOT.out a b gr cv hgr.out hcv.out hin)
                first
                  | exact Bool.noConfusion (HR.out.1.symm.trans HOK.out)
                  | (go_wp2_with ((go_at_call 32; refine (within_any _ _ _ _).mono ?_; rintro e w' ⟨rfl, rfl⟩))
                     go_ret2
                     exact ⟨_, rfl, by rw [HR.out.2]; exact OwnGrid.nil _ _, hE.out⟩)
              · obtain ⟨qr, hqr, hqrl⟩ := hS.out.1.get (show Y + a < n by omega)
                obtain ⟨Rq, cR, hcq, hle, hBR, hRl, hints, hfr, hset⟩ := (hq.out.ext (Ext.refl wb)).row hqr (by omega)
                obtain ⟨ov, hov, hc8⟩ := hints.at1 (k := X + b) (by omega)
                rw [Nat.zero_add] at hc8
                rw [hqrl] at hcq
                have hf := hfr (X + b)
                have e1 := at2_of hqr hov.out
                have hbit := HBITS.out (Y + a) (X + b) (by omega) (by omega)
                rw [← hS.out.cell (by omega) (by omega), e1] at hbit
                obtain ⟨cv1, cv2⟩ := inR_iff.1 hin
                have ho1 : 0 ≤ ov := by omega
                have ho2 : ov ≤ 1 := by omega
                have HSET := Lib.hid (hset (X + b) (ov + cv) (by omega))
                have HEN : Hid (Ext w (wb.setCell ⟨Rq, X + b, none⟩ (.int .i64 (ov + cv)))) := Lib.hid (Below.setCell (hE.out.trans (Ext.refl wb)) hBR _)
                have HN2 : Hid (AddSt n k m g gk Y X a (b + 1) (q.set (Y + a) (qr.set (X + b) (ov + cv)))) := Lib.hid (hS.out.put (by omega) (by omega) hltb hqr e1 (at2_of hgr.out hcv.out))
                have HB2 : Hid (((gr.take (b + 1)).all fun c => inR c (-1) 1) = true) := Lib.hid (by rw [take_all_succ hcv.out, hB.out, hin]; rfl)
                clear hset hfr hints hqr hqrl hbit e1
                go_wp2_with ((go_at_call 32; refine (within_any _ _ _ _).mono ?_; rintro e w' ⟨rfl, rfl⟩))
                go_roundw
                case rel => exact ⟨b + 1, _, by omega, by go_num, HEN, HSET, HN2, HB2⟩
                case measure => simp [intOf]; omega
            · obtain rfl : b = gk := by omega
              have HN2 := Lib.hid hS.out.row
              have HA2 : Hid (((g.take (a + 1)).all fun r => allIn r (-1) 1) = true) := Lib.hid (by
                rw [take_all_succ hgr.out, hA.out, Bool.true_and]
                have h := hB.out
                rw [List.take_of_length_le (by rw [HGR.out]; omega)] at h
                exact h)
              go_wp2_with fail
              go_roundw
              case rel => exact ⟨a + 1, q, by omega, by go_num, hE, hq, HN2, HA2⟩
              case measure => simp [intOf]; omega
        · obtain rfl : a = gn := by omega
          have HQ := HSUM.out q hS.out
          have HY := HYES.out (by have h := hA.out; rw [List.take_of_length_le (by rw [HGN.out]; omega)] at h; exact h)
          rw [← HQ] at HY
          have ci := HIMOK.out wa q b4 c4 hS.out.1 hq.out.gridAt
          rw [hS.out.1.1] at ci
          obtain ⟨hy1, hy2, hy3⟩ := HY
          rw [← hy1] at ci hy2 hy3
          have HR : (ok = true ∧ res = q) ∨ (ok = false ∧ res = []) := by
            cases hh : ok
            · exact .inr ⟨rfl, hy3 hh⟩
            · exact .inl ⟨rfl, hy2 hh⟩
          rw [HOK.out] at ci
          clear hy1 hy2 hy3 HQ HYES
          rcases HR with ⟨h, hr⟩ | ⟨h, hr⟩
          · first
              | exact Bool.noConfusion (h.symm.trans HOK.out)
              | (have HRES := Lib.hid hr
                 clear h hr
                 go_wp2_with (go_at_call 27; refine ci.mono ?_; rintro e w' ⟨rfl, rfl⟩)
                 go_ret2
                 exact ⟨_, rfl, by rw [HRES.out]; exact hq.out, hE.out⟩)
          · first
              | exact Bool.noConfusion (h.symm.trans HOK.out)
              | (have HRES := Lib.hid hr
                 clear h hr
                 go_wp2_with (go_at_call 27; refine ci.mono ?_; rintro e w' ⟨rfl, rfl⟩)
                 go_ret2
                 exact ⟨_, rfl, by rw [HRES.out]; exact OwnGrid.nil _ _, hE.out⟩)
  exact go ok rfl

end Go.Proofs.Ytiekgdgonleoaaa
