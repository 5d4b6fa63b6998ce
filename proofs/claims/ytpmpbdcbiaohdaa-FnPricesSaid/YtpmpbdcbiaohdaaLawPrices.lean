/- The law FnPrices: its walk. -/
import Derived.Test.YtpmpbdcbiaohdaaPair
import Derived.Test.YtpmpbdcbiaohdaaWeights
import Derived.Test.YtpmpbdcbiaohdaaRelax5
import Derived.Test.YtpmpbdcbiaohdaaSameSums
import Derived.Test.YtpmpbdcbiaohdaaFind3
import Derived.Test.YtpmpbdcbiaohdaaBytes
namespace Go.Proofs.Ytpmpbdcbiaohdaa
open Go.RowKit Tomo

theorem weightOf_img2 {x wt : Grid} {n k : Nat} (hx : Img x n k) (hw : weightOk wt n k = true) : weightOf wt x = (weightI wt x, true) := by
  unfold weightOf
  rw [hx.ok, hx.1.1, hx.head, hw]; rfl
theorem weightOk_small {wt : Grid} {n k : Nat} (hs : Shape wt n k) (hb : ∀ r ∈ wt, allIn r (-5) 5 = true) (hn : 1 ≤ n ∧ n ≤ 5) (hk : 1 ≤ k ∧ k ≤ 5) : weightOk wt n k = true := by
  unfold weightOk
  rw [show inR (n : Int) 1 5 = true from inR_iff.2 (by omega), show inR (k : Int) 1 5 = true from inR_iff.2 (by omega), Bool.true_and, Bool.true_and, sized_iff]
  refine ⟨by rw [hs.1], fun r hr => ⟨by rw [hs.2 r hr], ?_⟩⟩
  have h := hb r hr
  unfold allIn at h ⊢
  rw [List.all_eq_true] at h ⊢
  intro z hz
  have := inR_iff.1 (h z hz)
  exact inR_iff.2 (by omega)
theorem wt_bound {wt : Grid} {n k : Nat} (hs : Shape wt n k) (hb : ∀ r ∈ wt, allIn r (-5) 5 = true) : ∀ y x, y < n → x < k → -100 ≤ at2 wt y x ∧ at2 wt y x ≤ 100 := fun y x hy hx => by
  have hy' : y < wt.length := by rw [hs.1]; exact hy
  have hw := hs.2 _ (List.getElem_mem hy')
  have hx' : x < wt[y].length := by omega
  rw [at2_of (List.getElem?_eq_getElem hy') (List.getElem?_eq_getElem hx')]
  have := inR_iff.1 ((List.all_eq_true.1 (hb _ (List.getElem_mem hy'))) _ (List.getElem_mem hx'))
  omega
theorem OwnGrid.sliceAny2 {w : World} {B : Nat} {v : Value} {g : List (List Int)} (h : OwnGrid w B v g) : ∃ A c, v = .slice A g.length c ∧ GridAt w A g := by
  by_cases h0 : 0 < g.length
  · obtain ⟨b, c, rfl, _⟩ := h.form h0
    exact ⟨_, c, rfl, h.gridAt⟩
  · have h0' : g.length = 0 := by omega
    obtain ⟨us, h1, h2, _, _⟩ := h
    rcases h2.2 with ⟨hv, _⟩ | ⟨g', cap, cur, hv, _⟩
    · exact ⟨none, 0, by rw [hv, h0'], fun k r hk => by have := (List.getElem?_eq_some_iff.1 hk).1; omega⟩
    · exact ⟨_, cap, hv, fun k r hk => by have := (List.getElem?_eq_some_iff.1 hk).1; omega⟩
set_option maxRecDepth 100000 in
set_option maxHeartbeats 16000000 in
theorem law_Prices (w : World) (A0 : Option Addr) (c0 : Nat) (xs0 : List Int) (h630 : xs0.length ≤ 9223372036854775807) (hx0 : Bytes w A0 xs0) :
    Calls Try.prog 3 #[.slice A0 xs0.length c0] w fun e w' => e = .returned (.bool true) ∧ Ext w w' := by
  by_cases hlen : xs0.length ≤ 1048576
  case neg =>
    go_enter Try.func3, Try.ntmps3
    go_wp2_with fail
    go_ret
    exact ⟨rfl, Ext.refl _⟩
  have cp := MakePair_any A0 c0 xs0 w hx0 hlen
  have HX0 := Lib.hid hx0
  clear hx0
  go_enter Try.func3, Try.ntmps3
  go_wp2_with fail
  refine cp.mono ?_
  rintro e w1 ⟨b1, c1, b2, c2, m, q, n, k, rfl, ho1, ho2, hP, he⟩
  have HE1 := Lib.hid he
  have HM := Lib.hid ho1.gridAt
  have HQ := Lib.hid ho2.gridAt
  have HP := Lib.hid hP
  have him := hP.1.2
  obtain ⟨hn1, hn5⟩ := him.2.1
  obtain ⟨hk1, hk5⟩ := him.2.2.1
  obtain ⟨R0, cr0, o0, q0, _⟩ := row_fact him HM.out (show 0 < n by omega)
  rw [Nat.zero_add] at q0
  have HQ0 : Hid (∀ W, Ext w1 W → W.cell? ⟨b1, 0, none⟩ = some (.slice (some ⟨R0, o0, none⟩) k cr0)) := Lib.hid fun W e => (e.cell (World.block_lt_of_cell? _ _ q0)).trans q0
  have hn0 : 0 < n := by omega
  have hnI : (0 : Int) < (n : Int) := by omega
  have cm := MakeWeights_any 30 n k A0 c0 xs0 w1 (by omega) ⟨hn1, hn5⟩ ⟨hk1, hk5⟩ (HX0.out.ext he) hlen
  clear cp ho1 ho2 hP him he
  go_wp2_with fail
  refine cm.mono ?_
  rintro e w2 ⟨bw, cw, wt, rfl, how, hws, hwb, he⟩
  have HE2 := Lib.hid he
  have HW := Lib.hid how.gridAt
  have hwk := weightOk_small hws hwb ⟨hn1, hn5⟩ ⟨hk1, hk5⟩
  have hwbd := wt_bound hws hwb
  obtain ⟨f1, f2, f3, f4, f5, f6, f7, f8⟩ := heavy_law HP.out.1.1 HP.out.1.2 HP.out.2.1.1 HP.out.2.2.1 HP.out.2.2.2 hwk
  have hmr : ∀ r ∈ m, r.length ≤ 1048576 := fun r hr => by rw [HP.out.1.2.1.2 r hr]; omega
  have hqr : ∀ r ∈ q, r.length ≤ 1048576 := fun r hr => by rw [HP.out.2.1.2.1.2 r hr]; omega
  have hwr : ∀ r ∈ wt, r.length ≤ 1048576 := fun r hr => by rw [hws.2 r hr]; omega
  have hml := HP.out.1.2.1.1
  have hql := HP.out.2.1.2.1.1
  have hwl := hws.1
  have HRS := Lib.hid (fun W (e : Ext w1 W) => by have h := implRowSums_any (some ⟨b1, 0, none⟩) c1 m W (by omega) hmr (HM.out.ext e); rw [hml] at h; exact h)
  have HCS := Lib.hid (fun W (e : Ext w1 W) => by have h := implColSums_any (some ⟨b1, 0, none⟩) c1 m W (by omega) hmr (HM.out.ext e); rw [hml] at h; exact h)
  have hrl : (rsI m).length ≤ 5 := by unfold rsI; rw [if_pos HP.out.1.1, List.length_map, hml]; exact hn5
  have hcl : (csI m).length ≤ 5 := by unfold csI; rw [if_pos HP.out.1.1, List.length_map, (tr_shape m).1, HP.out.1.2.head]; exact hk5
  have HHV := Lib.hid (fun W (e : Ext w2 W) (A B : Option Addr) (ca cb : Nat) (hx : Ints W A (rsI m)) (hy : Ints W B (csI m)) => by
    have h := implHeaviestImage_any A B (some ⟨bw, 0, none⟩) ca cb cw (rsI m) (csI m) wt W (by omega) (by omega) (by omega) hwr hx hy (HW.out.ext e)
    rw [f1, hwl] at h
    exact h)
  obtain ⟨x, hx⟩ : ∃ x, heavyI wt (rsI m) (csI m) = x := ⟨_, rfl⟩
  obtain ⟨N, hN⟩ : ∃ N, heavyW wt (rsI m) (csI m) = N := ⟨_, rfl⟩
  rw [hx] at f2 f3 f4 f5 f8 HHV
  rw [hN] at f5 f6 f7 HHV
  have hxr : ∀ r ∈ x, r.length ≤ 1048576 := fun r hr => by rw [f2.1.2 r hr]; omega
  have hxl := f2.1.1
  have wm := weightOf_img2 HP.out.1.2 hwk
  have wq := weightOf_img2 HP.out.2.1.2 hwk
  have wx := weightOf_img2 f2 hwk
  rw [f5] at wx
  have HWM := Lib.hid (fun W (e1 : Ext w1 W) (e : Ext w2 W) => by
    have h := implWeightOf_any (some ⟨bw, 0, none⟩) (some ⟨b1, 0, none⟩) cw c1 wt m W (by omega) hwr (by omega) hmr (HW.out.ext e) (HM.out.ext e1)
    rw [wm, hwl, hml] at h
    exact h)
  have HWQ := Lib.hid (fun W (e1 : Ext w1 W) (e : Ext w2 W) => by
    have h := implWeightOf_any (some ⟨bw, 0, none⟩) (some ⟨b2, 0, none⟩) cw c2 wt q W (by omega) hwr (by omega) hqr (HW.out.ext e) (HQ.out.ext e1)
    rw [wq, hwl, hql] at h
    exact h)
  have HWX := Lib.hid (fun W (X : Option Addr) (xc : Nat) (e : Ext w2 W) (hg : GridAt W X x) => by
    have h := implWeightOf_any (some ⟨bw, 0, none⟩) X cw xc wt x W (by omega) hwr (by omega) hxr (HW.out.ext e) hg
    rw [wx, hwl, hxl] at h
    exact h)
  have HWK := Lib.hid (fun W (e : Ext w2 W) => by
    have h := implWeightOk_any (some ⟨bw, 0, none⟩) cw wt n k W (by omega) hwr (HW.out.ext e)
    rw [hwk, hwl] at h
    exact h)
  have HSS := Lib.hid (fun W (X : Option Addr) (xc : Nat) (e : Ext w1 W) (hg : GridAt W X x) => SameSums_any X (some ⟨b1, 0, none⟩) xc c1 x m n k W f2 HP.out.1.2 f3 f4 hg (HM.out.ext e))
  have ox : (weightOf wt x).2 = true := by rw [wx]
  have om : (weightOf wt m).2 = true := by rw [wm]
  obtain ⟨i1, i2⟩ := fp_image f2 ox hwbd
  obtain ⟨j1, j2⟩ := fp_image HP.out.1.2 om hwbd
  obtain ⟨x1, x2, x3, x4, x5⟩ := i2 f8
  have sx : (fpI wt x).isSome = true := i1.2 f8
  have px : pricesOk wt x (fpA wt x) (fpB wt x) = true := (pricesOk_iff f2 ox x1 x2 x3 x4).2 x5
  have hiff := heavy_iff HP.out.1.2 f2 f3 f4 f8
  have pm := prices_iff HP.out.1.2 f2 f3 f4 f8 om x1 x2 x3 x4 x5
  rw [f5] at pm hiff
  have HFX := Lib.hid (fun W (X : Option Addr) (xc : Nat) (e : Ext w2 W) (hg : GridAt W X x) => by
    have h := implFindPrices_any (some ⟨bw, 0, none⟩) X cw xc wt x W (by omega) hwr (by omega) hxr (HW.out.ext e) hg
    rw [sx, hwl, hxl] at h
    exact h)
  have HFM := Lib.hid (fun W (e1 : Ext w1 W) (e : Ext w2 W) => by
    have h := implFindPrices_any (some ⟨bw, 0, none⟩) (some ⟨b1, 0, none⟩) cw c1 wt m W (by omega) hwr (by omega) hmr (HW.out.ext e) (HM.out.ext e1)
    rw [hwl, hml] at h
    exact h)
  have toE : ∀ {W : World} {e : Ending} {W' : World} {v : Value}, e = .returned v ∧ Drew W W' → e = .returned v ∧ Ext W W' := fun {W e W' v} h => ⟨h.1, by obtain ⟨_, d, rfl⟩ := h; exact (Ext.refl _).drewN d⟩
  have HPX := Lib.hid (fun W (X P Q : Option Addr) (xc pc qc : Nat) (e : Ext w2 W) (hg : GridAt W X x) (hp : Ints W P (fpA wt x)) (hq : Ints W Q (fpB wt x)) => by
    have h := (implPricesOk_any (some ⟨bw, 0, none⟩) X P Q cw xc pc qc wt x (fpA wt x) (fpB wt x) W (by omega) hwr (by omega) hxr (by omega) (by omega) (HW.out.ext e) hg hp hq).mono fun _ _ h => toE h
    rw [px, hwl, hxl] at h
    exact h)
  have HPM := Lib.hid (fun W (P Q : Option Addr) (pc qc : Nat) (e1 : Ext w1 W) (e : Ext w2 W) (hp : Ints W P (fpA wt x)) (hq : Ints W Q (fpB wt x)) => by
    have h := (implPricesOk_any (some ⟨bw, 0, none⟩) (some ⟨b1, 0, none⟩) P Q cw c1 pc qc wt m (fpA wt x) (fpB wt x) W (by omega) hwr (by omega) hmr (by omega) (by omega) (HW.out.ext e) (HM.out.ext e1) hp hq).mono fun _ _ h => toE h
    rw [pm, hwl, hml] at h
    exact h)
  have hsm : (fpI wt m).isSome = decide (weightI wt m = N) := by rw [Bool.eq_iff_iff, decide_eq_true_eq, j1, hiff]
  have HPS := Lib.hid (fun (hv : weightI wt m = N) W (P Q : Option Addr) (pc qc : Nat) (e1 : Ext w1 W) (e : Ext w2 W) (hp : Ints W P (fpA wt m)) (hq : Ints W Q (fpB wt m)) => by
    obtain ⟨y1, y2, y3, y4, y5⟩ := j2 (hiff.2 hv)
    have h := (implPricesOk_any (some ⟨bw, 0, none⟩) (some ⟨b1, 0, none⟩) P Q cw c1 pc qc wt m (fpA wt m) (fpB wt m) W (by omega) hwr (by omega) hmr (by omega) (by omega) (HW.out.ext e) (HM.out.ext e1) hp hq).mono fun _ _ h => toE h
    rw [(pricesOk_iff HP.out.1.2 om y1 y2 y3 y4).2 y5, hwl, hml] at h
    exact h)
  rw [hsm] at HFM
  have HXL := Lib.hid hxl
  obtain ⟨rs, hrs⟩ : ∃ rs, rsI m = rs := ⟨_, rfl⟩
  obtain ⟨cs, hcs⟩ : ∃ cs, csI m = cs := ⟨_, rfl⟩
  obtain ⟨vm, hvm⟩ : ∃ vm, weightI wt m = vm := ⟨_, rfl⟩
  obtain ⟨vq, hvq⟩ : ∃ vq, weightI wt q = vq := ⟨_, rfl⟩
  obtain ⟨pa, hpa⟩ : ∃ pa, fpA wt x = pa := ⟨_, rfl⟩
  obtain ⟨pb, hpb⟩ : ∃ pb, fpB wt x = pb := ⟨_, rfl⟩
  obtain ⟨sa, hsa⟩ : ∃ sa, fpA wt m = sa := ⟨_, rfl⟩
  obtain ⟨sb, hsb⟩ : ∃ sb, fpB wt m = sb := ⟨_, rfl⟩
  rw [hrs] at HRS HHV hrl
  rw [hcs] at HCS HHV hcl
  rw [hvm] at f6 HWM HFM HPS HPM
  rw [hvq] at f7 HWQ
  rw [hpa, hpb] at HFX HPX HPM
  rw [hsa, hsb] at HFM HPS
  have g1 : decide (N < vm) = false := by simp; omega
  have g2 : decide (N < vq) = false := by simp; omega
  clear cm how hws hwb he hwk hwbd f1 f2 f3 f4 f5 f6 f7 f8 hmr hqr hwr hml hql hwl hxr hxl wm wq wx ox om i1 i2 j1 j2 x1 x2 x3 x4 x5 sx px hiff pm toE hsm hrs hcs hvm hvq hpa hpb hsa hsb hx hN
  have t1 := HRS.out w2 HE2.out
  go_wp2_with fail
  refine t1.mono ?_
  rintro e w3 ⟨v3, rfl, ho3, he3⟩
  obtain ⟨A3, c3, rfl, _, hi3⟩ := ho3.slice
  have HE3 := Lib.hid (HE2.out.trans he3)
  have HE23 := Lib.hid he3
  have HI3 := Lib.hid hi3
  have t2 := HCS.out w3 HE3.out
  clear t1 ho3 he3 hi3
  go_wp2_with fail
  refine t2.mono ?_
  rintro e w4 ⟨v4, rfl, ho4, he4⟩
  obtain ⟨A4, c4, rfl, _, hi4⟩ := ho4.slice
  have HE4 := Lib.hid (HE3.out.trans he4)
  have HE24 := Lib.hid (HE23.out.trans he4)
  have t3 := HHV.out w4 HE24.out A3 A4 c3 c4 (HI3.out.ext he4) hi4
  clear t2 ho4 he4 hi4 HI3
  go_wp2_with fail
  refine t3.mono ?_
  rintro e w5 ⟨v5, rfl, ho5, he5⟩
  obtain ⟨X, xc, hX, hgx⟩ := ho5.sliceAny2
  rw [HXL.out] at hX
  subst hX
  have HGX := Lib.hid hgx
  have HE5 := Lib.hid (HE4.out.trans he5)
  have HE25 := Lib.hid (HE24.out.trans he5)
  have t4 := HWM.out w5 HE5.out HE25.out
  have t5 := HWQ.out w5 HE5.out HE25.out
  have t6 := HWX.out w5 X xc HE25.out hgx
  have t7 := HWK.out w5 HE25.out
  have t8 := HSS.out w5 X xc HE5.out hgx
  have q5 := HQ0.out w5 HE5.out
  clear t3 ho5 he5 hgx
  go_wp2_with fail
  refine t4.mono ?_
  rintro e w6 ⟨rfl, rfl⟩
  clear t4
  go_wp2_with fail
  refine t5.mono ?_
  rintro e w6 ⟨rfl, rfl⟩
  clear t5
  go_wp2_with fail
  refine t6.mono ?_
  rintro e w6 ⟨rfl, rfl⟩
  clear t6
  go_wp2_with fail
  refine t7.mono ?_
  rintro e w6 ⟨rfl, rfl⟩
  clear t7 q5
  go_wp2_with fail
  refine t8.mono ?_
  rintro e w6 ⟨rfl, he6⟩
  have HE6 := Lib.hid (HE5.out.trans he6)
  have HE26 := Lib.hid (HE25.out.trans he6)
  have HGX6 := Lib.hid (HGX.out.ext he6)
  have t9 := HFX.out w6 X xc HE26.out HGX6.out
  clear t8 he6
  go_wp2_with fail
  refine t9.mono ?_
  rintro e w7 ⟨u1, u2, mid, rfl, hm1, hm2, ho1, ho2, he7⟩
  obtain ⟨P, pc, rfl, _, hip⟩ := ho1.1.slice
  obtain ⟨Q, qc, rfl, _, hiq⟩ := ho2.1.slice
  have HE7 := Lib.hid (HE6.out.trans he7)
  have HE27 := Lib.hid (HE26.out.trans he7)
  have HIP := Lib.hid hip
  have HIQ := Lib.hid hiq
  have t10 := HPX.out w7 X P Q xc pc qc HE27.out (HGX6.out.ext he7) hip hiq
  clear t9 hm1 hm2 ho1 ho2 he7 hip hiq
  go_wp2_with fail
  refine t10.mono ?_
  rintro e w8 ⟨rfl, he8⟩
  have HE8 := Lib.hid (HE7.out.trans he8)
  have HE28 := Lib.hid (HE27.out.trans he8)
  have HIP8 := Lib.hid (HIP.out.ext he8)
  have HIQ8 := Lib.hid (HIQ.out.ext he8)
  have t11 := HFM.out w8 HE8.out HE28.out
  clear t10 he8
  by_cases hvN : vm = N
  · have d1 : decide (vm = N) = true := decide_eq_true hvN
    have d2 : (vm == N) = true := by simp [hvN]
    rw [d1] at t11 HPM
    have HP2 := Lib.hid (HPS.out hvN)
    clear hvN HPS d1
    go_wp2_with fail
    refine t11.mono ?_
    rintro e w9 ⟨u3, u4, mid, rfl, hm1, hm2, ho3, ho4, he9⟩
    obtain ⟨S, sc, rfl, _, his⟩ := ho3.1.slice
    obtain ⟨T, tc, rfl, _, hit⟩ := ho4.1.slice
    have HE9 := Lib.hid (HE8.out.trans he9)
    have HE29 := Lib.hid (HE28.out.trans he9)
    have HIP9 := Lib.hid (HIP8.out.ext he9)
    have HIQ9 := Lib.hid (HIQ8.out.ext he9)
    have t12 := HP2.out w9 S T sc tc HE9.out HE29.out his hit
    clear t11 hm1 hm2 ho3 ho4 he9 his hit
    go_wp2_with fail
    refine t12.mono ?_
    rintro e wa ⟨rfl, hea⟩
    have HEA := Lib.hid (HE9.out.trans hea)
    have t13 := HPM.out wa P Q pc qc HEA.out (HE29.out.trans hea) (HIP9.out.ext hea) (HIQ9.out.ext hea)
    clear t12 hea
    go_wp2_with fail
    refine t13.mono ?_
    rintro e wc ⟨rfl, hec⟩
    have HEC := Lib.hid (HEA.out.trans hec)
    clear t13 hec
    go_wp2_with fail
    go_ret
    exact ⟨rfl, HE1.out.trans HEC.out⟩
  · have d1 : decide (vm = N) = false := decide_eq_false hvN
    have d2 : (vm == N) = false := by simp [hvN]
    rw [d1] at t11 HPM
    clear hvN HPS d1
    go_wp2_with fail
    refine t11.mono ?_
    rintro e w9 ⟨u3, u4, mid, rfl, hm1, hm2, ho3, ho4, he9⟩
    obtain ⟨S, sc, rfl, _, his⟩ := ho3.1.slice
    obtain ⟨T, tc, rfl, _, hit⟩ := ho4.1.slice
    have HE9 := Lib.hid (HE8.out.trans he9)
    have t13 := HPM.out w9 P Q pc qc HE9.out (HE28.out.trans he9) (HIP8.out.ext he9) (HIQ8.out.ext he9)
    clear t11 hm1 hm2 ho3 ho4 he9 his hit
    go_wp2_with fail
    refine t13.mono ?_
    rintro e wc ⟨rfl, hec⟩
    have HEC := Lib.hid (HE9.out.trans hec)
    clear t13 hec
    go_wp2_with fail
    go_ret
    exact ⟨rfl, HE1.out.trans HEC.out⟩
end Go.Proofs.Ytpmpbdcbiaohdaa
