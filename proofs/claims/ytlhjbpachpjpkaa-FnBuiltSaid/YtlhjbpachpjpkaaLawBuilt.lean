/- The law FnBuilt: its walk. -/
import Derived.Test.YtlhjbpachpjpkaaBuB
import Derived.Test.YtlhjbpachpjpkaaBuilt6
import Derived.Test.YtlhjbpachpjpkaaLeast
import Derived.Test.YtlhjbpachpjpkaaPlace
import Derived.Test.YtlhjbpachpjpkaaReach4
import Derived.Test.YtlhjbpachpjpkaaSameSums
import Derived.Test.YtlhjbpachpjpkaaMake6
import Derived.Test.YtlhjbpachpjpkaaBytes
namespace Go.Proofs.Ytlhjbpachpjpkaa
open Go.RowKit Tomo

theorem cellI_img {g : Grid} {n k : Nat} (h : Img g n k) {y x : Nat} (hy : y < n) (hx : x < k) : cellI g y x = at2 g y x := by
  obtain ⟨r, c, h1, _, h3, _⟩ := h.cell hy hx
  rw [cellI_of h1 h3, at2_of h1 h3]
theorem at2_b {g : Grid} {n k : Nat} (h : Img g n k) {y x : Nat} (hy : y < n) (hx : x < k) : at2 g y x = 0 ∨ at2 g y x = 1 := by
  obtain ⟨r, c, h1, _, h3, h4⟩ := h.cell hy hx
  rw [at2_of h1 h3]; exact h4
/-- a cell can be as it is; and it can be otherwise exactly if it is not fixed -/
theorem built_cell {m : Grid} (h : gridOk m 0 1 = true) {n k : Nat} (hn : m.length = n) (hk : (m.headD []).length = k) {y x : Nat} (hy : y < n) (hx : x < k) :
    canPlace (rsI m) (csI m) y x (at2 m y x) = true ∧ canPlace (rsI m) (csI m) y x (1 - at2 m y x) = !isFixed m y x := by
  have hi : Img m n k := by have h1 := Img.of h; rw [hn, hk] at h1; exact h1
  have e1 := rs_len2 h
  rw [hn, hk] at e1
  have himg : ∀ g ∈ allI (rsI m) (csI m), Img g n k := fun g hg => by have := allI_img hg; rw [e1.1, e1.2] at this; exact this
  have hb := at2_b hi hy hx
  have hmem := img_self h
  have i1 : inR (at2 m y x) 0 1 = true := inR_iff.2 (by omega)
  have i2 : inR (1 - at2 m y x) 0 1 = true := inR_iff.2 (by omega)
  have hc : cellIn m y x = true := by unfold cellIn; rw [h, hn, hk, Bool.true_and, Bool.and_eq_true, inR_iff, inR_iff]; omega
  refine ⟨?_, ?_⟩
  · unfold canPlace
    rw [i1, Bool.true_and, List.any_eq_true]
    exact ⟨m, hmem, by rw [cellI_img hi hy hx]; simp⟩
  · unfold canPlace isFixed
    rw [i2, hc, Bool.true_and, Bool.true_and, Int.toNat_natCast, Int.toNat_natCast]
    cases hf : fixB (allI (rsI m) (csI m)) y x
    · rw [Bool.not_false, List.any_eq_true]
      refine Classical.byContradiction fun hno => ?_
      have : fixB (allI (rsI m) (csI m)) y x = true := (fixB_iff h hn hk hy hx).2 fun g hg => by
        have hgb := at2_b (himg g hg) hy hx
        refine Classical.byContradiction fun hne => hno ⟨g, hg, ?_⟩
        rw [cellI_img (himg g hg) hy hx, beq_iff_eq]
        omega
      rw [this] at hf; cases hf
    · rw [Bool.not_true, List.any_eq_false]
      intro g hg
      have := (fixB_iff h hn hk hy hx).1 hf g hg
      rw [cellI_img (himg g hg) hy hx, this, beq_iff_eq]
      omega
/-- the image that is built, and the least one -/
theorem built_two {m g : Grid} (h : gridOk m 0 1 = true) (hg : g ∈ imgs (rsI m) (csI m)) {n k : Nat} (hn : m.length = n) (hk : (m.headD []).length = k) :
    (Img g n k ∧ rsI g = rsI m ∧ csI g = csI m) ∧ (Img (leastI (rsI m) (csI m)) n k ∧ rsI (leastI (rsI m) (csI m)) = rsI m ∧ csI (leastI (rsI m) (csI m)) = csI m) ∧ beforeI m (leastI (rsI m) (csI m)) = false ∧ beforeI g (leastI (rsI m) (csI m)) = false := by
  have e1 := rs_len2 h
  rw [hn, hk] at e1
  have hmem := img_self h
  have hs := (allI_sums hmem).1
  have ha : allI (rsI m) (csI m) = imgs (rsI m) (csI m) := by unfold allI; rw [if_pos hs]
  have key : ∀ x ∈ imgs (rsI m) (csI m), Img x n k ∧ rsI x = rsI m ∧ csI x = csI m := fun x hx => by
    rw [← ha] at hx
    have := allI_img hx
    rw [e1.1, e1.2] at this
    exact ⟨this, allI_eq hx⟩
  rw [ha] at hmem
  cases hc : imgs (rsI m) (csI m) with
  | nil => rw [hc] at hg; cases hg
  | cons g0 gs =>
    have hl : leastI (rsI m) (csI m) = g0 := by unfold leastI; rw [ha, hc]; rfl
    rw [hl]
    exact ⟨key g hg, key g0 (by rw [hc]; exact List.mem_cons_self), imgs_first hc hmem, imgs_first hc hg⟩
theorem rem_nat (z k : Nat) : Int.tmod (z : Int) (k : Int) = ((z % k : Nat) : Int) := by
  rw [Int.tmod_eq_emod_of_nonneg (by omega)]; omega
theorem row_cells {m : Grid} {n k : Nat} (hm : Img m n k) {w : World} {b o : Nat} (hg : GridAt w (some ⟨b, o, none⟩) m) {i : Nat} (hi : i < n) :
    ∃ R c o', w.cell? ⟨b, o + i, none⟩ = some (.slice (some ⟨R, o', none⟩) k c) ∧ ∀ l, l < k → w.cell? ⟨R, o' + l, none⟩ = some (.int .i64 (at2 m i l)) := by
  obtain ⟨R, c, r, hr, hq, hints⟩ := hg.at1 (k := i) (by rw [hm.1.1]; exact hi)
  have hrl : r.length = k := hm.1.2 r (List.mem_of_getElem? hr.out)
  have hk := hm.2.2.1
  obtain ⟨R', o', v, rfl, _, hv, hc⟩ := hints.at_ (k := 0) (by omega)
  rw [hrl] at hq
  refine ⟨R', c, o', hq, fun l hl => ?_⟩
  obtain ⟨v, hv, hc⟩ := hints.at1 (k := l) (by omega)
  rw [at2_of hr.out hv.out]
  exact hc
set_option maxRecDepth 100000 in
set_option maxHeartbeats 16000000 in
theorem law_Built (w : World) (A0 : Option Addr) (c0 : Nat) (xs0 : List Int) (h630 : xs0.length ≤ 9223372036854775807) (hx0 : Bytes w A0 xs0) :
    Calls Try.prog 4 #[.slice A0 xs0.length c0] w fun e w' => e = .returned (.bool true) ∧ Ext w w' := by
  by_cases hlen : xs0.length ≤ 1048576
  case neg =>
    go_enter Try.func4, Try.ntmps4
    go_wp2_with fail
    go_ret
    exact ⟨rfl, Ext.refl _⟩
  have cm : Calls Try.prog 19 #[.slice A0 xs0.length c0, .int .i64 0, .int .i64 4] w _ := MakeImage_any 4 A0 c0 xs0 w (Or.inl rfl) hx0 hlen
  have HX0 := Lib.hid hx0
  clear hx0
  go_enter Try.func4, Try.ntmps4
  go_wp2_with fail
  refine cm.mono ?_
  rintro e w1 ⟨b1, c1, m, rfl, ho1, hg, he⟩
  have HE1 := Lib.hid he
  obtain ⟨n, hn⟩ : ∃ n, m.length = n := ⟨_, rfl⟩
  obtain ⟨k, hk⟩ : ∃ k, (m.headD []).length = k := ⟨_, rfl⟩
  have him : Img m n k := by have h1 := Img.of hg; rw [hn, hk] at h1; exact h1
  have hex : exI (rsI m) (csI m) = true := exI_of (fun e => by have := img_self hg; rw [e] at this; cases this)
  obtain ⟨hn1, hn5⟩ := him.2.1
  obtain ⟨hk1, hk5⟩ := him.2.2.1
  have hrl : ∀ r ∈ m, r.length ≤ 1048576 := fun r hr => by have := him.1.2 r hr; omega
  have e2 := rs_len2 hg
  rw [hn, hk] at e2
  have HM := Lib.hid ho1.gridAt
  have HRS := Lib.hid (fun W (e : Ext w1 W) => by have h := implRowSums_any (some ⟨b1, 0, none⟩) c1 m W (by omega) hrl (HM.out.ext e); rw [hn] at h; exact h)
  have HCS := Lib.hid (fun W (e : Ext w1 W) => by have h := implColSums_any (some ⟨b1, 0, none⟩) c1 m W (by omega) hrl (HM.out.ext e); rw [hn] at h; exact h)
  have HBI := Lib.hid (fun W (A B : Option Addr) (ca cb : Nat) (hx : Ints W A (rsI m)) (hy : Ints W B (csI m)) => by
    have h := implBuildImage_any A B ca cb (rsI m) (csI m) W hex hx hy
    rw [e2.1, e2.2] at h
    exact h)
  have HLI := Lib.hid (fun W (A B : Option Addr) (ca cb : Nat) (hx : Ints W A (rsI m)) (hy : Ints W B (csI m)) => by
    have h := implLeastImage_any A B ca cb (rsI m) (csI m) W (by omega) (by omega) hx hy
    rw [hex, e2.1, e2.2] at h
    exact h)
  have HTW := Lib.hid (fun g (hgm : g ∈ imgs (rsI m) (csI m)) => built_two hg hgm hn hk)
  have HCE := Lib.hid (fun y x (hy : y < n) (hx : x < k) => built_cell hg hn hk hy hx)
  have HCP := Lib.hid (fun W (A B : Option Addr) (ca cb : Nat) (y x cell : Int) (hx : Ints W A (rsI m)) (hy : Ints W B (csI m)) => by
    have h := implCanPlace_any A B ca cb (rsI m) (csI m) y x cell W (by omega) (by omega) hx hy
    rw [e2.1, e2.2] at h
    exact h)
  have HFX := Lib.hid (fun W (e : Ext w1 W) (y x : Int) => by
    have h := implIsFixed_any (some ⟨b1, 0, none⟩) c1 m y x W (by omega) hrl (HM.out.ext e)
    rw [hn] at h
    exact h)
  have HIM := Lib.hid him
  have HSH := Lib.hid him.1
  obtain ⟨rs, hrs⟩ : ∃ rs, rsI m = rs := ⟨_, rfl⟩
  obtain ⟨cs, hcs⟩ : ∃ cs, csI m = cs := ⟨_, rfl⟩
  obtain ⟨lt, hlt⟩ : ∃ lt, leastI rs cs = lt := ⟨_, rfl⟩
  rw [hrs] at HRS HBI HLI HCP e2
  rw [hcs] at HCS HBI HLI HCP e2
  rw [hrs, hcs] at HCE HTW
  rw [hlt] at HTW HLI
  have HSS := Lib.hid (fun W (X : Option Addr) (xc : Nat) (x : Grid) (hi : Img x n k) (h1 : rsI x = rs) (h2 : csI x = cs) (e : Ext w1 W) (hgx : GridAt W X x) => SameSums_any X (some ⟨b1, 0, none⟩) xc c1 x m n k W hi HIM.out (h1.trans hrs.symm) (h2.trans hcs.symm) hgx (HM.out.ext e))
  have HRL := Lib.hid e2
  rw [hn] at ho1 ⊢
  clear cm ho1 him hex hrl e2 hrs hcs hlt he hn hk hg
  have t1 := HRS.out w1 (Ext.refl _)
  go_wp2_with fail
  refine t1.mono ?_
  rintro e w2 ⟨v2, rfl, ho2, he2⟩
  obtain ⟨A2, c2, rfl, _, hi2⟩ := ho2.slice
  have HE2 := Lib.hid he2
  have HI2 := Lib.hid hi2
  have t2 := HCS.out w2 HE2.out
  rw [HRL.out.1]
  clear t1 ho2 he2 hi2
  go_wp2_with fail
  refine t2.mono ?_
  rintro e w3 ⟨v3, rfl, ho3, he3⟩
  obtain ⟨A3, c3, rfl, _, hi3⟩ := ho3.slice
  have HE3 := Lib.hid (HE2.out.trans he3)
  have HI23 := Lib.hid (HI2.out.ext he3)
  have HI3 := Lib.hid hi3
  rw [HRL.out.2]
  have t3 := HBI.out w3 A2 A3 c2 c3 HI23.out hi3
  clear t2 ho3 he3 hi3 HI2
  go_wp2_with fail
  refine t3.mono ?_
  rintro e w4 ⟨b4, c4, g, rfl, ho4, hgi, he4⟩
  have HE4 := Lib.hid (HE3.out.trans he4)
  have HE34 := Lib.hid he4
  have HG4 := Lib.hid ho4.gridAt
  have t4 := HLI.out w4 A2 A3 c2 c3 (HI23.out.ext he4) (HI3.out.ext he4)
  obtain ⟨⟨i1, i2, i3⟩, ⟨j1, j2, j3⟩, d1, d2⟩ := HTW.out g hgi
  have HGI := Lib.hid (And.intro i1 (And.intro i2 i3))
  have HLT := Lib.hid (And.intro j1 (And.intro j2 j3))
  have HBM := Lib.hid d1
  have HBG := Lib.hid d2
  clear t3 ho4 hgi he4 i1 i2 i3 j1 j2 j3 d1 d2
  go_wp2_with fail
  refine t4.mono ?_
  rintro e w5 ⟨v5, rfl, ho5, he5⟩
  obtain ⟨X, xc, hX, hgx⟩ := ho5.sliceAny
  have hltl := HLT.out.1.1.1
  rw [hltl] at hX
  subst hX
  have HE5 := Lib.hid (HE4.out.trans he5)
  have HE35 := Lib.hid (HE34.out.trans he5)
  have HG45 := Lib.hid (HG4.out.ext he5)
  have HX5 := Lib.hid hgx
  have s1 := HSS.out w5 (some ⟨b4, 0, none⟩) c4 g HGI.out.1 HGI.out.2.1 HGI.out.2.2 HE5.out HG45.out
  clear t4 ho5 he5 hgx hltl HG4
  go_wp2_with fail
  refine s1.mono ?_
  rintro e w6 ⟨rfl, he6⟩
  have HE6 := Lib.hid (HE5.out.trans he6)
  have HE36 := Lib.hid (HE35.out.trans he6)
  have HG46 := Lib.hid (HG45.out.ext he6)
  have HX6 := Lib.hid (HX5.out.ext he6)
  have s2 := HSS.out w6 X xc lt HLT.out.1 HLT.out.2.1 HLT.out.2.2 HE6.out HX6.out
  clear s1 he6 HG45 HX5
  go_wp2_with fail
  refine s2.mono ?_
  rintro e w7 ⟨rfl, he7⟩
  have HE7 := Lib.hid (HE6.out.trans he7)
  have HE37 := Lib.hid (HE36.out.trans he7)
  have HG47 := Lib.hid (HG46.out.ext he7)
  have HX7 := Lib.hid (HX6.out.ext he7)
  have s3 := before_any (some ⟨b1, 0, none⟩) X c1 xc n k m lt w7 HSH.out HLT.out.1.1 (by omega) (by omega) (HM.out.ext HE7.out) HX7.out
  have s4 := before_any (some ⟨b4, 0, none⟩) X c4 xc n k g lt w7 HGI.out.1.1 HLT.out.1.1 (by omega) (by omega) HG47.out HX7.out
  rw [HBM.out] at s3
  rw [HBG.out] at s4
  clear s2 he7 HG46 HX6
  have HS4 := Lib.hid s4
  clear s4
  go_wp2_with fail
  refine s3.mono ?_
  rintro e w8 ⟨rfl, rfl⟩
  have s4 := HS4.out
  clear s3 HS4
  go_wp2_with fail
  refine s4.mono ?_
  rintro e w8 ⟨rfl, rfl⟩
  have t5 := MakeNum_any 40 A0 c0 xs0 w7 (by omega) (HX0.out.ext (HE1.out.trans HE7.out)) hlen
  clear s4
  go_wp2_with fail
  refine t5.mono ?_
  rintro e w8 ⟨z1, rfl, hz1, he8⟩
  have HE8 := Lib.hid (HE7.out.trans he8)
  have HE38 := Lib.hid (HE37.out.trans he8)
  clear t5 he8
  have hm1 := rem_nat z1 n
  obtain ⟨y, hy⟩ : ∃ y, z1 % n = y := ⟨_, rfl⟩
  have hyn : y < n := by rw [← hy]; exact Nat.mod_lt _ (by omega)
  rw [hy] at hm1
  clear hy
  obtain ⟨R0, cr0, o0, q0, _⟩ := row_cells HIM.out HM.out (show 0 < n by omega)
  rw [Nat.zero_add] at q0
  obtain ⟨R1, cr1, o1, q1, q2⟩ := row_cells HIM.out HM.out hyn
  rw [Nat.zero_add] at q1
  have HKA : Hid (∀ W, Ext w8 W → W.cell? ⟨b1, 0, none⟩ = some (.slice (some ⟨R0, o0, none⟩) k cr0) ∧ Ext w8 W) := Lib.hid fun W e => ⟨((HE8.out.trans e).cell (World.block_lt_of_cell? _ _ q0)).trans q0, e⟩
  have HMN := Lib.hid (fun W (e : Ext w8 W) => MakeNum_any 42 A0 c0 xs0 W (by omega) (HX0.out.ext (HE1.out.trans (HE8.out.trans e))) hlen)
  have HQ1 := Lib.hid q1
  have HQ2 := Lib.hid q2
  have hn0 : 0 < n := hn1
  have hnI : (0 : Int) < (n : Int) := by omega
  have hkI : (0 : Int) < (k : Int) := by omega
  have hk0 : ¬ k = 0 := by omega
  clear q0 q1 q2
  go_wp2_with fail
  first | go_region_held3 (fun W => W.cell? ⟨b1, 0, none⟩ = some (.slice (some ⟨R0, o0, none⟩) k cr0) ∧ Ext w8 W) (first | exact HKA.out _ (by (repeat (first | assumption | exact (‹_ ∧ Ext w8 _›).2 | exact Ext.refl _ | apply Ext.drew)); done)) ((go_at_call 23; refine (HMN.out _ (by (repeat (first | exact Ext.refl _ | apply Ext.drew)); done)).mono ?_; rintro e w9 ⟨z2, rfl, hz2, he9⟩; have hm2 := rem_nat z2 k; obtain ⟨x, hx⟩ : ∃ x, z2 % k = x := ⟨_, rfl⟩; have hxk : x < k := (by rw [← hx]; exact Nat.mod_lt _ (by omega)); rw [hx] at hm2; clear hx; have hX9 : Ext w8 w9 := (Ext.refl w8).drew.trans he9)) | fail
  all_goals
    have hX : Ext w8 w9 := (‹_ ∧ Ext w8 w9›).2
    obtain ⟨e1, e2⟩ := HCE.out y x hyn hxk
    have hub := at2_b HIM.out hyn hxk
    have qr : w1.cell? ⟨b1, y, none⟩ = some (.slice (some ⟨R1, o1, none⟩) k cr1) := HQ1.out
    have qc := HQ2.out x hxk
    obtain ⟨u, hu⟩ : ∃ u, at2 m y x = u := ⟨_, rfl⟩
    rw [hu] at e1 e2 hub qc
    have HE9 := Lib.hid (HE8.out.trans hX)
    have HE39 := Lib.hid (HE38.out.trans hX)
    obtain ⟨u', hu'⟩ : ∃ u', 1 - u = u' := ⟨_, rfl⟩
    have hw : IntKind.i64.wrap (1 - u) = u' := by rw [IntWalk.i64_in _ (by omega), hu']
    rw [hu'] at e2
    have HKB : Hid (∀ W, Ext w9 W → W.cell? ⟨b1, y, none⟩ = some (.slice (some ⟨R1, o1, none⟩) k cr1) ∧ W.cell? ⟨R1, o1 + x, none⟩ = some (.int .i64 u) ∧ Ext w9 W) := Lib.hid fun W e => ⟨((HE9.out.trans e).cell (World.block_lt_of_cell? _ _ qr)).trans qr, ((HE9.out.trans e).cell (World.block_lt_of_cell? _ _ qc)).trans qc, e⟩
    have HC1 := Lib.hid (fun W (e : Ext w9 W) => by have h := HCP.out W A2 A3 c2 c3 y x u (HI23.out.ext (HE39.out.trans e)) (HI3.out.ext (HE39.out.trans e)); rw [e1] at h; exact h)
    have HC2 := Lib.hid (fun W (e : Ext w9 W) => by have h := HCP.out W A2 A3 c2 c3 y x u' (HI23.out.ext (HE39.out.trans e)) (HI3.out.ext (HE39.out.trans e)); rw [e2] at h; exact h)
    have HF := Lib.hid (fun W (e : Ext w9 W) => HFX.out W (HE9.out.trans e) y x)
    obtain ⟨f, hf⟩ : ∃ f, isFixed m y x = f := ⟨_, rfl⟩
    rw [hf] at HC2 HF
    have ynI : (y : Int) < (n : Int) := by omega
    have xkI : (x : Int) < (k : Int) := by omega
    clear e1 e2 hub qr qc hu hu' hf hX
    cases f
    all_goals
      go_wp2_with fail
      first | go_region_held3 (fun W => W.cell? ⟨b1, y, none⟩ = some (.slice (some ⟨R1, o1, none⟩) k cr1) ∧ W.cell? ⟨R1, o1 + x, none⟩ = some (.int .i64 u) ∧ Ext w9 W) (first | exact HKB.out _ (by (repeat (first | assumption | exact (‹_ ∧ _ ∧ Ext w9 _›).2.2 | exact Ext.refl _ | apply Ext.drew)); done)) (first
        | (go_at_call 24; with_reducible refine (HC1.out _ (by (repeat (first | exact (‹_ ∧ _ ∧ Ext w9 _›).2.2 | exact Ext.refl _ | apply Ext.drew)); done)).mono ?_; rintro e wa ⟨rfl, hea⟩; have hXa : Ext w9 wa := (‹_ ∧ _ ∧ Ext w9 _›).2.2.trans hea)
        | (go_at_call 25; refine (HF.out _ (by first | assumption | exact (‹_ ∧ _ ∧ Ext w9 _›).2.2)).mono ?_; rintro e wb ⟨rfl, heb⟩; have hXb : Ext w9 wb := hXa.trans heb)
        | (go_at_call 24; with_reducible refine (HC2.out _ (by first | assumption | exact (‹_ ∧ _ ∧ Ext w9 _›).2.2)).mono ?_; rintro e wc ⟨rfl, hec⟩; have hXc : Ext w9 wc := hXb.trans hec)) | fail
      all_goals
        have HEN := Lib.hid (HE1.out.trans (HE9.out.trans (‹_ ∧ _ ∧ Ext w9 _›).2.2))
        go_wp2_with fail
        go_ret
        exact ⟨rfl, HEN.out⟩
end Go.Proofs.Ytlhjbpachpjpkaa
