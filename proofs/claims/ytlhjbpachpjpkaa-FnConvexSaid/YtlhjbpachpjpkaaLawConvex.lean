/- The law FnConvex: its walk. -/
import Derived.Test.YtlhjbpachpjpkaaShape4
import Derived.Test.YtlhjbpachpjpkaaSameSums
import Derived.Test.YtlhjbpachpjpkaaAlike
import Derived.Test.YtlhjbpachpjpkaaBytes
namespace Go.Proofs.Ytlhjbpachpjpkaa
open Go.RowKit Tomo

/-- a list of images: where each one lies -/
theorem OwnGrids.reads {w : World} {B : Nat} {v : Value} {gs : List Grid} (h : OwnGrids w B v gs) : ∃ A c, v = .slice A gs.length c ∧ ∀ (k : Nat) g, gs[k]? = some g → ∃ b X xc, A = some ⟨b, 0, none⟩ ∧ w.cell? ⟨b, k, none⟩ = some (.slice X g.length xc) ∧ GridAt w X g := by
  have hv : ∃ A c, v = .slice A gs.length c := by
    obtain ⟨us, h1, h2, _⟩ := h
    rcases h2.2 with ⟨hv, h0⟩ | ⟨b, cap, cur, hv, _⟩
    · exact ⟨none, 0, by rw [hv, h0]⟩
    · exact ⟨_, cap, hv⟩
  obtain ⟨A, c, rfl⟩ := hv
  refine ⟨A, c, rfl, fun k g hg => ?_⟩
  obtain ⟨b, u, hA, _, _, hc, ho⟩ := h.elt hg
  obtain ⟨X, xc, rfl, hx⟩ := ho.sliceAny
  exact ⟨b, X, xc, hA, hc, hx⟩
/-- what the law says of an image in the list -/
theorem poly_facts {m x : Grid} {n k : Nat} (hn : m.length = n) (hk : (m.headD []).length = k) (hg : gridOk m 0 1 = true) (hx : x ∈ polyL (rsI m) (csI m)) :
    Img x n k ∧ rsI x = rsI m ∧ csI x = csI m ∧ convexI x = true ∧ hconvex x = true ∧ vconvex x = true ∧ pieces x = 1 := by
  obtain ⟨h1, h2⟩ := List.mem_filter.1 hx
  obtain ⟨p1, p2⟩ := polyP_parts h2
  have hi := allI_img h1
  obtain ⟨e1, e2⟩ := rs_len' hg
  rw [e1, e2, hn, hk] at hi
  obtain ⟨a1, a2⟩ := allI_eq h1
  have p1' := p1
  unfold convexI at p1'
  rw [Bool.and_eq_true] at p1'
  exact ⟨hi, a1, a2, p1, p1'.1, p1'.2, p2⟩
theorem decide_take_succ {L : List Grid} {j : Nat} {x m : Grid} (h : L[j]? = some x) : decide (m ∈ L.take (j + 1)) = (decide (m ∈ L.take j) || decide (x = m)) := by
  rw [take_succ_of h, Bool.eq_iff_iff]
  simp only [Bool.or_eq_true, decide_eq_true_eq, List.mem_append, List.mem_singleton]
  constructor
  · rintro (h | h)
    · exact Or.inl h
    · exact Or.inr h.symm
  · rintro (h | h)
    · exact Or.inl h
    · exact Or.inr h.symm
set_option maxRecDepth 100000 in
set_option maxHeartbeats 16000000 in
theorem law_Convex (w : World) (A0 : Option Addr) (c0 : Nat) (xs0 : List Int) (h630 : xs0.length ≤ 9223372036854775807) (hx0 : Bytes w A0 xs0) :
    Calls Try.prog 3 #[.slice A0 xs0.length c0] w fun e w' => e = .returned (.bool true) ∧ Ext w w' := by
  by_cases hlen : xs0.length ≤ 1048576
  case neg =>
    go_enter Try.func3, Try.ntmps3
    go_wp2_with fail
    go_ret
    exact ⟨rfl, Ext.refl _⟩
  have cm := MakeShape_any A0 c0 xs0 w hx0 hlen
  clear hx0
  go_enter Try.func3, Try.ntmps3
  go_wp2_with fail
  refine cm.mono ?_
  rintro e w1 ⟨M, mc, m, rfl, hgm, hp, he⟩
  have HE1 := Lib.hid he
  have hg := polyP_ok hp
  obtain ⟨n, hn⟩ : ∃ n, m.length = n := ⟨_, rfl⟩
  obtain ⟨k, hk⟩ : ∃ k, (m.headD []).length = k := ⟨_, rfl⟩
  have him : Img m n k := by have h1 := Img.of hg; rw [hn, hk] at h1; exact h1
  obtain ⟨hn1, hn5⟩ := him.2.1
  obtain ⟨hk1, hk5⟩ := him.2.2.1
  have hrl : ∀ r ∈ m, r.length ≤ 1048576 := fun r hr => by have := him.1.2 r hr; omega
  have e2 := rs_len' hg
  rw [hn, hk] at e2
  have hso : sumsOk (rsI m) (csI m) = true := (allI_sums (img_self hg)).1
  have hso2 : sumsOk (csI m) (rsI m) = true := by
    have h := (allI_sums (img_self him.tr.ok)).1
    rw [(rsI_tr2 hg).1, (rsI_tr2 hg).2] at h
    exact h
  have hmem := poly_self hp
  have HM := Lib.hid hgm
  have HRS := Lib.hid (fun W (e : Ext w1 W) => by have h := implRowSums_any M mc m W (by omega) hrl (HM.out.ext e); rw [hn] at h; exact h)
  have HCS := Lib.hid (fun W (e : Ext w1 W) => by have h := implColSums_any M mc m W (by omega) hrl (HM.out.ext e); rw [hn] at h; exact h)
  have HCI := Lib.hid (fun W (A B : Option Addr) (ca cb : Nat) (hx : Ints W A (rsI m)) (hy : Ints W B (csI m)) => by
    have h := implConvexImages_any A B ca cb (rsI m) (csI m) W (by omega) (by omega) hx hy
    rw [hso, e2.1, e2.2] at h
    exact h)
  have HCT := Lib.hid (fun W (A B : Option Addr) (ca cb : Nat) (hx : Ints W A (csI m)) (hy : Ints W B (rsI m)) => by
    have h := implConvexImages_any A B ca cb (csI m) (rsI m) W (by omega) (by omega) hx hy
    rw [hso2, e2.1, e2.2] at h
    exact h)
  have HCF := Lib.hid (fun W (A B : Option Addr) (ca cb : Nat) (hx : Ints W A (rsI m)) (hy : Ints W B (csI m)) => by
    have h := implConvexImage_any A B ca cb (rsI m) (csI m) W (by omega) (by omega) hx hy
    rw [e2.1, e2.2] at h
    exact h)
  have HIC := Lib.hid (fun W (X : Option Addr) (xc : Nat) (x : Grid) (hi : Img x n k) (hc : convexI x = true) (hx : GridAt W X x) => by
    have h := implIsConvex_any X xc x W (by rw [hi.1.1]; omega) (fun r hr => by rw [hi.1.2 r hr]; omega) hx
    rw [hc, hi.1.1] at h
    exact h)
  have HIP := Lib.hid (fun W (X : Option Addr) (xc : Nat) (x : Grid) (hi : Img x n k) (hc : pieces x = 1) (hx : GridAt W X x) => by
    have h := implIsPolyomino_any X xc x W (by rw [hi.1.1]; omega) (fun r hr => by rw [hi.1.2 r hr]; omega) hx
    rw [hc, hi.1.1] at h
    exact h)
  have HIH := Lib.hid (fun W (X : Option Addr) (xc : Nat) (x : Grid) (hi : Img x n k) (hc : hconvex x = true) (hx : GridAt W X x) => by
    have h := implIsHConvex_any X xc x W (by rw [hi.1.1]; omega) (fun r hr => by rw [hi.1.2 r hr]; omega) hx
    rw [hc, hi.1.1] at h
    exact h)
  have HIV := Lib.hid (fun W (X : Option Addr) (xc : Nat) (x : Grid) (hi : Img x n k) (hc : vconvex x = true) (hx : GridAt W X x) => by
    have h := implIsVConvex_any X xc x W (by rw [hi.1.1]; omega) (fun r hr => by rw [hi.1.2 r hr]; omega) hx
    rw [hc, hi.1.1] at h
    exact h)
  have HPC := Lib.hid (fun W (X : Option Addr) (xc : Nat) (x : Grid) (hi : Img x n k) (hc : pieces x = 1) (hx : GridAt W X x) => by
    have h := implCountPieces_any X xc x W (by rw [hi.1.1]; omega) (fun r hr => by rw [hi.1.2 r hr]; omega) hx
    rw [hc, hi.1.1] at h
    exact h)
  have HSS := Lib.hid (fun W (X : Option Addr) (xc : Nat) (x : Grid) (hi : Img x n k) (h1 : rsI x = rsI m) (h2 : csI x = csI m) (e : Ext w1 W) (hx : GridAt W X x) => SameSums_any X M xc mc x m n k W hi him h1 h2 hx (HM.out.ext e))
  have HAY := Lib.hid (fun W (X Y : Option Addr) (xc yc : Nat) (x : Grid) (hi : Img x n k) (hx : GridAt W X x) (hy : GridAt W Y x) => by
    have h := alike_yes X Y xc yc x W (by rw [hi.1.1]; omega) (fun r hr => by rw [hi.1.2 r hr]; omega) hx hy
    rw [hi.1.1] at h
    exact h)
  have HAN := Lib.hid (fun W (X : Option Addr) (xc : Nat) (x : Grid) (hi : Img x n k) (hne : x ≠ m) (e : Ext w1 W) (hx : GridAt W X x) => by
    have h := alike_no X M xc mc x m W (by omega) (fun r hr => by rw [hi.1.2 r hr]; omega) (fun r hr => by rw [him.1.2 r hr]; omega) hne hx (HM.out.ext e)
    rw [hi.1.1, hn] at h
    exact h)
  have HUC := Lib.hid (fun W (e : Ext w1 W) => by
    have h := implUniqueConvex_any M mc m W (by omega) hrl (HM.out.ext e)
    unfold uniqueC at h
    rw [hp, hn, Bool.true_and] at h
    exact h)
  have HF := Lib.hid (fun x (hx : x ∈ polyL (rsI m) (csI m)) => poly_facts hn hk hg hx)
  have hlt := poly_len (csI m) (rsI m)
  have hany : polyAny (rsI m) (csI m) = true := by unfold polyAny; exact decide_eq_true (fun e => by rw [e] at hmem; cases hmem)
  have hfst : polyFirst (rsI m) (csI m) = (polyL (rsI m) (csI m)).headD [] := rfl
  obtain ⟨pc, pp⟩ := polyP_parts hp
  have HPM := Lib.hid (And.intro pc pp)
  have HIM := Lib.hid him
  obtain ⟨rs, hrs⟩ : ∃ rs, rsI m = rs := ⟨_, rfl⟩
  obtain ⟨cs, hcs⟩ : ∃ cs, csI m = cs := ⟨_, rfl⟩
  rw [hrs] at HRS HCI HCT HCF HSS HUC HF hlt hany hfst hmem e2
  rw [hcs] at HCS HCI HCT HCF HSS HUC HF hlt hany hfst hmem e2
  rw [hany, hfst] at HCF
  obtain ⟨L, hL⟩ : ∃ L, polyL rs cs = L := ⟨_, rfl⟩
  obtain ⟨ln, hln⟩ : ∃ ln, L.length = ln := ⟨_, rfl⟩
  have hlt0 : ln ≤ 33554432 := by rw [← hln, ← hL]; exact Nat.le_trans (List.length_filter_le _ _) (allI_len _ _)
  have hl1 : 0 < ln := by rw [← hln, ← hL]; exact List.length_pos_of_mem hmem
  rw [hL] at HCI HCF HF HUC hlt hmem
  rw [hln] at HUC hlt
  have HLN := Lib.hid hln
  have HLT := Lib.hid hlt
  have HMEM := Lib.hid hmem
  have HRL := Lib.hid e2
  rw [hn]
  clear cm hgm hp he hg hn hk him hrl e2 hso hso2 hmem hrs hcs hL hln hlt hany hfst pc pp
  have t1 := HRS.out w1 (Ext.refl _)
  go_wp2_with fail
  refine t1.mono ?_
  rintro e w2 ⟨v2, rfl, ho2, he2⟩
  obtain ⟨A2, c2, rfl, _, hi2⟩ := ho2.slice
  have HE2 := Lib.hid he2
  have HI2 := Lib.hid hi2
  have t2 := HCS.out w2 HE2.out
  rw [HRL.out.1]
  clear t1 ho2 he2 hi2
  go_wp2_with fail
  refine t2.mono ?_
  rintro e w3 ⟨v3, rfl, ho3, he3⟩
  obtain ⟨A3, c3, rfl, _, hi3⟩ := ho3.slice
  have HE3 := Lib.hid (HE2.out.trans he3)
  rw [HRL.out.2]
  have t3 := HCI.out w3 A2 A3 c2 c3 (HI2.out.ext he3) hi3
  clear t2 ho3 he3 hi3 HI2
  go_wp2_with fail
  refine t3.mono ?_
  rintro e w4 ⟨v4, rfl, ho4, he4⟩
  obtain ⟨LA, lc, rfl, hls⟩ := ho4.reads
  rw [HLN.out]
  have HE4 := Lib.hid (HE3.out.trans he4)
  have HLS := Lib.hid hls
  have t4 := HCS.out w4 HE4.out
  clear t3 ho4 he4 hls
  go_wp2_with fail
  refine t4.mono ?_
  rintro e w5 ⟨v5, rfl, ho5, he5⟩
  obtain ⟨A5, c5, rfl, _, hi5⟩ := ho5.slice
  have HE45 := Lib.hid he5
  have HE5 := Lib.hid (HE4.out.trans he5)
  have HI5 := Lib.hid hi5
  have t5 := HRS.out w5 HE5.out
  rw [HRL.out.2]
  clear t4 ho5 he5 hi5
  go_wp2_with fail
  refine t5.mono ?_
  rintro e w6 ⟨v6, rfl, ho6, he6⟩
  obtain ⟨A6, c6, rfl, _, hi6⟩ := ho6.slice
  have HE46 := Lib.hid (HE45.out.trans he6)
  have HE6 := Lib.hid (HE5.out.trans he6)
  rw [HRL.out.1]
  have t6 := HCT.out w6 A5 A6 c5 c6 (HI5.out.ext he6) hi6
  clear t5 ho6 he6 hi6 HI5
  go_wp2_with fail
  refine t6.mono ?_
  rintro e w7 ⟨v7, rfl, ho7, he7⟩
  obtain ⟨TA, tc, rfl, _⟩ := ho7.reads
  rw [HLT.out]
  have HE47 := Lib.hid (HE46.out.trans he7)
  have HE7 := Lib.hid (HE6.out.trans he7)
  have t7 := HIC.out w7 M mc m HIM.out HPM.out.1 (HM.out.ext HE7.out)
  clear t6 ho7 he7
  go_wp2_with fail
  refine t7.mono ?_
  rintro e w8 ⟨rfl, he8⟩
  have HE48 := Lib.hid (HE47.out.trans he8)
  have HE8 := Lib.hid (HE7.out.trans he8)
  have t8 := HIP.out w8 M mc m HIM.out HPM.out.2 (HM.out.ext HE8.out)
  clear t7 he8
  go_wp2_with fail
  refine t8.mono ?_
  rintro e w9 ⟨rfl, he9⟩
  have HE49 := Lib.hid (HE48.out.trans he9)
  have HE9 := Lib.hid (HE8.out.trans he9)
  have b0 : ((ln : Int) == 0) = false := by simp; omega
  clear t8 he9
  go_wp2_with fail
  go_loopw [64, 8, 10] (fun i f _ wr => ∃ (j : Nat) (b : Bool), j ≤ ln ∧ i = .int .i64 j ∧ f = .bool b ∧ Hid (b = decide (m ∈ L.take j)) ∧ Hid (Ext w9 wr)) (fun i _ _ _ => ln - (intOf i).toNat)
  case atStart => exact ⟨0, false, Nat.zero_le _, rfl, rfl, Lib.hid (by simp), Lib.hid (Ext.refl _)⟩
  case round =>
    rename World => wr
    obtain ⟨j, f, hj, rfl, rfl, hf, hE⟩ := hrel
    by_cases hlt : j < ln
    · have hltI : (j : Int) < (ln : Int) := by omega
      obtain ⟨x, hx⟩ : ∃ x, L[j]? = some x := ⟨_, List.getElem?_eq_getElem (by rw [HLN.out]; exact hlt)⟩
      obtain ⟨bL, X, xc, rfl, hcell, hgx⟩ := HLS.out j x hx
      obtain ⟨i1, i2, i3, i4, i5, i6, i7⟩ := HF.out x (List.mem_of_getElem? hx)
      have hxl := i1.1.1
      rw [hxl] at hcell
      have HEr := Lib.hid (HE9.out.trans hE.out)
      have HE4r := Lib.hid (HE49.out.trans hE.out)
      have hcr : wr.cell? ⟨bL, j, none⟩ = some (.slice X n xc) := (HE4r.out.cell (World.block_lt_of_cell? _ _ hcell)).trans hcell
      have HGX := Lib.hid (hgx.ext HE4r.out)
      have HI := Lib.hid i1
      have c1 := HIC.out wr X xc x i1 i4 HGX.out
      have HFS := Lib.hid (And.intro i2 (And.intro i3 (And.intro i5 (And.intro i6 i7))))
      have HX := Lib.hid hx
      clear hcell hgx i1 i2 i3 i4 i5 i6 i7 hxl hx HE4r
      go_wp2_with fail
      refine c1.mono ?_
      rintro e wa ⟨rfl, hea⟩
      have HEa := Lib.hid (HEr.out.trans hea)
      have HEra := Lib.hid hea
      have c2 := HIH.out wa X xc x HI.out HFS.out.2.2.1 (HGX.out.ext hea)
      clear c1 hea
      go_wp2_with fail
      refine c2.mono ?_
      rintro e wb ⟨rfl, rfl⟩
      have c3 := HIV.out wa X xc x HI.out HFS.out.2.2.2.1 (HGX.out.ext HEra.out)
      clear c2
      go_wp2_with fail
      refine c3.mono ?_
      rintro e wb ⟨rfl, heb⟩
      have HEb := Lib.hid (HEa.out.trans heb)
      have HErb := Lib.hid (HEra.out.trans heb)
      have c4 := HPC.out wb X xc x HI.out HFS.out.2.2.2.2 (HGX.out.ext HErb.out)
      clear c3 heb
      go_wp2_with fail
      refine c4.mono ?_
      rintro e wc ⟨rfl, hec⟩
      have HEc := Lib.hid (HEb.out.trans hec)
      have HErc := Lib.hid (HErb.out.trans hec)
      have c5 := HSS.out wc X xc x HI.out HFS.out.1 HFS.out.2.1 HEc.out (HGX.out.ext HErc.out)
      clear c4 hec
      go_wp2_with fail
      refine c5.mono ?_
      rintro e wd ⟨rfl, hed⟩
      have HEd := Lib.hid (HEc.out.trans hed)
      have HErd := Lib.hid (HErc.out.trans hed)
      have HNX : Hid (Ext w9 wd) := Lib.hid (hE.out.trans HErd.out)
      have HDS := Lib.hid (decide_take_succ (m := m) HX.out)
      clear c5 hed
      cases f
      · by_cases hxm : x = m
        · subst hxm
          have c6 := HAY.out wd X M xc mc x HI.out (HGX.out.ext HErd.out) (HM.out.ext HEd.out)
          go_wp2_with fail
          refine c6.mono ?_
          rintro e we ⟨rfl, rfl⟩
          clear c6
          go_wp2_with fail
          go_roundw
          case rel => exact ⟨j + 1, true, by omega, by go_num, rfl, Lib.hid (by rw [HDS.out]; simp), HNX⟩
          case measure => simp [intOf]; omega
        · have c6 := HAN.out wd X xc x HI.out hxm HEd.out (HGX.out.ext HErd.out)
          have HNE := Lib.hid hxm
          clear hxm
          go_wp2_with fail
          refine c6.mono ?_
          rintro e we ⟨rfl, rfl⟩
          clear c6
          go_wp2_with fail
          go_roundw
          case rel => exact ⟨j + 1, false, by omega, by go_num, rfl, Lib.hid (by rw [HDS.out, ← hf.out]; simp [HNE.out]), HNX⟩
          case measure => simp [intOf]; omega
      · go_wp2_with fail
        go_roundw
        case rel => exact ⟨j + 1, true, by omega, by go_num, rfl, Lib.hid (by rw [HDS.out, ← hf.out]; rfl), HNX⟩
        case measure => simp [intOf]; omega
    · obtain rfl : j = ln := by omega
      have hft : f = true := by
        rw [hf.out]
        have h := HLN.out
        rw [List.take_of_length_le (by omega)]
        exact decide_eq_true HMEM.out
      subst hft
      obtain ⟨g0, hg0⟩ : ∃ g0, L[0]? = some g0 := ⟨_, List.getElem?_eq_getElem (by rw [HLN.out]; exact hl1)⟩
      have hhd : L.headD [] = g0 := by
        cases hL : L with
        | nil => rw [hL] at hg0; cases hg0
        | cons a l => rw [hL] at hg0; exact Option.some.inj hg0
      rw [hhd] at HCF
      obtain ⟨bL, X, xc, rfl, hcell, hgx⟩ := HLS.out 0 g0 hg0
      obtain ⟨i1, _, _, _, _, _, _⟩ := HF.out g0 (List.mem_of_getElem? hg0)
      have hxl := i1.1.1
      rw [hxl] at hcell
      have HI := Lib.hid i1
      have HGX := Lib.hid hgx
      have HQ : Hid (∀ W, Ext w4 W → W.cell? ⟨bL, 0, none⟩ = some (.slice X n xc)) := Lib.hid fun W e => (e.cell (World.block_lt_of_cell? _ _ hcell)).trans hcell
      have HEr := Lib.hid (HE9.out.trans hE.out)
      have HE4r := Lib.hid (HE49.out.trans hE.out)
      have t1 := HRS.out wr HEr.out
      have hl1I : (0 : Int) < (j : Int) := by omega
      clear hf hE hg0 hhd hcell hgx i1 hxl
      go_wp2_with fail
      refine t1.mono ?_
      rintro e wa ⟨va, rfl, hoa, hea⟩
      obtain ⟨Aa, ca, rfl, _, hia⟩ := hoa.slice
      have HEa := Lib.hid (HEr.out.trans hea)
      have HE4a := Lib.hid (HE4r.out.trans hea)
      have HIa := Lib.hid hia
      have t2 := HCS.out wa HEa.out
      rw [HRL.out.1]
      clear t1 hoa hea hia
      go_wp2_with fail
      refine t2.mono ?_
      rintro e wb ⟨vb, rfl, hob, heb⟩
      obtain ⟨Ab, cb, rfl, _, hib⟩ := hob.slice
      have HEb := Lib.hid (HEa.out.trans heb)
      have HE4b := Lib.hid (HE4a.out.trans heb)
      rw [HRL.out.2]
      have t3 := HCF.out wb Aa Ab ca cb (HIa.out.ext heb) hib
      clear t2 hob heb hib HIa
      go_wp2_with fail
      refine t3.mono ?_
      rintro e wc ⟨vc, rfl, hoc, hec⟩
      obtain ⟨C, cc, hC, hgc⟩ := hoc.sliceAny
      rw [HI.out.1.1] at hC
      subst hC
      have HEc := Lib.hid (HEb.out.trans hec)
      have HE4c := Lib.hid (HE4b.out.trans hec)
      have t4 := HAY.out wc C X cc xc g0 HI.out hgc (HGX.out.ext HE4c.out)
      have t5 := HUC.out wc HEc.out
      have hq := HQ.out wc HE4c.out
      clear t3 hoc hec hgc
      go_wp2_with fail
      refine t4.mono ?_
      rintro e wd ⟨rfl, rfl⟩
      clear t4
      cases hb : (j == 1)
      all_goals
        rw [hb] at t5
        have b1 : ((j : Int) == 1) = (j == 1) := by rw [Bool.eq_iff_iff]; simp; omega
        rw [hb] at b1
        clear hb
        go_wp2_with fail
        refine t5.mono ?_
        rintro e we ⟨rfl, hee⟩
        have HEe := Lib.hid (HE1.out.trans (HEc.out.trans hee))
        clear t5 hee
        go_wp2_with fail
        go_ret
        exact ⟨rfl, HEe.out⟩
end Go.Proofs.Ytlhjbpachpjpkaa
