/- UniqueConvex, in the reference and in the program. -/
import Derived.Test.YtlhjbpachpjpkaaPolys
import Derived.Test.YtlhjbpachpjpkaaSelf
namespace Go.Proofs.Ytlhjbpachpjpkaa
open Go.RowKit Tomo

noncomputable def uniqueC (m : Grid) (len : Nat) : Bool := polyP m && (len == 1)
theorem polyP_ok {m : Grid} (h : polyP m = true) : gridOk m 0 1 = true := by
  unfold polyP convexI hconvex at h
  simp only [Bool.and_eq_true] at h
  exact h.1.1.1
theorem poly_self {m : Grid} (h : polyP m = true) : m ∈ polyL (rsI m) (csI m) := List.mem_filter.2 ⟨img_self (polyP_ok h), h⟩
theorem unique_one {m g : Grid} (h : polyL (rsI m) (csI m) = [g]) : (decide (g = m)) = polyP m := by
  cases e : polyP m
  · have hg : polyP g = true := (List.mem_filter.1 (show g ∈ polyL (rsI m) (csI m) by rw [h]; simp)).2
    have hne : ¬ g = m := fun hh => by rw [hh, e] at hg; cases hg
    simpa using hne
  · have := poly_self e
    rw [h] at this
    have hm : m = g := by simpa using this
    simp [hm]

set_option maxHeartbeats 1000000 in
theorem l02Same_any (A B : Option Addr) (ca cb : Nat) (xs ys : List Int) (w : World) (hl : xs.length ≤ 1048576) (_hl2 : ys.length ≤ 1048576) (hx : Ints w A xs) (hy : Ints w B ys) :
    Calls Try.prog 110 #[.slice A xs.length ca, .slice B ys.length cb] w fun e w' => e = .returned (.bool (decide (xs = ys))) ∧ w = w' := by
  by_cases hlen : xs.length = ys.length
  case neg =>
    have b1 : ((xs.length : Int) != (ys.length : Int)) = true := by simp; omega
    have HF : Hid (decide (xs = ys) = false) := Lib.hid (by simp; intro h; exact hlen (by rw [h]))
    clear hlen hx hy
    go_enter Try.func110, Try.ntmps110
    go_wp2_with fail
    go_ret
    exact ⟨ret_bool HF.out.symm, rfl⟩
  have HL := Lib.hid hlen
  obtain ⟨n, hn⟩ : ∃ n, xs.length = n := ⟨_, rfl⟩
  have hn2 : ys.length = n := by omega
  have hn6 : n ≤ 1048576 := by omega
  rw [hn, hn2]
  have HN := Lib.hid (And.intro hn hn2)
  clear hlen hn hn2
  go_enter Try.func110, Try.ntmps110
  go_wp2_with fail
  go_loop [14, 5, 6] (fun i _ _ => ∃ j : Nat, j ≤ n ∧ i = .int .i64 j ∧ Hid (xs.take j = ys.take j)) (fun i _ _ => n - (intOf i).toNat)
  case atStart => exact ⟨0, Nat.zero_le _, rfl, Lib.hid rfl⟩
  case round =>
    obtain ⟨j, hj, rfl, hs⟩ := hrel
    by_cases hlt : j < n
    · obtain ⟨b, o, x, rfl, _, hX, hc⟩ := hx.at_ (k := j) (by rw [HN.out.1]; exact hlt)
      obtain ⟨b2, o2, y, rfl, _, hY, hc2⟩ := hy.at_ (k := j) (by rw [HN.out.2]; exact hlt)
      clear hx hy
      cases e : (x != y)
      · have HS : Hid (xs.take (j + 1) = ys.take (j + 1)) := Lib.hid (by
          have hxy : x = y := by simpa using e
          rw [take_succ_of hX.out, take_succ_of hY.out, hs.out, hxy])
        go_wp2_with fail
        go_round
        case rel => exact ⟨j + 1, by omega, by go_num, HS⟩
        case measure => simp [intOf]; omega
      · have HF : Hid (decide (xs = ys) = false) := Lib.hid (by
          have hxy : x ≠ y := by simpa using e
          simp
          intro h
          have h1 := hX.out
          rw [h, hY.out] at h1
          exact hxy (Option.some.inj h1).symm)
        go_wp2_with fail
        go_ret
        exact ⟨ret_bool HF.out.symm, rfl⟩
    · obtain rfl : j = n := by omega
      have HT : Hid (decide (xs = ys) = true) := Lib.hid (by
        have h := hs.out
        rw [List.take_of_length_le (by rw [HN.out.1]; omega), List.take_of_length_le (by rw [HN.out.2]; omega)] at h
        simpa using h)
      go_wp2_with fail
      go_ret
      exact ⟨ret_bool HT.out.symm, rfl⟩

set_option maxHeartbeats 1000000 in
theorem SameImage_any (A B : Option Addr) (ca cb : Nat) (a b : Grid) (w : World) (hl : a.length ≤ 1048576) (_hl2 : b.length ≤ 1048576) (hr : ∀ r ∈ a, r.length ≤ 1048576) (hr2 : ∀ r ∈ b, r.length ≤ 1048576) (hx : GridAt w A a) (hy : GridAt w B b) :
    Calls Try.prog 100 #[.slice A a.length ca, .slice B b.length cb] w fun e w' => e = .returned (.bool (decide (a = b))) ∧ w = w' := by
  by_cases hlen : a.length = b.length
  case neg =>
    have b1 : ((a.length : Int) != (b.length : Int)) = true := by simp; omega
    have HF : Hid (decide (a = b) = false) := Lib.hid (by simp; intro h; exact hlen (by rw [h]))
    clear hlen hx hy
    go_enter Try.func100, Try.ntmps100
    go_wp2_with fail
    go_ret
    exact ⟨ret_bool HF.out.symm, rfl⟩
  obtain ⟨n, hn⟩ : ∃ n, a.length = n := ⟨_, rfl⟩
  have hn2 : b.length = n := by omega
  have hn6 : n ≤ 1048576 := by omega
  rw [hn, hn2]
  have HN := Lib.hid (And.intro hn hn2)
  have HR := Lib.hid (And.intro hr hr2)
  clear hlen hn hn2 hr hr2
  go_enter Try.func100, Try.ntmps100
  go_wp2_with fail
  go_loop [14, 5, 6] (fun i _ _ => ∃ j : Nat, j ≤ n ∧ i = .int .i64 j ∧ Hid (a.take j = b.take j)) (fun i _ _ => n - (intOf i).toNat)
  case atStart => exact ⟨0, Nat.zero_le _, rfl, Lib.hid rfl⟩
  case round =>
    obtain ⟨j, hj, rfl, hs⟩ := hrel
    by_cases hlt : j < n
    · obtain ⟨b1, o1, R1, c1, r1, rfl, _, hX, hc, hr1⟩ := hx.at_ (k := j) (by rw [HN.out.1]; exact hlt)
      obtain ⟨b2, o2, R2, c2, r2, rfl, _, hY, hc2, hr2⟩ := hy.at_ (k := j) (by rw [HN.out.2]; exact hlt)
      have cs := l02Same_any R1 R2 c1 c2 r1 r2 w (HR.out.1 r1 (List.mem_of_getElem? hX.out)) (HR.out.2 r2 (List.mem_of_getElem? hY.out)) hr1 hr2
      clear hx hy hr1 hr2
      cases e : decide (r1 = r2)
      · rw [e] at cs
        have HF : Hid (decide (a = b) = false) := Lib.hid (by
          have hxy : r1 ≠ r2 := by simpa using e
          simp
          intro h
          have h1 := hX.out
          rw [h, hY.out] at h1
          exact hxy (Option.some.inj h1).symm)
        clear e
        go_wp2_with (go_at_call 110; refine cs.mono ?_; rintro e w' ⟨rfl, rfl⟩)
        go_ret
        exact ⟨ret_bool HF.out.symm, rfl⟩
      · rw [e] at cs
        have HS : Hid (a.take (j + 1) = b.take (j + 1)) := Lib.hid (by
          have hxy : r1 = r2 := by simpa using e
          rw [take_succ_of hX.out, take_succ_of hY.out, hs.out, hxy])
        clear e
        go_wp2_with (go_at_call 110; refine cs.mono ?_; rintro e w' ⟨rfl, rfl⟩)
        go_round
        case rel => exact ⟨j + 1, by omega, by go_num, HS⟩
        case measure => simp [intOf]; omega
    · obtain rfl : j = n := by omega
      have HT : Hid (decide (a = b) = true) := Lib.hid (by
        have h := hs.out
        rw [List.take_of_length_le (by rw [HN.out.1]; omega), List.take_of_length_le (by rw [HN.out.2]; omega)] at h
        simpa using h)
      go_wp2_with fail
      go_ret
      exact ⟨ret_bool HT.out.symm, rfl⟩

theorem rs_len' {m : Grid} (h : gridOk m 0 1 = true) : (rsI m).length = m.length ∧ (csI m).length = (m.headD []).length := by
  unfold rsI csI
  rw [if_pos h, if_pos h, List.length_map, List.length_map]
  exact ⟨rfl, (tr_shape m).1⟩
theorem rs_len_le (m : Grid) (h : m.length ≤ 1048576) : (rsI m).length ≤ 1048576 ∧ (csI m).length ≤ 1048576 := by
  cases hg : gridOk m 0 1
  · unfold rsI csI; rw [hg]; simp
  · obtain ⟨e1, e2⟩ := rs_len' hg
    rw [e1, e2]
    exact ⟨h, by have := (Img.of hg).2.2.1.2; omega⟩


set_option maxHeartbeats 2000000 in
theorem implUniqueConvex_any (A : Option Addr) (ca : Nat) (m : Grid) (w : World) (hl : m.length ≤ 1048576) (hr : ∀ r ∈ m, r.length ≤ 1048576) (hgm : GridAt w A m) :
    Calls Try.prog 18 #[.slice A m.length ca] w fun e w' => e = .returned (.bool (uniqueC m (polyL (rsI m) (csI m)).length)) ∧ Ext w w' := by
  obtain ⟨k1, k2⟩ := rs_len_le m hl
  have c1 := implIsConvex_any A ca m w hl hr hgm
  have HC2 := Lib.hid (fun W (e : Ext w W) => implIsPolyomino_any A ca m W hl hr (hgm.ext e))
  have HCR := Lib.hid (fun W (e : Ext w W) => implRowSums_any A ca m W hl hr (hgm.ext e))
  have HCS := Lib.hid (fun W (e : Ext w W) => implColSums_any A ca m W hl hr (hgm.ext e))
  have HCA := Lib.hid (fun (W : World) (A1 B1 : Option Addr) (c1 c2 : Nat) (h1 : Ints W A1 (rsI m)) (h2 : Ints W B1 (csI m)) => implConvexImages_any A1 B1 c1 c2 (rsI m) (csI m) W k1 k2 h1 h2)
  have hlen : (polyL (rsI m) (csI m)).length ≤ 33554432 := Nat.le_trans (List.length_filter_le _ _) (allI_len _ _)
  cases e1 : convexI m
  · have h : uniqueC m (polyL (rsI m) (csI m)).length = false := by unfold uniqueC polyP; rw [e1]; rfl
    rw [h]
    rw [e1] at c1
    clear hgm HC2 HCR HCS HCA h
    go_enter Try.func18, Try.ntmps18
    go_wp2_with fail
    refine c1.mono ?_
    rintro e w1 ⟨rfl, he⟩
    have HE := Lib.hid he
    clear he
    go_wp2_with fail
    go_ret
    exact ⟨rfl, HE.out⟩
  rw [e1] at c1
  cases e2 : (pieces m == 1)
  · have h : uniqueC m (polyL (rsI m) (csI m)).length = false := by unfold uniqueC polyP; rw [e1, e2]; rfl
    rw [h]
    rw [e2] at HC2
    clear hgm HCR HCS HCA h e2
    go_enter Try.func18, Try.ntmps18
    go_wp2_with (first | (go_at_call 10; refine c1.mono ?_; rintro e w1 ⟨rfl, he⟩; have HE := Lib.hid he; clear he) | (go_at_call 11; refine (HC2.out _ HE.out).mono ?_; rintro e w2 ⟨rfl, he2⟩; have HE2 := Lib.hid (HE.out.trans he2); clear he2))
    go_ret
    exact ⟨rfl, HE2.out⟩
  rw [e2] at HC2
  have h : uniqueC m (polyL (rsI m) (csI m)).length = ((polyL (rsI m) (csI m)).length == 1) := by unfold uniqueC polyP; rw [e1, e2]; rfl
  rw [h]
  obtain ⟨rs, hrs⟩ : ∃ rs, rsI m = rs := ⟨_, rfl⟩
  obtain ⟨cs, hcs⟩ : ∃ cs, csI m = cs := ⟨_, rfl⟩
  rw [hrs, hcs] at HCA hlen ⊢
  simp only [hrs] at HCR
  simp only [hcs] at HCS
  obtain ⟨gs, hgs⟩ : ∃ gs, polyL rs cs = gs := ⟨_, rfl⟩
  rw [hgs] at HCA hlen ⊢
  obtain ⟨so, hso⟩ : ∃ so, sumsOk rs cs = so := ⟨_, rfl⟩
  rw [hso] at HCA
  obtain ⟨N, hN⟩ : ∃ N, gs.length = N := ⟨_, rfl⟩
  rw [hN] at hlen ⊢
  have HN := Lib.hid hN
  clear hgm hrs hcs hgs hso k1 k2 hr h hN e1 e2
  obtain ⟨q, hq⟩ : ∃ q, (N == 1) = q := ⟨_, rfl⟩
  have hb : ((N : Int) == 1) = q := by
    rw [← hq]
    by_cases h : N = 1
    · subst h; rfl
    · have h1 : (N == 1) = false := by simpa using h
      have h2 : ((N : Int) == 1) = false := by simp; omega
      rw [h1, h2]
  rw [hq]
  clear hq
  cases q
  all_goals
    go_enter Try.func18, Try.ntmps18
    go_wp2_with (first | (go_at_call 10; refine c1.mono ?_; rintro e w1 ⟨rfl, he⟩; have HE := Lib.hid he; clear he) | (go_at_call 11; refine (HC2.out _ HE.out).mono ?_; rintro e w2 ⟨rfl, he2⟩; have HE2 := Lib.hid (HE.out.trans he2); clear he2))
    refine (HCR.out _ HE2.out).mono ?_
    rintro e w3 ⟨v1, rfl, ho1, he1⟩
    obtain ⟨A1, c1, rfl, hc1, _⟩ := ho1.slice
    have HO1 := Lib.hid ho1
    have HE3 := Lib.hid (HE2.out.trans he1)
    clear ho1 he1 hc1
    go_wp2_with fail
    refine (HCS.out w3 HE3.out).mono ?_
    rintro e w4 ⟨v2, rfl, ho2, he2⟩
    obtain ⟨A2, c2, rfl, _⟩ := ho2.slice
    have HE4 := Lib.hid (HE3.out.trans he2)
    have HT1 := Lib.hid ((HO1.out.ext he2).ints.2)
    have HT2 := Lib.hid ho2.ints.2
    clear ho2 he2
    go_wp2_with fail
    refine (HCA.out w4 A1 A2 c1 c2 HT1.out HT2.out).mono ?_
    rintro e w5 ⟨v3, rfl, ho3, he3⟩
    obtain ⟨L, cl, rfl, _⟩ := ho3.slice
    have HE5 := Lib.hid (HE4.out.trans he3)
    rw [HN.out]
    clear ho3 he3
    go_wp2_with fail
    go_ret
    exact ⟨rfl, HE5.out⟩
end Go.Proofs.Ytlhjbpachpjpkaa
