/- RevealNext, in the reference and in the program. -/
import Derived.Test.YtnnkondlefjkcaaAgree2
import Derived.Test.YtnnkondlefjkcaaMark2
namespace Go.Proofs.Ytnnkondlefjkcaa
open Go.RowKit Tomo

theorem rising_short {xs : List Int} {lim : Nat} (h : rising xs (lim : Int) = true) : xs.length ≤ lim := by
  have hall := rising_all h
  have key : ∀ (i : Nat) (x : Int), xs[i]? = some x → (i : Int) ≤ x := by
    intro i
    induction i with
    | zero => intro x hx; have := hall x (List.mem_of_getElem? hx); omega
    | succ i ih =>
      intro x hx
      have hlt := (List.getElem?_eq_some_iff.1 hx).1
      have h1 := ih _ (List.getElem?_eq_getElem (show i < xs.length by omega))
      have h2 : riseAt xs (lim : Int) (i + 1) = true := by
        unfold rising at h
        rw [List.all_eq_true] at h
        exact h (i + 1) (List.mem_range.2 hlt)
      rw [riseAt_next hx (List.getElem?_eq_getElem (show i < xs.length by omega)), Bool.and_eq_true, decide_eq_true_eq] at h2
      omega
  rcases Nat.eq_zero_or_pos xs.length with h0 | h0
  · omega
  · have h1 := List.getElem?_eq_getElem (show xs.length - 1 < xs.length by omega)
    have h2 := key _ _ h1
    have h3 := hall _ (List.mem_of_getElem? h1)
    omega
/-- the first index below j where f is least -/
def argm (f : Nat → Nat) : Nat → Nat
  | 0 => 0
  | j + 1 => if j = 0 then 0 else if f j < f (argm f j) then j else argm f j
theorem argm_one (f : Nat → Nat) : argm f 1 = 0 := rfl
theorem argm_succ (f : Nat → Nat) {j : Nat} (h : 0 < j) : argm f (j + 1) = if f j < f (argm f j) then j else argm f j := by
  show (if j = 0 then 0 else if f j < f (argm f j) then j else argm f j) = _
  rw [if_neg (by omega)]
def cntOf (m : Grid) (gs : List Grid) (k : Nat) (cells : List Int) (j : Nat) : Nat := (gs.filter fun x => agrees m x k (cells ++ [(j : Int)])).length
theorem cntOf_le (m : Grid) (gs : List Grid) (k : Nat) (cells : List Int) (j : Nat) : cntOf m gs k cells j ≤ gs.length := List.length_filter_le _ _
def cellEq (m : Grid) (k j : Nat) (x : Grid) : Bool := at2 x (j / k) (j % k) == at2 m (j / k) (j % k)
theorem agrees_app (m x : Grid) (k : Nat) (cells : List Int) (j : Nat) : agrees m x k (cells ++ [(j : Int)]) = (agrees m x k cells && cellEq m k j x) := by
  unfold agrees cellEq
  rw [List.all_append]
  simp only [List.all_cons, List.all_nil, Bool.and_true, cellAt, Int.toNat_natCast]
  congr 1
  rw [Bool.eq_iff_iff]
  simp only [beq_iff_eq]
  exact eq_comm
theorem cntOf_filter (m : Grid) (gs : List Grid) (k : Nat) (cells : List Int) (j : Nat) : cntOf m gs k cells j = ((gs.filter fun x => agrees m x k cells).filter (cellEq m k j)).length := by
  unfold cntOf
  rw [List.filter_filter]
  congr 1
  apply List.filter_congr
  intro x _
  rw [agrees_app, Bool.and_comm]
noncomputable def nextOf (m : Grid) (gs : List Grid) (cells : List Int) : Int := argm (cntOf m gs (m.headD []).length cells) (m.length * (m.headD []).length)
noncomputable def revealI (m : Grid) (cells : List Int) : Int := if agreeOk m cells = true then (if (agreeI m cells).length = 1 then -1 else nextOf m (allI (rsI m) (csI m)) cells) else -1

set_option maxHeartbeats 4000000 in
theorem l12Next_any (L A D : Option Addr) (cl ca cd Bc : Nat) (gs : List Grid) (m : Grid) (n k : Nat) (cells : List Int) (w : World) (B : Nat) (hlist : OwnGrids w B (.slice L gs.length cl) gs) (hgl : gs.length ≤ 33554432) (himgs : ∀ g ∈ gs, Img g n k) (hm : Img m n k) (hgm : GridAt w A m) (hc : Own w Bc (.slice D cells.length cd) cells) (hlen : cells.length ≤ 900000) (hcs : ∀ c ∈ cells, 0 ≤ c ∧ c < (n * k : Nat)) :
    Calls Try.prog 98 #[.slice L gs.length cl, .slice A n ca, .slice D cells.length cd] w fun e w' => e = .returned (.int .i64 (argm (cntOf m gs k cells) (n * k) : Nat)) ∧ Ext w w' := by
  obtain ⟨hn1, hn5⟩ := hm.2.1
  obtain ⟨hk1, hk5⟩ := hm.2.2.1
  have hnk : n * k ≤ 25 := Nat.mul_le_mul hn5 hk5
  have hnk1 : 1 ≤ n * k := Nat.mul_le_mul hn1 hk1
  obtain ⟨bb, oo, _, _, _, hA, hbb, _⟩ := hgm.at_ (k := 0) (by rw [hm.1.1]; omega)
  subst hA
  obtain ⟨R0, c0, q0⟩ := hm.head2 hgm
  have HQ0 : Hid (∀ W, Ext w W → W.cell? ⟨bb, oo, none⟩ = some (.slice R0 k c0)) := Lib.hid fun W e => (e.cell (p := ⟨bb, oo, none⟩) hbb).trans q0
  have HCNT : Hid (∀ (W : World) (j : Nat) (D' : Option Addr) (cd' : Nat), Ext w W → j < n * k → Ints W D' (cells ++ [(j : Int)]) → Calls Try.prog 97 #[.slice L gs.length cl, .slice (some ⟨bb, oo, none⟩) n ca, .slice D' (cells.length + 1) cd'] W fun e w' => e = .returned (.int .i64 (cntOf m gs k cells j : Nat)) ∧ Ext W w') := Lib.hid (fun W j D' cd' e hj hi => by
    have h := l12Count_any L (some ⟨bb, oo, none⟩) D' cl ca cd' gs m n k (cells ++ [(j : Int)]) W B (hlist.ext e) (by omega) himgs hm (hgm.ext e) hi (by rw [List.length_append, List.length_singleton]; omega) (fun c hc => by
      rcases List.mem_append.1 hc with h | h
      · exact hcs c h
      · have e : c = (j : Int) := by simpa using h
        rw [e]; omega)
    rw [List.length_append, List.length_singleton] at h
    exact h)
  have HC := Lib.hid hc
  have HLE : Hid (∀ j, cntOf m gs k cells j ≤ 33554432) := Lib.hid fun j => Nat.le_trans (cntOf_le m gs k cells j) hgl
  obtain ⟨f, hf⟩ : ∃ f, cntOf m gs k cells = f := ⟨_, rfl⟩
  rw [hf] at HCNT HLE ⊢
  have hb : (n : Int) * (k : Int) = ((n * k : Nat) : Int) := by rw [Int.natCast_mul]
  obtain ⟨NK, hNK⟩ : ∃ NK, n * k = NK := ⟨_, rfl⟩
  rw [hNK] at hb hnk hnk1 HCNT ⊢
  clear hlist himgs hm hgm hc hcs hf hNK q0 hbb
  go_enter Try.func98, Try.ntmps98
  go_wp2_with fail
  go_loopw [9, 7, 8, 10] (fun i best least _ wr => ∃ j : Nat, j ≤ NK ∧ i = .int .i64 j ∧ Hid (Ext w wr) ∧ ((j = 0 ∧ best = .int .i64 (-1)) ∨ ∃ (a M : Nat), 0 < j ∧ a ≤ 25 ∧ M ≤ 33554432 ∧ best = .int .i64 a ∧ least = .int .i64 M ∧ Hid (a = argm f j) ∧ Hid (M = f a))) (fun i _ _ _ _ => NK - (intOf i).toNat)
  case atStart => exact ⟨0, Nat.zero_le _, rfl, Lib.hid (Ext.refl _), .inl ⟨rfl, rfl⟩⟩
  case round =>
    obtain ⟨j, hj, rfl, hE, hcase⟩ := hrel
    have q0w := HQ0.out wr hE.out
    by_cases hlt : j < NK
    · have HO := Lib.hid ((HC.out.ext hE.out).ext ((Ext.refl wr).alloc (.cells #[] 3)))
      have hfj := HLE.out j
      obtain ⟨F, hF⟩ : ∃ F, f j = F := ⟨_, rfl⟩
      rw [hF] at hfj
      have HF := Lib.hid hF
      have hlt2 : (j : Int) < (n : Int) * (k : Int) := by rw [hb]; omega
      clear hF
      rcases hcase with ⟨rfl, rfl⟩ | ⟨a, M, hj0, ha, hM, rfl, rfl, hbest, hleast⟩
      all_goals
        go_wp2_with (at_builtin; refine app_any (Own.empty wr wr.heap.size (Nat.le_refl _)) (by simp) (by simp; omega) HO.out rfl _ _ rfl rfl rfl ?_)
        intro v1 w1 ho1 hb1
        have HE1 : Hid (Ext wr w1) := Lib.hid (hb1 wr ((Ext.refl wr).alloc _))
        obtain ⟨A1, c1, rfl, _⟩ := ho1.slice
        have HO1 := Lib.hid ho1
        clear ho1 hb1
      · have HI := Lib.hid (Ints.one (w := w1) (x := (0 : Int)) rfl)
        have hs1 := HE1.out.size
        go_wp2_with (at_builtin; refine app_ints (ys := [(0 : Int)]) (HO1.out.ext ((Ext.refl w1).alloc _)) (Nat.le_trans hs1 (by simp)) (by simp; omega) (by simp) HI.out rfl _ _ rfl rfl rfl ?_)
        intro g2 c2 w2 ho2 hb2 _ _
        have HE2 : Hid (Ext wr w2) := Lib.hid (hb2 wr (HE1.out.alloc _))
        have cc := HCNT.out w2 0 (some ⟨g2, 0, none⟩) c2 (hE.out.trans HE2.out) hlt ho2.ints.2
        rw [HF.out] at cc
        clear ho2 hb2
        go_wp2_with fail
        refine cc.mono ?_
        rintro e w3 ⟨rfl, he3⟩
        have HE3 := Lib.hid (hE.out.trans (HE2.out.trans he3))
        clear he3
        go_wp2
        go_roundw
        case rel => exact ⟨1, by omega, by go_num, HE3, .inr ⟨0, F, by omega, by omega, hfj, rfl, rfl, Lib.hid rfl, Lib.hid HF.out.symm⟩⟩
        case measure => simp [intOf]; omega
      · have HI := Lib.hid (Ints.one (w := w1) (x := (j : Int)) rfl)
        have hs1 := HE1.out.size
        have HS := argm_succ f hj0
        rw [← hbest.out, ← hleast.out, HF.out] at HS
        by_cases hgt : F < M
        · rw [if_pos hgt] at HS
          replace HS := Lib.hid HS
          go_wp2_with (at_builtin; refine app_ints (ys := [(j : Int)]) (HO1.out.ext ((Ext.refl w1).alloc _)) (Nat.le_trans hs1 (by simp)) (by simp; omega) (by simp) HI.out rfl _ _ rfl rfl rfl ?_)
          intro g2 c2 w2 ho2 hb2 _ _
          have HE2 : Hid (Ext wr w2) := Lib.hid (hb2 wr (HE1.out.alloc _))
          have cc := HCNT.out w2 j (some ⟨g2, 0, none⟩) c2 (hE.out.trans HE2.out) hlt ho2.ints.2
          rw [HF.out] at cc
          clear ho2 hb2
          go_wp2_with fail
          refine cc.mono ?_
          rintro e w3 ⟨rfl, he3⟩
          have HE3 := Lib.hid (hE.out.trans (HE2.out.trans he3))
          clear he3
          go_wp2
          go_roundw
          case rel => exact ⟨j + 1, by omega, by go_num, HE3, .inr ⟨j, F, by omega, by omega, hfj, rfl, rfl, Lib.hid HS.out.symm, Lib.hid HF.out.symm⟩⟩
          case measure => simp [intOf]; omega
        · rw [if_neg hgt] at HS
          replace HS := Lib.hid HS
          go_wp2_with (at_builtin; refine app_ints (ys := [(j : Int)]) (HO1.out.ext ((Ext.refl w1).alloc _)) (Nat.le_trans hs1 (by simp)) (by simp; omega) (by simp) HI.out rfl _ _ rfl rfl rfl ?_)
          intro g2 c2 w2 ho2 hb2 _ _
          have HE2 : Hid (Ext wr w2) := Lib.hid (hb2 wr (HE1.out.alloc _))
          have cc := HCNT.out w2 j (some ⟨g2, 0, none⟩) c2 (hE.out.trans HE2.out) hlt ho2.ints.2
          rw [HF.out] at cc
          clear ho2 hb2
          go_wp2_with fail
          refine cc.mono ?_
          rintro e w3 ⟨rfl, he3⟩
          have HE3 := Lib.hid (hE.out.trans (HE2.out.trans he3))
          clear he3
          go_wp2
          go_roundw
          case rel => exact ⟨j + 1, by omega, by go_num, HE3, .inr ⟨a, M, by omega, ha, hM, rfl, rfl, Lib.hid HS.out.symm, hleast⟩⟩
          case measure => simp [intOf]; omega
    · obtain rfl : j = NK := by omega
      have hnl : ¬ (j : Int) < (n : Int) * (k : Int) := by rw [hb]; omega
      rcases hcase with ⟨h0, _⟩ | ⟨a, M, hj0, ha, hM, rfl, rfl, hbest, hleast⟩
      · omega
      · go_wp2_with fail
        go_ret
        exact ⟨ret_int (by rw [hbest.out]), hE.out⟩

set_option maxHeartbeats 4000000 in
theorem specRevealNext_any (A D : Option Addr) (ca cd Bc : Nat) (m : Grid) (cells : List Int) (w : World) (hl : m.length ≤ 1048576) (hr : ∀ r ∈ m, r.length ≤ 1048576) (hlen : cells.length ≤ 1048576) (hgm : GridAt w A m) (hc : Own w Bc (.slice D cells.length cd) cells) :
    Calls Try.prog 54 #[.slice A m.length ca, .slice D cells.length cd] w fun e w' => e = .returned (.int .i64 (revealI m cells)) ∧ Ext w w' := by
  have ci := l12Ok_any A D ca cd m cells w hl hr hlen hgm hc.ints.2
  cases h : agreeOk m cells
  · rw [h] at ci
    have HP : revealI m cells = -1 := by unfold revealI; rw [h]; rfl
    rw [HP]
    clear hgm hc
    go_enter Try.func54, Try.ntmps54
    go_wp2_with (go_at_call 96; refine ci.mono ?_; rintro e w' ⟨rfl, rfl⟩)
    go_ret
    exact ⟨rfl, Ext.refl _⟩
  rw [h] at ci
  have hg : gridOk m 0 1 = true := by unfold agreeOk at h; rw [Bool.and_eq_true] at h; exact h.1
  have hrise : rising cells (m.length * (m.headD []).length : Nat) = true := by unfold agreeOk at h; rw [Bool.and_eq_true] at h; exact h.2
  have hri := rising_all hrise
  have hc9 := rising_short hrise
  have himg := Img.of hg
  have hnk5 : m.length * (m.headD []).length ≤ 25 := Nat.mul_le_mul himg.2.1.2 himg.2.2.1.2
  obtain ⟨e1, e2⟩ := rs_len hg
  have cr := specRowSums_any A ca m w hl hr hgm
  have HCS := Lib.hid (fun W (e : Ext w W) => specColSums_any A ca m W hl hr (hgm.ext e))
  have HCA : Hid (∀ (W : World) (A1 B1 : Option Addr) (c1 c2 : Nat), m.length ≤ c1 → Typed W A1 (rsI m) → Typed W B1 (csI m) → Calls Try.prog 89 #[.slice A1 (rsI m).length c1, .slice B1 (csI m).length c2] W fun e w' => ∃ v, e = .returned (.tuple #[v, .bool (sumsOk (rsI m) (csI m))]) ∧ OwnGrids w' W.heap.size v (allI (rsI m) (csI m)) ∧ Ext W w') :=
    Lib.hid (fun W A1 B1 c1 c2 hc1 h1 h2 => specAllImages_any A1 B1 c1 c2 (rsI m) (csI m) W (by rw [e1]; exact hl) (by rw [e2]; have := himg.2.2.1.2; omega) (by rw [e1]; exact hc1) h1 h2)
  have hIM : ∀ g ∈ allI (rsI m) (csI m), Img g m.length (m.headD []).length := fun g hg' => by have := allI_img hg'; rw [e1, e2] at this; exact this
  have HLC : Hid (∀ (W : World) (e : Ext w W) (L : Option Addr) (cl B : Nat), OwnGrids W B (.slice L (allI (rsI m) (csI m)).length cl) (allI (rsI m) (csI m)) → Calls Try.prog 97 #[.slice L (allI (rsI m) (csI m)).length cl, .slice A m.length ca, .slice D cells.length cd] W fun e w' => e = .returned (.int .i64 ((agreeI m cells).length : Nat)) ∧ Ext W w') :=
    Lib.hid (fun W e L cl B ho => l12Count_any L A D cl ca cd _ m m.length (m.headD []).length cells W B ho (Nat.le_trans (allI_len _ _) (by omega)) hIM himg (hgm.ext e) (hc.ext e).ints.2 hlen hri)
  have HLN : Hid (∀ (W : World) (e : Ext w W) (L : Option Addr) (cl B : Nat), OwnGrids W B (.slice L (allI (rsI m) (csI m)).length cl) (allI (rsI m) (csI m)) → Calls Try.prog 98 #[.slice L (allI (rsI m) (csI m)).length cl, .slice A m.length ca, .slice D cells.length cd] W fun e w' => e = .returned (.int .i64 (nextOf m (allI (rsI m) (csI m)) cells)) ∧ Ext W w') :=
    Lib.hid (fun W e L cl B ho => l12Next_any L A D cl ca cd Bc _ m m.length (m.headD []).length cells W B ho (allI_len _ _) hIM himg (hgm.ext e) (hc.ext e) (by omega) hri)
  have HRL := Lib.hid e1
  have hml := himg.2.1.2
  have HDEF : Hid (revealI m cells = if (agreeI m cells).length = 1 then -1 else nextOf m (allI (rsI m) (csI m)) cells) := Lib.hid (by unfold revealI; rw [h]; rfl)
  have hal : (agreeI m cells).length ≤ 33554432 := Nat.le_trans (List.length_filter_le _ _) (allI_len _ _)
  obtain ⟨rs, hrs⟩ : ∃ rs, rsI m = rs := ⟨_, rfl⟩
  obtain ⟨cs, hcs⟩ : ∃ cs, csI m = cs := ⟨_, rfl⟩
  rw [hrs] at cr HCA HLC HRL HLN HDEF
  rw [hcs] at HCA HLC HLN HDEF
  simp only [hcs] at HCS
  obtain ⟨gs, hgs⟩ : ∃ gs, allI rs cs = gs := ⟨_, rfl⟩
  rw [hgs] at HCA HLC HLN HDEF
  obtain ⟨so, hso⟩ : ∃ so, sumsOk rs cs = so := ⟨_, rfl⟩
  rw [hso] at HCA
  obtain ⟨N, hN⟩ : ∃ N, (agreeI m cells).length = N := ⟨_, rfl⟩
  rw [hN] at HLC HDEF hal
  obtain ⟨q, hq⟩ : ∃ q, nextOf m gs cells = q := ⟨_, rfl⟩
  rw [hq] at HLN HDEF
  obtain ⟨z, hz⟩ : ∃ z, revealI m cells = z := ⟨_, rfl⟩
  rw [hz] at HDEF ⊢
  obtain ⟨n, hn⟩ : ∃ n, m.length = n := ⟨_, rfl⟩
  rw [hn] at ci cr HCA HLC HLN HRL hml ⊢
  simp only [hn] at HCS
  clear hg hri himg e1 e2 hrs hcs hgs hso hgm hc hr h hn hN hq hz hrise hnk5 hc9 hIM
  by_cases h1 : N = 1
  · have hb : ((N : Int) == 1) = true := by subst h1; rfl
    have HZ : z = -1 := by rw [HDEF.out, if_pos h1]
    subst HZ
    go_enter Try.func54, Try.ntmps54
    go_wp2_with (go_at_call 96; refine ci.mono ?_; rintro e w' ⟨rfl, rfl⟩)
    refine cr.mono ?_
    rintro e w1 ⟨v1, rfl, ho1, he1⟩
    obtain ⟨A1, c1, rfl, hc1, _⟩ := ho1.slice
    rw [HRL.out] at hc1
    have HO1 := Lib.hid ho1
    have HE1 := Lib.hid he1
    have HC1 := Lib.hid hc1
    clear ho1 he1 ci cr hc1
    go_wp2_with fail
    refine (HCS.out w1 HE1.out).mono ?_
    rintro e w2 ⟨v2, rfl, ho2, he2⟩
    obtain ⟨A2, c2, rfl, _⟩ := ho2.slice
    have HE2 := Lib.hid (HE1.out.trans he2)
    have HT1 := Lib.hid (HO1.out.typed.ext he2)
    have HT2 := Lib.hid ho2.typed
    clear ho2 he2
    go_wp2_with fail
    refine (HCA.out w2 A1 A2 c1 c2 HC1.out HT1.out HT2.out).mono ?_
    rintro e w3 ⟨v3, rfl, ho3, he3⟩
    obtain ⟨L, cl, rfl, _⟩ := ho3.slice
    have HO3 := Lib.hid ho3
    have HE3 := Lib.hid (HE2.out.trans he3)
    clear ho3 he3
    go_wp2_with fail
    refine (HLC.out w3 HE3.out L cl _ HO3.out).mono ?_
    rintro e w4 ⟨rfl, he4⟩
    have HE4 := Lib.hid (HE3.out.trans he4)
    clear he4
    go_wp2
    go_ret
    exact ⟨rfl, HE4.out⟩
  · have hb : ((N : Int) == 1) = false := by simp; omega
    have HZ : z = q := by rw [HDEF.out, if_neg h1]
    subst HZ
    go_enter Try.func54, Try.ntmps54
    go_wp2_with (go_at_call 96; refine ci.mono ?_; rintro e w' ⟨rfl, rfl⟩)
    refine cr.mono ?_
    rintro e w1 ⟨v1, rfl, ho1, he1⟩
    obtain ⟨A1, c1, rfl, hc1, _⟩ := ho1.slice
    rw [HRL.out] at hc1
    have HO1 := Lib.hid ho1
    have HE1 := Lib.hid he1
    have HC1 := Lib.hid hc1
    clear ho1 he1 ci cr hc1
    go_wp2_with fail
    refine (HCS.out w1 HE1.out).mono ?_
    rintro e w2 ⟨v2, rfl, ho2, he2⟩
    obtain ⟨A2, c2, rfl, _⟩ := ho2.slice
    have HE2 := Lib.hid (HE1.out.trans he2)
    have HT1 := Lib.hid (HO1.out.typed.ext he2)
    have HT2 := Lib.hid ho2.typed
    clear ho2 he2
    go_wp2_with fail
    refine (HCA.out w2 A1 A2 c1 c2 HC1.out HT1.out HT2.out).mono ?_
    rintro e w3 ⟨v3, rfl, ho3, he3⟩
    obtain ⟨L, cl, rfl, _⟩ := ho3.slice
    have HO3 := Lib.hid ho3
    have HE3 := Lib.hid (HE2.out.trans he3)
    clear ho3 he3
    go_wp2_with fail
    refine (HLC.out w3 HE3.out L cl _ HO3.out).mono ?_
    rintro e w4 ⟨rfl, he4⟩
    have HE4 := Lib.hid (HE3.out.trans he4)
    have HO4 := Lib.hid (HO3.out.ext he4)
    clear he4
    go_wp2_with fail
    refine (HLN.out w4 HE4.out L cl _ HO4.out).mono ?_
    rintro e w5 ⟨rfl, he5⟩
    have HE5 := Lib.hid (HE4.out.trans he5)
    clear he5
    go_wp2
    go_ret
    exact ⟨rfl, HE5.out⟩

set_option maxHeartbeats 4000000 in
theorem implRevealNext_any (A D : Option Addr) (ca cd : Nat) (m : Grid) (cells : List Int) (w : World) (hl : m.length ≤ 1048576) (hr : ∀ r ∈ m, r.length ≤ 1048576) (hlen : cells.length ≤ 1048576) (hgm : GridAt w A m) (hc : Ints w D cells) :
    Calls Try.prog 55 #[.slice A m.length ca, .slice D cells.length cd] w fun e w' => e = .returned (.int .i64 (revealI m cells)) ∧ Ext w w' := by
  have ca1 := agreeing_any A D ca cd m cells w hl hr hlen hgm hc
  cases h : agreeOk m cells
  · rw [h] at ca1
    simp only [Bool.false_eq_true, ↓reduceIte] at ca1
    have HP : revealI m cells = -1 := by unfold revealI; rw [h]; rfl
    rw [HP]
    clear hgm hc
    go_enter Try.func55, Try.ntmps55
    go_wp2_with fail
    refine ca1.mono ?_
    rintro e w1 ⟨v, rfl, ho, he⟩
    have HE := Lib.hid he
    clear ho he
    go_wp2
    go_ret
    exact ⟨rfl, HE.out⟩
  rw [h] at ca1
  simp only [↓reduceIte] at ca1
  have hg : gridOk m 0 1 = true := by unfold agreeOk at h; rw [Bool.and_eq_true] at h; exact h.1
  have himg := Img.of hg
  obtain ⟨hn1, hn5⟩ := himg.2.1
  obtain ⟨hk1, hk5⟩ := himg.2.2.1
  have hnk : m.length * (m.headD []).length ≤ 25 := Nat.mul_le_mul hn5 hk5
  have hnk1 : 1 ≤ m.length * (m.headD []).length := Nat.mul_le_mul hn1 hk1
  obtain ⟨e1, e2⟩ := rs_len hg
  obtain ⟨bb, oo, _, _, _, hA, hbb, _⟩ := hgm.at_ (k := 0) (by omega)
  subst hA
  obtain ⟨R0, c0, q0⟩ := himg.head2 hgm
  have HQ0 : Hid (∀ W, Ext w W → W.cell? ⟨bb, oo, none⟩ = some (.slice R0 (m.headD []).length c0)) := Lib.hid fun W e => (e.cell (p := ⟨bb, oo, none⟩) hbb).trans q0
  have HIMG : Hid (∀ g, g ∈ agreeI m cells → Img g m.length (m.headD []).length) := Lib.hid (fun g hg' => by have := allI_img (List.mem_filter.1 hg').1; rw [e1, e2] at this; exact this)
  have HDEF : Hid (revealI m cells = if (agreeI m cells).length = 1 then -1 else ((argm (cntOf m (allI (rsI m) (csI m)) (m.headD []).length cells) (m.length * (m.headD []).length) : Nat) : Int)) := Lib.hid (by unfold revealI nextOf; rw [h]; rfl)
  have HCF : Hid (∀ j, cntOf m (allI (rsI m) (csI m)) (m.headD []).length cells j = ((agreeI m cells).filter (cellEq m (m.headD []).length j)).length) := Lib.hid fun j => cntOf_filter _ _ _ _ _
  have hal : (agreeI m cells).length ≤ 33554432 := Nat.le_trans (List.length_filter_le _ _) (allI_len _ _)
  have HM := Lib.hid himg
  have HGM := Lib.hid hgm
  obtain ⟨f, hf⟩ : ∃ f, cntOf m (allI (rsI m) (csI m)) (m.headD []).length cells = f := ⟨_, rfl⟩
  rw [hf] at HDEF HCF
  obtain ⟨hs, hhs⟩ : ∃ hs, agreeI m cells = hs := ⟨_, rfl⟩
  rw [hhs] at ca1 HIMG HDEF HCF hal
  obtain ⟨N, hN⟩ : ∃ N, hs.length = N := ⟨_, rfl⟩
  rw [hN] at HDEF hal
  have HN := Lib.hid hN
  obtain ⟨z, hz⟩ : ∃ z, revealI m cells = z := ⟨_, rfl⟩
  rw [hz] at HDEF ⊢
  obtain ⟨n, hn⟩ : ∃ n, m.length = n := ⟨_, rfl⟩
  obtain ⟨k, hk⟩ : ∃ k, (m.headD []).length = k := ⟨_, rfl⟩
  rw [hn, hk] at hnk hnk1 HIMG HDEF HM
  rw [hk] at hk1 hk5 HQ0 HCF
  rw [hn] at hn1 hn5 ca1 ⊢
  have hb : (n : Int) * (k : Int) = ((n * k : Nat) : Int) := by rw [Int.natCast_mul]
  obtain ⟨NK, hNK⟩ : ∃ NK, n * k = NK := ⟨_, rfl⟩
  have HNK := Lib.hid hNK
  rw [hNK] at hb hnk hnk1 HDEF
  clear himg hgm hc hn hk h hg hf hhs hN hz hNK hr hl e1 e2 q0 hbb
  by_cases h1 : N = 1
  · have hbo : ((N : Int) == 1) = true := by subst h1; rfl
    have HZ : z = -1 := by rw [HDEF.out, if_pos h1]
    subst HZ
    go_enter Try.func55, Try.ntmps55
    go_wp2_with fail
    refine ca1.mono ?_
    rintro e w1 ⟨v, rfl, ho, he⟩
    obtain ⟨L, cL, rfl, _⟩ := ho.slice
    rw [HN.out]
    have HE := Lib.hid he
    clear ho he
    go_wp2
    go_ret
    exact ⟨rfl, HE.out⟩
  have hbo : ((N : Int) == 1) = false := by simp; omega
  have HZ : Hid (z = ((argm f NK : Nat) : Int)) := Lib.hid (by rw [HDEF.out, if_neg h1])
  clear HDEF h1
  go_enter Try.func55, Try.ntmps55
  go_wp2_with fail
  refine ca1.mono ?_
  rintro e w2 ⟨v, rfl, ho, he⟩
  obtain ⟨us, hu⟩ := ho.u
  obtain ⟨L, cL, rfl, _⟩ := ho.slice
  rw [HN.out] at hu ⊢
  have HE2 := Lib.hid he
  have HU := Lib.hid hu
  clear ho he hu ca1
  go_wp2_with fail
  go_loopw [9, 7, 8, 10, 11, 12, 14] (fun i best few _ _ _ _ wr => ∃ j : Nat, j ≤ NK ∧ i = .int .i64 j ∧ Hid (Ext w2 wr) ∧ ((j = 0 ∧ best = .int .i64 (-1) ∧ few = .int .i64 ((N : Int) + 1)) ∨ ∃ (a M : Nat), 0 < j ∧ a ≤ 25 ∧ M ≤ 33554432 ∧ best = .int .i64 a ∧ few = .int .i64 M ∧ Hid (a = argm f j) ∧ Hid (M = f a))) (fun i _ _ _ _ _ _ _ => NK - (intOf i).toNat)
  case atStart => exact ⟨0, Nat.zero_le _, rfl, Lib.hid (Ext.refl _), .inl ⟨rfl, rfl, rfl⟩⟩
  case round =>
    rename World => wo
    obtain ⟨j, hj, rfl, hE, hcase⟩ := hrel
    have q0w := HQ0.out wo (HE2.out.trans hE.out)
    by_cases hlt : j < NK
    · have hlt2 : (j : Int) < (n : Int) * (k : Int) := by rw [hb]; omega
      have hC : j < n * k := by rw [HNK.out]; exact hlt
      obtain ⟨d1, d2⟩ := cell_split (by omega) hC
      have g3 : 0 ≤ (j : Int) / (k : Int) := Int.ediv_nonneg (by omega) (by omega)
      have g4 : (j : Int) / (k : Int) < (n : Int) := by rw [← Int.natCast_ediv]; omega
      have g5 : 0 ≤ (j : Int) % (k : Int) := Int.emod_nonneg _ (by omega)
      have g6 : (j : Int) % (k : Int) < (k : Int) := Int.emod_lt_of_pos _ (by omega)
      have HC := Lib.hid hC
      have HCASE := Lib.hid hcase
      have HBEST : Hid (∀ F, f j = F → F ≤ N → (j = 0 → True) → True) := Lib.hid fun _ _ _ _ => trivial
      clear hC HBEST hcase
      go_wp2_with fail
      go_quiet (fail)
      go_wp2_with fail
      go_loopw [56, 12, 14] (fun i s _ wi => ∃ (i2 s2 : Nat), i2 ≤ N ∧ s2 ≤ N ∧ i = .int .i64 i2 ∧ s = .int .i64 s2 ∧ Hid (Ext w2 wi) ∧ Hid (s2 = ((hs.take i2).filter (cellEq m k j)).length)) (fun i _ _ _ => N - (intOf i).toNat)
      case atStart => exact ⟨0, 0, Nat.zero_le _, Nat.zero_le _, rfl, rfl, Lib.hid (hE.out.trans ((Ext.refl _).drewN _)), Lib.hid (by simp)⟩
      case round =>
        rename World => wi
        obtain ⟨i2, s2, hi2, hs2, rfl, rfl, hE3, hf⟩ := hrel
        by_cases hltN : i2 < N
        · obtain ⟨b, u, g, Au, cu, hA2, hb2, _, hgg, hcell, _, hog⟩ := HU.out.elt (by rw [HN.out]; exact hltN)
          subst hA2
          have HXI := Lib.hid (HIMG.out g (List.mem_of_getElem? hgg.out))
          have hcell2 : wi.cell? ⟨b, i2, none⟩ = some (.slice Au n cu) := by rw [← HXI.out.1.1]; exact (hE3.out.cell (p := ⟨b, i2, none⟩) hb2).trans hcell
          obtain ⟨b1, o1, cR1, b3, o3, v1, hA1, _, q1, q3, hv1, _⟩ := HM.out.cell2 (by omega) HC.out (HGM.out.ext (HE2.out.trans hE3.out))
          cases hA1
          obtain ⟨b5, o5, cR5, b7, o7, v2, rfl, _, q5, q7, hv2, _⟩ := HXI.out.cell2 (by omega) HC.out (hog.ext hE3.out).gridAt
          have HS := Lib.hid (filter_take_succ hgg.out (cellEq m k j))
          have HLE := Lib.hid (filter_take_le hs (i2 + 1) (cellEq m k j))
          have HEQ : Hid (cellEq m k j g = (v2 == v1)) := Lib.hid (by unfold cellEq; rw [hv1.out, hv2.out])
          clear hog hcell
          cases e : (v2 == v1)
          · have HN2 : Hid (s2 = ((hs.take (i2 + 1)).filter (cellEq m k j)).length) := Lib.hid (by rw [HS.out, if_neg (by rw [HEQ.out, e]; simp), List.append_nil]; exact hf.out)
            go_wp2_with fail
            go_quiet (fail)
            go_wp2_with fail
            go_roundw
            case rel => exact ⟨i2 + 1, s2, by omega, hs2, by go_num, rfl, Lib.hid (hE3.out.trans ((Ext.refl _).drewN _)), HN2⟩
            case measure => simp [intOf]; omega
          · have HN2 : Hid (s2 + 1 = ((hs.take (i2 + 1)).filter (cellEq m k j)).length) := Lib.hid (by rw [HS.out, if_pos (by rw [HEQ.out, e]), List.length_append, hf.out]; rfl)
            have hs3 : s2 + 1 ≤ N := by rw [HN2.out, ← HN.out]; exact HLE.out
            go_wp2_with fail
            go_quiet (fail)
            go_wp2_with fail
            go_roundw
            case rel => exact ⟨i2 + 1, s2 + 1, by omega, hs3, by go_num, by go_num, Lib.hid (hE3.out.trans ((Ext.refl _).drewN _)), HN2⟩
            case measure => simp [intOf]; omega
        · obtain rfl : i2 = N := by omega
          have HF : Hid (f j = s2) := Lib.hid (by rw [HCF.out j, hf.out, ← HN.out, take_full])
          have hcase := HCASE.out
          clear HCASE
          rcases hcase with ⟨rfl, rfl, rfl⟩ | ⟨a, M, hj0, ha, hM, rfl, rfl, hbest, hleast⟩
          · go_wp2_with fail
            go_roundw
            case rel => exact ⟨1, by omega, by go_num, hE3, .inr ⟨0, s2, by omega, by omega, by omega, rfl, rfl, Lib.hid rfl, Lib.hid HF.out.symm⟩⟩
            case measure => simp [intOf]; omega
          · have HS := argm_succ f hj0
            rw [← hbest.out, ← hleast.out, HF.out] at HS
            by_cases hgt : s2 < M
            · rw [if_pos hgt] at HS
              replace HS := Lib.hid HS
              go_wp2_with fail
              go_roundw
              case rel => exact ⟨j + 1, by omega, by go_num, hE3, .inr ⟨j, s2, by omega, by omega, by omega, rfl, rfl, Lib.hid HS.out.symm, Lib.hid HF.out.symm⟩⟩
              case measure => simp [intOf]; omega
            · rw [if_neg hgt] at HS
              replace HS := Lib.hid HS
              go_wp2_with fail
              go_roundw
              case rel => exact ⟨j + 1, by omega, by go_num, hE3, .inr ⟨a, M, by omega, ha, hM, rfl, rfl, Lib.hid HS.out.symm, hleast⟩⟩
              case measure => simp [intOf]; omega
    · obtain rfl : j = NK := by omega
      have hnl : ¬ (j : Int) < (n : Int) * (k : Int) := by rw [hb]; omega
      rcases hcase with ⟨h0, _⟩ | ⟨a, M, hj0, ha, hM, rfl, rfl, hbest, hleast⟩
      · omega
      · go_wp2_with fail
        go_ret
        exact ⟨ret_int (by rw [HZ.out, hbest.out]), HE2.out.trans hE.out⟩
end Go.Proofs.Ytnnkondlefjkcaa
