/- RevealNext, in the reference and in the program. -/
import Derived.Test.YtjmopacbjdimgaaAgree2
import Derived.Test.YtjmopacbjdimgaaMark2
namespace Go.Proofs.Ytjmopacbjdimgaa
open Go.RowKit Tomo

theorem rising_short {xs : List Int} {lim : Nat} (h : rising xs (lim : Int) = true) : xs.length ≤ lim := by
  have hall := rising_all h
  have key : ∀ (i : Nat) (x : Int), xs[i]? = some x → (i : Int) ≤ x := by
    intro i
    induction i with
    | zero => intro x hx; have := hall x (List.mem_of_getElem? hx); omega
    | succ i ih =>
      intro x hx
      have hlt := (List.getElem?_eq_some_iff.1 hx).1
      have h1 := ih _ (List.getElem?_eq_getElem (show i < xs.length by omega))
      have h2 : riseAt xs (lim : Int) (i + 1) = true := by
        unfold rising at h
        rw [List.all_eq_true] at h
        exact h (i + 1) (List.mem_range.2 hlt)
      rw [riseAt_next hx (List.getElem?_eq_getElem (show i < xs.length by omega)), Bool.and_eq_true, decide_eq_true_eq] at h2
      omega
  rcases Nat.eq_zero_or_pos xs.length with h0 | h0
  · omega
  · have h1 := List.getElem?_eq_getElem (show xs.length - 1 < xs.length by omega)
    have h2 := key _ _ h1
    have h3 := hall _ (List.mem_of_getElem? h1)
    omega
/-- the first index below j where f is least -/
def argm (f : Nat → Nat) : Nat → Nat
  | 0 => 0
  | j + 1 => if j = 0 then 0 else if f j < f (argm f j) then j else argm f j
theorem argm_one (f : Nat → Nat) : argm f 1 = 0 := rfl
theorem argm_succ (f : Nat → Nat) {j : Nat} (h : 0 < j) : argm f (j + 1) = if f j < f (argm f j) then j else argm f j := by
  show (if j = 0 then 0 else if f j < f (argm f j) then j else argm f j) = _
  rw [if_neg (by omega)]
def cntOf (m : Grid) (gs : List Grid) (k : Nat) (cells : List Int) (j : Nat) : Nat := (gs.filter fun x => agrees m x k (cells ++ [(j : Int)])).length
theorem cntOf_le (m : Grid) (gs : List Grid) (k : Nat) (cells : List Int) (j : Nat) : cntOf m gs k cells j ≤ gs.length := List.length_filter_le _ _
def cellEq (m : Grid) (k j : Nat) (x : Grid) : Bool := at2 x (j / k) (j % k) == at2 m (j / k) (j % k)
theorem agrees_app (m x : Grid) (k : Nat) (cells : List Int) (j : Nat) : agrees m x k (cells ++ [(j : Int)]) = (agrees m x k cells && cellEq m k j x) := by
  unfold agrees cellEq
  rw [List.all_append]
  simp only [List.all_cons, List.all_nil, Bool.and_true, cellAt, Int.toNat_natCast]
  congr 1
  rw [Bool.eq_iff_iff]
  simp only [beq_iff_eq]
  exact eq_comm
theorem cntOf_filter (m : Grid) (gs : List Grid) (k : Nat) (cells : List Int) (j : Nat) : cntOf m gs k cells j = ((gs.filter fun x => agrees m x k cells).filter (cellEq m k j)).length := by
  unfold cntOf
  rw [List.filter_filter]
  congr 1
  apply List.filter_congr
  intro x _
  rw [agrees_app, Bool.and_comm]
noncomputable def nextOf (m : Grid) (gs : List Grid) (cells : List Int) : Int := argm (cntOf m gs (m.headD []).length cells) (m.length * (m.headD []).length)
noncomputable def revealI (m : Grid) (cells : List Int) : Int := if agreeOk m cells = true then (if (agreeI m cells).length = 1 then -1 else nextOf m (allI (rsI m) (csI m)) cells) else -1



set_option maxHeartbeats 4000000 in
theorem implRevealNext_any (A D : Option Addr) (ca cd : Nat) (m : Grid) (cells : List Int) (w : World) (hl : m.length ≤ 1048576) (hr : ∀ r ∈ m, r.length ≤ 1048576) (hlen : cells.length ≤ 1048576) (hgm : GridAt w A m) (hc : Ints w D cells) :
    Calls Try.prog 6 #[.slice A m.length ca, .slice D cells.length cd] w fun e w' => e = .returned (.int .i64 (revealI m cells)) ∧ Ext w w' := by
  have ca1 := agreeing_any A D ca cd m cells w hl hr hlen hgm hc
  cases h : agreeOk m cells
  · rw [h] at ca1
    simp only [Bool.false_eq_true, ↓reduceIte] at ca1
    have HP : revealI m cells = -1 := by unfold revealI; rw [h]; rfl
    rw [HP]
    clear hgm hc
    go_enter Try.func6, Try.ntmps6
    go_wp2_with fail
    refine ca1.mono ?_
    rintro e w1 ⟨v, rfl, ho, he⟩
    have HE := Lib.hid he
    clear ho he
    go_wp2
    go_ret
    exact ⟨rfl, HE.out⟩
  rw [h] at ca1
  simp only [↓reduceIte] at ca1
  have hg : gridOk m 0 1 = true := by unfold agreeOk at h; rw [Bool.and_eq_true] at h; exact h.1
  have himg := Img.of hg
  obtain ⟨hn1, hn5⟩ := himg.2.1
  obtain ⟨hk1, hk5⟩ := himg.2.2.1
  have hnk : m.length * (m.headD []).length ≤ 25 := Nat.mul_le_mul hn5 hk5
  have hnk1 : 1 ≤ m.length * (m.headD []).length := Nat.mul_le_mul hn1 hk1
  obtain ⟨e1, e2⟩ := rs_len hg
  obtain ⟨bb, oo, _, _, _, hA, hbb, _⟩ := hgm.at_ (k := 0) (by omega)
  subst hA
  obtain ⟨R0, c0, q0⟩ := himg.head2 hgm
  have HQ0 : Hid (∀ W, Ext w W → W.cell? ⟨bb, oo, none⟩ = some (.slice R0 (m.headD []).length c0)) := Lib.hid fun W e => (e.cell (p := ⟨bb, oo, none⟩) hbb).trans q0
  have HIMG : Hid (∀ g, g ∈ agreeI m cells → Img g m.length (m.headD []).length) := Lib.hid (fun g hg' => by have := allI_img (List.mem_filter.1 hg').1; rw [e1, e2] at this; exact this)
  have HDEF : Hid (revealI m cells = if (agreeI m cells).length = 1 then -1 else ((argm (cntOf m (allI (rsI m) (csI m)) (m.headD []).length cells) (m.length * (m.headD []).length) : Nat) : Int)) := Lib.hid (by unfold revealI nextOf; rw [h]; rfl)
  have HCF : Hid (∀ j, cntOf m (allI (rsI m) (csI m)) (m.headD []).length cells j = ((agreeI m cells).filter (cellEq m (m.headD []).length j)).length) := Lib.hid fun j => cntOf_filter _ _ _ _ _
  have hal : (agreeI m cells).length ≤ 33554432 := Nat.le_trans (List.length_filter_le _ _) (allI_len _ _)
  have HM := Lib.hid himg
  have HGM := Lib.hid hgm
  obtain ⟨f, hf⟩ : ∃ f, cntOf m (allI (rsI m) (csI m)) (m.headD []).length cells = f := ⟨_, rfl⟩
  rw [hf] at HDEF HCF
  obtain ⟨hs, hhs⟩ : ∃ hs, agreeI m cells = hs := ⟨_, rfl⟩
  rw [hhs] at ca1 HIMG HDEF HCF hal
  obtain ⟨N, hN⟩ : ∃ N, hs.length = N := ⟨_, rfl⟩
  rw [hN] at HDEF hal
  have HN := Lib.hid hN
  obtain ⟨z, hz⟩ : ∃ z, revealI m cells = z := ⟨_, rfl⟩
  rw [hz] at HDEF ⊢
  obtain ⟨n, hn⟩ : ∃ n, m.length = n := ⟨_, rfl⟩
  obtain ⟨k, hk⟩ : ∃ k, (m.headD []).length = k := ⟨_, rfl⟩
  rw [hn, hk] at hnk hnk1 HIMG HDEF HM
  rw [hk] at hk1 hk5 HQ0 HCF
  rw [hn] at hn1 hn5 ca1 ⊢
  have hb : (n : Int) * (k : Int) = ((n * k : Nat) : Int) := by rw [Int.natCast_mul]
  obtain ⟨NK, hNK⟩ : ∃ NK, n * k = NK := ⟨_, rfl⟩
  have HNK := Lib.hid hNK
  rw [hNK] at hb hnk hnk1 HDEF
  clear himg hgm hc hn hk h hg hf hhs hN hz hNK hr hl e1 e2 q0 hbb
  by_cases h1 : N = 1
  · have hbo : ((N : Int) == 1) = true := by subst h1; rfl
    have HZ : z = -1 := by rw [HDEF.out, if_pos h1]
    subst HZ
    go_enter Try.func6, Try.ntmps6
    go_wp2_with fail
    refine ca1.mono ?_
    rintro e w1 ⟨v, rfl, ho, he⟩
    obtain ⟨L, cL, rfl, _⟩ := ho.slice
    rw [HN.out]
    have HE := Lib.hid he
    clear ho he
    go_wp2
    go_ret
    exact ⟨rfl, HE.out⟩
  have hbo : ((N : Int) == 1) = false := by simp; omega
  have HZ : Hid (z = ((argm f NK : Nat) : Int)) := Lib.hid (by rw [HDEF.out, if_neg h1])
  clear HDEF h1
  go_enter Try.func6, Try.ntmps6
  go_wp2_with fail
  refine ca1.mono ?_
  rintro e w2 ⟨v, rfl, ho, he⟩
  obtain ⟨us, hu⟩ := ho.u
  obtain ⟨L, cL, rfl, _⟩ := ho.slice
  rw [HN.out] at hu ⊢
  have HE2 := Lib.hid he
  have HU := Lib.hid hu
  clear ho he hu ca1
  go_wp2_with fail
  go_loopw [9, 7, 8, 10, 11, 12, 14] (fun i best few _ _ _ _ wr => ∃ j : Nat, j ≤ NK ∧ i = .int .i64 j ∧ Hid (Ext w2 wr) ∧ ((j = 0 ∧ best = .int .i64 (-1) ∧ few = .int .i64 ((N : Int) + 1)) ∨ ∃ (a M : Nat), 0 < j ∧ a ≤ 25 ∧ M ≤ 33554432 ∧ best = .int .i64 a ∧ few = .int .i64 M ∧ Hid (a = argm f j) ∧ Hid (M = f a))) (fun i _ _ _ _ _ _ _ => NK - (intOf i).toNat)
  case atStart => exact ⟨0, Nat.zero_le _, rfl, Lib.hid (Ext.refl _), .inl ⟨rfl, rfl, rfl⟩⟩
  case round =>
    rename World => wo
    obtain ⟨j, hj, rfl, hE, hcase⟩ := hrel
    have q0w := HQ0.out wo (HE2.out.trans hE.out)
    by_cases hlt : j < NK
    · have hlt2 : (j : Int) < (n : Int) * (k : Int) := by rw [hb]; omega
      have hC : j < n * k := by rw [HNK.out]; exact hlt
      obtain ⟨d1, d2⟩ := cell_split (by omega) hC
      have g3 : 0 ≤ (j : Int) / (k : Int) := Int.ediv_nonneg (by omega) (by omega)
      have g4 : (j : Int) / (k : Int) < (n : Int) := by rw [← Int.natCast_ediv]; omega
      have g5 : 0 ≤ (j : Int) % (k : Int) := Int.emod_nonneg _ (by omega)
      have g6 : (j : Int) % (k : Int) < (k : Int) := Int.emod_lt_of_pos _ (by omega)
      have HC := Lib.hid hC
      have HCASE := Lib.hid hcase
      have HBEST : Hid (∀ F, f j = F → F ≤ N → (j = 0 → True) → True) := Lib.hid fun _ _ _ _ => trivial
      clear hC HBEST hcase
      go_wp2_with fail
      go_quiet (fail)
      go_wp2_with fail
      go_loopw [56, 12, 14] (fun i s _ wi => ∃ (i2 s2 : Nat), i2 ≤ N ∧ s2 ≤ N ∧ i = .int .i64 i2 ∧ s = .int .i64 s2 ∧ Hid (Ext w2 wi) ∧ Hid (s2 = ((hs.take i2).filter (cellEq m k j)).length)) (fun i _ _ _ => N - (intOf i).toNat)
      case atStart => exact ⟨0, 0, Nat.zero_le _, Nat.zero_le _, rfl, rfl, Lib.hid (hE.out.trans ((Ext.refl _).drewN _)), Lib.hid (by simp)⟩
      case round =>
        rename World => wi
        obtain ⟨i2, s2, hi2, hs2, rfl, rfl, hE3, hf⟩ := hrel
        by_cases hltN : i2 < N
        · obtain ⟨b, u, g, Au, cu, hA2, hb2, _, hgg, hcell, _, hog⟩ := HU.out.elt (by rw [HN.out]; exact hltN)
          subst hA2
          have HXI := Lib.hid (HIMG.out g (List.mem_of_getElem? hgg.out))
          have hcell2 : wi.cell? ⟨b, i2, none⟩ = some (.slice Au n cu) := by rw [← HXI.out.1.1]; exact (hE3.out.cell (p := ⟨b, i2, none⟩) hb2).trans hcell
          obtain ⟨b1, o1, cR1, b3, o3, v1, hA1, _, q1, q3, hv1, _⟩ := HM.out.cell2 (by omega) HC.out (HGM.out.ext (HE2.out.trans hE3.out))
          cases hA1
          obtain ⟨b5, o5, cR5, b7, o7, v2, rfl, _, q5, q7, hv2, _⟩ := HXI.out.cell2 (by omega) HC.out (hog.ext hE3.out).gridAt
          have HS := Lib.hid (filter_take_succ hgg.out (cellEq m k j))
          have HLE := Lib.hid (filter_take_le hs (i2 + 1) (cellEq m k j))
          have HEQ : Hid (cellEq m k j g = (v2 == v1)) := Lib.hid (by unfold cellEq; rw [hv1.out, hv2.out])
          clear hog hcell
          cases e : (v2 == v1)
          · have HN2 : Hid (s2 = ((hs.take (i2 + 1)).filter (cellEq m k j)).length) := Lib.hid (by rw [HS.out, if_neg (by rw [HEQ.out, e]; simp), List.append_nil]; exact hf.out)
            go_wp2_with fail
            go_quiet (fail)
            go_wp2_with fail
            go_roundw
            case rel => exact ⟨i2 + 1, s2, by omega, hs2, by go_num, rfl, Lib.hid (hE3.out.trans ((Ext.refl _).drewN _)), HN2⟩
            case measure => simp [intOf]; omega
          · have HN2 : Hid (s2 + 1 = ((hs.take (i2 + 1)).filter (cellEq m k j)).length) := Lib.hid (by rw [HS.out, if_pos (by rw [HEQ.out, e]), List.length_append, hf.out]; rfl)
            have hs3 : s2 + 1 ≤ N := by rw [HN2.out, ← HN.out]; exact HLE.out
            go_wp2_with fail
            go_quiet (fail)
            go_wp2_with fail
            go_roundw
            case rel => exact ⟨i2 + 1, s2 + 1, by omega, hs3, by go_num, by go_num, Lib.hid (hE3.out.trans ((Ext.refl _).drewN _)), HN2⟩
            case measure => simp [intOf]; omega
        · obtain rfl : i2 = N := by omega
          have HF : Hid (f j = s2) := Lib.hid (by rw [HCF.out j, hf.out, ← HN.out, take_full])
          have hcase := HCASE.out
          clear HCASE
          rcases hcase with ⟨rfl, rfl, rfl⟩ | ⟨a, M, hj0, ha, hM, rfl, rfl, hbest, hleast⟩
          · go_wp2_with fail
            go_roundw
            case rel => exact ⟨1, by omega, by go_num, hE3, .inr ⟨0, s2, by omega, by omega, by omega, rfl, rfl, Lib.hid rfl, Lib.hid HF.out.symm⟩⟩
            case measure => simp [intOf]; omega
          · have HS := argm_succ f hj0
            rw [← hbest.out, ← hleast.out, HF.out] at HS
            by_cases hgt : s2 < M
            · rw [if_pos hgt] at HS
              replace HS := Lib.hid HS
              go_wp2_with fail
              go_roundw
              case rel => exact ⟨j + 1, by omega, by go_num, hE3, .inr ⟨j, s2, by omega, by omega, by omega, rfl, rfl, Lib.hid HS.out.symm, Lib.hid HF.out.symm⟩⟩
              case measure => simp [intOf]; omega
            · rw [if_neg hgt] at HS
              replace HS := Lib.hid HS
              go_wp2_with fail
              go_roundw
              case rel => exact ⟨j + 1, by omega, by go_num, hE3, .inr ⟨a, M, by omega, ha, hM, rfl, rfl, Lib.hid HS.out.symm, hleast⟩⟩
              case measure => simp [intOf]; omega
    · obtain rfl : j = NK := by omega
      have hnl : ¬ (j : Int) < (n : Int) * (k : Int) := by rw [hb]; omega
      rcases hcase with ⟨h0, _⟩ | ⟨a, M, hj0, ha, hM, rfl, rfl, hbest, hleast⟩
      · omega
      · go_wp2_with fail
        go_ret
        exact ⟨ret_int (by rw [HZ.out, hbest.out]), HE2.out.trans hE.out⟩
end Go.Proofs.Ytjmopacbjdimgaa
