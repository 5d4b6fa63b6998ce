/- BadRectangle in the reference and in the program. -/
import Derived.Test.YtmcnpdpplmbofaaBad2
import Derived.Test.YtmcnpdpplmbofaaMark4
namespace Go.Proofs.Ytmcnpdpplmbofaa
open Go.RowKit Tomo

theorem bad_none {mask : Grid} {rows cols : List Int} (h : badI mask rows cols = none) : badP mask rows cols = [] ∧ badQ mask rows cols = [] := by
  unfold badP badQ; rw [h]; exact ⟨rfl, rfl⟩
theorem bad_some {mask : Grid} {rows cols : List Int} {a b : Nat} (h : badI mask rows cols = some (a, b)) : badP mask rows cols = bitsL a rows.length ∧ badQ mask rows cols = bitsL b cols.length := by
  unfold badP badQ; rw [h]; exact ⟨rfl, rfl⟩
theorem bad_skip {mask : Grid} {rows cols : List Int} (h : maskedCount mask rows cols ≠ 0) : badI mask rows cols = none := by
  unfold badI; rw [if_neg h]
theorem bad_go {mask : Grid} {rows cols : List Int} (h : maskedCount mask rows cols = 0) : badI mask rows cols = badA (badCf mask rows cols) (2 ^ rows.length) (2 ^ cols.length) (2 ^ rows.length) := by
  unfold badI; rw [if_pos h]
theorem masked_not {mask : Grid} {rows cols : List Int} (h : maskOk mask rows cols = false) : maskedCount mask rows cols = -1 := by
  unfold maskedCount; rw [h]; rfl
theorem masked_pos {mask : Grid} {rows cols : List Int} (h : maskOk mask rows cols = true) : 0 ≤ maskedCount mask rows cols := by
  unfold maskedCount; rw [if_pos h]; omega

set_option maxRecDepth 100000 in
set_option maxHeartbeats 8000000 in
theorem specBadRectangle_any (A0 A B : Option Addr) (c0 ca cb : Nat) (mask : List (List Int)) (rows cols : List Int) (w : World) (hl0 : mask.length ≤ 1048576) (hr0 : ∀ r ∈ mask, r.length ≤ 1048576) (hm : GridAt w A0 mask)
    (hl : rows.length ≤ 1048576) (hl2 : cols.length ≤ 1048576) (hca : rows.length ≤ ca) (hx : Typed w A rows) (hy : Typed w B cols) :
    Calls Try.prog 5 #[.slice A0 mask.length c0, .slice A rows.length ca, .slice B cols.length cb] w fun e w' => ∃ v1 v2, e = .returned (.tuple #[v1, v2, .bool (badI mask rows cols).isSome]) ∧ Own w' w.heap.size v1 (badP mask rows cols) ∧ Own w' w.heap.size v2 (badQ mask rows cols) ∧ Ext w w' := by
  have cm := specMaskOk_any A0 A B c0 ca cb mask rows cols w hl0 hr0 hm hl hl2 hx.1 hy.1
  have cn := specMaskedCount_any A0 A B c0 ca cb mask rows cols w hl0 hr0 hm hl hl2 hca hx hy
  cases h1 : maskOk mask rows cols
  · rw [h1] at cm
    have HN : Hid (badI mask rows cols = none) := Lib.hid (bad_skip (by rw [masked_not h1]; decide))
    clear hm hx hy cn h1
    go_enter Try.func5, Try.ntmps5
    go_wp2_with (go_at_call 15; refine cm.mono ?_; rintro e w' ⟨rfl, rfl⟩)
    go_ret3
    exact ⟨_, _, by rw [HN.out]; rfl, by rw [(bad_none HN.out).1]; exact Own.nil _ _, by rw [(bad_none HN.out).2]; exact Own.nil _ _, Ext.refl _⟩
  rw [h1] at cm
  have hpos := masked_pos h1
  obtain ⟨z, hz⟩ : ∃ z, maskedCount mask rows cols = z := ⟨_, rfl⟩
  rw [hz] at cn hpos
  by_cases h0 : 0 < z
  · have HN : Hid (badI mask rows cols = none) := Lib.hid (bad_skip (by rw [hz]; omega))
    clear hm hx hy h1 hz
    go_enter Try.func5, Try.ntmps5
    go_wp2_with (first | (go_at_call 15; refine cm.mono ?_; rintro e w' ⟨rfl, rfl⟩) | (go_at_call 16; refine cn.mono ?_; rintro e w1 ⟨rfl, he⟩))
    go_ret3
    exact ⟨_, _, by rw [HN.out]; rfl, by rw [(bad_none HN.out).1]; exact Own.nil _ _, by rw [(bad_none HN.out).2]; exact Own.nil _ _, he⟩
  obtain rfl : z = 0 := by omega
  obtain ⟨⟨hn1, hn5⟩, hk1, hk5⟩ := masked_small h1
  have HRES := Lib.hid (bad_go hz)
  have HBS := Lib.hid (fun (a b : Nat) (h : badI mask rows cols = some (a, b)) => bad_some h)
  have HBN := Lib.hid (fun (h : badI mask rows cols = none) => bad_none h)
  have HCF := Lib.hid (fun (a b : Nat) => badCf_has (a := a) (b := b) h1)
  have HOK := Lib.hid h1
  have hN32 := pow_le5 hn5
  have hM32 := pow_le5 hk5
  obtain ⟨N, hN⟩ : ∃ N, 2 ^ rows.length = N := ⟨_, rfl⟩
  obtain ⟨M, hM⟩ : ∃ M, 2 ^ cols.length = M := ⟨_, rfl⟩
  have hs1 : (2 : Int) ^ rows.length = (N : Int) := by rw [← hN]; simp
  have hs2 : (2 : Int) ^ cols.length = (M : Int) := by rw [← hM]; simp
  rw [hN, hM] at HRES HCF
  rw [hN] at hN32
  rw [hM] at hM32
  obtain ⟨RES, hRES⟩ : ∃ RES, badI mask rows cols = RES := ⟨_, rfl⟩
  rw [hRES] at HRES HBS HBN ⊢
  obtain ⟨PA, hPA⟩ : ∃ PA, badP mask rows cols = PA := ⟨_, rfl⟩
  obtain ⟨PB, hPB⟩ : ∃ PB, badQ mask rows cols = PB := ⟨_, rfl⟩
  rw [hPA, hPB] at HBS HBN ⊢
  have HXM := Lib.hid hm
  have HXR := Lib.hid hx.1
  have HXC := Lib.hid hy.1
  clear hm hx hy h1 hz hN hM hRES hPA hPB hpos h0
  go_enter Try.func5, Try.ntmps5
  go_wp2_with (first | (go_at_call 15; refine cm.mono ?_; rintro e w' ⟨rfl, rfl⟩) | (go_at_call 16; refine cn.mono ?_; rintro e w1 ⟨rfl, he⟩))
  have HE := Lib.hid he
  clear he cm cn
  go_loopw [9, 10, 11, 12] (fun i _ _ _ wr => ∃ a : Nat, a ≤ N ∧ i = .int .i64 a ∧ Hid (Ext w wr) ∧ Hid (badA (badCf mask rows cols) N M (N - a) = RES)) (fun i _ _ _ _ => N - (intOf i).toNat)
  case atStart => exact ⟨0, Nat.zero_le _, rfl, HE, Lib.hid (by rw [HRES.out]; rfl)⟩
  case round =>
    rename World => wa
    clear HE
    obtain ⟨a, ha, rfl, hE, hF⟩ := hrel
    by_cases hlt : a < N
    · obtain ⟨RB, hRB⟩ : ∃ RB, badB (badCf mask rows cols) M a M = RB := ⟨_, rfl⟩
      have HRB := Lib.hid hRB
      clear hRB
      go_wp2_with fail
      go_loopw [10, 11, 12] (fun i _ _ wr => ∃ b : Nat, b ≤ M ∧ i = .int .i64 b ∧ Hid (Ext w wr) ∧ Hid (badB (badCf mask rows cols) M a (M - b) = RB)) (fun i _ _ _ => M - (intOf i).toNat)
      case atStart => exact ⟨0, Nat.zero_le _, rfl, hE, HRB⟩
      case round =>
        rename World => wb
        clear hE
        obtain ⟨b, hb, rfl, hE, hG⟩ := hrel
        by_cases hltb : b < M
        · have c1 := l08Bits_any a rows.length wb hn5 (by omega)
          obtain ⟨r1, r2, _⟩ := HCF.out a b hlt hltb
          have hbl1 := bitsL_len a rows.length
          have hbl2 := bitsL_len b cols.length
          have HRC := Lib.hid (rect_of HOK.out r1 r2 (by omega) (by omega))
          clear r1 r2
          go_wp2_with fail
          refine c1.mono ?_
          rintro e w2 ⟨v1, rfl, ho1, he1⟩
          have c2 := l08Bits_any b cols.length w2 hk5 (by omega)
          obtain ⟨L1, q1, rfl, _, hi1⟩ := ho1.slice
          have HO1 := Lib.hid (ho1.base hE.out.size)
          have HI1 := Lib.hid hi1
          have HE2 := Lib.hid (hE.out.trans he1)
          clear c1 ho1 he1 hi1
          go_wp2_with fail
          refine c2.mono ?_
          rintro e w3 ⟨v2, rfl, ho2, he2⟩
          obtain ⟨L2, q2, rfl, _, hi2⟩ := ho2.slice
          have HO2 := Lib.hid (ho2.base HE2.out.size)
          have HO1' := Lib.hid (HO1.out.ext he2)
          have HE3 := Lib.hid (HE2.out.trans he2)
          have c3 := l08Conflict_any A0 A B L1 L2 c0 ca cb q1 q2 mask rows cols (bitsL a rows.length) (bitsL b cols.length) w3 HRC.out (HXM.out.ext HE3.out) (HXR.out.ext HE3.out) (HXC.out.ext HE3.out) (HI1.out.ext he2) hi2
          have HCB : Hid (conflictB mask rows cols (bitsL a rows.length) (bitsL b cols.length) = badCf mask rows cols a b) := Lib.hid rfl
          rw [HCB.out] at c3
          clear c2 ho2 he2 hi2
          cases hc : badCf mask rows cols a b
          · rw [hc] at c3
            have HN : Hid (badB (badCf mask rows cols) M a (M - (b + 1)) = RB) := Lib.hid (by rw [← badB_skip hltb hc]; exact hG.out)
            clear hc hbl1 hbl2
            go_wp2_with (go_at_call 18; refine c3.mono ?_; rintro e w' ⟨rfl, rfl⟩)
            go_roundw
            case rel => exact ⟨b + 1, by omega, by go_num, HE3, HN⟩
            case measure => simp [intOf]; omega
          · rw [hc] at c3
            have HR : Hid (RES = some (a, b)) := Lib.hid (by
              rw [← hF.out]
              exact badA_hit hlt (HRB.out.trans (by rw [← hG.out, badB_hit hltb hc])))
            clear hc hbl1 hbl2
            go_wp2_with (go_at_call 18; refine c3.mono ?_; rintro e w' ⟨rfl, rfl⟩)
            go_ret3
            exact ⟨_, _, by rw [HR.out]; rfl, by rw [(HBS.out _ _ HR.out).1]; exact HO1'.out, by rw [(HBS.out _ _ HR.out).2]; exact HO2.out, HE3.out⟩
        · obtain rfl : b = M := by omega
          have HN : Hid (badA (badCf mask rows cols) N b (N - (a + 1)) = RES) := Lib.hid (by
            rw [← hF.out]
            refine (badA_skip hlt ?_).symm
            rw [HRB.out, ← hG.out, Nat.sub_self, badB])
          go_wp2_with fail
          go_roundw
          case rel => exact ⟨a + 1, by omega, by go_num, hE, HN⟩
          case measure => simp [intOf]; omega
    · obtain rfl : a = N := by omega
      have HR : Hid (RES = none) := Lib.hid (by rw [← hF.out, Nat.sub_self, badA])
      go_wp2_with fail
      go_ret3
      exact ⟨_, _, by rw [HR.out]; rfl, by rw [(HBN.out HR.out).1]; exact Own.nil _ _, by rw [(HBN.out HR.out).2]; exact Own.nil _ _, hE.out⟩
set_option maxRecDepth 100000 in
set_option maxHeartbeats 8000000 in
theorem implBadRectangle_any (A0 A B : Option Addr) (c0 ca cb : Nat) (mask : List (List Int)) (rows cols : List Int) (w : World) (hl0 : mask.length ≤ 1048576) (hr0 : ∀ r ∈ mask, r.length ≤ 1048576) (hm : GridAt w A0 mask)
    (hl : rows.length ≤ 1048576) (hl2 : cols.length ≤ 1048576) (hx : Ints w A rows) (hy : Ints w B cols) :
    Calls Try.prog 8 #[.slice A0 mask.length c0, .slice A rows.length ca, .slice B cols.length cb] w fun e w' => ∃ v1 v2 mid, e = .returned (.tuple #[v1, v2, .bool (badI mask rows cols).isSome]) ∧ w.heap.size ≤ mid ∧ mid ≤ w'.heap.size ∧ OwnIn w' w.heap.size mid v1 (badP mask rows cols) ∧ OwnIn w' mid w'.heap.size v2 (badQ mask rows cols) ∧ Ext w w' := by
  have cn := implMaskedCount_any A0 A B c0 ca cb mask rows cols w hl0 hr0 hm hl hl2 hx hy
  obtain ⟨z, hz⟩ : ∃ z, maskedCount mask rows cols = z := ⟨_, rfl⟩
  rw [hz] at cn
  by_cases h0 : z = 0
  case neg =>
    have HN : Hid (badI mask rows cols = none) := Lib.hid (bad_skip (by rw [hz]; exact h0))
    have b1 : (z != 0) = true := by rw [bne_iff_ne]; exact h0
    clear hm hx hy hz h0
    go_enter Try.func8, Try.ntmps8
    go_wp2_with (go_at_call 19; refine cn.mono ?_; rintro e w1 ⟨rfl, he⟩)
    go_ret3
    exact ⟨_, _, w.heap.size, by rw [HN.out]; rfl, Nat.le_refl _, he.size, by rw [(bad_none HN.out).1]; exact ⟨Own.nil _ _, fun b hb => by cases hb⟩, by rw [(bad_none HN.out).2]; exact ⟨Own.nil _ _, fun b hb => by cases hb⟩, he⟩
  subst h0
  have h1 := masked_ok hz
  obtain ⟨⟨hn1, hn5⟩, hk1, hk5⟩ := masked_small h1
  have HRES := Lib.hid (bad_go hz)
  have HBS := Lib.hid (fun (a b : Nat) (h : badI mask rows cols = some (a, b)) => bad_some h)
  have HBN := Lib.hid (fun (h : badI mask rows cols = none) => bad_none h)
  have HCF := Lib.hid (fun (a b : Nat) => badCf_has (a := a) (b := b) h1)
  have hN32 := pow_le5 hn5
  have hM32 := pow_le5 hk5
  have HME := Lib.hid (fun (a : Nat) W (h1 : a < 32) (h2 : a < 2 ^ rows.length) => members_any a rows.length W hn5 h1 h2)
  have HME2 := Lib.hid (fun (a : Nat) W (h1 : a < 32) (h2 : a < 2 ^ cols.length) => members_any a cols.length W hk5 h1 h2)
  obtain ⟨N, hN⟩ : ∃ N, 2 ^ rows.length = N := ⟨_, rfl⟩
  obtain ⟨M, hM⟩ : ∃ M, 2 ^ cols.length = M := ⟨_, rfl⟩
  have hs1 : (2 : Int) ^ rows.length = (N : Int) := by rw [← hN]; simp
  have hs2 : (2 : Int) ^ cols.length = (M : Int) := by rw [← hM]; simp
  rw [hN, hM] at HRES HCF
  rw [hN] at hN32 HME
  rw [hM] at hM32 HME2
  obtain ⟨RES, hRES⟩ : ∃ RES, badI mask rows cols = RES := ⟨_, rfl⟩
  rw [hRES] at HRES HBS HBN ⊢
  obtain ⟨PA, hPA⟩ : ∃ PA, badP mask rows cols = PA := ⟨_, rfl⟩
  obtain ⟨PB, hPB⟩ : ∃ PB, badQ mask rows cols = PB := ⟨_, rfl⟩
  rw [hPA, hPB] at HBS HBN ⊢
  have HXM := Lib.hid hm
  have HXR := Lib.hid hx
  have HXC := Lib.hid hy
  have HR0 := Lib.hid hr0
  clear hm hx hy h1 hz hN hM hRES hPA hPB hr0
  go_enter Try.func8, Try.ntmps8
  go_wp2_with (go_at_call 19; refine cn.mono ?_; rintro e w1 ⟨rfl, he⟩)
  have HE := Lib.hid he
  clear he cn
  go_loopw [9, 10] (fun i _ wr => ∃ a : Nat, a ≤ N ∧ i = .int .i64 a ∧ Hid (Ext w wr) ∧ Hid (badA (badCf mask rows cols) N M (N - a) = RES)) (fun i _ _ => N - (intOf i).toNat)
  case atStart => exact ⟨0, Nat.zero_le _, rfl, HE, Lib.hid (by rw [HRES.out]; rfl)⟩
  case round =>
    rename World => wa
    clear HE
    obtain ⟨a, ha, rfl, hE, hF⟩ := hrel
    by_cases hlt : a < N
    · obtain ⟨RB, hRB⟩ : ∃ RB, badB (badCf mask rows cols) M a M = RB := ⟨_, rfl⟩
      have HRB := Lib.hid hRB
      clear hRB
      go_wp2_with fail
      go_loopw [10] (fun i wr => ∃ b : Nat, b ≤ M ∧ i = .int .i64 b ∧ Hid (Ext w wr) ∧ Hid (badB (badCf mask rows cols) M a (M - b) = RB)) (fun i _ => M - (intOf i).toNat)
      case atStart => exact ⟨0, Nat.zero_le _, rfl, hE, HRB⟩
      case round =>
        rename World => wb
        clear hE
        obtain ⟨b, hb, rfl, hE, hG⟩ := hrel
        by_cases hltb : b < M
        · have c1 := HME.out a wb (by omega) hlt
          obtain ⟨_, _, r3⟩ := HCF.out a b hlt hltb
          have HR3 := Lib.hid r3
          have hbl1 := bitsL_len a rows.length
          have hbl2 := bitsL_len b cols.length
          clear r3
          go_wp2_with fail
          refine c1.mono ?_
          rintro e w2 ⟨v1, rfl, ho1, he1⟩
          have c2 := HME2.out b w2 (by omega) hltb
          obtain ⟨L1, q1, rfl, _, hi1⟩ := ho1.slice
          have HI1 := Lib.hid hi1
          have HE2 := Lib.hid (hE.out.trans he1)
          clear c1 ho1 he1 hi1
          go_wp2_with fail
          refine c2.mono ?_
          rintro e w3 ⟨v2, rfl, ho2, he2⟩
          obtain ⟨L2, q2, rfl, _, hi2⟩ := ho2.slice
          have HE3 := Lib.hid (HE2.out.trans he2)
          have c3 := implHasConflict_any A0 A B L1 L2 c0 ca cb q1 q2 mask rows cols (bitsL a rows.length) (bitsL b cols.length) w3 hl0 HR0.out hl hl2 (by omega) (by omega) (HXM.out.ext HE3.out) (HXR.out.ext HE3.out) (HXC.out.ext HE3.out) (HI1.out.ext he2) hi2
          rw [HR3.out] at c3
          clear c2 ho2 he2 hi2
          cases hc : badCf mask rows cols a b
          · rw [hc] at c3
            have HN : Hid (badB (badCf mask rows cols) M a (M - (b + 1)) = RB) := Lib.hid (by rw [← badB_skip hltb hc]; exact hG.out)
            clear hc hbl1 hbl2
            go_wp2_with (go_at_call 20; refine c3.mono ?_; rintro e w' ⟨rfl, rfl⟩)
            go_roundw
            case rel => exact ⟨b + 1, by omega, by go_num, HE3, HN⟩
            case measure => simp [intOf]; omega
          · rw [hc] at c3
            have HR : Hid (RES = some (a, b)) := Lib.hid (by
              rw [← hF.out]
              exact badA_hit hlt (HRB.out.trans (by rw [← hG.out, badB_hit hltb hc])))
            have c4 := HME.out a w3 (by omega) hlt
            clear hc hbl1 hbl2
            go_wp2_with (go_at_call 20; refine c3.mono ?_; rintro e w' ⟨rfl, rfl⟩)
            refine c4.mono ?_
            rintro e w4 ⟨u1, rfl, ho4, he4⟩
            have c5 := HME2.out b w4 (by omega) hltb
            have HO4 := Lib.hid ho4
            have HE4 := Lib.hid (HE3.out.trans he4)
            clear c4 ho4 he4
            go_wp2_with fail
            refine c5.mono ?_
            rintro e w5 ⟨u2, rfl, ho5, he5⟩
            have HO5 := Lib.hid ho5
            have HE5 := Lib.hid he5
            clear c5 ho5 he5
            go_wp2_with fail
            go_ret3
            exact ⟨_, _, w4.heap.size, by rw [HR.out]; rfl, HE4.out.size, HE5.out.size, ⟨by rw [(HBS.out _ _ HR.out).1]; exact (HO4.out.base HE3.out.size).ext HE5.out, fun b hb => (HO4.out.lt hb).2⟩, ⟨by rw [(HBS.out _ _ HR.out).2]; exact HO5.out, fun b hb => (HO5.out.lt hb).2⟩, HE4.out.trans HE5.out⟩
        · obtain rfl : b = M := by omega
          have HN : Hid (badA (badCf mask rows cols) N b (N - (a + 1)) = RES) := Lib.hid (by
            rw [← hF.out]
            refine (badA_skip hlt ?_).symm
            rw [HRB.out, ← hG.out, Nat.sub_self, badB])
          go_wp2_with fail
          go_roundw
          case rel => exact ⟨a + 1, by omega, by go_num, hE, HN⟩
          case measure => simp [intOf]; omega
    · obtain rfl : a = N := by omega
      have HR : Hid (RES = none) := Lib.hid (by rw [← hF.out, Nat.sub_self, badA])
      go_wp2_with fail
      go_ret3
      exact ⟨_, _, w.heap.size, by rw [HR.out]; rfl, Nat.le_refl _, hE.out.size, by rw [(HBN.out HR.out).1]; exact ⟨Own.nil _ _, fun b hb => by cases hb⟩, by rw [(HBN.out HR.out).2]; exact ⟨Own.nil _ _, fun b hb => by cases hb⟩, hE.out⟩
end Go.Proofs.Ytmcnpdpplmbofaa
