/- The law FnConflicts: its walk. -/
import Derived.Test.YtcojhogndimboaaConf1
import Derived.Test.YtcojhogndimboaaMask1
import Derived.Test.YtcojhogndimboaaBytes
namespace Go.Proofs.Ytcojhogndimboaa
open Go.RowKit Tomo

set_option maxRecDepth 100000 in
set_option maxHeartbeats 16000000 in
theorem law_Conflicts (w : World) (A0 : Option Addr) (c0 : Nat) (xs0 : List Int) (h630 : xs0.length ≤ 9223372036854775807) (hx0 : Bytes w A0 xs0) :
    Calls Try.prog 3 #[.slice A0 xs0.length c0] w fun e w' => e = .returned (.bool true) ∧ Ext w w' := by
  by_cases hlen : xs0.length ≤ 1048576
  case neg =>
    go_enter Try.func3, Try.ntmps3
    go_wp2_with fail
    go_ret
    exact ⟨rfl, Ext.refl _⟩
  have cm := MakeMask_any A0 c0 xs0 w hx0 hlen
  clear hx0
  go_enter Try.func3, Try.ntmps3
  go_wp2_with fail
  refine cm.mono ?_
  rintro e w1 ⟨bm, cmk, mask, Ar, cr, rows, Ac, cc, cols, rfl, hg, hr, hc, hok, he⟩
  have HE1 := Lib.hid he
  have hM := MaskS.of hok
  obtain ⟨p1, p2, p3, p4, _⟩ := sumsOk_parts hM.sums
  have hml : mask.length ≤ 1048576 := by have := hM.shape.1; omega
  have hmr : ∀ r ∈ mask, r.length ≤ 1048576 := fun r hr => by rw [hM.shape.2 r hr]; omega
  have cn := implMaskedCount_any (some ⟨bm, 0, none⟩) Ar Ac cmk cr cc mask rows cols w1 hml hmr hg (by omega) (by omega) hr hc
  have HMO := Lib.hid (fun W (e : Ext w1 W) => by
    have h := implMaskOk_any (some ⟨bm, 0, none⟩) Ar Ac cmk cr cc mask rows cols W hml hmr (hg.ext e) (by omega) (by omega) (hr.ext e) (hc.ext e)
    rw [hok] at h
    exact h)
  have HHC := Lib.hid (fun W (e : Ext w1 W) (L O : Option Addr) (cl co : Nat) (a b : Nat) (hl : Ints W L (bitsL a rows.length)) (ho : Ints W O (bitsL b cols.length)) => implHasConflict_any (some ⟨bm, 0, none⟩) Ar Ac L O cmk cr cc cl co mask rows cols (bitsL a rows.length) (bitsL b cols.length) W hml hmr (by omega) (by omega) (by have := bitsL_len a rows.length; omega) (by have := bitsL_len b cols.length; omega) (hg.ext e) (hr.ext e) (hc.ext e) hl ho)
  have hcnt : 0 ≤ maskedCount mask rows cols := by unfold maskedCount; rw [if_pos hok]; omega
  have HS := Lib.hid (fun (h : maskedCount mask rows cols = 0) => conflict_some hok h)
  have HNO := Lib.hid (fun (h : maskedCount mask rows cols ≠ 0) (a b : Nat) => conflict_none hok h (a := a) (b := b))
  obtain ⟨cnt, hcn⟩ : ∃ cnt, maskedCount mask rows cols = cnt := ⟨_, rfl⟩
  rw [hcn] at cn hcnt HS HNO
  obtain ⟨R, hR⟩ : ∃ R, rows.length = R := ⟨_, rfl⟩
  obtain ⟨C, hC⟩ : ∃ C, cols.length = C := ⟨_, rfl⟩
  obtain ⟨M, hM'⟩ : ∃ M, mask.length = M := ⟨_, rfl⟩
  obtain ⟨HC, hHC⟩ : ∃ HC : Nat → Nat → Bool, HC = fun a b => hasConflict mask rows cols (bitsL a R) (bitsL b C) := ⟨_, rfl⟩
  have HHC' : Hid (∀ W, Ext w1 W → ∀ (L O : Option Addr) (cl co : Nat) (a b : Nat), Ints W L (bitsL a R) → Ints W O (bitsL b C) → Calls Try.prog 7 #[.slice (some ⟨bm, 0, none⟩) M cmk, .slice Ar R cr, .slice Ac C cc, .slice L (bitsL a R).length cl, .slice O (bitsL b C).length co] W fun e w' => e = .returned (.bool (HC a b)) ∧ W = w') := Lib.hid fun W e L O cl co a b hl ho => by
    have h := HHC.out W e L O cl co a b (by rw [hR]; exact hl) (by rw [hC]; exact ho)
    rw [hR, hC, hM'] at h
    rw [hHC]
    exact h
  have HS' : Hid (cnt = 0 → ∃ a b, a < 2 ^ R ∧ b < 2 ^ C ∧ HC a b = true) := Lib.hid fun h => by
    obtain ⟨a, b, h1, h2, h3⟩ := HS.out h
    rw [hR] at h1 h3
    rw [hC] at h2 h3
    exact ⟨a, b, h1, h2, by rw [hHC]; exact h3⟩
  have HNO' : Hid (cnt ≠ 0 → ∀ a b, HC a b = false) := Lib.hid fun h a b => by
    have h3 := HNO.out h a b
    rw [hR, hC] at h3
    rw [hHC]; exact h3
  rw [hR] at p1 p2 cn HMO ⊢
  rw [hC] at p3 p4 cn HMO ⊢
  rw [hM'] at cn HMO ⊢
  have hT : ∃ T, 2 ^ R = T := ⟨_, rfl⟩
  obtain ⟨T, hT⟩ := hT
  obtain ⟨U, hU⟩ : ∃ U, 2 ^ C = U := ⟨_, rfl⟩
  have hTb : T ≤ 32 := by rw [← hT]; exact (Nat.pow_le_pow_right (by omega) p2 : 2 ^ R ≤ 2 ^ 5)
  have hUb : U ≤ 32 := by rw [← hU]; exact (Nat.pow_le_pow_right (by omega) p4 : 2 ^ C ≤ 2 ^ 5)
  have hTI : (2 : Int) ^ R = (T : Int) := by rw [← hT]; exact (Int.natCast_pow 2 R).symm
  have hUI : (2 : Int) ^ C = (U : Int) := by rw [← hU]; exact (Int.natCast_pow 2 C).symm
  rw [hT, hU] at HS'
  have hc1 : decide (cnt < 0) = false := by simp; omega
  clear cm hg hr hc hok he hM hml hmr hcn hR hC hM' hHC hT hU HHC HS HNO
  go_wp2_with fail
  refine cn.mono ?_
  rintro e w2 ⟨rfl, he2⟩
  have HE2 := Lib.hid he2
  have co := HMO.out w2 he2
  clear cn he2
  go_wp2_with fail
  refine co.mono ?_
  rintro e w3 ⟨rfl, rfl⟩
  clear co HMO
  go_wp2_with fail
  go_loopw [8, 7, 9] (fun i s _ wr => ∃ (a : Nat) (sb : Bool), a ≤ T ∧ i = .int .i64 a ∧ s = .bool sb ∧ Hid (sb = true → ∃ a' b', HC a' b' = true) ∧ Hid (sb = false → ∀ a' b', a' < a → b' < U → HC a' b' = false) ∧ Hid (Ext w1 wr)) (fun i _ _ _ => T - (intOf i).toNat)
  case atStart => exact ⟨0, false, Nat.zero_le _, rfl, rfl, Lib.hid (fun h => by cases h), Lib.hid (fun _ a' b' h => by omega), HE2⟩
  case round =>
    rename World => wa
    obtain ⟨a, sb, ha, rfl, rfl, hS1, hS2, hE⟩ := hrel
    by_cases hlta : a < T
    · have hlta2 : (a : Int) < (T : Int) := by omega
      go_wp2_with fail
      go_loopw [9, 7] (fun i s wr => ∃ (b : Nat) (sb : Bool), b ≤ U ∧ i = .int .i64 b ∧ s = .bool sb ∧ Hid (sb = true → ∃ a' b', HC a' b' = true) ∧ Hid (sb = false → (∀ a' b', a' < a → b' < U → HC a' b' = false) ∧ ∀ b', b' < b → HC a b' = false) ∧ Hid (Ext w1 wr)) (fun i _ _ => U - (intOf i).toNat)
      case atStart => exact ⟨0, sb, Nat.zero_le _, rfl, rfl, hS1, Lib.hid (fun h => ⟨hS2.out h, fun b' hb => by omega⟩), hE⟩
      case round =>
        rename World => wb
        clear hS1 hS2 hE
        obtain ⟨b, sb, hb, rfl, rfl, hS1, hS2, hE⟩ := hrel
        by_cases hltb : b < U
        · have hltb2 : (b : Int) < (U : Int) := by omega
          rcases Bool.eq_false_or_eq_true sb with hsb | hsb <;> subst hsb
          · have HS3 : Hid (∃ a' b', HC a' b' = true) := Lib.hid (hS1.out rfl)
            clear hS1 hS2
            go_wp2_with fail
            go_roundw
            case rel => exact ⟨b + 1, true, by omega, by go_num, rfl, Lib.hid (fun _ => HS3.out), Lib.hid (fun h => by cases h), hE⟩
            case measure => simp [intOf]; omega
          · have HS3 := Lib.hid (hS2.out rfl)
            have t1 := bits_any a R wb p2 (by omega)
            clear hS1 hS2
            go_wp2_with fail
            refine t1.mono ?_
            rintro e w4 ⟨v4, rfl, ho4, he4⟩
            obtain ⟨L, cl, rfl, _, hi4⟩ := ho4.slice
            have HI4 := Lib.hid hi4
            have HE4 := Lib.hid (hE.out.trans he4)
            have t2 := bits_any b C w4 p4 (by omega)
            clear t1 ho4 he4 hi4
            go_wp2_with fail
            refine t2.mono ?_
            rintro e w5 ⟨v5, rfl, ho5, he5⟩
            obtain ⟨O, co, rfl, _, hi5⟩ := ho5.slice
            have HE5 := Lib.hid (HE4.out.trans he5)
            have t3 := HHC'.out w5 HE5.out L O cl co a b (HI4.out.ext he5) hi5
            obtain ⟨hv, hhv⟩ : ∃ hv, HC a b = hv := ⟨_, rfl⟩
            rw [hhv] at t3
            have HHV := Lib.hid hhv
            clear t2 ho5 he5 hi5 hhv
            go_wp2_with fail
            refine t3.mono ?_
            rintro e w6 ⟨rfl, rfl⟩
            have HN1 : Hid (hv = true → ∃ a' b', HC a' b' = true) := Lib.hid fun h => ⟨a, b, HHV.out.trans h⟩
            have HN2 : Hid (hv = false → (∀ a' b', a' < a → b' < U → HC a' b' = false) ∧ ∀ b', b' < b + 1 → HC a b' = false) := Lib.hid fun h => ⟨HS3.out.1, fun b' hb' => by
              rcases Nat.lt_or_ge b' b with h1 | h1
              · exact HS3.out.2 b' h1
              · rw [show b' = b by omega]; exact HHV.out.trans h⟩
            clear t3 HS3
            go_wp2_with fail
            go_roundw
            case rel => exact ⟨b + 1, hv, by omega, by go_num, rfl, HN1, HN2, HE5⟩
            case measure => simp [intOf]; omega
        · obtain rfl : b = U := by omega
          have HN2 : Hid (sb = false → ∀ a' b', a' < a + 1 → b' < b → HC a' b' = false) := Lib.hid fun h a' b' h1 h2 => by
            rcases Nat.lt_or_ge a' a with h3 | h3
            · exact (hS2.out h).1 a' b' h3 h2
            · rw [show a' = a by omega]; exact (hS2.out h).2 b' h2
          clear hS2
          go_wp2_with fail
          go_roundw
          case rel => exact ⟨a + 1, sb, by omega, by go_num, rfl, hS1, HN2, hE⟩
          case measure => simp [intOf]; omega
    · obtain rfl : a = T := by omega
      by_cases h0 : cnt = 0
      · have hsb : sb = true := by
          rcases Bool.eq_false_or_eq_true sb with h | h
          · exact h
          · obtain ⟨a', b', h1, h2, h3⟩ := HS'.out h0
            rw [hS2.out h a' b' h1 h2] at h3; cases h3
        subst hsb
        have hb1 : (cnt == 0) = true := by simp [h0]
        clear h0 hS1 hS2
        go_wp2_with fail
        go_ret
        exact ⟨rfl, HE1.out.trans hE.out⟩
      · have hsb : sb = false := by
          rcases Bool.eq_false_or_eq_true sb with h | h
          · obtain ⟨a', b', h3⟩ := hS1.out h
            rw [HNO'.out h0 a' b'] at h3; cases h3
          · exact h
        subst hsb
        have hb1 : (cnt == 0) = false := by simp [h0]
        clear h0 hS1 hS2
        go_wp2_with fail
        go_ret
        exact ⟨rfl, HE1.out.trans hE.out⟩
end Go.Proofs.Ytcojhogndimboaa
