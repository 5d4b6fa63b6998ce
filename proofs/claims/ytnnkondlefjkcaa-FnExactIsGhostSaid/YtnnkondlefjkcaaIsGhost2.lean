/- IsGhost in the reference. -/
import Derived.Test.YtnnkondlefjkcaaLines5
import Derived.Test.YtnnkondlefjkcaaIsGhost1
namespace Go.Proofs.Ytnnkondlefjkcaa
open Go.RowKit Tomo

theorem zero_step {r : List Int} {b : Nat} {z : Int} (h : r[b]? = some z) : zeroL (r.take (b + 1)) = (zeroL (r.take b) && z == 0) := by
  unfold zeroL allIn
  rw [take_all_succ h]
  congr 1
  rw [Bool.eq_iff_iff, inR_iff, beq_iff_eq]
  omega
theorem zeroL_bad {r : List Int} {b : Nat} {z : Int} (h : r[b]? = some z) (hz : z ≠ 0) : zeroL r = false := by
  unfold zeroL allIn
  refine List.all_eq_false.2 ⟨z, List.mem_of_getElem? h, ?_⟩
  rw [inR_iff]; omega

set_option maxRecDepth 100000 in
set_option maxHeartbeats 4000000 in
theorem specIsGhost_any (A B : Option Addr) (ca cb : Nat) (g : Grid) (ds : List (Int × Int)) (w : World) (hl : g.length ≤ 1048576) (hr : ∀ r ∈ g, r.length ≤ 1048576) (hx : GridAt w A g) (hdl : ds.length ≤ 1048576) (hcap : ds.length ≤ cb) (hd : LDirs w B ds) :
    Calls Try.prog 42 #[.slice A g.length ca, .slice B ds.length cb] w fun e w' => e = .returned (.bool (ghostB g ds)) ∧ Ext w w' := by
  have ci := specDirectionsOk_any B cb ds w hdl hcap hd
  have cg := fun W (e : Ext w W) => l11Grid_any A ca g W hl hr (hx.ext e)
  cases h0 : dirsOk ds
  · rw [h0] at ci
    have HR : Hid (ghostB g ds = false) := Lib.hid (by unfold ghostB; rw [h0]; rfl)
    clear hx hr hd cg
    go_enter Try.func42, Try.ntmps42
    go_wp2_with fail
    refine ci.mono ?_
    rintro e w1 ⟨rfl, he⟩
    have HE := Lib.hid he
    clear he ci
    go_wp2_with fail
    go_ret
    exact ⟨ret_bool HR.out.symm, HE.out⟩
  rw [h0] at ci
  have HD0 := Lib.hid h0
  obtain ⟨hd1, hd4⟩ := dirsOk_len4 h0
  have HGS : Hid (∀ (x y : Int) W, Ext w W → Calls Try.prog 26 #[.slice A g.length ca, .agg #[.int .i64 x, .int .i64 y]] W fun e w' => ∃ v, e = .returned v ∧ Own w' W.heap.size v (gsI g x y) ∧ Ext W w') := Lib.hid fun x y W e => specGridSums_any A ca g x y W hl hr (hx.ext e)
  have HX := Lib.hid hx
  have HD := Lib.hid hd
  have HRL := Lib.hid hr
  cases h1 : gridOk g (-100) 100
  · simp only [h1] at cg
    have HR : Hid (ghostB g ds = false) := Lib.hid (by unfold ghostB; rw [h0, h1]; rfl)
    have HCG := Lib.hid cg
    clear hx hr hd h0 h1 HX HRL HGS cg
    go_enter Try.func42, Try.ntmps42
    go_wp2_with fail
    refine ci.mono ?_
    rintro e w1 ⟨rfl, he⟩
    have HE := Lib.hid he
    have cg1 := HCG.out w1 he
    clear he ci
    go_wp2_with (go_at_call 68; refine cg1.mono ?_; rintro e w' ⟨rfl, rfl⟩)
    go_ret
    exact ⟨ret_bool HR.out.symm, HE.out⟩
  have HG1 := Lib.hid h1
  simp only [h1] at cg
  have HCG := Lib.hid cg
  have HSP : Hid (∀ (k : Nat) (x y : Int), ds[k]? = some (x, y) → 0 < (gsI g x y).length ∧ (gsI g x y).length ≤ 100) := Lib.hid fun k x y hk => gsI_pos h1 (dirsOk_dir h0 hk)
  obtain ⟨gn, hgn⟩ : ∃ gn, g.length = gn := ⟨_, rfl⟩
  have HGN := Lib.hid hgn
  rw [hgn] at HGS HCG hl ⊢
  clear hx hr hd h0 h1 hgn cg
  go_enter Try.func42, Try.ntmps42
  go_wp2_with fail
  refine ci.mono ?_
  rintro e w1 ⟨rfl, he⟩
  have HE := Lib.hid he
  have cg1 := HCG.out w1 he
  clear he ci
  go_wp2_with (go_at_call 68; refine cg1.mono ?_; rintro e w' ⟨rfl, rfl⟩)
  go_loopw [24, 5, 7, 9] (fun i s _ _ wr => ∃ a : Nat, a ≤ gn ∧ i = .int .i64 a ∧ s = .bool ((g.take a).any fun r => !zeroL r) ∧ Hid (wr = w1)) (fun i _ _ _ _ => gn - (intOf i).toNat)
  case atStart => exact ⟨0, Nat.zero_le _, rfl, rfl, Lib.hid rfl⟩
  case round =>
    rename World => wa
    obtain ⟨a, ha, rfl, rfl, hw⟩ := hrel
    obtain rfl := hw.out
    clear hw
    by_cases hlt : a < gn
    · obtain ⟨b5, o5, R5, c5, r, hA5, _, hr5, hc5, hi5⟩ := (HX.out.ext HE.out).at_ (k := a) (by rw [HGN.out]; exact hlt)
      subst hA5
      have hrl := HRL.out r (List.mem_of_getElem? hr5.out)
      have HI := Lib.hid hi5
      have HST := take_any_succ hr5.out (fun r => !zeroL r)
      obtain ⟨S, hS⟩ : ∃ S, ((g.take a).any fun r => !zeroL r) = S := ⟨_, rfl⟩
      rw [hS] at HST ⊢
      have HT := Lib.hid HST
      clear hi5 HST hS
      go_wp2_with fail
      go_loopw [30, 5, 9] (fun i s _ wr => ∃ b : Nat, b ≤ r.length ∧ i = .int .i64 b ∧ s = .bool (S || !zeroL (r.take b)) ∧ Hid (wr = wa)) (fun i _ _ _ => r.length - (intOf i).toNat)
      case atStart => exact ⟨0, Nat.zero_le _, rfl, by rw [List.take_zero]; cases S <;> rfl, Lib.hid rfl⟩
      case round =>
        rename World => wb
        obtain ⟨b, hb, rfl, rfl, hw⟩ := hrel
        obtain rfl := hw.out
        clear hw
        by_cases hltb : b < r.length
        · obtain ⟨b6, o6, z, hA6, _, hz, hc6⟩ := HI.out.at_ hltb
          subst hA6
          obtain ⟨T, hT⟩ : ∃ T, (S || !zeroL (r.take b)) = T := ⟨_, rfl⟩
          rw [hT]
          have HT2 := Lib.hid hT
          clear hT
          cases T
          · by_cases hz0 : z = 0
            · have HN : Hid ((S || !zeroL (r.take (b + 1))) = false) := Lib.hid (by
                have h := HT2.out
                rw [zero_step hz.out, hz0]
                cases hS : S <;> cases hh : zeroL (r.take b) <;> simp_all)
              subst hz0
              go_wp2_with fail
              go_roundw
              case rel => exact ⟨b + 1, by omega, by go_num, by first | (rw [HN.out]; done) | (rw [HN.out]; simp [bne, b1]), Lib.hid (by trivial)⟩
              case measure => simp [intOf]; omega
            · have b1 : (z == 0) = false := by simp; omega
              have HN : Hid ((S || !zeroL (r.take (b + 1))) = true) := Lib.hid (by rw [zero_step hz.out, b1]; simp)
              clear hz0
              go_wp2_with fail
              go_roundw
              case rel => exact ⟨b + 1, by omega, by go_num, by first | (rw [HN.out]; done) | (rw [HN.out]; simp [bne, b1]), Lib.hid (by trivial)⟩
              case measure => simp [intOf]; omega
          · have HN : Hid ((S || !zeroL (r.take (b + 1))) = true) := Lib.hid (by
              have h := HT2.out
              rw [zero_step hz.out]
              cases hS : S <;> cases hh : zeroL (r.take b) <;> simp_all)
            go_wp2_with fail
            go_roundw
            case rel => exact ⟨b + 1, by omega, by go_num, by first | (rw [HN.out]; done) | (rw [HN.out]; simp [bne, b1]), Lib.hid (by trivial)⟩
            case measure => simp [intOf]; omega
        · obtain rfl : b = r.length := by omega
          have HN : Hid (((g.take (a + 1)).any fun r => !zeroL r) = (S || !zeroL (r.take r.length))) := Lib.hid (by rw [HT.out, take_full])
          go_wp2_with fail
          go_roundw
          case rel => exact ⟨a + 1, by omega, by go_num, by first | (rw [HN.out]; done) | (rw [HN.out]; simp [bne, b1]), Lib.hid (by trivial)⟩
          case measure => simp [intOf]; omega
    · obtain rfl : a = gn := by omega
      obtain ⟨S, hS⟩ : ∃ S, ((g.take a).any fun r => !zeroL r) = S := ⟨_, rfl⟩
      rw [hS]
      have HS : Hid ((g.any fun r => !zeroL r) = S) := Lib.hid (by rw [← HGN.out, take_full] at hS; exact hS)
      clear hS
      go_wp2_with fail
      go_loopw [43, 11, 13] (fun i _ _ wr => ∃ c : Nat, c ≤ ds.length ∧ i = .int .i64 c ∧ Hid (((ds.take c).all fun d => zeroL (gsI g d.1 d.2)) = true) ∧ Hid (Ext w wr)) (fun i _ _ _ => ds.length - (intOf i).toNat)
      case atStart => exact ⟨0, Nat.zero_le _, rfl, Lib.hid rfl, HE⟩
      case round =>
        rename World => wb
        obtain ⟨c, hc, rfl, hA, hE⟩ := hrel
        by_cases hltc : c < ds.length
        · obtain ⟨b, o, x, y, rfl, hb, HXY, hd1', hd2'⟩ := (HD.out.ext hE.out).at_ hltc
          have cs := HGS.out x y _ (hE.out.alloc (.cells #[.int .i64 x, .int .i64 y] 32))
          have hsp := HSP.out c x y HXY.out
          go_wp2_with fail
          refine cs.mono ?_
          rintro e w2 ⟨v, rfl, ho, he⟩
          have HE2 := Lib.hid ((hE.out.alloc _).trans he)
          obtain ⟨bs, cs', rfl, _⟩ := ho.form hsp.1
          have HI := Lib.hid ho.ints.2
          obtain ⟨rs, hrs⟩ : ∃ rs, gsI g x y = rs := ⟨_, rfl⟩
          have HRS := Lib.hid hrs
          rw [hrs] at HI hsp ⊢
          obtain ⟨hs0, hs1⟩ := hsp
          clear he cs ho hrs hd1' hd2'
          go_wp2_with fail
          go_loopw [51, 13] (fun i _ wr => ∃ b : Nat, b ≤ rs.length ∧ i = .int .i64 b ∧ Hid (zeroL (rs.take b) = true) ∧ Hid (wr = w2)) (fun i _ _ => rs.length - (intOf i).toNat)
          case atStart => exact ⟨0, Nat.zero_le _, rfl, Lib.hid rfl, Lib.hid rfl⟩
          case round =>
            rename World => wc
            obtain ⟨e, hel, rfl, hZ, hw⟩ := hrel
            obtain rfl := hw.out
            clear hw
            by_cases hlte : e < rs.length
            · obtain ⟨b6, o6, z, hA6, _, hz, hc6⟩ := HI.out.at_ hlte
              cases hA6
              rw [Nat.zero_add] at hc6
              by_cases hz0 : z = 0
              · have HN : Hid (zeroL (rs.take (e + 1)) = true) := Lib.hid (by rw [zero_step hz.out, hZ.out, hz0]; rfl)
                subst hz0
                go_wp2_with fail
                go_roundw
                case rel => exact ⟨e + 1, by omega, by go_num, HN, Lib.hid (by trivial)⟩
                case measure => simp [intOf]; omega
              · have b1 : (z == 0) = false := by simp; omega
                have HB := Lib.hid (ghostB_bad (g := g) HXY.out (by rw [HRS.out]; exact zeroL_bad hz.out hz0))
                clear hz0
                go_wp2_with fail
                go_ret
                exact ⟨ret_bool HB.out.symm, HE2.out⟩
            · obtain rfl : e = rs.length := by omega
              have HN : Hid (((ds.take (c + 1)).all fun d => zeroL (gsI g d.1 d.2)) = true) := Lib.hid (by
                have := hZ.out
                rw [take_full] at this
                rw [take_all_succ HXY.out, hA.out, HRS.out, this]; rfl)
              go_wp2_with fail
              go_roundw
              case rel => exact ⟨c + 1, by omega, by go_num, HN, HE2⟩
              case measure => simp [intOf]; omega
        · obtain rfl : c = ds.length := by omega
          have HB : Hid (ghostB g ds = S) := Lib.hid (by
            have := hA.out
            rw [take_full] at this
            unfold ghostB
            rw [HD0.out, HG1.out, this, HS.out]; simp)
          go_wp2_with fail
          go_ret
          exact ⟨ret_bool HB.out.symm, hE.out⟩
end Go.Proofs.Ytnnkondlefjkcaa
