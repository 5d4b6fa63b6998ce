/- The law FnDetermined: its walk. -/
import Derived.Test.YtmffhmokbifadaaMake5
import Derived.Test.YtmffhmokbifadaaMake6
import Derived.Test.YtmffhmokbifadaaAlike
import Derived.Test.YtmffhmokbifadaaDet2
import Derived.Test.YtmffhmokbifadaaDirs6
import Derived.Test.YtmffhmokbifadaaBytes
import Derived.Deep.RegionHeld3
import Derived.Deep.QuietTactic
import Derived.Deep.DeepCutAuto
namespace Go.Proofs.Ytmffhmokbifadaa
open Go.RowKit Tomo

theorem and_one (x : Int) : Go.bits .and .i64 x 1 = 0 ∨ Go.bits .and .i64 x 1 = 1 := by
  unfold Go.bits
  dsimp only
  have h1 : (BitVec.ofInt IntKind.i64.bits x &&& BitVec.ofInt IntKind.i64.bits 1).toNat ≤ 1 := by
    rw [BitVec.toNat_and]
    refine Nat.le_trans Nat.and_le_right ?_
    decide
  obtain ⟨y, hy⟩ : ∃ y, (BitVec.ofInt IntKind.i64.bits x &&& BitVec.ofInt IntKind.i64.bits 1).toNat = y := ⟨_, rfl⟩
  rw [hy] at h1 ⊢
  rcases (show y = 0 ∨ y = 1 by omega) with rfl | rfl
  · left; decide
  · right; decide
set_option maxRecDepth 100000 in
set_option maxHeartbeats 16000000 in
theorem law_Determined (w : World) (A0 : Option Addr) (c0 : Nat) (xs0 : List Int) (h630 : xs0.length ≤ 9223372036854775807) (hx0 : Bytes w A0 xs0) :
    Calls Try.prog 4 #[.slice A0 xs0.length c0] w fun e w' => e = .returned (.bool true) ∧ Ext w w' := by
  by_cases hlen : xs0.length ≤ 1048576
  case neg =>
    go_enter Try.func4, Try.ntmps4
    go_wp2_with fail
    go_ret
    exact ⟨rfl, Ext.refl _⟩
  have cd := MakeDirections_any 20 A0 c0 xs0 w (by omega) hx0 hlen
  have HX0 := Lib.hid hx0
  clear hx0
  go_enter Try.func4, Try.ntmps4
  go_wp2_with fail
  refine cd.mono ?_
  rintro e w1 ⟨v, ds, rfl, hod, hdl, hdv, hds, he⟩
  obtain ⟨D, dc, rfl, hdc, hld⟩ := hod.slice
  have HE1 := Lib.hid he
  have HLD := Lib.hid hld
  have HDS := Lib.hid hds
  have HDV := Lib.hid hdv
  have cn := MakeNum_any 30 A0 c0 xs0 w1 (by omega) (HX0.out.ext he) hlen
  clear cd hod hdv hds he hld
  go_wp2_with fail
  refine cn.mono ?_
  rintro e w2 ⟨z1, rfl, hz1, he2⟩
  obtain ⟨r1, hr1⟩ : ∃ r1, z1 % 3 = r1 := ⟨_, rfl⟩
  have hm1 : Int.tmod (z1 : Int) 3 = (r1 : Int) := by rw [Int.tmod_eq_emod_of_nonneg (by omega)]; omega
  obtain ⟨n, hn⟩ : ∃ n : Nat, 1 + (r1 : Int) = n := ⟨1 + r1, by omega⟩
  have hr1b : r1 ≤ 2 := by omega
  have HE2 := Lib.hid he2
  have cn2 := MakeNum_any 32 A0 c0 xs0 w2 (by omega) (HX0.out.ext (HE1.out.trans he2)) hlen
  clear cn he2 hr1
  go_wp2_with fail
  refine cn2.mono ?_
  rintro e w3 ⟨z2, rfl, hz2, he3⟩
  obtain ⟨r2, hr2⟩ : ∃ r2, z2 % 3 = r2 := ⟨_, rfl⟩
  have hm2 : Int.tmod (z2 : Int) 3 = (r2 : Int) := by rw [Int.tmod_eq_emod_of_nonneg (by omega)]; omega
  obtain ⟨k, hk⟩ : ∃ k : Nat, 1 + (r2 : Int) = k := ⟨1 + r2, by omega⟩
  have hr2b : r2 ≤ 2 := by omega
  have HE3 := Lib.hid (HE2.out.trans he3)
  have hn1 : 1 ≤ n := by omega
  have hn3 : n ≤ 3 := by omega
  have hk1 : 1 ≤ k := by omega
  have hk3 : k ≤ 3 := by omega
  have cm := MakeSized_any 40 n k A0 c0 xs0 w3 (by omega) ⟨hn1, by omega⟩ ⟨hk1, by omega⟩ (HX0.out.ext (HE1.out.trans HE3.out)) hlen
  clear cn2 he3 hr2
  go_wp2_with fail
  refine cm.mono ?_
  rintro e w4 ⟨bm, cm', m, rfl, hom, hgm, hml, hmk, he4⟩
  have HE4 := Lib.hid (HE3.out.trans he4)
  have HM := Lib.hid hom.gridAt
  have HGM := Lib.hid hgm
  have HML := Lib.hid hml
  have HMK := Lib.hid hmk
  have cs := implGhostSize_any D dc ds w4 (by omega) hdc (HLD.out.ext HE4.out)
  have hsz : ghSize ds = (ghR ds ds.length, ghC ds ds.length) := by unfold ghSize; rw [if_pos HDS.out]
  have HIB : Hid (isDet (n : Int) (k : Int) ds = (decide ((n : Int) < ghR ds ds.length) || decide ((k : Int) < ghC ds ds.length))) := Lib.hid (by
    unfold isDet
    rw [hsz, HDS.out, show inR (n : Int) 1 5 = true from inR_iff.2 (by omega), show inR (k : Int) 1 5 = true from inR_iff.2 (by omega)]
    rfl)
  have HGO := Lib.hid (fun (x : Grid) (hx : gridOk x 0 1 = true) (h1 : x.length = n) (h2 : (x.headD []).length = k) (hc : isDet (n : Int) (k : Int) ds = true) (hs : ∀ d ∈ ds, gsI x d.1 d.2 = gsI m d.1 d.2) => det_same HDS.out (by omega) hx hgm (h1.trans hml.symm) (h2.trans hmk.symm) (by omega) (by omega) (by rw [hml, hmk]; rw [HIB.out, Bool.or_eq_true, decide_eq_true_eq, decide_eq_true_eq] at hc; exact hc) hs)
  rw [hsz] at cs
  dsimp only at cs
  obtain ⟨a, ha⟩ : ∃ a, ghR ds ds.length = a := ⟨_, rfl⟩
  obtain ⟨b, hb⟩ : ∃ b, ghC ds ds.length = b := ⟨_, rfl⟩
  rw [ha, hb] at cs HIB
  obtain ⟨dv, hdv⟩ : ∃ dv, isDet (n : Int) (k : Int) ds = dv := ⟨_, rfl⟩
  have hdv2 : (decide ((n : Int) < a) || decide ((k : Int) < b)) = dv := HIB.out.symm.trans hdv
  have HDET := Lib.hid hdv
  rw [hml]
  clear cm hom hgm hml hmk he4 hsz ha hb hdv
  go_wp2_with fail
  refine cs.mono ?_
  rintro e w5 ⟨rfl, he5⟩
  have HE5 := Lib.hid (HE4.out.trans he5)
  have HE45 := Lib.hid he5
  have cdt := implIsDetermined_any n k D dc ds w5 (by omega) hdc (HLD.out.ext HE5.out)
  rw [HDET.out] at cdt
  clear cs he5
  go_wp2_with fail
  refine cdt.mono ?_
  rintro e w6 ⟨rfl, he6⟩
  have HE6 := Lib.hid (HE5.out.trans he6)
  have HE46 := Lib.hid (HE45.out.trans he6)
  have co := implDirectionsOk_any D dc ds w6 (by omega) hdc (HLD.out.ext HE6.out)
  rw [HDS.out] at co
  clear cdt he6
  go_upto_region 9 with fail
  go_cut [58] (fun s wx => s = .bool false ∧ Hid (Ext w6 wx))
  case first =>
    by_cases hp : (n : Int) < a
    · have hdt : dv = true := by rw [← hdv2, decide_eq_true hp]; rfl
      subst hdt
      clear hdv2
      go_wp2_with fail
      refine co.mono ?_
      rintro e w7 ⟨rfl, he7⟩
      have HE := Lib.hid he7
      clear co he7
      go_wp2_with fail
      all_goals
        go_meet
        exact ⟨by first | rfl | (simp; done) | (simp; omega), HE⟩
    · have hdt : dv = decide ((k : Int) < b) := by rw [← hdv2, decide_eq_false hp]; rfl
      subst hdt
      clear hdv2
      go_wp2_with fail
      refine co.mono ?_
      rintro e w7 ⟨rfl, he7⟩
      have HE := Lib.hid he7
      clear co he7
      go_wp2_with fail
      all_goals
        go_meet
        exact ⟨by first | rfl | (simp; done) | (simp; omega), HE⟩
  case rest =>
  rename World => w7
  obtain ⟨rfl, he67⟩ := hcut
  have HE7 := Lib.hid (HE6.out.trans he67.out)
  have HE47 := Lib.hid (HE46.out.trans he67.out)
  clear co hdv2 he67
  obtain ⟨S, hS⟩ : ∃ S, n * k = S := ⟨_, rfl⟩
  have hS1 : 1 ≤ S := by rw [← hS]; exact Nat.mul_pos hn1 hk1
  have hS9 : S ≤ 9 := by rw [← hS]; exact Nat.mul_le_mul hn3 hk3
  have hSI : (n : Int) * (k : Int) = (S : Int) := by rw [← hS, Int.natCast_mul]
  obtain ⟨T, hT⟩ : ∃ T, 2 ^ S = T := ⟨_, rfl⟩
  have hTb : T ≤ 512 := by rw [← hT]; exact Nat.pow_le_pow_right (by omega) hS9
  have hTI : (2 : Int) ^ S = (T : Int) := by rw [← hT]; exact (Int.natCast_pow 2 S).symm
  clear hS hT
  go_wp2_with fail
  go_loopw [10, 11, 12, 13, 14, 15, 17] (fun i _ _ _ _ _ _ wr => ∃ kk : Nat, kk ≤ T ∧ i = .int .i64 kk ∧ Hid (Ext w7 wr)) (fun i _ _ _ _ _ _ _ => T - (intOf i).toNat)
  case atStart => exact ⟨0, Nat.zero_le _, rfl, Lib.hid (Ext.refl _)⟩
  case round =>
    rename World => wk
    obtain ⟨kk, hkk, rfl, hEK⟩ := hrel
    by_cases hlt : kk < T
    · go_wp2_with fail
      go_loopw [12, 11, 13, 14] (fun y g _ _ wr => ∃ (yy : Nat) (q : Grid), yy ≤ n ∧ y = .int .i64 yy ∧ Hid (OwnGrid wr wk.heap.size g q) ∧ Hid (Shape q yy k ∧ BitG q) ∧ Hid (Ext wk wr)) (fun y _ _ _ _ => n - (intOf y).toNat)
      case atStart => exact ⟨0, [], Nat.zero_le _, rfl, Lib.hid (OwnGrid.empty wk wk.heap.size (Nat.le_refl _)), Lib.hid ⟨⟨rfl, fun r hr => by cases hr⟩, fun r hr => by cases hr⟩, Lib.hid ((Ext.refl wk).alloc _)⟩
      case round =>
        rename World => wy
        obtain ⟨yy, q, hyy, rfl, hO, hS, hEY⟩ := hrel
        by_cases hlty : yy < n
        · obtain ⟨P, hP⟩ : ∃ P, yy * k = P := ⟨_, rfl⟩
          have hPI : (yy : Int) * (k : Int) = (P : Int) := by rw [← hP, Int.natCast_mul]
          have hPb : P ≤ 6 := by rw [← hP]; exact Nat.mul_le_mul (by omega : yy ≤ 2) hk3
          clear hP
          go_wp2_with fail
          go_loopw [14, 13] (fun i r wr => ∃ (ii : Nat) (v : Value) (xs : List Int), ii ≤ k ∧ i = .int .i64 ii ∧ r = v ∧ Hid (xs.length = ii) ∧ Hid (∀ z ∈ xs, z = 0 ∨ z = 1) ∧ Hid (Own wr wy.heap.size v xs) ∧ Hid (Ext wy wr)) (fun i _ _ => k - (intOf i).toNat)
          case atStart => exact ⟨0, _, [], Nat.zero_le _, rfl, rfl, Lib.hid rfl, Lib.hid (fun z hz => by cases hz), Lib.hid (Own.empty wy wy.heap.size (Nat.le_refl _)), Lib.hid ((Ext.refl wy).alloc _)⟩
          case round =>
            rename World => wi
            obtain ⟨ii, v, xs, hii, rfl, rfl, hL, hB, ho, hEI⟩ := hrel
            by_cases hlti : ii < k
            · obtain ⟨Q, hQ⟩ : ∃ Q, P + ii = Q := ⟨_, rfl⟩
              have hQI : (P : Int) + (ii : Int) = (Q : Int) := by omega
              have hQb : Q ≤ 9 := by omega
              clear hQ
              obtain ⟨z, hz⟩ : ∃ z, Go.bits .and .i64 ((kk : Int) / 2 ^ Q) 1 = z := ⟨_, rfl⟩
              have HZ := Lib.hid (and_one ((kk : Int) / 2 ^ Q))
              rw [hz] at HZ
              have HBZ : Hid (∀ y ∈ xs ++ [z], y = 0 ∨ y = 1) := Lib.hid fun y hy => by
                rcases List.mem_append.1 hy with h | h
                · exact hB.out y h
                · rw [List.mem_singleton.1 h]; exact HZ.out
              have HLZ : Hid ((xs ++ [z]).length = ii + 1) := Lib.hid (by rw [List.length_append, hL.out]; rfl)
              have hxl : xs.length ≤ 5 := by rw [hL.out]; omega
              have HSZ := Lib.hid hEI.out.size
              go_wp2_with (at_builtin; refine app_ints (ys := [z]) (ho.out.ext ((Ext.refl wi).alloc _)) (by have := HSZ.out; simp; omega) (by simp; omega) (by simp) (Ints.one rfl) rfl _ _ rfl rfl rfl ?_)
              intro g2 c2 w2 hown hb2 _ _
              have HOW := Lib.hid hown
              have HE2 : Hid (Ext wy w2) := Lib.hid (hb2 wy (hEI.out.alloc _))
              clear hown hb2 ho hEI
              go_wp2_with fail
              go_roundw
              case rel => exact ⟨ii + 1, _, _, by omega, by go_num, rfl, HLZ, HBZ, HOW, HE2⟩
              case measure => simp [intOf]; omega
            · obtain rfl : ii = k := by omega
              obtain ⟨gx, cx, hvx, _⟩ := ho.out.form (by rw [hL.out]; omega)
              subst hvx
              have HS2 : Hid (Shape (q ++ [xs]) (yy + 1) ii ∧ BitG (q ++ [xs])) := Lib.hid ⟨⟨by rw [List.length_append, hS.out.1.1]; rfl, fun r hr => by
                rcases List.mem_append.1 hr with h | h
                · exact hS.out.1.2 r h
                · rw [List.mem_singleton.1 h, hL.out]⟩, fun r hr => by
                rcases List.mem_append.1 hr with h | h
                · exact hS.out.2 r h
                · rw [List.mem_singleton.1 h]; exact hB.out⟩
              have hql : q.length ≤ 5 := by rw [hS.out.1.1]; omega
              have HSZ := Lib.hid hEY.out.size
              go_wp2_with (at_builtin; refine app_row hO.out (hEI.out.alloc _) HSZ.out (ho.out.ext ((Ext.refl wi).alloc _)) (by omega) (by simp) rfl _ _ rfl rfl rfl ?_)
              intro b2 cap2 w2 ho2 hb2
              have HN := Lib.hid ho2
              have HE2 : Hid (Ext wk w2) := Lib.hid (hb2 wk ((hEY.out.trans hEI.out).alloc _))
              clear ho2 hb2
              go_wp2_with fail
              go_roundw
              case rel => exact ⟨yy + 1, _, by omega, by go_num, HN, HS2, HE2⟩
              case measure => simp [intOf]; omega
        · obtain rfl : yy = n := by omega
          obtain ⟨gq, cq, hvq, _⟩ := hO.out.form (by rw [hS.out.1.1]; omega)
          rw [hS.out.1.1] at hvq
          subst hvq
          have hqg := bit_grid hS.out.1 hS.out.2 ⟨hn1, by omega⟩ ⟨hk1, by omega⟩
          have hql : q.length = yy := hS.out.1.1
          have hqk : (q.headD []).length = k := shape_headD hS.out.1 hn1
          have hqa := hO.out.gridAt
          have HQG := Lib.hid hqg
          have HQA := Lib.hid hqa
          have HQL := Lib.hid hql
          have HSAME := Lib.hid (fun (hdv : dv = true) (hs : ∀ d ∈ ds, gsI q d.1 d.2 = gsI m d.1 d.2) => HGO.out q hqg hql hqk (HDET.out.trans hdv) hs)
          have HEW := Lib.hid (HE7.out.trans (hEK.out.trans hEY.out))
          have HEM := Lib.hid (HE47.out.trans (hEK.out.trans hEY.out))
          have HLX := Lib.hid (fun dx dy (hd : dirOk dx dy = true) W (e : Ext wy W) => by
            have h := LineSums_any (some ⟨gq, 0, none⟩) cq q dx dy W hqg hd (hqa.ext e)
            rw [hql] at h
            exact h)
          have HLM := Lib.hid (fun dx dy (hd : dirOk dx dy = true) W (e : Ext wy W) => by
            have h := LineSums_any (some ⟨bm, 0, none⟩) cm' m dx dy W HGM.out hd (HM.out.ext (HEM.out.trans e))
            rw [HML.out] at h
            exact h)
          have HAL := Lib.hid (fun W (e : Ext wy W) (h : q = m) => by
            have hI := Img.of hqg
            have h2 := alike_yes (some ⟨gq, 0, none⟩) (some ⟨bm, 0, none⟩) cq cm' q W (by omega) (fun r hr => by have := hI.1.2 r hr; have := hI.2.2.1; omega) (hqa.ext e) (by rw [h]; exact HM.out.ext (HEM.out.trans e))
            rw [hql] at h2
            exact h2)
          clear hqg hqa hqk hql hO hS
          go_wp2_with fail
          go_loopw [96, 15, 17] (fun i ag _ wr => ∃ (j : Nat) (av : Bool), j ≤ ds.length ∧ i = .int .i64 j ∧ ag = .bool av ∧ Hid (av = true → ∀ d ∈ ds.take j, gsI q d.1 d.2 = gsI m d.1 d.2) ∧ Hid (Ext wy wr)) (fun i _ _ _ => ds.length - (intOf i).toNat)
          case atStart => exact ⟨0, true, Nat.zero_le _, rfl, rfl, Lib.hid (fun _ d hd => by simp at hd), Lib.hid (Ext.refl _)⟩
          case round =>
            rename World => wj
            obtain ⟨j, av, hj, rfl, rfl, hA, hEJ⟩ := hrel
            by_cases hltj : j < ds.length
            · obtain ⟨b4, o4, dx, dy, rfl, hb4, HXY, hd1, hd2⟩ := (HLD.out.ext (HEW.out.trans hEJ.out)).at_ hltj
              have hdk := HDV.out (dx, dy) (List.mem_of_getElem? HXY.out)
              have hll := (gsI_len HGM.out hdk).2
              have hll2 := (gsI_len HQG.out hdk).2
              have cx := fun W (e : Ext wy W) => HLX.out dx dy hdk W e
              have cm := fun W (e : Ext wy W) => HLM.out dx dy hdk W e
              have HNX : Hid (∀ bv : Bool, (bv = true → gsI q dx dy = gsI m dx dy) → (av && bv) = true → ∀ d ∈ ds.take (j + 1), gsI q d.1 d.2 = gsI m d.1 d.2) := Lib.hid fun bv hbv hab d hd => by
                rw [Bool.and_eq_true] at hab
                rw [List.take_add_one, HXY.out] at hd
                rcases List.mem_append.1 hd with h | h
                · exact hA.out hab.1 d h
                · rw [List.mem_singleton.1 h]; exact hbv hab.2
              obtain ⟨ls, hls⟩ : ∃ ls, gsI m dx dy = ls := ⟨_, rfl⟩
              obtain ⟨lq, hlq⟩ : ∃ lq, gsI q dx dy = lq := ⟨_, rfl⟩
              rw [hls] at hll cm HNX
              rw [hlq] at hll2 cx HNX
              have CX := Lib.hid cx
              have CM := Lib.hid cm
              obtain ⟨wb, hwb⟩ : ∃ wb, wb = wj.alloc (.cells #[.int .i64 dx, .int .i64 dy] 37) := ⟨_, rfl⟩
              have hx5 : wb.cell? ⟨wj.heap.size, 0, none⟩ = some (.int .i64 dx) := by rw [hwb]; simp
              have hy5 : wb.cell? ⟨wj.heap.size, 1, none⟩ = some (.int .i64 dy) := by rw [hwb]; simp
              have HEB := Lib.hid (hEJ.out.trans (by rw [hwb]; exact (Ext.refl wj).alloc _ : Ext wj wb))
              have HWB := Lib.hid hwb
              have HKP : Hid (∀ W, Ext wb W → W.cell? ⟨wj.heap.size, 0, none⟩ = some (.int .i64 dx) ∧ W.cell? ⟨wj.heap.size, 1, none⟩ = some (.int .i64 dy) ∧ Ext wb W) := Lib.hid fun W e => ⟨(e.cell (World.block_lt_of_cell? _ _ hx5)).trans hx5, (e.cell (World.block_lt_of_cell? _ _ hy5)).trans hy5, e⟩
              clear hdk hls hlq cx cm hwb hA HSAME HLX HLM HAL
              go_upto_region 28 with fail
              rw [← HWB.out]
              rcases Bool.eq_false_or_eq_true av with hav | hav <;> subst hav
              · by_cases hsame : lq = ls
                · have HNT : Hid (true = true → ∀ d ∈ ds.take (j + 1), gsI q d.1 d.2 = gsI m d.1 d.2) := Lib.hid fun _ => HNX.out true (fun _ => hsame) rfl
                  subst hsame
                  clear HNX
                  first | go_region_held3 (fun W => W.cell? ⟨wj.heap.size, 0, none⟩ = some (.int .i64 dx) ∧ W.cell? ⟨wj.heap.size, 1, none⟩ = some (.int .i64 dy) ∧ Ext wb W) (first | exact HKP.out _ (by (repeat (first | assumption | exact (‹_ ∧ _ ∧ Ext wb _›).2.2 | exact Ext.refl _ | apply Ext.drew)); done)) (first
                    | (go_at_call 13; refine (same_any A9 A10 c9 c10 lq w10 (by omega) (hi9.ext he10) hi10).mono ?_; rintro e w11 ⟨rfl, rfl⟩)
                    | (go_at_call 14; refine (CM.out w9 (HEB.out.trans hX9)).mono ?_; rintro e w10 ⟨v10, rfl, ho10, he10⟩; obtain ⟨A10, c10, rfl, _, hi10⟩ := ho10.slice; have hX10 : Ext wb w10 := hX9.trans he10)
                    | (go_at_call 14; refine (CX.out wb.drew (HEB.out.trans (Ext.refl wb).drew)).mono ?_; rintro e w9 ⟨v9, rfl, ho9, he9⟩; obtain ⟨A9, c9, rfl, _, hi9⟩ := ho9.slice; have hX9 : Ext wb w9 := (Ext.refl wb).drew.trans he9)) | fail
                  all_goals
                    have hxx : Ext wb w10 := (‹_ ∧ _ ∧ Ext wb w10›).2.2
                    have HEN := Lib.hid (HEB.out.trans hxx)
                    go_wp2_with fail
                    go_roundw
                    case rel => exact ⟨j + 1, true, by omega, by go_num, rfl, Lib.hid (fun _ => HNT.out (by trivial)), HEN⟩
                    case measure => simp [intOf]; omega
                · have HSN := Lib.hid hsame
                  clear HNX
                  clear hsame
                  first | go_region_held3 (fun W => W.cell? ⟨wj.heap.size, 0, none⟩ = some (.int .i64 dx) ∧ W.cell? ⟨wj.heap.size, 1, none⟩ = some (.int .i64 dy) ∧ Ext wb W) (first | exact HKP.out _ (by (repeat (first | assumption | exact (‹_ ∧ _ ∧ Ext wb _›).2.2 | exact Ext.refl _ | apply Ext.drew)); done)) (first
                    | (go_at_call 13; refine (same_no A9 A10 c9 c10 lq ls w10 (by omega) HSN.out (hi9.ext he10) hi10).mono ?_; rintro e w11 ⟨rfl, rfl⟩)
                    | (go_at_call 14; refine (CM.out w9 (HEB.out.trans hX9)).mono ?_; rintro e w10 ⟨v10, rfl, ho10, he10⟩; obtain ⟨A10, c10, rfl, _, hi10⟩ := ho10.slice; have hX10 : Ext wb w10 := hX9.trans he10)
                    | (go_at_call 14; refine (CX.out wb.drew (HEB.out.trans (Ext.refl wb).drew)).mono ?_; rintro e w9 ⟨v9, rfl, ho9, he9⟩; obtain ⟨A9, c9, rfl, _, hi9⟩ := ho9.slice; have hX9 : Ext wb w9 := (Ext.refl wb).drew.trans he9)) | fail
                  all_goals
                    have hxx : Ext wb w10 := (‹_ ∧ _ ∧ Ext wb w10›).2.2
                    have HEN := Lib.hid (HEB.out.trans hxx)
                    go_wp2_with fail
                    go_roundw
                    case rel => exact ⟨j + 1, false, by omega, by go_num, rfl, Lib.hid (fun h => by cases h), HEN⟩
                    case measure => simp [intOf]; omega
              · go_quiet (fail)
                all_goals
                  go_wp2_with fail
                  go_roundw
                  case rel => exact ⟨j + 1, false, by omega, by go_num, rfl, Lib.hid (fun h => by cases h), Lib.hid (HEB.out.trans (by (repeat (first | exact Ext.refl _ | apply Ext.drewN | apply Ext.drew)); done))⟩
                  case measure => simp [intOf]; omega
            · obtain rfl : j = ds.length := by omega
              have HQM := Lib.hid (fun (h1 : dv = true) (h2 : av = true) => HSAME.out h1 (fun d hd => hA.out h2 d (by rw [take_full]; exact hd)))
              have HEN := Lib.hid (hEK.out.trans (hEY.out.trans hEJ.out))
              go_upto_region 30 with fail
              go_cut [120] (fun s wx => s = .bool false ∧ wx = wj)
              case first =>
                rcases Bool.eq_false_or_eq_true dv with hdv | hdv <;> subst hdv
                · rcases Bool.eq_false_or_eq_true av with hav | hav <;> subst hav
                  · have cal := HAL.out wj hEJ.out (HQM.out rfl rfl)
                    go_wp2_with fail
                    refine cal.mono ?_
                    rintro e w9 ⟨rfl, rfl⟩
                    go_wp2_with fail
                    go_meet
                    exact ⟨rfl, rfl⟩
                  · go_wp2_with fail
                    go_meet
                    exact ⟨rfl, rfl⟩
                · go_wp2_with fail
                  go_meet
                  exact ⟨rfl, rfl⟩
              case rest =>
              obtain ⟨rfl, rfl⟩ := hcut
              clear HQM HSAME HLX HLM HAL hA
              go_wp2_with fail
              go_roundw
              case rel => exact ⟨kk + 1, by omega, by go_num, HEN⟩
              case measure => simp [intOf]; omega
    · obtain rfl : kk = T := by omega
      go_wp2_with fail
      go_ret
      exact ⟨rfl, HE1.out.trans (HE7.out.trans hEK.out)⟩
end Go.Proofs.Ytmffhmokbifadaa
