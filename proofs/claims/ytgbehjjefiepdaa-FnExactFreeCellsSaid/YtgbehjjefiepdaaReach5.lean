/- FreeCells, in the reference and in the program. -/
import Derived.Test.YtgbehjjefiepdaaReach4
namespace Go.Proofs.Ytgbehjjefiepdaa
open Go.RowKit Tomo

def cntTo (p : Nat → Bool) : Nat → Nat
  | 0 => 0
  | x + 1 => cntTo p x + (if p x then 1 else 0)
def cnt2 (p : Nat → Nat → Bool) (k : Nat) : Nat → Nat
  | 0 => 0
  | a + 1 => cnt2 p k a + cntTo (p a) k
theorem cntTo_le (p : Nat → Bool) : ∀ x, cntTo p x ≤ x
  | 0 => Nat.le_refl _
  | x + 1 => by have := cntTo_le p x; unfold cntTo; split <;> omega
theorem cnt2_le (p : Nat → Nat → Bool) {k : Nat} (hk : k ≤ 5) : ∀ a, cnt2 p k a ≤ 5 * a
  | 0 => Nat.le_refl _
  | a + 1 => by have := cnt2_le p hk a; have := cntTo_le (p a) k; unfold cnt2; omega
/-- the number of the cells that are not fixed -/
noncomputable def freeI (m : Grid) : Int := if gridOk m 0 1 = true then (cnt2 (fun a x => !fixB (allI (rsI m) (csI m)) a x) (m.headD []).length m.length : Nat) else -1

set_option maxHeartbeats 4000000 in
theorem implFreeCells_any (A : Option Addr) (ca : Nat) (m : Grid) (w : World) (hl : m.length ≤ 1048576) (hr : ∀ r ∈ m, r.length ≤ 1048576) (hx : GridAt w A m) :
    Calls Try.prog 37 #[.slice A m.length ca] w fun e w' => e = .returned (.int .i64 (freeI m)) ∧ Ext w w' := by
  have ci := implImageOk_any A ca m w hl hr hx
  cases h : gridOk m 0 1
  · rw [h] at ci
    have HC : Hid (freeI m = -1) := Lib.hid (by unfold freeI; rw [h]; rfl)
    clear hx hr
    go_enter Try.func37, Try.ntmps37
    go_wp2_with (go_at_call 70; refine ci.mono ?_; rintro e w' ⟨rfl, rfl⟩)
    go_ret
    exact ⟨ret_int HC.out.symm, Ext.refl w⟩
  rw [h] at ci
  have hi := Img.of h
  obtain ⟨n, hn⟩ : ∃ n, m.length = n := ⟨_, rfl⟩
  obtain ⟨k, hk⟩ : ∃ k, (m.headD []).length = k := ⟨_, rfl⟩
  obtain ⟨hn1, hn5⟩ := hi.2.1
  obtain ⟨hk1, hk5⟩ := hi.2.2.1
  rw [hn] at hn5
  rw [hk] at hk5
  have HF := Lib.hid (fixedOf_any A ca m w h hl hr hx hn hk)
  have HRES : Hid (freeI m = (cnt2 (fun a x => !decide (0 ≤ fixF (allI (rsI m) (csI m)) a x)) k n : Nat)) := Lib.hid (by
    unfold freeI
    rw [if_pos h, hn, hk]; rfl)
  rw [hn] at ci ⊢
  obtain ⟨F, hF⟩ : ∃ F, fixF (allI (rsI m) (csI m)) = F := ⟨_, rfl⟩
  rw [hF] at HF HRES
  obtain ⟨p, hp⟩ : ∃ p : Nat → Nat → Bool, (fun a x => !decide (0 ≤ F a x)) = p := ⟨_, rfl⟩
  have HP : Hid (∀ a x, p a x = decide (F a x < 0)) := Lib.hid fun a x => by
    rw [← hp]
    show (!decide (0 ≤ F a x)) = decide (F a x < 0)
    by_cases e : 0 ≤ F a x
    · rw [decide_eq_true e, decide_eq_false (by omega)]; rfl
    · rw [decide_eq_false e, decide_eq_true (by omega)]; rfl
  rw [hp] at HRES
  have HC5 := Lib.hid (cnt2_le p hk5)
  clear hx hr hl hi hn hk h hF hn1 hk1 hp
  have cc := HF.out w (Ext.refl w)
  clear HF
  go_enter Try.func37, Try.ntmps37
  go_wp2_with (go_at_call 70; refine ci.mono ?_; rintro e w' ⟨rfl, rfl⟩)
  refine cc.mono ?_
  rintro e w1 ⟨b1, c1, rfl, hE1, hC⟩
  replace hC := hC.out w1 (Ext.refl w1)
  clear cc
  go_wp2_with fail
  refine hC.mono ?_
  rintro e w2 ⟨b2, c2, rfl, hE2, hC2⟩
  replace hC2 := hC2.out w2 (Ext.refl w2)
  clear hC
  go_wp2_with fail
  refine hC2.mono ?_
  rintro e w3 ⟨b3, c3, rfl, hG, hE3⟩
  clear hC2
  go_wp2_with fail
  go_loopw [17, 3, 5, 7] (fun i cv _ _ wr => ∃ a c : Nat, a ≤ n ∧ i = .int .i64 a ∧ cv = .int .i64 c ∧ c ≤ 5 * a ∧ Hid (c = cnt2 p k a) ∧ Hid (Ext w3 wr)) (fun i _ _ _ _ => n - (intOf i).toNat)
  case atStart => exact ⟨0, 0, Nat.zero_le _, rfl, rfl, by omega, Lib.hid rfl, Lib.hid (Ext.refl _)⟩
  case round =>
    rename World => wa
    obtain ⟨a, c, ha, rfl, rfl, hc5, hc, hE⟩ := hrel
    by_cases hlt : a < n
    · obtain ⟨R, rc, q1, q2⟩ := gridOf_mem (hG.out.ext hE.out) hlt
      go_wp2_with fail
      go_loopw [23, 3, 7] (fun i cv _ wr => ∃ b c : Nat, b ≤ k ∧ i = .int .i64 b ∧ cv = .int .i64 c ∧ c ≤ 5 * a + b ∧ Hid (c = cnt2 p k a + cntTo (p a) b) ∧ Hid (Ext wa wr)) (fun i _ _ _ => k - (intOf i).toNat)
      case atStart => exact ⟨0, c, Nat.zero_le _, rfl, rfl, by omega, Lib.hid hc.out, Lib.hid (Ext.refl _)⟩
      case round =>
        rename World => wb
        clear hc hc5
        obtain ⟨b, c, hb, rfl, rfl, hc5, hc, hE2⟩ := hrel
        by_cases hltb : b < k
        · obtain ⟨R', ro, rfl, q3⟩ := q2.out b hltb
          have q4 := (hE2.out.cell (World.block_lt_of_cell? _ _ q3)).trans q3
          obtain ⟨z, hz⟩ : ∃ z, F a b = z := ⟨_, rfl⟩
          rw [hz] at q4
          by_cases hz0 : z < 0
          · have HN : Hid (c + 1 = cnt2 p k a + cntTo (p a) (b + 1)) := Lib.hid (by
              show _ = cnt2 p k a + (cntTo (p a) b + _)
              rw [HP.out, hz, decide_eq_true hz0, if_pos rfl, hc.out]; omega)
            clear q3
            go_wp2_with fail
            go_roundw
            case rel => exact ⟨b + 1, c + 1, by omega, by go_num, by go_num, by omega, HN, hE2⟩
            case measure => simp [intOf]; omega
          · have HN : Hid (c = cnt2 p k a + cntTo (p a) (b + 1)) := Lib.hid (by
              show _ = cnt2 p k a + (cntTo (p a) b + _)
              rw [HP.out, hz, decide_eq_false hz0, hc.out]; simp)
            clear q3
            go_wp2_with fail
            go_roundw
            case rel => exact ⟨b + 1, c, by omega, by go_num, rfl, by omega, HN, hE2⟩
            case measure => simp [intOf]; omega
        · obtain rfl : b = k := by omega
          have HN : Hid (c = cnt2 p b (a + 1)) := Lib.hid (by rw [hc.out]; rfl)
          go_wp2_with fail
          go_roundw
          case rel => exact ⟨a + 1, c, by omega, by go_num, rfl, by omega, HN, Lib.hid (hE.out.trans hE2.out)⟩
          case measure => simp [intOf]; omega
    · obtain rfl : a = n := by omega
      go_wp2_with fail
      go_ret
      exact ⟨ret_int (by rw [HRES.out, hc.out]), hE3.out.trans hE.out⟩

set_option maxHeartbeats 4000000 in
theorem specFreeCells_any (A : Option Addr) (ca : Nat) (m : Grid) (w : World) (hl : m.length ≤ 1048576) (hr : ∀ r ∈ m, r.length ≤ 1048576) (hx : GridAt w A m) :
    Calls Try.prog 36 #[.slice A m.length ca] w fun e w' => e = .returned (.int .i64 (freeI m)) ∧ Ext w w' := by
  have ci := specImageOk_any A ca m w hl hr hx
  cases h : gridOk m 0 1
  · rw [h] at ci
    have HC : Hid (freeI m = -1) := Lib.hid (by unfold freeI; rw [h]; rfl)
    clear hx hr
    go_enter Try.func36, Try.ntmps36
    go_wp2_with (go_at_call 69; refine ci.mono ?_; rintro e w' ⟨rfl, rfl⟩)
    go_ret
    exact ⟨ret_int HC.out.symm, Ext.refl w⟩
  rw [h] at ci
  have hi := Img.of h
  have HFX : Hid (∀ (W : World) (y x : Int), Ext w W → Calls Try.prog 33 #[.slice A m.length ca, .int .i64 y, .int .i64 x] W fun e w' => e = .returned (.bool (isFixed m y x)) ∧ Ext W w') := Lib.hid fun W y x e => specIsFixed_any A ca m y x W hl hr (hx.ext e)
  obtain ⟨n, hn⟩ : ∃ n, m.length = n := ⟨_, rfl⟩
  obtain ⟨k, hk⟩ : ∃ k, (m.headD []).length = k := ⟨_, rfl⟩
  rw [hn, hk] at hi
  obtain ⟨hn1, hn5⟩ := hi.2.1
  obtain ⟨hk1, hk5⟩ := hi.2.2.1
  have HI := Lib.hid hi
  have HRES : Hid (freeI m = (cnt2 (fun a x => !fixB (allI (rsI m) (csI m)) a x) k n : Nat)) := Lib.hid (by
    unfold freeI
    rw [if_pos h, hn, hk])
  have HIN : Hid (∀ a x : Nat, a < n → x < k → isFixed m a x = fixB (allI (rsI m) (csI m)) a x) := Lib.hid fun a x ha hx => by
    unfold isFixed cellIn
    rw [h, hn, hk, inR_iff.2 (by omega), inR_iff.2 (by omega), Int.toNat_natCast, Int.toNat_natCast]; rfl
  rw [hn] at ci HFX ⊢
  obtain ⟨p, hp⟩ : ∃ p : Nat → Nat → Bool, (fun a x => !fixB (allI (rsI m) (csI m)) a x) = p := ⟨_, rfl⟩
  have HP : Hid (∀ a x : Nat, a < n → x < k → isFixed m a x = !p a x) := Lib.hid fun a x ha hx => by
    rw [← hp, HIN.out a x ha hx, Bool.not_not]
  rw [hp] at HRES
  obtain ⟨bm, om, _, _, _, hA, _⟩ := hx.at_ (k := 0) (by rw [hn]; omega)
  subst hA
  have HX := Lib.hid hx
  clear hx hr hl hi hn hk h hp HIN
  go_enter Try.func36, Try.ntmps36
  go_wp2_with (go_at_call 69; refine ci.mono ?_; rintro e w' ⟨rfl, rfl⟩)
  go_loopw [12, 3, 4, 5, 6] (fun i cv _ _ _ wr => ∃ a c : Nat, a ≤ n ∧ i = .int .i64 a ∧ cv = .int .i64 c ∧ c ≤ 5 * a ∧ Hid (c = cnt2 p k a) ∧ Hid (Ext w wr)) (fun i _ _ _ _ _ => n - (intOf i).toNat)
  case atStart => exact ⟨0, 0, Nat.zero_le _, rfl, rfl, by omega, Lib.hid rfl, Lib.hid (Ext.refl _)⟩
  case round =>
    rename World => wa
    obtain ⟨a, c, ha, rfl, rfl, hc5, hc, hE⟩ := hrel
    by_cases hlt : a < n
    · obtain ⟨R, ro, rc, _, q1, _⟩ := HI.out.mem (HX.out.ext hE.out) (y := a) (x := 0) hlt (by omega)
      go_wp2_with fail
      go_loopw [19, 3, 6] (fun i cv _ wr => ∃ b c : Nat, b ≤ k ∧ i = .int .i64 b ∧ cv = .int .i64 c ∧ c ≤ 5 * a + b ∧ Hid (c = cnt2 p k a + cntTo (p a) b) ∧ Hid (Ext w wr)) (fun i _ _ _ => k - (intOf i).toNat)
      case atStart => exact ⟨0, c, Nat.zero_le _, rfl, rfl, by omega, Lib.hid hc.out, hE⟩
      case round =>
        rename World => wb
        clear hc hc5 hE
        obtain ⟨b, c, hb, rfl, rfl, hc5, hc, hE⟩ := hrel
        by_cases hltb : b < k
        · have cf := HFX.out wb a b hE.out
          rw [HP.out a b hlt hltb] at cf
          have HN : Hid (c + (if p a b then 1 else 0) = cnt2 p k a + cntTo (p a) (b + 1)) := Lib.hid (by
            show _ = cnt2 p k a + (cntTo (p a) b + _)
            rw [hc.out]; omega)
          cases hz : p a b
          · rw [hz] at cf HN
            clear hz
            go_wp2_with fail
            refine cf.mono ?_
            rintro e w3 ⟨rfl, he⟩
            have HE3 := Lib.hid (hE.out.trans he)
            clear he cf
            go_wp2_with fail
            go_roundw
            case rel => exact ⟨b + 1, c, by omega, by go_num, rfl, by omega, Lib.hid HN.out, HE3⟩
            case measure => simp [intOf]; omega
          · rw [hz] at cf HN
            clear hz
            go_wp2_with fail
            refine cf.mono ?_
            rintro e w3 ⟨rfl, he⟩
            have HE3 := Lib.hid (hE.out.trans he)
            clear he cf
            go_wp2_with fail
            go_roundw
            case rel => exact ⟨b + 1, c + 1, by omega, by go_num, by go_num, by omega, Lib.hid HN.out, HE3⟩
            case measure => simp [intOf]; omega
        · obtain rfl : b = k := by omega
          have HN : Hid (c = cnt2 p b (a + 1)) := Lib.hid (by rw [hc.out]; rfl)
          go_wp2_with fail
          go_roundw
          case rel => exact ⟨a + 1, c, by omega, by go_num, rfl, by omega, HN, hE⟩
          case measure => simp [intOf]; omega
    · obtain rfl : a = n := by omega
      go_wp2_with fail
      go_ret
      exact ⟨ret_int (by rw [HRES.out, hc.out]), hE.out⟩
end Go.Proofs.Ytgbehjjefiepdaa
