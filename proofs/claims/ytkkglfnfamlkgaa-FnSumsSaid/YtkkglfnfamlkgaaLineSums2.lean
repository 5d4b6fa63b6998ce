/- FnSums: contracts of the functions that it calls. -/
import Derived.Test.YtkkglfnfamlkgaaLineSums1
import Derived.Test.YtkkglfnfamlkgaaInterval
namespace Go.Proofs.Ytkkglfnfamlkgaa
open Go.RowKit Tomo

set_option maxHeartbeats 2000000 in
theorem CountBlack_any (A : Option Addr) (ca : Nat) (m : Grid) (w : World) (h : gridOk m 0 1 = true) (hx : GridAt w A m) :
    Calls Try.prog 5 #[.slice A m.length ca] w fun e w' => e = .returned (.int .i64 (blackI m)) ∧ w = w' := by
  have hm := Img.of h
  obtain ⟨hn1, hn5⟩ := hm.2.1
  obtain ⟨hk1, hk5⟩ := hm.2.2.1
  have hrl : ∀ r ∈ m, r.length ≤ 1048576 := fun r hr => by have := hm.1.2 r hr; omega
  have ci := implImageOk_any A ca m w (by omega) hrl hx
  rw [h] at ci
  obtain ⟨n, hn⟩ : ∃ n, m.length = n := ⟨_, rfl⟩
  have HN := Lib.hid hn
  have HX := Lib.hid hx
  have HR := Lib.hid hrl
  have HM := Lib.hid hm
  have HG := Lib.hid h
  rw [hn] at ci hn1 hn5 ⊢
  clear hx hrl hm h hn
  go_enter Try.func5, Try.ntmps5
  go_wp2_with (go_at_call 19; refine ci.mono ?_; rintro e w' ⟨rfl, rfl⟩)
  go_loopw [11, 3, 5] (fun i s _ wr => ∃ (j : Nat) (S : Int), j ≤ n ∧ i = .int .i64 j ∧ s = .int .i64 S ∧ 0 ≤ S ∧ S ≤ 5 * j ∧ Hid (S = ((m.take j).map List.sum).sum) ∧ Hid (wr = w)) (fun i _ _ _ => n - (intOf i).toNat)
  case atStart => exact ⟨0, 0, Nat.zero_le _, rfl, rfl, by omega, by omega, Lib.hid rfl, Lib.hid rfl⟩
  case round =>
    rename World => wr
    obtain ⟨j, S, hj, rfl, rfl, hS0, hS1, HS, hw⟩ := hrel
    obtain rfl := hw.out
    clear hw
    by_cases hlt : j < n
    · obtain ⟨b, o, R, c, r, rfl, _, hr, hc, hi⟩ := HX.out.at_ (k := j) (by rw [HN.out]; exact hlt)
      have hin : allIn r 0 1 = true := HM.out.2.2.2 r (List.mem_of_getElem? hr.out)
      have hrl := HM.out.1.2 r (List.mem_of_getElem? hr.out)
      obtain ⟨b1, b2, _⟩ := bits_sumI hin
      have cs := sumOf_any R c r wr (HR.out r (List.mem_of_getElem? hr.out)) (small_of hin (by omega) (by omega)) hi
      have HN2 : Hid (S + r.sum = ((m.take (j + 1)).map List.sum).sum) := Lib.hid (by rw [take_succ_of hr.out, List.map_append, List.sum_append, HS.out]; simp)
      obtain ⟨rs, hrs⟩ : ∃ rs, r.sum = rs := ⟨_, rfl⟩
      rw [hrs] at cs HN2 b1 b2
      have b3 : rs ≤ 5 := by omega
      clear hi hin hrl hrs b2
      go_wp2_with (go_at_call 20; refine cs.mono ?_; rintro e w' ⟨rfl, rfl⟩)
      go_roundw
      case rel => exact ⟨j + 1, S + rs, by omega, by go_num, rfl, by omega, by omega, HN2, Lib.hid (by trivial)⟩
      case measure => simp [intOf]; omega
    · obtain rfl : j = n := by omega
      go_wp2_with fail
      go_ret
      exact ⟨ret_int (by rw [HS.out, ← HN.out, take_full]; rfl), by trivial⟩
set_option maxHeartbeats 2000000 in
theorem total_any (A : Option Addr) (c : Nat) (xs : List Int) (w : World) (hl : xs.length ≤ 1000) (hb : ∀ x ∈ xs, -100000 ≤ x ∧ x ≤ 100000) (hx : Ints w A xs) :
    Calls Try.prog 10 #[.slice A xs.length c] w fun e w' => e = .returned (.int .i64 xs.sum) ∧ w = w' := by
  have HX := Lib.hid hx
  have HB := Lib.hid hb
  clear hx hb
  go_enter Try.func10, Try.ntmps10
  go_wp2_with fail
  go_loopw [8, 3, 5] (fun i s _ wr => ∃ (j : Nat) (S : Int), j ≤ xs.length ∧ i = .int .i64 j ∧ s = .int .i64 S ∧ -100000 * (j : Int) ≤ S ∧ S ≤ 100000 * j ∧ Hid (S = (xs.take j).sum) ∧ Hid (wr = w)) (fun i _ _ _ => xs.length - (intOf i).toNat)
  case atStart => exact ⟨0, 0, Nat.zero_le _, rfl, rfl, by omega, by omega, Lib.hid rfl, Lib.hid rfl⟩
  case round =>
    rename World => wr
    obtain ⟨j, S, hj, rfl, rfl, hS0, hS1, HS, hw⟩ := hrel
    obtain rfl := hw.out
    clear hw
    by_cases hlt : j < xs.length
    · obtain ⟨b, o, x, rfl, _, hxx, hc⟩ := HX.out.at_ hlt
      obtain ⟨b1, b2⟩ := HB.out x (List.mem_of_getElem? hxx.out)
      have HN2 : Hid (S + x = (xs.take (j + 1)).sum) := Lib.hid (by rw [take_succ_of hxx.out, List.sum_append, HS.out]; simp)
      go_wp2_with fail
      go_roundw
      case rel => exact ⟨j + 1, S + x, by omega, by go_num, rfl, by omega, by omega, HN2, Lib.hid (by trivial)⟩
      case measure => simp [intOf]; omega
    · obtain rfl : j = xs.length := by omega
      go_wp2_with fail
      go_ret
      exact ⟨ret_int (by rw [HS.out, take_full]), by trivial⟩
set_option maxHeartbeats 2000000 in
theorem same_any (A B : Option Addr) (ca cb : Nat) (xs : List Int) (w : World) (hl : xs.length ≤ 1000000) (hx : Ints w A xs) (hy : Ints w B xs) :
    Calls Try.prog 11 #[.slice A xs.length ca, .slice B xs.length cb] w fun e w' => e = .returned (.bool true) ∧ w = w' := by
  have HX := Lib.hid hx
  have HY := Lib.hid hy
  clear hx hy
  go_enter Try.func11, Try.ntmps11
  go_wp2_with fail
  go_loopw [14, 5, 6] (fun i _ _ wr => ∃ (j : Nat), j ≤ xs.length ∧ i = .int .i64 j ∧ Hid (wr = w)) (fun i _ _ _ => xs.length - (intOf i).toNat)
  case atStart => exact ⟨0, Nat.zero_le _, rfl, Lib.hid rfl⟩
  case round =>
    rename World => wr
    obtain ⟨j, hj, rfl, hw⟩ := hrel
    obtain rfl := hw.out
    clear hw
    by_cases hlt : j < xs.length
    · obtain ⟨b, o, x, rfl, _, hxx, hc⟩ := HX.out.at_ hlt
      obtain ⟨b2, o2, x2, rfl, _, hxx2, hc2⟩ := HY.out.at_ hlt
      obtain rfl : x = x2 := by have h := hxx.out; rw [hxx2.out] at h; exact (Option.some.inj h).symm
      go_wp2_with fail
      go_roundw
      case rel => exact ⟨j + 1, by omega, by go_num, Lib.hid (by trivial)⟩
      case measure => simp [intOf]; omega
    · obtain rfl : j = xs.length := by omega
      go_wp2_with fail
      go_ret
      exact ⟨rfl, by trivial⟩
set_option maxRecDepth 100000 in
set_option maxHeartbeats 2000000 in
theorem LineSums_any (A : Option Addr) (ca : Nat) (m : Grid) (dx dy : Int) (w : World) (h : gridOk m 0 1 = true) (hd : dirOk dx dy = true) (hx : GridAt w A m) :
    Calls Try.prog 7 #[.slice A m.length ca, .agg #[.int .i64 dx, .int .i64 dy]] w fun e w' => ∃ v, e = .returned v ∧ Own w' w.heap.size v (gsI m dx dy) ∧ Ext w w' := by
  have hm := Img.of h
  obtain ⟨hn1, hn5⟩ := hm.2.1
  have hrl : ∀ r ∈ m, r.length ≤ 1048576 := fun r hr => by have := hm.1.2 r hr; have := hm.2.2.1; omega
  have ci := implImageOk_any A ca m (w.alloc (.cells #[.int .i64 dx, .int .i64 dy] 29)) (by omega) hrl (hx.ext ((Ext.refl w).alloc _))
  rw [h] at ci
  have cd := fun W => implDirectionOk_any dx dy W
  rw [hd] at cd
  obtain ⟨hs, hn, hk, hb⟩ := grid_bd (bits_wide h)
  have HSO : Hid (∀ W, Ext w W → Calls Try.prog 24 #[.slice A m.length ca, .agg #[.int .i64 dx, .int .i64 dy]] W fun e w' => ∃ v, e = .returned v ∧ Own w' W.heap.size v (gsI m dx dy) ∧ Ext W w') := Lib.hid fun W e => by
    have h3 : gsI m dx dy = lsI m m.length (m.headD []).length dx dy := by unfold gsI; rw [if_pos ⟨bits_wide h, hd⟩]
    rw [h3]
    exact sumsOn_any A ca m m.length (m.headD []).length dx dy W hs hn hk hb hd (hx.ext e)
  obtain ⟨n, hgn⟩ : ∃ n, m.length = n := ⟨_, rfl⟩
  rw [hgn] at HSO ci ⊢
  clear hx h hd hs hn hk hb hgn hm hrl hn1 hn5
  go_enter Try.func7, Try.ntmps7
  go_wp2_with (go_at_call 19; refine ci.mono ?_; rintro e w' ⟨rfl, rfl⟩)
  refine (cd _).mono ?_
  rintro e w1 ⟨rfl, he⟩
  have q1 : w1.cell? ⟨w.heap.size, 0, none⟩ = some (.int .i64 dx) := (he.cell (by simp)).trans (by simp)
  have q2 : w1.cell? ⟨w.heap.size, 1, none⟩ = some (.int .i64 dy) := (he.cell (by simp)).trans (by simp)
  have HE := Lib.hid (((Ext.refl w).alloc _).trans he)
  have cs := HSO.out w1 HE.out
  clear he cd
  go_wp2_with fail
  refine cs.mono ?_
  rintro e w2 ⟨v, rfl, ho, he⟩
  have HO := Lib.hid (ho.base HE.out.size)
  have HE2 := Lib.hid (HE.out.trans he)
  clear ho he cs
  go_wp2_with fail
  go_ret
  exact ⟨_, rfl, HO.out, HE2.out⟩
end Go.Proofs.Ytkkglfnfamlkgaa
