/- FnSums: contracts of the functions that it calls. -/
import Derived.Test.YtmffhmokbifadaaLineSums1
import Derived.Test.YtmffhmokbifadaaInterval
namespace Go.Proofs.Ytmffhmokbifadaa
open Go.RowKit Tomo

set_option maxHeartbeats 2000000 in
theorem same_any (A B : Option Addr) (ca cb : Nat) (xs : List Int) (w : World) (hl : xs.length ≤ 1000000) (hx : Ints w A xs) (hy : Ints w B xs) :
    Calls Try.prog 13 #[.slice A xs.length ca, .slice B xs.length cb] w fun e w' => e = .returned (.bool true) ∧ w = w' := by
  have HX := Lib.hid hx
  have HY := Lib.hid hy
  clear hx hy
  go_enter Try.func13, Try.ntmps13
  go_wp2_with fail
  go_loopw [14, 5, 6] (fun i _ _ wr => ∃ (j : Nat), j ≤ xs.length ∧ i = .int .i64 j ∧ Hid (wr = w)) (fun i _ _ _ => xs.length - (intOf i).toNat)
  case atStart => exact ⟨0, Nat.zero_le _, rfl, Lib.hid rfl⟩
  case round =>
    rename World => wr
    obtain ⟨j, hj, rfl, hw⟩ := hrel
    obtain rfl := hw.out
    clear hw
    by_cases hlt : j < xs.length
    · obtain ⟨b, o, x, rfl, _, hxx, hc⟩ := HX.out.at_ hlt
      obtain ⟨b2, o2, x2, rfl, _, hxx2, hc2⟩ := HY.out.at_ hlt
      obtain rfl : x = x2 := by have h := hxx.out; rw [hxx2.out] at h; exact (Option.some.inj h).symm
      go_wp2_with fail
      go_roundw
      case rel => exact ⟨j + 1, by omega, by go_num, Lib.hid (by trivial)⟩
      case measure => simp [intOf]; omega
    · obtain rfl : j = xs.length := by omega
      go_wp2_with fail
      go_ret
      exact ⟨rfl, by trivial⟩
set_option maxRecDepth 100000 in
set_option maxHeartbeats 2000000 in
theorem LineSums_any (A : Option Addr) (ca : Nat) (m : Grid) (dx dy : Int) (w : World) (h : gridOk m 0 1 = true) (hd : dirOk dx dy = true) (hx : GridAt w A m) :
    Calls Try.prog 14 #[.slice A m.length ca, .agg #[.int .i64 dx, .int .i64 dy]] w fun e w' => ∃ v, e = .returned v ∧ Own w' w.heap.size v (gsI m dx dy) ∧ Ext w w' := by
  have hm := Img.of h
  obtain ⟨hn1, hn5⟩ := hm.2.1
  have hrl : ∀ r ∈ m, r.length ≤ 1048576 := fun r hr => by have := hm.1.2 r hr; have := hm.2.2.1; omega
  have ci := implImageOk_any A ca m (w.alloc (.cells #[.int .i64 dx, .int .i64 dy] 37)) (by omega) hrl (hx.ext ((Ext.refl w).alloc _))
  rw [h] at ci
  have cd := fun W => implDirectionOk_any dx dy W
  rw [hd] at cd
  obtain ⟨hs, hn, hk, hb⟩ := grid_bd (bits_wide h)
  have HSO : Hid (∀ W, Ext w W → Calls Try.prog 32 #[.slice A m.length ca, .agg #[.int .i64 dx, .int .i64 dy]] W fun e w' => ∃ v, e = .returned v ∧ Own w' W.heap.size v (gsI m dx dy) ∧ Ext W w') := Lib.hid fun W e => by
    have h3 : gsI m dx dy = lsI m m.length (m.headD []).length dx dy := by unfold gsI; rw [if_pos ⟨bits_wide h, hd⟩]
    rw [h3]
    exact sumsOn_any A ca m m.length (m.headD []).length dx dy W hs hn hk hb hd (hx.ext e)
  obtain ⟨n, hgn⟩ : ∃ n, m.length = n := ⟨_, rfl⟩
  rw [hgn] at HSO ci ⊢
  clear hx h hd hs hn hk hb hgn hm hrl hn1 hn5
  go_enter Try.func14, Try.ntmps14
  go_wp2_with (go_at_call 29; refine ci.mono ?_; rintro e w' ⟨rfl, rfl⟩)
  refine (cd _).mono ?_
  rintro e w1 ⟨rfl, he⟩
  have q1 : w1.cell? ⟨w.heap.size, 0, none⟩ = some (.int .i64 dx) := (he.cell (by simp)).trans (by simp)
  have q2 : w1.cell? ⟨w.heap.size, 1, none⟩ = some (.int .i64 dy) := (he.cell (by simp)).trans (by simp)
  have HE := Lib.hid (((Ext.refl w).alloc _).trans he)
  have cs := HSO.out w1 HE.out
  clear he cd
  go_wp2_with fail
  refine cs.mono ?_
  rintro e w2 ⟨v, rfl, ho, he⟩
  have HO := Lib.hid (ho.base HE.out.size)
  have HE2 := Lib.hid (HE.out.trans he)
  clear ho he cs
  go_wp2_with fail
  go_ret
  exact ⟨_, rfl, HO.out, HE2.out⟩
end Go.Proofs.Ytmffhmokbifadaa
