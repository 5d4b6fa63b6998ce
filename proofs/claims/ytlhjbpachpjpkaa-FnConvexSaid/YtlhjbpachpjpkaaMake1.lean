/- The laws' drawn arguments: the cursor over the code. -/
import Derived.Test.YtlhjbpachpjpkaaCopy
import Derived.Laws.BitsLemmas
import Derived.Below
import Derived.Deep.QuietTactic
import Derived.Deep.DeepCutAuto
namespace Go.Proofs.Ytlhjbpachpjpkaa
open Go.RowKit

theorem and255 (n : Int) : bits .and .i64 n 255 = n % 256 := by
  have h : (BitVec.ofInt 64 255).toNat = 2 ^ 8 - 1 := by decide
  have key : (BitVec.ofInt 64 n &&& BitVec.ofInt 64 255).toNat = (n % ((2 ^ 64 : Nat) : Int)).toNat % 2 ^ 8 := by
    rw [BitVec.toNat_and, BitVec.toNat_ofInt, h, Nat.and_two_pow_sub_one_eq_mod]
  show IntKind.i64.wrap ((BitVec.ofInt 64 n &&& BitVec.ofInt 64 255).toNat : Nat) = n % 256
  rw [key, IntKind.wrap_i64]
  omega
/-- a slice of bytes -/
def Bytes (w : World) (A : Option Addr) (xs : List Int) : Prop := ∀ k x, xs[k]? = some x → ∃ b o, A = some ⟨b, o, none⟩ ∧ b < w.heap.size ∧ w.cell? ⟨b, o + k, none⟩ = some (.int .u8 x)
theorem Bytes.at_ {w : World} {A : Option Addr} {xs : List Int} (h : Bytes w A xs) {k : Nat} (hk : k < xs.length) : ∃ b o x, A = some ⟨b, o, none⟩ ∧ b < w.heap.size ∧ w.cell? ⟨b, o + k, none⟩ = some (.int .u8 x) := by
  obtain ⟨b, o, h1, h2, h3⟩ := h k xs[k] (List.getElem?_eq_getElem hk)
  exact ⟨b, o, _, h1, h2, h3⟩
theorem Bytes.ext {w w' : World} {A : Option Addr} {xs : List Int} (h : Bytes w A xs) (e : Ext w w') : Bytes w' A xs := fun k x hk => by
  obtain ⟨b, o, h1, h2, h3⟩ := h k x hk
  exact ⟨b, o, h1, Nat.lt_of_lt_of_le h2 e.size, (e.cell (p := ⟨b, o + k, none⟩) h2).trans h3⟩
/-- all blocks but one are as they were -/
def Keep (p : Nat) (w w' : World) : Prop := w'.heap.size = w.heap.size ∧ ∀ k, k ≠ p → w'.heap[k]? = w.heap[k]?
theorem Keep.refl (p : Nat) (w : World) : Keep p w w := ⟨rfl, fun _ _ => rfl⟩
theorem Keep.trans {p : Nat} {a b c : World} (h : Keep p a b) (k : Keep p b c) : Keep p a c := ⟨k.1.trans h.1, fun i hi => (k.2 i hi).trans (h.2 i hi)⟩
theorem Keep.set (w : World) (p j : Nat) (v : Value) : Keep p w (w.setCell ⟨p, j, none⟩ v) := ⟨by simp, fun k hk => Below.heap_setCell _ _ _ _ hk⟩
theorem Keep.drewN (p : Nat) (w : World) (n : Nat) : Keep p w (w.drewN n) := ⟨rfl, fun _ _ => rfl⟩
theorem Keep.seg {p : Nat} {w w' : World} (h : Keep p w w') {lo : Nat} (hp : p < lo) (hi : Nat) : Seg lo hi w w' := fun k h1 _ => h.2 k (by omega)
/-- the cursor: its block's cells, all of them writable -/
def Cur (w : World) (p n : Nat) (A : Option Addr) (c : Nat) : Prop := ∃ (i : Nat) (h : Int), i ≤ n ∧ w.cell? ⟨p, 0, none⟩ = some (.slice A n c) ∧ w.cell? ⟨p, 1, none⟩ = some (.int .i64 i) ∧ w.cell? ⟨p, 2, none⟩ = some (.int .i64 h) ∧ w.frozen? ⟨p, 1, none⟩ = false ∧ w.frozen? ⟨p, 2, none⟩ = false
theorem cell_blk {w w' : World} {p : Nat} (h : w'.heap[p]? = w.heap[p]?) (j : Nat) : w'.cell? ⟨p, j, none⟩ = w.cell? ⟨p, j, none⟩ := by
  unfold World.cell?; simp only [h]
theorem frozen_blk {w w' : World} {p : Nat} (h : w'.heap[p]? = w.heap[p]?) (j : Nat) : w'.frozen? ⟨p, j, none⟩ = w.frozen? ⟨p, j, none⟩ := by
  unfold World.frozen?; simp only [h]
theorem Cur.blk {w w' : World} {p n c : Nat} {A : Option Addr} (h : Cur w p n A c) (e : w'.heap[p]? = w.heap[p]?) : Cur w' p n A c := by
  obtain ⟨i, x, h1, h2, h3, h4, h5, h6⟩ := h
  exact ⟨i, x, h1, (cell_blk e 0).trans h2, (cell_blk e 1).trans h3, (cell_blk e 2).trans h4, (frozen_blk e 1).trans h5, (frozen_blk e 2).trans h6⟩
theorem Cur.lt {w : World} {p n c : Nat} {A : Option Addr} (h : Cur w p n A c) : p < w.heap.size := by
  obtain ⟨i, x, h1, h2, _⟩ := h
  exact World.block_lt_of_cell? _ _ h2

set_option maxRecDepth 100000 in
set_option maxHeartbeats 4000000 in
theorem l01Byte_any (A : Option Addr) (c p : Nat) (xs : List Int) (w0 w : World) (hp : w0.heap.size ≤ p) (hb : Bytes w0 A xs) (he : Ext w0 w) (hc : Cur w p xs.length A c) (hl : xs.length ≤ 1048576) :
    Calls Try.prog 54 #[.pointer (some ⟨p, 0, none⟩)] w fun e w' => ∃ x : Int, e = .returned (.int .i64 x) ∧ 0 ≤ x ∧ x < 256 ∧ Cur w' p xs.length A c ∧ Ext w0 w' ∧ Keep p w w' := by
  obtain ⟨i, h, hi, h1, h2, h3, h4, h5⟩ := hc
  have HB := Lib.hid hb
  have HE := Lib.hid he
  obtain ⟨n, hn⟩ : ∃ n, xs.length = n := ⟨_, rfl⟩
  have HN := Lib.hid hn
  rw [hn] at hi h1 hl ⊢
  have hand := and255
  clear hb he hn
  go_enter Try.func54, Try.ntmps54
  go_upto_region 2 with fail
  generalize hH : RowKit.wrap64 (RowKit.wrap64 (h * 6364136223846793005) + 1442695040888963407) = H
  clear hH
  obtain ⟨W1, hW1⟩ : ∃ W1, W1 = w.setCell ⟨p, 2, none⟩ (.int .i64 H) := ⟨_, rfl⟩
  rw [← hW1]
  have c0 : W1.cell? ⟨p, 0, none⟩ = some (.slice A n c) := by rw [hW1]; exact (World.cell?_setCell_other _ _ _ _ (by simp)).trans h1
  have c1 : W1.cell? ⟨p, 1, none⟩ = some (.int .i64 i) := by rw [hW1]; exact (World.cell?_setCell_other _ _ _ _ (by simp)).trans h2
  have c2 : W1.cell? ⟨p, 2, none⟩ = some (.int .i64 H) := by rw [hW1]; exact World.cell?_setCell_same _ _ _ h3
  have f1 : W1.frozen? ⟨p, 1, none⟩ = false := by rw [hW1, World.frozen?_setCell]; exact h4
  have f2 : W1.frozen? ⟨p, 2, none⟩ = false := by rw [hW1, World.frozen?_setCell]; exact h5
  have HK := Lib.hid (show Keep p w W1 by rw [hW1]; exact Keep.set _ _ _ _)
  have HE1 := Lib.hid (show Ext w0 W1 by rw [hW1]; exact Below.setCell HE.out hp _)
  clear hW1 h1 h2 h3 h4 h5
  go_cut [3] (fun s wx => ∃ x : Int, s = .int .i64 x ∧ 0 ≤ x ∧ x < 256 ∧ Hid (∃ d, wx = W1.drewN d))
  case first =>
    go_quiet (fail)
    all_goals
      go_wp2_with fail
      go_meet
      refine ⟨_, rfl, ?_, ?_, Lib.hid ⟨_, rfl⟩⟩ <;> omega
  case rest =>
  obtain ⟨x, rfl, hx0, hx1, hd⟩ := hcut
  obtain ⟨d, rfl⟩ := hd.out
  clear hd
  go_upto_region 3 with fail
  by_cases hlt : i < n
  · obtain ⟨b, o, y, rfl, _, hy⟩ := (HB.out.ext HE1.out).at_ (k := i) (by rw [HN.out]; exact hlt)
    go_quiet (fail)
    go_wp2_with fail
    go_quiet (fail)
    go_wp2_with fail
    go_ret
    refine ⟨_, rfl, by omega, by omega, ⟨i + 1, H, by omega, (World.cell?_setCell_other _ _ _ _ (by simp)).trans c0, (World.cell?_setCell_same _ _ _ (u := .int .i64 i) c1).trans (by simp), (World.cell?_setCell_other _ _ _ _ (by simp)).trans c2, ?_, ?_⟩, Below.setCell (HE1.out.drewN _) hp _, HK.out.trans ((Keep.drewN _ _ _).trans (Keep.set _ _ _ _))⟩
    · rw [World.frozen?_setCell]; exact f1
    · rw [World.frozen?_setCell]; exact f2
  · obtain rfl : i = n := by omega
    go_quiet (fail)
    go_wp2_with fail
    go_ret
    exact ⟨x, rfl, hx0, hx1, ⟨_, _, Nat.le_refl _, c0, c1, c2, f1, f2⟩, (HE1.out.drewN _).drewN _, HK.out.trans ((Keep.drewN _ _ _).trans (Keep.drewN _ _ _))⟩
set_option maxRecDepth 100000 in
set_option maxHeartbeats 4000000 in
theorem l01Below_any (k : Nat) (A : Option Addr) (c p : Nat) (xs : List Int) (w0 w : World) (hk : 1 ≤ k) (hk2 : k ≤ 256) (hp : w0.heap.size ≤ p) (hb : Bytes w0 A xs) (he : Ext w0 w) (hc : Cur w p xs.length A c) (hl : xs.length ≤ 1048576) :
    Calls Try.prog 63 #[.pointer (some ⟨p, 0, none⟩), .int .i64 k] w fun e w' => ∃ x : Nat, e = .returned (.int .i64 x) ∧ x < k ∧ Cur w' p xs.length A c ∧ Ext w0 w' ∧ Keep p w w' := by
  have c1 := l01Byte_any A c p xs w0 w hp hb he hc hl
  clear hb he hc
  go_enter Try.func63, Try.ntmps63
  go_wp2_with fail
  refine c1.mono ?_
  rintro e w1 ⟨x, rfl, hx0, hx1, h1, h2, h3⟩
  have H1 := Lib.hid h1
  have H2 := Lib.hid h2
  have H3 := Lib.hid h3
  have hm : Int.tmod x (k : Int) = x % (k : Int) := Int.tmod_eq_emod_of_nonneg hx0
  have hm0 := Int.emod_nonneg x (show (k : Int) ≠ 0 by omega)
  have hm1 := Int.emod_lt_of_pos x (show (0 : Int) < k by omega)
  obtain ⟨r, hr⟩ : ∃ r : Nat, x % (k : Int) = r := ⟨(x % (k : Int)).toNat, by omega⟩
  rw [hr] at hm hm0 hm1
  clear c1 h1 h2 h3 hr
  go_wp2_with fail
  go_ret
  exact ⟨r, by first | rfl | (rw [hm]), by omega, H1.out, H2.out, H3.out⟩
set_option maxRecDepth 100000 in
set_option maxHeartbeats 4000000 in
theorem l01New_any (A : Option Addr) (c : Nat) (xs : List Int) (w : World) (hb : Bytes w A xs) (hl : xs.length ≤ 1048576) :
    Calls Try.prog 30 #[.slice A xs.length c] w fun e w' => e = .returned (.pointer (some ⟨w.heap.size, 0, none⟩)) ∧ Cur w' w.heap.size xs.length A c ∧ Ext w w' ∧ w'.heap.size = w.heap.size + 1 := by
  have HB := Lib.hid hb
  obtain ⟨n, hn⟩ : ∃ n, xs.length = n := ⟨_, rfl⟩
  have HN := Lib.hid hn
  rw [hn] at hl ⊢
  clear hb hn
  go_enter Try.func30, Try.ntmps30
  go_wp2_with fail
  go_loopw [4, 3] (fun i h wr => ∃ (j : Nat) (H : Int), j ≤ n ∧ i = .int .i64 j ∧ h = .int .i64 H ∧ Hid (wr = w)) (fun i _ _ => n - (intOf i).toNat)
  case atStart => exact ⟨0, _, Nat.zero_le _, rfl, rfl, Lib.hid rfl⟩
  case round =>
    rename World => wr
    obtain ⟨j, H, hj, rfl, rfl, hw⟩ := hrel
    obtain rfl := hw.out
    clear hw
    by_cases hlt : j < n
    · obtain ⟨b, o, y, rfl, _, hy⟩ := HB.out.at_ (k := j) (by rw [HN.out]; exact hlt)
      by_cases h4 : j < 4000
      · go_wp2_with fail
        go_roundw
        case rel => exact ⟨j + 1, _, by omega, by go_num, rfl, Lib.hid (by trivial)⟩
        case measure => simp [intOf]; omega
      · go_wp2_with fail
        go_ret
        exact ⟨rfl, ⟨0, H, Nat.zero_le _, by simp, by simp, by simp, by simp, by simp⟩, (Ext.refl _).alloc _, by simp⟩
    · obtain rfl : j = n := by omega
      go_wp2_with fail
      go_ret
      exact ⟨rfl, ⟨0, H, Nat.zero_le _, by simp, by simp, by simp, by simp, by simp⟩, (Ext.refl _).alloc _, by simp⟩
end Go.Proofs.Ytlhjbpachpjpkaa
