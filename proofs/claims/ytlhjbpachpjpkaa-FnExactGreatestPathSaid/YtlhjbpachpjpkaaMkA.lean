/- Texts merged: Make1 Make2. -/
import Derived.Test.YtlhjbpachpjpkaaCopy
import Derived.Laws.BitsLemmas
import Derived.Below
import Derived.Deep.QuietTactic
import Derived.Deep.DeepCutAuto
import Derived.Test.YtlhjbpachpjpkaaPaint1
import Derived.Test.YtlhjbpachpjpkaaTomA
import Derived.Deep.RegionWith
namespace Go.Proofs.Ytlhjbpachpjpkaa
open Go.RowKit

theorem and255 (n : Int) : bits .and .i64 n 255 = n % 256 := by
  have h : (BitVec.ofInt 64 255).toNat = 2 ^ 8 - 1 := by decide
  have key : (BitVec.ofInt 64 n &&& BitVec.ofInt 64 255).toNat = (n % ((2 ^ 64 : Nat) : Int)).toNat % 2 ^ 8 := by
    rw [BitVec.toNat_and, BitVec.toNat_ofInt, h, Nat.and_two_pow_sub_one_eq_mod]
  show IntKind.i64.wrap ((BitVec.ofInt 64 n &&& BitVec.ofInt 64 255).toNat : Nat) = n % 256
  rw [key, IntKind.wrap_i64]
  omega
/-- a slice of bytes -/
def Bytes (w : World) (A : Option Addr) (xs : List Int) : Prop := ∀ k x, xs[k]? = some x → ∃ b o, A = some ⟨b, o, none⟩ ∧ b < w.heap.size ∧ w.cell? ⟨b, o + k, none⟩ = some (.int .u8 x)
theorem Bytes.at_ {w : World} {A : Option Addr} {xs : List Int} (h : Bytes w A xs) {k : Nat} (hk : k < xs.length) : ∃ b o x, A = some ⟨b, o, none⟩ ∧ b < w.heap.size ∧ w.cell? ⟨b, o + k, none⟩ = some (.int .u8 x) := by
  obtain ⟨b, o, h1, h2, h3⟩ := h k xs[k] (List.getElem?_eq_getElem hk)
  exact ⟨b, o, _, h1, h2, h3⟩
theorem Bytes.ext {w w' : World} {A : Option Addr} {xs : List Int} (h : Bytes w A xs) (e : Ext w w') : Bytes w' A xs := fun k x hk => by
  obtain ⟨b, o, h1, h2, h3⟩ := h k x hk
  exact ⟨b, o, h1, Nat.lt_of_lt_of_le h2 e.size, (e.cell (p := ⟨b, o + k, none⟩) h2).trans h3⟩
/-- all blocks but one are as they were -/
def Keep (p : Nat) (w w' : World) : Prop := w'.heap.size = w.heap.size ∧ ∀ k, k ≠ p → w'.heap[k]? = w.heap[k]?
theorem Keep.refl (p : Nat) (w : World) : Keep p w w := ⟨rfl, fun _ _ => rfl⟩
theorem Keep.trans {p : Nat} {a b c : World} (h : Keep p a b) (k : Keep p b c) : Keep p a c := ⟨k.1.trans h.1, fun i hi => (k.2 i hi).trans (h.2 i hi)⟩
theorem Keep.set (w : World) (p j : Nat) (v : Value) : Keep p w (w.setCell ⟨p, j, none⟩ v) := ⟨by simp, fun k hk => Below.heap_setCell _ _ _ _ hk⟩
theorem Keep.drewN (p : Nat) (w : World) (n : Nat) : Keep p w (w.drewN n) := ⟨rfl, fun _ _ => rfl⟩
theorem Keep.seg {p : Nat} {w w' : World} (h : Keep p w w') {lo : Nat} (hp : p < lo) (hi : Nat) : Seg lo hi w w' := fun k h1 _ => h.2 k (by omega)
/-- the cursor: its block's cells, all of them writable -/
def Cur (w : World) (p n : Nat) (A : Option Addr) (c : Nat) : Prop := ∃ (i : Nat) (h : Int), i ≤ n ∧ w.cell? ⟨p, 0, none⟩ = some (.slice A n c) ∧ w.cell? ⟨p, 1, none⟩ = some (.int .i64 i) ∧ w.cell? ⟨p, 2, none⟩ = some (.int .i64 h) ∧ w.frozen? ⟨p, 1, none⟩ = false ∧ w.frozen? ⟨p, 2, none⟩ = false
theorem cell_blk {w w' : World} {p : Nat} (h : w'.heap[p]? = w.heap[p]?) (j : Nat) : w'.cell? ⟨p, j, none⟩ = w.cell? ⟨p, j, none⟩ := by
  unfold World.cell?; simp only [h]
theorem frozen_blk {w w' : World} {p : Nat} (h : w'.heap[p]? = w.heap[p]?) (j : Nat) : w'.frozen? ⟨p, j, none⟩ = w.frozen? ⟨p, j, none⟩ := by
  unfold World.frozen?; simp only [h]
theorem Cur.blk {w w' : World} {p n c : Nat} {A : Option Addr} (h : Cur w p n A c) (e : w'.heap[p]? = w.heap[p]?) : Cur w' p n A c := by
  obtain ⟨i, x, h1, h2, h3, h4, h5, h6⟩ := h
  exact ⟨i, x, h1, (cell_blk e 0).trans h2, (cell_blk e 1).trans h3, (cell_blk e 2).trans h4, (frozen_blk e 1).trans h5, (frozen_blk e 2).trans h6⟩
theorem Cur.lt {w : World} {p n c : Nat} {A : Option Addr} (h : Cur w p n A c) : p < w.heap.size := by
  obtain ⟨i, x, h1, h2, _⟩ := h
  exact World.block_lt_of_cell? _ _ h2

set_option maxRecDepth 100000 in
set_option maxHeartbeats 4000000 in
theorem l01Byte_any (A : Option Addr) (c p : Nat) (xs : List Int) (w0 w : World) (hp : w0.heap.size ≤ p) (hb : Bytes w0 A xs) (he : Ext w0 w) (hc : Cur w p xs.length A c) (hl : xs.length ≤ 1048576) :
    Calls Try.prog 54 #[.pointer (some ⟨p, 0, none⟩)] w fun e w' => ∃ x : Int, e = .returned (.int .i64 x) ∧ 0 ≤ x ∧ x < 256 ∧ Cur w' p xs.length A c ∧ Ext w0 w' ∧ Keep p w w' := by
  obtain ⟨i, h, hi, h1, h2, h3, h4, h5⟩ := hc
  have HB := Lib.hid hb
  have HE := Lib.hid he
  obtain ⟨n, hn⟩ : ∃ n, xs.length = n := ⟨_, rfl⟩
  have HN := Lib.hid hn
  rw [hn] at hi h1 hl ⊢
  have hand := and255
  clear hb he hn
  go_enter Try.func54, Try.ntmps54
  go_upto_region 2 with fail
  generalize hH : RowKit.wrap64 (RowKit.wrap64 (h * 6364136223846793005) + 1442695040888963407) = H
  clear hH
  obtain ⟨W1, hW1⟩ : ∃ W1, W1 = w.setCell ⟨p, 2, none⟩ (.int .i64 H) := ⟨_, rfl⟩
  rw [← hW1]
  have c0 : W1.cell? ⟨p, 0, none⟩ = some (.slice A n c) := by rw [hW1]; exact (World.cell?_setCell_other _ _ _ _ (by simp)).trans h1
  have c1 : W1.cell? ⟨p, 1, none⟩ = some (.int .i64 i) := by rw [hW1]; exact (World.cell?_setCell_other _ _ _ _ (by simp)).trans h2
  have c2 : W1.cell? ⟨p, 2, none⟩ = some (.int .i64 H) := by rw [hW1]; exact World.cell?_setCell_same _ _ _ h3
  have f1 : W1.frozen? ⟨p, 1, none⟩ = false := by rw [hW1, World.frozen?_setCell]; exact h4
  have f2 : W1.frozen? ⟨p, 2, none⟩ = false := by rw [hW1, World.frozen?_setCell]; exact h5
  have HK := Lib.hid (show Keep p w W1 by rw [hW1]; exact Keep.set _ _ _ _)
  have HE1 := Lib.hid (show Ext w0 W1 by rw [hW1]; exact Below.setCell HE.out hp _)
  clear hW1 h1 h2 h3 h4 h5
  go_cut [3] (fun s wx => ∃ x : Int, s = .int .i64 x ∧ 0 ≤ x ∧ x < 256 ∧ Hid (∃ d, wx = W1.drewN d))
  case first =>
    go_quiet (fail)
    all_goals
      go_wp2_with fail
      go_meet
      refine ⟨_, rfl, ?_, ?_, Lib.hid ⟨_, rfl⟩⟩ <;> omega
  case rest =>
  obtain ⟨x, rfl, hx0, hx1, hd⟩ := hcut
  obtain ⟨d, rfl⟩ := hd.out
  clear hd
  go_upto_region 3 with fail
  by_cases hlt : i < n
  · obtain ⟨b, o, y, rfl, _, hy⟩ := (HB.out.ext HE1.out).at_ (k := i) (by rw [HN.out]; exact hlt)
    go_quiet (fail)
    go_wp2_with fail
    go_quiet (fail)
    go_wp2_with fail
    go_ret
    refine ⟨_, rfl, by omega, by omega, ⟨i + 1, H, by omega, (World.cell?_setCell_other _ _ _ _ (by simp)).trans c0, (World.cell?_setCell_same _ _ _ (u := .int .i64 i) c1).trans (by simp), (World.cell?_setCell_other _ _ _ _ (by simp)).trans c2, ?_, ?_⟩, Below.setCell (HE1.out.drewN _) hp _, HK.out.trans ((Keep.drewN _ _ _).trans (Keep.set _ _ _ _))⟩
    · rw [World.frozen?_setCell]; exact f1
    · rw [World.frozen?_setCell]; exact f2
  · obtain rfl : i = n := by omega
    go_quiet (fail)
    go_wp2_with fail
    go_ret
    exact ⟨x, rfl, hx0, hx1, ⟨_, _, Nat.le_refl _, c0, c1, c2, f1, f2⟩, (HE1.out.drewN _).drewN _, HK.out.trans ((Keep.drewN _ _ _).trans (Keep.drewN _ _ _))⟩
set_option maxRecDepth 100000 in
set_option maxHeartbeats 4000000 in
theorem l01Below_any (k : Nat) (A : Option Addr) (c p : Nat) (xs : List Int) (w0 w : World) (hk : 1 ≤ k) (hk2 : k ≤ 256) (hp : w0.heap.size ≤ p) (hb : Bytes w0 A xs) (he : Ext w0 w) (hc : Cur w p xs.length A c) (hl : xs.length ≤ 1048576) :
    Calls Try.prog 63 #[.pointer (some ⟨p, 0, none⟩), .int .i64 k] w fun e w' => ∃ x : Nat, e = .returned (.int .i64 x) ∧ x < k ∧ Cur w' p xs.length A c ∧ Ext w0 w' ∧ Keep p w w' := by
  have c1 := l01Byte_any A c p xs w0 w hp hb he hc hl
  clear hb he hc
  go_enter Try.func63, Try.ntmps63
  go_wp2_with fail
  refine c1.mono ?_
  rintro e w1 ⟨x, rfl, hx0, hx1, h1, h2, h3⟩
  have H1 := Lib.hid h1
  have H2 := Lib.hid h2
  have H3 := Lib.hid h3
  have hm : Int.tmod x (k : Int) = x % (k : Int) := Int.tmod_eq_emod_of_nonneg hx0
  have hm0 := Int.emod_nonneg x (show (k : Int) ≠ 0 by omega)
  have hm1 := Int.emod_lt_of_pos x (show (0 : Int) < k by omega)
  obtain ⟨r, hr⟩ : ∃ r : Nat, x % (k : Int) = r := ⟨(x % (k : Int)).toNat, by omega⟩
  rw [hr] at hm hm0 hm1
  clear c1 h1 h2 h3 hr
  go_wp2_with fail
  go_ret
  exact ⟨r, by first | rfl | (rw [hm]), by omega, H1.out, H2.out, H3.out⟩
set_option maxRecDepth 100000 in
set_option maxHeartbeats 4000000 in
theorem l01New_any (A : Option Addr) (c : Nat) (xs : List Int) (w : World) (hb : Bytes w A xs) (hl : xs.length ≤ 1048576) :
    Calls Try.prog 30 #[.slice A xs.length c] w fun e w' => e = .returned (.pointer (some ⟨w.heap.size, 0, none⟩)) ∧ Cur w' w.heap.size xs.length A c ∧ Ext w w' ∧ w'.heap.size = w.heap.size + 1 := by
  have HB := Lib.hid hb
  obtain ⟨n, hn⟩ : ∃ n, xs.length = n := ⟨_, rfl⟩
  have HN := Lib.hid hn
  rw [hn] at hl ⊢
  clear hb hn
  go_enter Try.func30, Try.ntmps30
  go_wp2_with fail
  go_loopw [4, 3] (fun i h wr => ∃ (j : Nat) (H : Int), j ≤ n ∧ i = .int .i64 j ∧ h = .int .i64 H ∧ Hid (wr = w)) (fun i _ _ => n - (intOf i).toNat)
  case atStart => exact ⟨0, _, Nat.zero_le _, rfl, rfl, Lib.hid rfl⟩
  case round =>
    rename World => wr
    obtain ⟨j, H, hj, rfl, rfl, hw⟩ := hrel
    obtain rfl := hw.out
    clear hw
    by_cases hlt : j < n
    · obtain ⟨b, o, y, rfl, _, hy⟩ := HB.out.at_ (k := j) (by rw [HN.out]; exact hlt)
      by_cases h4 : j < 4000
      · go_wp2_with fail
        go_roundw
        case rel => exact ⟨j + 1, _, by omega, by go_num, rfl, Lib.hid (by trivial)⟩
        case measure => simp [intOf]; omega
      · go_wp2_with fail
        go_ret
        exact ⟨rfl, ⟨0, H, Nat.zero_le _, by simp, by simp, by simp, by simp, by simp⟩, (Ext.refl _).alloc _, by simp⟩
    · obtain rfl : j = n := by omega
      go_wp2_with fail
      go_ret
      exact ⟨rfl, ⟨0, H, Nat.zero_le _, by simp, by simp, by simp, by simp, by simp⟩, (Ext.refl _).alloc _, by simp⟩
end Go.Proofs.Ytlhjbpachpjpkaa

namespace Go.Proofs.Ytlhjbpachpjpkaa
open Go.RowKit Tomo

theorem ownsRow_keep {p B : Nat} {w w' : World} {e : TypeId} {size : Nat} {v : Value} {n : Nat} {xs : List Value} (h : w.ownsRow B e size v n xs) (k : Keep p w w') (hp : p < B) : w'.ownsRow B e size v n xs := by
  obtain ⟨h1, h2⟩ := h
  refine ⟨h1, ?_⟩
  rcases h2 with h3 | ⟨g, cap, cur, hv, hb, hg, hr⟩
  · exact Or.inl h3
  · exact Or.inr ⟨g, cap, cur, hv, hb, (k.2 g (by omega)).trans hg, hr⟩
theorem OwnGrid.keep {p B : Nat} {w w' : World} {v : Value} {g : Grid} (h : OwnGrid w B v g) (k : Keep p w w') (hp : p < B) : OwnGrid w' B v g := by
  obtain ⟨us, h1, h2, h3, h4⟩ := h
  exact ⟨us, h1, ownsRow_keep h2 k hp, fun i u r hu hr => ownsRow_keep (h3 i u r hu hr) k hp, h4⟩
def BitG (q : Grid) : Prop := ∀ r ∈ q, ∀ z ∈ r, z = 0 ∨ z = 1
theorem BitG.set {q : Grid} {a b : Nat} {r : List Int} {z : Int} (h : BitG q) (hr : q[a]? = some r) (hz : z = 0 ∨ z = 1) : BitG (q.set a (r.set b z)) := fun r' hr' x hx => by
  rcases List.mem_or_eq_of_mem_set hr' with h1 | h1
  · exact h r' h1 x hx
  · rw [h1] at hx
    rcases List.mem_or_eq_of_mem_set hx with h2 | h2
    · exact h r (List.mem_of_getElem? hr) x h2
    · rw [h2]; exact hz
theorem shape_set {q : Grid} {N K i0 l0 : Nat} {r : List Int} {c : Int} (h : Shape q N K) (hr : q[i0]? = some r) : Shape (q.set i0 (r.set l0 c)) N K := by
  refine ⟨by rw [List.length_set]; exact h.1, fun r' hr' => ?_⟩
  rcases List.mem_or_eq_of_mem_set hr' with h1 | h1
  · exact h.2 r' h1
  · rw [h1, List.length_set]; exact h.2 r (List.mem_of_getElem? hr)
theorem bit_grid {q : Grid} {N K : Nat} (h : Shape q N K) (hb : BitG q) (hn : 1 ≤ N ∧ N ≤ 5) (hk : 1 ≤ K ∧ K ≤ 5) : gridOk q 0 1 = true := by
  refine gridOk_iff.2 ⟨by rw [h.1]; omega, fun r hr => ?_⟩
  have hh : (q.headD []).length = K := by
    cases q with
    | nil => have h1 := h.1; simp at h1; omega
    | cons r0 q => exact h.2 r0 List.mem_cons_self
  refine ⟨by rw [h.2 r hr, hh], by rw [h.2 r hr]; omega, ?_⟩
  unfold allIn
  rw [List.all_eq_true]
  intro z hz
  rw [inR_iff]
  have := hb r hr z hz
  omega

set_option maxHeartbeats 4000000 in
theorem l18New_zero (A : Option Addr) (c : Nat) (xs : List Int) (w : World) (hb : Bytes w A xs) (hl : xs.length ≤ 1048576) :
    Calls Try.prog 47 #[.slice A xs.length c, .int .i64 0] w fun e w' => e = .returned (.pointer (some ⟨w.heap.size, 0, none⟩)) ∧ Cur w' w.heap.size xs.length A c ∧ Ext w w' ∧ w'.heap.size = w.heap.size + 1 := by
  have c1 := l01New_any A c xs w hb hl
  clear hb
  go_enter Try.func47, Try.ntmps47
  go_wp2_with fail
  refine c1.mono ?_
  rintro e w1 ⟨rfl, h1, h2, h3⟩
  have H := Lib.hid (And.intro h1 (And.intro h2 h3))
  clear c1 h1 h2 h3
  go_wp2_with fail
  go_loopw [6] (fun i wr => i = .int .i64 0 ∧ Hid (wr = w1)) (fun _ _ => 0)
  case atStart => exact ⟨rfl, Lib.hid rfl⟩
  case round =>
    rename World => wr
    obtain ⟨rfl, hw⟩ := hrel
    obtain rfl := hw.out
    clear hw
    go_wp2_with fail
    go_ret
    exact ⟨rfl, H.out.1, H.out.2.1, H.out.2.2⟩
set_option maxRecDepth 100000 in
set_option maxHeartbeats 8000000 in
theorem l02Draw_any (k : Nat) (A : Option Addr) (c p : Nat) (xs : List Int) (w0 w : World) (hk : 1 ≤ k) (hk2 : k ≤ 5) (hp : w0.heap.size ≤ p) (hb : Bytes w0 A xs) (he : Ext w0 w) (hc : Cur w p xs.length A c) (hl : xs.length ≤ 1048576) :
    Calls Try.prog 46 #[.pointer (some ⟨p, 0, none⟩), .int .i64 k] w fun e w' => ∃ b cap m, e = .returned (.slice (some ⟨b, 0, none⟩) m.length cap) ∧ OwnGrid w' (p + 1) (.slice (some ⟨b, 0, none⟩) m.length cap) m ∧ gridOk m 0 1 = true ∧ Ext w0 w' ∧ Cur w' p xs.length A c := by
  have HBE := Lib.hid (fun (k : Nat) (W : World) (h1 : 1 ≤ k) (h2 : k ≤ 256) (h3 : Ext w0 W) (h4 : Cur W p xs.length A c) => l01Below_any k A c p xs w0 W h1 h2 hp hb h3 h4 hl)
  have c1 := HBE.out k w hk (by omega) he hc
  clear hb he hc
  go_enter Try.func46, Try.ntmps46
  go_wp2_with fail
  refine c1.mono ?_
  rintro e w1 ⟨x, rfl, hx, h1, h2, h3⟩
  have c2 := HBE.out k w1 hk (by omega) h2 h1
  clear c1 h1 h2 h3
  go_wp2_with fail
  refine c2.mono ?_
  rintro e w2 ⟨y, rfl, hy, h1, h2, _⟩
  have ce := l02Empty_any (1 + x) (1 + y) w2 (by omega) (by omega) (by omega) (by omega)
  rw [show ((1 + x : Nat) : Int) = 1 + (x : Int) by omega, show ((1 + y : Nat) : Int) = 1 + (y : Int) by omega] at ce
  have HCU := Lib.hid h1
  have HE2 := Lib.hid h2
  have HPL := Lib.hid h1.lt
  clear c2 h1 h2
  go_wp2_with fail
  refine ce.mono ?_
  rintro e w3 ⟨bo, cap, rfl, ho, he⟩
  have HO3 := Lib.hid ho
  have HE3 := Lib.hid (HE2.out.trans he)
  have HC3 := Lib.hid (HCU.out.blk (he.block p HPL.out))
  have HS3 : Hid (Shape (List.replicate (1 + x) (List.replicate (1 + y) (0 : Int))) (1 + x) (1 + y) ∧ BitG (List.replicate (1 + x) (List.replicate (1 + y) (0 : Int)))) := Lib.hid ⟨⟨List.length_replicate, fun r hr => by rw [List.eq_of_mem_replicate hr, List.length_replicate]⟩, fun r hr z hz => by
    rw [List.eq_of_mem_replicate hr] at hz
    exact Or.inl (List.eq_of_mem_replicate hz)⟩
  obtain ⟨N, hN⟩ : ∃ N, 1 + x = N := ⟨_, rfl⟩
  obtain ⟨K, hK⟩ : ∃ K, 1 + y = K := ⟨_, rfl⟩
  rw [hN, hK] at HS3 HO3
  rw [hN]
  have hn1 : 1 ≤ N := by omega
  have hn5 : N ≤ 5 := by omega
  have hk1 : 1 ≤ K := by omega
  have hk5 : K ≤ 5 := by omega
  have HB2 := Lib.hid HE2.out.size
  clear ce ho he hN hK HCU
  go_wp2_with fail
  go_loopw [19, 6, 7] (fun i _ _ wr => ∃ (a : Nat) (q : Grid), a ≤ N ∧ i = .int .i64 a ∧ Hid (Ext w0 wr) ∧ Hid (Cur wr p xs.length A c) ∧ Hid (OwnGrid wr w2.heap.size (.slice (some ⟨bo, 0, none⟩) N cap) q) ∧ Hid (Shape q N K ∧ BitG q)) (fun i _ _ _ => N - (intOf i).toNat)
  case atStart => exact ⟨0, _, Nat.zero_le _, rfl, HE3, HC3, HO3, HS3⟩
  case round =>
    rename World => wa
    obtain ⟨a, q, ha, rfl, hE, hC, hO, hS⟩ := hrel
    by_cases hlt : a < N
    · obtain ⟨qr, hqr, hqrl⟩ := hS.out.1.get hlt
      obtain ⟨Rq, cR, hcq, _⟩ := hO.out.row hqr (by omega)
      rw [hqrl] at hcq
      clear hqr hqrl
      go_wp2_with fail
      go_loopw [27, 7] (fun i _ wr => ∃ (b : Nat) (q : Grid), b ≤ K ∧ i = .int .i64 b ∧ Hid (Ext w0 wr) ∧ Hid (Cur wr p xs.length A c) ∧ Hid (OwnGrid wr w2.heap.size (.slice (some ⟨bo, 0, none⟩) N cap) q) ∧ Hid (Shape q N K ∧ BitG q)) (fun i _ _ => K - (intOf i).toNat)
      case atStart => exact ⟨0, q, Nat.zero_le _, rfl, hE, hC, hO, hS⟩
      case round =>
        rename World => wb
        clear hE hC hO hS hcq
        obtain ⟨b, q, hbk, rfl, hE, hC, hO, hS⟩ := hrel
        by_cases hltb : b < K
        · obtain ⟨qr, hqr, hqrl⟩ := hS.out.1.get hlt
          obtain ⟨Rq, cR, hcq, hle, hBR, hRl, hints, hfr, hset⟩ := hO.out.row hqr (by omega)
          have hbo : w2.heap.size ≤ bo ∧ bo < wb.heap.size := hO.out.lt rfl
          rw [hqrl] at hcq
          have HQR := Lib.hid hqr
          have HSZ := Lib.hid (And.intro hBR (And.intro hbo.1 hqrl))
          have HRW : Hid (∀ W3, Keep p wb W3 → W3.cell? ⟨bo, a, none⟩ = some (.slice (some ⟨Rq, 0, none⟩) K cR) ∧ W3.frozen? ⟨Rq, b, none⟩ = false ∧ (∃ old, W3.cell? ⟨Rq, b, none⟩ = some (.int .i64 old)) ∧ ∀ z, OwnGrid (W3.setCell ⟨Rq, b, none⟩ (.int .i64 z)) w2.heap.size (.slice (some ⟨bo, 0, none⟩) N cap) (q.set a (qr.set b z))) := Lib.hid fun W3 kp => by
            have ho3 : OwnGrid W3 w2.heap.size (.slice (some ⟨bo, 0, none⟩) N cap) q := hO.out.keep kp HPL.out
            have e1 := cell_blk (kp.2 bo (by have := HPL.out; have := hbo.1; omega)) a
            obtain ⟨R', c', hc', _, _, _, hi', hf', hs'⟩ := ho3.row hqr (by omega)
            rw [hqrl] at hc'
            have e2 := e1.trans hcq
            rw [hc'] at e2
            cases e2
            obtain ⟨old, _, ho4⟩ := hi'.at1 (k := b) (by omega)
            rw [Nat.zero_add] at ho4
            exact ⟨hc', hf' b, ⟨old, ho4⟩, fun z => hs' b z (by omega)⟩
          have HCB : Hid (∀ W, Keep p wb W → W.heap[p]? = wb.heap[p]? → Ext w0 W → Calls Try.prog 63 #[.pointer (some ⟨p, 0, none⟩), .int .i64 2] W fun e w' => ∃ z : Nat, e = .returned (.int .i64 z) ∧ z < 2 ∧ Cur w' p xs.length A c ∧ Ext w0 w' ∧ Keep p wb w') := Lib.hid fun W k1 k2 k3 => (HBE.out 2 W (by omega) (by omega) k3 (hC.out.blk k2)).mono fun e w' ⟨z, g1, g2, g3, g4, g5⟩ => ⟨z, g1, g2, g3, g4, k1.trans g5⟩
          obtain ⟨q1, _, _, _⟩ := HRW.out wb (Keep.refl _ _)
          have HSH := hS
          clear hset hfr hints hqr hqrl hle hRl hcq hBR hbo hO hS hC
          go_wp2_with fail
          first | go_region_with (go_at_call 63; refine (HCB.out _ (by exact ⟨rfl, fun _ _ => rfl⟩) (by rfl) (hE.out.trans (by (repeat (first | exact Ext.refl _ | apply Ext.drew))))).mono ?_; rintro e w4 ⟨z, rfl, hz, k1, k2, k3⟩; obtain ⟨m1, m2, ⟨old, m3⟩, m4⟩ := HRW.out w4 k3) | fail
          all_goals
            have HN1 := Lib.hid (m4 z)
            have HN2 : Hid (Ext w0 (w4.setCell ⟨Rq, b, none⟩ (.int .i64 (z : Int)))) := Lib.hid (Below.setCell k2 (Nat.le_trans HB2.out HSZ.out.1) _)
            have HN3 : Hid (Cur (w4.setCell ⟨Rq, b, none⟩ (.int .i64 (z : Int))) p xs.length A c) := Lib.hid (k1.blk (Below.heap_setCell _ _ _ _ (by have h1 := HPL.out; have h2 := HSZ.out.1; show p ≠ Rq; omega)))
            have HN4 : Hid (Shape (q.set a (qr.set b (z : Int))) N K ∧ BitG (q.set a (qr.set b (z : Int)))) := Lib.hid ⟨shape_set HSH.out.1 HQR.out, HSH.out.2.set HQR.out (by omega)⟩
            clear m4 k1 k2 k3
            go_wp2_with fail
            go_roundw
            case rel => exact ⟨b + 1, _, by omega, by go_num, Lib.hid (HN2.out.trans (by (repeat (first | exact Ext.refl _ | apply Ext.drew)))), Lib.hid (HN3.out.blk rfl), Lib.hid (HN1.out.ext (by (repeat (first | exact Ext.refl _ | apply Ext.drew)))), HN4⟩
            case measure => simp [intOf]; omega
        · obtain rfl : b = K := by omega
          go_wp2_with fail
          go_roundw
          case rel => exact ⟨a + 1, q, by omega, by go_num, hE, hC, hO, hS⟩
          case measure => simp [intOf]; omega
    · obtain rfl : a = N := by omega
      have hqa := hS.out.1.1
      have HG := Lib.hid (bit_grid hS.out.1 hS.out.2 ⟨hn1, hn5⟩ ⟨hk1, hk5⟩)
      have HO4 := Lib.hid (hO.out.base (B' := p + 1) HPL.out)
      clear hS hO
      go_wp2_with fail
      go_ret
      exact ⟨bo, cap, q, by rw [hqa]; rfl, by rw [hqa]; exact HO4.out, HG.out, hE.out, hC.out⟩
set_option maxHeartbeats 4000000 in
theorem MakeImage_any (k : Nat) (A : Option Addr) (c : Nat) (xs : List Int) (w : World) (hk : k = 4 ∨ k = 5) (hb : Bytes w A xs) (hl : xs.length ≤ 1048576) :
    Calls Try.prog 19 #[.slice A xs.length c, .int .i64 0, .int .i64 k] w fun e w' => ∃ b cap m, e = .returned (.slice (some ⟨b, 0, none⟩) m.length cap) ∧ OwnGrid w' w.heap.size (.slice (some ⟨b, 0, none⟩) m.length cap) m ∧ gridOk m 0 1 = true ∧ Ext w w' := by
  have go : ∀ k : Nat, 1 ≤ k → k ≤ 5 → ∀ w1, Cur w1 w.heap.size xs.length A c → Ext w w1 → Calls Try.prog 46 #[.pointer (some ⟨w.heap.size, 0, none⟩), .int .i64 k] w1 _ := fun k h1 h2 w1 hc he => l02Draw_any k A c w.heap.size xs w w1 h1 h2 (Nat.le_refl _) hb he hc hl
  have c1 := l18New_zero A c xs w hb hl
  clear hb
  rcases hk with rfl | rfl
  · have go4 := go 4 (by omega) (by omega)
    clear go
    go_enter Try.func19, Try.ntmps19
    go_wp2_with fail
    refine c1.mono ?_
    rintro e w1 ⟨rfl, h1, h2, h3⟩
    have c2 := go4 w1 h1 h2
    clear c1 h1 h2 h3
    go_wp2_with fail
    refine c2.mono ?_
    rintro e w2 ⟨b, cap, m, rfl, h1, h2, h3, _⟩
    have H := Lib.hid (And.intro (h1.base (B' := w.heap.size) (by omega)) (And.intro h2 h3))
    clear c2 h1 h2 h3
    go_wp2_with fail
    go_ret
    exact ⟨b, cap, m, rfl, H.out.1, H.out.2.1, H.out.2.2⟩
  · have go5 := go 5 (by omega) (by omega)
    clear go
    go_enter Try.func19, Try.ntmps19
    go_wp2_with fail
    refine c1.mono ?_
    rintro e w1 ⟨rfl, h1, h2, h3⟩
    have c2 := go5 w1 h1 h2
    clear c1 h1 h2 h3
    go_wp2_with fail
    refine c2.mono ?_
    rintro e w2 ⟨b, cap, m, rfl, h1, h2, h3, _⟩
    have H := Lib.hid (And.intro (h1.base (B' := w.heap.size) (by omega)) (And.intro h2 h3))
    clear c2 h1 h2 h3
    go_wp2_with fail
    go_ret
    exact ⟨b, cap, m, rfl, H.out.1, H.out.2.1, H.out.2.2⟩
end Go.Proofs.Ytlhjbpachpjpkaa
