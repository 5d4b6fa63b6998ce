/- The laws' drawn arguments: a cursor that has gone on; directions. -/
import Derived.Test.YtlhjbpachpjpkaaMake2
import Derived.Test.YtlhjbpachpjpkaaDiA
namespace Go.Proofs.Ytlhjbpachpjpkaa
open Go.RowKit Tomo

set_option maxHeartbeats 4000000 in
theorem l18New_any (k : Nat) (A : Option Addr) (c : Nat) (xs : List Int) (w : World) (hk : k ≤ 1000) (hb : Bytes w A xs) (hl : xs.length ≤ 1048576) :
    Calls Try.prog 47 #[.slice A xs.length c, .int .i64 k] w fun e w' => e = .returned (.pointer (some ⟨w.heap.size, 0, none⟩)) ∧ Cur w' w.heap.size xs.length A c ∧ Ext w w' ∧ w'.heap.size = w.heap.size + 1 := by
  have c1 := l01New_any A c xs w hb hl
  have HB := Lib.hid hb
  clear hb
  go_enter Try.func47, Try.ntmps47
  go_wp2_with fail
  refine c1.mono ?_
  rintro e w1 ⟨rfl, h1, h2, h3⟩
  have H := Lib.hid (And.intro h1 (And.intro h2 h3))
  clear c1 h1 h2 h3
  go_wp2_with fail
  go_loopw [6] (fun i wr => ∃ j : Nat, j ≤ k ∧ i = .int .i64 j ∧ Hid (Cur wr w.heap.size xs.length A c ∧ Ext w wr ∧ wr.heap.size = w.heap.size + 1)) (fun i _ => k - (intOf i).toNat)
  case atStart => exact ⟨0, Nat.zero_le _, rfl, H⟩
  case round =>
    rename World => wr
    obtain ⟨j, hj, rfl, hC⟩ := hrel
    by_cases hlt : j < k
    · have cb := l01Byte_any A c w.heap.size xs w wr (Nat.le_refl _) HB.out hC.out.2.1 hC.out.1 hl
      go_wp2_with fail
      refine cb.mono ?_
      rintro e w2 ⟨x, rfl, _, _, g1, g2, g3⟩
      have HC := Lib.hid (And.intro g1 (And.intro g2 (g3.1.trans hC.out.2.2)))
      clear cb g1 g2 g3 hC
      go_wp2_with fail
      go_roundw
      case rel => exact ⟨j + 1, by omega, by go_num, HC⟩
      case measure => simp [intOf]; omega
    · obtain rfl : j = k := by omega
      go_wp2_with fail
      go_ret
      exact ⟨rfl, hC.out.1, hC.out.2.1, hC.out.2.2⟩
set_option maxHeartbeats 4000000 in
theorem l01Pick_any (B : Option Addr) (cb : Nat) (ls : List Int) (A : Option Addr) (c p : Nat) (xs : List Int) (w0 w : World) (hl1 : 1 ≤ ls.length) (hl2 : ls.length ≤ 256) (hp : w0.heap.size ≤ p) (hb : Bytes w0 A xs) (he : Ext w0 w) (hc : Cur w p xs.length A c) (hl : xs.length ≤ 1048576) (hs : ∀ w', Ext w0 w' → Keep p w w' → Ints w' B ls) :
    Calls Try.prog 102 #[.pointer (some ⟨p, 0, none⟩), .slice B ls.length cb] w fun e w' => ∃ x ∈ ls, e = .returned (.int .i64 x) ∧ Cur w' p xs.length A c ∧ Ext w0 w' ∧ Keep p w w' := by
  have c1 := l01Below_any ls.length A c p xs w0 w hl1 hl2 hp hb he hc hl
  have HS := Lib.hid hs
  clear hb he hc hs
  go_enter Try.func102, Try.ntmps102
  go_wp2_with fail
  refine c1.mono ?_
  rintro e w1 ⟨x, rfl, hx, h1, h2, h3⟩
  obtain ⟨b, o, y, rfl, _, hy, hcy⟩ := (HS.out w1 h2 h3).at_ hx
  have H := Lib.hid (And.intro h1 (And.intro h2 h3))
  have HM := Lib.hid (List.mem_of_getElem? hy.out)
  clear c1 h1 h2 h3 hy
  go_wp2_with fail
  go_ret
  exact ⟨y, HM.out, rfl, H.out.1, H.out.2.1, H.out.2.2⟩
/-- all blocks that stood but one are as they were -/
def Keeps (p : Nat) (w w' : World) : Prop := w.heap.size ≤ w'.heap.size ∧ ∀ k, k < w.heap.size → k ≠ p → w'.heap[k]? = w.heap[k]?
theorem Keep.keeps {p : Nat} {w w' : World} (h : Keep p w w') : Keeps p w w' := ⟨by rw [h.1]; exact Nat.le_refl _, fun k _ hk => h.2 k hk⟩
theorem Keeps.trans {p : Nat} {a b c : World} (h : Keeps p a b) (k : Keeps p b c) : Keeps p a c := ⟨Nat.le_trans h.1 k.1, fun i hi hp => (k.2 i (by have := h.1; omega) hp).trans (h.2 i hi hp)⟩
theorem Ext.keeps {p : Nat} {w w' : World} (h : Ext w w') : Keeps p w w' := ⟨h.size, fun k hk _ => h.block k hk⟩
end Go.Proofs.Ytlhjbpachpjpkaa
