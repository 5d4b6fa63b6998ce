/- The laws' drawn arguments: a cursor that has gone on; directions. -/
import Derived.Test.YtpmpbdcbiaohdaaMake2
import Derived.Test.YtpmpbdcbiaohdaaDiA
namespace Go.Proofs.Ytpmpbdcbiaohdaa
open Go.RowKit Tomo

set_option maxHeartbeats 4000000 in
theorem l18New_any (k : Nat) (A : Option Addr) (c : Nat) (xs : List Int) (w : World) (hk : k ≤ 1000) (hb : Bytes w A xs) (hl : xs.length ≤ 1048576) :
    Calls Try.prog 20 #[.slice A xs.length c, .int .i64 k] w fun e w' => e = .returned (.pointer (some ⟨w.heap.size, 0, none⟩)) ∧ Cur w' w.heap.size xs.length A c ∧ Ext w w' ∧ w'.heap.size = w.heap.size + 1 := by
  have c1 := l01New_any A c xs w hb hl
  have HB := Lib.hid hb
  clear hb
  go_enter Try.func20, Try.ntmps20
  go_wp2_with fail
  refine c1.mono ?_
  rintro e w1 ⟨rfl, h1, h2, h3⟩
  have H := Lib.hid (And.intro h1 (And.intro h2 h3))
  clear c1 h1 h2 h3
  go_wp2_with fail
  go_loopw [6] (fun i wr => ∃ j : Nat, j ≤ k ∧ i = .int .i64 j ∧ Hid (Cur wr w.heap.size xs.length A c ∧ Ext w wr ∧ wr.heap.size = w.heap.size + 1)) (fun i _ => k - (intOf i).toNat)
  case atStart => exact ⟨0, Nat.zero_le _, rfl, H⟩
  case round =>
    rename World => wr
    obtain ⟨j, hj, rfl, hC⟩ := hrel
    by_cases hlt : j < k
    · have cb := l01Byte_any A c w.heap.size xs w wr (Nat.le_refl _) HB.out hC.out.2.1 hC.out.1 hl
      go_wp2_with fail
      refine cb.mono ?_
      rintro e w2 ⟨x, rfl, _, _, g1, g2, g3⟩
      have HC := Lib.hid (And.intro g1 (And.intro g2 (g3.1.trans hC.out.2.2)))
      clear cb g1 g2 g3 hC
      go_wp2_with fail
      go_roundw
      case rel => exact ⟨j + 1, by omega, by go_num, HC⟩
      case measure => simp [intOf]; omega
    · obtain rfl : j = k := by omega
      go_wp2_with fail
      go_ret
      exact ⟨rfl, hC.out.1, hC.out.2.1, hC.out.2.2⟩
/-- all blocks that stood but one are as they were -/
def Keeps (p : Nat) (w w' : World) : Prop := w.heap.size ≤ w'.heap.size ∧ ∀ k, k < w.heap.size → k ≠ p → w'.heap[k]? = w.heap[k]?
theorem Keep.keeps {p : Nat} {w w' : World} (h : Keep p w w') : Keeps p w w' := ⟨by rw [h.1]; exact Nat.le_refl _, fun k _ hk => h.2 k hk⟩
theorem Keeps.trans {p : Nat} {a b c : World} (h : Keeps p a b) (k : Keeps p b c) : Keeps p a c := ⟨Nat.le_trans h.1 k.1, fun i hi hp => (k.2 i (by have := h.1; omega) hp).trans (h.2 i hi hp)⟩
theorem Ext.keeps {p : Nat} {w w' : World} (h : Ext w w') : Keeps p w w' := ⟨h.size, fun k hk _ => h.block k hk⟩
end Go.Proofs.Ytpmpbdcbiaohdaa
