/- The laws' drawn arguments: a cursor that has gone on; directions. -/
import Derived.Test.YtcojhogndimboaaMake2
import Derived.Test.YtcojhogndimboaaDirs3
namespace Go.Proofs.Ytcojhogndimboaa
open Go.RowKit Tomo

set_option maxHeartbeats 4000000 in
theorem l01Pick_any (B : Option Addr) (cb : Nat) (ls : List Int) (A : Option Addr) (c p : Nat) (xs : List Int) (w0 w : World) (hl1 : 1 ≤ ls.length) (hl2 : ls.length ≤ 256) (hp : w0.heap.size ≤ p) (hb : Bytes w0 A xs) (he : Ext w0 w) (hc : Cur w p xs.length A c) (hl : xs.length ≤ 1048576) (hs : ∀ w', Ext w0 w' → Keep p w w' → Ints w' B ls) :
    Calls Try.prog 11 #[.pointer (some ⟨p, 0, none⟩), .slice B ls.length cb] w fun e w' => ∃ x ∈ ls, e = .returned (.int .i64 x) ∧ Cur w' p xs.length A c ∧ Ext w0 w' ∧ Keep p w w' := by
  have c1 := l01Below_any ls.length A c p xs w0 w hl1 hl2 hp hb he hc hl
  have HS := Lib.hid hs
  clear hb he hc hs
  go_enter Try.func11, Try.ntmps11
  go_wp2_with fail
  refine c1.mono ?_
  rintro e w1 ⟨x, rfl, hx, h1, h2, h3⟩
  obtain ⟨b, o, y, rfl, _, hy, hcy⟩ := (HS.out w1 h2 h3).at_ hx
  have H := Lib.hid (And.intro h1 (And.intro h2 h3))
  have HM := Lib.hid (List.mem_of_getElem? hy.out)
  clear c1 h1 h2 h3 hy
  go_wp2_with fail
  go_ret
  exact ⟨y, HM.out, rfl, H.out.1, H.out.2.1, H.out.2.2⟩
/-- all blocks that stood but one are as they were -/
def Keeps (p : Nat) (w w' : World) : Prop := w.heap.size ≤ w'.heap.size ∧ ∀ k, k < w.heap.size → k ≠ p → w'.heap[k]? = w.heap[k]?
theorem Keep.keeps {p : Nat} {w w' : World} (h : Keep p w w') : Keeps p w w' := ⟨by rw [h.1]; exact Nat.le_refl _, fun k _ hk => h.2 k hk⟩
theorem Keeps.trans {p : Nat} {a b c : World} (h : Keeps p a b) (k : Keeps p b c) : Keeps p a c := ⟨Nat.le_trans h.1 k.1, fun i hi hp => (k.2 i (by have := h.1; omega) hp).trans (h.2 i hi hp)⟩
theorem Ext.keeps {p : Nat} {w w' : World} (h : Ext w w') : Keeps p w w' := ⟨h.size, fun k hk _ => h.block k hk⟩
end Go.Proofs.Ytcojhogndimboaa
