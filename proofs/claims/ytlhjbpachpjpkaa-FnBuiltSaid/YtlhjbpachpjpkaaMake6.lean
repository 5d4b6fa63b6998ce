/- The laws' drawn arguments: an image of a size given; a number. -/
import Derived.Test.YtlhjbpachpjpkaaMake3
namespace Go.Proofs.Ytlhjbpachpjpkaa
open Go.RowKit Tomo
theorem shape_head {q : Grid} {n k : Nat} (h : Shape q n k) (hn : 1 ≤ n) : (q.headD []).length = k := by
  cases q with
  | nil => have h0 := h.1; rw [List.length_nil] at h0; omega
  | cons r l => exact h.2 r List.mem_cons_self
set_option maxHeartbeats 4000000 in
theorem MakeNum_any (k : Nat) (A : Option Addr) (c : Nat) (xs : List Int) (w : World) (hk : k ≤ 1000) (hb : Bytes w A xs) (hl : xs.length ≤ 1048576) :
    Calls Try.prog 23 #[.slice A xs.length c, .int .i64 k] w fun e w' => ∃ z : Nat, e = .returned (.int .i64 z) ∧ z ≤ 65535 ∧ Ext w w' := by
  have HBY := Lib.hid (fun (W : World) (h3 : Ext w W) (h4 : Cur W w.heap.size xs.length A c) => l01Byte_any A c w.heap.size xs w W (Nat.le_refl _) hb h3 h4 hl)
  have c1 := l18New_any k A c xs w hk hb hl
  clear hb
  go_enter Try.func23, Try.ntmps23
  go_wp2_with fail
  refine c1.mono ?_
  rintro e w2 ⟨rfl, h1, h2, h3⟩
  have c2 := HBY.out w2 h2 h1
  clear c1 h1 h2 h3
  go_wp2_with fail
  refine c2.mono ?_
  rintro e w3 ⟨x, rfl, hx0, hx1, g1, g2, _⟩
  obtain ⟨z, rfl⟩ : ∃ z : Nat, x = z := ⟨x.toNat, by omega⟩
  have c3 := HBY.out w3 g2 g1
  have wm : IntKind.i64.wrap ((z : Int) * 256) = (z : Int) * 256 := IntWalk.i64_in _ (by omega)
  clear c2 g1 g2
  go_wp2_with fail
  refine c3.mono ?_
  rintro e w4 ⟨y, rfl, hy0, hy1, g1, g2, _⟩
  obtain ⟨v, rfl⟩ : ∃ v : Nat, y = v := ⟨y.toNat, by omega⟩
  have wa : IntKind.i64.wrap ((z : Int) * 256 + v) = (z : Int) * 256 + v := IntWalk.i64_in _ (by omega)
  have HE := Lib.hid g2
  clear c3 g1 g2
  go_wp2_with fail
  go_ret
  exact ⟨z * 256 + v, by simp, by omega, HE.out⟩
end Go.Proofs.Ytlhjbpachpjpkaa
