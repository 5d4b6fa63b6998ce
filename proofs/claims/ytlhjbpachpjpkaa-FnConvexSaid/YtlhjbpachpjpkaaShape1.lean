/- The laws' drawn arguments: a number near, an image of any kind. -/
import Derived.Test.YtlhjbpachpjpkaaMake3
import Derived.Test.YtlhjbpachpjpkaaPaint1
import Derived.Deep.RegionWith
namespace Go.Proofs.Ytlhjbpachpjpkaa
open Go.RowKit Tomo

set_option maxHeartbeats 4000000 in
theorem l01Once_any (k : Nat) (A : Option Addr) (c p : Nat) (xs : List Int) (w0 w : World) (h1 : 1 ≤ k) (h2 : k ≤ 256) (hp : w0.heap.size ≤ p) (hb : Bytes w0 A xs) (he : Ext w0 w) (hc : Cur w p xs.length A c) (hl : xs.length ≤ 1048576) :
    Calls Try.prog 64 #[.pointer (some ⟨p, 0, none⟩), .int .i64 k] w fun e w' => ∃ b : Bool, e = .returned (.bool b) ∧ Cur w' p xs.length A c ∧ Ext w0 w' ∧ Keep p w w' := by
  have c1 := l01Below_any k A c p xs w0 w h1 h2 hp hb he hc hl
  clear hb he hc
  go_enter Try.func64, Try.ntmps64
  go_wp2_with fail
  refine c1.mono ?_
  rintro e w1 ⟨x, rfl, hx, h1, h2, h3⟩
  have H := Lib.hid (And.intro h1 (And.intro h2 h3))
  clear c1 h1 h2 h3
  go_wp2_with fail
  go_ret
  exact ⟨_, rfl, H.out.1, H.out.2.1, H.out.2.2⟩
def fiveI : List Int := [9223372036854775807, -9223372036854775808, -1, 0, 1000000000]
set_option maxRecDepth 100000 in
set_option maxHeartbeats 8000000 in
theorem l01Near01_any (A : Option Addr) (c p : Nat) (xs : List Int) (w0 w : World) (hp : w0.heap.size ≤ p) (hb : Bytes w0 A xs) (he : Ext w0 w) (hc : Cur w p xs.length A c) (hl : xs.length ≤ 1048576) :
    Calls Try.prog 89 #[.pointer (some ⟨p, 0, none⟩), .int .i64 0, .int .i64 1] w fun e w' => ∃ v : Int, e = .returned (.int .i64 v) ∧ Cur w' p xs.length A c ∧ Ext w0 w' ∧ Keeps p w w' := by
  have c1 := l01Below_any 12 A c p xs w0 w (by omega) (by omega) hp hb he hc hl
  have HB2 := Lib.hid (fun (W : World) (e : Ext w0 W) (h : Cur W p xs.length A c) => l01Below_any 2 A c p xs w0 W (by omega) (by omega) hp hb e h hl)
  have HPK := Lib.hid (fun (W : World) (e : Ext w0 W) (h : Cur W p xs.length A c) (B : Nat) (hs : ∀ w', Ext w0 w' → Keep p W w' → Ints w' (some ⟨B, 0, none⟩) fiveI) => l01Pick_any (some ⟨B, 0, none⟩) 5 fiveI A c p xs w0 W (by decide) (by decide) hp hb e h hl hs)
  clear hb he hc
  go_enter Try.func89, Try.ntmps89
  go_wp2_with fail
  refine c1.mono ?_
  rintro e w1 ⟨x, rfl, hx, h1, h2, h3⟩
  have HC := Lib.hid h1
  have HE := Lib.hid h2
  have HK := Lib.hid h3
  clear c1 h1 h2 h3
  have h6 : x = 0 ∨ x = 1 ∨ x = 2 ∨ x = 3 ∨ x = 4 ∨ 5 ≤ x := by omega
  rcases h6 with rfl | rfl | rfl | rfl | rfl | h5
  · go_wp2_with fail
    go_ret
    exact ⟨_, rfl, HC.out, HE.out, HK.out.keeps⟩
  · go_wp2_with fail
    go_ret
    exact ⟨_, rfl, HC.out, HE.out, HK.out.keeps⟩
  · go_wp2_with fail
    go_ret
    exact ⟨_, rfl, HC.out, HE.out, HK.out.keeps⟩
  · go_wp2_with fail
    go_ret
    exact ⟨_, rfl, HC.out, HE.out, HK.out.keeps⟩
  · have hpl := HC.out.lt
    obtain ⟨W, hW⟩ : ∃ W, w1.alloc (.cells #[.int .i64 9223372036854775807, .int .i64 (-9223372036854775808), .int .i64 (-1), .int .i64 0, .int .i64 1000000000] 3) = W := ⟨_, rfl⟩
    have hWE : Ext w1 W := by rw [← hW]; exact (Ext.refl w1).alloc _
    have hsz : W.heap.size = w1.heap.size + 1 := by rw [← hW]; simp
    have hcells : Ints W (some ⟨w1.heap.size, 0, none⟩) fiveI := fun k y hk => by
      refine ⟨w1.heap.size, 0, rfl, by omega, ?_⟩
      have hk6 : k < 5 := (List.getElem?_eq_some_iff.1 hk).1
      rw [← hW]
      have h6 : k = 0 ∨ k = 1 ∨ k = 2 ∨ k = 3 ∨ k = 4 := by omega
      rcases h6 with rfl | rfl | rfl | rfl | rfl <;> (cases hk; simp)
    have cp := HPK.out W (HE.out.trans hWE) (HC.out.blk (hWE.block p hpl)) w1.heap.size (fun w' _ kp k y hk => by
      obtain ⟨b, o, g1, g2, g3⟩ := hcells k y hk
      cases g1
      exact ⟨_, _, rfl, by rw [kp.1]; exact g2, (cell_blk (kp.2 _ (by omega)) _).trans g3⟩)
    have HW := Lib.hid hW
    have HWE := Lib.hid hWE
    clear hW hWE hsz hcells hpl
    go_upto_region 12 with fail
    go_wp2_with fail
    rw [HW.out]
    refine cp.mono ?_
    rintro e w2 ⟨v, _, rfl, g1, g2, g3⟩
    have H := Lib.hid (And.intro g1 (And.intro g2 ((HK.out.keeps.trans HWE.out.keeps).trans g3.keeps)))
    clear cp g1 g2 g3
    go_wp2_with fail
    go_ret
    exact ⟨_, rfl, H.out.1, H.out.2.1, H.out.2.2⟩
  · have b0 : ((x : Int) == 0) = false := by simp; omega
    have b1 : ((x : Int) == 1) = false := by simp; omega
    have b2 : ((x : Int) == 2) = false := by simp; omega
    have b3 : ((x : Int) == 3) = false := by simp; omega
    have b4 : ((x : Int) == 4) = false := by simp; omega
    have cb := HB2.out w1 HE.out HC.out
    go_wp2_with fail
    refine cb.mono ?_
    rintro e w2 ⟨z, rfl, hz, g1, g2, g3⟩
    have H := Lib.hid (And.intro g1 (And.intro g2 (HK.out.keeps.trans g3.keeps)))
    clear cb g1 g2 g3
    go_wp2_with fail
    go_ret
    exact ⟨_, rfl, H.out.1, H.out.2.1, H.out.2.2⟩
end Go.Proofs.Ytlhjbpachpjpkaa
