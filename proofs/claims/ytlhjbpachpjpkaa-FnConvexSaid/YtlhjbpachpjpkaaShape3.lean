/- The laws' drawn arguments: a shape; one that is a convex polyomino. -/
import Derived.Test.YtlhjbpachpjpkaaShape2
import Derived.Test.YtlhjbpachpjpkaaTurn3
import Derived.BigQuiet
import Derived.Deep.QuietTactic
namespace Go.Proofs.Ytlhjbpachpjpkaa
open Go.RowKit Tomo

set_option maxRecDepth 100000 in
set_option maxHeartbeats 16000000 in
theorem l10Shape_any (A : Option Addr) (c p : Nat) (xs : List Int) (w0 w : World) (hp : w0.heap.size ≤ p) (hb : Bytes w0 A xs) (he : Ext w0 w) (hc : Cur w p xs.length A c) (hl : xs.length ≤ 1048576) :
    Calls Try.prog 31 #[.pointer (some ⟨p, 0, none⟩)] w fun e w' => ∃ B cg g, e = .returned (.slice B g.length cg) ∧ GridAt w' B g ∧ g.length ≤ 6 ∧ (∀ r ∈ g, r.length ≤ 5) ∧ Ext w0 w' ∧ Cur w' p xs.length A c := by
  have HBE := Lib.hid (fun (k : Nat) (W : World) (h1 : 1 ≤ k) (h2 : k ≤ 256) (h3 : Ext w0 W) (h4 : Cur W p xs.length A c) => l01Below_any k A c p xs w0 W h1 h2 hp hb h3 h4 hl)
  have HON := Lib.hid (fun (W : World) (h3 : Ext w0 W) (h4 : Cur W p xs.length A c) => l01Once_any 4 A c p xs w0 W (by omega) (by omega) hp hb h3 h4 hl)
  have HAN := Lib.hid (fun (W : World) (h3 : Ext w0 W) (h4 : Cur W p xs.length A c) => l02Any_any A c p xs w0 W hp hb h3 h4 hl)
  have c1 := HBE.out 4 w (by omega) (by omega) he hc
  clear hb he hc
  go_enter Try.func31, Try.ntmps31
  go_wp2_with fail
  refine c1.mono ?_
  rintro e w1 ⟨x, rfl, hx, h1, h2, h3⟩
  have c2 := HBE.out 5 w1 (by omega) (by omega) h2 h1
  clear c1 h1 h2 h3
  go_wp2_with fail
  refine c2.mono ?_
  rintro e w2 ⟨y, rfl, hy, h1, h2, _⟩
  have ce := l02Empty_any (1 + x) (1 + y) w2 (by omega) (by omega) (by omega) (by omega)
  rw [show ((1 + x : Nat) : Int) = 1 + (x : Int) by omega, show ((1 + y : Nat) : Int) = 1 + (y : Int) by omega] at ce
  have HCU := Lib.hid h1
  have HE2 := Lib.hid h2
  have HPL := Lib.hid h1.lt
  clear c2 h1 h2
  go_wp2_with fail
  refine ce.mono ?_
  rintro e w3 ⟨bo, cap, rfl, ho, he⟩
  have HO3 := Lib.hid ho
  have HE3 := Lib.hid (HE2.out.trans he)
  have HC3 := Lib.hid (HCU.out.blk (he.block p HPL.out))
  have HS3 : Hid (Shape (List.replicate (1 + x) (List.replicate (1 + y) (0 : Int))) (1 + x) (1 + y)) := Lib.hid ⟨List.length_replicate, fun r hr => by rw [List.eq_of_mem_replicate hr, List.length_replicate]⟩
  obtain ⟨N, hN⟩ : ∃ N, 1 + x = N := ⟨_, rfl⟩
  obtain ⟨K, hK⟩ : ∃ K, 1 + y = K := ⟨_, rfl⟩
  rw [hN, hK] at HS3 HO3
  rw [hN]
  have hn1 : 1 ≤ N := by omega
  have hn5 : N ≤ 4 := by omega
  have hk1 : 1 ≤ K := by omega
  have hk5 : K ≤ 5 := by omega
  obtain ⟨q0, hq0, hq0l⟩ := HS3.out.get (show 0 < N by omega)
  obtain ⟨R0, cR0, hcq0, _⟩ := HO3.out.row hq0 (by omega)
  rw [hq0l] at hcq0
  have hn0 : 0 < N := by omega
  have hnI : (0 : Int) < (N : Int) := by omega
  have cb := HBE.out K w3 hk1 (by omega) HE3.out HC3.out
  clear ce ho he hN hK HCU hq0 hq0l
  go_wp2_with fail
  refine cb.mono ?_
  rintro e w4 ⟨t0, rfl, ht0, h1, h2, h3⟩
  have HC4 := Lib.hid h1
  have HE4 := Lib.hid h2
  have HO4 := Lib.hid (HO3.out.keep h3 HPL.out)
  have HB2 := Lib.hid HE2.out.size
  clear cb h1 h2 h3 HO3 hcq0
  go_wp2_with fail
  go_loopw [24, 4, 5, 6, 7, 8] (fun i f t _ _ _ wr => ∃ (a ff tt : Nat) (q : Grid), a ≤ N ∧ i = .int .i64 a ∧ f = .int .i64 ff ∧ t = .int .i64 tt ∧ ff ≤ tt ∧ tt < K ∧ Hid (Ext w0 wr) ∧ Hid (Cur wr p xs.length A c) ∧ Hid (OwnGrid wr w2.heap.size (.slice (some ⟨bo, 0, none⟩) N cap) q) ∧ Hid (Shape q N K)) (fun i _ _ _ _ _ _ => N - (intOf i).toNat)
  case atStart => exact ⟨0, 0, t0, _, Nat.zero_le _, rfl, rfl, rfl, Nat.zero_le _, ht0, HE4, HC4, HO4, HS3⟩
  case round =>
    rename World => wa
    obtain ⟨a, ff, tt, q, ha, rfl, rfl, rfl, hft, htk, hE, hC, hO, hS⟩ := hrel
    clear HC4 HE4 HO4 HS3
    by_cases hlt : a < N
    · have hltI : (a : Int) < (N : Int) := by omega
      go_wp2_with fail
      go_loopw [7] (fun i wr => ∃ (b : Nat) (q : Grid), ff ≤ b ∧ b ≤ tt + 1 ∧ i = .int .i64 b ∧ Hid (Ext w0 wr) ∧ Hid (Cur wr p xs.length A c) ∧ Hid (OwnGrid wr w2.heap.size (.slice (some ⟨bo, 0, none⟩) N cap) q) ∧ Hid (Shape q N K)) (fun i _ => tt + 1 - (intOf i).toNat)
      case atStart => exact ⟨ff, q, Nat.le_refl _, by omega, rfl, hE, hC, hO, hS⟩
      case round =>
        rename World => wb
        clear hE hC hO hS
        obtain ⟨b, q, hfb, hbt, rfl, hE, hC, hO, hS⟩ := hrel
        by_cases hltb : b ≤ tt
        · obtain ⟨qr, hqr, hqrl⟩ := hS.out.get hlt
          obtain ⟨Rq, cR, hcq, hle, hBR, hRl, hints, hfr, hset⟩ := hO.out.row hqr (by omega)
          obtain ⟨old, _, hold⟩ := hints.at1 (k := b) (by omega)
          rw [hqrl] at hcq
          rw [Nat.zero_add] at hold
          have hfr0 := hfr b
          have HN1 := Lib.hid (hset b 1 (by omega))
          have HN2 : Hid (Ext w0 (wb.setCell ⟨Rq, b, none⟩ (.int .i64 1))) := Lib.hid (Below.setCell hE.out (Nat.le_trans HB2.out hBR) _)
          have HN3 : Hid (Cur (wb.setCell ⟨Rq, b, none⟩ (.int .i64 1)) p xs.length A c) := Lib.hid (hC.out.blk (Below.heap_setCell _ _ _ _ (by have h1 := HPL.out; show p ≠ Rq; omega)))
          have HN4 : Hid (Shape (q.set a (qr.set b 1)) N K) := Lib.hid (shape_set hS.out hqr)
          have hbI : (b : Int) ≤ (tt : Int) := by omega
          have hbK : (b : Int) < (K : Int) := by omega
          clear hset hfr hints hqr hqrl hle hRl hBR hE hC hO hS
          go_wp2_with fail
          go_roundw
          case rel => exact ⟨b + 1, _, by omega, by omega, by go_num, HN2, HN3, HN1, HN4⟩
          case measure => simp [intOf]; omega
        · obtain rfl : b = tt + 1 := by omega
          have cx := HBE.out (tt - ff + 1) wb (by omega) (by omega) hE.out hC.out
          rw [show ((tt - ff + 1 : Nat) : Int) = (tt : Int) - (ff : Int) + 1 by omega] at cx
          have HSW := hS
          go_wp2_with fail
          refine cx.mono ?_
          rintro e w5 ⟨d, rfl, hd, g1, g2, g3⟩
          have HC5 := Lib.hid g1
          have HE5 := Lib.hid g2
          have HO5 := Lib.hid (hO.out.keep g3 HPL.out)
          have cy := HBE.out 2 w5 (by omega) (by omega) g2 g1
          obtain ⟨at_, hat⟩ : ∃ at_, ff + d = at_ := ⟨_, rfl⟩
          clear cx g1 g2 g3 hE hC hO
          go_wp2_with fail
          refine cy.mono ?_
          rintro e w6 ⟨z, rfl, hz, g1, g2, g3⟩
          have HC6 := Lib.hid g1
          have HE6 := Lib.hid g2
          have HO6 := Lib.hid (HO5.out.keep g3 HPL.out)
          clear cy g1 g2 g3 HC5 HE5 HO5
          obtain ⟨qr, hqr, hqrl⟩ := hS.out.get (show 0 < N by omega)
          obtain ⟨Rq, cR, hcq, _⟩ := HO6.out.row hqr (by omega)
          rw [hqrl] at hcq
          have hbo := HO6.out.lt (b := bo) rfl
          have HRW : Hid (∀ W3, Keep p w6 W3 → W3.cell? ⟨bo, 0, none⟩ = some (.slice (some ⟨Rq, 0, none⟩) K cR)) := Lib.hid fun W3 kp => (cell_blk (kp.2 bo (by have := HPL.out; omega)) 0).trans hcq
          have HCB : Hid (∀ W, Keep p w6 W → W.heap[p]? = w6.heap[p]? → Ext w0 W → Calls Try.prog 63 #[.pointer (some ⟨p, 0, none⟩), .int .i64 3] W fun e w' => ∃ z : Nat, e = .returned (.int .i64 z) ∧ z < 3 ∧ Cur w' p xs.length A c ∧ Ext w0 w' ∧ Keep p w6 w') := Lib.hid fun W k1 k2 k3 => (HBE.out 3 W (by omega) (by omega) k3 (HC6.out.blk k2)).mono fun e w' ⟨z, g1, g2, g3, g4, g5⟩ => ⟨z, g1, g2, g3, g4, k1.trans g5⟩
          have HSQ := hS
          clear hqr hqrl hbo hS HSW
          go_wp2_with fail
          all_goals
            first | go_region_with (go_at_call 63; refine (HCB.out _ (by exact ⟨rfl, fun _ _ => rfl⟩) (by rfl) (HE6.out.trans (by (repeat (first | exact Ext.refl _ | apply Ext.drew))))).mono ?_; rintro e w7 ⟨z3, rfl, hz3, k1, k2, k3⟩; have m1 := HRW.out w7 k3) | fail
          all_goals
            have HC7 := Lib.hid k1
            have HE7 := Lib.hid k2
            have HO7 := Lib.hid (HO6.out.keep k3 HPL.out)
            clear k1 k2 k3 m1
            go_wp2_with fail
          all_goals
            go_roundw
          all_goals
            first
            | (case rel => exact ⟨a + 1, ff + d - z, min (K - 1) (ff + d + z3), q, by omega, by go_num, by congr 1; omega, by congr 1; omega, by omega, by omega, HE7.out.trans (by (repeat (first | exact Ext.refl _ | apply Ext.drew))), HC7, HO7, HSQ⟩)
            | (case measure => simp [intOf]; omega)
    · obtain rfl : a = N := by omega
      have co := HON.out wa hE.out hC.out
      have HO := hO
      have HS := hS
      clear hE hC hO hS
      go_wp2_with fail
      refine co.mono ?_
      rintro e w5 ⟨b, rfl, g1, g2, g3⟩
      have HC5 := Lib.hid g1
      have HE5 := Lib.hid g2
      have HO5 := Lib.hid (HO.out.keep g3 HPL.out)
      have ca := HAN.out w5 g2 g1
      clear co g1 g2 g3 HO
      cases b
      · go_wp2_with fail
        go_ret
        exact ⟨_, cap, q, by rw [HS.out.1]; rfl, HO5.out.gridAt, by rw [HS.out.1]; omega, (fun r hr => by rw [HS.out.2 r hr]; exact hk5), HE5.out, HC5.out⟩
      · go_wp2_with fail
        refine ca.mono ?_
        rintro e w6 ⟨B, cg, g, rfl, g1, g2, g3, g4, g5⟩
        have H := Lib.hid (And.intro g1 (And.intro g2 (And.intro g3 (And.intro g4 g5))))
        clear ca g1 g2 g3 g4 g5
        go_wp2_with fail
        go_ret
        exact ⟨B, cg, g, rfl, H.out.1, H.out.2.1, H.out.2.2.1, H.out.2.2.2.1, H.out.2.2.2.2⟩
end Go.Proofs.Ytlhjbpachpjpkaa
