/- The laws' drawn arguments: an image of a size given; a number. -/
import Derived.Test.YtiekgdgonleoaaaMake3
namespace Go.Proofs.Ytiekgdgonleoaaa
open Go.RowKit Tomo
theorem shape_head {q : Grid} {n k : Nat} (h : Shape q n k) (hn : 1 ≤ n) : (q.headD []).length = k := by
  cases q with
  | nil => have h0 := h.1; rw [List.length_nil] at h0; omega
  | cons r l => exact h.2 r List.mem_cons_self
set_option maxRecDepth 100000 in
set_option maxHeartbeats 4000000 in
theorem MakeSized_any (kk n k : Nat) (A : Option Addr) (c : Nat) (xs : List Int) (w : World) (hkk : kk ≤ 1000) (hn : 1 ≤ n ∧ n ≤ 5) (hk : 1 ≤ k ∧ k ≤ 5) (hb : Bytes w A xs) (hl : xs.length ≤ 1048576) :
    Calls Try.prog 6 #[.slice A xs.length c, .int .i64 kk, .int .i64 n, .int .i64 k] w fun e w' => ∃ b cap m, e = .returned (.slice (some ⟨b, 0, none⟩) m.length cap) ∧ OwnGrid w' w.heap.size (.slice (some ⟨b, 0, none⟩) m.length cap) m ∧ gridOk m 0 1 = true ∧ m.length = n ∧ (m.headD []).length = k ∧ Ext w w' := by
  obtain ⟨hn1, hn5⟩ := hn
  obtain ⟨hk1, hk5⟩ := hk
  have HBE := Lib.hid (fun (k : Nat) (W : World) (h1 : 1 ≤ k) (h2 : k ≤ 256) (h3 : Ext w W) (h4 : Cur W w.heap.size xs.length A c) => l01Below_any k A c w.heap.size xs w W h1 h2 (Nat.le_refl _) hb h3 h4 hl)
  have c1 := l18New_any kk A c xs w hkk hb hl
  have mn2 : (if (1 : Int) < n then (n : Int) else 1) = n := by split <;> omega
  have mk2 : (if (1 : Int) < k then (k : Int) else 1) = k := by split <;> omega
  clear hb
  go_enter Try.func6, Try.ntmps6
  go_wp2_with fail
  refine c1.mono ?_
  rintro e w2 ⟨rfl, h1, h2, h3⟩
  have ce := l02Empty_any n k w2 (by omega) (by omega) (by omega) (by omega)
  have HCU := Lib.hid h1
  have HE2 := Lib.hid h2
  have HPL := Lib.hid h1.lt
  have HKY : Hid (∀ (x y : Int), x = n → y = k → Calls Try.prog 24 #[.int .i64 x, .int .i64 y] w2 _) := Lib.hid (by rintro _ _ rfl rfl; exact ce)
  clear c1 h1 h2 h3 ce
  go_wp2_with fail
  all_goals
    refine (HKY.out _ _ (by first | rfl | omega) (by first | rfl | omega)).mono ?_
    rintro e w3 ⟨bo, cap, rfl, ho, he⟩
    have HO3 := Lib.hid ho
    have HE3 := Lib.hid (HE2.out.trans he)
    have HC3 := Lib.hid (HCU.out.blk (he.block w.heap.size HPL.out))
    have HS3 : Hid (Shape (List.replicate n (List.replicate k (0 : Int))) n k ∧ BitG (List.replicate n (List.replicate k (0 : Int)))) := Lib.hid ⟨⟨List.length_replicate, fun r hr => by rw [List.eq_of_mem_replicate hr, List.length_replicate]⟩, fun r hr z hz => by
      rw [List.eq_of_mem_replicate hr] at hz
      exact Or.inl (List.eq_of_mem_replicate hz)⟩
    have HB2 := Lib.hid HE2.out.size
    clear ho he HCU
    go_wp2_with fail
    go_loopw [25, 11, 12] (fun i _ _ wr => ∃ (a : Nat) (q : Grid), a ≤ n ∧ i = .int .i64 a ∧ Hid (Ext w wr) ∧ Hid (Cur wr w.heap.size xs.length A c) ∧ Hid (OwnGrid wr w2.heap.size (.slice (some ⟨bo, 0, none⟩) n cap) q) ∧ Hid (Shape q n k ∧ BitG q)) (fun i _ _ _ => n - (intOf i).toNat)
    case atStart => exact ⟨0, _, Nat.zero_le _, rfl, HE3, HC3, HO3, HS3⟩
    case round =>
      rename World => wa
      obtain ⟨a, q, ha, rfl, hE, hC, hO, hS⟩ := hrel
      by_cases hlt : a < n
      · obtain ⟨qr, hqr, hqrl⟩ := hS.out.1.get hlt
        obtain ⟨Rq, cR, hcq, _⟩ := hO.out.row hqr (by omega)
        rw [hqrl] at hcq
        clear hqr hqrl
        go_wp2_with fail
        go_loopw [33, 12] (fun i _ wr => ∃ (b : Nat) (q : Grid), b ≤ k ∧ i = .int .i64 b ∧ Hid (Ext w wr) ∧ Hid (Cur wr w.heap.size xs.length A c) ∧ Hid (OwnGrid wr w2.heap.size (.slice (some ⟨bo, 0, none⟩) n cap) q) ∧ Hid (Shape q n k ∧ BitG q)) (fun i _ _ => k - (intOf i).toNat)
        case atStart => exact ⟨0, q, Nat.zero_le _, rfl, hE, hC, hO, hS⟩
        case round =>
          rename World => wb
          clear hE hC hO hS hcq
          obtain ⟨b, q, hbk, rfl, hE, hC, hO, hS⟩ := hrel
          by_cases hltb : b < k
          · obtain ⟨qr, hqr, hqrl⟩ := hS.out.1.get hlt
            obtain ⟨Rq, cR, hcq, hle, hBR, hRl, hints, hfr, hset⟩ := hO.out.row hqr (by omega)
            have hbo : w2.heap.size ≤ bo ∧ bo < wb.heap.size := hO.out.lt rfl
            rw [hqrl] at hcq
            have HQR := Lib.hid hqr
            have HSZ := Lib.hid (And.intro hBR (And.intro hbo.1 hqrl))
            have HRW : Hid (∀ W3, Keep w.heap.size wb W3 → W3.cell? ⟨bo, a, none⟩ = some (.slice (some ⟨Rq, 0, none⟩) k cR) ∧ W3.frozen? ⟨Rq, b, none⟩ = false ∧ (∃ old, W3.cell? ⟨Rq, b, none⟩ = some (.int .i64 old)) ∧ ∀ z, OwnGrid (W3.setCell ⟨Rq, b, none⟩ (.int .i64 z)) w2.heap.size (.slice (some ⟨bo, 0, none⟩) n cap) (q.set a (qr.set b z))) := Lib.hid fun W3 kp => by
              have ho3 : OwnGrid W3 w2.heap.size (.slice (some ⟨bo, 0, none⟩) n cap) q := hO.out.keep kp HPL.out
              have e1 := cell_blk (kp.2 bo (by have := HPL.out; have := hbo.1; omega)) a
              obtain ⟨R', c', hc', _, _, _, hi', hf', hs'⟩ := ho3.row hqr (by omega)
              rw [hqrl] at hc'
              have e2 := e1.trans hcq
              rw [hc'] at e2
              cases e2
              obtain ⟨old, _, ho4⟩ := hi'.at1 (k := b) (by omega)
              rw [Nat.zero_add] at ho4
              exact ⟨hc', hf' b, ⟨old, ho4⟩, fun z => hs' b z (by omega)⟩
            have HCB : Hid (∀ W, Keep w.heap.size wb W → W.heap[w.heap.size]? = wb.heap[w.heap.size]? → Ext w W → Calls Try.prog 20 #[.pointer (some ⟨w.heap.size, 0, none⟩), .int .i64 2] W fun e w' => ∃ z : Nat, e = .returned (.int .i64 z) ∧ z < 2 ∧ Cur w' w.heap.size xs.length A c ∧ Ext w w' ∧ Keep w.heap.size wb w') := Lib.hid fun W k1 k2 k3 => (HBE.out 2 W (by omega) (by omega) k3 (hC.out.blk k2)).mono fun e w' ⟨z, g1, g2, g3, g4, g5⟩ => ⟨z, g1, g2, g3, g4, k1.trans g5⟩
            obtain ⟨q1, _, _, _⟩ := HRW.out wb (Keep.refl _ _)
            have HSH := hS
            clear hset hfr hints hqr hqrl hle hRl hcq hBR hbo hO hS hC
            go_wp2_with fail
            first | go_region_with (go_at_call 20; refine (HCB.out _ (by exact ⟨rfl, fun _ _ => rfl⟩) (by rfl) (hE.out.trans (by (repeat (first | exact Ext.refl _ | apply Ext.drew))))).mono ?_; rintro e w4 ⟨z, rfl, hz, k1, k2, k3⟩; obtain ⟨m1, m2, ⟨old, m3⟩, m4⟩ := HRW.out w4 k3) | fail
            all_goals
              have HN1 := Lib.hid (m4 z)
              have HN2 : Hid (Ext w (w4.setCell ⟨Rq, b, none⟩ (.int .i64 (z : Int)))) := Lib.hid (Below.setCell k2 (Nat.le_trans HB2.out HSZ.out.1) _)
              have HN3 : Hid (Cur (w4.setCell ⟨Rq, b, none⟩ (.int .i64 (z : Int))) w.heap.size xs.length A c) := Lib.hid (k1.blk (Below.heap_setCell _ _ _ _ (by have h1 := HPL.out; have h2 := HSZ.out.1; show w.heap.size ≠ Rq; omega)))
              have HN4 : Hid (Shape (q.set a (qr.set b (z : Int))) n k ∧ BitG (q.set a (qr.set b (z : Int)))) := Lib.hid ⟨shape_set HSH.out.1 HQR.out, HSH.out.2.set HQR.out (by omega)⟩
              clear m4 k1 k2 k3
              go_wp2_with fail
              go_roundw
              case rel => exact ⟨b + 1, _, by omega, by go_num, Lib.hid (HN2.out.trans (by (repeat (first | exact Ext.refl _ | apply Ext.drew)))), Lib.hid (HN3.out.blk rfl), Lib.hid (HN1.out.ext (by (repeat (first | exact Ext.refl _ | apply Ext.drew)))), HN4⟩
              case measure => simp [intOf]; omega
          · obtain rfl : b = k := by omega
            go_wp2_with fail
            go_roundw
            case rel => exact ⟨a + 1, q, by omega, by go_num, hE, hC, hO, hS⟩
            case measure => simp [intOf]; omega
      · obtain rfl : a = n := by omega
        have hqa := hS.out.1.1
        have HG := Lib.hid (bit_grid hS.out.1 hS.out.2 ⟨hn1, hn5⟩ ⟨hk1, hk5⟩)
        have HO4 := Lib.hid (hO.out.base HB2.out)
        have HQK : Hid ((q.headD []).length = k) := Lib.hid (shape_head hS.out.1 (by omega))
        clear hS hO
        go_wp2_with fail
        go_ret
        exact ⟨bo, cap, q, by rw [hqa]; rfl, by rw [hqa]; exact HO4.out, HG.out, hqa, HQK.out, hE.out⟩
end Go.Proofs.Ytiekgdgonleoaaa
