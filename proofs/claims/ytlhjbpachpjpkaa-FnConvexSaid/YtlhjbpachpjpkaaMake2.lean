/- The laws' drawn arguments: images. -/
import Derived.Test.YtlhjbpachpjpkaaMake1
import Derived.Test.YtlhjbpachpjpkaaPaint1
import Derived.Test.YtlhjbpachpjpkaaTomA
import Derived.Deep.RegionWith
namespace Go.Proofs.Ytlhjbpachpjpkaa
open Go.RowKit Tomo

theorem ownsRow_keep {p B : Nat} {w w' : World} {e : TypeId} {size : Nat} {v : Value} {n : Nat} {xs : List Value} (h : w.ownsRow B e size v n xs) (k : Keep p w w') (hp : p < B) : w'.ownsRow B e size v n xs := by
  obtain ⟨h1, h2⟩ := h
  refine ⟨h1, ?_⟩
  rcases h2 with h3 | ⟨g, cap, cur, hv, hb, hg, hr⟩
  · exact Or.inl h3
  · exact Or.inr ⟨g, cap, cur, hv, hb, (k.2 g (by omega)).trans hg, hr⟩
theorem OwnGrid.keep {p B : Nat} {w w' : World} {v : Value} {g : Grid} (h : OwnGrid w B v g) (k : Keep p w w') (hp : p < B) : OwnGrid w' B v g := by
  obtain ⟨us, h1, h2, h3, h4⟩ := h
  exact ⟨us, h1, ownsRow_keep h2 k hp, fun i u r hu hr => ownsRow_keep (h3 i u r hu hr) k hp, h4⟩
def BitG (q : Grid) : Prop := ∀ r ∈ q, ∀ z ∈ r, z = 0 ∨ z = 1
theorem BitG.set {q : Grid} {a b : Nat} {r : List Int} {z : Int} (h : BitG q) (hr : q[a]? = some r) (hz : z = 0 ∨ z = 1) : BitG (q.set a (r.set b z)) := fun r' hr' x hx => by
  rcases List.mem_or_eq_of_mem_set hr' with h1 | h1
  · exact h r' h1 x hx
  · rw [h1] at hx
    rcases List.mem_or_eq_of_mem_set hx with h2 | h2
    · exact h r (List.mem_of_getElem? hr) x h2
    · rw [h2]; exact hz
theorem shape_set {q : Grid} {N K i0 l0 : Nat} {r : List Int} {c : Int} (h : Shape q N K) (hr : q[i0]? = some r) : Shape (q.set i0 (r.set l0 c)) N K := by
  refine ⟨by rw [List.length_set]; exact h.1, fun r' hr' => ?_⟩
  rcases List.mem_or_eq_of_mem_set hr' with h1 | h1
  · exact h.2 r' h1
  · rw [h1, List.length_set]; exact h.2 r (List.mem_of_getElem? hr)
theorem bit_grid {q : Grid} {N K : Nat} (h : Shape q N K) (hb : BitG q) (hn : 1 ≤ N ∧ N ≤ 5) (hk : 1 ≤ K ∧ K ≤ 5) : gridOk q 0 1 = true := by
  refine gridOk_iff.2 ⟨by rw [h.1]; omega, fun r hr => ?_⟩
  have hh : (q.headD []).length = K := by
    cases q with
    | nil => have h1 := h.1; simp at h1; omega
    | cons r0 q => exact h.2 r0 List.mem_cons_self
  refine ⟨by rw [h.2 r hr, hh], by rw [h.2 r hr]; omega, ?_⟩
  unfold allIn
  rw [List.all_eq_true]
  intro z hz
  rw [inR_iff]
  have := hb r hr z hz
  omega

set_option maxHeartbeats 4000000 in
theorem l18New_zero (A : Option Addr) (c : Nat) (xs : List Int) (w : World) (hb : Bytes w A xs) (hl : xs.length ≤ 1048576) :
    Calls Try.prog 47 #[.slice A xs.length c, .int .i64 0] w fun e w' => e = .returned (.pointer (some ⟨w.heap.size, 0, none⟩)) ∧ Cur w' w.heap.size xs.length A c ∧ Ext w w' ∧ w'.heap.size = w.heap.size + 1 := by
  have c1 := l01New_any A c xs w hb hl
  clear hb
  go_enter Try.func47, Try.ntmps47
  go_wp2_with fail
  refine c1.mono ?_
  rintro e w1 ⟨rfl, h1, h2, h3⟩
  have H := Lib.hid (And.intro h1 (And.intro h2 h3))
  clear c1 h1 h2 h3
  go_wp2_with fail
  go_loopw [6] (fun i wr => i = .int .i64 0 ∧ Hid (wr = w1)) (fun _ _ => 0)
  case atStart => exact ⟨rfl, Lib.hid rfl⟩
  case round =>
    rename World => wr
    obtain ⟨rfl, hw⟩ := hrel
    obtain rfl := hw.out
    clear hw
    go_wp2_with fail
    go_ret
    exact ⟨rfl, H.out.1, H.out.2.1, H.out.2.2⟩
set_option maxRecDepth 100000 in
set_option maxHeartbeats 8000000 in
theorem l02Draw_any (k : Nat) (A : Option Addr) (c p : Nat) (xs : List Int) (w0 w : World) (hk : 1 ≤ k) (hk2 : k ≤ 5) (hp : w0.heap.size ≤ p) (hb : Bytes w0 A xs) (he : Ext w0 w) (hc : Cur w p xs.length A c) (hl : xs.length ≤ 1048576) :
    Calls Try.prog 46 #[.pointer (some ⟨p, 0, none⟩), .int .i64 k] w fun e w' => ∃ b cap m, e = .returned (.slice (some ⟨b, 0, none⟩) m.length cap) ∧ OwnGrid w' (p + 1) (.slice (some ⟨b, 0, none⟩) m.length cap) m ∧ gridOk m 0 1 = true ∧ Ext w0 w' ∧ Cur w' p xs.length A c := by
  have HBE := Lib.hid (fun (k : Nat) (W : World) (h1 : 1 ≤ k) (h2 : k ≤ 256) (h3 : Ext w0 W) (h4 : Cur W p xs.length A c) => l01Below_any k A c p xs w0 W h1 h2 hp hb h3 h4 hl)
  have c1 := HBE.out k w hk (by omega) he hc
  clear hb he hc
  go_enter Try.func46, Try.ntmps46
  go_wp2_with fail
  refine c1.mono ?_
  rintro e w1 ⟨x, rfl, hx, h1, h2, h3⟩
  have c2 := HBE.out k w1 hk (by omega) h2 h1
  clear c1 h1 h2 h3
  go_wp2_with fail
  refine c2.mono ?_
  rintro e w2 ⟨y, rfl, hy, h1, h2, _⟩
  have ce := l02Empty_any (1 + x) (1 + y) w2 (by omega) (by omega) (by omega) (by omega)
  rw [show ((1 + x : Nat) : Int) = 1 + (x : Int) by omega, show ((1 + y : Nat) : Int) = 1 + (y : Int) by omega] at ce
  have HCU := Lib.hid h1
  have HE2 := Lib.hid h2
  have HPL := Lib.hid h1.lt
  clear c2 h1 h2
  go_wp2_with fail
  refine ce.mono ?_
  rintro e w3 ⟨bo, cap, rfl, ho, he⟩
  have HO3 := Lib.hid ho
  have HE3 := Lib.hid (HE2.out.trans he)
  have HC3 := Lib.hid (HCU.out.blk (he.block p HPL.out))
  have HS3 : Hid (Shape (List.replicate (1 + x) (List.replicate (1 + y) (0 : Int))) (1 + x) (1 + y) ∧ BitG (List.replicate (1 + x) (List.replicate (1 + y) (0 : Int)))) := Lib.hid ⟨⟨List.length_replicate, fun r hr => by rw [List.eq_of_mem_replicate hr, List.length_replicate]⟩, fun r hr z hz => by
    rw [List.eq_of_mem_replicate hr] at hz
    exact Or.inl (List.eq_of_mem_replicate hz)⟩
  obtain ⟨N, hN⟩ : ∃ N, 1 + x = N := ⟨_, rfl⟩
  obtain ⟨K, hK⟩ : ∃ K, 1 + y = K := ⟨_, rfl⟩
  rw [hN, hK] at HS3 HO3
  rw [hN]
  have hn1 : 1 ≤ N := by omega
  have hn5 : N ≤ 5 := by omega
  have hk1 : 1 ≤ K := by omega
  have hk5 : K ≤ 5 := by omega
  have HB2 := Lib.hid HE2.out.size
  clear ce ho he hN hK HCU
  go_wp2_with fail
  go_loopw [19, 6, 7] (fun i _ _ wr => ∃ (a : Nat) (q : Grid), a ≤ N ∧ i = .int .i64 a ∧ Hid (Ext w0 wr) ∧ Hid (Cur wr p xs.length A c) ∧ Hid (OwnGrid wr w2.heap.size (.slice (some ⟨bo, 0, none⟩) N cap) q) ∧ Hid (Shape q N K ∧ BitG q)) (fun i _ _ _ => N - (intOf i).toNat)
  case atStart => exact ⟨0, _, Nat.zero_le _, rfl, HE3, HC3, HO3, HS3⟩
  case round =>
    rename World => wa
    obtain ⟨a, q, ha, rfl, hE, hC, hO, hS⟩ := hrel
    by_cases hlt : a < N
    · obtain ⟨qr, hqr, hqrl⟩ := hS.out.1.get hlt
      obtain ⟨Rq, cR, hcq, _⟩ := hO.out.row hqr (by omega)
      rw [hqrl] at hcq
      clear hqr hqrl
      go_wp2_with fail
      go_loopw [27, 7] (fun i _ wr => ∃ (b : Nat) (q : Grid), b ≤ K ∧ i = .int .i64 b ∧ Hid (Ext w0 wr) ∧ Hid (Cur wr p xs.length A c) ∧ Hid (OwnGrid wr w2.heap.size (.slice (some ⟨bo, 0, none⟩) N cap) q) ∧ Hid (Shape q N K ∧ BitG q)) (fun i _ _ => K - (intOf i).toNat)
      case atStart => exact ⟨0, q, Nat.zero_le _, rfl, hE, hC, hO, hS⟩
      case round =>
        rename World => wb
        clear hE hC hO hS hcq
        obtain ⟨b, q, hbk, rfl, hE, hC, hO, hS⟩ := hrel
        by_cases hltb : b < K
        · obtain ⟨qr, hqr, hqrl⟩ := hS.out.1.get hlt
          obtain ⟨Rq, cR, hcq, hle, hBR, hRl, hints, hfr, hset⟩ := hO.out.row hqr (by omega)
          have hbo : w2.heap.size ≤ bo ∧ bo < wb.heap.size := hO.out.lt rfl
          rw [hqrl] at hcq
          have HQR := Lib.hid hqr
          have HSZ := Lib.hid (And.intro hBR (And.intro hbo.1 hqrl))
          have HRW : Hid (∀ W3, Keep p wb W3 → W3.cell? ⟨bo, a, none⟩ = some (.slice (some ⟨Rq, 0, none⟩) K cR) ∧ W3.frozen? ⟨Rq, b, none⟩ = false ∧ (∃ old, W3.cell? ⟨Rq, b, none⟩ = some (.int .i64 old)) ∧ ∀ z, OwnGrid (W3.setCell ⟨Rq, b, none⟩ (.int .i64 z)) w2.heap.size (.slice (some ⟨bo, 0, none⟩) N cap) (q.set a (qr.set b z))) := Lib.hid fun W3 kp => by
            have ho3 : OwnGrid W3 w2.heap.size (.slice (some ⟨bo, 0, none⟩) N cap) q := hO.out.keep kp HPL.out
            have e1 := cell_blk (kp.2 bo (by have := HPL.out; have := hbo.1; omega)) a
            obtain ⟨R', c', hc', _, _, _, hi', hf', hs'⟩ := ho3.row hqr (by omega)
            rw [hqrl] at hc'
            have e2 := e1.trans hcq
            rw [hc'] at e2
            cases e2
            obtain ⟨old, _, ho4⟩ := hi'.at1 (k := b) (by omega)
            rw [Nat.zero_add] at ho4
            exact ⟨hc', hf' b, ⟨old, ho4⟩, fun z => hs' b z (by omega)⟩
          have HCB : Hid (∀ W, Keep p wb W → W.heap[p]? = wb.heap[p]? → Ext w0 W → Calls Try.prog 63 #[.pointer (some ⟨p, 0, none⟩), .int .i64 2] W fun e w' => ∃ z : Nat, e = .returned (.int .i64 z) ∧ z < 2 ∧ Cur w' p xs.length A c ∧ Ext w0 w' ∧ Keep p wb w') := Lib.hid fun W k1 k2 k3 => (HBE.out 2 W (by omega) (by omega) k3 (hC.out.blk k2)).mono fun e w' ⟨z, g1, g2, g3, g4, g5⟩ => ⟨z, g1, g2, g3, g4, k1.trans g5⟩
          obtain ⟨q1, _, _, _⟩ := HRW.out wb (Keep.refl _ _)
          have HSH := hS
          clear hset hfr hints hqr hqrl hle hRl hcq hBR hbo hO hS hC
          go_wp2_with fail
          first | go_region_with (go_at_call 63; refine (HCB.out _ (by exact ⟨rfl, fun _ _ => rfl⟩) (by rfl) (hE.out.trans (by (repeat (first | exact Ext.refl _ | apply Ext.drew))))).mono ?_; rintro e w4 ⟨z, rfl, hz, k1, k2, k3⟩; obtain ⟨m1, m2, ⟨old, m3⟩, m4⟩ := HRW.out w4 k3) | fail
          all_goals
            have HN1 := Lib.hid (m4 z)
            have HN2 : Hid (Ext w0 (w4.setCell ⟨Rq, b, none⟩ (.int .i64 (z : Int)))) := Lib.hid (Below.setCell k2 (Nat.le_trans HB2.out HSZ.out.1) _)
            have HN3 : Hid (Cur (w4.setCell ⟨Rq, b, none⟩ (.int .i64 (z : Int))) p xs.length A c) := Lib.hid (k1.blk (Below.heap_setCell _ _ _ _ (by have h1 := HPL.out; have h2 := HSZ.out.1; show p ≠ Rq; omega)))
            have HN4 : Hid (Shape (q.set a (qr.set b (z : Int))) N K ∧ BitG (q.set a (qr.set b (z : Int)))) := Lib.hid ⟨shape_set HSH.out.1 HQR.out, HSH.out.2.set HQR.out (by omega)⟩
            clear m4 k1 k2 k3
            go_wp2_with fail
            go_roundw
            case rel => exact ⟨b + 1, _, by omega, by go_num, Lib.hid (HN2.out.trans (by (repeat (first | exact Ext.refl _ | apply Ext.drew)))), Lib.hid (HN3.out.blk rfl), Lib.hid (HN1.out.ext (by (repeat (first | exact Ext.refl _ | apply Ext.drew)))), HN4⟩
            case measure => simp [intOf]; omega
        · obtain rfl : b = K := by omega
          go_wp2_with fail
          go_roundw
          case rel => exact ⟨a + 1, q, by omega, by go_num, hE, hC, hO, hS⟩
          case measure => simp [intOf]; omega
    · obtain rfl : a = N := by omega
      have hqa := hS.out.1.1
      have HG := Lib.hid (bit_grid hS.out.1 hS.out.2 ⟨hn1, hn5⟩ ⟨hk1, hk5⟩)
      have HO4 := Lib.hid (hO.out.base (B' := p + 1) HPL.out)
      clear hS hO
      go_wp2_with fail
      go_ret
      exact ⟨bo, cap, q, by rw [hqa]; rfl, by rw [hqa]; exact HO4.out, HG.out, hE.out, hC.out⟩
set_option maxHeartbeats 4000000 in
theorem MakeImage_any (k : Nat) (A : Option Addr) (c : Nat) (xs : List Int) (w : World) (hk : k = 4 ∨ k = 5) (hb : Bytes w A xs) (hl : xs.length ≤ 1048576) :
    Calls Try.prog 19 #[.slice A xs.length c, .int .i64 0, .int .i64 k] w fun e w' => ∃ b cap m, e = .returned (.slice (some ⟨b, 0, none⟩) m.length cap) ∧ OwnGrid w' w.heap.size (.slice (some ⟨b, 0, none⟩) m.length cap) m ∧ gridOk m 0 1 = true ∧ Ext w w' := by
  have go : ∀ k : Nat, 1 ≤ k → k ≤ 5 → ∀ w1, Cur w1 w.heap.size xs.length A c → Ext w w1 → Calls Try.prog 46 #[.pointer (some ⟨w.heap.size, 0, none⟩), .int .i64 k] w1 _ := fun k h1 h2 w1 hc he => l02Draw_any k A c w.heap.size xs w w1 h1 h2 (Nat.le_refl _) hb he hc hl
  have c1 := l18New_zero A c xs w hb hl
  clear hb
  rcases hk with rfl | rfl
  · have go4 := go 4 (by omega) (by omega)
    clear go
    go_enter Try.func19, Try.ntmps19
    go_wp2_with fail
    refine c1.mono ?_
    rintro e w1 ⟨rfl, h1, h2, h3⟩
    have c2 := go4 w1 h1 h2
    clear c1 h1 h2 h3
    go_wp2_with fail
    refine c2.mono ?_
    rintro e w2 ⟨b, cap, m, rfl, h1, h2, h3, _⟩
    have H := Lib.hid (And.intro (h1.base (B' := w.heap.size) (by omega)) (And.intro h2 h3))
    clear c2 h1 h2 h3
    go_wp2_with fail
    go_ret
    exact ⟨b, cap, m, rfl, H.out.1, H.out.2.1, H.out.2.2⟩
  · have go5 := go 5 (by omega) (by omega)
    clear go
    go_enter Try.func19, Try.ntmps19
    go_wp2_with fail
    refine c1.mono ?_
    rintro e w1 ⟨rfl, h1, h2, h3⟩
    have c2 := go5 w1 h1 h2
    clear c1 h1 h2 h3
    go_wp2_with fail
    refine c2.mono ?_
    rintro e w2 ⟨b, cap, m, rfl, h1, h2, h3, _⟩
    have H := Lib.hid (And.intro (h1.base (B' := w.heap.size) (by omega)) (And.intro h2 h3))
    clear c2 h1 h2 h3
    go_wp2_with fail
    go_ret
    exact ⟨b, cap, m, rfl, H.out.1, H.out.2.1, H.out.2.2⟩
end Go.Proofs.Ytlhjbpachpjpkaa
