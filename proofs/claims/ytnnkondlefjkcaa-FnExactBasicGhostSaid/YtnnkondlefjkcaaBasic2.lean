/- Basic ghosts: the reference's grid minus its shifted copy. -/
import Derived.Test.YtnnkondlefjkcaaBasic1
import Derived.Test.YtnnkondlefjkcaaCopy
import Derived.IntWalk
import Derived.Deep.DeepCutAuto
import Derived.Deep.RegionHeld3
namespace Go.Proofs.Ytnnkondlefjkcaa
open Go.RowKit Tomo

theorem minusI_shape (g : Grid) (n k : Nat) (dx dy : Int) : Shape (minusI g n k dx dy) (n + ((-dy).toNat + dy.toNat)) (k + dx.toNat) := gridOf'_shape _ _ _
theorem minusI_bd {g : Grid} {n k : Nat} {dx dy C : Int} (hC : 0 ≤ C) (hg : ∀ y x, y < n → x < k → -C ≤ at2 g y x ∧ at2 g y x ≤ C) {i l : Nat} (hi : i < n + ((-dy).toNat + dy.toNat)) (hl : l < k + dx.toNat) : -(2 * C) ≤ at2 (minusI g n k dx dy) i l ∧ at2 (minusI g n k dx dy) i l ≤ 2 * C := by
  unfold minusI
  rw [gridOf'_at _ _ _ hi hl]
  unfold minusF
  have h1 := shT_bd (g := g) (n := n) (k := k) (o := (-dy).toNat) (e := 0) (a := n) (b := 0) (i := i) (l := l) hC hg (by omega)
  have h2 := shT_bd (g := g) (n := n) (k := k) (o := dy.toNat) (e := dx.toNat) (a := n) (b := 0) (i := i) (l := l) hC hg (by omega)
  omega
theorem zeros_shape (N K : Nat) : Shape (List.replicate N (List.replicate K (0 : Int))) N K :=
  ⟨List.length_replicate, fun r hr => by rw [List.eq_of_mem_replicate hr, List.length_replicate]⟩
theorem zeros_at {N K i l : Nat} (hi : i < N) (hl : l < K) : at2 (List.replicate N (List.replicate K (0 : Int))) i l = 0 :=
  at2_of (r := List.replicate K 0) (by rw [List.getElem?_replicate, if_pos hi]) (by rw [List.getElem?_replicate, if_pos hl])

/-- a row lies in a block of its own -/
theorem OwnGrid.row_ne {w : World} {B b n c R m c' : Nat} {g : List (List Int)} (h : OwnGrid w B (.slice (some ⟨b, 0, none⟩) n c) g) {k : Nat} {r : List Int} (hk : g[k]? = some r) (hc : w.cell? ⟨b, k, none⟩ = some (.slice (some ⟨R, 0, none⟩) m c')) : b ≠ R := by
  obtain ⟨us, h1, h2, h3, h4⟩ := h
  obtain ⟨u, hu, hc2, _⟩ := OwnGrid.us h2 h1 hk
  rw [hc] at hc2
  cases hc2
  rcases kinds_apart h2 (h3 k _ r hu hk) with h5 | h5
  · cases h5
  · intro e
    subst e
    exact h5 rfl
set_option maxRecDepth 100000 in
set_option maxHeartbeats 4000000 in
theorem l11Minus_any (A : Option Addr) (ca : Nat) (g : Grid) (n k : Nat) (dx dy C : Int) (w : World) (hs : Shape g n k) (hn : 1 ≤ n ∧ n ≤ 100) (hk : 1 ≤ k ∧ k ≤ 100) (hd : 0 ≤ dx ∧ dx ≤ 3) (hd2 : -3 ≤ dy ∧ dy ≤ 3) (hC : 0 ≤ C ∧ C ≤ 1000) (hb : ∀ y x, y < n → x < k → -C ≤ at2 g y x ∧ at2 g y x ≤ C) (hx : GridAt w A g) :
    Calls Try.prog 80 #[.slice A n ca, .agg #[.int .i64 dx, .int .i64 dy]] w fun e w' => ∃ b cap, e = .returned (.slice (some ⟨b, 0, none⟩) (n + ((-dy).toNat + dy.toNat)) cap) ∧ OwnGrid w' w.heap.size (.slice (some ⟨b, 0, none⟩) (n + ((-dy).toNat + dy.toNat)) cap) (minusI g n k dx dy) ∧ Ext w w' := by
  obtain ⟨X, rfl⟩ : ∃ X : Nat, dx = X := ⟨dx.toNat, by omega⟩
  have HDONE := Lib.hid (fun (q : Grid) (h : MinSt g n k (-dy).toNat dy.toNat (X : Int).toNat n 0 0 q) => h.done)
  rw [Int.toNat_natCast] at HDONE
  obtain ⟨fo, hfo⟩ : ∃ fo, (-dy).toNat = fo := ⟨_, rfl⟩
  obtain ⟨so, hto⟩ : ∃ so, dy.toNat = so := ⟨_, rfl⟩
  obtain ⟨res, hres⟩ : ∃ res, minusI g n k X dy = res := ⟨_, rfl⟩
  rw [hfo, hto, hres] at HDONE
  rw [hfo, hto, hres]
  have hdy1 : dy + fo ≤ so := by omega
  have hdy2 : (so : Int) ≤ dy + fo := by omega
  have hz0 : fo = 0 ∨ so = 0 := by omega
  obtain ⟨D, hD⟩ : ∃ D, fo + so = D := ⟨_, rfl⟩
  have hD3 : D ≤ 3 := by omega
  have ce : ∀ W, Calls Try.prog 104 #[.int .i64 ((n : Int) + (D : Int)), .int .i64 ((k : Int) + (X : Int))] W fun e w' => ∃ b cap, e = .returned (.slice (some ⟨b, 0, none⟩) (n + D) cap) ∧ OwnGrid w' W.heap.size (.slice (some ⟨b, 0, none⟩) (n + D) cap) (List.replicate (n + D) (List.replicate (k + X) 0)) ∧ Ext W w' := fun W => by
    have h := l02Empty_any (n + D) (k + X) W (by omega) (by omega) (by omega) (by omega)
    rw [Int.natCast_add, Int.natCast_add] at h
    exact h
  obtain ⟨N, hN⟩ : ∃ N, n + D = N := ⟨_, rfl⟩
  have HST : Hid (MinSt g n k fo so X 0 0 0 (List.replicate (n + D) (List.replicate (k + X) 0))) := Lib.hid (by
    rw [← hD]
    exact MinSt.start (zeros_shape _ _) (fun i l hi hl => zeros_at hi hl))
  rw [hD, hN]
  rw [hN] at HST
  simp only [hN] at ce
  obtain ⟨bm, om, _, _, _, hA, hbm, _⟩ := hx.at_ (k := 0) (by rw [hs.1]; omega)
  subst hA
  obtain ⟨R0, c0, q0, _⟩ := hs.mem hx (y := 0) (by omega)
  rw [Nat.add_zero] at q0
  have HS := Lib.hid hs
  have HX := Lib.hid hx
  have HB := Lib.hid hb
  obtain ⟨W0, hW0⟩ : ∃ W0, W0 = w.alloc (.cells #[.int .i64 (X : Int), .int .i64 dy] 32) := ⟨_, rfl⟩
  have HW0 := Lib.hid hW0
  have HWE : Hid (Ext w W0) := Lib.hid (by rw [hW0]; exact (Ext.refl w).alloc _)
  have HBX : Hid (∀ W, Ext W0 W → W.cell? ⟨w.heap.size, 0, none⟩ = some (.int .i64 (X : Int)) ∧ W.cell? ⟨w.heap.size, 1, none⟩ = some (.int .i64 dy)) := Lib.hid fun W e => by
    have h1 : w.heap.size < W0.heap.size := by rw [hW0]; simp
    exact ⟨(e.cell h1).trans (by rw [hW0]; simp), (e.cell h1).trans (by rw [hW0]; simp)⟩
  have HQ0 : Hid (∀ W, Ext w W → W.cell? ⟨bm, om, none⟩ = some (.slice R0 k c0)) := Lib.hid fun W e => (e.cell hbm).trans q0
  clear hx hs hb hW0 q0 hfo hto hres
  obtain ⟨hn1, hn5⟩ := hn
  obtain ⟨hk1, hk5⟩ := hk
  obtain ⟨hX0, hX3⟩ := hd
  obtain ⟨hy0, hy3⟩ := hd2
  obtain ⟨hC0, hC1⟩ := hC
  go_enter Try.func80, Try.ntmps80
  go_upto_region 1 with fail
  rw [← HW0.out]
  obtain ⟨bx1, bx2⟩ := HBX.out W0 (Ext.refl W0)
  go_cut [5] (fun s wx => s = .int .i64 (D : Int) ∧ wx = W0)
  case first =>
    by_cases hs : 0 ≤ dy
    · have hm : max dy (-dy) = dy := by omega
      go_wp2_with fail
      all_goals
        go_meet
        exact ⟨by first | rfl | (congr 1; omega), rfl⟩
    · have hm : max dy (-dy) = -dy := by omega
      go_wp2_with fail
      all_goals
        go_meet
        exact ⟨by first | rfl | (congr 1; omega), rfl⟩
  case rest =>
  obtain ⟨rfl, rfl⟩ := hcut
  rename World => W0
  have q0 := HQ0.out W0 HWE.out
  have hw1 : IntKind.i64.wrap ((n : Int) + (D : Int)) = (n : Int) + (D : Int) := IntWalk.i64_in _ (by omega)
  have hw2 : IntKind.i64.wrap ((k : Int) + (X : Int)) = (k : Int) + (X : Int) := IntWalk.i64_in _ (by omega)
  go_upto_region 2 with fail
  go_cut [6] (fun s wx => ∃ bo cap, s = .slice (some ⟨bo, 0, none⟩) N cap ∧ Hid (Ext W0 wx) ∧ Hid (OwnGrid wx W0.heap.size (.slice (some ⟨bo, 0, none⟩) N cap) (List.replicate N (List.replicate (k + X) 0))))
  case first =>
    have g1 : (0 : Int) < (n : Int) := by omega
    have g2 : 0 < n := by omega
    have HK : Hid (∀ W, Ext W0 W → W.cell? ⟨bm, om, none⟩ = some (.slice R0 k c0) ∧ W.cell? ⟨w.heap.size, 0, none⟩ = some (.int .i64 (X : Int)) ∧ Ext W0 W) := Lib.hid fun W e => ⟨HQ0.out W (HWE.out.trans e), (HBX.out W e).1, e⟩
    first | go_region_held3 (fun W => W.cell? ⟨bm, om, none⟩ = some (.slice R0 k c0) ∧ W.cell? ⟨w.heap.size, 0, none⟩ = some (.int .i64 (X : Int)) ∧ Ext W0 W) (first | exact HK.out _ (Ext.refl _).drew | exact HK.out _ ((‹_ ∧ _ ∧ Ext W0 _›).2.2.trans he)) (first | (go_at_call 104; refine (ce _).mono ?_; rintro e w2 ⟨bo, cap, rfl, ho, he⟩)) | fail
    all_goals
      go_wp2_with fail
      go_meet
      exact ⟨bo, cap, rfl, Lib.hid (Ext.trans ((Ext.refl _).drew) he), Lib.hid (ho.base (Nat.le_refl _))⟩
  case rest =>
  rename World => w1
  obtain ⟨bo, cap, rfl, HE1, HO1⟩ := hcut
  clear hw1 hw2 bx1 bx2 q0 ce
  go_wp2_with fail
  go_loopw [33, 7, 8, 9, 10, 11, 12] (fun i _ _ _ _ _ _ wr => ∃ (a : Nat) (q : Grid), a ≤ n ∧ i = .int .i64 a ∧ Hid (Ext W0 wr) ∧ Hid (OwnGrid wr W0.heap.size (.slice (some ⟨bo, 0, none⟩) N cap) q) ∧ Hid (MinSt g n k fo so X a 0 0 q)) (fun i _ _ _ _ _ _ _ => n - (intOf i).toNat)
  case atStart => exact ⟨0, _, Nat.zero_le _, rfl, HE1, HO1, HST⟩
  case round =>
    rename World => wa
    obtain ⟨a, q, ha, rfl, hE, hO, hS⟩ := hrel
    by_cases hlt : a < n
    · obtain ⟨R, rc, hq0, hcell⟩ := HS.out.mem HX.out hlt
      have hq1 := ((HWE.out.trans hE.out).cell (World.block_lt_of_cell? _ _ hq0)).trans hq0
      clear hq0
      go_wp2_with fail
      go_loopw [40, 9, 10, 11, 12] (fun i _ _ _ _ wr => ∃ (b : Nat) (q : Grid), b ≤ k ∧ i = .int .i64 b ∧ Hid (Ext W0 wr) ∧ Hid (OwnGrid wr W0.heap.size (.slice (some ⟨bo, 0, none⟩) N cap) q) ∧ Hid (MinSt g n k fo so X a b b q)) (fun i _ _ _ _ _ => k - (intOf i).toNat)
      case atStart => exact ⟨0, q, Nat.zero_le _, rfl, hE, hO, hS⟩
      case round =>
        rename World => wb
        clear hE hO hS
        obtain ⟨b, q, hbk, rfl, hE, hO, hS⟩ := hrel
        by_cases hltb : b < k
        · obtain ⟨R', ro, rfl, hc1⟩ := hcell.out wb (HWE.out.trans hE.out) b hltb
          obtain ⟨z, hz⟩ : ∃ z, at2 g a b = z := ⟨_, rfl⟩
          rw [hz] at hc1
          have hzb := HB.out a b hlt hltb
          rw [hz] at hzb
          obtain ⟨hz1, hz2⟩ := hzb
          have HZ := Lib.hid hz
          clear hz
          obtain ⟨bx1, bx2⟩ := HBX.out wb hE.out
          go_upto_if 52 with fail
          go_cut [11, 12] (fun f t wx => f = .int .i64 ((fo + a : Nat) : Int) ∧ t = .int .i64 ((so + a : Nat) : Int) ∧ wx = wb)
          case first =>
            by_cases hs : dy < 0
            · go_wp2_with fail
              all_goals
                go_meet
                exact ⟨by congr 1; omega, by congr 1; omega, rfl⟩
            · go_wp2_with fail
              all_goals
                go_meet
                exact ⟨by congr 1; omega, by congr 1; omega, rfl⟩
          case rest =>
          obtain ⟨rfl, rfl, rfl⟩ := hcut
          rename World => wb
          obtain ⟨qr, hqr, hqrl⟩ := hS.out.1.get (show fo + a < n + (fo + so) by omega)
          obtain ⟨Rq, cR, hcq, hle, hBR, hRl, hints, hfr, hset⟩ := hO.out.row hqr (by omega)
          obtain ⟨ov, hov, hc8⟩ := hints.at1 (k := b) (by omega)
          rw [Nat.zero_add] at hc8
          rw [hqrl] at hcq
          have hf := hfr b
          have obd := hS.out.bd (C := C) hC0 HB.out (Or.inl ⟨hlt, by omega, by omega⟩) (i := fo + a) (l := b) (by omega) (by omega)
          rw [at2_of hqr hov.out] at obd
          obtain ⟨ob1, ob2⟩ := obd
          have HE2 : Hid (Ext W0 (wb.setCell ⟨Rq, b, none⟩ (.int .i64 (ov + z)))) := Lib.hid (Below.setCell hE.out hBR _)
          have HO2 := Lib.hid (hset b (ov + z) (by omega))
          have HN := Lib.hid (hS.out.add hltb hqr hov.out HZ.out)
          obtain ⟨F, hF⟩ : ∃ F, fo + a = F := ⟨_, rfl⟩
          rw [hF] at hcq HO2 HN ⊢
          have hFN : F < N := by omega
          have hw : IntKind.i64.wrap (ov + z) = ov + z := IntWalk.i64_in _ (by omega)
          clear hset hfr hints hqr hqrl hE hO hov hle hF
          go_upto_region 14 with fail
          go_cut [6] (fun s wx => s = .slice (some ⟨bo, 0, none⟩) N cap ∧ ∃ q', Hid (Ext W0 wx) ∧ Hid (OwnGrid wx W0.heap.size (.slice (some ⟨bo, 0, none⟩) N cap) q') ∧ Hid (MinSt g n k fo so X a (b + 1) b q'))
          case first =>
            have g1 : (0 : Int) ≤ (F : Int) := by omega
            have g2 : (F : Int) < (N : Int) := by omega
            have g3 : (0 : Int) ≤ (b : Int) := by omega
            have g4 : (b : Int) < ((k + X : Nat) : Int) := by omega
            have g5 : (b : Int) < (k : Int) + (X : Int) := by omega
            first | go_region_with fail | fail
            all_goals
              go_wp2_with fail
              go_meet
              exact ⟨rfl, _, Lib.hid (HE2.out.trans (by (repeat (first | exact Ext.refl _ | apply Ext.drew)))), Lib.hid (HO2.out.ext (by (repeat (first | exact Ext.refl _ | apply Ext.drew)))), HN⟩
          case rest =>
          rename World => wd
          clear HE2 HO2 HN hcq hf hc8 hc1 bx1 bx2 hw hBR hRl ob1 ob2 hS
          obtain ⟨rfl, q, hE, hO, hS⟩ := hcut
          obtain ⟨bx1, bx2⟩ := HBX.out wd hE.out
          obtain ⟨qr, hqr, hqrl⟩ := hS.out.1.get (show so + a < n + (fo + so) by omega)
          obtain ⟨Rq, cR, hcq, hle, hBR, hRl, hints, hfr, hset⟩ := hO.out.row hqr (by omega)
          obtain ⟨ov, hov, hc8⟩ := hints.at1 (k := X + b) (by omega)
          rw [Nat.zero_add, Nat.add_comm X b] at hc8
          rw [hqrl] at hcq
          have hf := hfr (b + X)
          have obd := hS.out.bd (C := C) hC0 HB.out (Or.inl ⟨hlt, by omega, by omega⟩) (i := so + a) (l := X + b) (by omega) (by omega)
          rw [at2_of hqr hov.out] at obd
          obtain ⟨ob1, ob2⟩ := obd
          have HN := Lib.hid (hS.out.sub hltb hqr hov.out HZ.out)
          rw [Nat.add_comm X b] at HN
          have HE2 : Hid (Ext W0 (wd.setCell ⟨Rq, b + X, none⟩ (.int .i64 (ov - z)))) := Lib.hid (Below.setCell hE.out hBR _)
          have HO2 := Lib.hid (hset (b + X) (ov - z) (by omega))
          obtain ⟨E, hEq⟩ : ∃ E, b + X = E := ⟨_, rfl⟩
          rw [hEq] at HE2 HO2 HN hc8 hf
          have hEK : E < k + X := by omega
          obtain ⟨K, hK⟩ : ∃ K, k + X = K := ⟨_, rfl⟩
          rw [hK] at hcq hEK
          obtain ⟨T, hT⟩ : ∃ T, so + a = T := ⟨_, rfl⟩
          rw [hT] at hcq HO2 HN ⊢
          have hTN : T < N := by omega
          have hw : IntKind.i64.wrap (ov - z) = ov - z := IntWalk.i64_in _ (by omega)
          have hw2 : IntKind.i64.wrap ((b : Int) + (X : Int)) = (E : Int) := by rw [← hEq, Int.natCast_add]; exact IntWalk.i64_in _ (by omega)
          clear hset hfr hints hqr hqrl hE hO hov hle hT hS hK hEq
          have g1 : (0 : Int) ≤ (T : Int) := by omega
          have g2 : (T : Int) < (N : Int) := by omega
          have g3 : (0 : Int) ≤ (E : Int) := by omega
          have g4 : (E : Int) < (K : Int) := by omega
          go_upto_region 15 with fail
          clear HDONE HS HX HB HQ0 HBX HST hcell HE1 HO1 hq1 HZ hdy1 hdy2 hz0 hD hN hD3 HW0 HWE hbm hC0 hC1
          first | go_region_with fail | fail
          all_goals
            go_wp2_with fail
            go_roundw
            case rel => exact ⟨b + 1, _, by omega, by go_num, Lib.hid (HE2.out.trans (by (repeat (first | exact Ext.refl _ | apply Ext.drew)))), Lib.hid (HO2.out.ext (by (repeat (first | exact Ext.refl _ | apply Ext.drew)))), HN⟩
            case measure => simp [intOf]; omega
        · obtain rfl : b = k := by omega
          have HN := Lib.hid hS.out.row
          go_wp2_with fail
          go_roundw
          case rel => exact ⟨a + 1, q, by omega, by go_num, hE, hO, HN⟩
          case measure => simp [intOf]; omega
    · obtain rfl : a = n := by omega
      have HQ := HDONE.out q hS.out
      go_wp2_with fail
      go_ret
      exact ⟨bo, cap, rfl, by rw [← HQ]; exact hO.out.base HWE.out.size, HWE.out.trans hE.out⟩
end Go.Proofs.Ytnnkondlefjkcaa
