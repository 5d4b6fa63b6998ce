/- BasicGhost in the program. -/
import Derived.Test.YtiekgdgonleoaaaBasic3
namespace Go.Proofs.Ytiekgdgonleoaaa
open Go.RowKit Tomo

set_option maxRecDepth 100000 in
set_option maxHeartbeats 4000000 in
theorem implBasicGhost_any (A : Option Addr) (cap : Nat) (ds : List (Int × Int)) (w : World) (hl : ds.length ≤ 1048576) (hcap : ds.length ≤ cap) (hx : LDirs w A ds) :
    Calls Try.prog 15 #[.slice A ds.length cap] w fun e w' => ∃ v, e = .returned (.tuple #[v, .bool (bgOk ds)]) ∧ OwnGrid w' w.heap.size v (bgRes ds) ∧ Ext w w' := by
  have c1 := implGhostSize_any A cap ds w hl hcap hx
  obtain ⟨s1, hs1⟩ : ∃ s1, (ghSize ds).1 = s1 := ⟨_, rfl⟩
  obtain ⟨s2, hs2⟩ : ∃ s2, (ghSize ds).2 = s2 := ⟨_, rfl⟩
  rw [hs1, hs2] at c1
  have hok : bgOk ds = (inR s1 1 5 && inR s2 1 5) := by unfold bgOk; rw [hs1, hs2]
  have c2 := fun W => within_any s1 1 5 W
  have c3 := fun W => within_any s2 1 5 W
  clear hs1 hs2
  cases h1 : inR s1 1 5
  · have h : bgOk ds = false := by rw [hok, h1]; rfl
    have HR : Hid (bgRes ds = []) := Lib.hid (by unfold bgRes; rw [h]; rfl)
    rw [h]
    simp only [h1] at c2
    clear hx h h1 hok c3
    go_enter Try.func15, Try.ntmps15
    go_wp2_with fail
    refine c1.mono ?_
    rintro e w1 ⟨rfl, he⟩
    have HE := Lib.hid he
    clear he c1
    go_wp2_with (go_at_call 32; refine (c2 _).mono ?_; rintro e w' ⟨rfl, rfl⟩)
    go_ret2
    exact ⟨_, rfl, by rw [HR.out]; exact OwnGrid.nil _ _, HE.out⟩
  cases h2 : inR s2 1 5
  · have h : bgOk ds = false := by rw [hok, h1, h2]; rfl
    have HR : Hid (bgRes ds = []) := Lib.hid (by unfold bgRes; rw [h]; rfl)
    rw [h]
    simp only [h1] at c2
    simp only [h2] at c3
    clear hx h h1 h2 hok
    go_enter Try.func15, Try.ntmps15
    go_wp2_with fail
    refine c1.mono ?_
    rintro e w1 ⟨rfl, he⟩
    have HE := Lib.hid he
    clear he c1
    go_wp2_with (go_at_call 32; (first | (with_reducible refine (c2 _).mono ?_) | (with_reducible refine (c3 _).mono ?_)); rintro e w' ⟨rfl, rfl⟩)
    go_ret2
    exact ⟨_, rfl, by rw [HR.out]; exact OwnGrid.nil _ _, HE.out⟩
  have h : bgOk ds = true := by rw [hok, h1, h2]; rfl
  have HR : Hid (bgRes ds = bgAt ds ds.length) := Lib.hid (by unfold bgRes; rw [if_pos h]; rfl)
  have hd := bgOk_dirs h
  obtain ⟨hd1, hd4⟩ := dirsOk_len hd
  have HD := Lib.hid (fun (k : Nat) (x y : Int) => dirsOk_at hd (k := k) (x := x) (y := y))
  rw [h]
  simp only [h1] at c2
  simp only [h2] at c3
  have HX := Lib.hid hx
  clear hx h hd hok h1 h2
  go_enter Try.func15, Try.ntmps15
  go_wp2_with fail
  refine c1.mono ?_
  rintro e w1 ⟨rfl, he⟩
  have HE : Hid (Ext w ((w1.alloc (.cells #[.int .i64 1] 3)).alloc (.cells #[.slice (some ⟨w1.heap.size, 0, none⟩) 1 1] 27))) := Lib.hid ((he.alloc _).alloc _)
  have HO : Hid (OwnGrid ((w1.alloc (.cells #[.int .i64 1] 3)).alloc (.cells #[.slice (some ⟨w1.heap.size, 0, none⟩) 1 1] 27)) w.heap.size (.slice (some ⟨w1.heap.size + 1, 0, none⟩) 1 1) (bgAt ds 0)) := Lib.hid (by
    have h := OwnGrid.one (B := w.heap.size) (w := w1.alloc (.cells #[.int .i64 1] 3)) (Nat.le_trans he.size (by simp)) ((Own.one w1 1).base he.size)
    rw [show (w1.alloc (.cells #[.int .i64 1] 3)).heap.size = w1.heap.size + 1 by simp] at h
    exact h)
  have HB0 := Lib.hid (BgAt.zero ds)
  clear he c1
  go_wp2_with (go_at_call 32; (first | (with_reducible refine (c2 _).mono ?_) | (with_reducible refine (c3 _).mono ?_)); rintro e w' ⟨rfl, rfl⟩)
  clear c2 c3
  go_loopw [33, 6, 8, 9, 10, 11, 12, 13, 14, 15] (fun i s _ _ _ _ _ _ _ _ wr => ∃ (j n k b cp : Nat), j ≤ ds.length ∧ i = .int .i64 j ∧ s = .slice (some ⟨b, 0, none⟩) n cp ∧ Hid (BgAt ds j n k) ∧ Hid (Ext w wr) ∧ Hid (OwnGrid wr w.heap.size (.slice (some ⟨b, 0, none⟩) n cp) (bgAt ds j))) (fun i _ _ _ _ _ _ _ _ _ _ => ds.length - (intOf i).toNat)
  case atStart => exact ⟨0, 1, 1, _, 1, Nat.zero_le _, rfl, rfl, HB0, HE, HO⟩
  case round =>
    rename World => w2
    obtain ⟨j, n, k, b, cp, hj, rfl, rfl, hB, hE, hO⟩ := hrel
    by_cases hlt : j < ds.length
    · obtain ⟨b5, o5, x, dy, rfl, hb, HXY, hd1', hd2'⟩ := (HX.out.ext hE.out).at_ hlt
      obtain ⟨hx3, hy3⟩ := HD.out j x dy HXY.out
      have hp := pw_bd (j := j) (by omega)
      obtain ⟨X, rfl⟩ : ∃ X : Nat, x = X := ⟨x.toNat, by omega⟩
      have HN := Lib.hid (hB.out.succ HXY.out hx3 hy3 (by omega))
      have HG := Lib.hid (bgAt_succ hB.out HXY.out)
      rw [Int.toNat_natCast] at HN
      have HDONE := Lib.hid (fun (q : Grid) (h : MinSt (bgAt ds j) n k (-dy).toNat dy.toNat (X : Int).toNat n 0 0 q) => h.done)
      rw [Int.toNat_natCast] at HDONE
      obtain ⟨fo, hfo⟩ : ∃ fo, (-dy).toNat = fo := ⟨_, rfl⟩
      obtain ⟨so, hso⟩ : ∃ so, dy.toNat = so := ⟨_, rfl⟩
      rw [← HG.out, hfo, hso] at HDONE
      rw [hfo, hso] at HN
      have hdy1 : dy + fo ≤ so := by omega
      have hdy2 : (so : Int) ≤ dy + fo := by omega
      have hz0 : fo = 0 ∨ so = 0 := by omega
      obtain ⟨D, hD⟩ : ∃ D, fo + so = D := ⟨_, rfl⟩
      have hD3 : D ≤ 3 := by omega
      obtain ⟨hn1, hn5⟩ := hB.out.n1
      obtain ⟨hk1, hk5⟩ := hB.out.k1
      have hs := hB.out.s
      have cmag : ∀ W, Calls Try.prog 39 #[.int .i64 dy] W fun e w' => e = .returned (.int .i64 (D : Int)) ∧ W = w' := fun W => by
        have h := magnitude_any dy W (by omega)
        rw [show max dy (-dy) = (D : Int) by omega] at h
        exact h
      have ce : ∀ W, Calls Try.prog 38 #[.int .i64 ((n : Int) + (D : Int)), .int .i64 ((k : Int) + (X : Int))] W fun e w' => ∃ b cap, e = .returned (.slice (some ⟨b, 0, none⟩) (n + D) cap) ∧ OwnGrid w' W.heap.size (.slice (some ⟨b, 0, none⟩) (n + D) cap) (List.replicate (n + D) (List.replicate (k + X) 0)) ∧ Ext W w' := fun W => by
        have h := newGrid_any (n + D) (k + X) W (by omega) (by omega) (by omega) (by omega)
        rw [Int.natCast_add, Int.natCast_add] at h
        exact h
      obtain ⟨N, hN⟩ : ∃ N, n + D = N := ⟨_, rfl⟩
      obtain ⟨g, hg⟩ : ∃ g, bgAt ds j = g := ⟨_, rfl⟩
      obtain ⟨C, hC⟩ : ∃ C, pw j = C := ⟨_, rfl⟩
      have hb := hB.out.b
      have hO2 := hO.out
      rw [hg, hC] at hb
      rw [hg] at HDONE hs hO2
      rw [hC] at hp
      obtain ⟨hC0, hC1⟩ := hp
      have HST : Hid (MinSt g n k fo so X 0 0 0 (List.replicate N (List.replicate (k + X) 0))) := Lib.hid (by
        rw [← hN, ← hD]
        exact MinSt.start (zeros_shape _ _) (fun i l hi hl => zeros_at hi hl))
      rw [hD, hN] at HN
      simp only [hN] at ce
      obtain ⟨R0, c0, q0, _⟩ := hs.mem hO2.gridAt (y := 0) (by omega)
      rw [Nat.add_zero] at q0
      have hgb := World.block_lt_of_cell? _ _ q0
      have HS := Lib.hid hs
      have HB := Lib.hid hb
      obtain ⟨W0, hW0⟩ : ∃ W0, W0 = w2.alloc (.cells #[.int .i64 (X : Int), .int .i64 dy] 35) := ⟨_, rfl⟩
      have HW0 := Lib.hid hW0
      have HWE : Hid (Ext w2 W0) := Lib.hid (by rw [hW0]; exact (Ext.refl w2).alloc _)
      have HGX := Lib.hid (hO2.ext HWE.out).gridAt
      have HBX : Hid (∀ W, Ext W0 W → W.cell? ⟨w2.heap.size, 0, none⟩ = some (.int .i64 (X : Int)) ∧ W.cell? ⟨w2.heap.size, 1, none⟩ = some (.int .i64 dy)) := Lib.hid fun W e => by
        have h1 : w2.heap.size < W0.heap.size := by rw [hW0]; simp
        exact ⟨(e.cell h1).trans (by rw [hW0]; simp), (e.cell h1).trans (by rw [hW0]; simp)⟩
      have HQ0 : Hid (∀ W, Ext W0 W → W.cell? ⟨b, 0, none⟩ = some (.slice R0 k c0)) := Lib.hid fun W e => ((HWE.out.trans e).cell hgb).trans q0
      clear hs hb hW0 q0 hfo hso hO2 hg hC hgb
      go_upto_region 8 with fail
      rw [← HW0.out]
      obtain ⟨bx1, bx2⟩ := HBX.out W0 (Ext.refl W0)
      have q0 := HQ0.out W0 (Ext.refl W0)
      clear hd1' hd2'
      have hw1 : IntKind.i64.wrap ((n : Int) + (D : Int)) = (n : Int) + (D : Int) := IntWalk.i64_in _ (by omega)
      have hw2 : IntKind.i64.wrap ((k : Int) + (X : Int)) = (k : Int) + (X : Int) := IntWalk.i64_in _ (by omega)
      go_cut [9] (fun s wx => ∃ bo cap, s = .slice (some ⟨bo, 0, none⟩) N cap ∧ Hid (Ext W0 wx) ∧ Hid (OwnGrid wx W0.heap.size (.slice (some ⟨bo, 0, none⟩) N cap) (List.replicate N (List.replicate (k + X) 0))))
      case first =>
        have g1 : (0 : Int) < (n : Int) := by omega
        have g2 : 0 < n := by omega
        have HK : Hid (∀ W, Ext W0 W → W.cell? ⟨b, 0, none⟩ = some (.slice R0 k c0) ∧ W.cell? ⟨w2.heap.size, 0, none⟩ = some (.int .i64 (X : Int)) ∧ W.cell? ⟨w2.heap.size, 1, none⟩ = some (.int .i64 dy) ∧ Ext W0 W) := Lib.hid fun W e => ⟨HQ0.out W e, (HBX.out W e).1, (HBX.out W e).2, e⟩
        clear HDONE HN HG HS HGX HB HST HX HD HE HO hB hE hO HXY HB0 HW0 HWE hdy1 hdy2 hz0 hD hN
        first | go_region_held3 (fun W => W.cell? ⟨b, 0, none⟩ = some (.slice R0 k c0) ∧ W.cell? ⟨w2.heap.size, 0, none⟩ = some (.int .i64 (X : Int)) ∧ W.cell? ⟨w2.heap.size, 1, none⟩ = some (.int .i64 dy) ∧ Ext W0 W) (first | exact HK.out _ (Ext.refl _).drew | exact HK.out _ ((‹_ ∧ _ ∧ _ ∧ Ext W0 _›).2.2.2.trans he) | go_keep) (first | (go_at_call 39; refine (cmag _).mono ?_; rintro e w' ⟨rfl, rfl⟩) | (go_at_call 38; refine (ce _).mono ?_; rintro e w3 ⟨bo, cap, rfl, ho, he⟩)) | fail
        all_goals
          go_wp2_with fail
          go_meet
          exact ⟨bo, cap, rfl, Lib.hid (Ext.trans (by (repeat (first | exact Ext.refl _ | apply Ext.drew | apply Ext.alloc))) he), Lib.hid (ho.base (Nat.le_refl _))⟩
      case rest =>
      rename World => w3
      clear hw1 hw2 bx1 bx2 q0 ce cmag
      obtain ⟨bo, cap2, rfl, HE1, HO1⟩ := hcut
      obtain ⟨bx1, bx2⟩ := HBX.out w3 HE1.out
      go_upto_region 9 with fail
      go_cut [10, 11] (fun f t wx => f = .int .i64 (fo : Int) ∧ t = .int .i64 (so : Int) ∧ Hid (Ext w3 wx))
      case first =>
        clear HDONE HN HG HS HGX HB HST HX HD HE HO hB hE hO HXY HB0 HW0 HWE HQ0 HBX HE1 HO1 hD hN
        have hwn : IntKind.i64.wrap (-dy) = -dy := IntWalk.i64_in _ (by omega)
        by_cases hs : 0 ≤ dy
        · have hm1 : max 0 (-dy) = 0 := by omega
          have hm2 : max 0 dy = dy := by omega
          first | go_region_held3 (fun W => W.cell? ⟨w2.heap.size, 1, none⟩ = some (.int .i64 dy)) (go_keep) (fail) | fail
          all_goals
            go_wp2_with fail
            all_goals
              go_meet
              exact ⟨by first | rfl | (congr 1; omega) | (congr 1; (repeat' split) <;> omega), by first | rfl | (congr 1; omega) | (congr 1; (repeat' split) <;> omega), Lib.hid (by (repeat (first | exact Ext.refl _ | apply Ext.drew)))⟩
        · have hm1 : max 0 (-dy) = -dy := by omega
          have hm2 : max 0 dy = 0 := by omega
          first | go_region_held3 (fun W => W.cell? ⟨w2.heap.size, 1, none⟩ = some (.int .i64 dy)) (go_keep) (fail) | fail
          all_goals
            go_wp2_with fail
            all_goals
              go_meet
              exact ⟨by first | rfl | (congr 1; omega) | (congr 1; (repeat' split) <;> omega), by first | rfl | (congr 1; omega) | (congr 1; (repeat' split) <;> omega), Lib.hid (by (repeat (first | exact Ext.refl _ | apply Ext.drew)))⟩
      case rest =>
      rename World => w4
      obtain ⟨rfl, rfl, he4⟩ := hcut
      have HE2 := Lib.hid (HE1.out.trans he4.out)
      have HO2 := Lib.hid (HO1.out.ext he4.out)
      clear HE1 HO1 he4 bx1 bx2
      go_wp2_with fail
      go_loopw [60, 12, 13, 14, 15] (fun i _ _ _ _ wr => ∃ (a : Nat) (q : Grid), a ≤ n ∧ i = .int .i64 a ∧ Hid (Ext W0 wr) ∧ Hid (OwnGrid wr W0.heap.size (.slice (some ⟨bo, 0, none⟩) N cap2) q) ∧ Hid (MinSt g n k fo so X a 0 0 q)) (fun i _ _ _ _ _ => n - (intOf i).toNat)
      case atStart => exact ⟨0, _, Nat.zero_le _, rfl, HE2, HO2, HST⟩
      case round =>
        rename World => wa
        clear HE2 HO2
        obtain ⟨a, q, ha, rfl, hE5, hO5, hS⟩ := hrel
        by_cases hlt : a < n
        · obtain ⟨R, rc, hq0, hcell⟩ := HS.out.mem HGX.out hlt
          rw [Nat.zero_add] at hq0
          have hq1 := (hE5.out.cell (World.block_lt_of_cell? _ _ hq0)).trans hq0
          clear hq0
          go_wp2_with fail
          go_loopw [67, 14, 15] (fun i _ _ wr => ∃ (b : Nat) (q : Grid), b ≤ k ∧ i = .int .i64 b ∧ Hid (Ext W0 wr) ∧ Hid (OwnGrid wr W0.heap.size (.slice (some ⟨bo, 0, none⟩) N cap2) q) ∧ Hid (MinSt g n k fo so X a b b q)) (fun i _ _ _ => k - (intOf i).toNat)
          case atStart => exact ⟨0, q, Nat.zero_le _, rfl, hE5, hO5, hS⟩
          case round =>
            rename World => wb
            clear hE5 hO5 hS
            obtain ⟨l, q, hbk, rfl, hE5, hO5, hS⟩ := hrel
            by_cases hltb : l < k
            · obtain ⟨R', ro, rfl, hc1⟩ := hcell.out wb hE5.out l hltb
              obtain ⟨z, hz⟩ : ∃ z, at2 g a l = z := ⟨_, rfl⟩
              rw [hz] at hc1
              have hzb := HB.out a l hlt hltb
              rw [hz] at hzb
              obtain ⟨hz1, hz2⟩ := hzb
              have HZ := Lib.hid hz
              clear hz
              obtain ⟨qr, hqr, hqrl⟩ := hS.out.1.get (show fo + a < n + (fo + so) by omega)
              obtain ⟨Rq, cR, hcq, hle, hBR, hRl, hints, hfr, hset⟩ := hO5.out.row hqr (by omega)
              obtain ⟨ov, hov, hc8⟩ := hints.at1 (k := l) (by omega)
              rw [Nat.zero_add] at hc8
              rw [hqrl] at hcq
              have hf := hfr l
              have obd := hS.out.bd (C := C) (by omega) HB.out (Or.inl ⟨hlt, by omega, by omega⟩) (i := fo + a) (l := l) (by omega) (by omega)
              rw [at2_of hqr hov.out] at obd
              obtain ⟨ob1, ob2⟩ := obd
              have HE2 : Hid (Ext W0 (wb.setCell ⟨Rq, l, none⟩ (.int .i64 (ov + z)))) := Lib.hid (Below.setCell hE5.out hBR _)
              have HO2 := Lib.hid (hset l (ov + z) (by omega))
              have HN2 := Lib.hid (hS.out.add hltb hqr hov.out HZ.out)
              have hFN : fo + a < N := by omega
              clear hset hfr hints hqr hqrl hE5 hO5 hov hle
              go_upto_region 16 with fail
              go_cut [9] (fun s wx => s = .slice (some ⟨bo, 0, none⟩) N cap2 ∧ ∃ q', Hid (Ext W0 wx) ∧ Hid (OwnGrid wx W0.heap.size (.slice (some ⟨bo, 0, none⟩) N cap2) q') ∧ Hid (MinSt g n k fo so X a (l + 1) l q'))
              case first =>
                go_wp2_with fail
                go_meet
                exact ⟨rfl, _, HE2, HO2, HN2⟩
              case rest =>
              rename World => wd
              clear HE2 HO2 HN2 hcq hf hc8 hc1 hBR hRl ob1 ob2 hS hFN
              obtain ⟨rfl, q, hE5, hO5, hS⟩ := hcut
              obtain ⟨bx1, bx2⟩ := HBX.out wd hE5.out
              obtain ⟨qr, hqr, hqrl⟩ := hS.out.1.get (show so + a < n + (fo + so) by omega)
              obtain ⟨Rq, cR, hcq, hle, hBR, hRl, hints, hfr, hset⟩ := hO5.out.row hqr (by omega)
              obtain ⟨ov, hov, hc8⟩ := hints.at1 (k := X + l) (by omega)
              rw [Nat.zero_add, Nat.add_comm X l] at hc8
              rw [hqrl] at hcq
              have hf := hfr (l + X)
              have obd := hS.out.bd (C := C) (by omega) HB.out (Or.inl ⟨hlt, by omega, by omega⟩) (i := so + a) (l := X + l) (by omega) (by omega)
              rw [at2_of hqr hov.out] at obd
              obtain ⟨ob1, ob2⟩ := obd
              have HN2 := Lib.hid (hS.out.sub hltb hqr hov.out HZ.out)
              rw [Nat.add_comm X l] at HN2
              have HE2 : Hid (Ext W0 (wd.setCell ⟨Rq, l + X, none⟩ (.int .i64 (ov - z)))) := Lib.hid (Below.setCell hE5.out hBR _)
              have HO2 := Lib.hid (hset (l + X) (ov - z) (by omega))
              obtain ⟨E, hEq⟩ : ∃ E, l + X = E := ⟨_, rfl⟩
              rw [hEq] at HE2 HO2 HN2 hc8 hf
              have hEK : E < k + X := by omega
              obtain ⟨K, hK⟩ : ∃ K, k + X = K := ⟨_, rfl⟩
              rw [hK] at hcq hEK
              obtain ⟨T, hT⟩ : ∃ T, so + a = T := ⟨_, rfl⟩
              rw [hT] at hcq HO2 HN2
              have hTN : T < N := by omega
              have hw : IntKind.i64.wrap (ov - z) = ov - z := IntWalk.i64_in _ (by omega)
              have hw2 : IntKind.i64.wrap ((l : Int) + (X : Int)) = (E : Int) := by rw [← hEq, Int.natCast_add]; exact IntWalk.i64_in _ (by omega)
              have hw3 : IntKind.i64.wrap ((so : Int) + (a : Int)) = (T : Int) := by rw [← hT, Int.natCast_add]; exact IntWalk.i64_in _ (by omega)
              clear hset hfr hints hqr hqrl hE5 hO5 hov hle hT hS hK hEq
              go_upto_region 17 with fail
              first | go_region_with fail | fail
              all_goals
                go_wp2_with fail
                go_roundw
                case rel => exact ⟨l + 1, _, by omega, by go_num, Lib.hid (HE2.out.trans (by (repeat (first | exact Ext.refl _ | apply Ext.drew)))), Lib.hid (HO2.out.ext (by (repeat (first | exact Ext.refl _ | apply Ext.drew)))), HN2⟩
                case measure => simp [intOf]; omega
            · obtain rfl : l = k := by omega
              have HN2 := Lib.hid hS.out.row
              go_wp2_with fail
              go_roundw
              case rel => exact ⟨a + 1, q, by omega, by go_num, hE5, hO5, HN2⟩
              case measure => simp [intOf]; omega
        · obtain rfl : a = n := by omega
          have HQ := Lib.hid (HDONE.out q hS.out)
          rw [HQ.out] at hO5
          have HO6 := Lib.hid (hO5.out.base (B' := w.heap.size) (Nat.le_trans hE.out.size HWE.out.size))
          have HE6 := Lib.hid ((hE.out.trans HWE.out).trans hE5.out)
          go_wp2_with fail
          go_roundw
          case rel => exact ⟨j + 1, N, _, bo, cap2, by omega, by go_num, rfl, HN, HE6, HO6⟩
          case measure => simp [intOf]; omega
    · obtain rfl : j = ds.length := by omega
      go_wp2_with fail
      go_ret2
      exact ⟨_, rfl, by rw [HR.out]; exact hO.out, hE.out⟩
end Go.Proofs.Ytiekgdgonleoaaa
