/- GridSums in the reference. -/
import Derived.Test.YtnnkondlefjkcaaLines4
namespace Go.Proofs.Ytnnkondlefjkcaa
open Go.RowKit Tomo

set_option maxRecDepth 100000 in
set_option maxHeartbeats 4000000 in
theorem specGridSums_any (A : Option Addr) (ca : Nat) (g : Grid) (dx dy : Int) (w : World) (hl : g.length ≤ 1048576) (hr : ∀ r ∈ g, r.length ≤ 1048576) (hx : GridAt w A g) :
    Calls Try.prog 26 #[.slice A g.length ca, .agg #[.int .i64 dx, .int .i64 dy]] w fun e w' => ∃ v, e = .returned v ∧ Own w' w.heap.size v (gsI g dx dy) ∧ Ext w w' := by
  have cg := fun W (e : Ext w W) => l11Grid_any A ca g W hl hr (hx.ext e)
  have cd := fun W => specDirectionOk_any dx dy W
  cases h1 : gridOk g (-100) 100
  · simp only [h1] at cg
    have HR : Hid (gsI g dx dy = []) := Lib.hid (by unfold gsI; rw [if_neg (by rw [h1]; simp)])
    have cg2 := cg _ ((Ext.refl w).alloc (.cells #[.int .i64 dx, .int .i64 dy] 32))
    clear hx hr cg
    go_enter Try.func26, Try.ntmps26
    go_wp2_with (go_at_call 68; refine cg2.mono ?_; rintro e w' ⟨rfl, rfl⟩)
    go_ret
    exact ⟨_, rfl, by rw [HR.out]; exact Own.nil _ _, (Ext.refl w).alloc _⟩
  simp only [h1] at cg
  have cg2 := cg _ ((Ext.refl w).alloc (.cells #[.int .i64 dx, .int .i64 dy] 32))
  cases h2 : dirOk dx dy
  · simp only [h2] at cd
    have HR : Hid (gsI g dx dy = []) := Lib.hid (by unfold gsI; rw [if_neg (by rw [h2]; simp)])
    clear hx hr cg
    go_enter Try.func26, Try.ntmps26
    go_wp2_with (go_at_call 68; refine cg2.mono ?_; rintro e w' ⟨rfl, rfl⟩)
    refine (cd _).mono ?_
    rintro e w1 ⟨rfl, he⟩
    have HE := Lib.hid (((Ext.refl w).alloc _).trans he)
    clear he
    go_wp2_with fail
    go_ret
    exact ⟨_, rfl, by rw [HR.out]; exact Own.nil _ _, HE.out⟩
  simp only [h2] at cd
  obtain ⟨hs, hn, hk, hb⟩ := grid_bd h1
  have HRES : Hid (gsI g dx dy = lsI g g.length (g.headD []).length dx dy) := Lib.hid (by unfold gsI; rw [if_pos ⟨h1, h2⟩])
  obtain ⟨n, hgn⟩ : ∃ n, g.length = n := ⟨_, rfl⟩
  obtain ⟨k, hgk⟩ : ∃ k, (g.headD []).length = k := ⟨_, rfl⟩
  rw [hgn] at hs hn hb HRES cg2 ⊢
  rw [hgk] at hs hk hb HRES
  have cc := fun W => specCountLines_any n k dx dy W hn hk h2
  obtain ⟨d1, d2⟩ := dir_bd h2
  obtain ⟨l1, l2⟩ := countN_bd (n := n) (k := k) d1 d2 (by omega) (by omega)
  have HLN : Hid (∀ y x : Nat, y < n → x < k → 0 ≤ lineNo k dx dy y x ∧ lineNo k dx dy y x < countN n k dx dy) := Lib.hid fun y x hy hx => by
    have := lineNo_bd (n := n) (k := k) (y := y) (x := x) d1 d2 (by omega) (by omega) (by omega) (by omega)
    exact ⟨this.1, this.2.1⟩
  have HC : Hid (∀ (y x : Nat) W, y < n → x < k → Calls Try.prog 71 #[.int .i64 n, .int .i64 k, .agg #[.int .i64 dx, .int .i64 dy], .int .i64 y, .int .i64 x] W fun e w' => e = .returned (.int .i64 (lineNo k dx dy y x)) ∧ Ext W w') := Lib.hid fun y x W q1 q2 => specLineOf_any n k dx dy y x W hn hk h2 q1 q2
  obtain ⟨L, hL⟩ : ∃ L : Nat, countN n k dx dy = L := ⟨(countN n k dx dy).toNat, by omega⟩
  have HST := Lib.hid (LsSt.start (g := g) hL)
  have HLL := Lib.hid hL
  rw [hL] at l1 l2 HLN
  simp only [hL] at cc
  have hmk := run_make_row' (P := Try.prog) 30 3 (.int .i64 0) 8 Try.underlying30 infoInt rfl .i64 .i64 L (by omega) (by omega)
  obtain ⟨bm, om, _, _, _, hA, hbm, _⟩ := hx.at_ (k := 0) (by rw [hs.1]; omega)
  subst hA
  obtain ⟨R0, c0, q0, _⟩ := hs.mem hx (y := 0) (by omega)
  rw [Nat.add_zero] at q0
  have HS := Lib.hid hs
  have HX := Lib.hid hx
  have HB := Lib.hid hb
  obtain ⟨W0, hW0⟩ : ∃ W0, W0 = w.alloc (.cells #[.int .i64 dx, .int .i64 dy] 32) := ⟨_, rfl⟩
  have HW0 := Lib.hid hW0
  have HWE : Hid (Ext w W0) := Lib.hid (by rw [hW0]; exact (Ext.refl w).alloc _)
  have HBX : Hid (∀ W, Ext W0 W → W.cell? ⟨w.heap.size, 0, none⟩ = some (.int .i64 dx) ∧ W.cell? ⟨w.heap.size, 1, none⟩ = some (.int .i64 dy)) := Lib.hid fun W e => by
    have h1 : w.heap.size < W0.heap.size := by rw [hW0]; simp
    exact ⟨(e.cell h1).trans (by rw [hW0]; simp), (e.cell h1).trans (by rw [hW0]; simp)⟩
  have HQ0 : Hid (∀ W, Ext w W → W.cell? ⟨bm, om, none⟩ = some (.slice R0 k c0)) := Lib.hid fun W e => (e.cell hbm).trans q0
  clear hx hr cg h1 h2 hs hb hL d1 d2 hgn hgk hl hW0 q0
  obtain ⟨hn1, hn5⟩ := hn
  obtain ⟨hk1, hk5⟩ := hk
  go_enter Try.func26, Try.ntmps26
  go_wp2_with (go_at_call 68; refine cg2.mono ?_; rintro e w' ⟨rfl, rfl⟩)
  refine (cd _).mono ?_
  rintro e w1 ⟨rfl, he⟩
  rw [← HW0.out] at he
  have HE1 := Lib.hid he
  obtain ⟨bx1, bx2⟩ := HBX.out w1 he
  have q0 := HQ0.out w1 (HWE.out.trans he)
  clear he cd cg2
  go_wp2_with fail
  first | go_region_with (go_at_call 70; refine (cc _).mono ?_; rintro e w2 ⟨rfl, he⟩) | fail
  all_goals
    have he1 : Ext w1 w2 := by first | exact he | exact (Ext.refl w1).drew.trans he
    have HE2 : Hid (Ext W0 (w2.alloc (.cells (madeCells #[.int .i64 0] L) 3))) := Lib.hid ((HE1.out.trans he1).alloc _)
    have HO1 : Hid (Own (w2.alloc (.cells (madeCells #[.int .i64 0] L) 3)) W0.heap.size (.slice (some ⟨w2.heap.size, 0, none⟩) L L) (List.replicate L 0)) := Lib.hid ((own_zeros w2 L (by omega)).base (HE1.out.trans he1).size)
    obtain ⟨bo, hbo⟩ : ∃ bo, w2.heap.size = bo := ⟨_, rfl⟩
    rw [hbo] at HO1 ⊢
    clear he he1 hbo cc bx1 bx2 q0
    go_wp2_with fail
    go_loopw [30, 6, 7, 8, 9, 10] (fun i _ _ _ _ _ wr => ∃ (a : Nat) (q : List Int), a ≤ n ∧ i = .int .i64 a ∧ Hid (Ext W0 wr) ∧ Hid (Own wr W0.heap.size (.slice (some ⟨bo, 0, none⟩) L L) q) ∧ Hid (LsSt g n k dx dy a 0 q)) (fun i _ _ _ _ _ _ => n - (intOf i).toNat)
    case atStart => exact ⟨0, _, Nat.zero_le _, rfl, HE2, HO1, HST⟩
    case round =>
      rename World => wa
      obtain ⟨a, q, ha, rfl, hE, hO, hS⟩ := hrel
      by_cases hlt : a < n
      · obtain ⟨R, rc, hq0, hcell⟩ := HS.out.mem HX.out hlt
        have hq1 := ((HWE.out.trans hE.out).cell (World.block_lt_of_cell? _ _ hq0)).trans hq0
        clear hq0
        go_wp2_with fail
        go_loopw [37, 8, 9, 10] (fun i _ _ _ wr => ∃ (b : Nat) (q : List Int), b ≤ k ∧ i = .int .i64 b ∧ Hid (Ext W0 wr) ∧ Hid (Own wr W0.heap.size (.slice (some ⟨bo, 0, none⟩) L L) q) ∧ Hid (LsSt g n k dx dy a b q)) (fun i _ _ _ _ => k - (intOf i).toNat)
        case atStart => exact ⟨0, q, Nat.zero_le _, rfl, hE, hO, hS⟩
        case round =>
          rename World => wb
          clear hE hO hS
          obtain ⟨b, q, hbk, rfl, hE, hO, hS⟩ := hrel
          by_cases hltb : b < k
          · obtain ⟨R', ro, rfl, hc1⟩ := hcell.out wb (HWE.out.trans hE.out) b hltb
            obtain ⟨z, hz⟩ : ∃ z, at2 g a b = z := ⟨_, rfl⟩
            rw [hz] at hc1
            have hzb := HB.out a b hlt hltb
            rw [hz] at hzb
            obtain ⟨hz1, hz2⟩ := hzb
            have hll := HLN.out a b hlt hltb
            have cl := fun W => HC.out a b W hlt hltb
            obtain ⟨l, hl⟩ : ∃ l : Nat, lineNo k dx dy a b = l := ⟨(lineNo k dx dy a b).toNat, by omega⟩
            rw [hl] at hll
            simp only [hl] at cl
            have hlL : l < L := by omega
            have hql : q.length = L := by have := hS.out.1; rw [HLL.out] at this; omega
            obtain ⟨⟨ov, hov, _⟩, _, _, hbB⟩ := hO.out.row (j := l) (by rw [hql]; exact hlL)
            obtain ⟨ov1, ov2⟩ := hS.out.bd hn5 hk5 hlt hbk HB.out hov
            have HN := Lib.hid (hS.out.put hl (by rw [HLL.out]; omega) hz hov)
            have HW : Hid (∀ W, Ext wb W → (W.cell? ⟨bo, l, none⟩ = some (.int .i64 ov) ∧ W.frozen? ⟨bo, l, none⟩ = false) ∧ Own (W.setCell ⟨bo, l, none⟩ (.int .i64 (ov + z))) W0.heap.size (.slice (some ⟨bo, 0, none⟩) L L) (q.set l (ov + z)) ∧ Ext W0 (W.setCell ⟨bo, l, none⟩ (.int .i64 (ov + z)))) := Lib.hid fun W e => by
              obtain ⟨⟨ov', hov', hoc⟩, hof, hput, _⟩ := (hO.out.ext e).row (j := l) (by rw [hql]; exact hlL)
              rw [hov] at hov'
              cases hov'
              exact ⟨⟨hoc, hof⟩, hput.out _, Below.setCell (hE.out.trans e) hbB _⟩
            obtain ⟨bx1, bx2⟩ := HBX.out wb hE.out
            have q0 := HQ0.out wb (HWE.out.trans hE.out)
            clear hll hov hl hz hql
            go_wp2_with fail
            first | go_region_with (go_at_call 71; refine (cl _).mono ?_; rintro e w3 ⟨rfl, he⟩) | fail
            all_goals
              have he1 : Ext wb w3 := by first | exact he | exact (Ext.refl wb).drew.trans he
              obtain ⟨⟨hoc, hof⟩, ho2, he2⟩ := HW.out w3 he1
              have HO2 := Lib.hid ho2
              have HE3 := Lib.hid he2
              clear he he1 ho2 he2
              go_wp2_with fail
              go_roundw
              case rel => exact ⟨b + 1, _, by omega, by go_num, HE3, HO2, HN⟩
              case measure => simp [intOf]; omega
          · obtain rfl : b = k := by omega
            have HN := Lib.hid hS.out.row
            go_wp2_with fail
            go_roundw
            case rel => exact ⟨a + 1, q, by omega, by go_num, hE, hO, HN⟩
            case measure => simp [intOf]; omega
      · obtain rfl : a = n := by omega
        have HD := Lib.hid hS.out.done
        go_wp2_with fail
        go_ret
        exact ⟨_, rfl, by rw [HRES.out, ← HD.out]; exact hO.out.base HWE.out.size, HWE.out.trans hE.out⟩
end Go.Proofs.Ytnnkondlefjkcaa
