/- The program's search for images: its walk. -/
import Derived.Test.YtpmpbdcbiaohdaaPut2
namespace Go.Proofs.Ytpmpbdcbiaohdaa
open Go.RowKit Tomo

set_option maxHeartbeats 4000000 in
theorem put_step (c : Cx) (rows rs : List Int) (l : Int) (ls : Row) (hn5 : c.n ≤ 5) (hk5 : c.k ≤ 5) (hIH : PutOk c rows rs ls) : PutOk c rows rs (l :: ls) := by
  intro done pre cur need y x gs w hdrop hyR hy hx hcl hkx n1 n2 hall hbnd hdone S0
  obtain ⟨Y, hDY⟩ : ∃ Y, done.length = Y := ⟨_, rfl⟩
  obtain ⟨X, hPX⟩ : ∃ X, pre.length = X := ⟨_, rfl⟩
  have hCX : cur.length = X := hcl.trans hPX
  obtain ⟨u, hlu⟩ : ∃ u, ls.length = u := ⟨_, rfl⟩
  obtain ⟨R, hrR⟩ : ∃ R, rs.length = R := ⟨_, rfl⟩
  rw [List.length_cons, hlu] at hkx hbnd S0 ⊢
  rw [hrR] at hyR hbnd S0 ⊢
  rw [hPX] at hkx hx
  rw [hDY] at hyR hy
  subst hy hx
  have HGOAL : Hid (∀ w' Z, Z = (if need ≤ (u : Int) ∧ l ≤ (R : Int) then putRow (contK rs done) R (pre ++ [l]) ls need (cur ++ [0]) else []) ++ (if 0 < need ∧ 0 < l then putRow (contK rs done) R (pre ++ [l - 1]) ls (need - 1) (cur ++ [1]) else []) → PutSt c rows w' (gs ++ Z) (mOf c.k done cur (u + 1) R) (pre ++ l :: ls) → Below c.Bz w w' → PutSt c rows w' (gs ++ putRow (contK rs done) R pre (l :: ls) need cur) (mOf c.k done cur (u + 1) R) (pre ++ l :: ls) ∧ Below c.Bz w w') := Lib.hid (fun w' Z hZ h1 h2 => ⟨by rw [putRow_cons, hlu, ← hZ]; exact h1, h2⟩)
  have HBND := Lib.hid hbnd
  have HGL2 : Hid (∀ z, (pre ++ z :: ls)[X]? = some z) := Lib.hid fun z => left_at hPX
  have HSETL : Hid (∀ a z, (pre ++ a :: ls).set X z = pre ++ z :: ls) := Lib.hid fun a z => left_set hPX
  have HROW : Hid ((mOf c.k done cur (u + 1) R)[Y]? = some (cur ++ List.replicate (u + 1) 0)) := Lib.hid (mOf_at hDY)
  have HXR : Hid (X < (cur ++ List.replicate (u + 1) (0 : Int)).length) := Lib.hid (by rw [List.length_append, List.length_replicate, hCX]; omega)
  have HRL : Hid ((cur ++ List.replicate (u + 1) (0 : Int)).length = c.k) := Lib.hid (by rw [List.length_append, List.length_replicate, hCX]; exact hkx)
  have HSETM : Hid (∀ z, (mOf c.k done cur (u + 1) R).set Y ((cur ++ List.replicate (u + 1) 0).set X z) = mOf c.k done (cur ++ [z]) u R) := Lib.hid fun z => mOf_set hDY hCX z
  have HROW2 : Hid (∀ z, (mOf c.k done (cur ++ [z]) u R)[Y]? = some (cur ++ [z] ++ List.replicate u 0)) := Lib.hid fun z => mOf_at hDY
  have HXR2 : Hid (∀ z, X < (cur ++ [z] ++ List.replicate u (0 : Int)).length) := Lib.hid fun z => by rw [List.length_append, List.length_append, List.length_replicate, List.length_singleton, hCX]; omega
  have HRL2 : Hid (∀ z, (cur ++ [z] ++ List.replicate u (0 : Int)).length = c.k) := Lib.hid fun z => by rw [List.length_append, List.length_append, List.length_replicate, List.length_singleton, hCX]; omega
  have HRESET : Hid (∀ z, (mOf c.k done (cur ++ [z]) u R).set Y ((cur ++ [z] ++ List.replicate u 0).set X 0) = mOf c.k done cur (u + 1) R) := Lib.hid fun z => mOf_reset hDY hCX z
  have HZERO : Hid (mOf c.k done (cur ++ [0]) u R = mOf c.k done cur (u + 1) R) := Lib.hid (mOf_zero _ _ _ _ _)
  have HLA : Hid ((putRow (contK rs done) R (pre ++ [l]) ls need (cur ++ [0])).length ≤ 2 ^ (u + R * c.k)) := Lib.hid (by
    have h := putRow_contK_len rs done ls (pre ++ [l]) need (cur ++ [0]) c.k R (by rw [List.length_append, List.length_singleton, hPX]; omega)
    rw [hlu, hrR] at h; exact h)
  have HPOS : Hid (2 ^ (u + 1 + R * c.k) = 2 * 2 ^ (u + R * c.k)) := Lib.hid (by rw [show u + 1 + R * c.k = (u + R * c.k) + 1 by omega, Nat.pow_succ, Nat.mul_comm])
  have HIH : Hid (∀ (z b need y x : Int) (gs : List Grid) (W : World), y = ((Y : Nat) : Int) → x = ((X : Nat) : Int) + 1 → 0 ≤ need → need ≤ 5 → 0 ≤ z → z ≤ 5 → gs.length + 2 ^ (u + R * c.k) ≤ 1000000000 → PutSt c rows W gs (mOf c.k done (cur ++ [b]) u R) (pre ++ z :: ls) →
      Calls Try.prog 36 #[.int .i64 y, .int .i64 x, .int .i64 need, .pointer (some ⟨c.Pc, 0, none⟩), .pointer (some ⟨c.Pr, 0, none⟩), .pointer (some ⟨c.Po, 0, none⟩), .pointer (some ⟨c.Pm, 0, none⟩), .pointer (some ⟨c.Pl, 0, none⟩), .pointer (some ⟨c.Pf, 0, none⟩)] W
        fun e w' => e = .returned (.tuple #[]) ∧ PutSt c rows w' (gs ++ putRow (contK rs done) R (pre ++ [z]) ls need (cur ++ [b])) (mOf c.k done (cur ++ [b]) u R) (pre ++ z :: ls) ∧ Below c.Bz W w') := Lib.hid (by
    intro z b need y x gs W hy hx n1 n2 z1 z2 hb hS
    have e : pre ++ z :: ls = pre ++ [z] ++ ls := by simp
    rw [e] at hS
    have h := hIH done (pre ++ [z]) (cur ++ [b]) need y x gs W hdrop (by rw [hDY, hrR]; exact hyR) (by rw [hDY]; exact hy) (by rw [List.length_append, List.length_singleton, hPX]; rw [hx]; rfl) (by rw [List.length_append, List.length_append, hCX, hPX]; rfl) (by rw [List.length_append, List.length_singleton, hPX]; omega) n1 n2
      (fun v hv => by
        simp only [List.mem_append, List.mem_cons, List.not_mem_nil, or_false] at hv
        rcases hv with (hv | rfl) | hv
        · exact hall v (by simp [hv])
        · exact ⟨z1, z2⟩
        · exact hall v (by simp [hv])) (by rw [hlu, hrR]; exact hb) hdone (by rw [hlu, hrR]; exact hS)
    rw [hlu, hrR] at h
    rw [e]
    exact h)
  obtain ⟨l1, l2⟩ := hall l (by simp)
  have hX1 : X + u + 1 ≤ c.k := by omega
  have hX2 : c.k ≤ X + u + 1 := by omega
  have hY1 : Y + R + 1 ≤ c.n := by omega
  have hY2 : c.n ≤ Y + R + 1 := by omega
  have HBZ : Hid (c.Bz ≤ w.heap.size) := Lib.hid (by have := S0.sz; omega)
  have HS := Lib.hid S0
  have cc := cell_of_one S0.hc
  have cr := cell_of_one S0.hr
  have cl := cell_of_one S0.hl
  have cf : w.cell? ⟨c.Pf, 0, none⟩ = some (.func (.func 36) #[] #[.pointer (some ⟨c.Pc, 0, none⟩), .pointer (some ⟨c.Pr, 0, none⟩), .pointer (some ⟨c.Po, 0, none⟩), .pointer (some ⟨c.Pm, 0, none⟩), .pointer (some ⟨c.Pl, 0, none⟩), .pointer (some ⟨c.Pf, 0, none⟩)]) := cell_of_one S0.hf
  have cL := (S0.setL (HGL2.out l)).1
  clear S0 hIH hall hdone hdrop hbnd hcl hCX hPX hDY hlu hrR hkx hyR
  have b1 : ((X : Int) == (c.k : Int)) = false := by simp; omega
  by_cases h1 : need ≤ (c.k : Int) - X - 1
  case neg =>
    go_enter Try.func36, Try.ntmps36
    go_wp2_with fail
    have d1 : decide (need ≤ (c.k : Int) - X - 1) = false := by simp; omega
    go_quiet (fail)
    generalize hw1 : World.drewN w _ = w1
    have HS1 : Hid (PutSt c rows w1 (gs ++ []) (mOf c.k done cur (u + 1) R) (pre ++ l :: ls)) := Lib.hid (by rw [List.append_nil, ← hw1]; exact HS.out.ext ((Ext.refl w).drewN _))
    have HB1 : Hid (Below c.Bz w w1) := Lib.hid (by rw [← hw1]; exact Below.mono ((Ext.refl w).drewN _) HBZ.out)
    have HBND2 : Hid ((gs ++ []).length + 2 ^ (u + R * c.k) ≤ 1000000000) := Lib.hid (by have h1 := HBND.out; rw [HPOS.out] at h1; rw [List.append_nil]; omega)
    clear cc cr cl cL cf hw1
    have dc := cell_of_one HS1.out.hc
    have dl := cell_of_one HS1.out.hl
    have dL := (HS1.out.setL (HGL2.out l)).1
    by_cases h3 : 0 < need
    case neg =>
      go_wp2_with fail
      all_goals
        go_end0
        exact ⟨rfl, HGOAL.out _ ([] ++ []) (by rw [if_neg (fun h => by omega), if_neg (fun h => by omega)]) (by rw [List.append_nil]; exact HS1.out) HB1.out⟩
    by_cases h4 : 0 < l
    case neg =>
      go_wp2_with fail
      all_goals
        go_end0
        exact ⟨rfl, HGOAL.out _ ([] ++ []) (by rw [if_neg (fun h => by omega), if_neg (fun h => by omega)]) (by rw [List.append_nil]; exact HS1.out) HB1.out⟩
    obtain ⟨R1, cR, v1, q1, q2, q3, q4, qset⟩ := HS1.out.setM (y := Y) (x := X) HROW.out HXR.out
    obtain ⟨S2, B2⟩ := qset 1
    have em := cell_of_one HS1.out.hm
    have el := cell_of_one S2.hl
    obtain ⟨eL, fL, setL⟩ := S2.setL (HGL2.out l)
    obtain ⟨S3, B3⟩ := setL (l - 1)
    have ef : ((w1.setCell ⟨R1, X, none⟩ (.int .i64 1)).setCell ⟨c.L, X, none⟩ (.int .i64 (l - 1))).cell? ⟨c.Pf, 0, none⟩ = some (.func (.func 36) #[] #[.pointer (some ⟨c.Pc, 0, none⟩), .pointer (some ⟨c.Pr, 0, none⟩), .pointer (some ⟨c.Po, 0, none⟩), .pointer (some ⟨c.Pm, 0, none⟩), .pointer (some ⟨c.Pl, 0, none⟩), .pointer (some ⟨c.Pf, 0, none⟩)]) := cell_of_one S3.hf
    rw [HSETM.out 1, HSETL.out l (l - 1)] at S3
    have HS3 := Lib.hid S3
    have HB3 := Lib.hid (Below.trans HB1.out (Below.trans B2 B3))
    rw [HRL.out] at q1 q2
    clear S2 S3 B2 B3 qset setL
    go_wp2_with fail
    refine (HIH.out (l - 1) 1 (need - 1) _ _ _ _ (by simp) (by simp) (by omega) (by omega) (by omega) (by omega) HBND2.out HS3.out).mono ?_
    rintro e w3 ⟨rfl, S4, B4⟩
    have fl := cell_of_one S4.hl
    obtain ⟨gL, gF, setL4⟩ := S4.setL (HGL2.out (l - 1))
    obtain ⟨S5, B5⟩ := setL4 l
    rw [HSETL.out (l - 1) l] at S5
    obtain ⟨R5, cR5, v5, p1, p2, p3, p4, pset⟩ := S5.setM (y := Y) (x := X) (HROW2.out 1) (HXR2.out 1)
    have gm := cell_of_one S5.hm
    obtain ⟨S6, B6⟩ := pset 0
    rw [HRESET.out 1] at S6
    have HS6 := Lib.hid S6
    have HB6 := Lib.hid (Below.trans HB3.out (Below.trans B4 (Below.trans B5 B6)))
    rw [HRL2.out 1] at p1 p2
    clear S4 S5 S6 B4 B5 B6 setL4 pset
    go_wp2
    go_end0
    exact ⟨rfl, HGOAL.out _ ([] ++ putRow (contK rs done) R (pre ++ [l - 1]) ls (need - 1) (cur ++ [1])) (by rw [if_neg (fun h => by omega), if_pos ⟨h3, h4⟩]) (by rw [← List.append_assoc]; exact HS6.out) HB6.out⟩
  by_cases h2 : l ≤ (c.n : Int) - Y - 1
  case neg =>
    go_enter Try.func36, Try.ntmps36
    go_wp2_with fail
    go_quiet (fail)
    generalize hw1 : World.drewN w _ = w1
    have HS1 : Hid (PutSt c rows w1 (gs ++ []) (mOf c.k done cur (u + 1) R) (pre ++ l :: ls)) := Lib.hid (by rw [List.append_nil, ← hw1]; exact HS.out.ext ((Ext.refl w).drewN _))
    have HB1 : Hid (Below c.Bz w w1) := Lib.hid (by rw [← hw1]; exact Below.mono ((Ext.refl w).drewN _) HBZ.out)
    have HBND2 : Hid ((gs ++ []).length + 2 ^ (u + R * c.k) ≤ 1000000000) := Lib.hid (by have h1 := HBND.out; rw [HPOS.out] at h1; rw [List.append_nil]; omega)
    clear cc cr cl cL cf hw1
    have dc := cell_of_one HS1.out.hc
    have dl := cell_of_one HS1.out.hl
    have dL := (HS1.out.setL (HGL2.out l)).1
    by_cases h3 : 0 < need
    case neg =>
      go_wp2_with fail
      all_goals
        go_end0
        exact ⟨rfl, HGOAL.out _ ([] ++ []) (by rw [if_neg (fun h => by omega), if_neg (fun h => by omega)]) (by rw [List.append_nil]; exact HS1.out) HB1.out⟩
    by_cases h4 : 0 < l
    case neg =>
      go_wp2_with fail
      all_goals
        go_end0
        exact ⟨rfl, HGOAL.out _ ([] ++ []) (by rw [if_neg (fun h => by omega), if_neg (fun h => by omega)]) (by rw [List.append_nil]; exact HS1.out) HB1.out⟩
    obtain ⟨R1, cR, v1, q1, q2, q3, q4, qset⟩ := HS1.out.setM (y := Y) (x := X) HROW.out HXR.out
    obtain ⟨S2, B2⟩ := qset 1
    have em := cell_of_one HS1.out.hm
    have el := cell_of_one S2.hl
    obtain ⟨eL, fL, setL⟩ := S2.setL (HGL2.out l)
    obtain ⟨S3, B3⟩ := setL (l - 1)
    have ef : ((w1.setCell ⟨R1, X, none⟩ (.int .i64 1)).setCell ⟨c.L, X, none⟩ (.int .i64 (l - 1))).cell? ⟨c.Pf, 0, none⟩ = some (.func (.func 36) #[] #[.pointer (some ⟨c.Pc, 0, none⟩), .pointer (some ⟨c.Pr, 0, none⟩), .pointer (some ⟨c.Po, 0, none⟩), .pointer (some ⟨c.Pm, 0, none⟩), .pointer (some ⟨c.Pl, 0, none⟩), .pointer (some ⟨c.Pf, 0, none⟩)]) := cell_of_one S3.hf
    rw [HSETM.out 1, HSETL.out l (l - 1)] at S3
    have HS3 := Lib.hid S3
    have HB3 := Lib.hid (Below.trans HB1.out (Below.trans B2 B3))
    rw [HRL.out] at q1 q2
    clear S2 S3 B2 B3 qset setL
    go_wp2_with fail
    refine (HIH.out (l - 1) 1 (need - 1) _ _ _ _ (by simp) (by simp) (by omega) (by omega) (by omega) (by omega) HBND2.out HS3.out).mono ?_
    rintro e w3 ⟨rfl, S4, B4⟩
    have fl := cell_of_one S4.hl
    obtain ⟨gL, gF, setL4⟩ := S4.setL (HGL2.out (l - 1))
    obtain ⟨S5, B5⟩ := setL4 l
    rw [HSETL.out (l - 1) l] at S5
    obtain ⟨R5, cR5, v5, p1, p2, p3, p4, pset⟩ := S5.setM (y := Y) (x := X) (HROW2.out 1) (HXR2.out 1)
    have gm := cell_of_one S5.hm
    obtain ⟨S6, B6⟩ := pset 0
    rw [HRESET.out 1] at S6
    have HS6 := Lib.hid S6
    have HB6 := Lib.hid (Below.trans HB3.out (Below.trans B4 (Below.trans B5 B6)))
    rw [HRL2.out 1] at p1 p2
    clear S4 S5 S6 B4 B5 B6 setL4 pset
    go_wp2
    go_end0
    exact ⟨rfl, HGOAL.out _ ([] ++ putRow (contK rs done) R (pre ++ [l - 1]) ls (need - 1) (cur ++ [1])) (by rw [if_neg (fun h => by omega), if_pos ⟨h3, h4⟩]) (by rw [← List.append_assoc]; exact HS6.out) HB6.out⟩
  go_enter Try.func36, Try.ntmps36
  go_wp2_with fail
  go_quiet (fail)
  go_wp2_with fail
  refine (HIH.out l 0 need _ _ gs _ (by simp) (by simp) (by omega) (by omega) (by omega) (by omega) (by have h1 := HBND.out; rw [HPOS.out] at h1; omega) (by rw [HZERO.out]; exact HS.out.ext ((Ext.refl w).drewN _))).mono ?_
  rintro e w1 ⟨rfl, S1, B1⟩
  rw [HZERO.out] at S1
  have HS1 := Lib.hid S1
  have HB1 : Hid (Below c.Bz w w1) := Lib.hid (Below.trans (Below.mono ((Ext.refl w).drewN _) HBZ.out) B1)
  have HBND2 : Hid ((gs ++ putRow (contK rs done) R (pre ++ [l]) ls need (cur ++ [0])).length + 2 ^ (u + R * c.k) ≤ 1000000000) := Lib.hid (by have h1 := HBND.out; have h2 := HLA.out; rw [HPOS.out] at h1; rw [List.length_append]; omega)
  clear cc cr cl cL cf S1 B1
  have dc := cell_of_one HS1.out.hc
  have dl := cell_of_one HS1.out.hl
  have dL := (HS1.out.setL (HGL2.out l)).1
  by_cases h3 : 0 < need
  case neg =>
    go_wp2_with fail
    all_goals
      go_end0
      exact ⟨rfl, HGOAL.out _ (putRow (contK rs done) R (pre ++ [l]) ls need (cur ++ [0]) ++ []) (by rw [if_pos (show need ≤ (u : Int) ∧ l ≤ (R : Int) by omega), if_neg (fun h => by omega)]) (by rw [List.append_nil]; exact HS1.out) HB1.out⟩
  by_cases h4 : 0 < l
  case neg =>
    go_wp2_with fail
    all_goals
      go_end0
      exact ⟨rfl, HGOAL.out _ (putRow (contK rs done) R (pre ++ [l]) ls need (cur ++ [0]) ++ []) (by rw [if_pos (show need ≤ (u : Int) ∧ l ≤ (R : Int) by omega), if_neg (fun h => by omega)]) (by rw [List.append_nil]; exact HS1.out) HB1.out⟩
  obtain ⟨R1, cR, v1, q1, q2, q3, q4, qset⟩ := HS1.out.setM (y := Y) (x := X) HROW.out HXR.out
  obtain ⟨S2, B2⟩ := qset 1
  have em := cell_of_one HS1.out.hm
  have el := cell_of_one S2.hl
  obtain ⟨eL, fL, setL⟩ := S2.setL (HGL2.out l)
  obtain ⟨S3, B3⟩ := setL (l - 1)
  have ef : ((w1.setCell ⟨R1, X, none⟩ (.int .i64 1)).setCell ⟨c.L, X, none⟩ (.int .i64 (l - 1))).cell? ⟨c.Pf, 0, none⟩ = some (.func (.func 36) #[] #[.pointer (some ⟨c.Pc, 0, none⟩), .pointer (some ⟨c.Pr, 0, none⟩), .pointer (some ⟨c.Po, 0, none⟩), .pointer (some ⟨c.Pm, 0, none⟩), .pointer (some ⟨c.Pl, 0, none⟩), .pointer (some ⟨c.Pf, 0, none⟩)]) := cell_of_one S3.hf
  rw [HSETM.out 1, HSETL.out l (l - 1)] at S3
  have HS3 := Lib.hid S3
  have HB3 := Lib.hid (Below.trans HB1.out (Below.trans B2 B3))
  rw [HRL.out] at q1 q2
  clear S2 S3 B2 B3 qset setL
  go_wp2_with fail
  refine (HIH.out (l - 1) 1 (need - 1) _ _ _ _ (by simp) (by simp) (by omega) (by omega) (by omega) (by omega) HBND2.out HS3.out).mono ?_
  rintro e w3 ⟨rfl, S4, B4⟩
  have fl := cell_of_one S4.hl
  obtain ⟨gL, gF, setL4⟩ := S4.setL (HGL2.out (l - 1))
  obtain ⟨S5, B5⟩ := setL4 l
  rw [HSETL.out (l - 1) l] at S5
  obtain ⟨R5, cR5, v5, p1, p2, p3, p4, pset⟩ := S5.setM (y := Y) (x := X) (HROW2.out 1) (HXR2.out 1)
  have gm := cell_of_one S5.hm
  obtain ⟨S6, B6⟩ := pset 0
  rw [HRESET.out 1] at S6
  have HS6 := Lib.hid S6
  have HB6 := Lib.hid (Below.trans HB3.out (Below.trans B4 (Below.trans B5 B6)))
  rw [HRL2.out 1] at p1 p2
  clear S4 S5 S6 B4 B5 B6 setL4 pset
  go_wp2
  go_end0
  exact ⟨rfl, HGOAL.out _ (putRow (contK rs done) R (pre ++ [l]) ls need (cur ++ [0]) ++ putRow (contK rs done) R (pre ++ [l - 1]) ls (need - 1) (cur ++ [1])) (by rw [if_pos (show need ≤ (u : Int) ∧ l ≤ (R : Int) by omega), if_pos ⟨h3, h4⟩]) (by rw [← List.append_assoc]; exact HS6.out) HB6.out⟩
end Go.Proofs.Ytpmpbdcbiaohdaa
