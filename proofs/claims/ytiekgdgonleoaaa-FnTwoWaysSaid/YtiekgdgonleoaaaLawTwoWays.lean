/- The law FnTwoWays: its walk. -/
import Derived.Test.YtiekgdgonleoaaaPair
import Derived.Test.YtiekgdgonleoaaaAlike
import Derived.Test.YtiekgdgonleoaaaTwo1
import Derived.Test.YtiekgdgonleoaaaGhost2
import Derived.Test.YtiekgdgonleoaaaIsGhost2
import Derived.Test.YtiekgdgonleoaaaBytes
namespace Go.Proofs.Ytiekgdgonleoaaa
open Go.RowKit Tomo

theorem at2_snoc {g : Grid} {xs : List Int} {yy : Nat} (h : g.length = yy) (i l : Nat) : at2 (g ++ [xs]) i l = if i = yy then xs[l]?.getD 0 else at2 g i l := by
  unfold at2
  by_cases hi : i = yy
  · rw [if_pos hi, hi, ← h, List.getElem?_append_right (Nat.le_refl _), Nat.sub_self]; rfl
  · rw [if_neg hi]
    rcases Nat.lt_or_ge i yy with h1 | h1
    · rw [List.getElem?_append_left (by omega)]
    · have e1 : (g ++ [xs])[i]? = none := List.getElem?_eq_none (by rw [List.length_append, h]; simp; omega)
      have e2 : g[i]? = none := List.getElem?_eq_none (by omega)
      rw [e1, e2]
theorem ints_two {W : World} {x y : Int} : Ints (W.alloc (.cells #[.int .i64 x, .int .i64 y] 3)) (some ⟨W.heap.size, 0, none⟩) [x, y] := fun j z hj => by
  rcases j with _ | _ | j
  · have : x = z := by simpa using hj
    exact ⟨W.heap.size, 0, rfl, by simp, by rw [← this]; simp⟩
  · have : y = z := by simpa using hj
    exact ⟨W.heap.size, 0, rfl, by simp, by rw [← this]; simp⟩
  · simp at hj
theorem dirs_two {W : World} : LDirs (W.alloc (.cells #[.int .i64 1, .int .i64 0, .int .i64 0, .int .i64 1] 35)) (some ⟨W.heap.size, 0, none⟩) [(1, 0), (0, 1)] := fun j d hj => by
  rcases j with _ | _ | j
  · have : (1, 0) = d := by simpa using hj
    exact ⟨W.heap.size, 0, rfl, by simp, by rw [← this]; simp, by rw [← this]; simp⟩
  · have : (0, 1) = d := by simpa using hj
    exact ⟨W.heap.size, 0, rfl, by simp, by rw [← this]; simp, by rw [← this]; simp⟩
  · simp at hj
set_option maxRecDepth 100000 in
set_option maxHeartbeats 16000000 in
theorem law_TwoWays (w : World) (A0 : Option Addr) (c0 : Nat) (xs0 : List Int) (h630 : xs0.length ≤ 9223372036854775807) (hx0 : Bytes w A0 xs0) :
    Calls Try.prog 4 #[.slice A0 xs0.length c0] w fun e w' => e = .returned (.bool true) ∧ Ext w w' := by
  by_cases hlen : xs0.length ≤ 1048576
  case neg =>
    go_enter Try.func4, Try.ntmps4
    go_wp2_with fail
    go_ret
    exact ⟨rfl, Ext.refl _⟩
  have cp := MakePair_any A0 c0 xs0 w hx0 hlen
  clear hx0
  go_enter Try.func4, Try.ntmps4
  go_wp2_with fail
  refine cp.mono ?_
  rintro e w1 ⟨b1, c1, b2, c2, m, q, n, k, rfl, ho1, ho2, hP, he⟩
  have HE1 := Lib.hid he
  have HM := Lib.hid ho1.gridAt
  have HQ := Lib.hid ho2.gridAt
  have him := hP.1.2
  have hiq := hP.2.1.2
  obtain ⟨hn1, hn5⟩ := him.2.1
  obtain ⟨hk1, hk5⟩ := him.2.2.1
  have HRM := Lib.hid (fun (W : World) (e : Ext w1 W) (Y : Nat) (hY : Y < n) => row_fact him (HM.out.ext e) hY)
  have HRQ := Lib.hid (fun (W : World) (e : Ext w1 W) (Y : Nat) (hY : Y < n) => row_fact hiq (HQ.out.ext e) hY)
  have HBD := Lib.hid (fun (i l : Nat) (hi : i < n) (hl : l < k) => diff_bd him hiq hi hl)
  have HAD := Lib.hid (fun (g : Grid) h1 h2 => add_diff (g := g) hP.1.1 hP.2.1.1 him hiq h1 h2)
  have HGD := Lib.hid (fun (g : Grid) h1 h2 => ghost_diff (g := g) hP.1.1 hP.2.1.1 him hiq hP.2.2.1 hP.2.2.2 h1 h2)
  have HML : Hid (m.length = n ∧ ∀ r ∈ m, r.length = k) := Lib.hid him.1
  have HQL : Hid (q.length = n ∧ ∀ r ∈ q, r.length = k) := Lib.hid hiq.1
  clear cp ho1 ho2 hP him hiq he
  go_wp2_with fail
  go_loopw [27, 5, 6, 7, 8, 9, 10] (fun i t _ _ _ _ _ wr => ∃ (yy : Nat) (v : Value) (g : Grid), yy ≤ n ∧ i = .int .i64 yy ∧ t = v ∧ Hid (OwnGrid wr w1.heap.size v g) ∧ Hid (Shape g yy k ∧ ∀ i l, i < yy → l < k → at2 g i l = at2 q i l - at2 m i l) ∧ Hid (Ext w1 wr)) (fun i _ _ _ _ _ _ _ => n - (intOf i).toNat)
  case atStart => exact ⟨0, _, [], Nat.zero_le _, rfl, rfl, Lib.hid (OwnGrid.empty w1 w1.heap.size (Nat.le_refl _)), Lib.hid ⟨⟨rfl, fun r hr => by cases hr⟩, fun i l hi => by omega⟩, Lib.hid ((Ext.refl w1).alloc _)⟩
  case round =>
    rename World => wy
    obtain ⟨yy, v, g, hyy, rfl, rfl, hO, hS, hEY⟩ := hrel
    by_cases hlty : yy < n
    · have hlty2 : (yy : Int) < (n : Int) := by omega
      obtain ⟨Rm, cm, om, qm, fm⟩ := HRM.out wy hEY.out yy hlty
      obtain ⟨Rq, cq, oq, qq, fq⟩ := HRQ.out wy hEY.out yy hlty
      have HQQ : Hid (∀ W, Ext wy W → W.cell? ⟨b2, yy, none⟩ = some (.slice (some ⟨Rq, oq, none⟩) k cq)) := Lib.hid fun W e => (e.cell (World.block_lt_of_cell? _ _ (by rw [Nat.zero_add] at qq; exact qq))).trans (by rw [Nat.zero_add] at qq; exact qq)
      have HFM : Hid (∀ W, Ext wy W → ∀ l, l < k → W.cell? ⟨Rm, om + l, none⟩ = some (.int .i64 (at2 m yy l))) := Lib.hid fun W e l hl => (e.cell (World.block_lt_of_cell? _ _ (fm l hl))).trans (fm l hl)
      have HFQ : Hid (∀ W, Ext wy W → ∀ l, l < k → W.cell? ⟨Rq, oq + l, none⟩ = some (.int .i64 (at2 q yy l))) := Lib.hid fun W e l hl => (e.cell (World.block_lt_of_cell? _ _ (fq l hl))).trans (fq l hl)
      rw [Nat.zero_add] at qm
      clear qq fm fq
      go_wp2_with fail
      go_loopw [35, 8, 9, 10] (fun i t _ _ wr => ∃ (ii : Nat) (v : Value) (xs : List Int), ii ≤ k ∧ i = .int .i64 ii ∧ t = v ∧ Hid (xs.length = ii) ∧ Hid (∀ l, l < ii → xs[l]? = some (at2 q yy l - at2 m yy l)) ∧ Hid (Own wr wy.heap.size v xs) ∧ Hid (Ext wy wr)) (fun i _ _ _ _ => k - (intOf i).toNat)
      case atStart => exact ⟨0, _, [], Nat.zero_le _, rfl, rfl, Lib.hid rfl, Lib.hid (fun l hl => by omega), Lib.hid (Own.empty wy wy.heap.size (Nat.le_refl _)), Lib.hid ((Ext.refl wy).alloc _)⟩
      case round =>
        rename World => wi
        obtain ⟨ii, v, xs, hii, rfl, rfl, hL, hB, ho, hEI⟩ := hrel
        by_cases hlti : ii < k
        · have hlti2 : (ii : Int) < (k : Int) := by omega
          have q1 := HQQ.out wi hEI.out
          have q2 := HFM.out wi hEI.out ii hlti
          have q3 := HFQ.out wi hEI.out ii hlti
          have hbd := HBD.out yy ii hlty hlti
          have HV : Hid (∀ l, l < ii + 1 → (xs ++ [at2 q yy ii - at2 m yy ii])[l]? = some (at2 q yy l - at2 m yy l)) := Lib.hid fun l hl => by
            rcases Nat.lt_or_ge l ii with h | h
            · rw [List.getElem?_append_left (by rw [hL.out]; exact h)]; exact hB.out l h
            · have hl' : l = ii := by omega
              rw [hl', List.getElem?_append_right (by rw [hL.out]; exact Nat.le_refl _), hL.out, Nat.sub_self]; rfl
          obtain ⟨vq, hvq⟩ : ∃ vq, at2 q yy ii = vq := ⟨_, rfl⟩
          obtain ⟨vm, hvm⟩ : ∃ vm, at2 m yy ii = vm := ⟨_, rfl⟩
          rw [hvq, hvm] at HV
          rw [hvm] at q2 hbd
          rw [hvq] at q3 hbd
          have hw : IntKind.i64.wrap (vq - vm) = vq - vm := IntWalk.i64_in _ (by omega)
          obtain ⟨z, hz⟩ : ∃ z, vq - vm = z := ⟨_, rfl⟩
          rw [hz] at HV hw
          have HLZ : Hid ((xs ++ [z]).length = ii + 1) := Lib.hid (by rw [List.length_append, hL.out]; rfl)
          have hxl : xs.length ≤ 5 := by rw [hL.out]; omega
          have HSZ := Lib.hid hEI.out.size
          clear hbd hvq hvm
          go_wp2_with (at_builtin; refine app_ints (ys := [z]) (ho.out.ext ((Ext.refl wi).alloc _)) (by have := HSZ.out; simp; omega) (by simp; omega) (by simp) (Ints.one rfl) rfl _ _ rfl rfl rfl ?_)
          intro g2 c2 w2 hown hb2 _ _
          have HOW := Lib.hid hown
          have HE2 : Hid (Ext wy w2) := Lib.hid (hb2 wy (hEI.out.alloc _))
          clear hown hb2 ho hEI q1 q2 q3
          go_wp2_with fail
          go_roundw
          case rel => exact ⟨ii + 1, _, _, by omega, by go_num, rfl, HLZ, HV, HOW, HE2⟩
          case measure => simp [intOf]; omega
        · obtain rfl : ii = k := by omega
          obtain ⟨gx, cx, hvx, _⟩ := ho.out.form (by rw [hL.out]; omega)
          subst hvx
          have HS2 : Hid (Shape (g ++ [xs]) (yy + 1) ii ∧ ∀ i l, i < yy + 1 → l < ii → at2 (g ++ [xs]) i l = at2 q i l - at2 m i l) := Lib.hid ⟨⟨by rw [List.length_append, hS.out.1.1]; rfl, fun r hr => by
            rcases List.mem_append.1 hr with h | h
            · exact hS.out.1.2 r h
            · rw [List.mem_singleton.1 h, hL.out]⟩, fun i l hi hl => by
            rw [at2_snoc hS.out.1.1]
            by_cases h : i = yy
            · rw [if_pos h, h, hB.out l hl]; rfl
            · rw [if_neg h]; exact hS.out.2 i l (by omega) hl⟩
          have hql : g.length ≤ 5 := by rw [hS.out.1.1]; omega
          have HSZ := Lib.hid hEY.out.size
          go_wp2_with (at_builtin; refine app_row hO.out (hEI.out.alloc _) HSZ.out (ho.out.ext ((Ext.refl wi).alloc _)) (by omega) (by simp) rfl _ _ rfl rfl rfl ?_)
          intro b2' cap2 w2 ho2 hb2
          have HN := Lib.hid ho2
          have HE2 : Hid (Ext w1 w2) := Lib.hid (hb2 w1 ((hEY.out.trans hEI.out).alloc _))
          clear ho2 hb2
          go_wp2_with fail
          go_roundw
          case rel => exact ⟨yy + 1, _, _, by omega, by go_num, rfl, HN, HS2, HE2⟩
          case measure => simp [intOf]; omega
    · obtain rfl : yy = n := by omega
      obtain ⟨bg, cg, hvg, _⟩ := hO.out.form (by rw [hS.out.1.1]; omega)
      rw [hS.out.1.1] at hvg
      subst hvg
      obtain ⟨ha1, ha2⟩ := HAD.out g hS.out.1 hS.out.2
      have hgd := HGD.out g hS.out.1 hS.out.2
      have HGG := Lib.hid hO.out.gridAt
      have hgl := hS.out.1.1
      have hgr : ∀ r ∈ g, r.length ≤ 1048576 := fun r hr => by rw [hS.out.1.2 r hr]; omega
      have hmr : ∀ r ∈ m, r.length ≤ 1048576 := fun r hr => by rw [HML.out.2 r hr]; omega
      have hqr : ∀ r ∈ q, r.length ≤ 1048576 := fun r hr => by rw [HQL.out.2 r hr]; omega
      have hml := HML.out.1
      have hql := HQL.out.1
      have HCA := Lib.hid (fun (W : World) (e : Ext wy W) => by
        have h := implAddGhost_any (some ⟨b1, 0, none⟩) (some ⟨bg, 0, none⟩) c1 cg m g 0 0 W (by omega) hmr (by omega) hgr (HM.out.ext (hEY.out.trans e)) (HGG.out.ext e)
        rw [ha1, ha2, hml, hgl] at h
        exact h)
      have HCY := Lib.hid (fun (W : World) (X : Option Addr) (xc : Nat) (e : Ext wy W) (hx : GridAt W X q) => by
        have h := alike_yes X (some ⟨b2, 0, none⟩) xc c2 q W (by omega) (fun r hr => by rw [HQL.out.2 r hr]; omega) hx (HQ.out.ext (hEY.out.trans e))
        rw [hql] at h
        exact h)
      have HCM : Hid (∀ W, Ext wy W → Calls Try.prog 12 #[.slice (some ⟨b1, 0, none⟩) yy c1, .slice (some ⟨b2, 0, none⟩) yy c2] W fun e w' => e = .returned (.bool (decide (m = q))) ∧ W = w') := Lib.hid fun W e => by
        by_cases hmq : m = q
        · have h := alike_yes (some ⟨b1, 0, none⟩) (some ⟨b2, 0, none⟩) c1 c2 m W (by omega) (fun r hr => by rw [HML.out.2 r hr]; omega) (HM.out.ext (hEY.out.trans e)) (by rw [hmq]; exact HQ.out.ext (hEY.out.trans e))
          rw [hml] at h
          rw [decide_eq_true hmq]
          exact h
        · have h := alike_no (some ⟨b1, 0, none⟩) (some ⟨b2, 0, none⟩) c1 c2 m q W (by omega) (fun r hr => by rw [HML.out.2 r hr]; omega) (fun r hr => by rw [HQL.out.2 r hr]; omega) hmq (HM.out.ext (hEY.out.trans e)) (HQ.out.ext (hEY.out.trans e))
          rw [hml, hql] at h
          rw [decide_eq_false hmq]
          exact h
      obtain ⟨dq, hdq⟩ : ∃ dq, decide (m = q) = dq := ⟨_, rfl⟩
      rw [hdq] at HCM hgd
      have HCI := Lib.hid (fun (W : World) (L : Option Addr) (e : Ext wy W) (hd : LDirs W L [(1, 0), (0, 1)]) => by
        have h := implIsGhost_any (some ⟨bg, 0, none⟩) L cg 2 g [(1, 0), (0, 1)] W (by omega) hgr (HGG.out.ext e) (by simp) (by simp) hd
        rw [hgd, hgl] at h
        exact h)
      have HCB := Lib.hid (fun (W : World) (L : Option Addr) (hd : LDirs W L [(1, 0), (0, 1)]) => by
        have h := implBasicGhost_any L 2 [(1, 0), (0, 1)] W (by simp) (by simp) hd
        rw [bg_two, bg_two_ok] at h
        exact h)
      have HQL2 := Lib.hid hql
      clear ha1 ha2 hgd hgl hgr hmr hqr hml hql hdq hS hO HAD HGD HRM HRQ HBD
      obtain ⟨wl, hwl⟩ : ∃ wl, wl = wy.alloc (.cells #[.int .i64 1, .int .i64 0, .int .i64 0, .int .i64 1] 35) := ⟨_, rfl⟩
      have HWL := Lib.hid hwl
      have HLD : Hid (LDirs wl (some ⟨wy.heap.size, 0, none⟩) [(1, 0), (0, 1)]) := Lib.hid (by rw [hwl]; exact dirs_two)
      have HEL : Hid (Ext wy wl) := Lib.hid (by rw [hwl]; exact (Ext.refl wy).alloc _)
      have ca := HCA.out wl HEL.out
      clear hwl
      go_wp2_with fail
      rw [← HWL.out]
      refine ca.mono ?_
      rintro e w3 ⟨v3, rfl, ho3, he3⟩
      obtain ⟨X, xc, hX, hgx⟩ := ho3.sliceAny
      rw [HQL2.out] at hX
      subst hX
      have HE3 := Lib.hid (HEL.out.trans he3)
      have HL3 := Lib.hid (HLD.out.ext he3)
      have cy := HCY.out w3 X xc HE3.out hgx
      have ci := HCI.out w3 (some ⟨wy.heap.size, 0, none⟩) HE3.out HL3.out
      have hnb : ((!dq) == dq) = false := by cases dq <;> rfl
      clear ca ho3 he3 hgx
      go_wp2_with fail
      refine cy.mono ?_
      rintro e w4 ⟨rfl, rfl⟩
      clear cy
      go_wp2_with fail
      refine ci.mono ?_
      rintro e w4 ⟨rfl, he4⟩
      have HE4 := Lib.hid (HE3.out.trans he4)
      have HL4 := Lib.hid (HL3.out.ext he4)
      have cm := HCM.out w4 HE4.out
      have cb := HCB.out w4 (some ⟨wy.heap.size, 0, none⟩) HL4.out
      clear ci he4
      go_wp2_with fail
      refine cm.mono ?_
      rintro e w5 ⟨rfl, rfl⟩
      clear cm
      go_wp2_with fail
      refine cb.mono ?_
      rintro e w5 ⟨v5, rfl, ho5, he5⟩
      obtain ⟨bq, cq, hv5, _⟩ := ho5.form (by simp)
      rw [show ([[1, -1], [-1, 1]] : Grid).length = 2 from rfl] at hv5
      subst hv5
      have HE5 := Lib.hid (HE4.out.trans he5)
      obtain ⟨R0, cr0, r0, hr0, q0, i0⟩ := ho5.gridAt.at1 (k := 0) (by simp)
      obtain ⟨R1, cr1, r1, hr1, q1, i1⟩ := ho5.gridAt.at1 (k := 1) (by simp)
      have e0 : [1, -1] = r0 := Option.some.inj hr0.out
      have e1 : [-1, 1] = r1 := Option.some.inj hr1.out
      subst e0 e1
      rw [Nat.zero_add] at q0 q1
      rw [show ([1, -1] : List Int).length = 2 from rfl] at q0
      rw [show ([-1, 1] : List Int).length = 2 from rfl] at q1
      have I0 := Lib.hid i0
      have I1 := Lib.hid i1
      have e5 : Ext w5 (w5.alloc (.cells #[.int .i64 1, .int .i64 (-1)] 3)) := (Ext.refl w5).alloc _
      have cs1 := same_any R0 (some ⟨w5.heap.size, 0, none⟩) cr0 2 [1, -1] (w5.alloc (.cells #[.int .i64 1, .int .i64 (-1)] 3)) (by simp) (I0.out.ext e5) ints_two
      obtain ⟨w6, hw6⟩ : ∃ w6, w6 = w5.alloc (.cells #[.int .i64 1, .int .i64 (-1)] 3) := ⟨_, rfl⟩
      have HW6 := Lib.hid hw6
      have HE56 : Hid (Ext w5 w6) := Lib.hid (by rw [hw6]; exact e5)
      rw [← hw6] at cs1
      have q1' := (HE56.out.cell (World.block_lt_of_cell? _ _ q1)).trans q1
      clear cb ho5 he5 hr0 hr1 i0 i1 e5 hw6
      go_wp2_with fail
      rw [← HW6.out]
      refine cs1.mono ?_
      rintro e w7 ⟨rfl, rfl⟩
      clear cs1 q0 q1
      have cs2 := same_any R1 (some ⟨w6.heap.size, 0, none⟩) cr1 2 [-1, 1] (w6.alloc (.cells #[.int .i64 (-1), .int .i64 1] 3)) (by simp) (I1.out.ext (HE56.out.alloc _)) ints_two
      go_wp2_with fail
      refine cs2.mono ?_
      rintro e w8 ⟨rfl, rfl⟩
      go_wp2_with fail
      go_ret
      exact ⟨rfl, HE1.out.trans (hEY.out.trans (HE5.out.trans (HE56.out.alloc _)))⟩
end Go.Proofs.Ytiekgdgonleoaaa
