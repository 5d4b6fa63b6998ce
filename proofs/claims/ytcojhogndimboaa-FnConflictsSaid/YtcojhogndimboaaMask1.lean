/- The laws' drawn arguments: a mask with the sums of an image; the members of a set given by its bits. -/
import Derived.Test.YtcojhogndimboaaMake3
import Derived.Test.YtcojhogndimboaaSelf
import Derived.Test.YtcojhogndimboaaBad1
namespace Go.Proofs.Ytcojhogndimboaa
open Go.RowKit Tomo

theorem bit_at : (List.range 32).all (fun a => (List.range 6).all fun i => decide (Go.bits .and .i64 ((a : Int) / 2 ^ i) 1 = ((a / 2 ^ i % 2 : Nat) : Int))) = true := by decide +kernel
theorem bit_eq {a i : Nat} (ha : a < 32) (hi : i < 6) : Go.bits .and .i64 ((a : Int) / 2 ^ i) 1 = ((a / 2 ^ i % 2 : Nat) : Int) := by
  have h := List.all_eq_true.1 (List.all_eq_true.1 bit_at a (List.mem_range.2 ha)) i (List.mem_range.2 hi)
  exact of_decide_eq_true h
theorem ints_six {W : World} {a b c d e f : Int} : Ints (W.alloc (.cells #[.int .i64 a, .int .i64 b, .int .i64 c, .int .i64 d, .int .i64 e, .int .i64 f] 3)) (some ⟨W.heap.size, 0, none⟩) [a, b, c, d, e, f] := fun j z hj => by
  rcases j with _ | _ | _ | _ | _ | _ | j
  · have : a = z := by simpa using hj
    exact ⟨W.heap.size, 0, rfl, by simp, by rw [← this]; simp⟩
  · have : b = z := by simpa using hj
    exact ⟨W.heap.size, 0, rfl, by simp, by rw [← this]; simp⟩
  · have : c = z := by simpa using hj
    exact ⟨W.heap.size, 0, rfl, by simp, by rw [← this]; simp⟩
  · have : d = z := by simpa using hj
    exact ⟨W.heap.size, 0, rfl, by simp, by rw [← this]; simp⟩
  · have : e = z := by simpa using hj
    exact ⟨W.heap.size, 0, rfl, by simp, by rw [← this]; simp⟩
  · have : f = z := by simpa using hj
    exact ⟨W.heap.size, 0, rfl, by simp, by rw [← this]; simp⟩
  · simp at hj
theorem Ints.keep {p : Nat} {w w' : World} {A : Option Addr} {xs : List Int} (h : Ints w A xs) (k : Keep p w w') (hp : ∀ b o, A = some ⟨b, o, none⟩ → b ≠ p) : Ints w' A xs := fun j x hj => by
  obtain ⟨b, o, h1, h2, h3⟩ := h j x hj
  exact ⟨b, o, h1, by rw [k.1]; exact h2, (cell_blk (k.2 b (hp b o h1)) _).trans h3⟩
theorem OwnGrid.keepsS {p B : Nat} {w w' : World} {v : Value} {g : Grid} (h : OwnGrid w B v g) (k : Keeps p w w') (hp : p < B) : OwnGrid w' B v g := h.seg fun i h1 h2 => k.2 i h2 (by omega)
section
variable {ops : Array Oper} {rest : List Oper} {o : Oper} {a : Act} {Q : Exit → Act → World → Prop}
theorem app_row_l {w : World} {B : Nat} {v u : Value} {g : List (List Int)} {r : List Int} (h : OwnGrid w B v g) (hB : B ≤ w.heap.size) (hu : Own w B u r) (hap : ∀ p, RowVal w v p → p.ownBlock = none ∨ p.ownBlock ≠ u.ownBlock) (hl : g.length ≤ 1000000) {ad : Addr} {c : Nat}
    (hy : w.cell? ad = some u) (hgd : o.guard = none) (s x : Operand) (ho : o.op = .call { callee := .builtin .append, args := #[s, x], argTypes := #[23, 23] })
    (hs : a.eval s = v) (hx : a.eval x = .slice (some ad) 1 c)
    (hK : ∀ b cap w', OwnGrid w' B (.slice (some ⟨b, 0, none⟩) (g.length + 1) cap) (g ++ [r]) → (∀ z, Below B z w → Below B z w') → wpList Try.prog ops Q rest (a.put o.dst (.slice (some ⟨b, 0, none⟩) (g.length + 1) cap)) w') :
    wpList Try.prog ops Q (o :: rest) a w :=
  wpList_plain hgd fun _ hk => app_row_old h hB hu hap hl hy s x ho hs hx fun b cap w' h1 h2 _ _ => hk _ _ (hK b cap w' h1 h2)
end
set_option maxHeartbeats 4000000 in
theorem bits_any (a n : Nat) (w : World) (hn : n ≤ 5) (ha : a < 32) :
    Calls Try.prog 8 #[.int .i64 a, .int .i64 n] w fun e w' => ∃ v, e = .returned v ∧ Own w' w.heap.size v (bitsL a n) ∧ Ext w w' := by
  go_enter Try.func8, Try.ntmps8
  go_wp2_with fail
  go_loopw [6, 5] (fun i o wr => ∃ (j : Nat) (v : Value) (xs : List Int), j ≤ n ∧ i = .int .i64 j ∧ o = v ∧ xs.length ≤ j ∧ Hid (xs = bitsL a j) ∧ Hid (Own wr w.heap.size v xs) ∧ Hid (Ext w wr)) (fun i _ _ => n - (intOf i).toNat)
  case atStart => exact ⟨0, _, [], Nat.zero_le _, rfl, rfl, Nat.le_refl _, Lib.hid rfl, Lib.hid (Own.empty w w.heap.size (Nat.le_refl _)), Lib.hid ((Ext.refl w).alloc _)⟩
  case round =>
    rename World => wo
    obtain ⟨j, v, xs, hj, rfl, rfl, hxl, HXS, ho, he⟩ := hrel
    by_cases hlt : j < n
    · have hbit := bit_eq (a := a) (i := j) ha (by omega)
      have HSZ := Lib.hid he.out.size
      by_cases hm : a / 2 ^ j % 2 = 1
      · have HN : Hid (xs ++ [(j : Int)] = bitsL a (j + 1)) := Lib.hid (by rw [bitsL_succ, if_pos hm, HXS.out])
        rw [hm] at hbit
        have hal : (xs ++ [(j : Int)]).length ≤ j + 1 := by simp; omega
        clear hm
        go_wp2_with (at_builtin; refine app_ints (ys := [(j : Int)]) (ho.out.ext ((Ext.refl wo).alloc _)) (by have := HSZ.out; simp; omega) (by simp; omega) (by simp) (Ints.one rfl) rfl _ _ rfl rfl rfl ?_)
        intro g2 c2 w2 hown hb _ _
        have HOW := Lib.hid hown
        have HE2 : Hid (Ext w w2) := Lib.hid (hb w (he.out.alloc _))
        clear hown hb ho he
        go_wp2_with fail
        go_roundw
        case rel => exact ⟨j + 1, _, _, by omega, by go_num, rfl, hal, HN, HOW, HE2⟩
        case measure => simp [intOf]; omega
      · have hm0 : a / 2 ^ j % 2 = 0 := by omega
        have HN : Hid (xs = bitsL a (j + 1)) := Lib.hid (by rw [bitsL_succ, if_neg hm, List.append_nil, HXS.out])
        rw [hm0] at hbit
        have hal : xs.length ≤ j + 1 := by omega
        clear hm hm0
        go_wp2_with fail
        go_roundw
        case rel => exact ⟨j + 1, _, _, by omega, by go_num, rfl, hal, HN, ho, he⟩
        case measure => simp [intOf]; omega
    · obtain rfl : j = n := by omega
      go_wp2_with fail
      go_ret
      exact ⟨_, rfl, by rw [← HXS.out]; exact ho.out, he.out⟩
set_option maxRecDepth 100000 in
set_option maxHeartbeats 8000000 in
theorem MakeMask_any (A : Option Addr) (c : Nat) (xs : List Int) (w : World) (hb : Bytes w A xs) (hl : xs.length ≤ 1048576) :
    Calls Try.prog 4 #[.slice A xs.length c] w fun e w' => ∃ b cm mask Ar cr rows Ac cc cols, e = .returned (.tuple #[.slice (some ⟨b, 0, none⟩) mask.length cm, .slice Ar rows.length cr, .slice Ac cols.length cc]) ∧ GridAt w' (some ⟨b, 0, none⟩) mask ∧ Ints w' Ar rows ∧ Ints w' Ac cols ∧ maskOk mask rows cols = true ∧ Ext w w' := by
  have c1 := l01New_any A c xs w hb hl
  have HB := Lib.hid hb
  clear hb
  go_enter Try.func4, Try.ntmps4
  go_wp2_with fail
  refine c1.mono ?_
  rintro e w1 ⟨rfl, h1, h2, h3⟩
  have c2 := l02Draw_any 4 A c w.heap.size xs w w1 (by omega) (by omega) (Nat.le_refl _) HB.out h2 h1 hl
  clear c1 h1 h2 h3
  go_wp2_with fail
  refine c2.mono ?_
  rintro e w2 ⟨b1, cp1, m, rfl, ho, hg, he, hc⟩
  have hm := Img.of hg
  obtain ⟨n, hn⟩ : ∃ n, m.length = n := ⟨_, rfl⟩
  obtain ⟨k, hk⟩ : ∃ k, (m.headD []).length = k := ⟨_, rfl⟩
  rw [hn, hk] at hm
  obtain ⟨hn1, hn5⟩ := hm.2.1
  obtain ⟨hk1, hk5⟩ := hm.2.2.1
  rw [hn] at ho ⊢
  have HO2 := Lib.hid ho
  have HE2 := Lib.hid he
  have HC2 := Lib.hid hc
  have HG := Lib.hid hg
  have HM := Lib.hid hm
  have HPK : Hid (∀ (W : World) (x : Int), Ext w W → Cur W w.heap.size xs.length A c → Calls Try.prog 11 #[.pointer (some ⟨w.heap.size, 0, none⟩), .slice (some ⟨W.heap.size, 0, none⟩) 6 6] (W.alloc (.cells #[.int .i64 (-1), .int .i64 (-1), .int .i64 x, .int .i64 x, .int .i64 (1 - x), .int .i64 (-1)] 3)) fun e w' => ∃ z ∈ [-1, -1, x, x, 1 - x, -1], e = .returned (.int .i64 z) ∧ Cur w' w.heap.size xs.length A c ∧ Ext w w' ∧ Keep w.heap.size (W.alloc (.cells #[.int .i64 (-1), .int .i64 (-1), .int .i64 x, .int .i64 x, .int .i64 (1 - x), .int .i64 (-1)] 3)) w') := Lib.hid fun W x e hcu => by
    have he2 : Ext W (W.alloc (.cells #[.int .i64 (-1), .int .i64 (-1), .int .i64 x, .int .i64 x, .int .i64 (1 - x), .int .i64 (-1)] 3)) := (Ext.refl W).alloc _
    exact l01Pick_any (some ⟨W.heap.size, 0, none⟩) 6 [-1, -1, x, x, 1 - x, -1] A c w.heap.size xs w _ (by simp) (by simp) (Nat.le_refl _) HB.out (e.trans he2) (hcu.blk (he2.block _ hcu.lt)) hl fun w' _ kp => ints_six.keep kp fun b o h => by
      cases h
      have := hcu.lt
      omega
  clear c2 ho hg he hc hn hk hm
  go_wp2_with fail
  go_loopw [20, 7, 9, 10, 12] (fun i t _ _ _ wr => ∃ (yy : Nat) (v : Value) (g : Grid), yy ≤ n ∧ i = .int .i64 yy ∧ t = v ∧ Hid (OwnGrid wr w2.heap.size v g) ∧ Hid (Shape g yy k ∧ ∀ r ∈ g, allIn r (-1) 1 = true) ∧ Hid (Keeps w.heap.size w2 wr) ∧ Hid (Cur wr w.heap.size xs.length A c) ∧ Hid (Ext w wr)) (fun i _ _ _ _ _ => n - (intOf i).toNat)
  case atStart => exact ⟨0, _, [], Nat.zero_le _, rfl, rfl, Lib.hid (OwnGrid.empty w2 w2.heap.size (Nat.le_refl _)), Lib.hid ⟨⟨rfl, fun r hr => by cases hr⟩, fun r hr => by cases hr⟩, Lib.hid ((Ext.refl w2).alloc _).keeps, Lib.hid (HC2.out.blk (((Ext.refl w2).alloc _).block _ HC2.out.lt)), Lib.hid (HE2.out.alloc _)⟩
  case round =>
    rename World => wy
    obtain ⟨yy, v, g, hyy, rfl, hv, hO, hS, hKO, hC, hE⟩ := hrel
    have hv' := hv.symm
    clear hv
    subst hv'
    have HMO := Lib.hid (HO2.out.keepsS hKO.out (Nat.lt_succ_self _))
    by_cases hlty : yy < n
    · have hlty2 : (yy : Int) < (n : Int) := by omega
      obtain ⟨qr, hqr, hqrl⟩ := HM.out.1.get hlty
      obtain ⟨R, cR, hcq, _, hBR, hRl, hints, _⟩ := HMO.out.row hqr (by omega)
      rw [hqrl] at hcq
      have HIN := Lib.hid hints
      have HQL := Lib.hid hqrl
      have HRB := Lib.hid (And.intro hBR hRl)
      have HBT : Hid (∀ z ∈ qr, z = 0 ∨ z = 1) := Lib.hid fun z hz => by
        have := inR_iff.1 ((List.all_eq_true.1 (HM.out.2.2.2 qr (List.mem_of_getElem? hqr))) z hz)
        omega
      have HPY := Lib.hid hC.out.lt
      clear hqr hqrl hBR hRl hints
      go_wp2_with fail
      go_loopw [27, 10, 12] (fun i t _ wr => ∃ (ii : Nat) (v : Value) (ls : List Int), ii ≤ k ∧ i = .int .i64 ii ∧ t = v ∧ Hid (ls.length = ii) ∧ Hid (allIn ls (-1) 1 = true) ∧ Hid (Own wr wy.heap.size v ls) ∧ Hid (Keeps w.heap.size wy wr) ∧ Hid (Cur wr w.heap.size xs.length A c) ∧ Hid (Ext w wr)) (fun i _ _ _ => k - (intOf i).toNat)
      case atStart => exact ⟨0, _, [], Nat.zero_le _, rfl, rfl, Lib.hid rfl, Lib.hid rfl, Lib.hid (Own.empty wy wy.heap.size (Nat.le_refl _)), Lib.hid ((Ext.refl wy).alloc _).keeps, Lib.hid (hC.out.blk (((Ext.refl wy).alloc _).block _ hC.out.lt)), Lib.hid (hE.out.alloc _)⟩
      case round =>
        rename World => wi
        obtain ⟨ii, vr, ls, hii, rfl, hv, hL, hB, ho, hKI, hCI, hEI⟩ := hrel
        have hv' := hv.symm
        clear hv
        subst hv'
        by_cases hlti : ii < k
        · have hlti2 : (ii : Int) < (k : Int) := by omega
          obtain ⟨x, hx, hcx⟩ := HIN.out.at1 (k := ii) (by rw [HQL.out]; exact hlti)
          rw [Nat.zero_add] at hcx
          have hcx2 : wi.cell? ⟨R, ii, none⟩ = some (.int .i64 x) := (cell_blk (hKI.out.2 R HRB.out.2 (by have := HRB.out.1; omega)) ii).trans hcx
          have hxb := HBT.out x (List.mem_of_getElem? hx.out)
          have hx0 : 0 ≤ x := by omega
          have hx1 : x ≤ 1 := by omega
          have hw : IntKind.i64.wrap (1 - x) = 1 - x := IntWalk.i64_in _ (by omega)
          have cpk := HPK.out wi x hEI.out hCI.out
          clear hxb hcx
          go_wp2_with fail
          refine cpk.mono ?_
          rintro e w3 ⟨z, hz, rfl, g1, g2, g3⟩
          have hzb : -1 ≤ z ∧ z ≤ 1 := by
            simp only [List.mem_cons, List.mem_nil_iff, or_false] at hz
            omega
          have HO3 : Hid (Own w3 wy.heap.size vr ls) := Lib.hid (ownsRow_keep (ho.out.ext ((Ext.refl wi).alloc _)) g3 HPY.out)
          have HK3 : Hid (Keeps w.heap.size wy w3) := Lib.hid ((hKI.out.trans ((Ext.refl wi).alloc _).keeps).trans g3.keeps)
          have HC3 := Lib.hid g1
          have HE3 := Lib.hid g2
          have HLZ : Hid ((ls ++ [z]).length = ii + 1) := Lib.hid (by rw [List.length_append, hL.out]; rfl)
          have HBZ : Hid (allIn (ls ++ [z]) (-1) 1 = true) := Lib.hid (by
            have h1 := hB.out
            unfold allIn at h1 ⊢
            rw [List.all_append, h1, Bool.true_and, List.all_cons, List.all_nil, Bool.and_true]
            exact inR_iff.2 hzb)
          have hll : ls.length ≤ 5 := by rw [hL.out]; omega
          clear cpk hz hzb g1 g2 g3 hcx2 hx ho hKI hCI hEI
          go_wp2_with (at_builtin; refine app_ints (ys := [z]) (HO3.out.ext ((Ext.refl w3).alloc _)) (by have := HK3.out.1; simp; omega) (by simp; omega) (by simp) (Ints.one rfl) rfl _ _ rfl rfl rfl ?_)
          intro g4 c4 w4 hown hb4 _ _
          have hB4 := hb4 w3 (Below.alloc (Below.refl _ _) HK3.out.1 _)
          have HOW := Lib.hid hown
          have HK4 : Hid (Keeps w.heap.size wy w4) := Lib.hid ⟨Nat.le_trans HK3.out.1 hB4.size, fun j hj hp => (hB4.block j hj).trans (HK3.out.2 j hj hp)⟩
          have HC4 := Lib.hid (HC3.out.blk (hB4.block _ HPY.out))
          have HE4 : Hid (Ext w w4) := Lib.hid (Below.trans HE3.out (Below.mono hB4 (Nat.le_of_lt HPY.out)))
          clear hown hb4 hB4
          go_wp2_with fail
          go_roundw
          case rel => exact ⟨ii + 1, _, _, by omega, by go_num, rfl, HLZ, HBZ, HOW, HK4, HC4, HE4⟩
          case measure => simp [intOf]; omega
        · obtain rfl : ii = k := by omega
          obtain ⟨gx, cx, hvx, _, hgx1, hgx2⟩ := ho.out.form (by rw [hL.out]; omega)
          subst hvx
          have HOI := Lib.hid (hO.out.keepsS hKI.out HC2.out.lt)
          have HS2 : Hid (Shape (g ++ [ls]) (yy + 1) ii ∧ ∀ r ∈ g ++ [ls], allIn r (-1) 1 = true) := Lib.hid ⟨⟨by rw [List.length_append, hS.out.1.1]; rfl, fun r hr => by
            rcases List.mem_append.1 hr with h | h
            · exact hS.out.1.2 r h
            · rw [List.mem_singleton.1 h, hL.out]⟩, fun r hr => by
            rcases List.mem_append.1 hr with h | h
            · exact hS.out.2 r h
            · rw [List.mem_singleton.1 h]; exact hB.out⟩
          have hql : g.length ≤ 5 := by rw [hS.out.1.1]; omega
          have HAPT : Hid (∀ p, RowVal (wi.alloc (.cells #[.slice (some ⟨gx, 0, none⟩) ls.length cx] 24)) v p → p.ownBlock = none ∨ p.ownBlock ≠ (Value.slice (some ⟨gx, 0, none⟩) ls.length cx).ownBlock) := Lib.hid fun p hp => by
            obtain ⟨b', n', c', i', rfl, hi', hc'⟩ := hp
            have hl' := hO.out.lt (b := b') rfl
            have e1 : wi.cell? ⟨b', i', none⟩ = some p := by
              rw [← hc']; exact (((Ext.refl wi).alloc _).cell (p := ⟨b', i', none⟩) (Nat.lt_of_lt_of_le hl'.2 hKI.out.1)).symm
            have e2 : wy.cell? ⟨b', i', none⟩ = some p := by
              rw [← e1]; exact (cell_blk (hKI.out.2 b' hl'.2 (by have := HC2.out.lt; omega)) i').symm
            cases hpb : p.ownBlock with
            | none => exact Or.inl rfl
            | some q =>
              right
              have hq := hO.out.rowVal_lt (⟨b', n', c', i', rfl, hi', e2⟩ : RowVal wy _ p) hpb
              intro he
              have : q = gx := by simpa [Value.ownBlock] using he
              omega
          have HSZ : Hid (w2.heap.size ≤ wi.heap.size) := Lib.hid (Nat.le_trans hKO.out.1 hKI.out.1)
          have HOU := Lib.hid (ho.out.base (B' := w2.heap.size) hKO.out.1)
          go_wp2_with (at_builtin; refine app_row_l (HOI.out.ext ((Ext.refl wi).alloc _)) (by have := HSZ.out; simp; omega) (HOU.out.ext ((Ext.refl wi).alloc _)) HAPT.out (by omega) (by simp) rfl _ _ rfl rfl rfl ?_)
          intro b4 cap4 w4 ho4 hb4
          have hB4 := hb4 wi (Below.alloc (Below.refl _ _) HSZ.out _)
          have HN := Lib.hid ho4
          have HK4 : Hid (Keeps w.heap.size w2 w4) := Lib.hid ⟨Nat.le_trans HSZ.out hB4.size, fun j hj hp => (hB4.block j hj).trans ((hKO.out.trans hKI.out).2 j hj hp)⟩
          have HC4 := Lib.hid (hCI.out.blk (hB4.block _ HC2.out.lt))
          have HE4 : Hid (Ext w w4) := Lib.hid (Below.trans hEI.out (Below.mono hB4 HE2.out.size))
          clear ho4 hb4 hB4
          go_wp2_with fail
          go_roundw
          case rel => exact ⟨yy + 1, _, _, by omega, by go_num, rfl, HN, HS2, HK4, HC4, HE4⟩
          case measure => simp [intOf]; omega
    · obtain rfl : yy = n := by omega
      obtain ⟨bg, cg, hvg, _⟩ := hO.out.form (by rw [hS.out.1.1]; omega)
      rw [hS.out.1.1] at hvg
      subst hvg
      have hmr : ∀ r ∈ m, r.length ≤ 1048576 := fun r hr => by rw [HM.out.1.2 r hr]; omega
      have hml := HM.out.1.1
      have hself := img_self HG.out
      have hai := allI_img hself
      have hso := (allI_sums hself).1
      have hr1 : (rsI m).length = yy := hai.1.1.symm.trans hml
      have hc1 : (csI m).length = k := hai.head.symm.trans HM.out.head
      have HMK : Hid (maskOk g (rsI m) (csI m) = true) := Lib.hid (by
        unfold maskOk
        rw [hso, Bool.true_and, sized_iff, hr1, hc1]
        exact ⟨by rw [hS.out.1.1], fun r hr => ⟨by rw [hS.out.1.2 r hr], hS.out.2 r hr⟩⟩)
      have HGL := Lib.hid hS.out.1.1
      have HRS := Lib.hid (fun W (e : Ext wy W) => by have h := specRowSums_any (some ⟨b1, 0, none⟩) cp1 m W (by omega) hmr (HMO.out.gridAt.ext e); rw [hml] at h; exact h)
      have HCS := Lib.hid (fun W (e : Ext wy W) => by have h := specColSums_any (some ⟨b1, 0, none⟩) cp1 m W (by omega) hmr (HMO.out.gridAt.ext e); rw [hml] at h; exact h)
      have HGA := Lib.hid hO.out.gridAt
      have t1 := HRS.out wy (Ext.refl _)
      clear hmr hml hself hai hso hr1 hc1 hS hO
      go_wp2_with fail
      refine t1.mono ?_
      rintro e w3 ⟨v3, rfl, ho3, he3⟩
      obtain ⟨A3, c3, rfl, _, hi3⟩ := ho3.slice
      have HE3 := Lib.hid he3
      have HI3 := Lib.hid hi3
      have t2 := HCS.out w3 he3
      clear t1 ho3 he3 hi3
      go_wp2_with fail
      refine t2.mono ?_
      rintro e w4 ⟨v4, rfl, ho4, he4⟩
      obtain ⟨A4, c4, rfl, _, hi4⟩ := ho4.slice
      have HE4 := Lib.hid (HE3.out.trans he4)
      have HI4 := Lib.hid hi4
      have HI34 := Lib.hid (HI3.out.ext he4)
      clear t2 ho4 he4 hi4
      go_wp2_with fail
      go_ret3
      exact ⟨bg, cg, g, A3, c3, rsI m, A4, c4, csI m, by rw [HGL.out]; rfl, HGA.out.ext HE4.out, HI34.out, HI4.out, HMK.out, hE.out.trans HE4.out⟩
end Go.Proofs.Ytcojhogndimboaa
