/- The laws' drawn arguments: weights. -/
import Derived.Test.YtpmpbdcbiaohdaaKeeps
import Derived.Test.YtpmpbdcbiaohdaaSums
namespace Go.Proofs.Ytpmpbdcbiaohdaa
open Go.RowKit Tomo
set_option maxRecDepth 100000 in
set_option maxHeartbeats 8000000 in
theorem MakeWeights_any (kk n k : Nat) (A : Option Addr) (c : Nat) (xs : List Int) (w : World) (hkk : kk ≤ 1000) (hn : 1 ≤ n ∧ n ≤ 5) (hk : 1 ≤ k ∧ k ≤ 5) (hb : Bytes w A xs) (hl : xs.length ≤ 1048576) :
    Calls Try.prog 5 #[.slice A xs.length c, .int .i64 kk, .int .i64 n, .int .i64 k] w fun e w' => ∃ b cm g, e = .returned (.slice (some ⟨b, 0, none⟩) n cm) ∧ OwnGrid w' w.heap.size (.slice (some ⟨b, 0, none⟩) n cm) g ∧ Shape g n k ∧ (∀ r ∈ g, allIn r (-5) 5 = true) ∧ Ext w w' := by
  obtain ⟨hn1, hn5⟩ := hn
  obtain ⟨hk1, hk5⟩ := hk
  have HBE := Lib.hid (fun (W : World) (h3 : Ext w W) (h4 : Cur W w.heap.size xs.length A c) => l01Below_any 11 A c w.heap.size xs w W (by omega) (by omega) (Nat.le_refl _) hb h3 h4 hl)
  have c1 := l18New_any kk A c xs w hkk hb hl
  have mn2 : (if (1 : Int) < n then (n : Int) else 1) = n := by split <;> omega
  have mk2 : (if (1 : Int) < k then (k : Int) else 1) = k := by split <;> omega
  have HMN : Hid (∀ x : Int, x = n ∨ (x = 1 ∧ n = 1) → x = n) := Lib.hid (fun x h => by omega)
  clear hb
  go_enter Try.func5, Try.ntmps5
  go_wp2_with fail
  refine c1.mono ?_
  rintro e w2 ⟨rfl, h1, h2, h3⟩
  have HC2 := Lib.hid h1
  have HE2 := Lib.hid h2
  clear c1 h1 h2 h3
  go_wp2_with fail
  go_loopw [11, 10, 12, 13] (fun i t _ _ wr => ∃ (yy : Nat) (v : Value) (g : Grid), yy ≤ n ∧ i = .int .i64 yy ∧ t = v ∧ Hid (OwnGrid wr w2.heap.size v g) ∧ Hid (Shape g yy k ∧ ∀ r ∈ g, allIn r (-5) 5 = true) ∧ Hid (Keeps w.heap.size w2 wr) ∧ Hid (Cur wr w.heap.size xs.length A c) ∧ Hid (Ext w wr)) (fun i _ _ _ _ => n - (intOf i).toNat)
  case atStart => exact ⟨0, _, [], Nat.zero_le _, rfl, rfl, Lib.hid (OwnGrid.empty w2 w2.heap.size (Nat.le_refl _)), Lib.hid ⟨⟨rfl, fun r hr => by cases hr⟩, fun r hr => by cases hr⟩, Lib.hid ((Ext.refl w2).alloc _).keeps, Lib.hid (HC2.out.blk (((Ext.refl w2).alloc _).block _ HC2.out.lt)), Lib.hid (HE2.out.alloc _)⟩
  case round =>
    rename World => wy
    obtain ⟨yy, v, g, hyy, rfl, hv, hO, hS, hKO, hC, hE⟩ := hrel
    have hv' := hv.symm
    clear hv
    subst hv'
    by_cases hlty : yy < n
    · have hlty2 : (yy : Int) < (n : Int) := by omega
      have HPY := Lib.hid hC.out.lt
      go_wp2_with fail
      go_loopw [13, 12] (fun i t wr => ∃ (ii : Nat) (v : Value) (ls : List Int), ii ≤ k ∧ i = .int .i64 ii ∧ t = v ∧ Hid (ls.length = ii) ∧ Hid (allIn ls (-5) 5 = true) ∧ Hid (Own wr wy.heap.size v ls) ∧ Hid (Keeps w.heap.size wy wr) ∧ Hid (Cur wr w.heap.size xs.length A c) ∧ Hid (Ext w wr)) (fun i _ _ => k - (intOf i).toNat)
      case atStart => exact ⟨0, _, [], Nat.zero_le _, rfl, rfl, Lib.hid rfl, Lib.hid rfl, Lib.hid (Own.empty wy wy.heap.size (Nat.le_refl _)), Lib.hid ((Ext.refl wy).alloc _).keeps, Lib.hid (hC.out.blk (((Ext.refl wy).alloc _).block _ hC.out.lt)), Lib.hid (hE.out.alloc _)⟩
      case round =>
        rename World => wi
        obtain ⟨ii, vr, ls, hii, rfl, hv, hL, hB, ho, hKI, hCI, hEI⟩ := hrel
        have hv' := hv.symm
        clear hv
        subst hv'
        by_cases hlti : ii < k
        · have hlti2 : (ii : Int) < (k : Int) := by omega
          have cpk := HBE.out wi hEI.out hCI.out
          go_wp2_with fail
          refine cpk.mono ?_
          rintro e w3 ⟨z, rfl, hz, g1, g2, g3⟩
          have hw5 : IntKind.i64.wrap ((z : Int) - 5) = (z : Int) - 5 := IntWalk.i64_in _ (by omega)
          have HO3 : Hid (Own w3 wy.heap.size vr ls) := Lib.hid (ownsRow_keep ho.out g3 HPY.out)
          have HK3 : Hid (Keeps w.heap.size wy w3) := Lib.hid (hKI.out.trans g3.keeps)
          have HC3 := Lib.hid g1
          have HE3 := Lib.hid g2
          obtain ⟨u, hu⟩ : ∃ u : Int, (z : Int) - 5 = u := ⟨_, rfl⟩
          have hub : -5 ≤ u ∧ u ≤ 5 := by omega
          rw [hu] at hw5
          have HLZ : Hid ((ls ++ [u]).length = ii + 1) := Lib.hid (by rw [List.length_append, hL.out]; rfl)
          have HBZ : Hid (allIn (ls ++ [u]) (-5) 5 = true) := Lib.hid (by
            have h1 := hB.out
            unfold allIn at h1 ⊢
            rw [List.all_append, h1, Bool.true_and, List.all_cons, List.all_nil, Bool.and_true]
            exact inR_iff.2 hub)
          have hll : ls.length ≤ 5 := by rw [hL.out]; omega
          clear cpk hz hub g1 g2 g3 ho hKI hCI hEI
          go_wp2_with (at_builtin; refine app_ints (ys := [u]) (HO3.out.ext ((Ext.refl w3).alloc _)) (by have := HK3.out.1; simp; omega) (by simp; omega) (by simp) (Ints.one rfl) rfl _ _ rfl rfl rfl ?_)
          intro g4 c4 w4 hown hb4 _ _
          have hB4 := hb4 w3 (Below.alloc (Below.refl _ _) HK3.out.1 _)
          have HOW := Lib.hid hown
          have HK4 : Hid (Keeps w.heap.size wy w4) := Lib.hid ⟨Nat.le_trans HK3.out.1 hB4.size, fun j hj hp => (hB4.block j hj).trans (HK3.out.2 j hj hp)⟩
          have HC4 := Lib.hid (HC3.out.blk (hB4.block _ HPY.out))
          have HE4 : Hid (Ext w w4) := Lib.hid (Below.trans HE3.out (Below.mono hB4 (Nat.le_of_lt HPY.out)))
          clear hown hb4 hB4
          go_wp2_with fail
          go_roundw
          case rel => exact ⟨ii + 1, _, _, by omega, by go_num, rfl, HLZ, HBZ, HOW, HK4, HC4, HE4⟩
          case measure => simp [intOf]; omega
        · obtain rfl : ii = k := by omega
          obtain ⟨gx, cx, hvx, _, hgx1, hgx2⟩ := ho.out.form (by rw [hL.out]; omega)
          subst hvx
          have HOI := Lib.hid (hO.out.keepsS hKI.out HC2.out.lt)
          have HS2 : Hid (Shape (g ++ [ls]) (yy + 1) ii ∧ ∀ r ∈ g ++ [ls], allIn r (-5) 5 = true) := Lib.hid ⟨⟨by rw [List.length_append, hS.out.1.1]; rfl, fun r hr => by
            rcases List.mem_append.1 hr with h | h
            · exact hS.out.1.2 r h
            · rw [List.mem_singleton.1 h, hL.out]⟩, fun r hr => by
            rcases List.mem_append.1 hr with h | h
            · exact hS.out.2 r h
            · rw [List.mem_singleton.1 h]; exact hB.out⟩
          have hql : g.length ≤ 5 := by rw [hS.out.1.1]; omega
          have HAPT : Hid (∀ p, RowVal (wi.alloc (.cells #[.slice (some ⟨gx, 0, none⟩) ls.length cx] 27)) v p → p.ownBlock = none ∨ p.ownBlock ≠ (Value.slice (some ⟨gx, 0, none⟩) ls.length cx).ownBlock) := Lib.hid fun p hp => by
            obtain ⟨b', n', c', i', rfl, hi', hc'⟩ := hp
            have hl' := hO.out.lt (b := b') rfl
            have e1 : wi.cell? ⟨b', i', none⟩ = some p := by
              rw [← hc']; exact (((Ext.refl wi).alloc _).cell (p := ⟨b', i', none⟩) (Nat.lt_of_lt_of_le hl'.2 hKI.out.1)).symm
            have e2 : wy.cell? ⟨b', i', none⟩ = some p := by
              rw [← e1]; exact (cell_blk (hKI.out.2 b' hl'.2 (by have := HC2.out.lt; omega)) i').symm
            cases hpb : p.ownBlock with
            | none => exact Or.inl rfl
            | some q =>
              right
              have hq := hO.out.rowVal_lt (⟨b', n', c', i', rfl, hi', e2⟩ : RowVal wy _ p) hpb
              intro he
              have : q = gx := by simpa [Value.ownBlock] using he
              omega
          have HSZ : Hid (w2.heap.size ≤ wi.heap.size) := Lib.hid (Nat.le_trans hKO.out.1 hKI.out.1)
          have HOU := Lib.hid (ho.out.base (B' := w2.heap.size) hKO.out.1)
          go_wp2_with (at_builtin; refine app_row_l (HOI.out.ext ((Ext.refl wi).alloc _)) (by have := HSZ.out; simp; omega) (HOU.out.ext ((Ext.refl wi).alloc _)) HAPT.out (by omega) (by simp) rfl _ _ rfl rfl rfl ?_)
          intro b4 cap4 w4 ho4 hb4
          have hB4 := hb4 wi (Below.alloc (Below.refl _ _) HSZ.out _)
          have HN := Lib.hid ho4
          have HK4 : Hid (Keeps w.heap.size w2 w4) := Lib.hid ⟨Nat.le_trans HSZ.out hB4.size, fun j hj hp => (hB4.block j hj).trans ((hKO.out.trans hKI.out).2 j hj hp)⟩
          have HC4 := Lib.hid (hCI.out.blk (hB4.block _ HC2.out.lt))
          have HE4 : Hid (Ext w w4) := Lib.hid (Below.trans hEI.out (Below.mono hB4 HE2.out.size))
          clear ho4 hb4 hB4
          go_wp2_with fail
          go_roundw
          case rel => exact ⟨yy + 1, _, _, by omega, by go_num, rfl, HN, HS2, HK4, HC4, HE4⟩
          case measure => simp [intOf]; omega
    · obtain rfl : yy = n := by omega
      obtain ⟨bg, cg, hvg, _⟩ := hO.out.form (by rw [hS.out.1.1]; omega)
      rw [hS.out.1.1] at hvg
      subst hvg
      have HSH := hS
      have HOB := Lib.hid (hO.out.base (B' := w.heap.size) (Nat.le_of_lt HC2.out.lt))
      clear hS hO
      go_wp2_with fail
      go_ret
      exact ⟨bg, cg, g, rfl, HOB.out, HSH.out.1, HSH.out.2, hE.out⟩
end Go.Proofs.Ytpmpbdcbiaohdaa
