/- The law FnNexts: its walk. -/
import Derived.Test.YtjmopacbjdimgaaMake2
import Derived.Test.YtjmopacbjdimgaaNexts1
import Derived.Test.YtjmopacbjdimgaaRow
namespace Go.Proofs.Ytjmopacbjdimgaa
open Go.ChangeShapes Go.WideShapes Go.RowKit Tomo

section
variable {H : Type} {enc : TypeId × Value → H} {w : World} {base : Nat} {v : Value} {d : DataW H} {ps : List MemPlace}
theorem cellsByte : Try.prog.cellsOf 5 = 1 := by kernel_rfl
theorem bytes_of_cells {a : Addr} {zs : List Int} {len : Nat} (hlen : len ≤ zs.length) (hc : ∀ i, i < zs.length → w.cell? (a.add i) = some (.int .u8 (zs.getD i 0))) :
    (zs.take len).length = len ∧ Bytes w (some a) (zs.take len) := by
  refine ⟨by rw [List.length_take]; omega, fun k x hk => ?_⟩
  rw [List.getElem?_take] at hk
  by_cases hkl : k < len
  · rw [if_pos hkl] at hk
    obtain ⟨b, off, spot⟩ := a
    have hspot : spot = none := by simpa [Addr.add] using World.cell?_spot (hc 0 (by omega))
    subst hspot
    have h1 := hc k (by omega)
    have e : (⟨b, off, none⟩ : Addr).add k = ⟨b, off + k, none⟩ := by
      unfold Addr.add
      by_cases h0 : k = 0
      · subst h0; rfl
      · rw [if_neg h0]
    rw [e, List.getD_eq_getElem?_getD, hk] at h1
    exact ⟨b, off, rfl, World.block_lt_of_cell? _ _ h1, h1⟩
  · rw [if_neg hkl] at hk; cases hk
/-- an argument of type []byte -/
theorem opened_bytes (hv : Value.okWide Try.prog w .any base 22 v) (h : DataW.Trod enc Try.prog w 0 (fun _ => true) true 22 v d ps) :
    ∃ A cap xs, v = .slice A xs.length cap ∧ xs.length ≤ 9223372036854775807 ∧ Bytes w A xs := by
  obtain ⟨a0, len, cap, rfl⟩ := okWide_slice Try.underlying22 hv
  obtain ⟨fuel, hf⟩ := h
  rcases open_ints Try.underlying22 Try.underlying5 cellsByte hf with ⟨hcs, _⟩ | ⟨a, len', cap', zs, hcs, _, hl, hm, hz, _, hcell, _⟩
  · simp [Value.cells] at hcs
    obtain ⟨rfl, rfl, rfl⟩ := hcs
    exact ⟨none, 0, [], rfl, by simp, fun k x hk => by simp at hk⟩
  · simp [Value.cells] at hcs
    obtain ⟨rfl, rfl, rfl⟩ := hcs
    simp only [if_true] at hz
    obtain ⟨h1, h2⟩ := bytes_of_cells (w := w) (len := len) (by omega) hcell
    unfold maxLen at hm
    exact ⟨some a, cap, zs.take len, by rw [h1], by rw [h1]; omega, h2⟩
end
theorem ints_one (w : World) (x : Int) : Ints (w.alloc (.cells #[.int .i64 x] 3)) (some ⟨w.heap.size, 0, none⟩) [x] := fun j z hj => by
  cases j with
  | zero => have : x = z := by simpa using hj
            exact ⟨w.heap.size, 0, rfl, by simp, by rw [← this]; exact new_cell rfl⟩
  | succ j => simp at hj

set_option maxHeartbeats 2000000 in
theorem implCountImages_any (A B : Option Addr) (ca cb : Nat) (rows cols : List Int) (w : World) (hl : rows.length ≤ 1048576) (hl2 : cols.length ≤ 1048576) (hx : Ints w A rows) (hy : Ints w B cols) (hs : sumsOk rows cols = true) :
    Calls Try.prog 7 #[.slice A rows.length ca, .slice B cols.length cb] w fun e w' => e = .returned (.int .i64 ((allI rows cols).length : Nat)) ∧ Ext w w' := by
  have c1 := implAllImages_any A B ca cb rows cols w hl hl2 hx hy
  rw [hs] at c1
  clear hx hy
  go_enter Try.func7, Try.ntmps7
  go_wp2_with fail
  refine c1.mono ?_
  rintro e w1 ⟨v, rfl, ho, he⟩
  obtain ⟨L, lc, rfl, _⟩ := ho.slice
  have HE := Lib.hid he
  clear c1 ho he
  go_wp2_with fail
  go_ret
  exact ⟨rfl, HE.out⟩

set_option maxRecDepth 100000 in
set_option maxHeartbeats 8000000 in
theorem law_Nexts (w : World) (A0 : Option Addr) (c0 : Nat) (xs0 : List Int) (h630 : xs0.length ≤ 9223372036854775807) (hx0 : Bytes w A0 xs0) :
    Calls Try.prog 3 #[.slice A0 xs0.length c0] w fun e w' => e = .returned (.bool true) ∧ Ext w w' := by
  by_cases hlen : xs0.length ≤ 1048576
  case neg =>
    go_enter Try.func3, Try.ntmps3
    go_wp2_with fail
    go_ret
    exact ⟨rfl, Ext.refl _⟩
  have cm : Calls Try.prog 4 #[.slice A0 xs0.length c0, .int .i64 0, .int .i64 4] w _ := MakeImage_any 4 A0 c0 xs0 w rfl hx0 hlen
  clear hx0
  go_enter Try.func3, Try.ntmps3
  go_wp2_with fail
  refine cm.mono ?_
  rintro e w1 ⟨b, cap, m, rfl, ho, hg, he⟩
  have HE1 := Lib.hid he
  have himg := Img.of hg
  obtain ⟨hn1, hn5⟩ := himg.2.1
  obtain ⟨hk1, hk5⟩ := himg.2.2.1
  have hgm := ho.gridAt
  obtain ⟨R0, rc0, r0, hr0, q0, _⟩ := hgm.at1 (k := 0) (by omega)
  rw [Nat.add_zero, himg.1.2 r0 (List.mem_of_getElem? hr0.out)] at q0
  have hrl : ∀ r ∈ m, r.length ≤ 1048576 := fun r hr => by have := himg.1.2 r hr; omega
  have hml : m.length ≤ 1048576 := by omega
  have hso := (allI_sums (img_self hg)).1
  have HCN := Lib.hid (fun (W : World) (e : Ext w1 W) => implCountAgreeing_any (some ⟨b, 0, none⟩) none cap 0 m [] W hml hrl (by simp) (hgm.ext e) (fun k x hk => by simp at hk))
  have HRN := Lib.hid (fun (W : World) (e : Ext w1 W) => implRevealNext_any (some ⟨b, 0, none⟩) none cap 0 m [] W hml hrl (by simp) (hgm.ext e) (fun k x hk => by simp at hk))
  have HRS := Lib.hid (fun (W : World) (e : Ext w1 W) => implRowSums_any (some ⟨b, 0, none⟩) cap m W hml hrl (hgm.ext e))
  have HCS := Lib.hid (fun (W : World) (e : Ext w1 W) => implColSums_any (some ⟨b, 0, none⟩) cap m W hml hrl (hgm.ext e))
  have HCI := Lib.hid (fun (A B : Option Addr) (ca cb : Nat) (W : World) (h1 : (rsI m).length ≤ 1048576) (h2 : (csI m).length ≤ 1048576) (hx : Ints W A (rsI m)) (hy : Ints W B (csI m)) => implCountImages_any A B ca cb (rsI m) (csI m) W h1 h2 hx hy hso)
  obtain ⟨_, hrs5, _, hcs5, _⟩ := sumsOk_parts hso
  have HONE : Hid (∀ (i : Nat) (W : World) (D : Option Addr) (cd : Nat), i < m.length * (m.headD []).length → Ext w1 W → Ints W D [(i : Int)] → Calls Try.prog 5 #[.slice (some ⟨b, 0, none⟩) m.length cap, .slice D 1 cd] W fun e w' => e = .returned (.int .i64 (cntOf m (allI (rsI m) (csI m)) (m.headD []).length [] i : Nat)) ∧ Ext W w') := Lib.hid fun i W D cd hi e hd => by
    have h := implCountAgreeing_any (some ⟨b, 0, none⟩) D cap cd m [(i : Int)] W hml hrl (by simp) (hgm.ext e) hd
    rw [agreeCount_one hg hi] at h
    exact h
  have HQ0 : Hid (∀ W, Ext w1 W → W.cell? ⟨b, 0, none⟩ = some (.slice R0 (m.headD []).length rc0)) := Lib.hid fun W e => (e.cell (World.block_lt_of_cell? _ _ q0)).trans q0
  have hself := self_pos hg
  have hpos := cnt_pos hg
  have hcle := cntOf_le m (allI (rsI m) (csI m)) (m.headD []).length []
  have hrev := revealI_nil hg
  have hagr := agreeCount_nil hg
  obtain ⟨K, hK⟩ : ∃ K, (m.headD []).length = K := ⟨_, rfl⟩
  rw [hK] at HONE HQ0 hcle hrev hk1 hk5
  simp only [hK] at hpos
  obtain ⟨f, hf⟩ : ∃ f, cntOf m (allI (rsI m) (csI m)) K [] = f := ⟨_, rfl⟩
  rw [hf] at HONE hcle hrev
  simp only [hf] at hpos
  obtain ⟨gn, hgn⟩ : ∃ gn, (allI (rsI m) (csI m)).length = gn := ⟨_, rfl⟩
  rw [hgn] at HCI hself hrev hagr hcle
  rw [hagr] at HCN
  obtain ⟨n, hnn⟩ : ∃ n, m.length = n := ⟨_, rfl⟩
  rw [hnn] at HCN HRN HRS HCS HONE hrev hn1 hn5 ⊢
  obtain ⟨T, hT⟩ : ∃ T, n * K = T := ⟨_, rfl⟩
  rw [hT] at HONE hrev
  have hT1 : 1 ≤ T := by rw [← hT]; exact Nat.mul_pos hn1 hk1
  have hT25 : T ≤ 25 := by rw [← hT]; exact Nat.mul_le_mul hn5 hk5
  have hTI : (n : Int) * (K : Int) = (T : Int) := by rw [← hT, Int.natCast_mul]
  have hspec := argm_spec f T (by omega)
  have HPOS := Lib.hid hpos
  have HCLE := Lib.hid hcle
  clear hr0 cm ho he himg hgm hrl hml hso q0 hpos hcle hagr hK hf hgn hnn hT hg
  have cn := HCN.out w1 (Ext.refl _)
  go_wp2_with fail
  refine cn.mono ?_
  rintro e w2 ⟨rfl, he2⟩
  have cr := HRN.out w2 he2
  have HE2 := Lib.hid he2
  clear cn he2
  have go : ∀ kk : Int, revealI m [] = kk → ((kk = -1 ∧ gn = 1) ∨ (gn ≠ 1 ∧ ∃ k : Nat, kk = k ∧ k < T ∧ (∀ i, i < T → f k ≤ f i) ∧ ∀ i, i < T → f i = f k → k ≤ i)) := by
    intro kk h
    rw [hrev] at h
    by_cases h1 : gn = 1
    · rw [if_pos h1] at h; exact Or.inl ⟨h.symm, h1⟩
    · rw [if_neg h1] at h; exact Or.inr ⟨h1, _, h.symm, hspec⟩
  obtain ⟨kk, hkk⟩ : ∃ kk, revealI m [] = kk := ⟨_, rfl⟩
  have hgo := go kk hkk
  rw [hkk] at cr
  clear go hkk hrev hspec HRN HCN
  rcases hgo with ⟨rfl, rfl⟩ | ⟨hne, k, rfl, hkT, hmin, hfst⟩
  · go_wp2_with fail
    refine cr.mono ?_
    rintro e w3 ⟨rfl, he3⟩
    have HE3 := Lib.hid (HE2.out.trans he3)
    have cs := HRS.out w3 HE3.out
    clear cr he3
    go_wp2_with fail
    refine cs.mono ?_
    rintro e w4 ⟨v1, rfl, ho4, he4⟩
    have HE4 := Lib.hid (HE3.out.trans he4)
    obtain ⟨RA, rca, rfl, _, hi4⟩ := ho4.slice
    have HI4 := Lib.hid hi4
    have ct := HCS.out w4 HE4.out
    clear cs ho4 he4 hi4
    go_wp2_with fail
    refine ct.mono ?_
    rintro e w5 ⟨v2, rfl, ho5, he5⟩
    have HE5 := Lib.hid (HE4.out.trans he5)
    obtain ⟨CA, cca, rfl, _, hi5⟩ := ho5.slice
    have ci := HCI.out RA CA rca cca w5 (by omega) (by omega) (HI4.out.ext he5) hi5
    clear ct ho5 he5 hi5
    go_wp2_with fail
    refine ci.mono ?_
    rintro e w6 ⟨rfl, he6⟩
    have HE6 := Lib.hid (HE5.out.trans he6)
    have q0 := HQ0.out w6 HE6.out
    clear ci he6
    go_wp2_with fail
    go_loopw [6, 7] (fun i _ wr => i = .int .i64 0 ∧ Hid (wr = w6)) (fun _ _ _ => 0)
    case atStart => exact ⟨rfl, Lib.hid rfl⟩
    case round =>
      rename World => wr
      obtain ⟨rfl, hw⟩ := hrel
      obtain rfl := hw.out
      clear hw
      go_wp2_with fail
      go_ret
      exact ⟨rfl, HE1.out.trans HE6.out⟩
  · have HMIN := Lib.hid hmin
    have HFST := Lib.hid hfst
    have b1 : ((gn : Int) == 1) = false := by simp; omega
    have b2 : ((k : Int) == -1) = false := by simp
    clear hmin hfst
    go_wp2_with fail
    refine cr.mono ?_
    rintro e w3 ⟨rfl, he3⟩
    have HE3 := Lib.hid (HE2.out.trans he3)
    have cs := HRS.out w3 HE3.out
    clear cr he3
    go_wp2_with fail
    refine cs.mono ?_
    rintro e w4 ⟨v1, rfl, ho4, he4⟩
    have HE4 := Lib.hid (HE3.out.trans he4)
    obtain ⟨RA, rca, rfl, _, hi4⟩ := ho4.slice
    have HI4 := Lib.hid hi4
    have ct := HCS.out w4 HE4.out
    clear cs ho4 he4 hi4
    go_wp2_with fail
    refine ct.mono ?_
    rintro e w5 ⟨v2, rfl, ho5, he5⟩
    have HE5 := Lib.hid (HE4.out.trans he5)
    obtain ⟨CA, cca, rfl, _, hi5⟩ := ho5.slice
    have ci := HCI.out RA CA rca cca w5 (by omega) (by omega) (HI4.out.ext he5) hi5
    clear ct ho5 he5 hi5
    go_wp2_with fail
    refine ci.mono ?_
    rintro e w6 ⟨rfl, he6⟩
    have HE6 := Lib.hid (HE5.out.trans he6)
    clear ci he6
    go_wp2_with fail
    go_loopw [6, 7] (fun i _ wr => ∃ j : Nat, j ≤ T ∧ i = .int .i64 j ∧ Hid (Ext w1 wr)) (fun i _ _ => T - (intOf i).toNat)
    case atStart => exact ⟨0, Nat.zero_le _, rfl, HE6⟩
    case round =>
      rename World => wr
      obtain ⟨j, hj, rfl, hE⟩ := hrel
      have q0 := HQ0.out wr hE.out
      by_cases hlt : j < T
      · have a1 := HONE.out j _ _ 1 hlt (hE.out.alloc (.cells #[.int .i64 (j : Int)] 3)) (ints_one wr (j : Int))
        have p1 := HPOS.out j
        have p2 := HCLE.out j
        have p3 := HMIN.out j hlt
        have p4 := HFST.out j hlt
        obtain ⟨fj, hfj⟩ : ∃ fj, f j = fj := ⟨_, rfl⟩
        obtain ⟨fk, hfk⟩ : ∃ fk, f k = fk := ⟨_, rfl⟩
        rw [hfj] at a1 p1 p2 p3 p4
        rw [hfk] at p3 p4
        have HFK := Lib.hid hfk
        clear hfj hfk
        go_wp2_with fail
        refine a1.mono ?_
        rintro e w7 ⟨rfl, he7⟩
        have HE7 := Lib.hid ((hE.out.alloc _).trans he7)
        have a2 := HONE.out k _ _ 1 hkT (HE7.out.alloc (.cells #[.int .i64 (k : Int)] 3)) (ints_one w7 (k : Int))
        rw [HFK.out] at a2
        clear a1 he7 q0
        go_wp2_with fail
        refine a2.mono ?_
        rintro e w8 ⟨rfl, he8⟩
        have HE8 := Lib.hid ((HE7.out.alloc _).trans he8)
        have a3 := HONE.out k _ _ 1 hkT (HE8.out.alloc (.cells #[.int .i64 (k : Int)] 3)) (ints_one w8 (k : Int))
        rw [HFK.out] at a3
        clear a2 he8
        go_wp2_with fail
        refine a3.mono ?_
        rintro e w9 ⟨rfl, he9⟩
        have HE9 := Lib.hid ((HE8.out.alloc _).trans he9)
        clear a3 he9
        by_cases heq : fj = fk
        · have p5 := p4 heq
          have b3 : ((fk : Int) == (fj : Int)) = true := by simp; omega
          clear p4 heq
          go_wp2_with fail
          go_roundw
          case rel => exact ⟨j + 1, by omega, by go_num, HE9⟩
          case measure => simp [intOf]; omega
        · have b3 : ((fk : Int) == (fj : Int)) = false := by simp; omega
          clear p4 heq
          go_wp2_with fail
          go_roundw
          case rel => exact ⟨j + 1, by omega, by go_num, HE9⟩
          case measure => simp [intOf]; omega
      · obtain rfl : j = T := by omega
        go_wp2_with fail
        go_ret
        exact ⟨rfl, HE1.out.trans hE.out⟩
end Go.Proofs.Ytjmopacbjdimgaa
