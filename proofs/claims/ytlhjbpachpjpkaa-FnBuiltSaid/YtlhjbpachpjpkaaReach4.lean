/- IsFixed in the program; FreeCells, in the reference and in the program. -/
import Derived.Test.YtlhjbpachpjpkaaReach3
namespace Go.Proofs.Ytlhjbpachpjpkaa
open Go.RowKit Tomo

theorem fix_self {m : Grid} (h : gridOk m 0 1 = true) : fixI (rsI m) (csI m) = gridOf m.length (m.headD []).length (fixF (allI (rsI m) (csI m))) := by
  obtain ⟨e1, e2⟩ := rs_len2 h
  unfold fixI
  rw [if_neg (fun e => by have := img_self h; rw [e] at this; cases this), e1, e2]
/-- the three calls: the row sums, the column sums, the fixed cells -/
theorem fixedOf_any (A : Option Addr) (ca : Nat) (m : Grid) (w : World) (h : gridOk m 0 1 = true) (hl : m.length ≤ 1048576) (hr : ∀ r ∈ m, r.length ≤ 1048576) (hx : GridAt w A m) {n k : Nat} (hn : m.length = n) (hk : (m.headD []).length = k) :
    ∀ W, Ext w W → Calls Try.prog 8 #[.slice A n ca] W fun e w1 => ∃ b1 c1, e = .returned (.slice (some ⟨b1, 0, none⟩) n c1) ∧ Hid (Ext w w1) ∧
      Hid (∀ W, Ext w1 W → Calls Try.prog 9 #[.slice A n ca] W fun e w2 => ∃ b2 c2, e = .returned (.slice (some ⟨b2, 0, none⟩) k c2) ∧ Hid (Ext w w2) ∧
        Hid (∀ W, Ext w2 W → Calls Try.prog 57 #[.slice (some ⟨b1, 0, none⟩) n c1, .slice (some ⟨b2, 0, none⟩) k c2] W fun e w3 => ∃ b3 c3, e = .returned (.slice (some ⟨b3, 0, none⟩) n c3) ∧ Hid (GridAt w3 (some ⟨b3, 0, none⟩) (gridOf n k (fixF (allI (rsI m) (csI m))))) ∧ Hid (Ext w w3))) := by
  have hi := Img.of h
  have hs := fix_self h
  obtain ⟨e1, e2⟩ := rs_len2 h
  obtain ⟨hn1, hn5⟩ := hi.2.1
  obtain ⟨hk1, hk5⟩ := hi.2.2.1
  rw [hn] at hs e1 hn1 hn5
  rw [hk] at hs e2 hk1 hk5
  intro W hW
  have c1 := implRowSums_any A ca m W hl hr (hx.ext hW)
  rw [hn] at c1
  refine c1.mono ?_
  rintro e w1 ⟨v, rfl, ho, he⟩
  obtain ⟨b1, cp1, rfl, _⟩ := ho.form (by omega)
  rw [e1] at ho ⊢
  have E1 := hW.trans he
  refine ⟨b1, cp1, rfl, Lib.hid E1, Lib.hid fun W2 hW2 => ?_⟩
  have c2 := implColSums_any A ca m W2 hl hr (hx.ext (E1.trans hW2))
  rw [hn] at c2
  refine c2.mono ?_
  rintro e w2 ⟨v, rfl, ho2, he2⟩
  obtain ⟨b2, cp2, rfl, _⟩ := ho2.form (by omega)
  rw [e2] at ho2 ⊢
  have E2 := (E1.trans hW2).trans he2
  refine ⟨b2, cp2, rfl, Lib.hid E2, Lib.hid fun W3 hW3 => ?_⟩
  have c3 := implFixedCells_any (some ⟨b1, 0, none⟩) (some ⟨b2, 0, none⟩) cp1 cp2 (rsI m) (csI m) W3 (by omega) (by omega) (ho.ints.2.ext (hW2.trans (he2.trans hW3))) (ho2.ints.2.ext hW3)
  rw [e1, e2, hs] at c3
  refine c3.mono ?_
  rintro e w3 ⟨v, rfl, ho3, he3⟩
  have hgs := (gridOf_shape n k (fixF (allI (rsI m) (csI m)))).1
  obtain ⟨b3, cp3, rfl, _⟩ := ho3.form (by omega)
  rw [hgs] at ho3 ⊢
  exact ⟨b3, cp3, rfl, Lib.hid ho3.gridAt, Lib.hid ((E2.trans hW3).trans he3)⟩
theorem gridOf_row {n k : Nat} (F : Nat → Nat → Int) {y : Nat} (hy : y < n) : (gridOf n k F)[y]? = some ((List.range k).map fun l => F y l) := by
  unfold gridOf; rw [List.getElem?_map, List.getElem?_range hy]; rfl
theorem gridOf_mem {n k : Nat} {F : Nat → Nat → Int} {w : World} {b : Nat} (hg : GridAt w (some ⟨b, 0, none⟩) (gridOf n k F)) {y : Nat} (hy : y < n) :
    ∃ R rc, w.cell? ⟨b, y, none⟩ = some (.slice R k rc) ∧ Hid (∀ x, x < k → ∃ R' ro, R = some ⟨R', ro, none⟩ ∧ w.cell? ⟨R', ro + x, none⟩ = some (.int .i64 (F y x))) := by
  obtain ⟨b5, o5, R5, c5, r, hA, _, hr, hc, hi⟩ := hg.at_ (k := y) (by rw [(gridOf_shape n k F).1]; exact hy)
  cases hA
  have e : r = (List.range k).map fun l => F y l := by
    have := hr.out
    rw [gridOf_row F hy] at this
    exact (Option.some.inj this).symm
  subst e
  rw [List.length_map, List.length_range, Nat.zero_add] at hc
  refine ⟨R5, c5, hc, Lib.hid fun x hx => ?_⟩
  obtain ⟨b7, o7, c, hA7, _, hcv, hc7⟩ := hi.at_ (k := x) (by rw [List.length_map, List.length_range]; exact hx)
  have e : c = F y x := by
    have := hcv.out
    rw [List.getElem?_map, List.getElem?_range hx] at this
    exact (Option.some.inj this).symm
  subst e
  exact ⟨b7, o7, hA7, hc7⟩

set_option maxHeartbeats 4000000 in
theorem implIsFixed_any (A : Option Addr) (ca : Nat) (m : Grid) (y x : Int) (w : World) (hl : m.length ≤ 1048576) (hr : ∀ r ∈ m, r.length ≤ 1048576) (hx : GridAt w A m) :
    Calls Try.prog 25 #[.slice A m.length ca, .int .i64 y, .int .i64 x] w fun e w' => e = .returned (.bool (isFixed m y x)) ∧ Ext w w' := by
  have ci := hasCell2_any A ca m y x w hl hr hx
  cases h0 : cellIn m y x
  · rw [h0] at ci
    have HC : Hid (isFixed m y x = false) := Lib.hid (by unfold isFixed; rw [h0]; rfl)
    clear hx hr
    go_enter Try.func25, Try.ntmps25
    go_wp2_with (go_at_call 56; refine ci.mono ?_; rintro e w' ⟨rfl, rfl⟩)
    go_ret
    exact ⟨ret_bool HC.out.symm, Ext.refl w⟩
  rw [h0] at ci
  have h0' := h0
  unfold cellIn at h0'
  rw [Bool.and_eq_true, Bool.and_eq_true, inR_iff, inR_iff] at h0'
  obtain ⟨h, ⟨y1, y2⟩, x1, x2⟩ := h0'
  obtain ⟨Y, rfl⟩ : ∃ Y : Nat, y = Y := ⟨y.toNat, by omega⟩
  obtain ⟨X, rfl⟩ : ∃ X : Nat, x = X := ⟨x.toNat, by omega⟩
  have hi := Img.of h
  obtain ⟨n, hn⟩ : ∃ n, m.length = n := ⟨_, rfl⟩
  obtain ⟨k, hk⟩ : ∃ k, (m.headD []).length = k := ⟨_, rfl⟩
  have hYn : Y < n := by omega
  have hXk : X < k := by omega
  obtain ⟨hn1, hn5⟩ := hi.2.1
  obtain ⟨hk1, hk5⟩ := hi.2.2.1
  rw [hn] at hn5
  rw [hk] at hk5
  have HF := Lib.hid (fixedOf_any A ca m w h hl hr hx hn hk)
  have HRES : Hid (isFixed m Y X = decide (0 ≤ fixF (allI (rsI m) (csI m)) Y X)) := Lib.hid (by
    unfold isFixed fixB
    rw [h0, Bool.true_and, Int.toNat_natCast, Int.toNat_natCast])
  rw [hn] at ci ⊢
  obtain ⟨F, hF⟩ : ∃ F, fixF (allI (rsI m) (csI m)) = F := ⟨_, rfl⟩
  rw [hF] at HF HRES
  clear hx hr hl hi hn hk h0 h y1 y2 x1 x2 hF hn1 hk1
  have cc := HF.out w (Ext.refl w)
  clear HF
  go_enter Try.func25, Try.ntmps25
  go_wp2_with (go_at_call 56; refine ci.mono ?_; rintro e w' ⟨rfl, rfl⟩)
  refine cc.mono ?_
  rintro e w1 ⟨b1, c1, rfl, hE1, hC⟩
  replace hC := hC.out w1 (Ext.refl w1)
  clear cc
  go_wp2_with fail
  refine hC.mono ?_
  rintro e w2 ⟨b2, c2, rfl, hE2, hC2⟩
  replace hC2 := hC2.out w2 (Ext.refl w2)
  clear hC
  go_wp2_with fail
  refine hC2.mono ?_
  rintro e w3 ⟨b3, c3, rfl, hG, hE3⟩
  obtain ⟨R, rc, q1, q2⟩ := gridOf_mem hG.out hYn
  obtain ⟨R', ro, rfl, q3⟩ := q2.out X hXk
  clear hC2
  go_wp2_with fail
  go_ret
  exact ⟨ret_bool (by rw [HRES.out]), hE3.out⟩
end Go.Proofs.Ytlhjbpachpjpkaa
