/- Conflicts of a mask: there is one exactly if no image meets the mask. The plain law. -/
import Derived.Test.YtcojhogndimboaaBad1
namespace Go.Proofs.Ytcojhogndimboaa
open Go.RowKit Tomo

def okM (mask : Grid) (y x : Nat) (v : Bool) : Bool := at2 mask y x == -1 || at2 mask y x == b2i v
structure MaskS (mask : Grid) (rows cols : List Int) : Prop where
  sums : sumsOk rows cols = true
  shape : Shape mask rows.length cols.length
  cell : ∀ y x, y < rows.length → x < cols.length → -1 ≤ at2 mask y x ∧ at2 mask y x ≤ 1
theorem MaskS.of {mask : Grid} {rows cols : List Int} (h : maskOk mask rows cols = true) : MaskS mask rows cols := by
  unfold maskOk at h
  rw [Bool.and_eq_true, sized_iff] at h
  obtain ⟨h1, h2, h3⟩ := h
  have hs : Shape mask rows.length cols.length := ⟨by omega, fun r hr => by have := (h3 r hr).1; omega⟩
  refine ⟨h1, hs, fun y x hy hx => ?_⟩
  have hy' : y < mask.length := by rw [hs.1]; exact hy
  have hw := hs.2 _ (List.getElem_mem hy')
  have hx' : x < mask[y].length := by omega
  rw [at2_of (List.getElem?_eq_getElem hy') (List.getElem?_eq_getElem hx')]
  exact inR_iff.1 ((List.all_eq_true.1 (h3 _ (List.getElem_mem hy')).2) _ (List.getElem_mem hx'))
theorem cellB_at2 (m : Grid) (y x : Nat) : cellB m y x = (at2 m y x == 1) := by
  unfold cellB at2
  rw [List.getD_eq_getElem?_getD, List.getD_eq_getElem?_getD]
/-- an image meets the mask, cell by cell -/
theorem meets_iff {mask x : Grid} {rows cols : List Int} (hm : MaskS mask rows cols) (hx : Img x rows.length cols.length) : meets x mask = true ↔ Meets rows.length cols.length (okM mask) (cellB x) := by
  have hok := hx.ok
  have hl : mask.length = x.length := by rw [hm.shape.1, hx.1.1]
  have hrow : ∀ y, y < rows.length → ((mask[y]?.getD []).length = cols.length ∧ (x[y]?.getD []).length = cols.length) := fun y hy => by
    have h1 : y < mask.length := by rw [hm.shape.1]; exact hy
    have h2 : y < x.length := by rw [hx.1.1]; exact hy
    rw [List.getElem?_eq_getElem h1, List.getElem?_eq_getElem h2]
    exact ⟨hm.shape.2 _ (List.getElem_mem h1), hx.1.2 _ (List.getElem_mem h2)⟩
  have hb : ∀ y i, y < rows.length → i < cols.length → at2 x y i = b2i (cellB x y i) := fun y i hy hi => by
    rw [cellB_at2]
    obtain ⟨r, c, h1, _, h3, h4⟩ := hx.cell hy hi
    rw [at2_of h1 h3]
    rcases h4 with rfl | rfl <;> decide
  unfold meets
  rw [hok, hl, Bool.true_and, decide_eq_true rfl, Bool.true_and, List.all_eq_true, hx.1.1]
  constructor
  · intro h y hy i hi
    have h1 := h y (List.mem_range.2 hy)
    unfold meetAt meetRow at h1
    rw [Bool.and_eq_true, List.all_eq_true, (hrow y hy).2] at h1
    have h2 := h1.2 i (List.mem_range.2 hi)
    have h3 := hb y i hy hi
    unfold okM
    unfold at2 at h3 ⊢
    rw [← h3]
    exact h2
  · intro h y hy
    have hy' := List.mem_range.1 hy
    unfold meetAt meetRow
    rw [Bool.and_eq_true, List.all_eq_true, (hrow y hy').1, (hrow y hy').2]
    refine ⟨by simp, fun i hi => ?_⟩
    have hi' := List.mem_range.1 hi
    have h2 := h y hy' i hi'
    have h3 := hb y i hy' hi'
    unfold okM at h2
    unfold at2 at h3 h2
    rw [← h3] at h2
    exact h2
/-- the numbers below n that lie in the set -/
def setL (A : Nat → Bool) (n : Nat) : List Int := ((List.range n).filter A).map fun i : Nat => (i : Int)
theorem hasI_setL {A : Nat → Bool} {n y : Nat} (hy : y < n) : hasI (setL A n) (y : Int) = A y := by
  unfold hasI setL
  rw [Bool.eq_iff_iff, List.contains_iff_mem, List.mem_map]
  constructor
  · rintro ⟨i, hi, he⟩
    have : i = y := by omega
    subst this
    exact (List.mem_filter.1 hi).2
  · intro h
    exact ⟨y, List.mem_filter.2 ⟨List.mem_range.2 hy, h⟩, rfl⟩
theorem pickSum_setL {A : Nat → Bool} (rows : List Int) : pickSum rows (setL A rows.length) = sumN rows.length (fun y => if A y then rows.getD y 0 else 0) := by
  unfold pickSum setL
  rw [List.map_map, ← sum_filter_map]
  congr 1
theorem room_setL {mask : Grid} {rows cols : List Int} (hm : MaskS mask rows cols) (A B : Nat → Bool) : roomGrid (setL A rows.length) (setL B cols.length) mask mask.length = allowed rows.length cols.length (okM mask) A B := by
  unfold roomGrid allowed
  rw [hm.shape.1, sum_range_map]
  refine sumN_congr fun y hy => ?_
  have h1 : y < mask.length := by rw [hm.shape.1]; exact hy
  have hw : (mask[y]?.getD []).length = cols.length := by rw [List.getElem?_eq_getElem h1]; exact hm.shape.2 _ (List.getElem_mem h1)
  unfold roomRow
  rw [hw, sum_range_map]
  refine sumN_congr fun x hx => ?_
  rw [hasI_setL hy, hasI_setL hx]
  have hc := hm.cell y x hy hx
  have he : (mask[y]?.getD [])[x]?.getD 0 = at2 mask y x := rfl
  rw [he]
  unfold roomCell okM
  have h3 : at2 mask y x = -1 ∨ at2 mask y x = 0 ∨ at2 mask y x = 1 := by omega
  rcases h3 with h3 | h3 | h3 <;> rw [h3] <;> cases A y <;> cases B x <;> decide
theorem conflict_setL {mask : Grid} {rows cols : List Int} (hm : MaskS mask rows cols) (A B : Nat → Bool) : conflictB mask rows cols (setL A rows.length) (setL B cols.length) = decide (allowed rows.length cols.length (okM mask) A B < asked rows.length cols.length (fun y => rows.getD y 0) (fun x => cols.getD x 0) A B) := by
  unfold conflictB asked
  rw [room_setL hm, pickSum_setL, pickSum_setL]
theorem code_set (A : Nat → Bool) : ∀ n, ∃ a, a < 2 ^ n ∧ ∀ i, i < n → Nat.testBit a i = A i := by
  intro n
  induction n with
  | zero => exact ⟨0, by decide, fun i hi => by omega⟩
  | succ n ih =>
    obtain ⟨a, ha, hb⟩ := ih
    cases hA : A n
    · refine ⟨a, by rw [Nat.pow_succ]; omega, fun i hi => ?_⟩
      rcases Nat.lt_or_ge i n with h | h
      · exact hb i h
      · have : i = n := by omega
        subst this
        rw [hA]; exact Nat.testBit_lt_two_pow ha
    · refine ⟨2 ^ n + a, by rw [Nat.pow_succ]; omega, fun i hi => ?_⟩
      rcases Nat.lt_or_ge i n with h | h
      · rw [Nat.testBit_two_pow_add_gt h]; exact hb i h
      · have : i = n := by omega
        subst this
        rw [Nat.testBit_two_pow_add_eq, Nat.testBit_lt_two_pow ha, hA]; rfl
theorem bitsL_set {a n : Nat} {A : Nat → Bool} (h : ∀ i, i < n → Nat.testBit a i = A i) : bitsL a n = setL A n := by
  unfold bitsL setL
  congr 1
  refine List.filter_congr fun i hi => ?_
  rw [← h i (List.mem_range.1 hi), Nat.testBit_eq_decide_div_mod_eq, Bool.eq_iff_iff]
  simp
theorem conflict_none {mask : Grid} {rows cols : List Int} (h : maskOk mask rows cols = true) (hne : maskedCount mask rows cols ≠ 0) {a b : Nat} : hasConflict mask rows cols (bitsL a rows.length) (bitsL b cols.length) = false := by
  have hm := MaskS.of h
  unfold maskedCount maskedI at hne
  rw [if_pos h] at hne
  obtain ⟨x, hx⟩ := List.exists_mem_of_ne_nil _ (show (allI rows cols).filter (fun m => meets m mask) ≠ [] from fun e => by rw [e] at hne; exact hne rfl)
  obtain ⟨hxa, hxm⟩ := List.mem_filter.1 hx
  have hi := allI_img hxa
  obtain ⟨s1, s2⟩ := imgs_sums (allI_sums hxa).2
  have hle := asked_le_allowed rows.length cols.length (fun y => rows.getD y 0) (fun x => cols.getD x 0) (okM mask) (cellB x) ((meets_iff hm hi).1 hxm) s1 s2 (fun i => Nat.testBit a i) (fun i => Nat.testBit b i)
  unfold hasConflict
  rw [bitsL_set (A := fun i => Nat.testBit a i) (fun i _ => rfl), bitsL_set (A := fun i => Nat.testBit b i) (fun i _ => rfl), conflict_setL hm, decide_eq_false (by omega), Bool.and_false]
theorem conflict_some {mask : Grid} {rows cols : List Int} (h : maskOk mask rows cols = true) (h0 : maskedCount mask rows cols = 0) : ∃ a b, a < 2 ^ rows.length ∧ b < 2 ^ cols.length ∧ hasConflict mask rows cols (bitsL a rows.length) (bitsL b cols.length) = true := by
  have hm := MaskS.of h
  obtain ⟨p1, p2, p3, p4, p5, p6, p7⟩ := sumsOk_parts hm.sums
  unfold maskedCount maskedI at h0
  rw [if_pos h] at h0
  have hmeet0 : Meets rows.length cols.length (okM mask) (fun y x => at2 mask y x == 1) := fun y hy x hx => by
    have hc := hm.cell y x hy hx
    have h3 : at2 mask y x = -1 ∨ at2 mask y x = 0 ∨ at2 mask y x = 1 := by omega
    show (at2 mask y x == -1 || at2 mask y x == b2i (at2 mask y x == 1)) = true
    rcases h3 with h3 | h3 | h3 <;> rw [h3] <;> decide
  rcases feasible_or_cut rows.length cols.length (fun y => rows.getD y 0) (fun x => cols.getD x 0) (okM mask) _ hmeet0 (by rw [← sum_getD, ← sum_getD]; exact p7) with ⟨f, h1, h2, h3⟩ | ⟨A, B, hcut⟩
  · exfalso
    have hmem := toGrid_mem f h2 h3
    have hall : toGrid rows.length cols.length f ∈ allI rows cols := by unfold allI; rw [if_pos hm.sums]; exact hmem
    have hi := allI_img hall
    have hmt : meets (toGrid rows.length cols.length f) mask = true := (meets_iff hm hi).2 fun y hy x hx => by
      rw [toGrid_at _ _ f y x hy hx]; exact h1 y hy x hx
    have hpos := List.length_pos_of_mem (List.mem_filter.2 ⟨hall, hmt⟩ : toGrid rows.length cols.length f ∈ (allI rows cols).filter fun m => meets m mask)
    have h0' : (((allI rows cols).filter fun m => meets m mask).length : Int) = 0 := h0
    omega
  · obtain ⟨a, ha, hab⟩ := code_set A rows.length
    obtain ⟨b, hb, hbb⟩ := code_set B cols.length
    refine ⟨a, b, ha, hb, ?_⟩
    have ha32 : a < 32 := Nat.lt_of_lt_of_le ha (Nat.pow_le_pow_right (by omega) p2 : 2 ^ rows.length ≤ 2 ^ 5)
    have hb32 : b < 32 := Nat.lt_of_lt_of_le hb (Nat.pow_le_pow_right (by omega) p4 : 2 ^ cols.length ≤ 2 ^ 5)
    unfold hasConflict
    rw [h, bitsL_rising rows.length (by omega) a ha32 ha, bitsL_rising cols.length (by omega) b hb32 hb, bitsL_set hab, bitsL_set hbb, conflict_setL hm, decide_eq_true hcut]
    rfl
end Go.Proofs.Ytcojhogndimboaa
