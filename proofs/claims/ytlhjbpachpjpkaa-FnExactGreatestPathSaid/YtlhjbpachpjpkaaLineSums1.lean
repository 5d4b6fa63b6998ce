/- The sums on the lines: what they add up to. -/
import Derived.Test.YtlhjbpachpjpkaaLiA
import Derived.Test.YtlhjbpachpjpkaaSums
import Derived.Test.YtlhjbpachpjpkaaPaint1
namespace Go.Proofs.Ytlhjbpachpjpkaa
open Go.RowKit Tomo

theorem sum_range (f : Nat → Int) (L : Nat) : ((List.range L).map f).sum = sumTo f L := by
  induction L with
  | zero => rfl
  | succ L ih => rw [List.range_succ, List.map_append, List.sum_append, ih]; simp [sumTo]
theorem sumTo_add (f g : Nat → Int) (L : Nat) : sumTo (fun j => f j + g j) L = sumTo f L + sumTo g L := by
  induction L with
  | zero => rfl
  | succ L ih => simp only [sumTo, ih]; omega
theorem sumTo_zero (L : Nat) : sumTo (fun _ => 0) L = 0 := by
  induction L with
  | zero => rfl
  | succ L ih => simp only [sumTo, ih]; rfl
theorem sumTo_congr {f g : Nat → Int} {L : Nat} (h : ∀ j, j < L → f j = g j) : sumTo f L = sumTo g L := by
  induction L with
  | zero => rfl
  | succ L ih => simp only [sumTo]; rw [ih (fun j hj => h j (by omega)), h L (by omega)]
theorem sumTo_hit {L l : Nat} (c : Int) (h : l < L) : sumTo (fun j => if l = j then c else 0) L = c := by
  induction L with
  | zero => omega
  | succ L ih =>
    simp only [sumTo]
    by_cases e : l = L
    · rw [if_pos e, sumTo_congr (g := fun _ => 0) (fun j hj => if_neg (by omega)), sumTo_zero]; omega
    · rw [if_neg e, ih (by omega)]; omega
theorem sumTo_swap (F : Nat → Nat → Int) (L b : Nat) : sumTo (fun j => sumTo (F j) b) L = sumTo (fun x => sumTo (fun j => F j x) L) b := by
  induction b with
  | zero => simp only [sumTo]; exact sumTo_zero L
  | succ b ih => simp only [sumTo]; rw [sumTo_add, ih]
theorem sum2_swap (F : Nat → Nat → Nat → Int) (L k n : Nat) : sumTo (fun j => sum2 (F j) k n) L = sum2 (fun y x => sumTo (fun j => F j y x) L) k n := by
  induction n with
  | zero => simp only [sum2]; exact sumTo_zero L
  | succ n ih => simp only [sum2]; rw [sumTo_add, ih, sumTo_swap]
theorem sum2_congr {f g : Nat → Nat → Int} {k n : Nat} (h : ∀ y x, y < n → x < k → f y x = g y x) : sum2 f k n = sum2 g k n := by
  induction n with
  | zero => rfl
  | succ n ih => simp only [sum2]; rw [ih (fun y x hy hx => h y x (by omega) hx), sumTo_congr (fun x hx => h n x (by omega) hx)]
/-- the lines' sums add up to the cells' -/
theorem lsI_total {g : Grid} {n k : Nat} {dx dy : Int} (hx : 0 ≤ dx ∧ dx ≤ 3) (hy : -3 ≤ dy ∧ dy ≤ 3) (hn : 1 ≤ n ∧ n ≤ 5) (hk : 1 ≤ k ∧ k ≤ 5) : (lsI g n k dx dy).sum = sum2 (at2 g) k n := by
  unfold lsI
  rw [sum_range, sum2_swap]
  refine sum2_congr fun y x hy1 hx1 => ?_
  have h := lineNo_bd (n := n) (k := k) (y := y) (x := x) hx hy (by omega) (by omega) (by omega) (by omega)
  obtain ⟨l, hl⟩ : ∃ l : Nat, lineNo k dx dy y x = l := ⟨(lineNo k dx dy y x).toNat, by omega⟩
  rw [← sumTo_hit (l := l) (L := (countN n k dx dy).toNat) (at2 g y x) (by omega)]
  refine sumTo_congr fun j _ => ?_
  unfold onLine
  rw [hl]
  by_cases e : l = j
  · rw [if_pos e, if_pos (by omega)]
  · rw [if_neg e, if_neg (by omega)]
theorem row_sum {g : Grid} {y : Nat} {r : List Int} (hr : g[y]? = some r) (b : Nat) (hb : b ≤ r.length) : sumTo (at2 g y) b = (r.take b).sum := by
  induction b with
  | zero => rfl
  | succ b ih =>
    have hv := List.getElem?_eq_getElem (show b < r.length by omega)
    simp only [sumTo]
    rw [ih (by omega), take_succ_of hv, List.sum_append, at2_of hr hv]; simp
theorem grid_sum {g : Grid} {n k : Nat} (h : Shape g n k) (a : Nat) (ha : a ≤ n) : sum2 (at2 g) k a = ((g.take a).map List.sum).sum := by
  induction a with
  | zero => rfl
  | succ a ih =>
    obtain ⟨r, hr, hrl⟩ := h.get (show a < n by omega)
    simp only [sum2]
    rw [ih (by omega), take_succ_of hr, List.map_append, List.sum_append, row_sum hr k (by omega), List.take_of_length_le (show r.length ≤ k by omega)]; simp
theorem bits_wide {m : Grid} (h : gridOk m 0 1 = true) : gridOk m (-100) 100 = true := by
  obtain ⟨h1, h2⟩ := gridOk_iff.1 h
  refine gridOk_iff.2 ⟨h1, fun r hr => ⟨(h2 r hr).1, (h2 r hr).2.1, ?_⟩⟩
  unfold allIn
  rw [List.all_eq_true]
  intro c hc
  have := inR_iff.1 ((List.all_eq_true.1 (h2 r hr).2.2) c hc)
  rw [inR_iff]; omega
/-- the number of black cells -/
def blackI (m : Grid) : Int := (m.map List.sum).sum
theorem gsI_total {m : Grid} {dx dy : Int} (h : gridOk m 0 1 = true) (hd : dirOk dx dy = true) : (gsI m dx dy).sum = blackI m := by
  have hm := Img.of h
  obtain ⟨d1, d2⟩ := dir_bd hd
  unfold gsI
  rw [if_pos ⟨bits_wide h, hd⟩, lsI_total d1 d2 hm.2.1 hm.2.2.1, grid_sum hm.1 _ (Nat.le_refl _), take_full]
  rfl
theorem rsI_total {m : Grid} (h : gridOk m 0 1 = true) : (rsI m).sum = blackI m := by unfold rsI; rw [if_pos h]; rfl
theorem sum2_eq (f : Nat → Nat → Int) (k n : Nat) : sum2 f k n = sumTo (fun y => sumTo (f y) k) n := by
  induction n with
  | zero => rfl
  | succ n ih => simp only [sum2, sumTo, ih]
theorem csI_total {m : Grid} (h : gridOk m 0 1 = true) : (csI m).sum = blackI m := by
  have hm := Img.of h
  have h1 := grid_sum (tr_shape m) (m.headD []).length (Nat.le_refl _)
  have h2 := grid_sum hm.1 m.length (Nat.le_refl _)
  rw [take_full] at h2
  rw [List.take_of_length_le (by rw [(tr_shape m).1]; exact Nat.le_refl _)] at h1
  unfold csI blackI
  rw [if_pos h, ← h1, ← h2, sum2_congr (g := fun i j => at2 m j i) (fun y x hy hx => at2_tr m hy hx), sum2_eq, sum2_eq]
  exact sumTo_swap (fun i j => at2 m j i) (m.headD []).length m.length
/-- the rows are the lines of (1, 0) -/
theorem gsI_rows {m : Grid} (h : gridOk m 0 1 = true) : gsI m 1 0 = rsI m := by
  have hm := Img.of h
  obtain ⟨hn1, hn5⟩ := hm.2.1
  have hd : dirOk 1 0 = true := by decide
  have hl : ∀ y x : Nat, lineNo (m.headD []).length 1 0 y x = y := fun y x => by unfold lineNo; omega
  have hc : countN m.length (m.headD []).length 1 0 = m.length := by unfold countN lineNo; omega
  unfold gsI rsI
  rw [if_pos ⟨bits_wide h, hd⟩, if_pos h]
  unfold lsI
  rw [hc]
  apply List.ext_getElem?
  intro j
  by_cases hj : j < m.length
  · obtain ⟨r, hr, hrl⟩ := hm.1.get hj
    rw [List.getElem?_map, List.getElem?_map, List.getElem?_range (by omega), hr]
    simp only [Option.map_some]
    congr 1
    have key : ∀ a, a ≤ m.length → sum2 (onLine m (m.headD []).length 1 0 j) (m.headD []).length a = if j < a then sumTo (at2 m j) (m.headD []).length else 0 := by
      intro a
      induction a with
      | zero => intro _; rfl
      | succ a ih =>
        intro ha
        simp only [sum2]
        rw [ih (by omega)]
        by_cases e : j = a
        · subst e
          rw [if_neg (by omega), if_pos (by omega), sumTo_congr (f := onLine m (m.headD []).length 1 0 j j) (g := at2 m j) (L := (m.headD []).length) (fun x _ => by unfold onLine; rw [if_pos (hl j x)])]
          omega
        · rw [sumTo_congr (f := onLine m (m.headD []).length 1 0 j a) (g := fun _ => 0) (L := (m.headD []).length) (fun x _ => by unfold onLine; rw [if_neg (by rw [hl]; omega)]), sumTo_zero]
          by_cases e2 : j < a
          · rw [if_pos e2, if_pos (by omega)]; omega
          · rw [if_neg e2, if_neg (by omega)]; omega
    rw [key _ (Nat.le_refl _), if_pos hj, row_sum hr _ (by omega), List.take_of_length_le (show r.length ≤ (m.headD []).length by omega)]
  · rw [List.getElem?_eq_none (by rw [List.length_map, List.length_range]; omega), List.getElem?_eq_none (by rw [List.length_map]; omega)]
end Go.Proofs.Ytlhjbpachpjpkaa
