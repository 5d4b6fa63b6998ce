/- Two images with the same sums: their difference is a ghost of the rows and the columns. The plain law. -/
import Derived.Test.YtiekgdgonleoaaaGhostM
import Derived.Test.YtiekgdgonleoaaaPair
namespace Go.Proofs.Ytiekgdgonleoaaa
open Go.RowKit Tomo

theorem diff_bd {m b : Grid} {n k : Nat} (him : Img m n k) (hib : Img b n k) {i l : Nat} (hi : i < n) (hl : l < k) : (at2 m i l = 0 ∨ at2 m i l = 1) ∧ (at2 b i l = 0 ∨ at2 b i l = 1) := by
  obtain ⟨r, c, h1, _, h3, h4⟩ := him.cell hi hl
  obtain ⟨r', c', h1', _, h3', h4'⟩ := hib.cell hi hl
  rw [at2_of h1 h3, at2_of h1' h3']
  exact ⟨h4, h4'⟩
theorem diff_grid {m b g : Grid} {n k : Nat} (him : Img m n k) (hib : Img b n k) (hgs : Shape g n k) (hga : ∀ i l, i < n → l < k → at2 g i l = at2 b i l - at2 m i l) {lo hi : Int} (hlo : lo ≤ -1) (hhi : 1 ≤ hi) : gridOk g lo hi = true := by
  have hh := shape_headD hgs him.2.1.1
  refine gridOk_iff.2 ⟨by rw [hgs.1]; exact him.2.1, fun r hr => ?_⟩
  have hrl := hgs.2 r hr
  refine ⟨by rw [hh, hrl], by rw [hrl]; exact him.2.2.1, ?_⟩
  unfold allIn
  rw [List.all_eq_true]
  intro x hx
  obtain ⟨y, hy, rfl⟩ := List.mem_iff_getElem.1 hr
  obtain ⟨i, hi, rfl⟩ := List.mem_iff_getElem.1 hx
  have hyn : y < n := by rw [← hgs.1]; exact hy
  have he : at2 g y i = g[y][i] := at2_of (List.getElem?_eq_getElem hy) (List.getElem?_eq_getElem hi)
  rw [← he, hga y i hyn (by omega)]
  have := diff_bd him hib hyn (show i < k by omega)
  exact inR_iff.2 (by omega)
theorem add_diff {m b g : Grid} {n k : Nat} (hm : gridOk m 0 1 = true) (hb : gridOk b 0 1 = true) (him : Img m n k) (hib : Img b n k) (hgs : Shape g n k) (hga : ∀ i l, i < n → l < k → at2 g i l = at2 b i l - at2 m i l) : addOk m g 0 0 = true ∧ addI m g 0 0 = b := by
  have hh := shape_headD hgs him.2.1.1
  have hmh := him.head
  have hs : sumG m g 0 0 = b := by
    refine grid_ext (by unfold sumG; rw [hmh, him.1.1]; exact gridF_shape n k _) hib.1 fun i l hi hl => ?_
    unfold sumG
    rw [hmh, him.1.1, gridF_at n k _ hi hl]
    unfold addF
    rw [hh, hgs.1, if_pos (by omega), Nat.sub_zero, Nat.sub_zero, hga i l hi hl]
    omega
  have hok : addOk m g 0 0 = true := by
    unfold addOk addPre
    rw [show (0 : Int).toNat = 0 from rfl, hs, hb, hm, diff_grid him hib hgs hga (by omega) (by omega), hh, hmh, hgs.1, him.1.1]
    simp [inR]
  refine ⟨hok, ?_⟩
  unfold addI
  rw [if_pos hok]
  exact hs
theorem col_lf (F : Nat → Nat → Int) (n k : Nat) (c : Int) : Lf F n k 0 1 c = sumTo (fun x => if -(x : Int) = c then sumTo (fun y => F y x) n else 0) k := by
  unfold Lf
  rw [sumTo_swap]
  refine sumTo_congr fun x _ => ?_
  by_cases h : -(x : Int) = c
  · rw [if_pos h]
    refine sumTo_congr fun y _ => ?_
    rw [if_pos (by omega)]
  · rw [if_neg h]
    refine sumTo_nil fun y _ => ?_
    rw [if_neg (by omega)]
theorem col_at {m : Grid} {n k : Nat} (hm : gridOk m 0 1 = true) (him : Img m n k) {x : Nat} (hx : x < k) : (csI m)[x]? = some (sumTo (fun y => at2 m y x) n) := by
  have hmt := tr_shape m
  rw [him.head, him.1.1] at hmt
  unfold csI
  rw [if_pos hm, List.getElem?_map]
  have h1 : x < (tr m).length := by rw [hmt.1]; exact hx
  rw [List.getElem?_eq_getElem h1]
  show some ((tr m)[x].sum) = _
  rw [row_sum_at hmt (List.getElem?_eq_getElem h1)]
  congr 1
  refine sumTo_congr fun y hy => ?_
  exact at2_tr m (by rw [him.head]; exact hx) (by rw [him.1.1]; exact hy)
theorem ghost_diff {m b g : Grid} {n k : Nat} (hm : gridOk m 0 1 = true) (hb : gridOk b 0 1 = true) (him : Img m n k) (hib : Img b n k) (hr : rsI b = rsI m) (hc : csI b = csI m) (hgs : Shape g n k) (hga : ∀ i l, i < n → l < k → at2 g i l = at2 b i l - at2 m i l) :
    ghostB g [(1, 0), (0, 1)] = !(decide (m = b)) := by
  have hh := shape_headD hgs him.2.1.1
  have hmh := him.head
  have hbh := hib.head
  have hgo := diff_grid him hib hgs hga (lo := -100) (hi := 100) (by omega) (by omega)
  have h10 : dirOk 1 0 = true := by decide
  have h01 : dirOk 0 1 = true := by decide
  have hL : ∀ (x y c : Int), Lf (at2 b) n k x y c = Lf (at2 m) n k x y c → Lf (at2 g) n k x y c = 0 := fun x y c h => by
    rw [Lf_congr hga, Lf_sub, h]; omega
  have z1 : zeroL (gsI g 1 0) = true := by
    unfold gsI
    rw [if_pos ⟨hgo, h10⟩, hgs.1, hh]
    refine Lf_zero fun c => hL _ _ _ ?_
    refine Lf_of_ls h10 him.2.1 him.2.2.1 ?_ c
    have e : gsI b 1 0 = gsI m 1 0 := by rw [gsI_rows hb, gsI_rows hm, hr]
    unfold gsI at e
    rw [if_pos ⟨bits_wide hb, h10⟩, if_pos ⟨bits_wide hm, h10⟩, hmh, hbh, him.1.1, hib.1.1] at e
    exact e
  have z2 : zeroL (gsI g 0 1) = true := by
    unfold gsI
    rw [if_pos ⟨hgo, h01⟩, hgs.1, hh]
    refine Lf_zero fun c => hL _ _ _ ?_
    rw [col_lf, col_lf]
    refine sumTo_congr fun x hx => ?_
    have e1 := col_at hm him hx
    have e2 := col_at hb hib hx
    rw [hc, e1] at e2
    rw [Option.some.inj e2]
  have hd : dirsOk [((1 : Int), (0 : Int)), (0, 1)] = true := by decide
  unfold ghostB
  rw [hd, hgo, Bool.true_and, Bool.true_and]
  simp only [List.all_cons, List.all_nil, z1, z2, Bool.and_true, Bool.true_and]
  by_cases he : m = b
  · rw [decide_eq_true he]
    cases ha : g.any fun r => !zeroL r
    · rfl
    · exfalso
      obtain ⟨r, hrm, hrz⟩ := List.any_eq_true.1 ha
      have : zeroL r = true := zeroL_iff.2 fun x hx => by
        obtain ⟨y, hy, rfl⟩ := List.mem_iff_getElem.1 hrm
        obtain ⟨i, hi, rfl⟩ := List.mem_iff_getElem.1 hx
        have hyn : y < n := by rw [← hgs.1]; exact hy
        have hw := hgs.2 _ (List.getElem_mem hy)
        have he2 : at2 g y i = g[y][i] := at2_of (List.getElem?_eq_getElem hy) (List.getElem?_eq_getElem hi)
        rw [← he2, hga y i hyn (by omega), he]; omega
      rw [this] at hrz; cases hrz
  · rw [decide_eq_false he]
    cases ha : g.any fun r => !zeroL r
    · exfalso
      refine he (grid_ext him.1 hib.1 fun i l hi hl => ?_)
      have hig : i < g.length := by rw [hgs.1]; exact hi
      have hw := hgs.2 _ (List.getElem_mem hig)
      have hz : zeroL g[i] = true := by
        cases hz : zeroL g[i]
        · have := List.any_eq_false.1 ha g[i] (List.getElem_mem hig)
          rw [hz] at this; exact absurd rfl this
        · rfl
      have he2 : at2 g i l = g[i][l]'(by omega) := at2_of (List.getElem?_eq_getElem hig) (List.getElem?_eq_getElem (by omega))
      have h0 := zeroL_iff.1 hz _ (List.getElem_mem (by omega : l < g[i].length))
      have h2 := hga i l hi hl
      rw [he2, h0] at h2
      omega
    · rfl
theorem bg_two : bgRes [((1 : Int), (0 : Int)), (0, 1)] = [[1, -1], [-1, 1]] := by decide
theorem bg_two_ok : bgOk [((1 : Int), (0 : Int)), (0, 1)] = true := by decide
end Go.Proofs.Ytiekgdgonleoaaa
