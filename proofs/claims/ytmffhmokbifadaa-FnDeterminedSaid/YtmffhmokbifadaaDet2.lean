/- Line sums that determine: the plain law. Written by gen_det.py. -/
import Derived.Test.YtmffhmokbifadaaDet1
namespace Go.Proofs.Ytmffhmokbifadaa
open Go.RowKit Tomo

theorem two_facts {a b c d : Int} (h : dirsOk [(a, b), (c, d)] = true) : dirOk a b = true ∧ dirOk c d = true ∧ (a = c → b ≠ d) := by
  refine ⟨dirsOk_dir h (k := 0) rfl, dirsOk_dir h (k := 1) rfl, fun h1 h2 => ?_⟩
  subst h1 h2
  unfold dirsOk at h
  rw [Bool.and_eq_true, List.all_eq_true] at h
  have := h.2 1 (by simp)
  simp [dOkAt, anyD] at this
theorem tri_facts {a b c d e f : Int} (h : dirsOk [(a, b), (c, d), (e, f)] = true) : dirOk a b = true ∧ dirOk c d = true ∧ dirOk e f = true ∧ (a = c → b ≠ d) ∧ (a = e → b ≠ f) ∧ (c = e → d ≠ f) := by
  refine ⟨dirsOk_dir h (k := 0) rfl, dirsOk_dir h (k := 1) rfl, dirsOk_dir h (k := 2) rfl, fun h1 h2 => ?_, fun h1 h2 => ?_, fun h1 h2 => ?_⟩ <;> subst h1 h2 <;> unfold dirsOk at h <;> rw [Bool.and_eq_true, List.all_eq_true] at h
  · have := h.2 1 (by simp)
    simp [dOkAt, anyD] at this
  · have := h.2 2 (by simp)
    simp [dOkAt, anyD] at this
  · have := h.2 2 (by simp)
    simp [dOkAt, anyD] at this
theorem det11 {ds : List (Int × Int)} (hd : dirsOk ds = true) (h3 : ds.length ≤ 3) (hc : (1 : Int) < ghR ds ds.length ∨ (1 : Int) < ghC ds ds.length) {D : Nat → Nat → Int} (h : ∀ d ∈ ds, ∀ c, Lf D 1 1 d.1 d.2 c = 0) : AZ11 D := by
  match ds, hd, h3, hc, h with
  | [], hd, _, _, _ => exact absurd hd (by decide)
  | (a, b) :: _, hd, _, _, h => exact one11 (dirsOk_dir hd (k := 0) rfl) (h (a, b) (by simp))
theorem det12 {ds : List (Int × Int)} (hd : dirsOk ds = true) (h3 : ds.length ≤ 3) (hc : (1 : Int) < ghR ds ds.length ∨ (2 : Int) < ghC ds ds.length) {D : Nat → Nat → Int} (h : ∀ d ∈ ds, ∀ c, Lf D 1 2 d.1 d.2 c = 0) : AZ12 D := by
  match ds, hd, h3, hc, h with
  | [], hd, _, _, _ => exact absurd hd (by decide)
  | [(a, b)], hd, _, hc, h => simp [ghR, ghC] at hc; exact one12 (dirsOk_dir hd (k := 0) rfl) (h (a, b) (by simp)) (by omega)
  | [(a, b), (c, d)], hd, _, hc, h => simp [ghR, ghC] at hc; obtain ⟨f1, f2, f3⟩ := two_facts hd; exact two12 f1 (h (a, b) (by simp)) f2 (h (c, d) (by simp)) f3 (by omega)
  | [(a, b), (c, d), (e, f)], hd, _, hc, h => simp [ghR, ghC] at hc; obtain ⟨f1, f2, f3, f4, f5, f6⟩ := tri_facts hd; exact tri12 f1 (h (a, b) (by simp)) f2 (h (c, d) (by simp)) f3 (h (e, f) (by simp)) f4 f5 f6 (by omega)
  | _ :: _ :: _ :: _ :: _, _, h3, _, _ => simp at h3
theorem det13 {ds : List (Int × Int)} (hd : dirsOk ds = true) (h3 : ds.length ≤ 3) (hc : (1 : Int) < ghR ds ds.length ∨ (3 : Int) < ghC ds ds.length) {D : Nat → Nat → Int} (h : ∀ d ∈ ds, ∀ c, Lf D 1 3 d.1 d.2 c = 0) : AZ13 D := by
  match ds, hd, h3, hc, h with
  | [], hd, _, _, _ => exact absurd hd (by decide)
  | [(a, b)], hd, _, hc, h => simp [ghR, ghC] at hc; exact one13 (dirsOk_dir hd (k := 0) rfl) (h (a, b) (by simp)) (by omega)
  | [(a, b), (c, d)], hd, _, hc, h => simp [ghR, ghC] at hc; obtain ⟨f1, f2, f3⟩ := two_facts hd; exact two13 f1 (h (a, b) (by simp)) f2 (h (c, d) (by simp)) f3 (by omega)
  | [(a, b), (c, d), (e, f)], hd, _, hc, h => simp [ghR, ghC] at hc; obtain ⟨f1, f2, f3, f4, f5, f6⟩ := tri_facts hd; exact tri13 f1 (h (a, b) (by simp)) f2 (h (c, d) (by simp)) f3 (h (e, f) (by simp)) f4 f5 f6 (by omega)
  | _ :: _ :: _ :: _ :: _, _, h3, _, _ => simp at h3
theorem det21 {ds : List (Int × Int)} (hd : dirsOk ds = true) (h3 : ds.length ≤ 3) (hc : (2 : Int) < ghR ds ds.length ∨ (1 : Int) < ghC ds ds.length) {D : Nat → Nat → Int} (h : ∀ d ∈ ds, ∀ c, Lf D 2 1 d.1 d.2 c = 0) : AZ21 D := by
  match ds, hd, h3, hc, h with
  | [], hd, _, _, _ => exact absurd hd (by decide)
  | [(a, b)], hd, _, hc, h => simp [ghR, ghC] at hc; exact one21 (dirsOk_dir hd (k := 0) rfl) (h (a, b) (by simp)) (by omega)
  | [(a, b), (c, d)], hd, _, hc, h => simp [ghR, ghC] at hc; obtain ⟨f1, f2, f3⟩ := two_facts hd; exact two21 f1 (h (a, b) (by simp)) f2 (h (c, d) (by simp)) f3 (by omega)
  | [(a, b), (c, d), (e, f)], hd, _, hc, h => simp [ghR, ghC] at hc; obtain ⟨f1, f2, f3, f4, f5, f6⟩ := tri_facts hd; exact tri21 f1 (h (a, b) (by simp)) f2 (h (c, d) (by simp)) f3 (h (e, f) (by simp)) f4 f5 f6 (by omega)
  | _ :: _ :: _ :: _ :: _, _, h3, _, _ => simp at h3
theorem det22 {ds : List (Int × Int)} (hd : dirsOk ds = true) (h3 : ds.length ≤ 3) (hc : (2 : Int) < ghR ds ds.length ∨ (2 : Int) < ghC ds ds.length) {D : Nat → Nat → Int} (h : ∀ d ∈ ds, ∀ c, Lf D 2 2 d.1 d.2 c = 0) : AZ22 D := by
  match ds, hd, h3, hc, h with
  | [], hd, _, _, _ => exact absurd hd (by decide)
  | [(a, b)], hd, _, hc, h => simp [ghR, ghC] at hc; exact one22 (dirsOk_dir hd (k := 0) rfl) (h (a, b) (by simp)) (by omega)
  | [(a, b), (c, d)], hd, _, hc, h => simp [ghR, ghC] at hc; obtain ⟨f1, f2, f3⟩ := two_facts hd; exact two22 f1 (h (a, b) (by simp)) f2 (h (c, d) (by simp)) f3 (by omega)
  | [(a, b), (c, d), (e, f)], hd, _, hc, h => simp [ghR, ghC] at hc; obtain ⟨f1, f2, f3, f4, f5, f6⟩ := tri_facts hd; exact tri22 f1 (h (a, b) (by simp)) f2 (h (c, d) (by simp)) f3 (h (e, f) (by simp)) f4 f5 f6 (by omega)
  | _ :: _ :: _ :: _ :: _, _, h3, _, _ => simp at h3
theorem det23 {ds : List (Int × Int)} (hd : dirsOk ds = true) (h3 : ds.length ≤ 3) (hc : (2 : Int) < ghR ds ds.length ∨ (3 : Int) < ghC ds ds.length) {D : Nat → Nat → Int} (h : ∀ d ∈ ds, ∀ c, Lf D 2 3 d.1 d.2 c = 0) : AZ23 D := by
  match ds, hd, h3, hc, h with
  | [], hd, _, _, _ => exact absurd hd (by decide)
  | [(a, b)], hd, _, hc, h => simp [ghR, ghC] at hc; exact one23 (dirsOk_dir hd (k := 0) rfl) (h (a, b) (by simp)) (by omega)
  | [(a, b), (c, d)], hd, _, hc, h => simp [ghR, ghC] at hc; obtain ⟨f1, f2, f3⟩ := two_facts hd; exact two23 f1 (h (a, b) (by simp)) f2 (h (c, d) (by simp)) f3 (by omega)
  | [(a, b), (c, d), (e, f)], hd, _, hc, h => simp [ghR, ghC] at hc; obtain ⟨f1, f2, f3, f4, f5, f6⟩ := tri_facts hd; exact tri23 f1 (h (a, b) (by simp)) f2 (h (c, d) (by simp)) f3 (h (e, f) (by simp)) f4 f5 f6 (by omega)
  | _ :: _ :: _ :: _ :: _, _, h3, _, _ => simp at h3
theorem det31 {ds : List (Int × Int)} (hd : dirsOk ds = true) (h3 : ds.length ≤ 3) (hc : (3 : Int) < ghR ds ds.length ∨ (1 : Int) < ghC ds ds.length) {D : Nat → Nat → Int} (h : ∀ d ∈ ds, ∀ c, Lf D 3 1 d.1 d.2 c = 0) : AZ31 D := by
  match ds, hd, h3, hc, h with
  | [], hd, _, _, _ => exact absurd hd (by decide)
  | [(a, b)], hd, _, hc, h => simp [ghR, ghC] at hc; exact one31 (dirsOk_dir hd (k := 0) rfl) (h (a, b) (by simp)) (by omega)
  | [(a, b), (c, d)], hd, _, hc, h => simp [ghR, ghC] at hc; obtain ⟨f1, f2, f3⟩ := two_facts hd; exact two31 f1 (h (a, b) (by simp)) f2 (h (c, d) (by simp)) f3 (by omega)
  | [(a, b), (c, d), (e, f)], hd, _, hc, h => simp [ghR, ghC] at hc; obtain ⟨f1, f2, f3, f4, f5, f6⟩ := tri_facts hd; exact tri31 f1 (h (a, b) (by simp)) f2 (h (c, d) (by simp)) f3 (h (e, f) (by simp)) f4 f5 f6 (by omega)
  | _ :: _ :: _ :: _ :: _, _, h3, _, _ => simp at h3
theorem det32 {ds : List (Int × Int)} (hd : dirsOk ds = true) (h3 : ds.length ≤ 3) (hc : (3 : Int) < ghR ds ds.length ∨ (2 : Int) < ghC ds ds.length) {D : Nat → Nat → Int} (h : ∀ d ∈ ds, ∀ c, Lf D 3 2 d.1 d.2 c = 0) : AZ32 D := by
  match ds, hd, h3, hc, h with
  | [], hd, _, _, _ => exact absurd hd (by decide)
  | [(a, b)], hd, _, hc, h => simp [ghR, ghC] at hc; exact one32 (dirsOk_dir hd (k := 0) rfl) (h (a, b) (by simp)) (by omega)
  | [(a, b), (c, d)], hd, _, hc, h => simp [ghR, ghC] at hc; obtain ⟨f1, f2, f3⟩ := two_facts hd; exact two32 f1 (h (a, b) (by simp)) f2 (h (c, d) (by simp)) f3 (by omega)
  | [(a, b), (c, d), (e, f)], hd, _, hc, h => simp [ghR, ghC] at hc; obtain ⟨f1, f2, f3, f4, f5, f6⟩ := tri_facts hd; exact tri32 f1 (h (a, b) (by simp)) f2 (h (c, d) (by simp)) f3 (h (e, f) (by simp)) f4 f5 f6 (by omega)
  | _ :: _ :: _ :: _ :: _, _, h3, _, _ => simp at h3
theorem det33 {ds : List (Int × Int)} (hd : dirsOk ds = true) (h3 : ds.length ≤ 3) (hc : (3 : Int) < ghR ds ds.length ∨ (3 : Int) < ghC ds ds.length) {D : Nat → Nat → Int} (h : ∀ d ∈ ds, ∀ c, Lf D 3 3 d.1 d.2 c = 0) : AZ33 D := by
  match ds, hd, h3, hc, h with
  | [], hd, _, _, _ => exact absurd hd (by decide)
  | [(a, b)], hd, _, hc, h => simp [ghR, ghC] at hc; exact one33 (dirsOk_dir hd (k := 0) rfl) (h (a, b) (by simp)) (by omega)
  | [(a, b), (c, d)], hd, _, hc, h => simp [ghR, ghC] at hc; obtain ⟨f1, f2, f3⟩ := two_facts hd; exact two33 f1 (h (a, b) (by simp)) f2 (h (c, d) (by simp)) f3 (by omega)
  | [(a, b), (c, d), (e, f)], hd, _, hc, h => simp [ghR, ghC] at hc; obtain ⟨f1, f2, f3, f4, f5, f6⟩ := tri_facts hd; exact tri33 f1 (h (a, b) (by simp)) f2 (h (c, d) (by simp)) f3 (h (e, f) (by simp)) f4 f5 f6 (by omega)
  | _ :: _ :: _ :: _ :: _, _, h3, _, _ => simp at h3
theorem det_zero {ds : List (Int × Int)} {n k : Nat} (hd : dirsOk ds = true) (h3 : ds.length ≤ 3) (hn : 1 ≤ n ∧ n ≤ 3) (hk : 1 ≤ k ∧ k ≤ 3) (hc : (n : Int) < ghR ds ds.length ∨ (k : Int) < ghC ds ds.length) {D : Nat → Nat → Int} (h : ∀ d ∈ ds, ∀ c, Lf D n k d.1 d.2 c = 0) : ∀ y x, y < n → x < k → D y x = 0 := by
  intro y x hy hx
  have hn' : n = 1 ∨ n = 2 ∨ n = 3 := by omega
  have hk' : k = 1 ∨ k = 2 ∨ k = 3 := by omega
  have hy' : y = 0 ∨ y = 1 ∨ y = 2 := by omega
  have hx' : x = 0 ∨ x = 1 ∨ x = 2 := by omega
  rcases hn' with rfl | rfl | rfl <;> rcases hk' with rfl | rfl | rfl
  · have z := det11 hd h3 hc h
    unfold AZ11 at z
    clear h hc hd
    rcases hy' with rfl | rfl | rfl <;> rcases hx' with rfl | rfl | rfl <;> omega
  · have z := det12 hd h3 hc h
    unfold AZ12 at z
    clear h hc hd
    rcases hy' with rfl | rfl | rfl <;> rcases hx' with rfl | rfl | rfl <;> omega
  · have z := det13 hd h3 hc h
    unfold AZ13 at z
    clear h hc hd
    rcases hy' with rfl | rfl | rfl <;> rcases hx' with rfl | rfl | rfl <;> omega
  · have z := det21 hd h3 hc h
    unfold AZ21 at z
    clear h hc hd
    rcases hy' with rfl | rfl | rfl <;> rcases hx' with rfl | rfl | rfl <;> omega
  · have z := det22 hd h3 hc h
    unfold AZ22 at z
    clear h hc hd
    rcases hy' with rfl | rfl | rfl <;> rcases hx' with rfl | rfl | rfl <;> omega
  · have z := det23 hd h3 hc h
    unfold AZ23 at z
    clear h hc hd
    rcases hy' with rfl | rfl | rfl <;> rcases hx' with rfl | rfl | rfl <;> omega
  · have z := det31 hd h3 hc h
    unfold AZ31 at z
    clear h hc hd
    rcases hy' with rfl | rfl | rfl <;> rcases hx' with rfl | rfl | rfl <;> omega
  · have z := det32 hd h3 hc h
    unfold AZ32 at z
    clear h hc hd
    rcases hy' with rfl | rfl | rfl <;> rcases hx' with rfl | rfl | rfl <;> omega
  · have z := det33 hd h3 hc h
    unfold AZ33 at z
    clear h hc hd
    rcases hy' with rfl | rfl | rfl <;> rcases hx' with rfl | rfl | rfl <;> omega
theorem Lf_of_ls {x m : Grid} {n k : Nat} {dx dy : Int} (hd : dirOk dx dy = true) (hn : 1 ≤ n ∧ n ≤ 5) (hk : 1 ≤ k ∧ k ≤ 5) (h : lsI x n k dx dy = lsI m n k dx dy) (c : Int) : Lf (at2 x) n k dx dy c = Lf (at2 m) n k dx dy c := by
  obtain ⟨d1, d2⟩ := dir_bd hd
  rw [lsI_at, lsI_at] at h
  by_cases hj : 0 ≤ c + max 0 (dy * ((k : Int) - 1)) ∧ c + max 0 (dy * ((k : Int) - 1)) < countN n k dx dy
  · obtain ⟨j, hjj⟩ : ∃ j, (c + max 0 (dy * ((k : Int) - 1))).toNat = j := ⟨_, rfl⟩
    have h2 := congrArg (fun l => l[j]?) h
    rw [List.getElem?_map, List.getElem?_map, List.getElem?_range (by omega)] at h2
    have h4 : Lf (at2 x) n k dx dy ((j : Int) - max 0 (dy * ((k : Int) - 1))) = Lf (at2 m) n k dx dy ((j : Int) - max 0 (dy * ((k : Int) - 1))) := Option.some.inj h2
    rw [show (j : Int) - max 0 (dy * ((k : Int) - 1)) = c by omega] at h4
    exact h4
  · have hz : ∀ g : Grid, Lf (at2 g) n k dx dy c = 0 := fun g => by
      unfold Lf
      refine sumTo_nil fun y hy => sumTo_nil fun x hx => ?_
      rw [if_neg]
      intro he
      have hb := lineNo_bd (n := n) (k := k) (y := y) (x := x) d1 d2 (by omega) (by omega) (by omega) (by omega)
      have hl : lineNo k dx dy y x = dx * (y : Int) - dy * (x : Int) + max 0 (dy * ((k : Int) - 1)) := rfl
      rw [hl, he] at hb
      exact hj ⟨hb.1, hb.2.1⟩
    rw [hz, hz]
theorem det_same {ds : List (Int × Int)} {x m : Grid} (hd : dirsOk ds = true) (h3 : ds.length ≤ 3) (hx : gridOk x 0 1 = true) (hm : gridOk m 0 1 = true) (h1 : x.length = m.length) (h2 : (x.headD []).length = (m.headD []).length) (hn : m.length ≤ 3) (hk : (m.headD []).length ≤ 3)
    (hc : (m.length : Int) < ghR ds ds.length ∨ ((m.headD []).length : Int) < ghC ds ds.length) (hs : ∀ d ∈ ds, gsI x d.1 d.2 = gsI m d.1 d.2) : x = m := by
  have hix := Img.of hx
  have him := Img.of hm
  rw [h1, h2] at hix
  refine grid_ext hix.1 him.1 fun y i hy hi => ?_
  have h := det_zero hd h3 ⟨him.2.1.1, hn⟩ ⟨him.2.2.1.1, hk⟩ hc (D := fun y i => at2 x y i - at2 m y i) (fun d hdm c => by
    obtain ⟨j, hj, rfl⟩ := List.mem_iff_getElem.1 hdm
    have hdo := dirsOk_dir hd (List.getElem?_eq_getElem hj : ds[j]? = some (ds[j].1, ds[j].2))
    have h4 := hs _ hdm
    unfold gsI at h4
    rw [if_pos ⟨bits_wide hx, hdo⟩, if_pos ⟨bits_wide hm, hdo⟩, h1, h2] at h4
    rw [Lf_sub]
    have h5 := Lf_of_ls hdo him.2.1 him.2.2.1 h4 c
    exact Int.sub_eq_zero.2 h5) y i hy hi
  omega
end Go.Proofs.Ytmffhmokbifadaa
