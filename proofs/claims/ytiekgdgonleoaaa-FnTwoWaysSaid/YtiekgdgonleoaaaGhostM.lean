/- The basic ghost has no sum in any of its directions: the plain law. -/
import Derived.Test.YtiekgdgonleoaaaBgAll
import Derived.Test.YtiekgdgonleoaaaIsGhost1
import Derived.Test.YtiekgdgonleoaaaGhost1
import Derived.Test.YtiekgdgonleoaaaLineSums1
namespace Go.Proofs.Ytiekgdgonleoaaa
open Go.RowKit Tomo

theorem sumTo_sub (f g : Nat → Int) (L : Nat) : sumTo (fun j => f j - g j) L = sumTo f L - sumTo g L := by
  induction L with
  | zero => rfl
  | succ L ih => simp only [sumTo, ih]; omega
theorem sumTo_nil {f : Nat → Int} {L : Nat} (h : ∀ j, j < L → f j = 0) : sumTo f L = 0 := by
  rw [sumTo_congr h]; exact sumTo_zero L
theorem sumTo_window : ∀ (N : Nat) (h : Nat → Int) (o n : Nat), o + n ≤ N → (∀ i, i < N → (i < o ∨ o + n ≤ i) → h i = 0) → sumTo h N = sumTo (fun y => h (o + y)) n
  | 0, h, o, n, hN, _ => by
    have : n = 0 := by omega
    subst this; rfl
  | N + 1, h, o, n, hN, hz => by
    by_cases he : o + n = N + 1
    · cases n with
      | zero => exact sumTo_nil fun j hj => hz j hj (Or.inl (by omega))
      | succ m =>
        have h1 := sumTo_window N h o m (by omega) (fun i hi hc => hz i (by omega) (by rcases hc with hc | hc <;> first | exact Or.inl hc | (exfalso; omega)))
        show sumTo h N + h N = sumTo (fun y => h (o + y)) m + h (o + m)
        rw [h1, show N = o + m by omega]
    · have h1 := sumTo_window N h o n (by omega) (fun i hi hc => hz i (by omega) hc)
      show sumTo h N + h N = _
      rw [h1, hz N (by omega) (Or.inr (by omega))]
      omega
/-- the sum on the line c of the direction -/
def Lf (F : Nat → Nat → Int) (n k : Nat) (dx dy c : Int) : Int := sumTo (fun y => sumTo (fun x => if dx * y - dy * x = c then F y x else 0) k) n
theorem Lf_congr {F G : Nat → Nat → Int} {n k : Nat} {dx dy c : Int} (h : ∀ y x, y < n → x < k → F y x = G y x) : Lf F n k dx dy c = Lf G n k dx dy c := by
  unfold Lf
  exact sumTo_congr fun y hy => sumTo_congr fun x hx => by rw [h y x hy hx]
theorem Lf_sub {F G : Nat → Nat → Int} {n k : Nat} {dx dy c : Int} : Lf (fun y x => F y x - G y x) n k dx dy c = Lf F n k dx dy c - Lf G n k dx dy c := by
  unfold Lf
  rw [← sumTo_sub]
  refine sumTo_congr fun y _ => ?_
  rw [← sumTo_sub]
  refine sumTo_congr fun x _ => ?_
  dsimp only
  split <;> omega
theorem Lf_add {F G : Nat → Nat → Int} {n k : Nat} {dx dy c : Int} : Lf (fun y x => F y x + G y x) n k dx dy c = Lf F n k dx dy c + Lf G n k dx dy c := by
  unfold Lf
  rw [← sumTo_add]
  refine sumTo_congr fun y _ => ?_
  rw [← sumTo_add]
  refine sumTo_congr fun x _ => ?_
  dsimp only
  split <;> omega
theorem shift_line (dx dy c : Int) (o e y x : Nat) : (dx * ((o + y : Nat) : Int) - dy * ((e + x : Nat) : Int) = c) ↔ (dx * (y : Int) - dy * (x : Int) = c - (dx * o - dy * e)) := by
  rw [Int.natCast_add, Int.natCast_add, Int.mul_add, Int.mul_add]
  omega
theorem Lf_shift (g : Grid) (n k o e N K : Nat) (dx dy c : Int) (hN : o + n ≤ N) (hK : e + k ≤ K) : Lf (shT g k o e n 0) N K dx dy c = Lf (at2 g) n k dx dy (c - (dx * o - dy * e)) := by
  unfold Lf
  rw [sumTo_window N _ o n hN (fun i _ hc => sumTo_nil fun l _ => by
    rw [show shT g k o e n 0 i l = 0 by unfold shT; exact if_neg (by omega)]
    split <;> rfl)]
  refine sumTo_congr fun y hy => ?_
  rw [sumTo_window K _ e k hK (fun l _ hc => by
    rw [show shT g k o e n 0 (o + y) l = 0 by unfold shT; exact if_neg (by omega)]
    split <;> rfl)]
  refine sumTo_congr fun x hx => ?_
  have h1 : shT g k o e n 0 (o + y) (e + x) = at2 g y x := by
    unfold shT
    rw [if_pos (by omega), show o + y - o = y by omega, show e + x - e = x by omega]
  rw [h1]
  simp only [shift_line]
theorem Lf_minus (g : Grid) (n k : Nat) (px py dx dy c : Int) : Lf (at2 (minusI g n k px py)) (n + ((-py).toNat + py.toNat)) (k + px.toNat) dx dy c =
    Lf (at2 g) n k dx dy (c - (dx * ((-py).toNat : Nat) - dy * ((0 : Nat) : Int))) - Lf (at2 g) n k dx dy (c - (dx * (py.toNat : Nat) - dy * (px.toNat : Nat))) := by
  rw [← Lf_shift g n k (-py).toNat 0 (n + ((-py).toNat + py.toNat)) (k + px.toNat) dx dy c (by omega) (by omega), ← Lf_shift g n k py.toNat px.toNat (n + ((-py).toNat + py.toNat)) (k + px.toNat) dx dy c (by omega) (by omega), ← Lf_sub]
  exact Lf_congr fun y x hy hx => gridOf'_at _ _ _ hy hx
theorem bgAt_sums {ds : List (Int × Int)} (hd : dirsOk ds = true) : ∀ (j n k : Nat), j ≤ ds.length → BgAt ds j n k → ∀ (i : Nat) (x y c : Int), i < j → ds[i]? = some (x, y) → Lf (at2 (bgAt ds j)) n k x y c = 0 := by
  intro j
  induction j with
  | zero => intro n k _ _ i _ _ _ hi; omega
  | succ j ih =>
    intro n k hj hb i x y c hi hxy
    obtain ⟨⟨px, py⟩, hp⟩ : ∃ d, ds[j]'(by omega) = d := ⟨_, rfl⟩
    have he : ds[j]? = some (px, py) := by rw [List.getElem?_eq_getElem (by omega), hp]
    obtain ⟨n0, k0, h0⟩ := bgAt_all hd j (by omega)
    obtain ⟨hx, hy⟩ := dirsOk_at hd he
    have h1 := h0.succ he hx hy (by have := (dirsOk_len hd).2; omega)
    have e1 := hb.r
    have e2 := h1.r
    have e3 := hb.c
    have e4 := h1.c
    have en : n = n0 + ((-py).toNat + py.toNat) := by omega
    have ek : k = k0 + px.toNat := by omega
    subst en ek
    rw [bgAt_succ h0 he, Lf_minus]
    rcases Nat.lt_or_ge i j with hij | hij
    · rw [ih n0 k0 (by omega) h0 i x y _ hij hxy, ih n0 k0 (by omega) h0 i x y _ hij hxy]
      rfl
    · have hi' : i = j := by omega
      subst hi'
      rw [he] at hxy
      cases hxy
      have : x * (((-y).toNat : Nat) : Int) - y * ((0 : Nat) : Int) = x * ((y.toNat : Nat) : Int) - y * ((x.toNat : Nat) : Int) := by
        rw [Int.toNat_of_nonneg hx.1]
        rcases Int.le_total 0 y with h | h
        · have a1 : (-y).toNat = 0 := by omega
          rw [a1, Int.toNat_of_nonneg h, Int.mul_comm x y]; simp
        · have a1 : y.toNat = 0 := by omega
          have a2 : (((-y).toNat : Nat) : Int) = -y := by omega
          rw [a1, a2, Int.mul_neg, Int.mul_comm x y]; simp
      rw [this]
      omega
theorem zeroL_iff {l : List Int} : zeroL l = true ↔ ∀ x ∈ l, x = 0 := by
  unfold zeroL allIn
  rw [List.all_eq_true]
  constructor
  · intro h x hx
    have := inR_iff.1 (h x hx)
    omega
  · intro h x hx
    rw [h x hx]; decide
theorem lsI_at (g : Grid) (n k : Nat) (dx dy : Int) : lsI g n k dx dy = (List.range (countN n k dx dy).toNat).map fun j : Nat => Lf (at2 g) n k dx dy ((j : Int) - max 0 (dy * ((k : Int) - 1))) := by
  unfold lsI
  refine List.map_congr_left fun j _ => ?_
  rw [sum2_eq]
  unfold Lf
  refine sumTo_congr fun y _ => sumTo_congr fun x _ => ?_
  unfold onLine lineNo
  by_cases h : dx * (y : Int) - dy * (x : Int) + max 0 (dy * ((k : Int) - 1)) = (j : Int)
  · rw [if_pos h, if_pos (by omega)]
  · rw [if_neg h, if_neg (by omega)]
theorem Lf_of_ls {x m : Grid} {n k : Nat} {dx dy : Int} (hd : dirOk dx dy = true) (hn : 1 ≤ n ∧ n ≤ 5) (hk : 1 ≤ k ∧ k ≤ 5) (h : lsI x n k dx dy = lsI m n k dx dy) (c : Int) : Lf (at2 x) n k dx dy c = Lf (at2 m) n k dx dy c := by
  obtain ⟨d1, d2⟩ := dir_bd hd
  rw [lsI_at, lsI_at] at h
  by_cases hj : 0 ≤ c + max 0 (dy * ((k : Int) - 1)) ∧ c + max 0 (dy * ((k : Int) - 1)) < countN n k dx dy
  · obtain ⟨j, hjj⟩ : ∃ j, (c + max 0 (dy * ((k : Int) - 1))).toNat = j := ⟨_, rfl⟩
    have h2 := congrArg (fun l => l[j]?) h
    rw [List.getElem?_map, List.getElem?_map, List.getElem?_range (by omega)] at h2
    have h4 : Lf (at2 x) n k dx dy ((j : Int) - max 0 (dy * ((k : Int) - 1))) = Lf (at2 m) n k dx dy ((j : Int) - max 0 (dy * ((k : Int) - 1))) := Option.some.inj h2
    rw [show (j : Int) - max 0 (dy * ((k : Int) - 1)) = c by omega] at h4
    exact h4
  · have hz : ∀ g : Grid, Lf (at2 g) n k dx dy c = 0 := fun g => by
      unfold Lf
      refine sumTo_nil fun y hy => sumTo_nil fun x hx => ?_
      rw [if_neg]
      intro he
      have hb := lineNo_bd (n := n) (k := k) (y := y) (x := x) d1 d2 (by omega) (by omega) (by omega) (by omega)
      have hl : lineNo k dx dy y x = dx * (y : Int) - dy * (x : Int) + max 0 (dy * ((k : Int) - 1)) := rfl
      rw [hl, he] at hb
      exact hj ⟨hb.1, hb.2.1⟩
    rw [hz, hz]
theorem Lf_zero {g : Grid} {n k : Nat} {dx dy : Int} (h : ∀ c, Lf (at2 g) n k dx dy c = 0) : zeroL (lsI g n k dx dy) = true := by
  rw [zeroL_iff, lsI_at]
  intro x hx
  obtain ⟨j, _, rfl⟩ := List.mem_map.1 hx
  exact h _
theorem bgAt_corner {ds : List (Int × Int)} (hd : dirsOk ds = true) : ∀ (j n k : Nat), j ≤ ds.length → BgAt ds j n k → ∃ r, r < n ∧ at2 (bgAt ds j) r 0 = 1 ∧ ∀ i, i < r → at2 (bgAt ds j) i 0 = 0 := by
  intro j
  induction j with
  | zero =>
    intro n k _ hb
    have e1 := hb.r
    have e2 := (BgAt.zero ds).r
    exact ⟨0, by omega, rfl, fun i hi => by omega⟩
  | succ j ih =>
    intro n k hj hb
    obtain ⟨⟨px, py⟩, hp⟩ : ∃ d, ds[j]'(by omega) = d := ⟨_, rfl⟩
    have he : ds[j]? = some (px, py) := by rw [List.getElem?_eq_getElem (by omega), hp]
    obtain ⟨n0, k0, h0⟩ := bgAt_all hd j (by omega)
    obtain ⟨hx, hy⟩ := dirsOk_at hd he
    have hdo := dirsOk_dir hd he
    have h1 := h0.succ he hx hy (by have := (dirsOk_len hd).2; omega)
    have e1 := hb.r
    have e2 := h1.r
    have e3 := hb.c
    have e4 := h1.c
    have en : n = n0 + ((-py).toNat + py.toNat) := by omega
    have ek : k = k0 + px.toNat := by omega
    subst en ek
    have hk0 := h0.k1
    obtain ⟨r, hr, hr1, hr0⟩ := ih n0 k0 (by omega) h0
    have hz : px = 0 → 0 < py := fun hz => by
      subst hz
      rcases (show py = -3 ∨ py = -2 ∨ py = -1 ∨ py = 0 ∨ py = 1 ∨ py = 2 ∨ py = 3 by omega) with rfl | rfl | rfl | rfl | rfl | rfl | rfl <;> first | omega | exact absurd hdo (by decide)
    rw [bgAt_succ h0 he]
    refine ⟨(-py).toNat + r, by omega, ?_, fun i hi => ?_⟩
    · unfold minusI
      rw [gridOf'_at _ _ _ (by omega) (by omega)]
      unfold minusF shT
      have a2 : (if py.toNat ≤ (-py).toNat + r ∧ px.toNat ≤ 0 ∧ (((-py).toNat + r - py.toNat < n0 ∧ 0 - px.toNat < k0) ∨ ((-py).toNat + r - py.toNat = n0 ∧ 0 - px.toNat < 0)) then at2 (bgAt ds j) ((-py).toNat + r - py.toNat) (0 - px.toNat) else 0) = 0 := by
        split
        · rw [show 0 - px.toNat = 0 by omega]
          exact hr0 _ (by omega)
        · rfl
      rw [a2, if_pos (by omega), show (-py).toNat + r - (-py).toNat = r by omega]
      rw [show (0 : Nat) - 0 = 0 from rfl, hr1]; rfl
    · unfold minusI
      rw [gridOf'_at _ _ _ (by omega) (by omega)]
      unfold minusF shT
      have a1 : (if (-py).toNat ≤ i ∧ 0 ≤ 0 ∧ ((i - (-py).toNat < n0 ∧ 0 - 0 < k0) ∨ (i - (-py).toNat = n0 ∧ 0 - 0 < 0)) then at2 (bgAt ds j) (i - (-py).toNat) (0 - 0) else 0) = 0 := by
        split
        · exact hr0 _ (by omega)
        · rfl
      have a2 : (if py.toNat ≤ i ∧ px.toNat ≤ 0 ∧ ((i - py.toNat < n0 ∧ 0 - px.toNat < k0) ∨ (i - py.toNat = n0 ∧ 0 - px.toNat < 0)) then at2 (bgAt ds j) (i - py.toNat) (0 - px.toNat) else 0) = 0 := by
        split
        · rw [show 0 - px.toNat = 0 by omega]
          exact hr0 _ (by omega)
        · rfl
      rw [a1, a2]; rfl
theorem shape_headD {q : Grid} {n k : Nat} (h : Shape q n k) (hn : 1 ≤ n) : (q.headD []).length = k := by
  cases q with
  | nil => have h0 := h.1; rw [List.length_nil] at h0; omega
  | cons r l => exact h.2 r List.mem_cons_self
/-- the basic ghost: its size, no sum on any line, not zero -/
theorem bgI_ghost {ds : List (Int × Int)} (h : bgOk ds = true) : ∃ n k, BgAt ds ds.length n k ∧ (n ≤ 5 ∧ k ≤ 5) ∧ (n : Int) = (ghSize ds).1 ∧ (k : Int) = (ghSize ds).2 ∧ bgRes ds = bgAt ds ds.length := by
  have hd := bgOk_dirs h
  obtain ⟨n, k, hb⟩ := bgAt_all hd ds.length (Nat.le_refl _)
  have e1 := hb.r
  have e2 := hb.c
  have hs : ghSize ds = (ghR ds ds.length, ghC ds ds.length) := by unfold ghSize; rw [if_pos hd]
  have h2 := h
  unfold bgOk at h2
  rw [Bool.and_eq_true, inR_iff, inR_iff, hs] at h2
  dsimp only at h2
  refine ⟨n, k, hb, by omega, by rw [hs]; exact e1, by rw [hs]; exact e2, ?_⟩
  unfold bgRes
  rw [if_pos h]; rfl
theorem bgI_ok {ds : List (Int × Int)} (h : bgOk ds = true) : gridOk (bgRes ds) (-100) 100 = true ∧ ghostB (bgRes ds) ds = true := by
  have hd := bgOk_dirs h
  obtain ⟨n, k, hb, ⟨hn, hk⟩, _, _, e⟩ := bgI_ghost h
  have n1 := hb.n1
  have k1 := hb.k1
  have hp := pw_bd (dirsOk_len hd).2
  have hl : (bgAt ds ds.length).length = n := hb.s.1
  have hh := shape_headD hb.s n1.1
  have hg : gridOk (bgAt ds ds.length) (-100) 100 = true := by
    refine gridOk_iff.2 ⟨by omega, fun r hr => ?_⟩
    have hrl := hb.s.2 r hr
    refine ⟨by rw [hh, hrl], by omega, ?_⟩
    unfold allIn
    rw [List.all_eq_true]
    intro x hx
    obtain ⟨y, hy, rfl⟩ := List.mem_iff_getElem.1 hr
    obtain ⟨i, hi, rfl⟩ := List.mem_iff_getElem.1 hx
    have hb2 := hb.b y i (by omega) (by omega)
    have he : at2 (bgAt ds ds.length) y i = (bgAt ds ds.length)[y][i] := at2_of (List.getElem?_eq_getElem hy) (List.getElem?_eq_getElem hi)
    rw [he] at hb2
    exact inR_iff.2 (by omega)
  rw [e]
  refine ⟨hg, ?_⟩
  unfold ghostB
  rw [hd, hg, Bool.true_and, Bool.true_and, Bool.and_eq_true]
  constructor
  · rw [List.all_eq_true]
    intro d hdm
    obtain ⟨i, hi, rfl⟩ := List.mem_iff_getElem.1 hdm
    have he : ds[i]? = some (ds[i].1, ds[i].2) := List.getElem?_eq_getElem hi
    unfold gsI
    rw [if_pos ⟨hg, dirsOk_dir hd he⟩, hl, hh]
    exact Lf_zero fun c => bgAt_sums hd ds.length n k (Nat.le_refl _) hb i _ _ c hi he
  · obtain ⟨r, hr, hr1, _⟩ := bgAt_corner hd ds.length n k (Nat.le_refl _) hb
    rw [List.any_eq_true]
    have hrl : r < (bgAt ds ds.length).length := by omega
    refine ⟨(bgAt ds ds.length)[r], List.getElem_mem hrl, ?_⟩
    cases hz : zeroL (bgAt ds ds.length)[r]
    · rfl
    · exfalso
      have hw := hb.s.2 _ (List.getElem_mem hrl)
      have h0 : (bgAt ds ds.length)[r][0]'(by omega) = 1 := by
        rw [← at2_of (List.getElem?_eq_getElem hrl) (List.getElem?_eq_getElem (by omega))]; exact hr1
      have := zeroL_iff.1 hz _ (List.getElem_mem (by omega : 0 < (bgAt ds ds.length)[r].length))
      omega
/-- with the ghost added, an image keeps its sums and is another -/
theorem add_ghost {ds : List (Int × Int)} {m : Grid} (h : bgOk ds = true) (hm : gridOk m 0 1 = true) (h1 : (m.length : Int) = (ghSize ds).1) (h2 : ((m.headD []).length : Int) = (ghSize ds).2) (ha : addOk m (bgRes ds) 0 0 = true) :
    gridOk (addI m (bgRes ds) 0 0) 0 1 = true ∧ (addI m (bgRes ds) 0 0).length = m.length ∧ addI m (bgRes ds) 0 0 ≠ m ∧ ∀ d ∈ ds, gsI (addI m (bgRes ds) 0 0) d.1 d.2 = gsI m d.1 d.2 := by
  have hd := bgOk_dirs h
  obtain ⟨n, k, hb, ⟨hn, hk⟩, e1, e2, e⟩ := bgI_ghost h
  have n1 := hb.n1
  have k1 := hb.k1
  have en : m.length = n := by omega
  have ek : (m.headD []).length = k := by omega
  have hl : (bgAt ds ds.length).length = n := hb.s.1
  have hh := shape_headD hb.s n1.1
  have hx : addI m (bgRes ds) 0 0 = sumG m (bgAt ds ds.length) 0 0 := by unfold addI; rw [if_pos ha, e]; rfl
  have hxo : gridOk (sumG m (bgAt ds ds.length) 0 0) 0 1 = true := by
    rw [e] at ha
    unfold addOk at ha
    rw [Bool.and_eq_true] at ha
    exact ha.2
  have hsh : Shape (sumG m (bgAt ds ds.length) 0 0) n k := by unfold sumG; rw [en, ek]; exact gridF_shape n k _
  have hat : ∀ y x, y < n → x < k → at2 (sumG m (bgAt ds ds.length) 0 0) y x = at2 m y x + at2 (bgAt ds ds.length) y x := fun y x hy hx => by
    unfold sumG
    rw [en, ek, gridF_at n k _ hy hx]
    unfold addF
    rw [hh, hl, if_pos (by omega), Nat.sub_zero, Nat.sub_zero]
  rw [hx]
  refine ⟨hxo, by rw [hsh.1, en], fun heq => ?_, fun d hdm => ?_⟩
  · obtain ⟨r, hr, hr1, _⟩ := bgAt_corner hd ds.length n k (Nat.le_refl _) hb
    have := hat r 0 hr (by omega)
    rw [heq, hr1] at this
    omega
  · obtain ⟨i, hi, rfl⟩ := List.mem_iff_getElem.1 hdm
    have he : ds[i]? = some (ds[i].1, ds[i].2) := List.getElem?_eq_getElem hi
    have hdo := dirsOk_dir hd he
    unfold gsI
    rw [if_pos ⟨bits_wide hxo, hdo⟩, if_pos ⟨bits_wide hm, hdo⟩, hsh.1, shape_headD hsh n1.1, en, ek, lsI_at, lsI_at]
    refine List.map_congr_left fun j _ => ?_
    rw [Lf_congr hat, Lf_add, bgAt_sums hd ds.length n k (Nat.le_refl _) hb i _ _ _ hi he]
    omega
end Go.Proofs.Ytiekgdgonleoaaa
