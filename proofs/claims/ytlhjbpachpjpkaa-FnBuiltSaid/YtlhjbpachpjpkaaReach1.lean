/- Which cells are fixed: the plain law of the reference's search. -/
import Derived.Test.YtlhjbpachpjpkaaFixed
import Derived.Test.YtlhjbpachpjpkaaSelf
import Derived.Test.YtlhjbpachpjpkaaTomA
namespace Go.Proofs.Ytlhjbpachpjpkaa
open Go.RowKit Tomo

/-- a step of the reference's search: from a row to the columns of its black cells, from a column to the rows of its white ones -/
def REdge (n k : Nat) (M : Nat → Nat → Bool) (v w : Nat) : Prop := (v < n ∧ n ≤ w ∧ w < n + k ∧ M v (w - n) = true) ∨ (w < n ∧ n ≤ v ∧ v < n + k ∧ M w (v - n) = false)
inductive Rch (n k : Nat) (M : Nat → Nat → Bool) (s : Nat) : Nat → Prop
  | refl : Rch n k M s s
  | step (v w : Nat) : Rch n k M s v → REdge n k M v w → Rch n k M s w
theorem Rch.path {n k : Nat} {M : Nat → Nat → Bool} {s v : Nat} (h : Rch n k M s v) : ∃ (p : Nat → Nat) (l : Nat), Path n k (fun _ _ _ => true) M p l ∧ p 0 = v ∧ p l = s := by
  induction h with
  | refl => exact ⟨fun _ => s, 0, fun i hi => by omega, rfl, rfl⟩
  | step v w _ he ih =>
    obtain ⟨p, l, hp, h0, hl⟩ := ih
    refine ⟨fun i => match i with | 0 => w | i + 1 => p i, l + 1, fun i hi => ?_, rfl, hl⟩
    cases i with
    | zero =>
      show Arc n k _ M w (p 0)
      rw [h0]
      rcases he with ⟨h1, h2, h3, h4⟩ | ⟨h1, h2, h3, h4⟩
      · exact .inr ⟨h1, h2, h3, h4, rfl⟩
      · exact .inl ⟨h1, h2, h3, h4, rfl⟩
    | succ i => exact hp i (by omega)

theorem cellB_at2 (m : Grid) (y x : Nat) : cellB m y x = (at2 m y x == 1) := by
  unfold cellB at2
  rw [List.getD_eq_getElem?_getD, List.getD_eq_getElem?_getD]
theorem at2_bit {m : Grid} {n k : Nat} (h : Img m n k) {y x : Nat} (hy : y < n) (hx : x < k) : at2 m y x = 0 ∨ at2 m y x = 1 := by
  obtain ⟨r, c, h1, _, h3, h4⟩ := h.cell hy hx
  rw [at2_of h1 h3]; exact h4
theorem cell_same {m g : Grid} {n k : Nat} (h : Img m n k) (h' : Img g n k) {y x : Nat} (hy : y < n) (hx : x < k) : cellB g y x = cellB m y x ↔ at2 g y x = at2 m y x := by
  rw [cellB_at2, cellB_at2]
  rcases at2_bit h hy hx with e | e <;> rcases at2_bit h' hy hx with e' | e' <;> rw [e, e'] <;> simp
theorem rs_len2 {m : Grid} (h : gridOk m 0 1 = true) : (rsI m).length = m.length ∧ (csI m).length = (m.headD []).length := by
  unfold rsI csI
  rw [if_pos h, if_pos h, List.length_map, List.length_map]
  exact ⟨rfl, (tr_shape m).1⟩
theorem self_imgs {m : Grid} (h : gridOk m 0 1 = true) : allI (rsI m) (csI m) = imgs (rsI m) (csI m) ∧ m ∈ imgs (rsI m) (csI m) := by
  obtain ⟨hs, hm⟩ := allI_sums (img_self h)
  exact ⟨by unfold allI; rw [if_pos hs], hm⟩
theorem sums_alike {rows cols : List Int} {m g : Grid} (h : m ∈ imgs rows cols) (h' : g ∈ imgs rows cols) : SameSums rows.length cols.length (cellB m) (cellB g) := by
  obtain ⟨a1, a2⟩ := imgs_sums h
  obtain ⟨b1, b2⟩ := imgs_sums h'
  exact ⟨fun y hy => (b1 y hy).trans (a1 y hy).symm, fun x hx => (b2 x hx).trans (a2 x hx).symm⟩

theorem reach_fix {m : Grid} (h : gridOk m 0 1 = true) {n k : Nat} (hn : m.length = n) (hk : (m.headD []).length = k) (T : Nat → Bool) (a b : Nat) (ha : a < n) (hb : b < k)
    (hfrom : T (if cellB m a b = true then n + b else a) = true) (hsound : ∀ v, v < n + k → T v = true → Rch n k (cellB m) (if cellB m a b = true then n + b else a) v)
    (hclosed : ∀ v w, v < n + k → w < n + k → T v = true → REdge n k (cellB m) v w → T w = true) :
    (T (if cellB m a b = true then a else n + b) = false) ↔ ∀ g ∈ allI (rsI m) (csI m), at2 g a b = at2 m a b := by
  obtain ⟨e0, hm⟩ := self_imgs h
  have e1 := rs_len2 h
  rw [hn, hk] at e1
  have himg : ∀ g ∈ allI (rsI m) (csI m), Img g n k := fun g hg => by have := allI_img hg; rw [e1.1, e1.2] at this; exact this
  have hmi := himg m (img_self h)
  constructor
  · intro hT g hg
    have hg' := hg
    rw [e0] at hg'
    have hss := sums_alike hm hg'
    rw [e1.1, e1.2] at hss
    refine (cell_same hmi (himg g hg) ha hb).1 ?_
    refine cell_stays n k (cellB m) (cellB g) hss (fun v => !T v) (fun y x hy hx => ⟨fun h1 h2 => ?_, fun h1 h2 => ?_⟩) a b ha hb ?_ ?_
    · cases e : T (n + x)
      · rfl
      · have := hclosed (n + x) y (by omega) (by omega) e (.inr ⟨hy, by omega, by omega, by rw [Nat.add_sub_cancel_left]; exact h2⟩)
        rw [this] at h1; cases h1
    · cases e : T y
      · rfl
      · have := hclosed y (n + x) (by omega) (by omega) e (.inl ⟨hy, by omega, by omega, by rw [Nat.add_sub_cancel_left]; exact h2⟩)
        rw [this] at h1; cases h1
    · by_cases hc : cellB m a b = true
      · rw [if_pos hc] at hT hfrom
        show (!T a) ≠ (!T (n + b))
        rw [hT, hfrom]; simp
      · rw [if_neg hc] at hT hfrom
        show (!T a) ≠ (!T (n + b))
        rw [hT, hfrom]; simp
    · by_cases hc : cellB m a b = true
      · rw [if_pos hc] at hT
        rw [if_pos hc]
        show (!T a) = true
        rw [hT]; rfl
      · rw [if_neg hc] at hT
        rw [if_neg hc]
        show (!T (n + b)) = true
        rw [hT]; rfl
  · intro hall
    cases hT : T (if cellB m a b = true then a else n + b)
    · rfl
    · exfalso
      obtain ⟨p, l, hp, h0, hl⟩ := (hsound _ (by split <;> omega) hT).path
      obtain ⟨m', hs, hd⟩ := turn_cell n k (cellB m) a b ha hb p l hp h0 hl
      have hmem : toGrid (rsI m).length (csI m).length m' ∈ imgs (rsI m) (csI m) := by
        obtain ⟨a1, a2⟩ := imgs_sums hm
        refine toGrid_mem m' (fun y hy => ?_) (fun x hx => ?_)
        · rw [← a1 y hy, e1.2]
          exact hs.1 y (by rw [← e1.1]; exact hy)
        · rw [← a2 x hx, e1.1]
          exact hs.2 x (by rw [← e1.2]; exact hx)
      have hg := hmem
      rw [← e0] at hg
      have h1 := (cell_same hmi (himg _ hg) ha hb).2 (hall _ hg)
      rw [toGrid_at _ _ _ _ _ (by rw [e1.1]; exact ha) (by rw [e1.2]; exact hb), hd] at h1
      cases hh : cellB m a b <;> rw [hh] at h1 <;> cases h1

theorem fold_same (i l : Nat) : ∀ (gs : List Grid) (o : Int), 0 ≤ o → (∀ g ∈ gs, 0 ≤ at2 g i l) → (0 ≤ gs.foldl (fun o g => mrg o (at2 g i l)) o ↔ ∀ g ∈ gs, at2 g i l = o)
  | [], o, h, _ => by simp; exact h
  | g :: gs, o, h, hg => by
    rw [List.foldl_cons]
    by_cases he : o = at2 g i l
    · have e : mrg o (at2 g i l) = o := by unfold mrg; rw [if_pos he]
      rw [e, fold_same i l gs o h (fun g hg' => hg g (List.mem_cons_of_mem _ hg'))]
      constructor
      · intro h1 q hq
        rcases List.mem_cons.1 hq with rfl | hq
        · exact he.symm
        · exact h1 q hq
      · intro h1 q hq; exact h1 q (List.mem_cons_of_mem _ hq)
    · have e : mrg o (at2 g i l) = -1 := by unfold mrg; rw [if_neg he]
      rw [e]
      have h1 : gs.foldl (fun o g => mrg o (at2 g i l)) (-1) = -1 := by
        have : ∀ (gs : List Grid) (o : Int), (∀ g ∈ gs, 0 ≤ at2 g i l) → o = -1 → gs.foldl (fun o g => mrg o (at2 g i l)) o = -1 := by
          intro gs
          induction gs with
          | nil => intro o _ h; exact h
          | cons q gs ih =>
            intro o h ho
            rw [List.foldl_cons]
            refine ih _ (fun g hg => h g (List.mem_cons_of_mem _ hg)) ?_
            unfold mrg
            by_cases he2 : o = at2 q i l
            · rw [if_pos he2]; exact ho
            · rw [if_neg he2]
        exact this gs (-1) (fun g hg' => hg g (List.mem_cons_of_mem _ hg')) rfl
      rw [h1]
      constructor
      · intro h2; omega
      · intro h2; exact absurd (h2 g List.mem_cons_self).symm he
/-- a cell is fixed where all images have it alike -/
def fixB (gs : List Grid) (a b : Nat) : Bool := decide (0 ≤ fixF gs a b)
theorem fixB_iff {m : Grid} (h : gridOk m 0 1 = true) {n k : Nat} (hn : m.length = n) (hk : (m.headD []).length = k) {a b : Nat} (ha : a < n) (hb : b < k) : fixB (allI (rsI m) (csI m)) a b = true ↔ ∀ g ∈ allI (rsI m) (csI m), at2 g a b = at2 m a b := by
  have e1 := rs_len2 h
  rw [hn, hk] at e1
  have himg : ∀ g ∈ allI (rsI m) (csI m), Img g n k := fun g hg => by have := allI_img hg; rw [e1.1, e1.2] at this; exact this
  have hmem := img_self h
  unfold fixB fixF
  rw [decide_eq_true_eq]
  cases hg : allI (rsI m) (csI m) with
  | nil => rw [hg] at hmem; cases hmem
  | cons g0 gs =>
    rw [hg] at himg hmem
    have hpos : ∀ g ∈ g0 :: gs, 0 ≤ at2 g a b := fun g hg' => by rcases at2_bit (himg g hg') ha hb with e | e <;> omega
    show 0 ≤ List.foldl (fun o g => mrg o (at2 g a b)) (at2 g0 a b) (g0 :: gs) ↔ _
    rw [fold_same a b (g0 :: gs) _ (hpos g0 List.mem_cons_self) hpos]
    constructor
    · intro h1 g hg'; rw [h1 g hg', h1 m hmem]
    · intro h1 g hg'; rw [h1 g hg']; exact (h1 g0 List.mem_cons_self).symm
end Go.Proofs.Ytlhjbpachpjpkaa
