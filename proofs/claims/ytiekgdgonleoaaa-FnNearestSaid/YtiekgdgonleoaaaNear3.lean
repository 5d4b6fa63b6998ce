/- The nearest image: the plain law. -/
import Derived.Test.YtiekgdgonleoaaaNear2
import Derived.Test.YtiekgdgonleoaaaSelf
namespace Go.Proofs.Ytiekgdgonleoaaa
open Go.RowKit Tomo

theorem foldl_ge (f : Grid → Int) : ∀ (gs : List Grid) (b : Grid), f b ≤ f (gs.foldl (fun b m => if f b < f m then m else b) b) ∧ ∀ g ∈ gs, f g ≤ f (gs.foldl (fun b m => if f b < f m then m else b) b) := by
  intro gs
  induction gs with
  | nil => intro b; exact ⟨Int.le_refl _, fun g hg => by cases hg⟩
  | cons a gs ih =>
    intro b
    rw [List.foldl_cons]
    by_cases h : f b < f a
    · rw [if_pos h]
      obtain ⟨h1, h2⟩ := ih a
      refine ⟨by omega, fun g hg => ?_⟩
      rcases List.mem_cons.1 hg with rfl | hg
      · exact h1
      · exact h2 g hg
    · rw [if_neg h]
      obtain ⟨h1, h2⟩ := ih b
      refine ⟨h1, fun g hg => ?_⟩
      rcases List.mem_cons.1 hg with rfl | hg
      · omega
      · exact h2 g hg
theorem bestI_ge (f : Grid → Int) {gs : List Grid} {g : Grid} (h : g ∈ gs) : f g ≤ f (bestI f gs) := by
  cases gs with
  | nil => cases h
  | cons a gs =>
    show f g ≤ f (gs.foldl _ a)
    obtain ⟨h1, h2⟩ := foldl_ge f gs a
    rcases List.mem_cons.1 h with rfl | h
    · exact h1
    · exact h2 g h
theorem distR_self (a : List Int) : ∀ j, distR a a j = 0
  | 0 => rfl
  | j + 1 => by unfold distR; rw [distR_self a j, if_pos rfl]
theorem distG_self (a : Grid) (k : Nat) : ∀ i, distG a a k i = 0
  | 0 => rfl
  | i + 1 => by unfold distG; rw [distG_self a k i, distR_self]
theorem distR_zero (a b : List Int) : ∀ j, distR a b j = 0 → ∀ i, i < j → a[i]? = b[i]?
  | 0, _, i, hi => by omega
  | j + 1, h, i, hi => by
    unfold distR at h
    by_cases he : a[j]? = b[j]?
    · rw [if_pos he] at h
      rcases Nat.lt_or_ge i j with h1 | h1
      · exact distR_zero a b j (by omega) i h1
      · rw [show i = j by omega]; exact he
    · rw [if_neg he] at h; omega
theorem distG_zero (a b : Grid) (k : Nat) : ∀ i, distG a b k i = 0 → ∀ y, y < i → distR (a[y]?.getD []) (b[y]?.getD []) k = 0
  | 0, _, y, hy => by omega
  | i + 1, h, y, hy => by
    unfold distG at h
    rcases Nat.lt_or_ge y i with h1 | h1
    · exact distG_zero a b k i (by omega) y h1
    · rw [show y = i by omega]; omega
theorem dist_eq {a b : Grid} {n k : Nat} (ha : Img a n k) (hb : Img b n k) (h : dist a b = 0) : a = b := by
  rw [dist_img ha] at h
  have h0 : distG a b k n = 0 := by omega
  refine grid_ext ha.1 hb.1 fun i l hi hl => ?_
  have h1 := distR_zero _ _ k (distG_zero a b k n h0 i hi) l hl
  unfold at2
  rw [h1]
theorem allI_eq {rows cols : List Int} {g : Grid} (h : g ∈ allI rows cols) : rsI g = rows ∧ csI g = cols := by
  have hi := allI_img h
  have hm := (mem_imgs rows cols g).1 (allI_sums h).2
  have hok := hi.ok
  constructor
  · unfold rsI; rw [if_pos hok]; exact hm.2.1
  · unfold csI; rw [if_pos hok, tr_sums hi]; exact hm.2.2
/-- what the law asks of the nearest image -/
theorem near_law {m p q : Grid} {n k : Nat} (hm : gridOk m 0 1 = true) (him : Img m n k) (hp : Img p n k) (hq : gridOk q 0 1 = true) (hr : rsI q = rsI m) (hc : csI q = csI m) :
    nearOk p (rsI m) (csI m) = true ∧ Img (nearI p (rsI m) (csI m)) n k ∧ rsI (nearI p (rsI m) (csI m)) = rsI m ∧ csI (nearI p (rsI m) (csI m)) = csI m ∧ dist (nearI p (rsI m) (csI m)) p = nearD p (rsI m) (csI m) ∧ nearD p (rsI m) (csI m) ≤ dist m p ∧ nearD p (rsI m) (csI m) ≤ dist q p := by
  have hs := img_self hm
  have hsq : q ∈ allI (rsI m) (csI m) := by rw [← hr, ← hc]; exact img_self hq
  have hne : allI (rsI m) (csI m) ≠ [] := fun e => by rw [e] at hs; cases hs
  have hi0 := allI_img hs
  have e1 : (rsI m).length = n := hi0.1.1.symm.trans him.1.1
  have e2 : (csI m).length = k := hi0.head.symm.trans him.head
  have hok : nearOk p (rsI m) (csI m) = true := by unfold nearOk; rw [exI_of hne, e1, e2, sameSz_img hp]; rfl
  have hI : nearI p (rsI m) (csI m) = nearB p (allI (rsI m) (csI m)) := by unfold nearI; rw [if_pos hok]
  have hD : nearD p (rsI m) (csI m) = dist (nearB p (allI (rsI m) (csI m))) p := by unfold nearD; rw [if_pos hok]
  have hmem : nearB p (allI (rsI m) (csI m)) ∈ allI (rsI m) (csI m) := bestI_mem _ _ hne
  have hx := allI_img hmem
  rw [e1, e2] at hx
  obtain ⟨x1, x2⟩ := allI_eq hmem
  have g1 := bestI_ge (fun m => - dist m p) hs
  have g2 := bestI_ge (fun m => - dist m p) hsq
  rw [hI, hD]
  exact ⟨hok, hx, x1, x2, rfl, by unfold nearB; omega, by unfold nearB; omega⟩
theorem near_self {m : Grid} {n k : Nat} (hm : gridOk m 0 1 = true) (him : Img m n k) : nearD m (rsI m) (csI m) = 0 ∧ nearI m (rsI m) (csI m) = m := by
  obtain ⟨h1, h2, h3, h4, h5, h6, _⟩ := near_law hm him him hm rfl rfl
  have hz : dist m m = 0 := by rw [dist_img him, distG_self]; rfl
  have hn := dist_nonneg h2 (b := m)
  have h0 : nearD m (rsI m) (csI m) = 0 := by omega
  exact ⟨h0, dist_eq h2 him (by omega)⟩
end Go.Proofs.Ytiekgdgonleoaaa
