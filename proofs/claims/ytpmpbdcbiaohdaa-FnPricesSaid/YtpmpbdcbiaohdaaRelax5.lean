/- What the law FnPrices asks. The plain law. -/
import Derived.Test.YtpmpbdcbiaohdaaRelA
import Derived.Test.YtpmpbdcbiaohdaaHeavy
import Derived.Test.YtpmpbdcbiaohdaaSelf
namespace Go.Proofs.Ytpmpbdcbiaohdaa
open Go.RowKit Tomo

/-- two images with the same sums, as functions -/
theorem same_sums {m q : Grid} {n k : Nat} (hm : Img m n k) (hq : Img q n k) (hr : rsI q = rsI m) (hc : csI q = csI m) : Tomo.SameSums n k (cellB m) (cellB q) := by
  have h1 := img_self hm.ok
  have h2 := img_self hq.ok
  rw [hr, hc] at h2
  have hi := allI_img h1
  have e1 : (rsI m).length = n := hi.1.1.symm.trans hm.1.1
  have e2 : (csI m).length = k := hi.head.symm.trans hm.head
  obtain ⟨a1, a2⟩ := imgs_sums (allI_sums h1).2
  obtain ⟨b1, b2⟩ := imgs_sums (allI_sums h2).2
  rw [e1] at a1 a2 b1 b2
  rw [e2] at a1 a2 b1 b2
  exact ⟨fun y hy => (b1 y hy).trans (a1 y hy).symm, fun x hx => (b2 x hx).trans (a2 x hx).symm⟩
/-- an image heaviest among those in the list is heaviest -/
theorem heaviest_img {m x wt : Grid} {n k : Nat} (hm : Img m n k) (hx : x ∈ allI (rsI m) (csI m)) (hxi : Img x n k) (hmax : ∀ g ∈ allI (rsI m) (csI m), weightI wt g ≤ weightI wt x) : Heaviest n k (at2 wt) (cellB x) := by
  have h1 := img_self hm.ok
  have hi := allI_img h1
  have e1 : (rsI m).length = n := hi.1.1.symm.trans hm.1.1
  have e2 : (csI m).length = k := hi.head.symm.trans hm.head
  obtain ⟨a1, a2⟩ := imgs_sums (allI_sums hx).2
  intro f hf
  have hmem := toGrid_mem (rows := rsI m) (cols := csI m) f (fun y hy => by
    rw [← a1 y hy]
    have := hf.1 y (by rw [← e1]; exact hy)
    rw [e2]; exact this) (fun z hz => by
    rw [← a2 z hz]
    have := hf.2 z (by rw [← e2]; exact hz)
    rw [e1]; exact this)
  have hall : toGrid (rsI m).length (csI m).length f ∈ allI (rsI m) (csI m) := by unfold allI; rw [if_pos (allI_sums hx).1]; exact hmem
  have hg := allI_img hall
  rw [e1, e2] at hall hg
  have h3 := hmax _ hall
  rw [weight_eq hg, weight_eq hxi] at h3
  rw [weight_congr (fun y z hy hz => (toGrid_at n k f y z hy hz).symm)]
  exact h3
/-- HeaviestImage at the sums of an image -/
theorem heavy_law {m q wt : Grid} {n k : Nat} (hm : gridOk m 0 1 = true) (him : Img m n k) (hq : gridOk q 0 1 = true) (hr : rsI q = rsI m) (hc : csI q = csI m) (hw : weightOk wt n k = true) :
    heavyOk wt (rsI m) (csI m) = true ∧ Img (heavyI wt (rsI m) (csI m)) n k ∧ rsI (heavyI wt (rsI m) (csI m)) = rsI m ∧ csI (heavyI wt (rsI m) (csI m)) = csI m ∧ weightI wt (heavyI wt (rsI m) (csI m)) = heavyW wt (rsI m) (csI m) ∧
      weightI wt m ≤ heavyW wt (rsI m) (csI m) ∧ weightI wt q ≤ heavyW wt (rsI m) (csI m) ∧ Heaviest n k (at2 wt) (cellB (heavyI wt (rsI m) (csI m))) := by
  have hs := img_self hm
  have hsq : q ∈ allI (rsI m) (csI m) := by rw [← hr, ← hc]; exact img_self hq
  have hne : allI (rsI m) (csI m) ≠ [] := fun e => by rw [e] at hs; cases hs
  have hi0 := allI_img hs
  have e1 : (rsI m).length = n := hi0.1.1.symm.trans him.1.1
  have e2 : (csI m).length = k := hi0.head.symm.trans him.head
  have hok : heavyOk wt (rsI m) (csI m) = true := by unfold heavyOk; rw [exI_of hne, e1, e2, hw]; rfl
  have hI : heavyI wt (rsI m) (csI m) = bestI (weightI wt) (allI (rsI m) (csI m)) := by unfold heavyI; rw [if_pos hok]
  have hW : heavyW wt (rsI m) (csI m) = weightI wt (bestI (weightI wt) (allI (rsI m) (csI m))) := by unfold heavyW; rw [if_pos hok]
  have hmem : bestI (weightI wt) (allI (rsI m) (csI m)) ∈ allI (rsI m) (csI m) := bestI_mem _ _ hne
  have hx := allI_img hmem
  rw [e1, e2] at hx
  obtain ⟨x1, x2⟩ := allI_eq hmem
  rw [hI, hW]
  exact ⟨hok, hx, x1, x2, rfl, bestI_ge _ hs, bestI_ge _ hsq, heaviest_img him hmem hx fun g hg => bestI_ge _ hg⟩
/-- an image with the sums of a heaviest one is heaviest exactly if it is as heavy -/
theorem heavy_iff {m x wt : Grid} {n k : Nat} (hm : Img m n k) (hx : Img x n k) (hr : rsI x = rsI m) (hc : csI x = csI m) (hh : Heaviest n k (at2 wt) (cellB x)) : Heaviest n k (at2 wt) (cellB m) ↔ weightI wt m = weightI wt x := by
  have hs := same_sums hm hx hr hc
  have hs' := same_sums hx hm hr.symm hc.symm
  rw [weight_eq hm, weight_eq hx]
  constructor
  · intro h
    have h1 := h _ hs
    have h2 := hh _ hs'
    omega
  · intro h f hf
    have h1 := hh f ⟨fun y hy => (hf.1 y hy).trans (hs'.1 y hy), fun z hz => (hf.2 z hz).trans (hs'.2 z hz)⟩
    omega
/-- the prices of a heaviest image, tried at another image of its sums -/
theorem prices_iff {m x wt : Grid} {n k : Nat} (hm : Img m n k) (hx : Img x n k) (hr : rsI x = rsI m) (hc : csI x = csI m) (hh : Heaviest n k (at2 wt) (cellB x)) (ho : (weightOf wt m).2 = true) {A B : List Int} (ha : A.length = n) (hb : B.length = k) (ha2 : allIn A (-1000) 1000 = true) (hb2 : allIn B (-1000) 1000 = true)
    (hp : PrOk (cellB x) (at2 wt) n k (fun y => A[y]?.getD 0) (fun z => B[z]?.getD 0)) : pricesOk wt m A B = decide (weightI wt m = weightI wt x) := by
  rw [Bool.eq_iff_iff, decide_eq_true_eq, pricesOk_iff hm ho ha hb ha2 hb2]
  constructor
  · intro h
    exact (heavy_iff hm hx hr hc hh).1 (heaviest_of_fits n k (at2 wt) _ (fits_pr h))
  · intro h
    refine pr_slack hp (same_sums hx hm hr.symm hc.symm) ?_
    rw [← weight_eq hm, ← weight_eq hx]
    exact h
end Go.Proofs.Ytpmpbdcbiaohdaa
