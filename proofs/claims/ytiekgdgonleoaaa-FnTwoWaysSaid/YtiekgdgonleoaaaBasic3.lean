/- BasicGhost in the reference. -/
import Derived.Test.YtiekgdgonleoaaaBasic2
import Derived.Test.YtiekgdgonleoaaaRows2
namespace Go.Proofs.Ytiekgdgonleoaaa
open Go.RowKit Tomo

def pw : Nat → Int
  | 0 => 1
  | j + 1 => 2 * pw j
theorem pw_bd {j : Nat} (h : j ≤ 4) : 1 ≤ pw j ∧ pw j ≤ 16 := by
  match j, h with
  | 0, _ => decide
  | 1, _ => decide
  | 2, _ => decide
  | 3, _ => decide
  | 4, _ => decide
/-- the sizes and the cells of the ghosts on the way -/
structure BgAt (ds : List (Int × Int)) (j n k : Nat) : Prop where
  r : (n : Int) = ghR ds j
  c : (k : Int) = ghC ds j
  n1 : 1 ≤ n ∧ n ≤ 1 + 3 * j
  k1 : 1 ≤ k ∧ k ≤ 1 + 3 * j
  s : Shape (bgAt ds j) n k
  b : ∀ y x, y < n → x < k → -(pw j) ≤ at2 (bgAt ds j) y x ∧ at2 (bgAt ds j) y x ≤ pw j
theorem BgAt.zero (ds : List (Int × Int)) : BgAt ds 0 1 1 :=
  ⟨by simp [ghR], by simp [ghC], by omega, by omega, ⟨rfl, fun r hr => by rw [List.mem_singleton.1 hr]; rfl⟩, fun y x hy hx => by
    obtain rfl : y = 0 := by omega
    obtain rfl : x = 0 := by omega
    rw [show at2 (bgAt ds 0) 0 0 = 1 from rfl]
    decide⟩
theorem bgAt_succ {ds : List (Int × Int)} {j n k : Nat} (h : BgAt ds j n k) {x y : Int} (hk : ds[j]? = some (x, y)) : bgAt ds (j + 1) = minusI (bgAt ds j) n k x y := by
  have h1 := h.r
  have h2 := h.c
  rw [bgAt, hk, ← h1, ← h2]
  rfl
theorem BgAt.succ {ds : List (Int × Int)} {j n k : Nat} (h : BgAt ds j n k) {x y : Int} (hk : ds[j]? = some (x, y)) (hx : 0 ≤ x ∧ x ≤ 3) (hy : -3 ≤ y ∧ y ≤ 3) (hj : j < 4) : BgAt ds (j + 1) (n + ((-y).toNat + y.toNat)) (k + x.toNat) := by
  obtain ⟨e1, e2⟩ := gh_step hk hx.1
  have h1 := h.r
  have h2 := h.c
  have h3 := h.n1
  have h4 := h.k1
  have hp := pw_bd (j := j) (by omega)
  refine ⟨by rw [e1, ← h1]; omega, by rw [e2, ← h2]; omega, by omega, by omega, ?_, ?_⟩
  · rw [bgAt_succ h hk]; exact minusI_shape _ _ _ _ _
  · intro i l hi hl
    rw [bgAt_succ h hk]
    exact minusI_bd (by omega) h.b hi hl
def bgOk (ds : List (Int × Int)) : Bool := inR (ghSize ds).1 1 5 && inR (ghSize ds).2 1 5
def bgRes (ds : List (Int × Int)) : Grid := if bgOk ds = true then bgI ds else []
theorem bgOk_dirs {ds : List (Int × Int)} (h : bgOk ds = true) : dirsOk ds = true := by
  unfold bgOk ghSize at h
  cases e : dirsOk ds
  · rw [e, if_neg (by simp)] at h; revert h; decide
  · rfl

end Go.Proofs.Ytiekgdgonleoaaa
