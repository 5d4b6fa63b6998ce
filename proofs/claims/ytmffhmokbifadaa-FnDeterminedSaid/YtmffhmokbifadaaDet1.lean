/- Line sums that determine: images of 3 by 3 at most. Written by gen_det.py. -/
import Derived.Test.YtmffhmokbifadaaGhostM
namespace Go.Proofs.Ytmffhmokbifadaa
open Go.RowKit Tomo

def AZ11 (D : Nat → Nat → Int) : Prop := D 0 0 = 0
set_option maxHeartbeats 2000000 in
theorem small11 {D : Nat → Nat → Int} {dx dy : Int} (hd : dirOk dx dy = true) (h : ∀ c, Lf D 1 1 dx dy c = 0) : AZ11 D := by
  obtain ⟨⟨a1, a2⟩, a3, a4⟩ := dir_bd hd
  have hx : dx = 0 ∨ dx = 1 ∨ dx = 2 ∨ dx = 3 := by omega
  have hy : dy = -3 ∨ dy = -2 ∨ dy = -1 ∨ dy = 0 ∨ dy = 1 ∨ dy = 2 ∨ dy = 3 := by omega
  clear a1 a2 a3 a4
  rcases hx with rfl | rfl | rfl | rfl <;> rcases hy with rfl | rfl | rfl | rfl | rfl | rfl | rfl
  · exact absurd hd (by decide)
  · exact absurd hd (by decide)
  · exact absurd hd (by decide)
  · exact absurd hd (by decide)
  · exact (show D 0 0 = 0 from by have e := h 0; simpa [Lf, sumTo] using e)
  · exact absurd hd (by decide)
  · exact absurd hd (by decide)
  · exact (show D 0 0 = 0 from by have e := h 0; simpa [Lf, sumTo] using e)
  · exact (show D 0 0 = 0 from by have e := h 0; simpa [Lf, sumTo] using e)
  · exact (show D 0 0 = 0 from by have e := h 0; simpa [Lf, sumTo] using e)
  · exact (show D 0 0 = 0 from by have e := h 0; simpa [Lf, sumTo] using e)
  · exact (show D 0 0 = 0 from by have e := h 0; simpa [Lf, sumTo] using e)
  · exact (show D 0 0 = 0 from by have e := h 0; simpa [Lf, sumTo] using e)
  · exact (show D 0 0 = 0 from by have e := h 0; simpa [Lf, sumTo] using e)
  · exact (show D 0 0 = 0 from by have e := h 0; simpa [Lf, sumTo] using e)
  · exact absurd hd (by decide)
  · exact (show D 0 0 = 0 from by have e := h 0; simpa [Lf, sumTo] using e)
  · exact absurd hd (by decide)
  · exact (show D 0 0 = 0 from by have e := h 0; simpa [Lf, sumTo] using e)
  · exact absurd hd (by decide)
  · exact (show D 0 0 = 0 from by have e := h 0; simpa [Lf, sumTo] using e)
  · exact absurd hd (by decide)
  · exact (show D 0 0 = 0 from by have e := h 0; simpa [Lf, sumTo] using e)
  · exact (show D 0 0 = 0 from by have e := h 0; simpa [Lf, sumTo] using e)
  · exact absurd hd (by decide)
  · exact (show D 0 0 = 0 from by have e := h 0; simpa [Lf, sumTo] using e)
  · exact (show D 0 0 = 0 from by have e := h 0; simpa [Lf, sumTo] using e)
  · exact absurd hd (by decide)
theorem one11 {D : Nat → Nat → Int} {dx dy : Int} (hd : dirOk dx dy = true) (h : ∀ c, Lf D 1 1 dx dy c = 0) : AZ11 D := small11 hd h
def AZ12 (D : Nat → Nat → Int) : Prop := D 0 0 = 0 ∧ D 0 1 = 0
set_option maxHeartbeats 2000000 in
theorem small12 {D : Nat → Nat → Int} {dx dy : Int} (hd : dirOk dx dy = true) (h : ∀ c, Lf D 1 2 dx dy c = 0) : AZ12 D ∨ (dx = 1 ∧ dy = 0 ∧ D 0 0 + D 0 1 = 0) := by
  obtain ⟨⟨a1, a2⟩, a3, a4⟩ := dir_bd hd
  have hx : dx = 0 ∨ dx = 1 ∨ dx = 2 ∨ dx = 3 := by omega
  have hy : dy = -3 ∨ dy = -2 ∨ dy = -1 ∨ dy = 0 ∨ dy = 1 ∨ dy = 2 ∨ dy = 3 := by omega
  clear a1 a2 a3 a4
  rcases hx with rfl | rfl | rfl | rfl <;> rcases hy with rfl | rfl | rfl | rfl | rfl | rfl | rfl
  · exact absurd hd (by decide)
  · exact absurd hd (by decide)
  · exact absurd hd (by decide)
  · exact absurd hd (by decide)
  · exact Or.inl (⟨by have e := h 0; simpa [Lf, sumTo] using e, by have e := h (-1); simpa [Lf, sumTo] using e⟩)
  · exact absurd hd (by decide)
  · exact absurd hd (by decide)
  · exact Or.inl (⟨by have e := h 0; simpa [Lf, sumTo] using e, by have e := h 3; simpa [Lf, sumTo] using e⟩)
  · exact Or.inl (⟨by have e := h 0; simpa [Lf, sumTo] using e, by have e := h 2; simpa [Lf, sumTo] using e⟩)
  · exact Or.inl (⟨by have e := h 0; simpa [Lf, sumTo] using e, by have e := h 1; simpa [Lf, sumTo] using e⟩)
  · exact Or.inr (⟨rfl, rfl, by have e := h 0; simpa [Lf, sumTo] using e⟩)
  · exact Or.inl (⟨by have e := h 0; simpa [Lf, sumTo] using e, by have e := h (-1); simpa [Lf, sumTo] using e⟩)
  · exact Or.inl (⟨by have e := h 0; simpa [Lf, sumTo] using e, by have e := h (-2); simpa [Lf, sumTo] using e⟩)
  · exact Or.inl (⟨by have e := h 0; simpa [Lf, sumTo] using e, by have e := h (-3); simpa [Lf, sumTo] using e⟩)
  · exact Or.inl (⟨by have e := h 0; simpa [Lf, sumTo] using e, by have e := h 3; simpa [Lf, sumTo] using e⟩)
  · exact absurd hd (by decide)
  · exact Or.inl (⟨by have e := h 0; simpa [Lf, sumTo] using e, by have e := h 1; simpa [Lf, sumTo] using e⟩)
  · exact absurd hd (by decide)
  · exact Or.inl (⟨by have e := h 0; simpa [Lf, sumTo] using e, by have e := h (-1); simpa [Lf, sumTo] using e⟩)
  · exact absurd hd (by decide)
  · exact Or.inl (⟨by have e := h 0; simpa [Lf, sumTo] using e, by have e := h (-3); simpa [Lf, sumTo] using e⟩)
  · exact absurd hd (by decide)
  · exact Or.inl (⟨by have e := h 0; simpa [Lf, sumTo] using e, by have e := h 2; simpa [Lf, sumTo] using e⟩)
  · exact Or.inl (⟨by have e := h 0; simpa [Lf, sumTo] using e, by have e := h 1; simpa [Lf, sumTo] using e⟩)
  · exact absurd hd (by decide)
  · exact Or.inl (⟨by have e := h 0; simpa [Lf, sumTo] using e, by have e := h (-1); simpa [Lf, sumTo] using e⟩)
  · exact Or.inl (⟨by have e := h 0; simpa [Lf, sumTo] using e, by have e := h (-2); simpa [Lf, sumTo] using e⟩)
  · exact absurd hd (by decide)
theorem one12 {D : Nat → Nat → Int} {dx dy : Int} (hd : dirOk dx dy = true) (h : ∀ c, Lf D 1 2 dx dy c = 0) (hc : 1 ≤ max dy (-dy) ∨ 2 ≤ dx) : AZ12 D := by
  rcases small12 hd h with z | ⟨rfl, rfl, f0⟩
  · exact z
  · omega
set_option maxHeartbeats 4000000 in
theorem two12 {D : Nat → Nat → Int} {dx dy px py : Int} (hd : dirOk dx dy = true) (h : ∀ c, Lf D 1 2 dx dy c = 0) (hp : dirOk px py = true) (g : ∀ c, Lf D 1 2 px py c = 0) (hne : dx = px → dy ≠ py) (hc : 1 ≤ max dy (-dy) + max py (-py) ∨ 2 ≤ dx + px) : AZ12 D := by
  have s1 := small12 hd h
  have s2 := small12 hp g
  clear hd h hp g
  unfold AZ12 at s1 s2 ⊢
  rcases s1 with z | ⟨rfl, rfl, f0⟩
  · exact z
  all_goals
    rcases s2 with z | ⟨rfl, rfl, g0⟩
    · exact z
    all_goals first | (exact absurd rfl (hne rfl)) | (exfalso; omega) | (refine ⟨by omega, by omega⟩)
set_option maxHeartbeats 16000000 in
theorem tri12 {D : Nat → Nat → Int} {dx dy px py qx qy : Int} (hd : dirOk dx dy = true) (h : ∀ c, Lf D 1 2 dx dy c = 0) (hp : dirOk px py = true) (g : ∀ c, Lf D 1 2 px py c = 0) (hq : dirOk qx qy = true) (e : ∀ c, Lf D 1 2 qx qy c = 0) (hne : dx = px → dy ≠ py) (hne2 : dx = qx → dy ≠ qy) (hne3 : px = qx → py ≠ qy) (hc : 1 ≤ max dy (-dy) + max py (-py) + max qy (-qy) ∨ 2 ≤ dx + px + qx) : AZ12 D := by
  by_cases c1 : 1 ≤ max dy (-dy) + max py (-py) ∨ 2 ≤ dx + px
  · exact two12 hd h hp g hne c1
  by_cases c2 : 1 ≤ max dy (-dy) + max qy (-qy) ∨ 2 ≤ dx + qx
  · exact two12 hd h hq e hne2 c2
  by_cases c3 : 1 ≤ max py (-py) + max qy (-qy) ∨ 2 ≤ px + qx
  · exact two12 hp g hq e hne3 c3
  have s1 := small12 hd h
  have s2 := small12 hp g
  have s3 := small12 hq e
  clear hd h hp g hq e
  unfold AZ12 at s1 s2 s3 ⊢
  rcases s1 with z | ⟨rfl, rfl, f0⟩
  · exact z
  all_goals
    rcases s2 with z | ⟨rfl, rfl, g0⟩
    · exact z
    all_goals first | (exact absurd rfl (hne rfl)) | (exfalso; clear s3 hc hne2 hne3; omega) | skip
    all_goals
      rcases s3 with z | ⟨rfl, rfl, e0⟩
      · exact z
      all_goals first | (exact absurd rfl (hne2 rfl)) | (exact absurd rfl (hne3 rfl)) | (exfalso; omega) | (refine ⟨by omega, by omega⟩)
def AZ13 (D : Nat → Nat → Int) : Prop := D 0 0 = 0 ∧ D 0 1 = 0 ∧ D 0 2 = 0
set_option maxHeartbeats 2000000 in
theorem small13 {D : Nat → Nat → Int} {dx dy : Int} (hd : dirOk dx dy = true) (h : ∀ c, Lf D 1 3 dx dy c = 0) : AZ13 D ∨ (dx = 1 ∧ dy = 0 ∧ D 0 0 + D 0 1 + D 0 2 = 0) := by
  obtain ⟨⟨a1, a2⟩, a3, a4⟩ := dir_bd hd
  have hx : dx = 0 ∨ dx = 1 ∨ dx = 2 ∨ dx = 3 := by omega
  have hy : dy = -3 ∨ dy = -2 ∨ dy = -1 ∨ dy = 0 ∨ dy = 1 ∨ dy = 2 ∨ dy = 3 := by omega
  clear a1 a2 a3 a4
  rcases hx with rfl | rfl | rfl | rfl <;> rcases hy with rfl | rfl | rfl | rfl | rfl | rfl | rfl
  · exact absurd hd (by decide)
  · exact absurd hd (by decide)
  · exact absurd hd (by decide)
  · exact absurd hd (by decide)
  · exact Or.inl (⟨by have e := h 0; simpa [Lf, sumTo] using e, by have e := h (-1); simpa [Lf, sumTo] using e, by have e := h (-2); simpa [Lf, sumTo] using e⟩)
  · exact absurd hd (by decide)
  · exact absurd hd (by decide)
  · exact Or.inl (⟨by have e := h 0; simpa [Lf, sumTo] using e, by have e := h 3; simpa [Lf, sumTo] using e, by have e := h 6; simpa [Lf, sumTo] using e⟩)
  · exact Or.inl (⟨by have e := h 0; simpa [Lf, sumTo] using e, by have e := h 2; simpa [Lf, sumTo] using e, by have e := h 4; simpa [Lf, sumTo] using e⟩)
  · exact Or.inl (⟨by have e := h 0; simpa [Lf, sumTo] using e, by have e := h 1; simpa [Lf, sumTo] using e, by have e := h 2; simpa [Lf, sumTo] using e⟩)
  · exact Or.inr (⟨rfl, rfl, by have e := h 0; simpa [Lf, sumTo] using e⟩)
  · exact Or.inl (⟨by have e := h 0; simpa [Lf, sumTo] using e, by have e := h (-1); simpa [Lf, sumTo] using e, by have e := h (-2); simpa [Lf, sumTo] using e⟩)
  · exact Or.inl (⟨by have e := h 0; simpa [Lf, sumTo] using e, by have e := h (-2); simpa [Lf, sumTo] using e, by have e := h (-4); simpa [Lf, sumTo] using e⟩)
  · exact Or.inl (⟨by have e := h 0; simpa [Lf, sumTo] using e, by have e := h (-3); simpa [Lf, sumTo] using e, by have e := h (-6); simpa [Lf, sumTo] using e⟩)
  · exact Or.inl (⟨by have e := h 0; simpa [Lf, sumTo] using e, by have e := h 3; simpa [Lf, sumTo] using e, by have e := h 6; simpa [Lf, sumTo] using e⟩)
  · exact absurd hd (by decide)
  · exact Or.inl (⟨by have e := h 0; simpa [Lf, sumTo] using e, by have e := h 1; simpa [Lf, sumTo] using e, by have e := h 2; simpa [Lf, sumTo] using e⟩)
  · exact absurd hd (by decide)
  · exact Or.inl (⟨by have e := h 0; simpa [Lf, sumTo] using e, by have e := h (-1); simpa [Lf, sumTo] using e, by have e := h (-2); simpa [Lf, sumTo] using e⟩)
  · exact absurd hd (by decide)
  · exact Or.inl (⟨by have e := h 0; simpa [Lf, sumTo] using e, by have e := h (-3); simpa [Lf, sumTo] using e, by have e := h (-6); simpa [Lf, sumTo] using e⟩)
  · exact absurd hd (by decide)
  · exact Or.inl (⟨by have e := h 0; simpa [Lf, sumTo] using e, by have e := h 2; simpa [Lf, sumTo] using e, by have e := h 4; simpa [Lf, sumTo] using e⟩)
  · exact Or.inl (⟨by have e := h 0; simpa [Lf, sumTo] using e, by have e := h 1; simpa [Lf, sumTo] using e, by have e := h 2; simpa [Lf, sumTo] using e⟩)
  · exact absurd hd (by decide)
  · exact Or.inl (⟨by have e := h 0; simpa [Lf, sumTo] using e, by have e := h (-1); simpa [Lf, sumTo] using e, by have e := h (-2); simpa [Lf, sumTo] using e⟩)
  · exact Or.inl (⟨by have e := h 0; simpa [Lf, sumTo] using e, by have e := h (-2); simpa [Lf, sumTo] using e, by have e := h (-4); simpa [Lf, sumTo] using e⟩)
  · exact absurd hd (by decide)
theorem one13 {D : Nat → Nat → Int} {dx dy : Int} (hd : dirOk dx dy = true) (h : ∀ c, Lf D 1 3 dx dy c = 0) (hc : 1 ≤ max dy (-dy) ∨ 3 ≤ dx) : AZ13 D := by
  rcases small13 hd h with z | ⟨rfl, rfl, f0⟩
  · exact z
  · omega
set_option maxHeartbeats 4000000 in
theorem two13 {D : Nat → Nat → Int} {dx dy px py : Int} (hd : dirOk dx dy = true) (h : ∀ c, Lf D 1 3 dx dy c = 0) (hp : dirOk px py = true) (g : ∀ c, Lf D 1 3 px py c = 0) (hne : dx = px → dy ≠ py) (hc : 1 ≤ max dy (-dy) + max py (-py) ∨ 3 ≤ dx + px) : AZ13 D := by
  have s1 := small13 hd h
  have s2 := small13 hp g
  clear hd h hp g
  unfold AZ13 at s1 s2 ⊢
  rcases s1 with z | ⟨rfl, rfl, f0⟩
  · exact z
  all_goals
    rcases s2 with z | ⟨rfl, rfl, g0⟩
    · exact z
    all_goals first | (exact absurd rfl (hne rfl)) | (exfalso; omega) | (refine ⟨by omega, by omega, by omega⟩)
set_option maxHeartbeats 16000000 in
theorem tri13 {D : Nat → Nat → Int} {dx dy px py qx qy : Int} (hd : dirOk dx dy = true) (h : ∀ c, Lf D 1 3 dx dy c = 0) (hp : dirOk px py = true) (g : ∀ c, Lf D 1 3 px py c = 0) (hq : dirOk qx qy = true) (e : ∀ c, Lf D 1 3 qx qy c = 0) (hne : dx = px → dy ≠ py) (hne2 : dx = qx → dy ≠ qy) (hne3 : px = qx → py ≠ qy) (hc : 1 ≤ max dy (-dy) + max py (-py) + max qy (-qy) ∨ 3 ≤ dx + px + qx) : AZ13 D := by
  by_cases c1 : 1 ≤ max dy (-dy) + max py (-py) ∨ 3 ≤ dx + px
  · exact two13 hd h hp g hne c1
  by_cases c2 : 1 ≤ max dy (-dy) + max qy (-qy) ∨ 3 ≤ dx + qx
  · exact two13 hd h hq e hne2 c2
  by_cases c3 : 1 ≤ max py (-py) + max qy (-qy) ∨ 3 ≤ px + qx
  · exact two13 hp g hq e hne3 c3
  have s1 := small13 hd h
  have s2 := small13 hp g
  have s3 := small13 hq e
  clear hd h hp g hq e
  unfold AZ13 at s1 s2 s3 ⊢
  rcases s1 with z | ⟨rfl, rfl, f0⟩
  · exact z
  all_goals
    rcases s2 with z | ⟨rfl, rfl, g0⟩
    · exact z
    all_goals first | (exact absurd rfl (hne rfl)) | (exfalso; clear s3 hc hne2 hne3; omega) | skip
    all_goals
      rcases s3 with z | ⟨rfl, rfl, e0⟩
      · exact z
      all_goals first | (exact absurd rfl (hne2 rfl)) | (exact absurd rfl (hne3 rfl)) | (exfalso; omega) | (refine ⟨by omega, by omega, by omega⟩)
def AZ21 (D : Nat → Nat → Int) : Prop := D 0 0 = 0 ∧ D 1 0 = 0
set_option maxHeartbeats 2000000 in
theorem small21 {D : Nat → Nat → Int} {dx dy : Int} (hd : dirOk dx dy = true) (h : ∀ c, Lf D 2 1 dx dy c = 0) : AZ21 D ∨ (dx = 0 ∧ dy = 1 ∧ D 0 0 + D 1 0 = 0) := by
  obtain ⟨⟨a1, a2⟩, a3, a4⟩ := dir_bd hd
  have hx : dx = 0 ∨ dx = 1 ∨ dx = 2 ∨ dx = 3 := by omega
  have hy : dy = -3 ∨ dy = -2 ∨ dy = -1 ∨ dy = 0 ∨ dy = 1 ∨ dy = 2 ∨ dy = 3 := by omega
  clear a1 a2 a3 a4
  rcases hx with rfl | rfl | rfl | rfl <;> rcases hy with rfl | rfl | rfl | rfl | rfl | rfl | rfl
  · exact absurd hd (by decide)
  · exact absurd hd (by decide)
  · exact absurd hd (by decide)
  · exact absurd hd (by decide)
  · exact Or.inr (⟨rfl, rfl, by have e := h 0; simpa [Lf, sumTo] using e⟩)
  · exact absurd hd (by decide)
  · exact absurd hd (by decide)
  · exact Or.inl (⟨by have e := h 0; simpa [Lf, sumTo] using e, by have e := h 1; simpa [Lf, sumTo] using e⟩)
  · exact Or.inl (⟨by have e := h 0; simpa [Lf, sumTo] using e, by have e := h 1; simpa [Lf, sumTo] using e⟩)
  · exact Or.inl (⟨by have e := h 0; simpa [Lf, sumTo] using e, by have e := h 1; simpa [Lf, sumTo] using e⟩)
  · exact Or.inl (⟨by have e := h 0; simpa [Lf, sumTo] using e, by have e := h 1; simpa [Lf, sumTo] using e⟩)
  · exact Or.inl (⟨by have e := h 0; simpa [Lf, sumTo] using e, by have e := h 1; simpa [Lf, sumTo] using e⟩)
  · exact Or.inl (⟨by have e := h 0; simpa [Lf, sumTo] using e, by have e := h 1; simpa [Lf, sumTo] using e⟩)
  · exact Or.inl (⟨by have e := h 0; simpa [Lf, sumTo] using e, by have e := h 1; simpa [Lf, sumTo] using e⟩)
  · exact Or.inl (⟨by have e := h 0; simpa [Lf, sumTo] using e, by have e := h 2; simpa [Lf, sumTo] using e⟩)
  · exact absurd hd (by decide)
  · exact Or.inl (⟨by have e := h 0; simpa [Lf, sumTo] using e, by have e := h 2; simpa [Lf, sumTo] using e⟩)
  · exact absurd hd (by decide)
  · exact Or.inl (⟨by have e := h 0; simpa [Lf, sumTo] using e, by have e := h 2; simpa [Lf, sumTo] using e⟩)
  · exact absurd hd (by decide)
  · exact Or.inl (⟨by have e := h 0; simpa [Lf, sumTo] using e, by have e := h 2; simpa [Lf, sumTo] using e⟩)
  · exact absurd hd (by decide)
  · exact Or.inl (⟨by have e := h 0; simpa [Lf, sumTo] using e, by have e := h 3; simpa [Lf, sumTo] using e⟩)
  · exact Or.inl (⟨by have e := h 0; simpa [Lf, sumTo] using e, by have e := h 3; simpa [Lf, sumTo] using e⟩)
  · exact absurd hd (by decide)
  · exact Or.inl (⟨by have e := h 0; simpa [Lf, sumTo] using e, by have e := h 3; simpa [Lf, sumTo] using e⟩)
  · exact Or.inl (⟨by have e := h 0; simpa [Lf, sumTo] using e, by have e := h 3; simpa [Lf, sumTo] using e⟩)
  · exact absurd hd (by decide)
theorem one21 {D : Nat → Nat → Int} {dx dy : Int} (hd : dirOk dx dy = true) (h : ∀ c, Lf D 2 1 dx dy c = 0) (hc : 2 ≤ max dy (-dy) ∨ 1 ≤ dx) : AZ21 D := by
  rcases small21 hd h with z | ⟨rfl, rfl, f0⟩
  · exact z
  · omega
set_option maxHeartbeats 4000000 in
theorem two21 {D : Nat → Nat → Int} {dx dy px py : Int} (hd : dirOk dx dy = true) (h : ∀ c, Lf D 2 1 dx dy c = 0) (hp : dirOk px py = true) (g : ∀ c, Lf D 2 1 px py c = 0) (hne : dx = px → dy ≠ py) (hc : 2 ≤ max dy (-dy) + max py (-py) ∨ 1 ≤ dx + px) : AZ21 D := by
  have s1 := small21 hd h
  have s2 := small21 hp g
  clear hd h hp g
  unfold AZ21 at s1 s2 ⊢
  rcases s1 with z | ⟨rfl, rfl, f0⟩
  · exact z
  all_goals
    rcases s2 with z | ⟨rfl, rfl, g0⟩
    · exact z
    all_goals first | (exact absurd rfl (hne rfl)) | (exfalso; omega) | (refine ⟨by omega, by omega⟩)
set_option maxHeartbeats 16000000 in
theorem tri21 {D : Nat → Nat → Int} {dx dy px py qx qy : Int} (hd : dirOk dx dy = true) (h : ∀ c, Lf D 2 1 dx dy c = 0) (hp : dirOk px py = true) (g : ∀ c, Lf D 2 1 px py c = 0) (hq : dirOk qx qy = true) (e : ∀ c, Lf D 2 1 qx qy c = 0) (hne : dx = px → dy ≠ py) (hne2 : dx = qx → dy ≠ qy) (hne3 : px = qx → py ≠ qy) (hc : 2 ≤ max dy (-dy) + max py (-py) + max qy (-qy) ∨ 1 ≤ dx + px + qx) : AZ21 D := by
  by_cases c1 : 2 ≤ max dy (-dy) + max py (-py) ∨ 1 ≤ dx + px
  · exact two21 hd h hp g hne c1
  by_cases c2 : 2 ≤ max dy (-dy) + max qy (-qy) ∨ 1 ≤ dx + qx
  · exact two21 hd h hq e hne2 c2
  by_cases c3 : 2 ≤ max py (-py) + max qy (-qy) ∨ 1 ≤ px + qx
  · exact two21 hp g hq e hne3 c3
  have s1 := small21 hd h
  have s2 := small21 hp g
  have s3 := small21 hq e
  clear hd h hp g hq e
  unfold AZ21 at s1 s2 s3 ⊢
  rcases s1 with z | ⟨rfl, rfl, f0⟩
  · exact z
  all_goals
    rcases s2 with z | ⟨rfl, rfl, g0⟩
    · exact z
    all_goals first | (exact absurd rfl (hne rfl)) | (exfalso; clear s3 hc hne2 hne3; omega) | skip
    all_goals
      rcases s3 with z | ⟨rfl, rfl, e0⟩
      · exact z
      all_goals first | (exact absurd rfl (hne2 rfl)) | (exact absurd rfl (hne3 rfl)) | (exfalso; omega) | (refine ⟨by omega, by omega⟩)
def AZ22 (D : Nat → Nat → Int) : Prop := D 0 0 = 0 ∧ D 0 1 = 0 ∧ D 1 0 = 0 ∧ D 1 1 = 0
set_option maxHeartbeats 2000000 in
theorem small22 {D : Nat → Nat → Int} {dx dy : Int} (hd : dirOk dx dy = true) (h : ∀ c, Lf D 2 2 dx dy c = 0) : AZ22 D ∨ (dx = 0 ∧ dy = 1 ∧ D 0 0 + D 1 0 = 0 ∧ D 0 1 + D 1 1 = 0) ∨ (dx = 1 ∧ dy = (-1) ∧ D 0 0 = 0 ∧ D 0 1 + D 1 0 = 0 ∧ D 1 1 = 0) ∨ (dx = 1 ∧ dy = 0 ∧ D 0 0 + D 0 1 = 0 ∧ D 1 0 + D 1 1 = 0) ∨ (dx = 1 ∧ dy = 1 ∧ D 0 0 + D 1 1 = 0 ∧ D 0 1 = 0 ∧ D 1 0 = 0) := by
  obtain ⟨⟨a1, a2⟩, a3, a4⟩ := dir_bd hd
  have hx : dx = 0 ∨ dx = 1 ∨ dx = 2 ∨ dx = 3 := by omega
  have hy : dy = -3 ∨ dy = -2 ∨ dy = -1 ∨ dy = 0 ∨ dy = 1 ∨ dy = 2 ∨ dy = 3 := by omega
  clear a1 a2 a3 a4
  rcases hx with rfl | rfl | rfl | rfl <;> rcases hy with rfl | rfl | rfl | rfl | rfl | rfl | rfl
  · exact absurd hd (by decide)
  · exact absurd hd (by decide)
  · exact absurd hd (by decide)
  · exact absurd hd (by decide)
  · exact Or.inr (Or.inl (⟨rfl, rfl, by have e := h 0; simpa [Lf, sumTo] using e, by have e := h (-1); simpa [Lf, sumTo] using e⟩))
  · exact absurd hd (by decide)
  · exact absurd hd (by decide)
  · exact Or.inl (⟨by have e := h 0; simpa [Lf, sumTo] using e, by have e := h 3; simpa [Lf, sumTo] using e, by have e := h 1; simpa [Lf, sumTo] using e, by have e := h 4; simpa [Lf, sumTo] using e⟩)
  · exact Or.inl (⟨by have e := h 0; simpa [Lf, sumTo] using e, by have e := h 2; simpa [Lf, sumTo] using e, by have e := h 1; simpa [Lf, sumTo] using e, by have e := h 3; simpa [Lf, sumTo] using e⟩)
  · exact Or.inr (Or.inr (Or.inl (⟨rfl, rfl, by have e := h 0; simpa [Lf, sumTo] using e, by have e := h 1; simpa [Lf, sumTo] using e, by have e := h 2; simpa [Lf, sumTo] using e⟩)))
  · exact Or.inr (Or.inr (Or.inr (Or.inl (⟨rfl, rfl, by have e := h 0; simpa [Lf, sumTo] using e, by have e := h 1; simpa [Lf, sumTo] using e⟩))))
  · exact Or.inr (Or.inr (Or.inr (Or.inr (⟨rfl, rfl, by have e := h 0; simpa [Lf, sumTo] using e, by have e := h (-1); simpa [Lf, sumTo] using e, by have e := h 1; simpa [Lf, sumTo] using e⟩))))
  · exact Or.inl (⟨by have e := h 0; simpa [Lf, sumTo] using e, by have e := h (-2); simpa [Lf, sumTo] using e, by have e := h 1; simpa [Lf, sumTo] using e, by have e := h (-1); simpa [Lf, sumTo] using e⟩)
  · exact Or.inl (⟨by have e := h 0; simpa [Lf, sumTo] using e, by have e := h (-3); simpa [Lf, sumTo] using e, by have e := h 1; simpa [Lf, sumTo] using e, by have e := h (-2); simpa [Lf, sumTo] using e⟩)
  · exact Or.inl (⟨by have e := h 0; simpa [Lf, sumTo] using e, by have e := h 3; simpa [Lf, sumTo] using e, by have e := h 2; simpa [Lf, sumTo] using e, by have e := h 5; simpa [Lf, sumTo] using e⟩)
  · exact absurd hd (by decide)
  · exact Or.inl (⟨by have e := h 0; simpa [Lf, sumTo] using e, by have e := h 1; simpa [Lf, sumTo] using e, by have e := h 2; simpa [Lf, sumTo] using e, by have e := h 3; simpa [Lf, sumTo] using e⟩)
  · exact absurd hd (by decide)
  · exact Or.inl (⟨by have e := h 0; simpa [Lf, sumTo] using e, by have e := h (-1); simpa [Lf, sumTo] using e, by have e := h 2; simpa [Lf, sumTo] using e, by have e := h 1; simpa [Lf, sumTo] using e⟩)
  · exact absurd hd (by decide)
  · exact Or.inl (⟨by have e := h 0; simpa [Lf, sumTo] using e, by have e := h (-3); simpa [Lf, sumTo] using e, by have e := h 2; simpa [Lf, sumTo] using e, by have e := h (-1); simpa [Lf, sumTo] using e⟩)
  · exact absurd hd (by decide)
  · exact Or.inl (⟨by have e := h 0; simpa [Lf, sumTo] using e, by have e := h 2; simpa [Lf, sumTo] using e, by have e := h 3; simpa [Lf, sumTo] using e, by have e := h 5; simpa [Lf, sumTo] using e⟩)
  · exact Or.inl (⟨by have e := h 0; simpa [Lf, sumTo] using e, by have e := h 1; simpa [Lf, sumTo] using e, by have e := h 3; simpa [Lf, sumTo] using e, by have e := h 4; simpa [Lf, sumTo] using e⟩)
  · exact absurd hd (by decide)
  · exact Or.inl (⟨by have e := h 0; simpa [Lf, sumTo] using e, by have e := h (-1); simpa [Lf, sumTo] using e, by have e := h 3; simpa [Lf, sumTo] using e, by have e := h 2; simpa [Lf, sumTo] using e⟩)
  · exact Or.inl (⟨by have e := h 0; simpa [Lf, sumTo] using e, by have e := h (-2); simpa [Lf, sumTo] using e, by have e := h 3; simpa [Lf, sumTo] using e, by have e := h 1; simpa [Lf, sumTo] using e⟩)
  · exact absurd hd (by decide)
theorem one22 {D : Nat → Nat → Int} {dx dy : Int} (hd : dirOk dx dy = true) (h : ∀ c, Lf D 2 2 dx dy c = 0) (hc : 2 ≤ max dy (-dy) ∨ 2 ≤ dx) : AZ22 D := by
  rcases small22 hd h with z | ⟨rfl, rfl, f0, f1⟩ | ⟨rfl, rfl, f0, f1, f2⟩ | ⟨rfl, rfl, f0, f1⟩ | ⟨rfl, rfl, f0, f1, f2⟩
  · exact z
  · omega
  · omega
  · omega
  · omega
set_option maxHeartbeats 4000000 in
theorem two22 {D : Nat → Nat → Int} {dx dy px py : Int} (hd : dirOk dx dy = true) (h : ∀ c, Lf D 2 2 dx dy c = 0) (hp : dirOk px py = true) (g : ∀ c, Lf D 2 2 px py c = 0) (hne : dx = px → dy ≠ py) (hc : 2 ≤ max dy (-dy) + max py (-py) ∨ 2 ≤ dx + px) : AZ22 D := by
  have s1 := small22 hd h
  have s2 := small22 hp g
  clear hd h hp g
  unfold AZ22 at s1 s2 ⊢
  rcases s1 with z | ⟨rfl, rfl, f0, f1⟩ | ⟨rfl, rfl, f0, f1, f2⟩ | ⟨rfl, rfl, f0, f1⟩ | ⟨rfl, rfl, f0, f1, f2⟩
  · exact z
  all_goals
    rcases s2 with z | ⟨rfl, rfl, g0, g1⟩ | ⟨rfl, rfl, g0, g1, g2⟩ | ⟨rfl, rfl, g0, g1⟩ | ⟨rfl, rfl, g0, g1, g2⟩
    · exact z
    all_goals first | (exact absurd rfl (hne rfl)) | (exfalso; omega) | (refine ⟨by omega, by omega, by omega, by omega⟩)
set_option maxHeartbeats 16000000 in
theorem tri22 {D : Nat → Nat → Int} {dx dy px py qx qy : Int} (hd : dirOk dx dy = true) (h : ∀ c, Lf D 2 2 dx dy c = 0) (hp : dirOk px py = true) (g : ∀ c, Lf D 2 2 px py c = 0) (hq : dirOk qx qy = true) (e : ∀ c, Lf D 2 2 qx qy c = 0) (hne : dx = px → dy ≠ py) (hne2 : dx = qx → dy ≠ qy) (hne3 : px = qx → py ≠ qy) (hc : 2 ≤ max dy (-dy) + max py (-py) + max qy (-qy) ∨ 2 ≤ dx + px + qx) : AZ22 D := by
  by_cases c1 : 2 ≤ max dy (-dy) + max py (-py) ∨ 2 ≤ dx + px
  · exact two22 hd h hp g hne c1
  by_cases c2 : 2 ≤ max dy (-dy) + max qy (-qy) ∨ 2 ≤ dx + qx
  · exact two22 hd h hq e hne2 c2
  by_cases c3 : 2 ≤ max py (-py) + max qy (-qy) ∨ 2 ≤ px + qx
  · exact two22 hp g hq e hne3 c3
  have s1 := small22 hd h
  have s2 := small22 hp g
  have s3 := small22 hq e
  clear hd h hp g hq e
  unfold AZ22 at s1 s2 s3 ⊢
  rcases s1 with z | ⟨rfl, rfl, f0, f1⟩ | ⟨rfl, rfl, f0, f1, f2⟩ | ⟨rfl, rfl, f0, f1⟩ | ⟨rfl, rfl, f0, f1, f2⟩
  · exact z
  all_goals
    rcases s2 with z | ⟨rfl, rfl, g0, g1⟩ | ⟨rfl, rfl, g0, g1, g2⟩ | ⟨rfl, rfl, g0, g1⟩ | ⟨rfl, rfl, g0, g1, g2⟩
    · exact z
    all_goals first | (exact absurd rfl (hne rfl)) | (exfalso; clear s3 hc hne2 hne3; omega) | skip
    all_goals
      rcases s3 with z | ⟨rfl, rfl, e0, e1⟩ | ⟨rfl, rfl, e0, e1, e2⟩ | ⟨rfl, rfl, e0, e1⟩ | ⟨rfl, rfl, e0, e1, e2⟩
      · exact z
      all_goals first | (exact absurd rfl (hne2 rfl)) | (exact absurd rfl (hne3 rfl)) | (exfalso; omega) | (refine ⟨by omega, by omega, by omega, by omega⟩)
def AZ23 (D : Nat → Nat → Int) : Prop := D 0 0 = 0 ∧ D 0 1 = 0 ∧ D 0 2 = 0 ∧ D 1 0 = 0 ∧ D 1 1 = 0 ∧ D 1 2 = 0
set_option maxHeartbeats 2000000 in
theorem small23 {D : Nat → Nat → Int} {dx dy : Int} (hd : dirOk dx dy = true) (h : ∀ c, Lf D 2 3 dx dy c = 0) : AZ23 D ∨ (dx = 0 ∧ dy = 1 ∧ D 0 0 + D 1 0 = 0 ∧ D 0 1 + D 1 1 = 0 ∧ D 0 2 + D 1 2 = 0) ∨ (dx = 1 ∧ dy = (-1) ∧ D 0 0 = 0 ∧ D 0 1 + D 1 0 = 0 ∧ D 0 2 + D 1 1 = 0 ∧ D 1 2 = 0) ∨ (dx = 1 ∧ dy = 0 ∧ D 0 0 + D 0 1 + D 0 2 = 0 ∧ D 1 0 + D 1 1 + D 1 2 = 0) ∨ (dx = 1 ∧ dy = 1 ∧ D 0 0 + D 1 1 = 0 ∧ D 0 1 + D 1 2 = 0 ∧ D 0 2 = 0 ∧ D 1 0 = 0) ∨ (dx = 2 ∧ dy = (-1) ∧ D 0 0 = 0 ∧ D 0 1 = 0 ∧ D 0 2 + D 1 0 = 0 ∧ D 1 1 = 0 ∧ D 1 2 = 0) ∨ (dx = 2 ∧ dy = 1 ∧ D 0 0 + D 1 2 = 0 ∧ D 0 1 = 0 ∧ D 0 2 = 0 ∧ D 1 0 = 0 ∧ D 1 1 = 0) := by
  obtain ⟨⟨a1, a2⟩, a3, a4⟩ := dir_bd hd
  have hx : dx = 0 ∨ dx = 1 ∨ dx = 2 ∨ dx = 3 := by omega
  have hy : dy = -3 ∨ dy = -2 ∨ dy = -1 ∨ dy = 0 ∨ dy = 1 ∨ dy = 2 ∨ dy = 3 := by omega
  clear a1 a2 a3 a4
  rcases hx with rfl | rfl | rfl | rfl <;> rcases hy with rfl | rfl | rfl | rfl | rfl | rfl | rfl
  · exact absurd hd (by decide)
  · exact absurd hd (by decide)
  · exact absurd hd (by decide)
  · exact absurd hd (by decide)
  · exact Or.inr (Or.inl (⟨rfl, rfl, by have e := h 0; simpa [Lf, sumTo] using e, by have e := h (-1); simpa [Lf, sumTo] using e, by have e := h (-2); simpa [Lf, sumTo] using e⟩))
  · exact absurd hd (by decide)
  · exact absurd hd (by decide)
  · exact Or.inl (⟨by have e := h 0; simpa [Lf, sumTo] using e, by have e := h 3; simpa [Lf, sumTo] using e, by have e := h 6; simpa [Lf, sumTo] using e, by have e := h 1; simpa [Lf, sumTo] using e, by have e := h 4; simpa [Lf, sumTo] using e, by have e := h 7; simpa [Lf, sumTo] using e⟩)
  · exact Or.inl (⟨by have e := h 0; simpa [Lf, sumTo] using e, by have e := h 2; simpa [Lf, sumTo] using e, by have e := h 4; simpa [Lf, sumTo] using e, by have e := h 1; simpa [Lf, sumTo] using e, by have e := h 3; simpa [Lf, sumTo] using e, by have e := h 5; simpa [Lf, sumTo] using e⟩)
  · exact Or.inr (Or.inr (Or.inl (⟨rfl, rfl, by have e := h 0; simpa [Lf, sumTo] using e, by have e := h 1; simpa [Lf, sumTo] using e, by have e := h 2; simpa [Lf, sumTo] using e, by have e := h 3; simpa [Lf, sumTo] using e⟩)))
  · exact Or.inr (Or.inr (Or.inr (Or.inl (⟨rfl, rfl, by have e := h 0; simpa [Lf, sumTo] using e, by have e := h 1; simpa [Lf, sumTo] using e⟩))))
  · exact Or.inr (Or.inr (Or.inr (Or.inr (Or.inl (⟨rfl, rfl, by have e := h 0; simpa [Lf, sumTo] using e, by have e := h (-1); simpa [Lf, sumTo] using e, by have e := h (-2); simpa [Lf, sumTo] using e, by have e := h 1; simpa [Lf, sumTo] using e⟩)))))
  · exact Or.inl (⟨by have e := h 0; simpa [Lf, sumTo] using e, by have e := h (-2); simpa [Lf, sumTo] using e, by have e := h (-4); simpa [Lf, sumTo] using e, by have e := h 1; simpa [Lf, sumTo] using e, by have e := h (-1); simpa [Lf, sumTo] using e, by have e := h (-3); simpa [Lf, sumTo] using e⟩)
  · exact Or.inl (⟨by have e := h 0; simpa [Lf, sumTo] using e, by have e := h (-3); simpa [Lf, sumTo] using e, by have e := h (-6); simpa [Lf, sumTo] using e, by have e := h 1; simpa [Lf, sumTo] using e, by have e := h (-2); simpa [Lf, sumTo] using e, by have e := h (-5); simpa [Lf, sumTo] using e⟩)
  · exact Or.inl (⟨by have e := h 0; simpa [Lf, sumTo] using e, by have e := h 3; simpa [Lf, sumTo] using e, by have e := h 6; simpa [Lf, sumTo] using e, by have e := h 2; simpa [Lf, sumTo] using e, by have e := h 5; simpa [Lf, sumTo] using e, by have e := h 8; simpa [Lf, sumTo] using e⟩)
  · exact absurd hd (by decide)
  · exact Or.inr (Or.inr (Or.inr (Or.inr (Or.inr (Or.inl (⟨rfl, rfl, by have e := h 0; simpa [Lf, sumTo] using e, by have e := h 1; simpa [Lf, sumTo] using e, by have e := h 2; simpa [Lf, sumTo] using e, by have e := h 3; simpa [Lf, sumTo] using e, by have e := h 4; simpa [Lf, sumTo] using e⟩))))))
  · exact absurd hd (by decide)
  · exact Or.inr (Or.inr (Or.inr (Or.inr (Or.inr (Or.inr (⟨rfl, rfl, by have e := h 0; simpa [Lf, sumTo] using e, by have e := h (-1); simpa [Lf, sumTo] using e, by have e := h (-2); simpa [Lf, sumTo] using e, by have e := h 2; simpa [Lf, sumTo] using e, by have e := h 1; simpa [Lf, sumTo] using e⟩))))))
  · exact absurd hd (by decide)
  · exact Or.inl (⟨by have e := h 0; simpa [Lf, sumTo] using e, by have e := h (-3); simpa [Lf, sumTo] using e, by have e := h (-6); simpa [Lf, sumTo] using e, by have e := h 2; simpa [Lf, sumTo] using e, by have e := h (-1); simpa [Lf, sumTo] using e, by have e := h (-4); simpa [Lf, sumTo] using e⟩)
  · exact absurd hd (by decide)
  · exact Or.inl (⟨by have e := h 0; simpa [Lf, sumTo] using e, by have e := h 2; simpa [Lf, sumTo] using e, by have e := h 4; simpa [Lf, sumTo] using e, by have e := h 3; simpa [Lf, sumTo] using e, by have e := h 5; simpa [Lf, sumTo] using e, by have e := h 7; simpa [Lf, sumTo] using e⟩)
  · exact Or.inl (⟨by have e := h 0; simpa [Lf, sumTo] using e, by have e := h 1; simpa [Lf, sumTo] using e, by have e := h 2; simpa [Lf, sumTo] using e, by have e := h 3; simpa [Lf, sumTo] using e, by have e := h 4; simpa [Lf, sumTo] using e, by have e := h 5; simpa [Lf, sumTo] using e⟩)
  · exact absurd hd (by decide)
  · exact Or.inl (⟨by have e := h 0; simpa [Lf, sumTo] using e, by have e := h (-1); simpa [Lf, sumTo] using e, by have e := h (-2); simpa [Lf, sumTo] using e, by have e := h 3; simpa [Lf, sumTo] using e, by have e := h 2; simpa [Lf, sumTo] using e, by have e := h 1; simpa [Lf, sumTo] using e⟩)
  · exact Or.inl (⟨by have e := h 0; simpa [Lf, sumTo] using e, by have e := h (-2); simpa [Lf, sumTo] using e, by have e := h (-4); simpa [Lf, sumTo] using e, by have e := h 3; simpa [Lf, sumTo] using e, by have e := h 1; simpa [Lf, sumTo] using e, by have e := h (-1); simpa [Lf, sumTo] using e⟩)
  · exact absurd hd (by decide)
theorem one23 {D : Nat → Nat → Int} {dx dy : Int} (hd : dirOk dx dy = true) (h : ∀ c, Lf D 2 3 dx dy c = 0) (hc : 2 ≤ max dy (-dy) ∨ 3 ≤ dx) : AZ23 D := by
  rcases small23 hd h with z | ⟨rfl, rfl, f0, f1, f2⟩ | ⟨rfl, rfl, f0, f1, f2, f3⟩ | ⟨rfl, rfl, f0, f1⟩ | ⟨rfl, rfl, f0, f1, f2, f3⟩ | ⟨rfl, rfl, f0, f1, f2, f3, f4⟩ | ⟨rfl, rfl, f0, f1, f2, f3, f4⟩
  · exact z
  · omega
  · omega
  · omega
  · omega
  · omega
  · omega
set_option maxHeartbeats 4000000 in
theorem two23 {D : Nat → Nat → Int} {dx dy px py : Int} (hd : dirOk dx dy = true) (h : ∀ c, Lf D 2 3 dx dy c = 0) (hp : dirOk px py = true) (g : ∀ c, Lf D 2 3 px py c = 0) (hne : dx = px → dy ≠ py) (hc : 2 ≤ max dy (-dy) + max py (-py) ∨ 3 ≤ dx + px) : AZ23 D := by
  have s1 := small23 hd h
  have s2 := small23 hp g
  clear hd h hp g
  unfold AZ23 at s1 s2 ⊢
  rcases s1 with z | ⟨rfl, rfl, f0, f1, f2⟩ | ⟨rfl, rfl, f0, f1, f2, f3⟩ | ⟨rfl, rfl, f0, f1⟩ | ⟨rfl, rfl, f0, f1, f2, f3⟩ | ⟨rfl, rfl, f0, f1, f2, f3, f4⟩ | ⟨rfl, rfl, f0, f1, f2, f3, f4⟩
  · exact z
  all_goals
    rcases s2 with z | ⟨rfl, rfl, g0, g1, g2⟩ | ⟨rfl, rfl, g0, g1, g2, g3⟩ | ⟨rfl, rfl, g0, g1⟩ | ⟨rfl, rfl, g0, g1, g2, g3⟩ | ⟨rfl, rfl, g0, g1, g2, g3, g4⟩ | ⟨rfl, rfl, g0, g1, g2, g3, g4⟩
    · exact z
    all_goals first | (exact absurd rfl (hne rfl)) | (exfalso; omega) | (refine ⟨by omega, by omega, by omega, by omega, by omega, by omega⟩)
set_option maxHeartbeats 16000000 in
theorem tri23 {D : Nat → Nat → Int} {dx dy px py qx qy : Int} (hd : dirOk dx dy = true) (h : ∀ c, Lf D 2 3 dx dy c = 0) (hp : dirOk px py = true) (g : ∀ c, Lf D 2 3 px py c = 0) (hq : dirOk qx qy = true) (e : ∀ c, Lf D 2 3 qx qy c = 0) (hne : dx = px → dy ≠ py) (hne2 : dx = qx → dy ≠ qy) (hne3 : px = qx → py ≠ qy) (hc : 2 ≤ max dy (-dy) + max py (-py) + max qy (-qy) ∨ 3 ≤ dx + px + qx) : AZ23 D := by
  by_cases c1 : 2 ≤ max dy (-dy) + max py (-py) ∨ 3 ≤ dx + px
  · exact two23 hd h hp g hne c1
  by_cases c2 : 2 ≤ max dy (-dy) + max qy (-qy) ∨ 3 ≤ dx + qx
  · exact two23 hd h hq e hne2 c2
  by_cases c3 : 2 ≤ max py (-py) + max qy (-qy) ∨ 3 ≤ px + qx
  · exact two23 hp g hq e hne3 c3
  have s1 := small23 hd h
  have s2 := small23 hp g
  have s3 := small23 hq e
  clear hd h hp g hq e
  unfold AZ23 at s1 s2 s3 ⊢
  rcases s1 with z | ⟨rfl, rfl, f0, f1, f2⟩ | ⟨rfl, rfl, f0, f1, f2, f3⟩ | ⟨rfl, rfl, f0, f1⟩ | ⟨rfl, rfl, f0, f1, f2, f3⟩ | ⟨rfl, rfl, f0, f1, f2, f3, f4⟩ | ⟨rfl, rfl, f0, f1, f2, f3, f4⟩
  · exact z
  all_goals
    rcases s2 with z | ⟨rfl, rfl, g0, g1, g2⟩ | ⟨rfl, rfl, g0, g1, g2, g3⟩ | ⟨rfl, rfl, g0, g1⟩ | ⟨rfl, rfl, g0, g1, g2, g3⟩ | ⟨rfl, rfl, g0, g1, g2, g3, g4⟩ | ⟨rfl, rfl, g0, g1, g2, g3, g4⟩
    · exact z
    all_goals first | (exact absurd rfl (hne rfl)) | (exfalso; clear s3 hc hne2 hne3; omega) | skip
    all_goals
      rcases s3 with z | ⟨rfl, rfl, e0, e1, e2⟩ | ⟨rfl, rfl, e0, e1, e2, e3⟩ | ⟨rfl, rfl, e0, e1⟩ | ⟨rfl, rfl, e0, e1, e2, e3⟩ | ⟨rfl, rfl, e0, e1, e2, e3, e4⟩ | ⟨rfl, rfl, e0, e1, e2, e3, e4⟩
      · exact z
      all_goals first | (exact absurd rfl (hne2 rfl)) | (exact absurd rfl (hne3 rfl)) | (exfalso; omega) | (refine ⟨by omega, by omega, by omega, by omega, by omega, by omega⟩)
def AZ31 (D : Nat → Nat → Int) : Prop := D 0 0 = 0 ∧ D 1 0 = 0 ∧ D 2 0 = 0
set_option maxHeartbeats 2000000 in
theorem small31 {D : Nat → Nat → Int} {dx dy : Int} (hd : dirOk dx dy = true) (h : ∀ c, Lf D 3 1 dx dy c = 0) : AZ31 D ∨ (dx = 0 ∧ dy = 1 ∧ D 0 0 + D 1 0 + D 2 0 = 0) := by
  obtain ⟨⟨a1, a2⟩, a3, a4⟩ := dir_bd hd
  have hx : dx = 0 ∨ dx = 1 ∨ dx = 2 ∨ dx = 3 := by omega
  have hy : dy = -3 ∨ dy = -2 ∨ dy = -1 ∨ dy = 0 ∨ dy = 1 ∨ dy = 2 ∨ dy = 3 := by omega
  clear a1 a2 a3 a4
  rcases hx with rfl | rfl | rfl | rfl <;> rcases hy with rfl | rfl | rfl | rfl | rfl | rfl | rfl
  · exact absurd hd (by decide)
  · exact absurd hd (by decide)
  · exact absurd hd (by decide)
  · exact absurd hd (by decide)
  · exact Or.inr (⟨rfl, rfl, by have e := h 0; simpa [Lf, sumTo] using e⟩)
  · exact absurd hd (by decide)
  · exact absurd hd (by decide)
  · exact Or.inl (⟨by have e := h 0; simpa [Lf, sumTo] using e, by have e := h 1; simpa [Lf, sumTo] using e, by have e := h 2; simpa [Lf, sumTo] using e⟩)
  · exact Or.inl (⟨by have e := h 0; simpa [Lf, sumTo] using e, by have e := h 1; simpa [Lf, sumTo] using e, by have e := h 2; simpa [Lf, sumTo] using e⟩)
  · exact Or.inl (⟨by have e := h 0; simpa [Lf, sumTo] using e, by have e := h 1; simpa [Lf, sumTo] using e, by have e := h 2; simpa [Lf, sumTo] using e⟩)
  · exact Or.inl (⟨by have e := h 0; simpa [Lf, sumTo] using e, by have e := h 1; simpa [Lf, sumTo] using e, by have e := h 2; simpa [Lf, sumTo] using e⟩)
  · exact Or.inl (⟨by have e := h 0; simpa [Lf, sumTo] using e, by have e := h 1; simpa [Lf, sumTo] using e, by have e := h 2; simpa [Lf, sumTo] using e⟩)
  · exact Or.inl (⟨by have e := h 0; simpa [Lf, sumTo] using e, by have e := h 1; simpa [Lf, sumTo] using e, by have e := h 2; simpa [Lf, sumTo] using e⟩)
  · exact Or.inl (⟨by have e := h 0; simpa [Lf, sumTo] using e, by have e := h 1; simpa [Lf, sumTo] using e, by have e := h 2; simpa [Lf, sumTo] using e⟩)
  · exact Or.inl (⟨by have e := h 0; simpa [Lf, sumTo] using e, by have e := h 2; simpa [Lf, sumTo] using e, by have e := h 4; simpa [Lf, sumTo] using e⟩)
  · exact absurd hd (by decide)
  · exact Or.inl (⟨by have e := h 0; simpa [Lf, sumTo] using e, by have e := h 2; simpa [Lf, sumTo] using e, by have e := h 4; simpa [Lf, sumTo] using e⟩)
  · exact absurd hd (by decide)
  · exact Or.inl (⟨by have e := h 0; simpa [Lf, sumTo] using e, by have e := h 2; simpa [Lf, sumTo] using e, by have e := h 4; simpa [Lf, sumTo] using e⟩)
  · exact absurd hd (by decide)
  · exact Or.inl (⟨by have e := h 0; simpa [Lf, sumTo] using e, by have e := h 2; simpa [Lf, sumTo] using e, by have e := h 4; simpa [Lf, sumTo] using e⟩)
  · exact absurd hd (by decide)
  · exact Or.inl (⟨by have e := h 0; simpa [Lf, sumTo] using e, by have e := h 3; simpa [Lf, sumTo] using e, by have e := h 6; simpa [Lf, sumTo] using e⟩)
  · exact Or.inl (⟨by have e := h 0; simpa [Lf, sumTo] using e, by have e := h 3; simpa [Lf, sumTo] using e, by have e := h 6; simpa [Lf, sumTo] using e⟩)
  · exact absurd hd (by decide)
  · exact Or.inl (⟨by have e := h 0; simpa [Lf, sumTo] using e, by have e := h 3; simpa [Lf, sumTo] using e, by have e := h 6; simpa [Lf, sumTo] using e⟩)
  · exact Or.inl (⟨by have e := h 0; simpa [Lf, sumTo] using e, by have e := h 3; simpa [Lf, sumTo] using e, by have e := h 6; simpa [Lf, sumTo] using e⟩)
  · exact absurd hd (by decide)
theorem one31 {D : Nat → Nat → Int} {dx dy : Int} (hd : dirOk dx dy = true) (h : ∀ c, Lf D 3 1 dx dy c = 0) (hc : 3 ≤ max dy (-dy) ∨ 1 ≤ dx) : AZ31 D := by
  rcases small31 hd h with z | ⟨rfl, rfl, f0⟩
  · exact z
  · omega
set_option maxHeartbeats 4000000 in
theorem two31 {D : Nat → Nat → Int} {dx dy px py : Int} (hd : dirOk dx dy = true) (h : ∀ c, Lf D 3 1 dx dy c = 0) (hp : dirOk px py = true) (g : ∀ c, Lf D 3 1 px py c = 0) (hne : dx = px → dy ≠ py) (hc : 3 ≤ max dy (-dy) + max py (-py) ∨ 1 ≤ dx + px) : AZ31 D := by
  have s1 := small31 hd h
  have s2 := small31 hp g
  clear hd h hp g
  unfold AZ31 at s1 s2 ⊢
  rcases s1 with z | ⟨rfl, rfl, f0⟩
  · exact z
  all_goals
    rcases s2 with z | ⟨rfl, rfl, g0⟩
    · exact z
    all_goals first | (exact absurd rfl (hne rfl)) | (exfalso; omega) | (refine ⟨by omega, by omega, by omega⟩)
set_option maxHeartbeats 16000000 in
theorem tri31 {D : Nat → Nat → Int} {dx dy px py qx qy : Int} (hd : dirOk dx dy = true) (h : ∀ c, Lf D 3 1 dx dy c = 0) (hp : dirOk px py = true) (g : ∀ c, Lf D 3 1 px py c = 0) (hq : dirOk qx qy = true) (e : ∀ c, Lf D 3 1 qx qy c = 0) (hne : dx = px → dy ≠ py) (hne2 : dx = qx → dy ≠ qy) (hne3 : px = qx → py ≠ qy) (hc : 3 ≤ max dy (-dy) + max py (-py) + max qy (-qy) ∨ 1 ≤ dx + px + qx) : AZ31 D := by
  by_cases c1 : 3 ≤ max dy (-dy) + max py (-py) ∨ 1 ≤ dx + px
  · exact two31 hd h hp g hne c1
  by_cases c2 : 3 ≤ max dy (-dy) + max qy (-qy) ∨ 1 ≤ dx + qx
  · exact two31 hd h hq e hne2 c2
  by_cases c3 : 3 ≤ max py (-py) + max qy (-qy) ∨ 1 ≤ px + qx
  · exact two31 hp g hq e hne3 c3
  have s1 := small31 hd h
  have s2 := small31 hp g
  have s3 := small31 hq e
  clear hd h hp g hq e
  unfold AZ31 at s1 s2 s3 ⊢
  rcases s1 with z | ⟨rfl, rfl, f0⟩
  · exact z
  all_goals
    rcases s2 with z | ⟨rfl, rfl, g0⟩
    · exact z
    all_goals first | (exact absurd rfl (hne rfl)) | (exfalso; clear s3 hc hne2 hne3; omega) | skip
    all_goals
      rcases s3 with z | ⟨rfl, rfl, e0⟩
      · exact z
      all_goals first | (exact absurd rfl (hne2 rfl)) | (exact absurd rfl (hne3 rfl)) | (exfalso; omega) | (refine ⟨by omega, by omega, by omega⟩)
def AZ32 (D : Nat → Nat → Int) : Prop := D 0 0 = 0 ∧ D 0 1 = 0 ∧ D 1 0 = 0 ∧ D 1 1 = 0 ∧ D 2 0 = 0 ∧ D 2 1 = 0
set_option maxHeartbeats 2000000 in
theorem small32 {D : Nat → Nat → Int} {dx dy : Int} (hd : dirOk dx dy = true) (h : ∀ c, Lf D 3 2 dx dy c = 0) : AZ32 D ∨ (dx = 0 ∧ dy = 1 ∧ D 0 0 + D 1 0 + D 2 0 = 0 ∧ D 0 1 + D 1 1 + D 2 1 = 0) ∨ (dx = 1 ∧ dy = (-2) ∧ D 0 0 = 0 ∧ D 0 1 + D 2 0 = 0 ∧ D 1 0 = 0 ∧ D 1 1 = 0 ∧ D 2 1 = 0) ∨ (dx = 1 ∧ dy = (-1) ∧ D 0 0 = 0 ∧ D 0 1 + D 1 0 = 0 ∧ D 1 1 + D 2 0 = 0 ∧ D 2 1 = 0) ∨ (dx = 1 ∧ dy = 0 ∧ D 0 0 + D 0 1 = 0 ∧ D 1 0 + D 1 1 = 0 ∧ D 2 0 + D 2 1 = 0) ∨ (dx = 1 ∧ dy = 1 ∧ D 0 0 + D 1 1 = 0 ∧ D 0 1 = 0 ∧ D 1 0 + D 2 1 = 0 ∧ D 2 0 = 0) ∨ (dx = 1 ∧ dy = 2 ∧ D 0 0 + D 2 1 = 0 ∧ D 0 1 = 0 ∧ D 1 0 = 0 ∧ D 1 1 = 0 ∧ D 2 0 = 0) := by
  obtain ⟨⟨a1, a2⟩, a3, a4⟩ := dir_bd hd
  have hx : dx = 0 ∨ dx = 1 ∨ dx = 2 ∨ dx = 3 := by omega
  have hy : dy = -3 ∨ dy = -2 ∨ dy = -1 ∨ dy = 0 ∨ dy = 1 ∨ dy = 2 ∨ dy = 3 := by omega
  clear a1 a2 a3 a4
  rcases hx with rfl | rfl | rfl | rfl <;> rcases hy with rfl | rfl | rfl | rfl | rfl | rfl | rfl
  · exact absurd hd (by decide)
  · exact absurd hd (by decide)
  · exact absurd hd (by decide)
  · exact absurd hd (by decide)
  · exact Or.inr (Or.inl (⟨rfl, rfl, by have e := h 0; simpa [Lf, sumTo] using e, by have e := h (-1); simpa [Lf, sumTo] using e⟩))
  · exact absurd hd (by decide)
  · exact absurd hd (by decide)
  · exact Or.inl (⟨by have e := h 0; simpa [Lf, sumTo] using e, by have e := h 3; simpa [Lf, sumTo] using e, by have e := h 1; simpa [Lf, sumTo] using e, by have e := h 4; simpa [Lf, sumTo] using e, by have e := h 2; simpa [Lf, sumTo] using e, by have e := h 5; simpa [Lf, sumTo] using e⟩)
  · exact Or.inr (Or.inr (Or.inl (⟨rfl, rfl, by have e := h 0; simpa [Lf, sumTo] using e, by have e := h 2; simpa [Lf, sumTo] using e, by have e := h 1; simpa [Lf, sumTo] using e, by have e := h 3; simpa [Lf, sumTo] using e, by have e := h 4; simpa [Lf, sumTo] using e⟩)))
  · exact Or.inr (Or.inr (Or.inr (Or.inl (⟨rfl, rfl, by have e := h 0; simpa [Lf, sumTo] using e, by have e := h 1; simpa [Lf, sumTo] using e, by have e := h 2; simpa [Lf, sumTo] using e, by have e := h 3; simpa [Lf, sumTo] using e⟩))))
  · exact Or.inr (Or.inr (Or.inr (Or.inr (Or.inl (⟨rfl, rfl, by have e := h 0; simpa [Lf, sumTo] using e, by have e := h 1; simpa [Lf, sumTo] using e, by have e := h 2; simpa [Lf, sumTo] using e⟩)))))
  · exact Or.inr (Or.inr (Or.inr (Or.inr (Or.inr (Or.inl (⟨rfl, rfl, by have e := h 0; simpa [Lf, sumTo] using e, by have e := h (-1); simpa [Lf, sumTo] using e, by have e := h 1; simpa [Lf, sumTo] using e, by have e := h 2; simpa [Lf, sumTo] using e⟩))))))
  · exact Or.inr (Or.inr (Or.inr (Or.inr (Or.inr (Or.inr (⟨rfl, rfl, by have e := h 0; simpa [Lf, sumTo] using e, by have e := h (-2); simpa [Lf, sumTo] using e, by have e := h 1; simpa [Lf, sumTo] using e, by have e := h (-1); simpa [Lf, sumTo] using e, by have e := h 2; simpa [Lf, sumTo] using e⟩))))))
  · exact Or.inl (⟨by have e := h 0; simpa [Lf, sumTo] using e, by have e := h (-3); simpa [Lf, sumTo] using e, by have e := h 1; simpa [Lf, sumTo] using e, by have e := h (-2); simpa [Lf, sumTo] using e, by have e := h 2; simpa [Lf, sumTo] using e, by have e := h (-1); simpa [Lf, sumTo] using e⟩)
  · exact Or.inl (⟨by have e := h 0; simpa [Lf, sumTo] using e, by have e := h 3; simpa [Lf, sumTo] using e, by have e := h 2; simpa [Lf, sumTo] using e, by have e := h 5; simpa [Lf, sumTo] using e, by have e := h 4; simpa [Lf, sumTo] using e, by have e := h 7; simpa [Lf, sumTo] using e⟩)
  · exact absurd hd (by decide)
  · exact Or.inl (⟨by have e := h 0; simpa [Lf, sumTo] using e, by have e := h 1; simpa [Lf, sumTo] using e, by have e := h 2; simpa [Lf, sumTo] using e, by have e := h 3; simpa [Lf, sumTo] using e, by have e := h 4; simpa [Lf, sumTo] using e, by have e := h 5; simpa [Lf, sumTo] using e⟩)
  · exact absurd hd (by decide)
  · exact Or.inl (⟨by have e := h 0; simpa [Lf, sumTo] using e, by have e := h (-1); simpa [Lf, sumTo] using e, by have e := h 2; simpa [Lf, sumTo] using e, by have e := h 1; simpa [Lf, sumTo] using e, by have e := h 4; simpa [Lf, sumTo] using e, by have e := h 3; simpa [Lf, sumTo] using e⟩)
  · exact absurd hd (by decide)
  · exact Or.inl (⟨by have e := h 0; simpa [Lf, sumTo] using e, by have e := h (-3); simpa [Lf, sumTo] using e, by have e := h 2; simpa [Lf, sumTo] using e, by have e := h (-1); simpa [Lf, sumTo] using e, by have e := h 4; simpa [Lf, sumTo] using e, by have e := h 1; simpa [Lf, sumTo] using e⟩)
  · exact absurd hd (by decide)
  · exact Or.inl (⟨by have e := h 0; simpa [Lf, sumTo] using e, by have e := h 2; simpa [Lf, sumTo] using e, by have e := h 3; simpa [Lf, sumTo] using e, by have e := h 5; simpa [Lf, sumTo] using e, by have e := h 6; simpa [Lf, sumTo] using e, by have e := h 8; simpa [Lf, sumTo] using e⟩)
  · exact Or.inl (⟨by have e := h 0; simpa [Lf, sumTo] using e, by have e := h 1; simpa [Lf, sumTo] using e, by have e := h 3; simpa [Lf, sumTo] using e, by have e := h 4; simpa [Lf, sumTo] using e, by have e := h 6; simpa [Lf, sumTo] using e, by have e := h 7; simpa [Lf, sumTo] using e⟩)
  · exact absurd hd (by decide)
  · exact Or.inl (⟨by have e := h 0; simpa [Lf, sumTo] using e, by have e := h (-1); simpa [Lf, sumTo] using e, by have e := h 3; simpa [Lf, sumTo] using e, by have e := h 2; simpa [Lf, sumTo] using e, by have e := h 6; simpa [Lf, sumTo] using e, by have e := h 5; simpa [Lf, sumTo] using e⟩)
  · exact Or.inl (⟨by have e := h 0; simpa [Lf, sumTo] using e, by have e := h (-2); simpa [Lf, sumTo] using e, by have e := h 3; simpa [Lf, sumTo] using e, by have e := h 1; simpa [Lf, sumTo] using e, by have e := h 6; simpa [Lf, sumTo] using e, by have e := h 4; simpa [Lf, sumTo] using e⟩)
  · exact absurd hd (by decide)
theorem one32 {D : Nat → Nat → Int} {dx dy : Int} (hd : dirOk dx dy = true) (h : ∀ c, Lf D 3 2 dx dy c = 0) (hc : 3 ≤ max dy (-dy) ∨ 2 ≤ dx) : AZ32 D := by
  rcases small32 hd h with z | ⟨rfl, rfl, f0, f1⟩ | ⟨rfl, rfl, f0, f1, f2, f3, f4⟩ | ⟨rfl, rfl, f0, f1, f2, f3⟩ | ⟨rfl, rfl, f0, f1, f2⟩ | ⟨rfl, rfl, f0, f1, f2, f3⟩ | ⟨rfl, rfl, f0, f1, f2, f3, f4⟩
  · exact z
  · omega
  · omega
  · omega
  · omega
  · omega
  · omega
set_option maxHeartbeats 4000000 in
theorem two32 {D : Nat → Nat → Int} {dx dy px py : Int} (hd : dirOk dx dy = true) (h : ∀ c, Lf D 3 2 dx dy c = 0) (hp : dirOk px py = true) (g : ∀ c, Lf D 3 2 px py c = 0) (hne : dx = px → dy ≠ py) (hc : 3 ≤ max dy (-dy) + max py (-py) ∨ 2 ≤ dx + px) : AZ32 D := by
  have s1 := small32 hd h
  have s2 := small32 hp g
  clear hd h hp g
  unfold AZ32 at s1 s2 ⊢
  rcases s1 with z | ⟨rfl, rfl, f0, f1⟩ | ⟨rfl, rfl, f0, f1, f2, f3, f4⟩ | ⟨rfl, rfl, f0, f1, f2, f3⟩ | ⟨rfl, rfl, f0, f1, f2⟩ | ⟨rfl, rfl, f0, f1, f2, f3⟩ | ⟨rfl, rfl, f0, f1, f2, f3, f4⟩
  · exact z
  all_goals
    rcases s2 with z | ⟨rfl, rfl, g0, g1⟩ | ⟨rfl, rfl, g0, g1, g2, g3, g4⟩ | ⟨rfl, rfl, g0, g1, g2, g3⟩ | ⟨rfl, rfl, g0, g1, g2⟩ | ⟨rfl, rfl, g0, g1, g2, g3⟩ | ⟨rfl, rfl, g0, g1, g2, g3, g4⟩
    · exact z
    all_goals first | (exact absurd rfl (hne rfl)) | (exfalso; omega) | (refine ⟨by omega, by omega, by omega, by omega, by omega, by omega⟩)
set_option maxHeartbeats 16000000 in
theorem tri32 {D : Nat → Nat → Int} {dx dy px py qx qy : Int} (hd : dirOk dx dy = true) (h : ∀ c, Lf D 3 2 dx dy c = 0) (hp : dirOk px py = true) (g : ∀ c, Lf D 3 2 px py c = 0) (hq : dirOk qx qy = true) (e : ∀ c, Lf D 3 2 qx qy c = 0) (hne : dx = px → dy ≠ py) (hne2 : dx = qx → dy ≠ qy) (hne3 : px = qx → py ≠ qy) (hc : 3 ≤ max dy (-dy) + max py (-py) + max qy (-qy) ∨ 2 ≤ dx + px + qx) : AZ32 D := by
  by_cases c1 : 3 ≤ max dy (-dy) + max py (-py) ∨ 2 ≤ dx + px
  · exact two32 hd h hp g hne c1
  by_cases c2 : 3 ≤ max dy (-dy) + max qy (-qy) ∨ 2 ≤ dx + qx
  · exact two32 hd h hq e hne2 c2
  by_cases c3 : 3 ≤ max py (-py) + max qy (-qy) ∨ 2 ≤ px + qx
  · exact two32 hp g hq e hne3 c3
  have s1 := small32 hd h
  have s2 := small32 hp g
  have s3 := small32 hq e
  clear hd h hp g hq e
  unfold AZ32 at s1 s2 s3 ⊢
  rcases s1 with z | ⟨rfl, rfl, f0, f1⟩ | ⟨rfl, rfl, f0, f1, f2, f3, f4⟩ | ⟨rfl, rfl, f0, f1, f2, f3⟩ | ⟨rfl, rfl, f0, f1, f2⟩ | ⟨rfl, rfl, f0, f1, f2, f3⟩ | ⟨rfl, rfl, f0, f1, f2, f3, f4⟩
  · exact z
  all_goals
    rcases s2 with z | ⟨rfl, rfl, g0, g1⟩ | ⟨rfl, rfl, g0, g1, g2, g3, g4⟩ | ⟨rfl, rfl, g0, g1, g2, g3⟩ | ⟨rfl, rfl, g0, g1, g2⟩ | ⟨rfl, rfl, g0, g1, g2, g3⟩ | ⟨rfl, rfl, g0, g1, g2, g3, g4⟩
    · exact z
    all_goals first | (exact absurd rfl (hne rfl)) | (exfalso; clear s3 hc hne2 hne3; omega) | skip
    all_goals
      rcases s3 with z | ⟨rfl, rfl, e0, e1⟩ | ⟨rfl, rfl, e0, e1, e2, e3, e4⟩ | ⟨rfl, rfl, e0, e1, e2, e3⟩ | ⟨rfl, rfl, e0, e1, e2⟩ | ⟨rfl, rfl, e0, e1, e2, e3⟩ | ⟨rfl, rfl, e0, e1, e2, e3, e4⟩
      · exact z
      all_goals first | (exact absurd rfl (hne2 rfl)) | (exact absurd rfl (hne3 rfl)) | (exfalso; omega) | (refine ⟨by omega, by omega, by omega, by omega, by omega, by omega⟩)
def AZ33 (D : Nat → Nat → Int) : Prop := D 0 0 = 0 ∧ D 0 1 = 0 ∧ D 0 2 = 0 ∧ D 1 0 = 0 ∧ D 1 1 = 0 ∧ D 1 2 = 0 ∧ D 2 0 = 0 ∧ D 2 1 = 0 ∧ D 2 2 = 0
set_option maxHeartbeats 2000000 in
theorem small33 {D : Nat → Nat → Int} {dx dy : Int} (hd : dirOk dx dy = true) (h : ∀ c, Lf D 3 3 dx dy c = 0) : AZ33 D ∨ (dx = 0 ∧ dy = 1 ∧ D 0 0 + D 1 0 + D 2 0 = 0 ∧ D 0 1 + D 1 1 + D 2 1 = 0 ∧ D 0 2 + D 1 2 + D 2 2 = 0) ∨ (dx = 1 ∧ dy = (-2) ∧ D 0 0 = 0 ∧ D 0 1 + D 2 0 = 0 ∧ D 0 2 + D 2 1 = 0 ∧ D 1 0 = 0 ∧ D 1 1 = 0 ∧ D 1 2 = 0 ∧ D 2 2 = 0) ∨ (dx = 1 ∧ dy = (-1) ∧ D 0 0 = 0 ∧ D 0 1 + D 1 0 = 0 ∧ D 0 2 + D 1 1 + D 2 0 = 0 ∧ D 1 2 + D 2 1 = 0 ∧ D 2 2 = 0) ∨ (dx = 1 ∧ dy = 0 ∧ D 0 0 + D 0 1 + D 0 2 = 0 ∧ D 1 0 + D 1 1 + D 1 2 = 0 ∧ D 2 0 + D 2 1 + D 2 2 = 0) ∨ (dx = 1 ∧ dy = 1 ∧ D 0 0 + D 1 1 + D 2 2 = 0 ∧ D 0 1 + D 1 2 = 0 ∧ D 0 2 = 0 ∧ D 1 0 + D 2 1 = 0 ∧ D 2 0 = 0) ∨ (dx = 1 ∧ dy = 2 ∧ D 0 0 + D 2 1 = 0 ∧ D 0 1 + D 2 2 = 0 ∧ D 0 2 = 0 ∧ D 1 0 = 0 ∧ D 1 1 = 0 ∧ D 1 2 = 0 ∧ D 2 0 = 0) ∨ (dx = 2 ∧ dy = (-1) ∧ D 0 0 = 0 ∧ D 0 1 = 0 ∧ D 0 2 + D 1 0 = 0 ∧ D 1 1 = 0 ∧ D 1 2 + D 2 0 = 0 ∧ D 2 1 = 0 ∧ D 2 2 = 0) ∨ (dx = 2 ∧ dy = 1 ∧ D 0 0 + D 1 2 = 0 ∧ D 0 1 = 0 ∧ D 0 2 = 0 ∧ D 1 0 + D 2 2 = 0 ∧ D 1 1 = 0 ∧ D 2 0 = 0 ∧ D 2 1 = 0) := by
  obtain ⟨⟨a1, a2⟩, a3, a4⟩ := dir_bd hd
  have hx : dx = 0 ∨ dx = 1 ∨ dx = 2 ∨ dx = 3 := by omega
  have hy : dy = -3 ∨ dy = -2 ∨ dy = -1 ∨ dy = 0 ∨ dy = 1 ∨ dy = 2 ∨ dy = 3 := by omega
  clear a1 a2 a3 a4
  rcases hx with rfl | rfl | rfl | rfl <;> rcases hy with rfl | rfl | rfl | rfl | rfl | rfl | rfl
  · exact absurd hd (by decide)
  · exact absurd hd (by decide)
  · exact absurd hd (by decide)
  · exact absurd hd (by decide)
  · exact Or.inr (Or.inl (⟨rfl, rfl, by have e := h 0; simpa [Lf, sumTo] using e, by have e := h (-1); simpa [Lf, sumTo] using e, by have e := h (-2); simpa [Lf, sumTo] using e⟩))
  · exact absurd hd (by decide)
  · exact absurd hd (by decide)
  · exact Or.inl (⟨by have e := h 0; simpa [Lf, sumTo] using e, by have e := h 3; simpa [Lf, sumTo] using e, by have e := h 6; simpa [Lf, sumTo] using e, by have e := h 1; simpa [Lf, sumTo] using e, by have e := h 4; simpa [Lf, sumTo] using e, by have e := h 7; simpa [Lf, sumTo] using e, by have e := h 2; simpa [Lf, sumTo] using e, by have e := h 5; simpa [Lf, sumTo] using e, by have e := h 8; simpa [Lf, sumTo] using e⟩)
  · exact Or.inr (Or.inr (Or.inl (⟨rfl, rfl, by have e := h 0; simpa [Lf, sumTo] using e, by have e := h 2; simpa [Lf, sumTo] using e, by have e := h 4; simpa [Lf, sumTo] using e, by have e := h 1; simpa [Lf, sumTo] using e, by have e := h 3; simpa [Lf, sumTo] using e, by have e := h 5; simpa [Lf, sumTo] using e, by have e := h 6; simpa [Lf, sumTo] using e⟩)))
  · exact Or.inr (Or.inr (Or.inr (Or.inl (⟨rfl, rfl, by have e := h 0; simpa [Lf, sumTo] using e, by have e := h 1; simpa [Lf, sumTo] using e, by have e := h 2; simpa [Lf, sumTo] using e, by have e := h 3; simpa [Lf, sumTo] using e, by have e := h 4; simpa [Lf, sumTo] using e⟩))))
  · exact Or.inr (Or.inr (Or.inr (Or.inr (Or.inl (⟨rfl, rfl, by have e := h 0; simpa [Lf, sumTo] using e, by have e := h 1; simpa [Lf, sumTo] using e, by have e := h 2; simpa [Lf, sumTo] using e⟩)))))
  · exact Or.inr (Or.inr (Or.inr (Or.inr (Or.inr (Or.inl (⟨rfl, rfl, by have e := h 0; simpa [Lf, sumTo] using e, by have e := h (-1); simpa [Lf, sumTo] using e, by have e := h (-2); simpa [Lf, sumTo] using e, by have e := h 1; simpa [Lf, sumTo] using e, by have e := h 2; simpa [Lf, sumTo] using e⟩))))))
  · exact Or.inr (Or.inr (Or.inr (Or.inr (Or.inr (Or.inr (Or.inl (⟨rfl, rfl, by have e := h 0; simpa [Lf, sumTo] using e, by have e := h (-2); simpa [Lf, sumTo] using e, by have e := h (-4); simpa [Lf, sumTo] using e, by have e := h 1; simpa [Lf, sumTo] using e, by have e := h (-1); simpa [Lf, sumTo] using e, by have e := h (-3); simpa [Lf, sumTo] using e, by have e := h 2; simpa [Lf, sumTo] using e⟩)))))))
  · exact Or.inl (⟨by have e := h 0; simpa [Lf, sumTo] using e, by have e := h (-3); simpa [Lf, sumTo] using e, by have e := h (-6); simpa [Lf, sumTo] using e, by have e := h 1; simpa [Lf, sumTo] using e, by have e := h (-2); simpa [Lf, sumTo] using e, by have e := h (-5); simpa [Lf, sumTo] using e, by have e := h 2; simpa [Lf, sumTo] using e, by have e := h (-1); simpa [Lf, sumTo] using e, by have e := h (-4); simpa [Lf, sumTo] using e⟩)
  · exact Or.inl (⟨by have e := h 0; simpa [Lf, sumTo] using e, by have e := h 3; simpa [Lf, sumTo] using e, by have e := h 6; simpa [Lf, sumTo] using e, by have e := h 2; simpa [Lf, sumTo] using e, by have e := h 5; simpa [Lf, sumTo] using e, by have e := h 8; simpa [Lf, sumTo] using e, by have e := h 4; simpa [Lf, sumTo] using e, by have e := h 7; simpa [Lf, sumTo] using e, by have e := h 10; simpa [Lf, sumTo] using e⟩)
  · exact absurd hd (by decide)
  · exact Or.inr (Or.inr (Or.inr (Or.inr (Or.inr (Or.inr (Or.inr (Or.inl (⟨rfl, rfl, by have e := h 0; simpa [Lf, sumTo] using e, by have e := h 1; simpa [Lf, sumTo] using e, by have e := h 2; simpa [Lf, sumTo] using e, by have e := h 3; simpa [Lf, sumTo] using e, by have e := h 4; simpa [Lf, sumTo] using e, by have e := h 5; simpa [Lf, sumTo] using e, by have e := h 6; simpa [Lf, sumTo] using e⟩))))))))
  · exact absurd hd (by decide)
  · exact Or.inr (Or.inr (Or.inr (Or.inr (Or.inr (Or.inr (Or.inr (Or.inr (⟨rfl, rfl, by have e := h 0; simpa [Lf, sumTo] using e, by have e := h (-1); simpa [Lf, sumTo] using e, by have e := h (-2); simpa [Lf, sumTo] using e, by have e := h 2; simpa [Lf, sumTo] using e, by have e := h 1; simpa [Lf, sumTo] using e, by have e := h 4; simpa [Lf, sumTo] using e, by have e := h 3; simpa [Lf, sumTo] using e⟩))))))))
  · exact absurd hd (by decide)
  · exact Or.inl (⟨by have e := h 0; simpa [Lf, sumTo] using e, by have e := h (-3); simpa [Lf, sumTo] using e, by have e := h (-6); simpa [Lf, sumTo] using e, by have e := h 2; simpa [Lf, sumTo] using e, by have e := h (-1); simpa [Lf, sumTo] using e, by have e := h (-4); simpa [Lf, sumTo] using e, by have e := h 4; simpa [Lf, sumTo] using e, by have e := h 1; simpa [Lf, sumTo] using e, by have e := h (-2); simpa [Lf, sumTo] using e⟩)
  · exact absurd hd (by decide)
  · exact Or.inl (⟨by have e := h 0; simpa [Lf, sumTo] using e, by have e := h 2; simpa [Lf, sumTo] using e, by have e := h 4; simpa [Lf, sumTo] using e, by have e := h 3; simpa [Lf, sumTo] using e, by have e := h 5; simpa [Lf, sumTo] using e, by have e := h 7; simpa [Lf, sumTo] using e, by have e := h 6; simpa [Lf, sumTo] using e, by have e := h 8; simpa [Lf, sumTo] using e, by have e := h 10; simpa [Lf, sumTo] using e⟩)
  · exact Or.inl (⟨by have e := h 0; simpa [Lf, sumTo] using e, by have e := h 1; simpa [Lf, sumTo] using e, by have e := h 2; simpa [Lf, sumTo] using e, by have e := h 3; simpa [Lf, sumTo] using e, by have e := h 4; simpa [Lf, sumTo] using e, by have e := h 5; simpa [Lf, sumTo] using e, by have e := h 6; simpa [Lf, sumTo] using e, by have e := h 7; simpa [Lf, sumTo] using e, by have e := h 8; simpa [Lf, sumTo] using e⟩)
  · exact absurd hd (by decide)
  · exact Or.inl (⟨by have e := h 0; simpa [Lf, sumTo] using e, by have e := h (-1); simpa [Lf, sumTo] using e, by have e := h (-2); simpa [Lf, sumTo] using e, by have e := h 3; simpa [Lf, sumTo] using e, by have e := h 2; simpa [Lf, sumTo] using e, by have e := h 1; simpa [Lf, sumTo] using e, by have e := h 6; simpa [Lf, sumTo] using e, by have e := h 5; simpa [Lf, sumTo] using e, by have e := h 4; simpa [Lf, sumTo] using e⟩)
  · exact Or.inl (⟨by have e := h 0; simpa [Lf, sumTo] using e, by have e := h (-2); simpa [Lf, sumTo] using e, by have e := h (-4); simpa [Lf, sumTo] using e, by have e := h 3; simpa [Lf, sumTo] using e, by have e := h 1; simpa [Lf, sumTo] using e, by have e := h (-1); simpa [Lf, sumTo] using e, by have e := h 6; simpa [Lf, sumTo] using e, by have e := h 4; simpa [Lf, sumTo] using e, by have e := h 2; simpa [Lf, sumTo] using e⟩)
  · exact absurd hd (by decide)
theorem one33 {D : Nat → Nat → Int} {dx dy : Int} (hd : dirOk dx dy = true) (h : ∀ c, Lf D 3 3 dx dy c = 0) (hc : 3 ≤ max dy (-dy) ∨ 3 ≤ dx) : AZ33 D := by
  rcases small33 hd h with z | ⟨rfl, rfl, f0, f1, f2⟩ | ⟨rfl, rfl, f0, f1, f2, f3, f4, f5, f6⟩ | ⟨rfl, rfl, f0, f1, f2, f3, f4⟩ | ⟨rfl, rfl, f0, f1, f2⟩ | ⟨rfl, rfl, f0, f1, f2, f3, f4⟩ | ⟨rfl, rfl, f0, f1, f2, f3, f4, f5, f6⟩ | ⟨rfl, rfl, f0, f1, f2, f3, f4, f5, f6⟩ | ⟨rfl, rfl, f0, f1, f2, f3, f4, f5, f6⟩
  · exact z
  · omega
  · omega
  · omega
  · omega
  · omega
  · omega
  · omega
  · omega
set_option maxHeartbeats 4000000 in
theorem two33 {D : Nat → Nat → Int} {dx dy px py : Int} (hd : dirOk dx dy = true) (h : ∀ c, Lf D 3 3 dx dy c = 0) (hp : dirOk px py = true) (g : ∀ c, Lf D 3 3 px py c = 0) (hne : dx = px → dy ≠ py) (hc : 3 ≤ max dy (-dy) + max py (-py) ∨ 3 ≤ dx + px) : AZ33 D := by
  have s1 := small33 hd h
  have s2 := small33 hp g
  clear hd h hp g
  unfold AZ33 at s1 s2 ⊢
  rcases s1 with z | ⟨rfl, rfl, f0, f1, f2⟩ | ⟨rfl, rfl, f0, f1, f2, f3, f4, f5, f6⟩ | ⟨rfl, rfl, f0, f1, f2, f3, f4⟩ | ⟨rfl, rfl, f0, f1, f2⟩ | ⟨rfl, rfl, f0, f1, f2, f3, f4⟩ | ⟨rfl, rfl, f0, f1, f2, f3, f4, f5, f6⟩ | ⟨rfl, rfl, f0, f1, f2, f3, f4, f5, f6⟩ | ⟨rfl, rfl, f0, f1, f2, f3, f4, f5, f6⟩
  · exact z
  all_goals
    rcases s2 with z | ⟨rfl, rfl, g0, g1, g2⟩ | ⟨rfl, rfl, g0, g1, g2, g3, g4, g5, g6⟩ | ⟨rfl, rfl, g0, g1, g2, g3, g4⟩ | ⟨rfl, rfl, g0, g1, g2⟩ | ⟨rfl, rfl, g0, g1, g2, g3, g4⟩ | ⟨rfl, rfl, g0, g1, g2, g3, g4, g5, g6⟩ | ⟨rfl, rfl, g0, g1, g2, g3, g4, g5, g6⟩ | ⟨rfl, rfl, g0, g1, g2, g3, g4, g5, g6⟩
    · exact z
    all_goals first | (exact absurd rfl (hne rfl)) | (exfalso; omega) | (refine ⟨by omega, by omega, by omega, by omega, by omega, by omega, by omega, by omega, by omega⟩)
set_option maxHeartbeats 16000000 in
theorem tri33 {D : Nat → Nat → Int} {dx dy px py qx qy : Int} (hd : dirOk dx dy = true) (h : ∀ c, Lf D 3 3 dx dy c = 0) (hp : dirOk px py = true) (g : ∀ c, Lf D 3 3 px py c = 0) (hq : dirOk qx qy = true) (e : ∀ c, Lf D 3 3 qx qy c = 0) (hne : dx = px → dy ≠ py) (hne2 : dx = qx → dy ≠ qy) (hne3 : px = qx → py ≠ qy) (hc : 3 ≤ max dy (-dy) + max py (-py) + max qy (-qy) ∨ 3 ≤ dx + px + qx) : AZ33 D := by
  by_cases c1 : 3 ≤ max dy (-dy) + max py (-py) ∨ 3 ≤ dx + px
  · exact two33 hd h hp g hne c1
  by_cases c2 : 3 ≤ max dy (-dy) + max qy (-qy) ∨ 3 ≤ dx + qx
  · exact two33 hd h hq e hne2 c2
  by_cases c3 : 3 ≤ max py (-py) + max qy (-qy) ∨ 3 ≤ px + qx
  · exact two33 hp g hq e hne3 c3
  have s1 := small33 hd h
  have s2 := small33 hp g
  have s3 := small33 hq e
  clear hd h hp g hq e
  unfold AZ33 at s1 s2 s3 ⊢
  rcases s1 with z | ⟨rfl, rfl, f0, f1, f2⟩ | ⟨rfl, rfl, f0, f1, f2, f3, f4, f5, f6⟩ | ⟨rfl, rfl, f0, f1, f2, f3, f4⟩ | ⟨rfl, rfl, f0, f1, f2⟩ | ⟨rfl, rfl, f0, f1, f2, f3, f4⟩ | ⟨rfl, rfl, f0, f1, f2, f3, f4, f5, f6⟩ | ⟨rfl, rfl, f0, f1, f2, f3, f4, f5, f6⟩ | ⟨rfl, rfl, f0, f1, f2, f3, f4, f5, f6⟩
  · exact z
  all_goals
    rcases s2 with z | ⟨rfl, rfl, g0, g1, g2⟩ | ⟨rfl, rfl, g0, g1, g2, g3, g4, g5, g6⟩ | ⟨rfl, rfl, g0, g1, g2, g3, g4⟩ | ⟨rfl, rfl, g0, g1, g2⟩ | ⟨rfl, rfl, g0, g1, g2, g3, g4⟩ | ⟨rfl, rfl, g0, g1, g2, g3, g4, g5, g6⟩ | ⟨rfl, rfl, g0, g1, g2, g3, g4, g5, g6⟩ | ⟨rfl, rfl, g0, g1, g2, g3, g4, g5, g6⟩
    · exact z
    all_goals first | (exact absurd rfl (hne rfl)) | (exfalso; clear s3 hc hne2 hne3; omega) | skip
    all_goals
      rcases s3 with z | ⟨rfl, rfl, e0, e1, e2⟩ | ⟨rfl, rfl, e0, e1, e2, e3, e4, e5, e6⟩ | ⟨rfl, rfl, e0, e1, e2, e3, e4⟩ | ⟨rfl, rfl, e0, e1, e2⟩ | ⟨rfl, rfl, e0, e1, e2, e3, e4⟩ | ⟨rfl, rfl, e0, e1, e2, e3, e4, e5, e6⟩ | ⟨rfl, rfl, e0, e1, e2, e3, e4, e5, e6⟩ | ⟨rfl, rfl, e0, e1, e2, e3, e4, e5, e6⟩
      · exact z
      all_goals first | (exact absurd rfl (hne2 rfl)) | (exact absurd rfl (hne3 rfl)) | (exfalso; omega) | (refine ⟨by omega, by omega, by omega, by omega, by omega, by omega, by omega, by omega, by omega⟩)
end Go.Proofs.Ytmffhmokbifadaa
