/- Lists of directions in blocks of their own. -/
import Derived.Test.YtiekgdgonleoaaaMake3
namespace Go.Proofs.Ytiekgdgonleoaaa
open Go.RowKit Tomo

def flatD : List (Int × Int) → List Value
  | [] => []
  | d :: ds => .int .i64 d.1 :: .int .i64 d.2 :: flatD ds
theorem flatD_len (ds : List (Int × Int)) : (flatD ds).length = ds.length * 2 := by
  induction ds with
  | nil => rfl
  | cons d ds ih => simp only [flatD, List.length_cons, ih]; omega
theorem flatD_app (a b : List (Int × Int)) : flatD (a ++ b) = flatD a ++ flatD b := by
  induction a with
  | nil => rfl
  | cons d a ih => simp only [List.cons_append, flatD, ih]
theorem flatD_at {ds : List (Int × Int)} : ∀ {k : Nat} {d : Int × Int}, ds[k]? = some d → (flatD ds)[k * 2]? = some (.int .i64 d.1) ∧ (flatD ds)[k * 2 + 1]? = some (.int .i64 d.2) := by
  induction ds with
  | nil => intro k d h; simp at h
  | cons e ds ih =>
    intro k d h
    cases k with
    | zero =>
      have h1 : e = d := by simpa using h
      subst h1
      exact ⟨rfl, rfl⟩
    | succ k =>
      have h1 : ds[k]? = some d := by simpa using h
      have h2 := ih h1
      rw [show (k + 1) * 2 = k * 2 + 2 by omega]
      exact ⟨h2.1, h2.2⟩
theorem flatD_one {ds : List (Int × Int)} : ∀ u ∈ flatD ds, u.oneCell' = true := by
  induction ds with
  | nil => intro u hu; cases hu
  | cons d ds ih =>
    intro u hu
    simp only [flatD, List.mem_cons] at hu
    rcases hu with rfl | rfl | hu
    · rfl
    · rfl
    · exact ih u hu
/-- the slice v holds these directions, in a block of its own from B on -/
def OwnD (w : World) (B : Nat) (v : Value) (ds : List (Int × Int)) : Prop := w.ownsRow B 35 2 v ds.length (flatD ds)
theorem OwnD.ext {w w' : World} {B : Nat} {v : Value} {ds : List (Int × Int)} (h : OwnD w B v ds) (k : Ext w w') : OwnD w' B v ds := ownsRow_ext h k
theorem OwnD.base {w : World} {B B' : Nat} {v : Value} {ds : List (Int × Int)} (h : OwnD w B v ds) (k : B' ≤ B) : OwnD w B' v ds := ownsRow_base h k
theorem OwnD.keeps {p B : Nat} {w w' : World} {v : Value} {ds : List (Int × Int)} (h : OwnD w B v ds) (k : Keeps p w w') (hp : p < B) : OwnD w' B v ds := by
  obtain ⟨h1, h2⟩ := h
  refine ⟨h1, ?_⟩
  rcases h2 with h3 | ⟨g, cap, cur, hv, hb, hg, hr⟩
  · exact Or.inl h3
  · have hlt : g < w.heap.size := by
      rcases Nat.lt_or_ge g w.heap.size with h3 | h3
      · exact h3
      · rw [Array.getElem?_eq_none h3] at hg; cases hg
    exact Or.inr ⟨g, cap, cur, hv, hb, (k.2 g hlt (by omega)).trans hg, hr⟩
theorem OwnD.empty (w : World) (B : Nat) (hB : B ≤ w.heap.size) : OwnD (w.alloc (.cells #[] 35)) B (.slice (some ⟨w.heap.size, 0, none⟩) 0 0) [] :=
  World.ownsRow_lit (base := B) (e := 35) (size := 2) w #[] 0 hB (by decide) rfl
theorem OwnD.slice {w : World} {B : Nat} {v : Value} {ds : List (Int × Int)} (h : OwnD w B v ds) : ∃ A c, v = .slice A ds.length c ∧ ds.length ≤ c ∧ LDirs w A ds := by
  have h1 := h.1
  rcases h.2 with ⟨hv, h0⟩ | ⟨g, cap, cur, hv, _, hg, hle, _, hcs, htk⟩
  · have hd : ds = [] := List.length_eq_zero_iff.1 h0
    exact ⟨none, 0, by rw [hv, h0], by omega, fun k d hk => by rw [hd] at hk; simp at hk⟩
  · refine ⟨some ⟨g, 0, none⟩, cap, hv, hle, fun k d hk => ?_⟩
    have hlt : k < ds.length := (List.getElem?_eq_some_iff.1 hk).1
    have hgl : g < w.heap.size := by
      rcases Nat.lt_or_ge g w.heap.size with h3 | h3
      · exact h3
      · rw [Array.getElem?_eq_none h3] at hg; cases hg
    have key : ∀ j u, j < ds.length * 2 → (flatD ds)[j]? = some u → w.cell? ⟨g, 0 + j, none⟩ = some u := fun j u hj hu => by
      rw [← htk, List.getElem?_take, if_pos hj, Array.getElem?_toList] at hu
      rw [Nat.zero_add]
      unfold World.cell?
      simp only [hg]
      simpa using hu
    obtain ⟨f1, f2⟩ := flatD_at hk
    exact ⟨g, 0, rfl, hgl, key _ _ (by omega) f1, by rw [show 0 + k * 2 + 1 = 0 + (k * 2 + 1) by omega]; exact key _ _ (by omega) f2⟩
theorem OwnD.form {w : World} {B : Nat} {v : Value} {ds : List (Int × Int)} (h : OwnD w B v ds) (h0 : 0 < ds.length) : ∃ g c, v = .slice (some ⟨g, 0, none⟩) ds.length c ∧ ds.length ≤ c := by
  rcases h.2 with ⟨_, h1⟩ | ⟨g, cap, cur, hv, _, _, hle, _⟩
  · omega
  · exact ⟨g, cap, hv, hle⟩
theorem OwnD.cells {w : World} {B g n c : Nat} {ds : List (Int × Int)} (h : OwnD w B (.slice (some ⟨g, 0, none⟩) n c) ds) : n = ds.length ∧ B ≤ g ∧ g < w.heap.size ∧ ∀ j u, (flatD ds)[j]? = some u → w.cell? ⟨g, j, none⟩ = some u := by
  have h1 := h.1
  rcases h.2 with ⟨hv, _⟩ | ⟨g', cap, cur, hv, hb, hg, hle, _, hcs, htk⟩
  · cases hv
  · cases hv
    refine ⟨rfl, hb, ?_, fun j u hu => ?_⟩
    · rcases Nat.lt_or_ge g w.heap.size with h3 | h3
      · exact h3
      · rw [Array.getElem?_eq_none h3] at hg; cases hg
    · have hj : j < ds.length * 2 := by have := (List.getElem?_eq_some_iff.1 hu).1; omega
      rw [← htk, List.getElem?_take, if_pos hj, Array.getElem?_toList] at hu
      unfold World.cell?
      simp only [hg]
      simpa using hu
theorem addr_add (g j : Nat) : (⟨g, 0, none⟩ : Addr).add j = ⟨g, j, none⟩ := by
  unfold Addr.add
  by_cases h0 : j = 0
  · subst h0; rfl
  · rw [if_neg h0, Nat.zero_add]
end Go.Proofs.Ytiekgdgonleoaaa
