/- The opening of an argument of directions. -/
import Derived.Test.YtnnkondlefjkcaaDirs2
import Derived.Test.YtnnkondlefjkcaaRow
import Derived.Deep.SlicePairs
namespace Go.Proofs.Ytnnkondlefjkcaa
open Go.ChangeShapes Go.WideShapes Go.Deep Go.RowKit
section
variable {H : Type} {enc : TypeId × Value → H} {w : World} {base : Nat} {v : Value} {d : DataW H} {ps : List MemPlace}

/-- an argument of type []Direction -/
theorem opened_ldirs (hv : Value.okWide Try.prog w .any base 39 v) (h : DataW.Trod enc Try.prog w 0 (fun _ => true) true 39 v d ps) :
    ∃ A cap ds, v = .slice A ds.length cap ∧ ds.length ≤ 9223372036854775807 ∧ LDirs w A ds := by
  obtain ⟨a0, len, cap, rfl⟩ := okWide_slice Try.underlying39 hv
  obtain ⟨fuel, hf⟩ := h
  rcases open_slice_pairs Try.underlying39 Try.underlying29 (by kernel_rfl) rfl rfl (by kernel_rfl) (by kernel_rfl) hf with ⟨hcs, _⟩ | ⟨a, len', cap', m, n, V0, V1, D0, D1, P0, P1, hcs, _, hl, hm, hmm, _, hi⟩
  · simp [Value.cells] at hcs
    obtain ⟨rfl, rfl, rfl⟩ := hcs
    exact ⟨none, 0, [], rfl, by simp, fun k x hk => by simp at hk⟩
  · simp [Value.cells] at hcs
    obtain ⟨rfl, rfl, rfl⟩ := hcs
    rw [if_pos rfl] at hmm
    subst hmm
    unfold maxLen at hm
    have key : ∀ i, i < len → ∃ q : Int × Int, w.cell? (a.add (i * 2)) = some (.int .i64 q.1) ∧ w.cell? (a.add (i * 2 + 1)) = some (.int .i64 q.2) := fun i hi' => by
      obtain ⟨h0, h1, h2, h3⟩ := hi i (by omega)
      obtain ⟨x, hx, _⟩ := DataW.trod_int Try.underlying3 h2
      obtain ⟨y, hy, _⟩ := DataW.trod_int Try.underlying3 h3
      have ex : V0 i = .int .i64 x := by simpa using hx
      have ey : V1 i = .int .i64 y := by simpa using hy
      exact ⟨(x, y), by rw [h0, ex], by rw [h1, ey]⟩
    obtain ⟨q, hq⟩ := choose_lt key
    refine ⟨some a, m, (List.range len).map q, by simp, by rw [List.length_map, List.length_range]; omega, fun k x hk => ?_⟩
    have hlt : k < len := by
      rcases Nat.lt_or_ge k len with h1 | h1
      · exact h1
      · rw [List.getElem?_eq_none (by simpa using h1)] at hk; cases hk
    have hxq : x = q k := by rw [List.getElem?_map, List.getElem?_range hlt] at hk; simpa using hk.symm
    subst hxq
    obtain ⟨h1, h2⟩ := hq k hlt
    obtain ⟨b, off, spot⟩ := a
    have hspot : spot = none := by simpa [Addr.add] using World.cell?_spot (hq 0 (by omega)).1
    subst hspot
    have e : ∀ j, (⟨b, off, none⟩ : Addr).add j = ⟨b, off + j, none⟩ := fun j => by
      unfold Addr.add
      by_cases h0 : j = 0
      · subst h0; rfl
      · rw [if_neg h0]
    rw [e] at h1 h2
    exact ⟨b, off, rfl, World.block_lt_of_cell? _ _ h1, h1, by rw [← h2, Nat.add_assoc]⟩
end
end Go.Proofs.Ytnnkondlefjkcaa
