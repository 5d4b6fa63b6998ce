/- From the row's reading of an argument to what the walks ask. -/
import Derived.Test.YtmcnpdpplmbofaaMem
import Derived.ProofKit
import Derived.OpenShut
import Derived.Deep.Matrix
import Derived.Carry
namespace Go.Proofs.Ytmcnpdpplmbofaa
open Go.ChangeShapes Go.WideShapes Go.ChangeAt Go.RowKit

theorem own : ownKnob Try.prog.godebug = none := by kernel_rfl
theorem laidOut : laidOutB Try.prog = true := by kernel_rfl
theorem cellsInt : Try.prog.cellsOf 3 = 1 := by kernel_rfl
theorem cellsInts : Try.prog.cellsOf 23 = 1 := by kernel_rfl

section
variable {H : Type} {enc : TypeId × Value → H} {w : World} {base : Nat} {v : Value} {d : DataW H} {ps : List MemPlace}

theorem ints_of_cells {a : Addr} {zs : List Int} {len : Nat} (hlen : len ≤ zs.length) (hc : ∀ i, i < zs.length → w.cell? (a.add i) = some (.int .i64 (zs.getD i 0))) :
    (zs.take len).length = len ∧ Ints w (some a) (zs.take len) := by
  refine ⟨by rw [List.length_take]; omega, fun k x hk => ?_⟩
  rw [List.getElem?_take] at hk
  by_cases hkl : k < len
  · rw [if_pos hkl] at hk
    obtain ⟨b, off, spot⟩ := a
    have hspot : spot = none := by simpa [Addr.add] using World.cell?_spot (hc 0 (by omega))
    subst hspot
    have h1 := hc k (by omega)
    have e : (⟨b, off, none⟩ : Addr).add k = ⟨b, off + k, none⟩ := by
      unfold Addr.add
      by_cases h0 : k = 0
      · subst h0; rfl
      · rw [if_neg h0]
    rw [e, List.getD_eq_getElem?_getD, hk] at h1
    exact ⟨b, off, rfl, World.block_lt_of_cell? _ _ h1, h1⟩
  · rw [if_neg hkl] at hk; cases hk

/-- an argument of type []int -/
theorem opened_ints (hv : Value.okWide Try.prog w .any base 23 v) (h : DataW.Trod enc Try.prog w 0 (fun _ => true) true 23 v d ps) :
    ∃ A cap xs, v = .slice A xs.length cap ∧ xs.length ≤ 9223372036854775807 ∧ Ints w A xs := by
  obtain ⟨a0, len, cap, rfl⟩ := okWide_slice Try.underlying23 hv
  obtain ⟨fuel, hf⟩ := h
  rcases open_ints Try.underlying23 Try.underlying3 cellsInt hf with ⟨hcs, _⟩ | ⟨a, len', cap', zs, hcs, _, hl, hm, hz, _, hcell, _⟩
  · simp [Value.cells] at hcs
    obtain ⟨rfl, rfl, rfl⟩ := hcs
    exact ⟨none, 0, [], rfl, by simp, fun k x hk => by simp at hk⟩
  · simp [Value.cells] at hcs
    obtain ⟨rfl, rfl, rfl⟩ := hcs
    simp only [if_true] at hz
    obtain ⟨h1, h2⟩ := ints_of_cells (w := w) (len := len) (by omega) hcell
    unfold maxLen at hm
    exact ⟨some a, cap, zs.take len, by rw [h1], by rw [h1]; omega, h2⟩

set_option maxRecDepth 100000 in
/-- an argument of type [][]int -/
theorem opened_grid (hv : Value.okWide Try.prog w .any base 22 v) (h : DataW.Trod enc Try.prog w 0 (fun _ => true) true 22 v d ps) :
    ∃ A cap g, v = .slice A g.length cap ∧ g.length ≤ 9223372036854775807 ∧ (∀ r ∈ g, r.length ≤ 9223372036854775807) ∧ GridAt w A g := by
  obtain ⟨a0, len, cap, rfl⟩ := okWide_slice Try.underlying22 hv
  obtain ⟨fuel, hf⟩ := h
  rcases Go.Deep.open_int_rows Try.underlying22 Try.underlying23 Try.underlying3 cellsInts cellsInt hf with ⟨hcs, _⟩ | ⟨a, len', cap', A, L, C, Z, hcs, _, hl, hm, _, hrows⟩
  · simp [Value.cells] at hcs
    obtain ⟨rfl, rfl, rfl⟩ := hcs
    exact ⟨none, 0, [], rfl, by simp, by simp, fun k x hk => by simp at hk⟩
  · simp [Value.cells] at hcs
    obtain ⟨rfl, rfl, rfl⟩ := hcs
    unfold maxLen at hm hrows
    have hrl : ∀ r, r < cap → ((Z r).take (L r)).length = L r := fun r hr => by
      obtain ⟨_, h1, _, h2, _⟩ := hrows r hr
      rw [List.length_take]; omega
    refine ⟨some a, cap, (List.range len).map fun r => (Z r).take (L r), by simp, by simp; omega, ?_, ?_⟩
    · intro r hr
      obtain ⟨k, hk, rfl⟩ := List.mem_map.1 hr
      have hk' := List.mem_range.1 hk
      obtain ⟨_, h1, h2, _⟩ := hrows k (by omega)
      rw [hrl k (by omega)]; omega
    · intro k r hk
      rw [List.getElem?_map] at hk
      by_cases hkl : k < len
      · rw [List.getElem?_range hkl] at hk
        simp only [Option.map_some] at hk
        injection hk with hk
        subst hk
        obtain ⟨h1, h2, h3, h4, h5, h6, h7⟩ := hrows k (by omega)
        obtain ⟨b, off, spot⟩ := a
        have hspot : spot = none := by simpa [Addr.add] using World.cell?_spot (hrows 0 (by omega)).1
        subst hspot
        have e : (⟨b, off, none⟩ : Addr).add k = ⟨b, off + k, none⟩ := by
          unfold Addr.add
          by_cases h0 : k = 0
          · subst h0; rfl
          · rw [if_neg h0]
        rw [e] at h1
        refine ⟨b, off, A k, C k, rfl, World.block_lt_of_cell? _ _ h1, by rw [hrl k (by omega)]; exact h1, by rw [hrl k (by omega)]; exact h2, ?_⟩
        cases hA : A k with
        | none =>
          have h0 := h6 hA
          have hL : L k = 0 := by omega
          intro i x hx
          rw [hL] at hx; simp at hx
        | some a' =>
          obtain ⟨_, hcells⟩ := h7 a' hA
          exact (ints_of_cells (w := w) (len := L k) (by omega) (fun i hi => hcells i (by omega))).2
      · rw [List.getElem?_eq_none (by simp; omega)] at hk; simp at hk
end
end Go.Proofs.Ytmcnpdpplmbofaa
