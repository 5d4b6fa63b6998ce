/- From the row's reading of an argument to what the walks ask. -/
import Derived.Test.YtlhjbpachpjpkaaMem
import Derived.ProofKit
import Derived.OpenShut
import Derived.Deep.Matrix
import Derived.Carry
namespace Go.Proofs.Ytlhjbpachpjpkaa
open Go.ChangeShapes Go.WideShapes Go.ChangeAt Go.RowKit

theorem own : ownKnob Try.prog.godebug = none := by kernel_rfl
theorem laidOut : laidOutB Try.prog = true := by kernel_rfl
theorem cellsInt : Try.prog.cellsOf 3 = 1 := by kernel_rfl
theorem cellsInts : Try.prog.cellsOf 28 = 1 := by kernel_rfl

section
variable {H : Type} {enc : TypeId × Value → H} {w : World} {base : Nat} {v : Value} {d : DataW H} {ps : List MemPlace}

theorem ints_of_cells {a : Addr} {zs : List Int} {len : Nat} (hlen : len ≤ zs.length) (hc : ∀ i, i < zs.length → w.cell? (a.add i) = some (.int .i64 (zs.getD i 0))) :
    (zs.take len).length = len ∧ Ints w (some a) (zs.take len) := by
  refine ⟨by rw [List.length_take]; omega, fun k x hk => ?_⟩
  rw [List.getElem?_take] at hk
  by_cases hkl : k < len
  · rw [if_pos hkl] at hk
    obtain ⟨b, off, spot⟩ := a
    have hspot : spot = none := by simpa [Addr.add] using World.cell?_spot (hc 0 (by omega))
    subst hspot
    have h1 := hc k (by omega)
    have e : (⟨b, off, none⟩ : Addr).add k = ⟨b, off + k, none⟩ := by
      unfold Addr.add
      by_cases h0 : k = 0
      · subst h0; rfl
      · rw [if_neg h0]
    rw [e, List.getD_eq_getElem?_getD, hk] at h1
    exact ⟨b, off, rfl, World.block_lt_of_cell? _ _ h1, h1⟩
  · rw [if_neg hkl] at hk; cases hk

set_option maxRecDepth 100000 in
/-- an argument of type []int -/
theorem opened_ints (hv : Value.okWide Try.prog w .any base 28 v) (h : DataW.Trod enc Try.prog w 0 (fun _ => true) true 28 v d ps) :
    ∃ A cap xs, v = .slice A xs.length cap ∧ xs.length ≤ 9223372036854775807 ∧ Ints w A xs := by
  obtain ⟨a0, len, cap, rfl⟩ := okWide_slice Try.underlying28 hv
  obtain ⟨fuel, hf⟩ := h
  rcases open_ints Try.underlying28 Try.underlying3 cellsInt hf with ⟨hcs, _⟩ | ⟨a, len', cap', zs, hcs, _, hl, hm, hz, _, hcell, _⟩
  · simp [Value.cells] at hcs
    obtain ⟨rfl, rfl, rfl⟩ := hcs
    exact ⟨none, 0, [], rfl, by simp, fun k x hk => by simp at hk⟩
  · simp [Value.cells] at hcs
    obtain ⟨rfl, rfl, rfl⟩ := hcs
    simp only [if_true] at hz
    obtain ⟨h1, h2⟩ := ints_of_cells (w := w) (len := len) (by omega) hcell
    unfold maxLen at hm
    exact ⟨some a, cap, zs.take len, by rw [h1], by rw [h1]; omega, h2⟩

end
end Go.Proofs.Ytlhjbpachpjpkaa
