/- A map from numbers to numbers that the call has made. -/
import Derived.Test.YtlhjbpachpjpkaaGrA
import Derived.Maps.OwnSet
import Derived.Maps.Views
namespace Go.Proofs.Ytlhjbpachpjpkaa
open Go.RowKit Go.Maps

theorem lit_inj {H : Type} {a b : Int} (h : (DataW.lit (.int .i64 a) : DataW H) = .lit (.int .i64 b)) : a = b := by cases h; rfl
theorem keyedInt : Keyed Try.prog 3 := int_keyed Try.underlying3
theorem zeroI (w : World) : (zeroValue 3).run Try.prog w = .ok (.int .i64 0) w := by kernel_rfl
/-- block b is a map of at most n entries, which holds f -/
def MapF (w : World) (b n : Nat) (f : Int → Option Int) : Prop := ∃ D : DataW Unit, w.ownsMap Try.prog 3 (plainElem Try.prog 3) b n D ∧ IsMap D ∧
  ∀ x : Int, (Lit.int .i64 x).wf = true → has D (.int .i64 x) = (f x).isSome ∧ D.atKey (.int .i64 x) (.lit (.int .i64 0)) = .lit (.int .i64 ((f x).getD 0))
theorem MapF.made (w : World) : MapF (w.alloc (.map #[] 0)) w.heap.size 0 (fun _ => none) := ⟨.map [], World.ownsMap_made _ _ _ _, isMap_empty, fun _ _ => ⟨rfl, rfl⟩⟩
theorem MapF.blk {w w' : World} {b n : Nat} {f : Int → Option Int} (h : MapF w b n f) (e : w'.heap[b]? = w.heap[b]?) : MapF w' b n f := by
  obtain ⟨D, ⟨es, clock, hb, hrest⟩, h2⟩ := h
  exact ⟨D, ⟨es, clock, e.trans hb, hrest⟩, h2⟩
theorem MapF.isMap {w : World} {b n : Nat} {f : Int → Option Int} (h : MapF w b n f) : ∃ es clock, w.heap[b]? = some (.map es clock) := by
  obtain ⟨D, ⟨es, clock, hb, _⟩, _⟩ := h
  exact ⟨es, clock, hb⟩
theorem MapF.look {w : World} {b n : Nat} {f : Int → Option Int} (h : MapF w b n f) {x : Int} (hx : (Lit.int .i64 x).wf = true) :
    (Instr.lookup 83 (.map (some b)) (.int .i64 x) false).run Try.prog w = .ok (.int .i64 ((f x).getD 0)) w := by
  obtain ⟨D, ho, _, hf⟩ := h
  obtain ⟨c, hr, hat, _⟩ := ho.lookup_int (q := .i64) keyedInt Try.underlying83 Try.underlying3 (zeroI w) (keyOf_int_mk Try.underlying3 hx)
  rw [(hf x hx).2] at hat
  rw [hr, lit_inj hat]
theorem MapF.look2 {w : World} {b n : Nat} {f : Int → Option Int} (h : MapF w b n f) {x : Int} (hx : (Lit.int .i64 x).wf = true) :
    (Instr.lookup 83 (.map (some b)) (.int .i64 x) true).run Try.prog w = .ok (.tuple #[.int .i64 ((f x).getD 0), .bool (f x).isSome]) w := by
  obtain ⟨D, ho, _, hf⟩ := h
  obtain ⟨v, ps, hr, hv⟩ := ho.look_ok keyedInt Try.underlying83 (zeroI w) (plainElem_int Try.underlying3 (by decide)) (keyOf_int_mk Try.underlying3 hx)
  obtain ⟨h1, h2⟩ := hf x hx
  rw [h1] at hr
  rw [h2] at hv
  obtain ⟨c, rfl, hc, _⟩ := plainElem_int_inv Try.underlying3 hv
  rw [hr, lit_inj (congrArg Prod.fst hc)]
theorem MapF.put {w : World} {b n : Nat} {f : Int → Option Int} (h : MapF w b n f) (hn : n ≤ 1000000000) {x v : Int} (hx : (Lit.int .i64 x).wf = true) (hv : (Lit.int .i64 v).wf = true) :
    ∃ w', (Instr.mapUpdate 83 (.map (some b)) (.int .i64 x) (.int .i64 v)).run Try.prog w = .ok () w' ∧ MapF w' b (n + 1) (fun y => if y = x then some v else f y) ∧ w.grownBy w' (some b) := by
  obtain ⟨D, ho, hm, hf⟩ := h
  obtain ⟨w', hr, ho', hg⟩ := ho.update keyedInt Try.underlying83 (by unfold maxLen; omega) (val := .int .i64 v) (keyOf_int_mk Try.underlying3 hx) (plainElem_int Try.underlying3 hv)
  refine ⟨w', hr, ⟨_, ho', hm.put _ _, fun y hy => ?_⟩, hg⟩
  by_cases e : y = x
  · subst e
    rw [has_put_same hm (show WideAt.IsKeyLit (Lit.int .i64 y) from trivial), atKey_put_same hm (show WideAt.IsKeyLit (Lit.int .i64 y) from trivial)]
    simp
  · have hne : Lit.int .i64 y ≠ Lit.int .i64 x := fun h => by injection h with _ h; exact e h
    rw [has_put_other hne, atKey_put_other hne, (hf y hy).1, (hf y hy).2]
    simp [e]
theorem wf_small {x : Int} (h0 : -1000000000000 ≤ x) (h1 : x ≤ 1000000000000) : (Lit.int .i64 x).wf = true := by
  unfold Lit.wf
  rw [Bool.and_eq_true, decide_eq_true_eq, decide_eq_true_eq]
  have h2 : IntKind.i64.min = -9223372036854775808 := by decide
  have h3 : IntKind.i64.max = 9223372036854775807 := by decide
  rw [h2, h3]
  omega
end Go.Proofs.Ytlhjbpachpjpkaa
