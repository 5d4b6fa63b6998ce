/- Rows of a given sum; what a row leaves of the columns. -/
import Derived.Test.YtpmpbdcbiaohdaaCopy
import Derived.Test.YtpmpbdcbiaohdaaTomA
namespace Go.Proofs.Ytpmpbdcbiaohdaa
open Go.RowKit

section
variable {ops : Array Oper} {rest : List Oper} {o : Oper} {a : Act} {Q : Exit → Act → World → Prop}
/-- 'append(v, u..)': the numbers of a slice, perhaps none -/
theorem app_any {w : World} {B B' : Nat} {v u : Value} {xs ys : List Int} (h : Own w B v xs) (hB : B ≤ w.heap.size) (hl : xs.length + ys.length ≤ 1000000) (hu : Own w B' u ys) (hgd : o.guard = none) (s x : Operand)
    (ho : o.op = .call { callee := .builtin .append, args := #[s, x], argTypes := #[27, 27] }) (hs : a.eval s = v) (hx : a.eval x = u)
    (hK : ∀ v' w', Own w' B v' (xs ++ ys) → (∀ z, Below B z w → Below B z w') → wpList Try.prog ops Q rest (a.put o.dst v') w') :
    wpList Try.prog ops Q (o :: rest) a w := by
  obtain ⟨i, hi, hz, hsz, hby⟩ := infoInt'
  refine wpList_plain hgd fun K hK' => ?_
  unfold Oper.wp execOp
  simp only [ho, resolve, invoke, builtin, Sem.run_bind, Sem.run_pure, Result.andThen_ok, List.map_toArray, List.map_cons, List.map_nil, hs, hx]
  rcases hu.2 with ⟨hv, h0⟩ | ⟨g, cap, cur, hv, _, _, hn, _⟩
  · have hr := run_append_owned_none (P := Try.prog) (w := w) B 27 o.type 3 i 1 Try.underlying27 hi v xs.length _ h
    rw [hv, hr]
    have hys : ys = [] := List.length_eq_zero_iff.1 h0
    subst hys
    exact hK' _ _ (hK v w (by rw [List.append_nil]; exact h) (fun z hz => hz))
  · have hnews : ∀ (j : Nat) u', (ys.map (Value.int .i64))[j]? = some u' → w.cell? ((⟨g, 0, none⟩ : Addr).add j) = some u' := fun j u' hu' => World.ownsRow.cells hu (by rw [hv]; rfl) j u' hu'
    obtain ⟨v', w', hr, hown, hgrow, _, _⟩ := run_append_own_at (P := Try.prog) w B 27 o.type 3 i (.int .i64 0) 1 8 Try.underlying27 hi hz hsz hby rfl (by decide) v xs.length (xs.map (Value.int .i64)) h ⟨g, 0, none⟩ ys.length cap (ys.map (Value.int .i64)) (by simp) hnews
      (fun u' hu' => by obtain ⟨y, _, rfl⟩ := List.mem_map.1 hu'; rfl) (by unfold maxLen; omega) (by omega) hB
    rw [hv, hr]
    refine hK' _ _ (hK v' w' ?_ (fun z hz => hz.grown hgrow hB fun k hk => (World.ownsRow.lt h k hk).1))
    unfold Own
    rw [List.length_append, List.map_append]
    exact hown
end

open Tomo
theorem subRow_take_succ {a b : List Int} {k : Nat} {x y : Int} (h : a[k]? = some x) (h' : b[k]? = some y) : subRow (a.take (k + 1)) (b.take (k + 1)) = subRow (a.take k) (b.take k) ++ [x - y] := by
  have ha : k < a.length := by
    rcases Nat.lt_or_ge k a.length with h1 | h1
    · exact h1
    · rw [List.getElem?_eq_none h1] at h; cases h
  have hb : k < b.length := by
    rcases Nat.lt_or_ge k b.length with h1 | h1
    · exact h1
    · rw [List.getElem?_eq_none h1] at h'; cases h'
  rw [take_succ_of h, take_succ_of h']
  unfold subRow
  rw [List.zipWith_append (by rw [List.length_take, List.length_take]; omega)]
  simp
theorem leRow_take_succ {a b : List Int} {k : Nat} {x y : Int} (h : a[k]? = some x) (h' : b[k]? = some y) : leRow (b.take (k + 1)) (a.take (k + 1)) = (leRow (b.take k) (a.take k) && decide (y ≤ x)) := by
  have ha : k < a.length := by
    rcases Nat.lt_or_ge k a.length with h1 | h1
    · exact h1
    · rw [List.getElem?_eq_none h1] at h; cases h
  have hb : k < b.length := by
    rcases Nat.lt_or_ge k b.length with h1 | h1
    · exact h1
    · rw [List.getElem?_eq_none h1] at h'; cases h'
  rw [take_succ_of h, take_succ_of h']
  unfold leRow
  rw [List.zipWith_append (by rw [List.length_take, List.length_take]; omega), List.all_append]
  simp
theorem leRow_false {a b : List Int} {k : Nat} {x y : Int} (h : a[k]? = some x) (h' : b[k]? = some y) (hlt : x < y) : leRow b a = false := by
  unfold leRow
  rw [List.all_eq_false]
  refine ⟨false, ?_, by simp⟩
  rw [List.mem_iff_getElem?]
  exact ⟨k, by rw [List.getElem?_zipWith, h, h']; simp; omega⟩

end Go.Proofs.Ytpmpbdcbiaohdaa
