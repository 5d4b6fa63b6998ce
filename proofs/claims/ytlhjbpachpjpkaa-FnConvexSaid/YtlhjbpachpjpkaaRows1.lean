/- Rows of a given sum; what a row leaves of the columns. -/
import Derived.Test.YtlhjbpachpjpkaaCopy
import Derived.Test.YtlhjbpachpjpkaaTomA
namespace Go.Proofs.Ytlhjbpachpjpkaa
open Go.RowKit

section
variable {ops : Array Oper} {rest : List Oper} {o : Oper} {a : Act} {Q : Exit → Act → World → Prop}
set_option maxRecDepth 100000 in
/-- 'append(v, u..)': the numbers of a slice, perhaps none -/
theorem app_any {w : World} {B B' : Nat} {v u : Value} {xs ys : List Int} (h : Own w B v xs) (hB : B ≤ w.heap.size) (hl : xs.length + ys.length ≤ 1000000) (hu : Own w B' u ys) (hgd : o.guard = none) (s x : Operand)
    (ho : o.op = .call { callee := .builtin .append, args := #[s, x], argTypes := #[28, 28] }) (hs : a.eval s = v) (hx : a.eval x = u)
    (hK : ∀ v' w', Own w' B v' (xs ++ ys) → (∀ z, Below B z w → Below B z w') → wpList Try.prog ops Q rest (a.put o.dst v') w') :
    wpList Try.prog ops Q (o :: rest) a w := by
  obtain ⟨i, hi, hz, hsz, hby⟩ := infoInt'
  refine wpList_plain hgd fun K hK' => ?_
  unfold Oper.wp execOp
  simp only [ho, resolve, invoke, builtin, Sem.run_bind, Sem.run_pure, Result.andThen_ok, List.map_toArray, List.map_cons, List.map_nil, hs, hx]
  rcases hu.2 with ⟨hv, h0⟩ | ⟨g, cap, cur, hv, _, _, hn, _⟩
  · have hr := run_append_owned_none (P := Try.prog) (w := w) B 28 o.type 3 i 1 Try.underlying28 hi v xs.length _ h
    rw [hv, hr]
    have hys : ys = [] := List.length_eq_zero_iff.1 h0
    subst hys
    exact hK' _ _ (hK v w (by rw [List.append_nil]; exact h) (fun z hz => hz))
  · have hnews : ∀ (j : Nat) u', (ys.map (Value.int .i64))[j]? = some u' → w.cell? ((⟨g, 0, none⟩ : Addr).add j) = some u' := fun j u' hu' => World.ownsRow.cells hu (by rw [hv]; rfl) j u' hu'
    obtain ⟨v', w', hr, hown, hgrow, _, _⟩ := run_append_own_at (P := Try.prog) w B 28 o.type 3 i (.int .i64 0) 1 8 Try.underlying28 hi hz hsz hby rfl (by decide) v xs.length (xs.map (Value.int .i64)) h ⟨g, 0, none⟩ ys.length cap (ys.map (Value.int .i64)) (by simp) hnews
      (fun u' hu' => by obtain ⟨y, _, rfl⟩ := List.mem_map.1 hu'; rfl) (by unfold maxLen; omega) (by omega) hB
    rw [hv, hr]
    refine hK' _ _ (hK v' w' ?_ (fun z hz => hz.grown hgrow hB fun k hk => (World.ownsRow.lt h k hk).1))
    unfold Own
    rw [List.length_append, List.map_append]
    exact hown
end

open Tomo
theorem subRow_take_succ {a b : List Int} {k : Nat} {x y : Int} (h : a[k]? = some x) (h' : b[k]? = some y) : subRow (a.take (k + 1)) (b.take (k + 1)) = subRow (a.take k) (b.take k) ++ [x - y] := by
  have ha : k < a.length := by
    rcases Nat.lt_or_ge k a.length with h1 | h1
    · exact h1
    · rw [List.getElem?_eq_none h1] at h; cases h
  have hb : k < b.length := by
    rcases Nat.lt_or_ge k b.length with h1 | h1
    · exact h1
    · rw [List.getElem?_eq_none h1] at h'; cases h'
  rw [take_succ_of h, take_succ_of h']
  unfold subRow
  rw [List.zipWith_append (by rw [List.length_take, List.length_take]; omega)]
  simp
theorem leRow_take_succ {a b : List Int} {k : Nat} {x y : Int} (h : a[k]? = some x) (h' : b[k]? = some y) : leRow (b.take (k + 1)) (a.take (k + 1)) = (leRow (b.take k) (a.take k) && decide (y ≤ x)) := by
  have ha : k < a.length := by
    rcases Nat.lt_or_ge k a.length with h1 | h1
    · exact h1
    · rw [List.getElem?_eq_none h1] at h; cases h
  have hb : k < b.length := by
    rcases Nat.lt_or_ge k b.length with h1 | h1
    · exact h1
    · rw [List.getElem?_eq_none h1] at h'; cases h'
  rw [take_succ_of h, take_succ_of h']
  unfold leRow
  rw [List.zipWith_append (by rw [List.length_take, List.length_take]; omega), List.all_append]
  simp
theorem leRow_false {a b : List Int} {k : Nat} {x y : Int} (h : a[k]? = some x) (h' : b[k]? = some y) (hlt : x < y) : leRow b a = false := by
  unfold leRow
  rw [List.all_eq_false]
  refine ⟨false, ?_, by simp⟩
  rw [List.mem_iff_getElem?]
  exact ⟨k, by rw [List.getElem?_zipWith, h, h']; simp; omega⟩

set_option maxHeartbeats 2000000 in
theorem l05Left_any (A B : Option Addr) (ca cb : Nat) (xs ys : List Int) (w : World) (hl : xs.length ≤ 100) (hxy : ys.length = xs.length) (hs : ∀ x ∈ xs, -100 ≤ x ∧ x ≤ 100) (hs2 : ∀ y ∈ ys, -100 ≤ y ∧ y ≤ 100) (hx : Ints w A xs) (hy : Ints w B ys) :
    Calls Try.prog 84 #[.slice A xs.length ca, .slice B xs.length cb] w fun e w' => Ext w w' ∧
      (leRow ys xs = false → ∃ v, e = .returned (.tuple #[v, .bool false])) ∧ (leRow ys xs = true → ∃ v, e = .returned (.tuple #[v, .bool true]) ∧ Own w' w.heap.size v (subRow xs ys)) := by
  go_enter Try.func84, Try.ntmps84
  go_wp2
  go_loopw [6, 7, 8, 12] (fun v _ _ i wr => ∃ k : Nat, k ≤ xs.length ∧ i = .int .i64 k ∧ Hid (leRow (ys.take k) (xs.take k) = true) ∧ Hid (Own wr w.heap.size v (subRow (xs.take k) (ys.take k))) ∧ Hid (Ext w wr)) (fun _ _ _ i _ => xs.length - (intOf i).toNat)
  case atStart => exact ⟨0, Nat.zero_le _, rfl, Lib.hid rfl, Lib.hid (Own.empty w _ (Nat.le_refl _)), Lib.hid ((Ext.refl w).alloc _)⟩
  case round =>
    obtain ⟨k, hk, rfl, hle, ho, he⟩ := hrel
    by_cases hlt : k < xs.length
    · obtain ⟨b, o, x, rfl, _, HX, hcx⟩ := (hx.ext he.out).at_ hlt
      obtain ⟨b2, o2, y, rfl, _, HY, hcy⟩ := (hy.ext he.out).at_ (k := k) (by omega)
      obtain ⟨hx1, hx2⟩ := hs x (List.mem_of_getElem? HX.out)
      obtain ⟨hy1, hy2⟩ := hs2 y (List.mem_of_getElem? HY.out)
      have HXY := Lib.hid hxy
      clear hx hy hs hs2 hxy
      by_cases hbad : x < y
      · have HB := Lib.hid (leRow_false HX.out HY.out hbad)
        go_wp2
        go_ret2
        exact ⟨he.out, fun _ => ⟨_, rfl⟩, fun h => by rw [HB.out] at h; cases h⟩
      · have hB : w.heap.size ≤ wr.heap.size := he.out.size
        have HLE : Hid (leRow (ys.take (k + 1)) (xs.take (k + 1)) = true) := Lib.hid (by rw [leRow_take_succ HX.out HY.out, hle.out]; simp; omega)
        have HOl : Hid ((subRow (xs.take k) (ys.take k)).length ≤ 100) := Lib.hid (by unfold subRow; rw [List.length_zipWith, List.length_take]; omega)
        have HI : Hid (Ints (wr.alloc (.cells #[.int .i64 (x - y)] 3)) (some ⟨wr.heap.size, 0, none⟩) [x - y]) := Lib.hid (fun j z hj => by
          cases j with
          | zero => have : x - y = z := by simpa using hj
                    exact ⟨wr.heap.size, 0, rfl, by simp, by rw [← this]; exact new_cell rfl⟩
          | succ j => simp at hj)
        go_wp2_with (at_builtin; refine app_ints (ys := [x - y]) (ho.out.ext ((Ext.refl wr).alloc _)) (by simp; omega) (by have := HOl.out; simp; omega) (by simp) HI.out rfl _ _ rfl rfl rfl ?_)
        intro g cap w1 hown hb _ _
        have HN : Hid (∀ n, n = (subRow (xs.take k) (ys.take k)).length + 1 → Own w1 w.heap.size (.slice (some ⟨g, 0, none⟩) n cap) (subRow (xs.take (k + 1)) (ys.take (k + 1)))) := Lib.hid (fun n hn => by rw [subRow_take_succ HX.out HY.out, hn]; exact hown)
        have HE2 : Hid (Ext w w1) := Lib.hid (hb w (he.out.alloc _))
        clear hown hb
        go_wp2
        go_roundw
        case rel => exact ⟨k + 1, by omega, by go_num, HLE, Lib.hid (HN.out _ (by simp)), HE2⟩
        case measure => simp [intOf]; omega
    · obtain rfl : k = xs.length := by omega
      have HLE : Hid (leRow ys xs = true) := Lib.hid (by have := hle.out; rw [take_full] at this; rw [← hxy, take_full] at this; exact this)
      have HO : Hid (Own wr w.heap.size u6 (subRow xs ys)) := Lib.hid (by have := ho.out; rw [take_full] at this; rw [← hxy, take_full] at this; exact this)
      clear hle ho
      go_wp2
      go_ret2
      exact ⟨he.out, fun h => (by rw [HLE.out] at h; cases h), fun _ => ⟨_, rfl, HO.out⟩⟩
end Go.Proofs.Ytlhjbpachpjpkaa
