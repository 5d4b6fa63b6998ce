/- Texts merged: Exists1 Exists2 Exists3. -/
import Derived.Test.YtpmpbdcbiaohdaaRows1
import Derived.Test.YtpmpbdcbiaohdaaTomA
import Derived.Test.YtpmpbdcbiaohdaaReA
import Derived.BigQuiet
import Derived.Deep.QuietTactic
namespace Go.Proofs.Ytpmpbdcbiaohdaa
open Go.RowKit Tomo

/-- the conjugate of the first i rows, and one more in its first k cells -/
def cj (rows : List Int) (n i k : Nat) : List Int := (List.range n).map fun (j : Nat) => (((rows.take i).countP fun r => decide ((j : Int) < r) : Nat) : Int) + if j < k then 1 else 0
def conj (rows : List Int) (n : Nat) : List Int := cj rows n rows.length 0
theorem cj_len (rows : List Int) (n i k : Nat) : (cj rows n i k).length = n := by simp [cj]
theorem cj_at (rows : List Int) {n i k j : Nat} (h : j < n) : (cj rows n i k)[j]? = some ((((rows.take i).countP fun r => decide ((j : Int) < r) : Nat) : Int) + if j < k then 1 else 0) := by
  unfold cj; rw [List.getElem?_map, List.getElem?_range h]; rfl
theorem cj_set (rows : List Int) {n i k : Nat} {c : Int} (h : k < n) (hc : (cj rows n i k)[k]? = some c) : (cj rows n i k).set k (c + 1) = cj rows n i (k + 1) := by
  rw [cj_at rows h] at hc
  apply List.ext_getElem?
  intro j
  by_cases hj : j < n
  · by_cases e : j = k
    · subst e
      rw [List.getElem?_set_self (by rw [cj_len]; exact h), cj_at rows h]
      have := Option.some.inj hc
      have h1 : ¬ j < j := by omega
      have h2 : j < j + 1 := by omega
      rw [if_neg h1] at this
      rw [if_pos h2]
      congr 1; omega
    · rw [List.getElem?_set_ne (fun h => e h.symm), cj_at rows hj, cj_at rows hj]
      congr 2
      by_cases h3 : j < k
      · rw [if_pos h3, if_pos (by omega)]
      · rw [if_neg h3, if_neg (by omega)]
  · rw [List.getElem?_eq_none (by rw [List.length_set, cj_len]; omega), List.getElem?_eq_none (by rw [cj_len]; omega)]
theorem cj_next (rows : List Int) {n i : Nat} {x : Int} {k : Nat} (hx : rows[i]? = some x) (hk : x = k) : cj rows n i k = cj rows n (i + 1) 0 := by
  unfold cj
  apply List.map_congr_left
  intro j _
  rw [take_succ_of hx, List.countP_append]
  by_cases h : j < k
  · have h2 : (j : Int) < x := by omega
    simp [h, h2]
  · have h2 : ¬ (j : Int) < x := by omega
    simp [h, h2]
theorem conj_take_sum (rows : List Int) {n k : Nat} (hk : k ≤ n) (h0 : ∀ r ∈ rows, 0 ≤ r) : ((conj rows n).take k).sum = mostIn rows k := by
  have e : (conj rows n).take k = (List.range k).map fun (j : Nat) => ((rows.countP fun r => decide ((j : Int) < r) : Nat) : Int) := by
    unfold conj cj
    rw [← List.map_take, List.take_range, Nat.min_eq_left hk]
    apply List.map_congr_left
    intro j _
    simp
  rw [e]
  clear e
  induction rows with
  | nil =>
    unfold mostIn
    have : ∀ l : List Nat, (l.map fun (j : Nat) => ((([] : List Int).countP fun r => decide ((j : Int) < r) : Nat) : Int)).sum = 0 := by
      intro l; induction l with
      | nil => rfl
      | cons a l ih => rw [List.map_cons, List.sum_cons, ih]; rfl
    rw [this]; rfl
  | cons r rows ih =>
    have ih' := ih (fun r hr => h0 r (List.mem_cons_of_mem _ hr))
    have hr0 := h0 r List.mem_cons_self
    unfold mostIn at *
    rw [List.map_cons, List.sum_cons, ← ih']
    have key : ∀ k : Nat, ((List.range k).map fun (j : Nat) => (((r :: rows).countP fun r => decide ((j : Int) < r) : Nat) : Int)).sum = min (k : Int) r + ((List.range k).map fun (j : Nat) => ((rows.countP fun r => decide ((j : Int) < r) : Nat) : Int)).sum := by
      intro k
      induction k with
      | zero => simp; omega
      | succ k ihk =>
        rw [List.range_succ, List.map_append, List.map_append, List.sum_append, List.sum_append, ihk]
        simp only [List.map_cons, List.map_nil, List.sum_cons, List.sum_nil, List.countP_cons]
        by_cases h : (k : Int) < r
        · simp [h]; omega
        · simp [h]; omega
    exact key k

end Go.Proofs.Ytpmpbdcbiaohdaa

namespace Go.Proofs.Ytpmpbdcbiaohdaa
open Go.RowKit Tomo

/-- these are those numbers, the greatest first -/
def Down (s xs : List Int) : Prop := s.Perm xs ∧ s.Pairwise (fun a b => b ≤ a)
theorem Down.uniq : ∀ {s t xs : List Int}, Down s xs → Down t xs → s = t := by
  intro s
  induction s with
  | nil =>
    intro t xs h k
    have := h.1.length_eq.trans k.1.length_eq.symm
    exact (List.length_eq_zero_iff.1 this.symm).symm
  | cons a s ih =>
    intro t xs h k
    have hp : (a :: s).Perm t := h.1.trans k.1.symm
    cases t with
    | nil => exact absurd hp.length_eq (by simp)
    | cons b t =>
      have hab : a = b := by
        have h1 : a ∈ b :: t := hp.subset List.mem_cons_self
        have h2 : b ∈ a :: s := hp.symm.subset List.mem_cons_self
        have h3 : a ≤ b := by
          rcases List.mem_cons.1 h1 with e | e
          · omega
          · exact (List.pairwise_cons.1 k.2).1 a e
        have h4 : b ≤ a := by
          rcases List.mem_cons.1 h2 with e | e
          · omega
          · exact (List.pairwise_cons.1 h.2).1 b e
        omega
      subst hab
      have hp2 := List.Perm.cons_inv hp
      rw [ih (xs := t) ⟨hp2, (List.pairwise_cons.1 h.2).2⟩ ⟨List.Perm.refl _, (List.pairwise_cons.1 k.2).2⟩]

/-- on its way: x is to go into P ++ C, which is sorted -/
structure Ins (L P C : List Int) (x : Int) (xs : List Int) : Prop where
  eq : L = P ++ x :: C
  perm : (P ++ C).Perm xs
  desc : (P ++ C).Pairwise (fun a b => b ≤ a)
  less : ∀ c ∈ C, c < x
theorem Ins.start {s xs : List Int} (h : Down s xs) (x : Int) : Ins (s ++ [x]) s [] x xs := ⟨rfl, by rw [List.append_nil]; exact h.1, by rw [List.append_nil]; exact h.2, fun c hc => by cases hc⟩
theorem Ins.swap {L P C : List Int} {x y : Int} {xs : List Int} (h : Ins L (P ++ [y]) C x xs) (hy : y < x) : Ins ((L.set (P.length + 1) y).set P.length x) P (y :: C) x xs := by
  obtain ⟨h1, h2, h3, h4⟩ := h
  refine ⟨?_, by simpa using h2, by simpa using h3, fun c hc => ?_⟩
  · rw [h1, List.append_assoc, List.set_append_right _ _ (by omega), List.set_append_right _ _ (by omega)]
    simp
  · rcases List.mem_cons.1 hc with e | e
    · omega
    · exact h4 c e
theorem Ins.done {L P C : List Int} {x : Int} {xs : List Int} (h : Ins L P C x xs) (hp : P = [] ∨ ∃ P' y, P = P' ++ [y] ∧ x ≤ y) : Down L (xs ++ [x]) := by
  obtain ⟨h1, h2, h3, h4⟩ := h
  subst h1
  refine ⟨?_, ?_⟩
  · have e : (P ++ x :: C).Perm (x :: (P ++ C)) := List.perm_middle
    have e2 : (x :: (P ++ C)).Perm (x :: xs) := List.Perm.cons x h2
    have e3 : (x :: xs).Perm (xs ++ [x]) := (List.perm_append_singleton x xs).symm
    exact (e.trans e2).trans e3
  · rw [List.pairwise_append] at h3 ⊢
    obtain ⟨p1, p2, p3⟩ := h3
    have hPx : ∀ a ∈ P, x ≤ a := by
      intro a ha
      rcases hp with rfl | ⟨P', y, rfl, hxy⟩
      · cases ha
      · rcases List.mem_append.1 ha with e | e
        · have := (List.pairwise_append.1 p1).2.2 a e y (by simp); omega
        · have : a = y := by simpa using e
          omega
    refine ⟨p1, List.pairwise_cons.2 ⟨fun c hc => by have := h4 c hc; omega, p2⟩, fun a ha b hb => ?_⟩
    rcases List.mem_cons.1 hb with e | e
    · have := hPx a ha; omega
    · exact p3 a ha b e

end Go.Proofs.Ytpmpbdcbiaohdaa

namespace Go.Proofs.Ytpmpbdcbiaohdaa
open Go.RowKit Tomo

/-- what the rows can give beyond what the first k columns ask -/
noncomputable def sortD (xs : List Int) : List Int := Classical.epsilon fun s => Down s xs
theorem sortD_of {s xs : List Int} (h : Down s xs) : sortD xs = s := (Classical.epsilon_spec (p := fun s => Down s xs) ⟨s, h⟩ : Down (sortD xs) xs).uniq h
noncomputable def gap (rows cols : List Int) (k : Nat) : Int := mostIn rows k - ((sortD cols).take k).sum
theorem allIn_of {l : List Int} {lo hi : Int} (h : ∀ x ∈ l, inR x lo hi = true) : allIn l lo hi = true := List.all_eq_true.2 h
theorem small_take {l : List Int} (h : Small l) (k : Nat) : Small (l.take k) := fun x hx => h x (List.mem_of_mem_take hx)
theorem take_ints {w : World} {A : Option Addr} {xs : List Int} (h : Ints w A xs) (k : Nat) : Ints w A (xs.take k) := fun j x hj => by
  rw [List.getElem?_take] at hj
  split at hj
  · exact h j x hj
  · cases hj
theorem conj_small (rows : List Int) (n : Nat) (h : rows.length ≤ 1000) : Small (conj rows n) := by
  intro x hx
  unfold conj cj at hx
  obtain ⟨j, _, rfl⟩ := List.mem_map.1 hx
  have h1 : (rows.take rows.length).countP (fun r => decide ((j : Int) < r)) ≤ (rows.take rows.length).length := List.countP_le_length
  have h2 : ¬ j < 0 := by omega
  rw [if_neg h2]
  rw [List.length_take] at h1
  omega


noncomputable def exI (rows cols : List Int) : Bool := sumsOk rows cols && decide (imgs rows cols ≠ [])

theorem most_zero : ∀ (l : List Int), (∀ r ∈ l, 0 ≤ r) → mostIn l 0 = 0
  | [], _ => rfl
  | r :: l, h => by
    have h1 := most_zero l (fun r hr => h r (List.mem_cons_of_mem _ hr))
    have h2 := h r List.mem_cons_self
    unfold mostIn at *
    rw [List.map_cons, List.sum_cons, h1]
    show min ((0 : Nat) : Int) r + 0 = 0
    omega


end Go.Proofs.Ytpmpbdcbiaohdaa
