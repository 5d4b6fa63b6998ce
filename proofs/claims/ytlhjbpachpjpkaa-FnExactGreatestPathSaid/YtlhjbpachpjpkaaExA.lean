/- Texts merged: Exists1 Exists2 Exists3. -/
import Derived.Test.YtlhjbpachpjpkaaRwA
import Derived.Test.YtlhjbpachpjpkaaTomA
import Derived.Test.YtlhjbpachpjpkaaReA
import Derived.BigQuiet
import Derived.Deep.QuietTactic
namespace Go.Proofs.Ytlhjbpachpjpkaa
open Go.RowKit Tomo

/-- the conjugate of the first i rows, and one more in its first k cells -/
def cj (rows : List Int) (n i k : Nat) : List Int := (List.range n).map fun (j : Nat) => (((rows.take i).countP fun r => decide ((j : Int) < r) : Nat) : Int) + if j < k then 1 else 0
def conj (rows : List Int) (n : Nat) : List Int := cj rows n rows.length 0
theorem cj_len (rows : List Int) (n i k : Nat) : (cj rows n i k).length = n := by simp [cj]
theorem cj_at (rows : List Int) {n i k j : Nat} (h : j < n) : (cj rows n i k)[j]? = some ((((rows.take i).countP fun r => decide ((j : Int) < r) : Nat) : Int) + if j < k then 1 else 0) := by
  unfold cj; rw [List.getElem?_map, List.getElem?_range h]; rfl
theorem cj_set (rows : List Int) {n i k : Nat} {c : Int} (h : k < n) (hc : (cj rows n i k)[k]? = some c) : (cj rows n i k).set k (c + 1) = cj rows n i (k + 1) := by
  rw [cj_at rows h] at hc
  apply List.ext_getElem?
  intro j
  by_cases hj : j < n
  · by_cases e : j = k
    · subst e
      rw [List.getElem?_set_self (by rw [cj_len]; exact h), cj_at rows h]
      have := Option.some.inj hc
      have h1 : ¬ j < j := by omega
      have h2 : j < j + 1 := by omega
      rw [if_neg h1] at this
      rw [if_pos h2]
      congr 1; omega
    · rw [List.getElem?_set_ne (fun h => e h.symm), cj_at rows hj, cj_at rows hj]
      congr 2
      by_cases h3 : j < k
      · rw [if_pos h3, if_pos (by omega)]
      · rw [if_neg h3, if_neg (by omega)]
  · rw [List.getElem?_eq_none (by rw [List.length_set, cj_len]; omega), List.getElem?_eq_none (by rw [cj_len]; omega)]
theorem cj_next (rows : List Int) {n i : Nat} {x : Int} {k : Nat} (hx : rows[i]? = some x) (hk : x = k) : cj rows n i k = cj rows n (i + 1) 0 := by
  unfold cj
  apply List.map_congr_left
  intro j _
  rw [take_succ_of hx, List.countP_append]
  by_cases h : j < k
  · have h2 : (j : Int) < x := by omega
    simp [h, h2]
  · have h2 : ¬ (j : Int) < x := by omega
    simp [h, h2]
theorem conj_take_sum (rows : List Int) {n k : Nat} (hk : k ≤ n) (h0 : ∀ r ∈ rows, 0 ≤ r) : ((conj rows n).take k).sum = mostIn rows k := by
  have e : (conj rows n).take k = (List.range k).map fun (j : Nat) => ((rows.countP fun r => decide ((j : Int) < r) : Nat) : Int) := by
    unfold conj cj
    rw [← List.map_take, List.take_range, Nat.min_eq_left hk]
    apply List.map_congr_left
    intro j _
    simp
  rw [e]
  clear e
  induction rows with
  | nil =>
    unfold mostIn
    have : ∀ l : List Nat, (l.map fun (j : Nat) => ((([] : List Int).countP fun r => decide ((j : Int) < r) : Nat) : Int)).sum = 0 := by
      intro l; induction l with
      | nil => rfl
      | cons a l ih => rw [List.map_cons, List.sum_cons, ih]; rfl
    rw [this]; rfl
  | cons r rows ih =>
    have ih' := ih (fun r hr => h0 r (List.mem_cons_of_mem _ hr))
    have hr0 := h0 r List.mem_cons_self
    unfold mostIn at *
    rw [List.map_cons, List.sum_cons, ← ih']
    have key : ∀ k : Nat, ((List.range k).map fun (j : Nat) => (((r :: rows).countP fun r => decide ((j : Int) < r) : Nat) : Int)).sum = min (k : Int) r + ((List.range k).map fun (j : Nat) => ((rows.countP fun r => decide ((j : Int) < r) : Nat) : Int)).sum := by
      intro k
      induction k with
      | zero => simp; omega
      | succ k ihk =>
        rw [List.range_succ, List.map_append, List.map_append, List.sum_append, List.sum_append, ihk]
        simp only [List.map_cons, List.map_nil, List.sum_cons, List.sum_nil, List.countP_cons]
        by_cases h : (k : Int) < r
        · simp [h]; omega
        · simp [h]; omega
    exact key k

set_option maxHeartbeats 2000000 in
theorem ConjugateOf_any (A : Option Addr) (c : Nat) (rows : List Int) (n : Nat) (w : World) (hl : rows.length ≤ 5) (hn1 : 1 ≤ n) (hn5 : n ≤ 5) (hin : allIn rows 0 n = true) (hx : Ints w A rows) :
    Calls Try.prog 107 #[.slice A rows.length c, .int .i64 n] w fun e w' => ∃ b, e = .returned (.slice (some ⟨b, 0, none⟩) n n) ∧ Own w' w.heap.size (.slice (some ⟨b, 0, none⟩) n n) (conj rows n) ∧ Ext w w' := by
  have b1 : inR n 1 5 = true := inR_iff.2 (by omega)
  have HIN : Hid (∀ x ∈ rows, inR x 0 n = true) := Lib.hid (fun x hx => (List.all_eq_true.1 hin) x hx)
  have hmk := run_make_row' (P := Try.prog) 28 3 (.int .i64 0) 8 Try.underlying28 infoInt rfl .i64 .i64 n (by omega) (by omega)
  have HZ : Hid (Own (w.alloc (.cells (madeCells #[.int .i64 0] n) 3)) w.heap.size (.slice (some ⟨w.heap.size, 0, none⟩) n n) (cj rows n 0 0)) := Lib.hid (by
    have h := own_zeros w n (by omega)
    have e : List.replicate n (0 : Int) = cj rows n 0 0 := by
      apply List.ext_getElem?
      intro j
      by_cases hj : j < n
      · rw [cj_at rows hj, List.getElem?_replicate, if_pos hj]; simp
      · rw [List.getElem?_eq_none (by simp; omega), List.getElem?_eq_none (by rw [cj_len]; omega)]
    rw [e] at h; exact h)
  clear hin
  go_enter Try.func107, Try.ntmps107
  go_wp2_with (go_at_call 66; refine (l01In_any _ _ _ _).mono ?_; rintro e w' ⟨rfl, rfl⟩)
  clear hmk
  go_loopw [21, 7, 8] (fun i _ _ wr => ∃ k : Nat, k ≤ rows.length ∧ i = .int .i64 k ∧ Hid (Own wr w.heap.size (.slice (some ⟨w.heap.size, 0, none⟩) n n) (cj rows n k 0)) ∧ Hid (Ext w wr)) (fun i _ _ _ => rows.length - (intOf i).toNat)
  case atStart => exact ⟨0, Nat.zero_le _, rfl, HZ, Lib.hid ((Ext.refl w).alloc _)⟩
  case round =>
    rename World => wo
    obtain ⟨k, hk, rfl, ho, he⟩ := hrel
    by_cases hlt : k < rows.length
    · obtain ⟨b, o, x, rfl, _, HX, hcx⟩ := (hx.ext he.out).at_ hlt
      have b2 := HIN.out x (List.mem_of_getElem? HX.out)
      obtain ⟨x0, xn⟩ := inR_iff.1 b2
      clear hx
      go_wp2_with (go_at_call 66; refine (l01In_any _ _ _ _).mono ?_; rintro e w' ⟨rfl, rfl⟩)
      go_loopw [8] (fun i wr => ∃ j : Nat, (j : Int) ≤ x ∧ i = .int .i64 j ∧ Hid (Own wr w.heap.size (.slice (some ⟨w.heap.size, 0, none⟩) n n) (cj rows n k j)) ∧ Hid (Ext w wr)) (fun i _ => x.toNat - (intOf i).toNat)
      case atStart => exact ⟨0, by omega, rfl, ho, he⟩
      case round =>
        clear ho
        obtain ⟨j, hj, rfl, ho, he'⟩ := hrel
        by_cases hjx : (j : Int) < x
        · have hlen : (cj rows n k j).length = n := cj_len rows n k j
          have hjn : j < (cj rows n k j).length := by rw [hlen]; omega
          have ho1 := ho.out
          rw [show (Value.slice (some ⟨w.heap.size, 0, none⟩) n n) = .slice (some ⟨w.heap.size, 0, none⟩) (cj rows n k j).length n by rw [hlen]] at ho1
          obtain ⟨⟨c0, hc0, hcell⟩, hfr, hset⟩ := ho1.put hjn
          have hs := hset (c0 + 1)
          rw [cj_set rows (by omega) hc0, hlen] at hs
          have HS := Lib.hid hs
          have hcb : 0 ≤ c0 ∧ c0 ≤ 100 := by
            rw [cj_at rows (by omega)] at hc0
            have h1 := Option.some.inj hc0
            have h2 : (rows.take k).countP (fun r => decide ((j : Int) < r)) ≤ (rows.take k).length := List.countP_le_length
            have h3 : (rows.take k).length ≤ 5 := by rw [List.length_take]; omega
            have h4 : ¬ j < j := by omega
            rw [if_neg h4] at h1
            omega
          obtain ⟨hcb1, hcb2⟩ := hcb
          have HE2 : Hid (Ext w (wr.setCell ⟨w.heap.size, j, none⟩ (.int .i64 (c0 + 1)))) := Lib.hid (Below.setCell he'.out (Nat.le_refl _) _)
          clear hset hs ho1 hc0 hlen hjn
          go_wp2
          go_roundw
          case rel => exact ⟨j + 1, by omega, by go_num, HS, HE2⟩
          case measure => simp [intOf]; omega
        · obtain ⟨m, rfl⟩ : ∃ m : Nat, x = m := ⟨x.toNat, by omega⟩
          obtain rfl : j = m := by omega
          have HN := Lib.hid (cj_next (n := n) rows HX.out rfl)
          go_wp2
          go_roundw
          case rel => exact ⟨k + 1, by omega, by go_num, Lib.hid (by rw [← HN.out]; exact ho.out), he'⟩
          case measure => simp [intOf]; omega
    · obtain rfl : k = rows.length := by omega
      go_wp2
      go_ret
      exact ⟨_, rfl, ho.out, he.out⟩
end Go.Proofs.Ytlhjbpachpjpkaa

namespace Go.Proofs.Ytlhjbpachpjpkaa
open Go.RowKit Tomo

/-- these are those numbers, the greatest first -/
def Down (s xs : List Int) : Prop := s.Perm xs ∧ s.Pairwise (fun a b => b ≤ a)
theorem Down.uniq : ∀ {s t xs : List Int}, Down s xs → Down t xs → s = t := by
  intro s
  induction s with
  | nil =>
    intro t xs h k
    have := h.1.length_eq.trans k.1.length_eq.symm
    exact (List.length_eq_zero_iff.1 this.symm).symm
  | cons a s ih =>
    intro t xs h k
    have hp : (a :: s).Perm t := h.1.trans k.1.symm
    cases t with
    | nil => exact absurd hp.length_eq (by simp)
    | cons b t =>
      have hab : a = b := by
        have h1 : a ∈ b :: t := hp.subset List.mem_cons_self
        have h2 : b ∈ a :: s := hp.symm.subset List.mem_cons_self
        have h3 : a ≤ b := by
          rcases List.mem_cons.1 h1 with e | e
          · omega
          · exact (List.pairwise_cons.1 k.2).1 a e
        have h4 : b ≤ a := by
          rcases List.mem_cons.1 h2 with e | e
          · omega
          · exact (List.pairwise_cons.1 h.2).1 b e
        omega
      subst hab
      have hp2 := List.Perm.cons_inv hp
      rw [ih (xs := t) ⟨hp2, (List.pairwise_cons.1 h.2).2⟩ ⟨List.Perm.refl _, (List.pairwise_cons.1 k.2).2⟩]

/-- on its way: x is to go into P ++ C, which is sorted -/
structure Ins (L P C : List Int) (x : Int) (xs : List Int) : Prop where
  eq : L = P ++ x :: C
  perm : (P ++ C).Perm xs
  desc : (P ++ C).Pairwise (fun a b => b ≤ a)
  less : ∀ c ∈ C, c < x
theorem Ins.start {s xs : List Int} (h : Down s xs) (x : Int) : Ins (s ++ [x]) s [] x xs := ⟨rfl, by rw [List.append_nil]; exact h.1, by rw [List.append_nil]; exact h.2, fun c hc => by cases hc⟩
theorem Ins.swap {L P C : List Int} {x y : Int} {xs : List Int} (h : Ins L (P ++ [y]) C x xs) (hy : y < x) : Ins ((L.set (P.length + 1) y).set P.length x) P (y :: C) x xs := by
  obtain ⟨h1, h2, h3, h4⟩ := h
  refine ⟨?_, by simpa using h2, by simpa using h3, fun c hc => ?_⟩
  · rw [h1, List.append_assoc, List.set_append_right _ _ (by omega), List.set_append_right _ _ (by omega)]
    simp
  · rcases List.mem_cons.1 hc with e | e
    · omega
    · exact h4 c e
theorem Ins.done {L P C : List Int} {x : Int} {xs : List Int} (h : Ins L P C x xs) (hp : P = [] ∨ ∃ P' y, P = P' ++ [y] ∧ x ≤ y) : Down L (xs ++ [x]) := by
  obtain ⟨h1, h2, h3, h4⟩ := h
  subst h1
  refine ⟨?_, ?_⟩
  · have e : (P ++ x :: C).Perm (x :: (P ++ C)) := List.perm_middle
    have e2 : (x :: (P ++ C)).Perm (x :: xs) := List.Perm.cons x h2
    have e3 : (x :: xs).Perm (xs ++ [x]) := (List.perm_append_singleton x xs).symm
    exact (e.trans e2).trans e3
  · rw [List.pairwise_append] at h3 ⊢
    obtain ⟨p1, p2, p3⟩ := h3
    have hPx : ∀ a ∈ P, x ≤ a := by
      intro a ha
      rcases hp with rfl | ⟨P', y, rfl, hxy⟩
      · cases ha
      · rcases List.mem_append.1 ha with e | e
        · have := (List.pairwise_append.1 p1).2.2 a e y (by simp); omega
        · have : a = y := by simpa using e
          omega
    refine ⟨p1, List.pairwise_cons.2 ⟨fun c hc => by have := h4 c hc; omega, p2⟩, fun a ha b hb => ?_⟩
    rcases List.mem_cons.1 hb with e | e
    · have := hPx a ha; omega
    · exact p3 a ha b e

set_option maxHeartbeats 4000000 in
theorem SortedDown_any (A : Option Addr) (c : Nat) (xs : List Int) (w : World) (hl : xs.length ≤ 100) (hx : Ints w A xs) :
    Calls Try.prog 108 #[.slice A xs.length c] w fun e w' => ∃ v s, e = .returned v ∧ Own w' w.heap.size v s ∧ Down s xs ∧ Ext w w' := by
  go_enter Try.func108, Try.ntmps108
  go_wp2
  go_loopw [3, 5, 6, 7, 11] (fun v _ _ _ i wr => ∃ (k : Nat) (s : List Int), k ≤ xs.length ∧ i = .int .i64 k ∧ Hid (Own wr w.heap.size v s) ∧ Hid (Down s (xs.take k)) ∧ Hid (Ext w wr)) (fun _ _ _ _ i _ => xs.length - (intOf i).toNat)
  case atStart => exact ⟨0, [], Nat.zero_le _, rfl, Lib.hid (Own.empty w _ (Nat.le_refl _)), Lib.hid ⟨List.Perm.refl _, List.Pairwise.nil⟩, Lib.hid ((Ext.refl w).alloc _)⟩
  case round =>
    rename World => wo
    obtain ⟨k, s, hk, rfl, ho, hd, he⟩ := hrel
    by_cases hlt : k < xs.length
    · obtain ⟨b, o, x, rfl, _, HX, hcx⟩ := (hx.ext he.out).at_ hlt
      have hsl : s.length = k := by have := hd.out.1.length_eq; rw [this, List.length_take]; omega
      have hB : w.heap.size ≤ wo.heap.size := he.out.size
      have HI : Hid (Ints (wo.alloc (.cells #[.int .i64 x] 3)) (some ⟨wo.heap.size, 0, none⟩) [x]) := Lib.hid (fun j z hj => by
        cases j with
        | zero => have : x = z := by simpa using hj
                  exact ⟨wo.heap.size, 0, rfl, by simp, by rw [← this]; exact new_cell rfl⟩
        | succ j => simp at hj)
      have HD := Lib.hid (Ins.start hd.out x)
      have HSL := Lib.hid hsl
      have hsl100 : s.length ≤ 100 := by omega
      clear hx
      go_wp2_with (at_builtin; refine app_ints (ys := [x]) (ho.out.ext ((Ext.refl wo).alloc _)) (by simp; omega) (by simp; omega) (by simp) HI.out rfl _ _ rfl rfl rfl ?_)
      intro g cap w1 hown hb _ _
      have HN : Hid (Own w1 w.heap.size (.slice (some ⟨g, 0, none⟩) (k + 1) cap) (s ++ [x])) := Lib.hid hown
      have HE2 : Hid (Ext w w1) := Lib.hid (hb w (he.out.alloc _))
      clear hown hb ho
      clear hsl
      go_wp2
      go_loopw [6, 7] (fun i _ wr => ∃ (P C L : List Int), i = .int .i64 P.length ∧ L.length = k + 1 ∧ Hid (Ins L P C x (xs.take k)) ∧ Hid (Own wr w.heap.size (.slice (some ⟨g, 0, none⟩) (k + 1) cap) L) ∧ Hid (Ext w wr)) (fun i _ _ => (intOf i).toNat)
      case atStart => exact ⟨s, [], s ++ [x], by have := HSL.out; congr 1; omega, by have := HSL.out; simp; omega, HD, HN, HE2⟩
      case round =>
        clear HD HN
        obtain ⟨P, C, L, rfl, hL, hins, ho, he'⟩ := hrel
        have HO0 := Lib.hid ho.out
        rcases List.eq_nil_or_concat P with rfl | ⟨P', y, rfl⟩
        · have HD := Lib.hid (hins.out.done (.inl rfl))
          have b1 : decide ((0 : Int) < ((([] : List Int).length : Nat) : Int)) = false := by decide
          go_wp2
          go_quiet (fail)
          go_wp2
          go_roundw
          case rel => exact ⟨k + 1, L, by omega, by go_num, Lib.hid (ho.out.ext ((Ext.refl wr).drewN _)), Lib.hid (by rw [take_succ_of HX.out]; exact HD.out), Lib.hid (he'.out.drewN _)⟩
          case measure => simp [intOf]; omega
        · rw [List.concat_eq_append] at *
          have hLP : L.length = P'.length + 1 + (C.length + 1) := by rw [hins.out.eq]; simp; omega
          have ho1 := ho.out
          rw [← hL] at ho1
          obtain ⟨⟨y', hy', hcy⟩, hfy, _⟩ := ho1.put (x := P'.length) (by omega)
          obtain ⟨⟨x', hx', hcx'⟩, hfx, hset⟩ := ho1.put (x := P'.length + 1) (by omega)
          obtain rfl : y' = y := by
            have := hins.out.eq
            rw [this, List.append_assoc, List.getElem?_append_right (Nat.le_refl _)] at hy'
            simpa using hy'.symm
          obtain rfl : x' = x := by
            have := hins.out.eq
            rw [this, List.append_assoc, List.getElem?_append_right (by omega)] at hx'
            simpa using hx'.symm
          rw [hL] at ho1 hset
          have hPl : ((P' ++ [y']).length : Int) = (P'.length : Int) + 1 := by simp
          have HPL := Lib.hid hPl
          have hk1 : P'.length + 1 < k + 1 := by omega
          have hgB : w.heap.size ≤ g := (ho1.lt (b := g) rfl).1
          have HIN := Lib.hid hins.out
          have HCH : Hid (∀ W, Own W w.heap.size (.slice (some ⟨g, 0, none⟩) (k + 1) cap) L → Own ((W.setCell ⟨g, P'.length + 1, none⟩ (.int .i64 y')).setCell ⟨g, P'.length, none⟩ (.int .i64 x')) w.heap.size (.slice (some ⟨g, 0, none⟩) (k + 1) cap) ((L.set (P'.length + 1) y').set P'.length x')) := Lib.hid (fun W hW => by
            rw [← hL] at hW ⊢
            have h1 := (hW.put (x := P'.length + 1) (by omega)).2.2 y'
            rw [show L.length = (L.set (P'.length + 1) y').length by rw [List.length_set]] at h1 ⊢
            exact (h1.put (x := P'.length) (by rw [List.length_set]; omega)).2.2 x')
          have hdone : ¬ y' < x' → Down L (xs.take k ++ [x']) := fun h => hins.out.done (.inr ⟨P', y', rfl, by omega⟩)
          have HLS : Hid (((L.set (P'.length + 1) y').set P'.length x').length = k + 1) := Lib.hid (by rw [List.length_set, List.length_set]; exact hL)
          have HSW : Hid (y' < x' → Ins ((L.set (P'.length + 1) y').set P'.length x') P' (y' :: C) x' (xs.take k)) := Lib.hid (fun h => hins.out.swap h)
          rw [hPl]
          obtain ⟨p, hp⟩ : ∃ p, P'.length = p := ⟨_, rfl⟩
          have HPP := Lib.hid hp
          rw [hp] at hcy hcx' hfy hfx hk1 HCH HLS HSW ⊢
          clear ho1 hx' hy' hPl HPL hins hset hLP hp
          by_cases hyx : y' < x'
          · have HSW2 := Lib.hid (HSW.out hyx)
            clear hdone
            go_wp2
            go_quiet (fail)
            go_wp2
            go_roundw
            case rel => exact ⟨P', y' :: C, _, by rw [HPP.out], HLS.out, HSW2, Lib.hid (HCH.out _ (ho.out.ext ((Ext.refl wr).drewN _))), Lib.hid (Below.setCell (Below.setCell (he'.out.drewN _) hgB _) hgB _)⟩
            case measure => simp [intOf]
          · have HD := Lib.hid (hdone hyx)
            have b1 : decide (y' < x') = false := by simpa using hyx
            clear hdone
            go_wp2
            go_quiet (fail)
            go_wp2
            go_roundw
            case rel => exact ⟨k + 1, L, by omega, by go_num, Lib.hid (ho.out.ext ((Ext.refl wr).drewN _)), Lib.hid (by rw [take_succ_of HX.out]; exact HD.out), Lib.hid (he'.out.drewN _)⟩
            case measure => simp [intOf]; omega
    · obtain rfl : k = xs.length := by omega
      go_wp2
      go_ret
      exact ⟨_, s, rfl, ho.out, by have := hd.out; rw [take_full] at this; exact this, he.out⟩
end Go.Proofs.Ytlhjbpachpjpkaa

namespace Go.Proofs.Ytlhjbpachpjpkaa
open Go.RowKit Tomo

/-- what the rows can give beyond what the first k columns ask -/
noncomputable def sortD (xs : List Int) : List Int := Classical.epsilon fun s => Down s xs
theorem sortD_of {s xs : List Int} (h : Down s xs) : sortD xs = s := (Classical.epsilon_spec (p := fun s => Down s xs) ⟨s, h⟩ : Down (sortD xs) xs).uniq h
noncomputable def gap (rows cols : List Int) (k : Nat) : Int := mostIn rows k - ((sortD cols).take k).sum
theorem allIn_of {l : List Int} {lo hi : Int} (h : ∀ x ∈ l, inR x lo hi = true) : allIn l lo hi = true := List.all_eq_true.2 h
theorem small_take {l : List Int} (h : Small l) (k : Nat) : Small (l.take k) := fun x hx => h x (List.mem_of_mem_take hx)
theorem take_ints {w : World} {A : Option Addr} {xs : List Int} (h : Ints w A xs) (k : Nat) : Ints w A (xs.take k) := fun j x hj => by
  rw [List.getElem?_take] at hj
  split at hj
  · exact h j x hj
  · cases hj
theorem conj_small (rows : List Int) (n : Nat) (h : rows.length ≤ 1000) : Small (conj rows n) := by
  intro x hx
  unfold conj cj at hx
  obtain ⟨j, _, rfl⟩ := List.mem_map.1 hx
  have h1 : (rows.take rows.length).countP (fun r => decide ((j : Int) < r)) ≤ (rows.take rows.length).length := List.countP_le_length
  have h2 : ¬ j < 0 := by omega
  rw [if_neg h2]
  rw [List.length_take] at h1
  omega

set_option maxHeartbeats 2000000 in
theorem l04Gap_any (A B : Option Addr) (ca cb : Nat) (rows cols : List Int) (k : Nat) (w : World) (h : sumsOk rows cols = true) (hk : k ≤ cols.length) (hx : Ints w A rows) (hy : Ints w B cols) :
    Calls Try.prog 98 #[.slice A rows.length ca, .slice B cols.length cb, .int .i64 k] w fun e w' => e = .returned (.int .i64 (gap rows cols k)) ∧ Ext w w' := by
  obtain ⟨hr1, hr5, hc1, hc5, hra, hca, _⟩ := sumsOk_parts h
  have cc := ConjugateOf_any A ca rows cols.length w hr5 hc1 hc5 hra hx
  have hpos : ∀ r ∈ rows, 0 ≤ r := fun r hr => (inR_iff.1 ((List.all_eq_true.1 hra) r hr)).1
  have HM := Lib.hid (conj_take_sum rows hk hpos)
  have HCS := Lib.hid (small_take (conj_small rows cols.length (by omega)) k)
  have hcsm : Small cols := small_of hca (by omega) (by omega)
  have HSM := Lib.hid hcsm
  clear hra hca hpos hcsm h
  have hrows : rows.length ≤ 1000 := by omega
  go_enter Try.func98, Try.ntmps98
  go_wp2_with fail
  refine cc.mono ?_
  rintro e w1 ⟨b1, rfl, ho1, he1⟩
  have hcl : ((conj rows cols.length).take k).length = k := by rw [List.length_take]; unfold conj; rw [cj_len]; omega
  have ct := l03Total_any (some ⟨b1, 0, none⟩) cols.length ((conj rows cols.length).take k) w1 (by omega) HCS.out (take_ints ho1.ints.2 k)
  rw [hcl, HM.out] at ct
  have HE1 := Lib.hid he1
  clear ho1 he1 cc hcl
  have g1 : (0 : Int) ≤ (k : Int) := by omega
  have g2 : (k : Int) ≤ (cols.length : Int) := by omega
  have hmb := sum_small (xs := (conj rows cols.length).take k) HCS.out (by have := List.length_take_le k (conj rows cols.length); omega) k
  rw [List.take_take, Nat.min_self, HM.out] at hmb
  obtain ⟨m, hm⟩ : ∃ m, mostIn rows k = m := ⟨_, rfl⟩
  rw [hm] at ct hmb
  obtain ⟨hm1, hm2⟩ := hmb
  have HMM := Lib.hid hm
  clear hm
  go_wp2_with fail
  refine ct.mono ?_
  rintro e w' ⟨rfl, rfl⟩
  clear ct
  go_wp2_with fail
  refine (SortedDown_any B cb cols w1 (by omega) (hy.ext HE1.out)).mono ?_
  rintro e w2 ⟨v, s, rfl, ho2, hd, he2⟩
  obtain ⟨A2, c2, rfl, hsc, hi2⟩ := ho2.slice
  have hsl : s.length = cols.length := hd.1.length_eq
  have hss : Small s := fun x hx => HSM.out x (hd.1.subset hx)
  have hk2 : (s.take k).length = k := by rw [List.length_take]; omega
  have ct2 := l03Total_any A2 c2 (s.take k) w2 (by omega) (small_take hss k) (take_ints hi2 k)
  rw [hk2] at ct2
  have HG : Hid (sortD cols = s) := Lib.hid (sortD_of hd)
  have hsb := sum_small (xs := s) hss (by omega) k
  have HE2 := Lib.hid he2
  have g3 : (k : Int) ≤ (c2 : Int) := by omega
  have g4 : k ≤ c2 := by omega
  obtain ⟨t, ht⟩ : ∃ t, (s.take k).sum = t := ⟨_, rfl⟩
  rw [ht] at ct2 hsb
  obtain ⟨ht1, ht2⟩ := hsb
  have HT := Lib.hid ht
  rw [hsl]
  clear ho2 hd he2 hi2 hss hk2 ht hsl
  go_wp2_with fail
  refine ct2.mono ?_
  rintro e w' ⟨rfl, rfl⟩
  go_wp2
  go_ret
  exact ⟨ret_int (by unfold gap; rw [HG.out, HT.out, HMM.out]), HE1.out.trans HE2.out⟩

noncomputable def exI (rows cols : List Int) : Bool := sumsOk rows cols && decide (imgs rows cols ≠ [])

theorem most_zero : ∀ (l : List Int), (∀ r ∈ l, 0 ≤ r) → mostIn l 0 = 0
  | [], _ => rfl
  | r :: l, h => by
    have h1 := most_zero l (fun r hr => h r (List.mem_cons_of_mem _ hr))
    have h2 := h r List.mem_cons_self
    unfold mostIn at *
    rw [List.map_cons, List.sum_cons, h1]
    show min ((0 : Nat) : Int) r + 0 = 0
    omega

set_option maxHeartbeats 2000000 in
theorem WorstColumns_any (A B : Option Addr) (ca cb : Nat) (rows cols : List Int) (w : World) (h : sumsOk rows cols = true) (hx : Ints w A rows) (hy : Ints w B cols) :
    Calls Try.prog 78 #[.slice A rows.length ca, .slice B cols.length cb] w fun e w' => ∃ n : Int, e = .returned (.int .i64 n) ∧ ((n == 0) = decide (imgs rows cols ≠ [])) ∧ Ext w w' := by
  obtain ⟨hr1, hr5, hc1, hc5, hra, hca, htot⟩ := sumsOk_parts h
  have cs := specSumsOk_any A B ca cb rows cols w (by omega) (by omega) hx hy
  rw [h] at cs
  have HS := Lib.hid h
  have HBAD : Hid (∀ k, k ≤ cols.length → gap rows cols k < 0 → imgs rows cols = []) := Lib.hid (fun k hk hg => by
    cases hm : imgs rows cols with
    | nil => rfl
    | cons m l =>
      exfalso
      have hd : ∃ s, Down s cols := ⟨cols.mergeSort (fun a b => decide (b ≤ a)), by
        refine ⟨List.mergeSort_perm _ _, ?_⟩
        have := List.pairwise_mergeSort (le := fun a b : Int => decide (b ≤ a)) (fun a b c h1 h2 => by simp at *; omega) (fun a b => by simp; omega) cols
        exact this.imp (fun h => by simpa using h)⟩
      obtain ⟨s, hs⟩ := hd
      have h1 := gale_ryser_conv rows cols s hs.1 m (by rw [hm]; exact List.mem_cons_self) k hk
      unfold gap at hg
      rw [sortD_of hs] at hg
      omega)
  have HGOOD : Hid ((∀ k, 1 ≤ k → k ≤ cols.length → 0 ≤ gap rows cols k) → imgs rows cols ≠ []) := Lib.hid (fun hall => by
    have hd : ∃ s, Down s cols := ⟨cols.mergeSort (fun a b => decide (b ≤ a)), by
        refine ⟨List.mergeSort_perm _ _, ?_⟩
        have := List.pairwise_mergeSort (le := fun a b : Int => decide (b ≤ a)) (fun a b c h1 h2 => by simp at *; omega) (fun a b => by simp; omega) cols
        exact this.imp (fun h => by simpa using h)⟩
    obtain ⟨s, hs⟩ := hd
    refine gale_ryser rows cols s hs.1 hs.2 htot (fun k hk => ?_)
    rcases Nat.eq_zero_or_pos k with rfl | hk0
    · have hpos : ∀ r ∈ rows, 0 ≤ r := fun r hr => (inR_iff.1 ((List.all_eq_true.1 hra) r hr)).1
      rw [most_zero rows hpos]; simp
    · have := hall k hk0 hk
      unfold gap at this
      rw [sortD_of hs] at this
      omega)
  clear hra hca htot h
  go_enter Try.func78, Try.ntmps78
  go_wp2_with (go_at_call 77; refine cs.mono ?_; rintro e w' ⟨rfl, rfl⟩)
  clear cs
  go_loopw [5] (fun i wr => ∃ k : Nat, 1 ≤ k ∧ k ≤ cols.length + 1 ∧ i = .int .i64 k ∧ Hid (∀ j, 1 ≤ j → j < k → 0 ≤ gap rows cols j) ∧ Hid (Ext w wr)) (fun i _ => cols.length + 1 - (intOf i).toNat)
  case atStart => exact ⟨1, by omega, by omega, rfl, Lib.hid (fun j h1 h2 => by omega), Lib.hid (Ext.refl w)⟩
  case round =>
    obtain ⟨k, hk1, hk, rfl, hg, he⟩ := hrel
    by_cases hle : k ≤ cols.length
    · have cg := l04Gap_any A B ca cb rows cols k wr HS.out hle (hx.ext he.out) (hy.ext he.out)
      obtain ⟨G, hG⟩ : ∃ G, gap rows cols k = G := ⟨_, rfl⟩
      rw [hG] at cg
      have HG := Lib.hid hG
      clear hG hx hy
      by_cases hneg : G < 0
      · have HI := Lib.hid (HBAD.out k hle (by rw [HG.out]; exact hneg))
        go_wp2_with fail
        refine cg.mono ?_
        rintro e w1 ⟨rfl, he1⟩
        go_wp2
        go_ret
        exact ⟨k, rfl, by rw [HI.out]; simp; omega, he.out.trans he1⟩
      · go_wp2_with fail
        refine cg.mono ?_
        rintro e w1 ⟨rfl, he1⟩
        have HE1 := Lib.hid he1
        clear he1 cg
        go_wp2
        go_roundw
        case rel => exact ⟨k + 1, by omega, by omega, by go_num, Lib.hid (fun j h1 h2 => by
          rcases Nat.lt_or_ge j k with h3 | h3
          · exact hg.out j h1 h3
          · obtain rfl : j = k := by omega
            rw [HG.out]; omega), Lib.hid (he.out.trans HE1.out)⟩
        case measure => simp [intOf]; omega
    · obtain rfl : k = cols.length + 1 := by omega
      have HI := Lib.hid (HGOOD.out (fun j h1 h2 => hg.out j h1 (by omega)))
      go_wp2
      go_ret
      exact ⟨0, rfl, by have := HI.out; simp [this], he.out⟩

theorem Exists_any (A B : Option Addr) (ca cb : Nat) (rows cols : List Int) (w : World) (hl : rows.length ≤ 1048576) (hl2 : cols.length ≤ 1048576) (hx : Ints w A rows) (hy : Ints w B cols) :
    Calls Try.prog 58 #[.slice A rows.length ca, .slice B cols.length cb] w fun e w' => e = .returned (.bool (exI rows cols)) ∧ Ext w w' := by
  have cs := specSumsOk_any A B ca cb rows cols w hl hl2 hx hy
  cases h : sumsOk rows cols
  · have HE : Hid (exI rows cols = false) := Lib.hid (by unfold exI; rw [h]; rfl)
    rw [h] at cs
    go_enter Try.func58, Try.ntmps58
    go_wp2_with (go_at_call 77; refine cs.mono ?_; rintro e w' ⟨rfl, rfl⟩)
    go_ret
    exact ⟨ret_bool HE.out.symm, Ext.refl _⟩
  · have HE : Hid (exI rows cols = decide (imgs rows cols ≠ [])) := Lib.hid (by unfold exI; rw [h]; rfl)
    rw [h] at cs
    have cw := WorstColumns_any A B ca cb rows cols w h hx hy
    go_enter Try.func58, Try.ntmps58
    go_wp2_with (go_at_call 77; refine cs.mono ?_; rintro e w' ⟨rfl, rfl⟩)
    refine cw.mono ?_
    rintro e w1 ⟨n, rfl, hn, he⟩
    have HN := Lib.hid hn
    clear hn cw
    cases b1 : (n == 0)
    all_goals
      go_wp2
      go_ret
      exact ⟨ret_bool (by rw [HE.out, ← HN.out, b1]), he⟩
end Go.Proofs.Ytlhjbpachpjpkaa
