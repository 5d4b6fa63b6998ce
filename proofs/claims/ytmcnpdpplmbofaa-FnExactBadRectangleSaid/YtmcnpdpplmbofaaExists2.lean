/- Sorting down, by insertion. -/
import Derived.Test.YtmcnpdpplmbofaaExists1
import Derived.BigQuiet
import Derived.Deep.QuietTactic
namespace Go.Proofs.Ytmcnpdpplmbofaa
open Go.RowKit Tomo

/-- these are those numbers, the greatest first -/
def Down (s xs : List Int) : Prop := s.Perm xs ∧ s.Pairwise (fun a b => b ≤ a)
theorem Down.uniq : ∀ {s t xs : List Int}, Down s xs → Down t xs → s = t := by
  intro s
  induction s with
  | nil =>
    intro t xs h k
    have := h.1.length_eq.trans k.1.length_eq.symm
    exact (List.length_eq_zero_iff.1 this.symm).symm
  | cons a s ih =>
    intro t xs h k
    have hp : (a :: s).Perm t := h.1.trans k.1.symm
    cases t with
    | nil => exact absurd hp.length_eq (by simp)
    | cons b t =>
      have hab : a = b := by
        have h1 : a ∈ b :: t := hp.subset List.mem_cons_self
        have h2 : b ∈ a :: s := hp.symm.subset List.mem_cons_self
        have h3 : a ≤ b := by
          rcases List.mem_cons.1 h1 with e | e
          · omega
          · exact (List.pairwise_cons.1 k.2).1 a e
        have h4 : b ≤ a := by
          rcases List.mem_cons.1 h2 with e | e
          · omega
          · exact (List.pairwise_cons.1 h.2).1 b e
        omega
      subst hab
      have hp2 := List.Perm.cons_inv hp
      rw [ih (xs := t) ⟨hp2, (List.pairwise_cons.1 h.2).2⟩ ⟨List.Perm.refl _, (List.pairwise_cons.1 k.2).2⟩]

/-- on its way: x is to go into P ++ C, which is sorted -/
structure Ins (L P C : List Int) (x : Int) (xs : List Int) : Prop where
  eq : L = P ++ x :: C
  perm : (P ++ C).Perm xs
  desc : (P ++ C).Pairwise (fun a b => b ≤ a)
  less : ∀ c ∈ C, c < x
theorem Ins.start {s xs : List Int} (h : Down s xs) (x : Int) : Ins (s ++ [x]) s [] x xs := ⟨rfl, by rw [List.append_nil]; exact h.1, by rw [List.append_nil]; exact h.2, fun c hc => by cases hc⟩
theorem Ins.swap {L P C : List Int} {x y : Int} {xs : List Int} (h : Ins L (P ++ [y]) C x xs) (hy : y < x) : Ins ((L.set (P.length + 1) y).set P.length x) P (y :: C) x xs := by
  obtain ⟨h1, h2, h3, h4⟩ := h
  refine ⟨?_, by simpa using h2, by simpa using h3, fun c hc => ?_⟩
  · rw [h1, List.append_assoc, List.set_append_right _ _ (by omega), List.set_append_right _ _ (by omega)]
    simp
  · rcases List.mem_cons.1 hc with e | e
    · omega
    · exact h4 c e
theorem Ins.done {L P C : List Int} {x : Int} {xs : List Int} (h : Ins L P C x xs) (hp : P = [] ∨ ∃ P' y, P = P' ++ [y] ∧ x ≤ y) : Down L (xs ++ [x]) := by
  obtain ⟨h1, h2, h3, h4⟩ := h
  subst h1
  refine ⟨?_, ?_⟩
  · have e : (P ++ x :: C).Perm (x :: (P ++ C)) := List.perm_middle
    have e2 : (x :: (P ++ C)).Perm (x :: xs) := List.Perm.cons x h2
    have e3 : (x :: xs).Perm (xs ++ [x]) := (List.perm_append_singleton x xs).symm
    exact (e.trans e2).trans e3
  · rw [List.pairwise_append] at h3 ⊢
    obtain ⟨p1, p2, p3⟩ := h3
    have hPx : ∀ a ∈ P, x ≤ a := by
      intro a ha
      rcases hp with rfl | ⟨P', y, rfl, hxy⟩
      · cases ha
      · rcases List.mem_append.1 ha with e | e
        · have := (List.pairwise_append.1 p1).2.2 a e y (by simp); omega
        · have : a = y := by simpa using e
          omega
    refine ⟨p1, List.pairwise_cons.2 ⟨fun c hc => by have := h4 c hc; omega, p2⟩, fun a ha b hb => ?_⟩
    rcases List.mem_cons.1 hb with e | e
    · have := hPx a ha; omega
    · exact p3 a ha b e

set_option maxHeartbeats 4000000 in
theorem SortedDown_any (A : Option Addr) (c : Nat) (xs : List Int) (w : World) (hl : xs.length ≤ 100) (hx : Ints w A xs) :
    Calls Try.prog 56 #[.slice A xs.length c] w fun e w' => ∃ v s, e = .returned v ∧ Own w' w.heap.size v s ∧ Down s xs ∧ Ext w w' := by
  go_enter Try.func56, Try.ntmps56
  go_wp2
  go_loopw [3, 5, 6, 7, 11] (fun v _ _ _ i wr => ∃ (k : Nat) (s : List Int), k ≤ xs.length ∧ i = .int .i64 k ∧ Hid (Own wr w.heap.size v s) ∧ Hid (Down s (xs.take k)) ∧ Hid (Ext w wr)) (fun _ _ _ _ i _ => xs.length - (intOf i).toNat)
  case atStart => exact ⟨0, [], Nat.zero_le _, rfl, Lib.hid (Own.empty w _ (Nat.le_refl _)), Lib.hid ⟨List.Perm.refl _, List.Pairwise.nil⟩, Lib.hid ((Ext.refl w).alloc _)⟩
  case round =>
    rename World => wo
    obtain ⟨k, s, hk, rfl, ho, hd, he⟩ := hrel
    by_cases hlt : k < xs.length
    · obtain ⟨b, o, x, rfl, _, HX, hcx⟩ := (hx.ext he.out).at_ hlt
      have hsl : s.length = k := by have := hd.out.1.length_eq; rw [this, List.length_take]; omega
      have hB : w.heap.size ≤ wo.heap.size := he.out.size
      have HI : Hid (Ints (wo.alloc (.cells #[.int .i64 x] 3)) (some ⟨wo.heap.size, 0, none⟩) [x]) := Lib.hid (fun j z hj => by
        cases j with
        | zero => have : x = z := by simpa using hj
                  exact ⟨wo.heap.size, 0, rfl, by simp, by rw [← this]; exact new_cell rfl⟩
        | succ j => simp at hj)
      have HD := Lib.hid (Ins.start hd.out x)
      have HSL := Lib.hid hsl
      have hsl100 : s.length ≤ 100 := by omega
      clear hx
      go_wp2_with (at_builtin; refine app_ints (ys := [x]) (ho.out.ext ((Ext.refl wo).alloc _)) (by simp; omega) (by simp; omega) (by simp) HI.out rfl _ _ rfl rfl rfl ?_)
      intro g cap w1 hown hb _ _
      have HN : Hid (Own w1 w.heap.size (.slice (some ⟨g, 0, none⟩) (k + 1) cap) (s ++ [x])) := Lib.hid hown
      have HE2 : Hid (Ext w w1) := Lib.hid (hb w (he.out.alloc _))
      clear hown hb ho
      clear hsl
      go_wp2
      go_loopw [6, 7] (fun i _ wr => ∃ (P C L : List Int), i = .int .i64 P.length ∧ L.length = k + 1 ∧ Hid (Ins L P C x (xs.take k)) ∧ Hid (Own wr w.heap.size (.slice (some ⟨g, 0, none⟩) (k + 1) cap) L) ∧ Hid (Ext w wr)) (fun i _ _ => (intOf i).toNat)
      case atStart => exact ⟨s, [], s ++ [x], by have := HSL.out; congr 1; omega, by have := HSL.out; simp; omega, HD, HN, HE2⟩
      case round =>
        clear HD HN
        obtain ⟨P, C, L, rfl, hL, hins, ho, he'⟩ := hrel
        have HO0 := Lib.hid ho.out
        rcases List.eq_nil_or_concat P with rfl | ⟨P', y, rfl⟩
        · have HD := Lib.hid (hins.out.done (.inl rfl))
          have b1 : decide ((0 : Int) < ((([] : List Int).length : Nat) : Int)) = false := by decide
          go_wp2
          go_quiet (fail)
          go_wp2
          go_roundw
          case rel => exact ⟨k + 1, L, by omega, by go_num, Lib.hid (ho.out.ext ((Ext.refl wr).drewN _)), Lib.hid (by rw [take_succ_of HX.out]; exact HD.out), Lib.hid (he'.out.drewN _)⟩
          case measure => simp [intOf]; omega
        · rw [List.concat_eq_append] at *
          have hLP : L.length = P'.length + 1 + (C.length + 1) := by rw [hins.out.eq]; simp; omega
          have ho1 := ho.out
          rw [← hL] at ho1
          obtain ⟨⟨y', hy', hcy⟩, hfy, _⟩ := ho1.put (x := P'.length) (by omega)
          obtain ⟨⟨x', hx', hcx'⟩, hfx, hset⟩ := ho1.put (x := P'.length + 1) (by omega)
          obtain rfl : y' = y := by
            have := hins.out.eq
            rw [this, List.append_assoc, List.getElem?_append_right (Nat.le_refl _)] at hy'
            simpa using hy'.symm
          obtain rfl : x' = x := by
            have := hins.out.eq
            rw [this, List.append_assoc, List.getElem?_append_right (by omega)] at hx'
            simpa using hx'.symm
          rw [hL] at ho1 hset
          have hPl : ((P' ++ [y']).length : Int) = (P'.length : Int) + 1 := by simp
          have HPL := Lib.hid hPl
          have hk1 : P'.length + 1 < k + 1 := by omega
          have hgB : w.heap.size ≤ g := (ho1.lt (b := g) rfl).1
          have HIN := Lib.hid hins.out
          have HCH : Hid (∀ W, Own W w.heap.size (.slice (some ⟨g, 0, none⟩) (k + 1) cap) L → Own ((W.setCell ⟨g, P'.length + 1, none⟩ (.int .i64 y')).setCell ⟨g, P'.length, none⟩ (.int .i64 x')) w.heap.size (.slice (some ⟨g, 0, none⟩) (k + 1) cap) ((L.set (P'.length + 1) y').set P'.length x')) := Lib.hid (fun W hW => by
            rw [← hL] at hW ⊢
            have h1 := (hW.put (x := P'.length + 1) (by omega)).2.2 y'
            rw [show L.length = (L.set (P'.length + 1) y').length by rw [List.length_set]] at h1 ⊢
            exact (h1.put (x := P'.length) (by rw [List.length_set]; omega)).2.2 x')
          have hdone : ¬ y' < x' → Down L (xs.take k ++ [x']) := fun h => hins.out.done (.inr ⟨P', y', rfl, by omega⟩)
          have HLS : Hid (((L.set (P'.length + 1) y').set P'.length x').length = k + 1) := Lib.hid (by rw [List.length_set, List.length_set]; exact hL)
          have HSW : Hid (y' < x' → Ins ((L.set (P'.length + 1) y').set P'.length x') P' (y' :: C) x' (xs.take k)) := Lib.hid (fun h => hins.out.swap h)
          rw [hPl]
          obtain ⟨p, hp⟩ : ∃ p, P'.length = p := ⟨_, rfl⟩
          have HPP := Lib.hid hp
          rw [hp] at hcy hcx' hfy hfx hk1 HCH HLS HSW ⊢
          clear ho1 hx' hy' hPl HPL hins hset hLP hp
          by_cases hyx : y' < x'
          · have HSW2 := Lib.hid (HSW.out hyx)
            clear hdone
            go_wp2
            go_quiet (fail)
            go_wp2
            go_roundw
            case rel => exact ⟨P', y' :: C, _, by rw [HPP.out], HLS.out, HSW2, Lib.hid (HCH.out _ (ho.out.ext ((Ext.refl wr).drewN _))), Lib.hid (Below.setCell (Below.setCell (he'.out.drewN _) hgB _) hgB _)⟩
            case measure => simp [intOf]
          · have HD := Lib.hid (hdone hyx)
            have b1 : decide (y' < x') = false := by simpa using hyx
            clear hdone
            go_wp2
            go_quiet (fail)
            go_wp2
            go_roundw
            case rel => exact ⟨k + 1, L, by omega, by go_num, Lib.hid (ho.out.ext ((Ext.refl wr).drewN _)), Lib.hid (by rw [take_succ_of HX.out]; exact HD.out), Lib.hid (he'.out.drewN _)⟩
            case measure => simp [intOf]; omega
    · obtain rfl : k = xs.length := by omega
      go_wp2
      go_ret
      exact ⟨_, s, rfl, ho.out, by have := hd.out; rw [take_full] at this; exact this, he.out⟩
end Go.Proofs.Ytmcnpdpplmbofaa
