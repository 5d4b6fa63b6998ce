/- Marks: the laws' helpers that write and read them. -/
import Derived.Test.YtmcnpdpplmbofaaMark1
import Derived.Test.YtmcnpdpplmbofaaHelp2
namespace Go.Proofs.Ytmcnpdpplmbofaa
open Go.RowKit Tomo

theorem Own.putN {w : World} {B g n c : Nat} {xs : List Int} (h : Own w B (.slice (some ⟨g, 0, none⟩) n c) xs) {x : Nat} (hx : x < n) :
    (∃ y, w.cell? ⟨g, x, none⟩ = some (.int .i64 y)) ∧ w.frozen? ⟨g, x, none⟩ = false ∧ ∀ y, Own (w.setCell ⟨g, x, none⟩ (.int .i64 y)) B (.slice (some ⟨g, 0, none⟩) n c) (xs.set x y) := by
  obtain rfl : n = xs.length := h.ints.1
  obtain ⟨⟨y, _, h1⟩, h2, h3⟩ := h.put hx
  exact ⟨⟨y, h1⟩, h2, h3⟩
theorem Own.some_of {w : World} {B n c : Nat} {A : Option Addr} {xs : List Int} (h : Own w B (.slice A n c) xs) (hn : 0 < n) : ∃ g, A = some ⟨g, 0, none⟩ := by
  have hl := h.ints.1
  obtain ⟨g, c', hv, _⟩ := h.form (by omega)
  exact ⟨g, by cases hv; rfl⟩
theorem OwnGrid.some_of {w : World} {B n c : Nat} {A : Option Addr} {g : Grid} (h : OwnGrid w B (.slice A n c) g) (hn : 0 < n) : ∃ b, A = some ⟨b, 0, none⟩ := by
  have hl := h.len
  obtain ⟨b, c', hv, _⟩ := h.form (by omega)
  exact ⟨b, by cases hv; rfl⟩
theorem OwnGrids.len {w : World} {B n c : Nat} {A : Option Addr} {gs : List Grid} (h : OwnGrids w B (.slice A n c) gs) : n = gs.length := by
  obtain ⟨us, h1, h2, _⟩ := h
  rcases h2.2 with ⟨hv, h0⟩ | ⟨_, _, _, hv, _⟩ <;> cases hv
  · exact h0.symm
  · rfl
theorem mark_step {α : Type} {A : List α} {l : List α} {i : Nat} {x y : α} (hA : A.length = i) (h : l[i]? = some x) : (A ++ l.drop i).set i y = A ++ [y] ++ l.drop (i + 1) := by
  rw [drop_at h, set_at hA, List.append_assoc]; rfl
theorem mark_read {α : Type} {A : List α} {l : List α} {i : Nat} {x : α} (hA : A.length = i) (h : l[i]? = some x) : (A ++ l.drop i)[i]? = some x := by
  rw [drop_at h, List.getElem?_append_right (by omega), hA]; simp

set_option maxHeartbeats 2000000 in
theorem markIntS_any (A : Option Addr) (n c B : Nat) (xs : List Int) (k : Int) (w : World) (hk : 0 ≤ k) (hb : k + (n : Int) ≤ 1000000000000000) (ho : Own w B (.slice A n c) xs) :
    Calls Try.prog 12 #[.slice A n c, .int .i64 k] w fun e w' => e = .returned (.int .i64 (k + (n : Int))) ∧ Own w' B (.slice A n c) (seqI k n) ∧ Only w w' (fun b => (Value.slice A n c).ownBlock = some b) := by
  have HL := Lib.hid ho.ints.1
  have HO := Lib.hid ho
  clear ho
  go_enter Try.func12, Try.ntmps12
  go_wp2
  go_loopw [5, 1] (fun i t wr => ∃ j : Nat, j ≤ n ∧ i = .int .i64 j ∧ t = .int .i64 (k + (j : Int)) ∧ Hid (Own wr B (.slice A n c) (seqI k j ++ xs.drop j)) ∧ Hid (Only w wr (fun b => (Value.slice A n c).ownBlock = some b))) (fun i _ _ => n - (intOf i).toNat)
  case atStart => exact ⟨0, Nat.zero_le _, rfl, by simp, Lib.hid (by simpa [seqI] using HO.out), Lib.hid (Only.refl _ _)⟩
  case round =>
    obtain ⟨j, hj, rfl, rfl, ho, hon⟩ := hrel
    by_cases hlt : j < n
    · obtain ⟨g, hA⟩ := ho.out.some_of (by omega)
      subst hA
      obtain ⟨⟨y, h1⟩, h2, h3⟩ := ho.out.putN hlt
      have HS : Hid ((seqI k j ++ xs.drop j).set j (k + (j : Int)) = seqI k (j + 1) ++ xs.drop (j + 1)) := Lib.hid (by
        rw [mark_step (seqI_length k j) (List.getElem?_eq_getElem (by rw [← HL.out]; exact hlt)), seqI_succ])
      have HN := Lib.hid (h3 (k + (j : Int)))
      have HON : Hid (Only w (wr.setCell ⟨g, j, none⟩ (.int .i64 (k + (j : Int)))) (fun b => (Value.slice (some ⟨g, 0, none⟩) n c).ownBlock = some b)) := Lib.hid (hon.out.trans ((Only.set wr g j _).mono fun b hb => by rw [hb]; rfl))
      clear h3 ho hon
      go_wp2
      go_roundw
      case rel => exact ⟨j + 1, by omega, by go_num, by simp; omega, Lib.hid (by rw [← HS.out]; exact HN.out), HON⟩
      case measure => simp [intOf]; omega
    · obtain rfl : j = n := by omega
      have HF : Hid (Own wr B (.slice A j c) (seqI k j)) := Lib.hid (by
        have h := ho.out
        rw [List.drop_of_length_le (by rw [← HL.out]; omega), List.append_nil] at h
        exact h)
      go_wp2
      go_ret
      exact ⟨rfl, HF.out, hon.out⟩

set_option maxHeartbeats 2000000 in
theorem heldIntS_any (A : Option Addr) (n c : Nat) (k : Int) (w : World) (hk : 0 ≤ k) (hb : k + (n : Int) ≤ 1000000000000000) (hx : Ints w A (seqI k n)) :
    Calls Try.prog 13 #[.slice A n c, .int .i64 k] w fun e w' => e = .returned (.int .i64 (k + (n : Int))) ∧ w = w' := by
  have HX := Lib.hid hx
  clear hx
  go_enter Try.func13, Try.ntmps13
  go_wp2
  go_loop [5, 1] (fun i t => ∃ j : Nat, j ≤ n ∧ i = .int .i64 j ∧ t = .int .i64 (k + (j : Int))) (fun i _ => n - (intOf i).toNat)
  case atStart => exact ⟨0, Nat.zero_le _, rfl, by simp⟩
  case round =>
    obtain ⟨j, hj, rfl, rfl⟩ := hrel
    by_cases hlt : j < n
    · obtain ⟨b, o, x, rfl, _, hx, hcell⟩ := HX.out.at_ (k := j) (by rw [seqI_length]; exact hlt)
      obtain rfl : k + (j : Int) = x := by have := hx.out; rw [seqI_at hlt] at this; exact Option.some.inj this
      go_wp2
      go_round
      case rel => exact ⟨j + 1, by omega, by go_num, by simp; omega⟩
      case measure => simp [intOf]; omega
    · obtain rfl : j = n := by omega
      go_wp2
      go_ret
      exact ⟨rfl, rfl⟩

set_option maxHeartbeats 2000000 in
theorem markIntSS_any (A : Option Addr) (n c B : Nat) (g : Grid) (k : Int) (w : World) (hk : 0 ≤ k) (hn : n ≤ 1000000000) (hb : k + (total g : Int) ≤ 1000000000000000) (ho : OwnGrid w B (.slice A n c) g) :
    Calls Try.prog 11 #[.slice A n c, .int .i64 k] w fun e w' => e = .returned (.int .i64 (k + (total g : Int))) ∧ OwnGrid w' B (.slice A n c) (markG k g) ∧ Only w w' (fun b => ∃ p, RowVal w (.slice A n c) p ∧ p.ownBlock = some b) := by
  have HL := Lib.hid ho.len
  have HO := Lib.hid ho
  have HTT := Lib.hid (total_take_le g)
  obtain ⟨T, hT⟩ : ∃ T, total g = T := ⟨_, rfl⟩
  rw [hT] at hb HTT ⊢
  have HT := Lib.hid hT
  clear ho hT
  go_enter Try.func11, Try.ntmps11
  go_wp2
  go_loopw [5, 1] (fun i t wr => ∃ (j s : Nat), j ≤ n ∧ s ≤ T ∧ i = .int .i64 j ∧ t = .int .i64 (k + (s : Int)) ∧ Hid (s = total (g.take j)) ∧ Hid (OwnGrid wr B (.slice A n c) (markG k (g.take j) ++ g.drop j)) ∧ Hid (Only w wr (fun b => ∃ p, RowVal w (.slice A n c) p ∧ p.ownBlock = some b))) (fun i _ _ => n - (intOf i).toNat)
  case atStart => exact ⟨0, 0, Nat.zero_le _, Nat.zero_le _, rfl, by simp, Lib.hid (by simp [total]), Lib.hid (by simpa [markG] using HO.out), Lib.hid (Only.refl _ _)⟩
  case round =>
    obtain ⟨j, s, hj, hsT, rfl, rfl, hs, ho, hon⟩ := hrel
    by_cases hlt : j < n
    · obtain ⟨b, hA⟩ := ho.out.some_of (by omega)
      subst hA
      have hgj : g[j]? = some (g[j]'(by rw [← HL.out]; exact hlt)) := List.getElem?_eq_getElem _
      generalize g[j]'(by rw [← HL.out]; exact hlt) = r at hgj
      have hmr : (markG k (g.take j) ++ g.drop j)[j]? = some r := mark_read (by rw [markG_length, List.length_take, ← HL.out]; omega) hgj
      obtain ⟨b', u, hb', _, _, hcu, hou⟩ := ho.out.elt hmr
      cases hb'
      obtain ⟨Au, cu, rfl, _⟩ := hou.slice
      have hsum : total (g.take (j + 1)) = s + r.length := by rw [take_succ_of hgj, total_snoc, hs.out]
      have hle := HTT.out (j + 1)
      rw [hsum] at hle
      have cm := markIntS_any Au r.length cu B r (k + (s : Int)) wr (by omega) (by omega) hou
      have HNX : Hid (∀ w', Own w' B (.slice Au r.length cu) (seqI (k + (s : Int)) r.length) → Only wr w' (fun b => (Value.slice Au r.length cu).ownBlock = some b) → OwnGrid w' B (.slice (some ⟨b, 0, none⟩) n c) (markG k (g.take (j + 1)) ++ g.drop (j + 1)) ∧ Only w w' (fun i => ∃ p, RowVal w (.slice (some ⟨b, 0, none⟩) n c) p ∧ p.ownBlock = some i)) := Lib.hid (fun w' h1 h2 => by
        constructor
        · have h3 := ho.out.setRow hmr hcu h1 h2
          rw [mark_step (by rw [markG_length, List.length_take, ← HL.out]; omega) hgj] at h3
          rw [take_succ_of hgj, markG_snoc, ← hs.out]
          exact h3
        · refine hon.out.trans (h2.mono fun i hi => ⟨_, ?_, hi⟩)
          have hrv := ho.out.onlyRows (i := j) (by rw [← ho.out.len]; exact hlt) hcu
          refine hrv.bwd fun i hi2 => ?_
          have e : b = i := by simpa [Value.ownBlock] using hi2
          subst e
          refine hon.out.block b (fun ⟨p, hp, he⟩ => ?_)
          rcases HO.out.apartTop hp with h5 | h5
          · rw [h5] at he; cases he
          · rw [he] at h5; exact h5 rfl)
      clear ho hon hou hmr
      have HS : Hid (s + r.length = total (g.take (j + 1))) := Lib.hid hsum.symm
      clear hsum
      go_wp2_with fail
      refine cm.mono ?_
      rintro e w1 ⟨rfl, h1, h2⟩
      obtain ⟨k1, k2⟩ := HNX.out w1 h1 h2
      have HK1 := Lib.hid k1
      have HK2 := Lib.hid k2
      clear h1 h2 k1 k2 HNX
      go_wp2
      go_roundw
      case rel => exact ⟨j + 1, s + r.length, by omega, hle, by go_num, by simp; omega, HS, HK1, HK2⟩
      case measure => simp [intOf]; omega
    · obtain rfl : j = n := by omega
      have HF : Hid (OwnGrid wr B (.slice A j c) (markG k g)) := Lib.hid (by
        have h := ho.out
        rw [List.drop_of_length_le (by rw [← HL.out]; omega), List.append_nil, List.take_of_length_le (by rw [← HL.out]; omega)] at h
        exact h)
      have HST : Hid (s = T) := Lib.hid (by have h := hs.out; rw [List.take_of_length_le (by rw [← HL.out]; omega), HT.out] at h; exact h)
      go_wp2
      go_ret
      exact ⟨ret_int (by rw [HST.out]), HF.out, hon.out⟩


theorem IntRow.own {w : World} {b : Nat} {xs : List Int} (h : IntRow w b xs) {B : Nat} (hB : B ≤ b) (hl : xs.length ≤ 1000000000) : Own w B (.slice (some ⟨b, 0, none⟩) xs.length xs.length) xs := by
  obtain ⟨cs, h1, h2, h3⟩ := h
  refine ⟨by simp, .inr ⟨b, xs.length, cs, rfl, hB, h1, Nat.le_refl _, by unfold maxLen; omega, by rw [h2]; simp, ?_⟩⟩
  apply List.ext_getElem?
  intro i
  rw [List.getElem?_map, Nat.mul_one]
  by_cases hi : i < xs.length
  · rw [List.getElem?_take_of_lt hi, Array.getElem?_toList, h3 i hi]
    simp [hi]
  · have h4 : cs.toList.length = xs.length := by simpa using h2
    rw [List.getElem?_eq_none (by rw [List.length_take, h4]; omega), List.getElem?_eq_none (by omega)]; rfl
theorem NewInts.own {w w' : World} {xs : List Int} (h : NewInts w w' xs) (hl : xs.length ≤ 1000000000) : Own w' w.heap.size (.slice (some ⟨w.heap.size, 0, none⟩) xs.length xs.length) xs := h.row.own (Nat.le_refl _) hl
theorem NewGrid.own {w w' : World} {g : Grid} (h : NewGrid w w' g) (hl : g.length ≤ 1000000000) (hr : ∀ r ∈ g, r.length ≤ 1000000000) : OwnGrid w' w.heap.size (.slice (some ⟨w.heap.size, 0, none⟩) g.length g.length) g := by
  obtain ⟨⟨cs, h1, h2, h3⟩, hrows, _, _⟩ := h
  refine ⟨(List.range g.length).map fun i => .slice (some ⟨w.heap.size + 1 + i, 0, none⟩) (g[i]?.getD []).length (g[i]?.getD []).length, by simp, ⟨by simp, .inr ⟨w.heap.size, g.length, cs, rfl, Nat.le_refl _, h1, Nat.le_refl _, by unfold maxLen; omega, by rw [h2]; simp, ?_⟩⟩, fun i u r hu hr' => ?_, fun i j u u' hi hj hij => ?_⟩
  · apply List.ext_getElem?
    intro i
    rw [List.getElem?_map, Nat.mul_one]
    by_cases hi : i < g.length
    · rw [List.getElem?_take_of_lt hi, Array.getElem?_toList, h3 i hi, List.getElem?_range hi]; rfl
    · have h4 : cs.toList.length = g.length := by simpa using h2
      rw [List.getElem?_eq_none (by rw [List.length_take, h4]; omega), List.getElem?_eq_none (by simp; omega)]; rfl
  · have hi : i < g.length := (List.getElem?_eq_some_iff.1 hr').1
    rw [List.getElem?_map, List.getElem?_range hi] at hu
    have e : u = .slice (some ⟨w.heap.size + 1 + i, 0, none⟩) r.length r.length := by simpa [hr'] using hu.symm
    rw [e]
    have := hrows i hi
    rw [hr'] at this
    exact IntRow.own this (by omega) (hr r (List.mem_of_getElem? hr'))
  · have hi' : i < g.length := by have := (List.getElem?_eq_some_iff.1 hi).1; simpa using this
    have hj' : j < g.length := by have := (List.getElem?_eq_some_iff.1 hj).1; simpa using this
    rw [List.getElem?_map, List.getElem?_range hi'] at hi
    rw [List.getElem?_map, List.getElem?_range hj'] at hj
    right
    simp only [Option.map_some, Option.some.injEq] at hi hj
    subst hi hj
    simp [Value.ownBlock]; omega
end Go.Proofs.Ytmcnpdpplmbofaa
