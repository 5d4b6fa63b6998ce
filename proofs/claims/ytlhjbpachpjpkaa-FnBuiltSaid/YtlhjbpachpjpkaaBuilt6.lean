/- Which of two images comes first. -/
import Derived.Test.YtlhjbpachpjpkaaTomA
import Derived.Test.YtlhjbpachpjpkaaAlike
import Derived.Test.YtlhjbpachpjpkaaLineSums2
namespace Go.Proofs.Ytlhjbpachpjpkaa
open Go.RowKit Tomo

/-- as far as they have been seen, they are equal -/
theorem less_go : ∀ {a b : List Int} {j : Nat}, a.take j = b.take j → lessI a b = lessI (a.drop j) (b.drop j)
  | [], [], j, _ => by simp
  | [], y :: b, j, h => by
    cases j with
    | zero => rfl
    | succ j => simp at h
  | x :: a, [], j, h => by
    cases j with
    | zero => rfl
    | succ j => simp at h
  | x :: a, y :: b, 0, h => rfl
  | x :: a, y :: b, j + 1, h => by
    rw [List.take_succ_cons, List.take_succ_cons] at h
    obtain ⟨e1, e2⟩ := List.cons.inj h
    rw [List.drop_succ_cons, List.drop_succ_cons, ← less_go e2]
    show (if x = y then lessI a b else _) = _
    rw [if_pos e1]
theorem less_at {a b : List Int} {j : Nat} {x y : Int} (h : a.take j = b.take j) (ha : a[j]? = some x) (hb : b[j]? = some y) (hne : x ≠ y) : lessI a b = decide (x < y) := by
  have h1 := (List.getElem?_eq_some_iff.1 ha)
  have h2 := (List.getElem?_eq_some_iff.1 hb)
  obtain ⟨l1, e1⟩ := h1
  obtain ⟨l2, e2⟩ := h2
  rw [less_go h, List.drop_eq_getElem_cons l1, List.drop_eq_getElem_cons l2, e1, e2]
  show (if x = y then _ else decide (x < y)) = _
  rw [if_neg hne]
theorem before_go : ∀ {a b : Grid} {j : Nat}, a.take j = b.take j → beforeI a b = beforeI (a.drop j) (b.drop j)
  | [], [], j, _ => by simp
  | [], y :: b, j, h => by
    cases j with
    | zero => rfl
    | succ j => simp at h
  | x :: a, [], j, h => by
    cases j with
    | zero => rfl
    | succ j => simp at h
  | x :: a, y :: b, 0, h => rfl
  | x :: a, y :: b, j + 1, h => by
    rw [List.take_succ_cons, List.take_succ_cons] at h
    obtain ⟨e1, e2⟩ := List.cons.inj h
    rw [List.drop_succ_cons, List.drop_succ_cons, ← before_go e2]
    show (if x = y then beforeI a b else _) = _
    rw [if_pos e1]
theorem before_at {a b : Grid} {j : Nat} {x y : List Int} (h : a.take j = b.take j) (ha : a[j]? = some x) (hb : b[j]? = some y) (hne : x ≠ y) : beforeI a b = lessI x y := by
  obtain ⟨l1, e1⟩ := List.getElem?_eq_some_iff.1 ha
  obtain ⟨l2, e2⟩ := List.getElem?_eq_some_iff.1 hb
  rw [before_go h, List.drop_eq_getElem_cons l1, List.drop_eq_getElem_cons l2, e1, e2]
  show (if x = y then _ else lessI x y) = _
  rw [if_neg hne]
set_option maxHeartbeats 2000000 in
theorem less_any (A B : Option Addr) (ca cb n : Nat) (xs ys : List Int) (w : World) (hn : xs.length = n) (hn2 : ys.length = n) (hl : n ≤ 1000) (hx : Ints w A xs) (hy : Ints w B ys) :
    Calls Try.prog 53 #[.slice A n ca, .slice B n cb] w fun e w' => e = .returned (.bool (lessI xs ys)) ∧ w = w' := by
  have HX := Lib.hid hx
  have HY := Lib.hid hy
  have HN := Lib.hid hn
  have HN2 := Lib.hid hn2
  clear hx hy hn hn2
  go_enter Try.func53, Try.ntmps53
  go_wp2_with fail
  go_loop [9, 5, 6] (fun i _ _ => ∃ k : Nat, k ≤ n ∧ i = .int .i64 k ∧ Hid (xs.take k = ys.take k)) (fun i _ _ => n - (intOf i).toNat)
  case atStart => exact ⟨0, Nat.zero_le _, rfl, Lib.hid rfl⟩
  case round =>
    obtain ⟨k, hk, rfl, hall⟩ := hrel
    by_cases hlt : k < n
    · obtain ⟨b, o, x, rfl, _, HX1, hcx⟩ := HX.out.at_ (k := k) (by rw [HN.out]; exact hlt)
      obtain ⟨b2, o2, y, rfl, _, HY1, hcy⟩ := HY.out.at_ (k := k) (by rw [HN2.out]; exact hlt)
      have hltI : (k : Int) < (n : Int) := by omega
      by_cases he : x = y
      · subst he
        have HNX := Lib.hid (take_step hall.out HX1.out HY1.out)
        go_wp2_with fail
        go_round
        case rel => exact ⟨k + 1, by omega, by go_num, HNX⟩
        case measure => simp [intOf]; omega
      · have b1 : (x == y) = false := by simp [he]
        have HL := Lib.hid (less_at hall.out HX1.out HY1.out he)
        have HE := Lib.hid he
        clear he
        go_wp2_with fail
        go_ret
        exact ⟨ret_bool HL.out.symm, rfl⟩
    · obtain rfl : k = n := by omega
      have HL : Hid (lessI xs ys = false) := Lib.hid (by
        have h := hall.out
        have h1 := HN.out
        have h2 := HN2.out
        rw [List.take_of_length_le (by omega), List.take_of_length_le (by omega)] at h
        rw [h, lessI_self])
      go_wp2_with fail
      go_ret
      exact ⟨ret_bool HL.out.symm, rfl⟩
set_option maxHeartbeats 2000000 in
theorem before_any (A B : Option Addr) (ca cb n m : Nat) (g h : Grid) (w : World) (hg : Shape g n m) (hh : Shape h n m) (hl : n ≤ 1000) (hm : m ≤ 1000) (hx : GridAt w A g) (hy : GridAt w B h) :
    Calls Try.prog 22 #[.slice A n ca, .slice B n cb] w fun e w' => e = .returned (.bool (beforeI g h)) ∧ w = w' := by
  have HX := Lib.hid hx
  have HY := Lib.hid hy
  have HG := Lib.hid hg
  have HH := Lib.hid hh
  clear hx hy hg hh
  go_enter Try.func22, Try.ntmps22
  go_wp2_with fail
  go_loop [9, 5, 6] (fun i _ _ => ∃ k : Nat, k ≤ n ∧ i = .int .i64 k ∧ Hid (g.take k = h.take k)) (fun i _ _ => n - (intOf i).toNat)
  case atStart => exact ⟨0, Nat.zero_le _, rfl, Lib.hid rfl⟩
  case round =>
    obtain ⟨k, hk, rfl, hall⟩ := hrel
    by_cases hlt : k < n
    · obtain ⟨b, o, P, cP, x, rfl, _, HX1, hcx, hix⟩ := HX.out.at_ (k := k) (by rw [HG.out.1]; exact hlt)
      obtain ⟨b2, o2, Q, cQ, y, rfl, _, HY1, hcy, hiy⟩ := HY.out.at_ (k := k) (by rw [HH.out.1]; exact hlt)
      have hxl := HG.out.2 x (List.mem_of_getElem? HX1.out)
      have hyl := HH.out.2 y (List.mem_of_getElem? HY1.out)
      have hltI : (k : Int) < (n : Int) := by omega
      by_cases he : x = y
      · subst he
        have cs := same_any P Q cP cQ x w (by omega) hix hiy
        rw [hxl] at cs hcx hcy
        have HNX := Lib.hid (take_step hall.out HX1.out HY1.out)
        clear hix hiy hxl hyl
        go_wp2_with fail
        refine cs.mono ?_
        rintro e w' ⟨rfl, rfl⟩
        go_wp2_with fail
        go_round
        case rel => exact ⟨k + 1, by omega, by go_num, HNX⟩
        case measure => simp [intOf]; omega
      · have cs := same_no P Q cP cQ x y w (by omega) he hix hiy
        have cl := less_any P Q cP cQ m x y w hxl hyl hm hix hiy
        rw [hxl] at cs hcx
        rw [hyl] at cs hcy
        have HL := Lib.hid (before_at hall.out HX1.out HY1.out he)
        clear hix hiy hxl hyl he
        go_wp2_with fail
        refine cs.mono ?_
        rintro e w' ⟨rfl, rfl⟩
        clear cs
        go_wp2_with fail
        refine cl.mono ?_
        rintro e w' ⟨rfl, rfl⟩
        go_wp2_with fail
        go_ret
        exact ⟨ret_bool HL.out.symm, rfl⟩
    · obtain rfl : k = n := by omega
      have HL : Hid (beforeI g h = false) := Lib.hid (by
        have h0 := hall.out
        have h1 := HG.out.1
        have h2 := HH.out.1
        rw [List.take_of_length_le (by omega), List.take_of_length_le (by omega)] at h0
        rw [h0, beforeI_self])
      go_wp2_with fail
      go_ret
      exact ⟨ret_bool HL.out.symm, rfl⟩
end Go.Proofs.Ytlhjbpachpjpkaa
