/- Wiping a piece out of an image: the program's walk. -/
import Derived.Test.YtlhjbpachpjpkaaPaint1
import Derived.Test.YtlhjbpachpjpkaaReA
namespace Go.Proofs.Ytlhjbpachpjpkaa
open Go.RowKit
set_option maxHeartbeats 2000000 in
theorem hasCell_any (A : Option Addr) (cap : Nat) (m : List (List Int)) (n k : Nat) (y x : Int) (w : World) (hl : m.length ≤ 1048576) (hi : Img m n k) (hx : GridAt w A m) :
    Calls Try.prog 56 #[.slice A n cap, .int .i64 y, .int .i64 x] w fun e w' => e = .returned (.bool (inR y 0 (n - 1) && inR x 0 (k - 1))) ∧ w = w' := by
  have hr : ∀ r ∈ m, r.length ≤ 1048576 := fun r hr => by rw [hi.1.2 r hr]; have := hi.2.2.1; omega
  have ci := implImageOk_any A cap m w hl hr hx
  rw [hi.ok, hi.1.1] at ci
  obtain ⟨hn1, hn5⟩ := hi.2.1
  obtain ⟨hk1, hk5⟩ := hi.2.2.1
  obtain ⟨b, o, R0, c0, r0, rfl, _, HX, hq0, _⟩ := hx.at_ (k := 0) (by rw [hi.1.1]; omega)
  have hr0l : r0.length = k := hi.1.row HX.out
  rw [hr0l, Nat.add_zero] at hq0
  clear hr hr0l hi hx
  cases b1 : inR y 0 (n - 1) <;> cases b2 : inR x 0 (k - 1)
  all_goals
    go_enter Try.func56, Try.ntmps56
    go_wp2_with (first | (go_at_call 36; refine ci.mono ?_; rintro e w' ⟨rfl, rfl⟩) | (go_at_call 55; refine (within_any _ _ _ _).mono ?_; rintro e w' ⟨rfl, rfl⟩))
    go_ret
    exact ⟨ret_bool (by simp), rfl⟩

set_option maxHeartbeats 2000000 in
theorem CellAt_any (A : Option Addr) (cap : Nat) (m : List (List Int)) (n k : Nat) (y x : Int) (w : World) (hl : m.length ≤ 1048576) (hi : Img m n k) (hx : GridAt w A m) :
    Calls Try.prog 42 #[.slice A n cap, .int .i64 y, .int .i64 x] w fun e w' => e = .returned (.int .i64 (cellI m y x)) ∧ w = w' := by
  have ch := hasCell_any A cap m n k y x w hl hi hx
  cases b1 : (inR y 0 (n - 1) && inR x 0 (k - 1))
  · rw [b1] at ch
    have HC : Hid (cellI m y x = -1) := Lib.hid (cellI_out hi.1 (by
      rw [← inR_iff, ← inR_iff]
      cases e1 : inR y 0 (n - 1)
      · exact .inl (by simp)
      · rw [e1, Bool.true_and] at b1; exact .inr (by rw [b1]; simp)))
    clear hi hx
    go_enter Try.func42, Try.ntmps42
    go_wp2_with (go_at_call 56; refine ch.mono ?_; rintro e w' ⟨rfl, rfl⟩)
    go_ret
    exact ⟨ret_int HC.out.symm, rfl⟩
  · rw [b1] at ch
    rw [Bool.and_eq_true, inR_iff, inR_iff] at b1
    obtain ⟨⟨y1, y2⟩, x1, x2⟩ := b1
    obtain ⟨i, rfl⟩ : ∃ i : Nat, y = i := ⟨y.toNat, by omega⟩
    obtain ⟨j, rfl⟩ : ∃ j : Nat, x = j := ⟨x.toNat, by omega⟩
    obtain ⟨r, v, hr, hrl, hv, _⟩ := hi.cell (i := i) (j := j) (by omega) (by omega)
    have HC : Hid (cellI m i j = v) := Lib.hid (cellI_of hr hv)
    obtain ⟨b, o, R, c, r', rfl, _, HX, hq, hints⟩ := hx.at_ (k := i) (by rw [hi.1.1]; omega)
    obtain rfl : r' = r := by have := HX.out; rw [hr] at this; exact (Option.some.inj this).symm
    obtain ⟨b2, o2, v', rfl, _, HV, hq2⟩ := hints.at_ (k := j) (by omega)
    obtain rfl : v' = v := by have := HV.out; rw [hv] at this; exact (Option.some.inj this).symm
    rw [hrl] at hq
    have hi1 := hi.2.1.2
    have hi2 := hi.2.2.1.2
    clear hi hx hints HX HV hr hv hrl
    go_enter Try.func42, Try.ntmps42
    go_wp2_with (go_at_call 56; refine ch.mono ?_; rintro e w' ⟨rfl, rfl⟩)
    go_ret
    exact ⟨ret_int HC.out.symm, rfl⟩

set_option maxHeartbeats 4000000 in
theorem wipe_any (B b n k c P Q : Nat) (n0 : Nat) : ∀ (m : List (List Int)) (y x : Int) (w : World), ones m < n0 → Img m n k → (-1 ≤ y ∧ y ≤ 5) → (-1 ≤ x ∧ x ≤ 5) → OwnGrid w B (.slice (some ⟨b, 0, none⟩) n c) m →
    w.heap[P]? = some (.cells #[.slice (some ⟨b, 0, none⟩) n c] 23 (0, 0)) → w.heap[Q]? = some (.cells #[.func (.func 41) #[] #[.pointer (some ⟨P, 0, none⟩), .pointer (some ⟨Q, 0, none⟩)]] 50 (0, 0)) →
    Calls Try.prog 41 #[.int .i64 y, .int .i64 x, .pointer (some ⟨P, 0, none⟩), .pointer (some ⟨Q, 0, none⟩)] w fun e w' => e = .returned (.tuple #[]) ∧ ∃ q, Wiped w w' B (.slice (some ⟨b, 0, none⟩) n c) n k m y x q := by
  induction n0 with
  | zero => intro m y x w h; omega
  | succ n0 ih =>
    intro m y x w hn hi hy hx ho hP hQ
    obtain ⟨hy1, hy2⟩ := hy
    obtain ⟨hx1, hx2⟩ := hx
    have hsh := hi.1
    obtain ⟨hn1, hn5⟩ := hi.2.1
    obtain ⟨hk1, hk5⟩ := hi.2.2.1
    have cP := cell_of_one hP
    have cQ := cell_of_one hQ
    have cc := CellAt_any (some ⟨b, 0, none⟩) c m n k y x w (by rw [hi.1.1]; omega) hi ho.gridAt
    by_cases hone : cellI m y x = 1
    · have hin : y = (y.toNat : Int) ∧ x = (x.toNat : Int) ∧ y.toNat < n ∧ x.toNat < k := by
        rcases Int.lt_or_le y 0 with h1 | h1
        · rw [cellI_out hsh (.inl (by omega))] at hone; omega
        rcases Int.lt_or_le (n - 1) y with h2 | h2
        · rw [cellI_out hsh (.inl (by omega))] at hone; omega
        rcases Int.lt_or_le x 0 with h3 | h3
        · rw [cellI_out hsh (.inr (by omega))] at hone; omega
        rcases Int.lt_or_le (k - 1) x with h4 | h4
        · rw [cellI_out hsh (.inr (by omega))] at hone; omega
        omega
      obtain ⟨ey, ex, hin, hjk⟩ := hin
      generalize y.toNat = i at *
      generalize x.toNat = j at *
      subst ey ex
      obtain ⟨r, v, hr, hrl, hv, _⟩ := hi.cell hin hjk
      obtain rfl : v = 1 := by rw [cellI_of hr hv] at hone; exact hone
      rw [hone] at cc
      obtain ⟨R, cR, hq, hle, hBR, hRl, hints, hfr, hset⟩ := ho.row hr (by omega)
      have hown := ho.rowOwn hr hq
      obtain ⟨v', hv', hq2⟩ := hints.at1 (k := j) (by omega)
      obtain rfl : v' = 1 := by have := hv'.out; rw [hv] at this; exact (Option.some.inj this).symm
      rw [Nat.zero_add] at hq2
      rw [hrl] at hq
      have h1 := ones_set hr hv
      have hfj := hfr j
      have HI1 := Lib.hid (hi.set (j := j) (c := 0) hr (by omega))
      have HO1 := Lib.hid (hset j 0 (by omega))
      have hnon := NonInt.set (x := j) (v := .int .i64 0) hown
      have HN1 := Lib.hid hnon
      have HB1 : Hid (Below B w (w.setCell ⟨R, j, none⟩ (.int .i64 0))) := Lib.hid (Below.setCell (Below.refl _ _) hBR _)
      have HG := Lib.hid (And.intro hr hv)
      have HN0 : Hid (ones (m.set i (r.set j 0)) < n0) := Lib.hid (by omega)
      have HL : Hid (ones (m.set i (r.set j 0)) ≤ ones m) := Lib.hid (by omega)
      have HIH := Lib.hid ih
      have hP1 := hnon P _ hP (by intro cs fz h; simp at h)
      have hQ1 := hnon Q _ hQ (by intro cs fz h; simp at h)
      have HP1 := Lib.hid hP1
      have HQ1 := Lib.hid hQ1
      have cQ1 := cell_of_one hQ1
      clear ih ho hi hsh hn hset hfr hints hown hv' hr hv h1 hnon hone hP hQ hP1 hQ1
      go_enter Try.func41, Try.ntmps41
      go_wp2_with (go_at_call 42; refine cc.mono ?_; rintro e w' ⟨rfl, rfl⟩)
      refine (HIH.out _ ((i : Int) - 1) j _ HN0.out HI1.out (by omega) (by omega) HO1.out HP1.out HQ1.out).mono ?_
      rintro e w1 ⟨rfl, a1, W1⟩
      have HN2 : Hid (ones a1 < n0) := Lib.hid (Nat.lt_of_le_of_lt W1.few HN0.out)
      have HP2 := Lib.hid (W1.rest P _ HP1.out (by intro cs fz h; simp at h))
      have HQ2 := Lib.hid (W1.rest Q _ HQ1.out (by intro cs fz h; simp at h))
      have cQ2 := cell_of_one HQ2.out
      have HW1 := Lib.hid W1
      clear W1
      go_wp2_with fail
      refine (HIH.out _ ((i : Int) + 1) j _ HN2.out HW1.out.img (by omega) (by omega) HW1.out.own HP2.out HQ2.out).mono ?_
      rintro e w2 ⟨rfl, a2, W2⟩
      have HN3 : Hid (ones a2 < n0) := Lib.hid (Nat.lt_of_le_of_lt W2.few HN2.out)
      have HP3 := Lib.hid (W2.rest P _ HP2.out (by intro cs fz h; simp at h))
      have HQ3 := Lib.hid (W2.rest Q _ HQ2.out (by intro cs fz h; simp at h))
      have cQ3 := cell_of_one HQ3.out
      have HW2 := Lib.hid W2
      clear W2
      go_wp2_with fail
      refine (HIH.out _ i ((j : Int) - 1) _ HN3.out HW2.out.img (by omega) (by omega) HW2.out.own HP3.out HQ3.out).mono ?_
      rintro e w3 ⟨rfl, a3, W3⟩
      have HN4 : Hid (ones a3 < n0) := Lib.hid (Nat.lt_of_le_of_lt W3.few HN3.out)
      have HP4 := Lib.hid (W3.rest P _ HP3.out (by intro cs fz h; simp at h))
      have HQ4 := Lib.hid (W3.rest Q _ HQ3.out (by intro cs fz h; simp at h))
      have cQ4 := cell_of_one HQ4.out
      have HW3 := Lib.hid W3
      clear W3
      go_wp2_with fail
      refine (HIH.out _ i ((j : Int) + 1) _ HN4.out HW3.out.img (by omega) (by omega) HW3.out.own HP4.out HQ4.out).mono ?_
      rintro e w4 ⟨rfl, a4, W4⟩
      have HW4 := Lib.hid W4
      clear W4
      go_wp2
      go_end0
      refine ⟨rfl, a4, ?_, HW4.out.own, HW4.out.img, ?_, ?_, ?_⟩
      · exact Paint.go m i j r a1 a2 a3 a4 HG.out.1 HG.out.2 HW1.out.paint HW2.out.paint HW3.out.paint HW4.out.paint
      · exact Nat.le_trans HW4.out.few (Nat.le_trans HW3.out.few (Nat.le_trans HW2.out.few (Nat.le_trans HW1.out.few HL.out)))
      · exact (((HN1.out.trans HW1.out.rest).trans HW2.out.rest).trans HW3.out.rest).trans HW4.out.rest
      · exact (((HB1.out.trans HW1.out.below).trans HW2.out.below).trans HW3.out.below).trans HW4.out.below
    · have b1 : (cellI m y x != 1) = true := by simpa using hone
      have HP := Lib.hid (Paint.stop m y x hone)
      have HO := Lib.hid ho
      have HI := Lib.hid hi
      clear ih ho hi hsh hn hone
      go_enter Try.func41, Try.ntmps41
      go_wp2_with (go_at_call 42; refine cc.mono ?_; rintro e w' ⟨rfl, rfl⟩)
      refine bodyPost_ret (v := .tuple #[]) (by simp [results, Try.results41, go_sem]) rfl ?_
      exact ⟨rfl, m, HP.out, HO.out, HI.out, Nat.le_refl _, NonInt.refl _, Below.refl _ _⟩
end Go.Proofs.Ytlhjbpachpjpkaa
