/- Wiping a piece out of an image: the reference's walk. -/
import Derived.Test.YtlhjbpachpjpkaaPaint1
namespace Go.Proofs.Ytlhjbpachpjpkaa
open Go.RowKit
set_option maxHeartbeats 4000000 in
theorem l10Paint_any (B b n k c : Nat) (n0 : Nat) : ∀ (m : List (List Int)) (y x : Int) (w : World), ones m < n0 → Img m n k → (-1 ≤ y ∧ y ≤ 5) → (-1 ≤ x ∧ x ≤ 5) → OwnGrid w B (.slice (some ⟨b, 0, none⟩) n c) m →
    Calls Try.prog 92 #[.slice (some ⟨b, 0, none⟩) n c, .int .i64 y, .int .i64 x] w fun e w' => e = .returned (.tuple #[]) ∧ ∃ q, Wiped w w' B (.slice (some ⟨b, 0, none⟩) n c) n k m y x q := by
  induction n0 with
  | zero => intro m y x w h; omega
  | succ n0 ih =>
    intro m y x w hn hi hy hx ho
    obtain ⟨hy1, hy2⟩ := hy
    obtain ⟨hx1, hx2⟩ := hx
    have hsh := hi.1
    obtain ⟨hn1, hn5⟩ := hi.2.1
    obtain ⟨hk1, hk5⟩ := hi.2.2.1
    obtain ⟨r0, c0', hr0, hr0l, _⟩ := hi.cell (i := 0) (j := 0) (by omega) (by omega)
    obtain ⟨R0, c0, hq0, _⟩ := ho.row hr0 (by omega)
    rw [hr0l] at hq0
    cases b1 : inR y 0 (n - 1)
    · have HP := Lib.hid (Paint.stop m y x (by rw [cellI_out hsh (.inl (by rw [← inR_iff, b1]; simp))]; decide))
      have HO := Lib.hid ho
      have HI := Lib.hid hi
      clear ih ho hi hsh hn
      go_enter Try.func92, Try.ntmps92
      go_wp2_with (go_at_call 66; refine (l01In_any _ _ _ _).mono ?_; rintro e w' ⟨rfl, rfl⟩)
      refine bodyPost_ret (v := .tuple #[]) (by simp [results, Try.results92, go_sem]) rfl ?_
      exact ⟨rfl, m, HP.out, HO.out, HI.out, Nat.le_refl _, NonInt.refl _, Below.refl _ _⟩
    cases b2 : inR x 0 (k - 1)
    · have HP := Lib.hid (Paint.stop m y x (by rw [cellI_out hsh (.inr (by rw [← inR_iff, b2]; simp))]; decide))
      have HO := Lib.hid ho
      have HI := Lib.hid hi
      clear ih ho hi hsh hn
      go_enter Try.func92, Try.ntmps92
      go_wp2_with (go_at_call 66; refine (l01In_any _ _ _ _).mono ?_; rintro e w' ⟨rfl, rfl⟩)
      refine bodyPost_ret (v := .tuple #[]) (by simp [results, Try.results92, go_sem]) rfl ?_
      exact ⟨rfl, m, HP.out, HO.out, HI.out, Nat.le_refl _, NonInt.refl _, Below.refl _ _⟩
    obtain ⟨by1, by2⟩ := inR_iff.1 b1
    obtain ⟨bx1, bx2⟩ := inR_iff.1 b2
    obtain ⟨i, rfl⟩ : ∃ i : Nat, y = i := ⟨y.toNat, by omega⟩
    obtain ⟨j, rfl⟩ : ∃ j : Nat, x = j := ⟨x.toNat, by omega⟩
    have hin : i < n := by omega
    have hjk : j < k := by omega
    obtain ⟨r, v, hr, hrl, hv, hv01⟩ := hi.cell hin hjk
    obtain ⟨R, cR, hq, hle, hBR, hRl, hints, hfr, hset⟩ := ho.row hr (by omega)
    have hown := ho.rowOwn hr hq
    obtain ⟨v', hv', hq2⟩ := hints.at1 (k := j) (by omega)
    obtain rfl : v' = v := by have := hv'.out; rw [hv] at this; exact (Option.some.inj this).symm
    rw [Nat.zero_add] at hq2
    rw [hrl] at hq
    rcases hv01 with rfl | rfl
    · have HP := Lib.hid (Paint.stop m i j (by rw [cellI_of hr hv]; decide))
      have HO := Lib.hid ho
      have HI := Lib.hid hi
      clear ih ho hi hsh hn hset hfr hints hown hv' hr hv
      go_enter Try.func92, Try.ntmps92
      go_wp2_with (go_at_call 66; refine (l01In_any _ _ _ _).mono ?_; rintro e w' ⟨rfl, rfl⟩)
      refine bodyPost_ret (v := .tuple #[]) (by simp [results, Try.results92, go_sem]) rfl ?_
      exact ⟨rfl, m, HP.out, HO.out, HI.out, Nat.le_refl _, NonInt.refl _, Below.refl _ _⟩
    · have h1 := ones_set hr hv
      have hfj := hfr j
      have HI1 := Lib.hid (hi.set (j := j) (c := 0) hr (by omega))
      have HO1 := Lib.hid (hset j 0 (by omega))
      have HN1 := Lib.hid (NonInt.set (x := j) (v := .int .i64 0) hown)
      have HB1 : Hid (Below B w (w.setCell ⟨R, j, none⟩ (.int .i64 0))) := Lib.hid (Below.setCell (Below.refl _ _) hBR _)
      have HG := Lib.hid (And.intro hr hv)
      have HN0 : Hid (ones (m.set i (r.set j 0)) < n0) := Lib.hid (by omega)
      have HL : Hid (ones (m.set i (r.set j 0)) ≤ ones m) := Lib.hid (by omega)
      have HIH := Lib.hid ih
      clear ih ho hi hsh hn hset hfr hints hown hv' hr hv h1
      go_enter Try.func92, Try.ntmps92
      go_wp2_with (go_at_call 66; refine (l01In_any _ _ _ _).mono ?_; rintro e w' ⟨rfl, rfl⟩)
      refine (HIH.out _ ((i : Int) - 1) j _ HN0.out HI1.out (by omega) (by omega) HO1.out).mono ?_
      rintro e w1 ⟨rfl, a1, W1⟩
      have HN2 : Hid (ones a1 < n0) := Lib.hid (Nat.lt_of_le_of_lt W1.few HN0.out)
      have HW1 := Lib.hid W1
      clear W1
      go_wp2_with fail
      refine (HIH.out _ ((i : Int) + 1) j _ HN2.out HW1.out.img (by omega) (by omega) HW1.out.own).mono ?_
      rintro e w2 ⟨rfl, a2, W2⟩
      have HN3 : Hid (ones a2 < n0) := Lib.hid (Nat.lt_of_le_of_lt W2.few HN2.out)
      have HW2 := Lib.hid W2
      clear W2
      go_wp2_with fail
      refine (HIH.out _ i ((j : Int) - 1) _ HN3.out HW2.out.img (by omega) (by omega) HW2.out.own).mono ?_
      rintro e w3 ⟨rfl, a3, W3⟩
      have HN4 : Hid (ones a3 < n0) := Lib.hid (Nat.lt_of_le_of_lt W3.few HN3.out)
      have HW3 := Lib.hid W3
      clear W3
      go_wp2_with fail
      refine (HIH.out _ i ((j : Int) + 1) _ HN4.out HW3.out.img (by omega) (by omega) HW3.out.own).mono ?_
      rintro e w4 ⟨rfl, a4, W4⟩
      have HW4 := Lib.hid W4
      clear W4
      go_wp2
      go_end0
      refine ⟨rfl, a4, ?_, HW4.out.own, HW4.out.img, ?_, ?_, ?_⟩
      · exact Paint.go m i j r a1 a2 a3 a4 HG.out.1 HG.out.2 HW1.out.paint HW2.out.paint HW3.out.paint HW4.out.paint
      · exact Nat.le_trans HW4.out.few (Nat.le_trans HW3.out.few (Nat.le_trans HW2.out.few (Nat.le_trans HW1.out.few HL.out)))
      · exact (((HN1.out.trans HW1.out.rest).trans HW2.out.rest).trans HW3.out.rest).trans HW4.out.rest
      · exact (((HB1.out.trans HW1.out.below).trans HW2.out.below).trans HW3.out.below).trans HW4.out.below
end Go.Proofs.Ytlhjbpachpjpkaa
