/- All images: the reference's AllImages. -/
import Derived.Test.YtmcnpdpplmbofaaAll2
namespace Go.Proofs.Ytmcnpdpplmbofaa
open Go.RowKit Tomo

def allI (rows cols : List Int) : List (List (List Int)) := if sumsOk rows cols = true then imgs rows cols else []
theorem specAll_imgs {rows cols : List Int} (h : sumsOk rows cols = true) : specAll exI rows cols = imgs rows cols := by
  obtain ⟨hr1, hr5, hc1, hc5, _⟩ := sumsOk_parts h
  refine specAll_eq_of exI 5 cols.length (fun rs cs hrs hl hc hi => ?_) rows cols (fun e => by rw [e] at hr1; simp at hr1) hr5 rfl
  have h1 : 1 ≤ rs.length := by
    cases rs with
    | nil => exact absurd rfl hrs
    | cons _ _ => simp
  unfold exI
  rw [imgs_sumsOk hi h1 hl (by omega) (by omega)]
  simpa using hi

set_option maxHeartbeats 2000000 in
theorem specAllImages_any (A B : Option Addr) (ca cb : Nat) (rows cols : List Int) (w : World) (hl : rows.length ≤ 1048576) (hl2 : cols.length ≤ 1048576) (hca : rows.length ≤ ca) (hx : Typed w A rows) (hy : Typed w B cols) :
    Calls Try.prog 24 #[.slice A rows.length ca, .slice B cols.length cb] w fun e w' => ∃ v, e = .returned (.tuple #[v, .bool (sumsOk rows cols)]) ∧ OwnGrids w' w.heap.size v (allI rows cols) ∧ Ext w w' := by
  have cs := specSumsOk_any A B ca cb rows cols w hl hl2 hx.1 hy.1
  have ce := Exists_any A B ca cb rows cols w hl hl2 hx.1 hy.1
  cases h : sumsOk rows cols
  · have HA : Hid (allI rows cols = []) := Lib.hid (by simp [allI, h])
    rw [h] at cs
    go_enter Try.func24, Try.ntmps24
    go_wp2_with (go_at_call 22; refine cs.mono ?_; rintro e w' ⟨rfl, rfl⟩)
    go_ret2
    exact ⟨_, rfl, by rw [HA.out]; exact OwnGrids.nil _ _, Ext.refl _⟩
  · have HA : Hid (allI rows cols = imgs rows cols) := Lib.hid (by simp [allI, h])
    have HX : Hid (exI rows cols = decide (imgs rows cols ≠ [])) := Lib.hid (by unfold exI; rw [h]; rfl)
    have HS := Lib.hid (specAll_imgs h)
    obtain ⟨hr1, hr5, hc1, hc5, hra, hca2, _⟩ := sumsOk_parts h
    have HRA : Hid (∀ r ∈ rows, 0 ≤ r ∧ r ≤ 5) := Lib.hid (fun r hr => by have := inR_iff.1 ((List.all_eq_true.1 hra) r hr); omega)
    have HCA : Hid (∀ r ∈ cols, 0 ≤ r ∧ r ≤ 100) := Lib.hid (fun r hr => by have := inR_iff.1 ((List.all_eq_true.1 hca2) r hr); omega)
    have HTX := Lib.hid hx
    have HTY := Lib.hid hy
    rw [h] at cs
    clear hx hy hra hca2 h
    cases hex : exI rows cols
    · rw [hex] at ce
      have HN : Hid (imgs rows cols = []) := Lib.hid (by have := HX.out; rw [hex] at this; simpa using this.symm)
      go_enter Try.func24, Try.ntmps24
      go_wp2_with (first | (go_at_call 22; refine cs.mono ?_; rintro e w' ⟨rfl, rfl⟩) | (go_at_call 34; refine ce.mono ?_; rintro e w1 ⟨rfl, he⟩))
      go_ret2
      exact ⟨_, rfl, by rw [HA.out, HN.out]; exact OwnGrids.nil _ _, he⟩
    · rw [hex] at ce
      go_enter Try.func24, Try.ntmps24
      go_wp2_with (first | (go_at_call 22; refine cs.mono ?_; rintro e w' ⟨rfl, rfl⟩))
      refine ce.mono ?_
      rintro e w1 ⟨rfl, he⟩
      have HE := Lib.hid he
      clear he ce
      go_wp2_with fail
      refine (l05All_any rows cols [] [] (.slice none 0 0) (.slice none 0 0) w1 w.heap.size 0 A B ca cb hr5 hc1 hc5 HCA.out HRA.out (by
        have : 32 ^ rows.length ≤ 32 ^ 5 := Nat.pow_le_pow_right (by decide) hr5
        have e : (32 : Nat) ^ 5 = 33554432 := by decide
        simp only [List.length_nil]; omega) (by simp; omega) (fun r hr => by cases hr) (OwnGrids.nil _ _) HE.out.size (OwnGrid.nil _ _) (HTX.out.ext HE.out) hca (HTY.out.ext HE.out)).mono ?_
      rintro e w2 ⟨v, rfl, ho, hb, _⟩
      have HO : Hid (OwnGrids w2 w.heap.size v (imgs rows cols)) := Lib.hid (by rw [← HS.out]; simpa using ho)
      have HB := Lib.hid (Below.trans HE.out hb)
      clear ho hb
      go_wp2
      go_ret2
      exact ⟨_, rfl, by rw [HA.out]; exact HO.out, HB.out⟩
end Go.Proofs.Ytmcnpdpplmbofaa
