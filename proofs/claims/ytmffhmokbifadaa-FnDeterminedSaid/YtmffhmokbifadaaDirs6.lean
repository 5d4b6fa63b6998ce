/- A size that determines; the opening of an argument of directions. -/
import Derived.Test.YtmffhmokbifadaaDirs5
import Derived.Test.YtmffhmokbifadaaRow
import Derived.Deep.Slices
import Derived.Deep.Fields
import Derived.ChangeSame
namespace Go.Proofs.Ytmffhmokbifadaa
open Go.RowKit

theorem ghR_ge {ds : List (Int × Int)} (k : Nat) : 1 ≤ ghR ds k := by
  have key : ∀ l : List (Int × Int), 0 ≤ (l.map fun d => max d.2 (-d.2)).sum := by
    intro l
    induction l with
    | nil => simp
    | cons d l ih => rw [List.map_cons, List.sum_cons]; omega
  have := key (ds.take k)
  unfold ghR; omega
theorem gh_bounds {ds : List (Int × Int)} (h : dirsOk ds = true) (k : Nat) (hk : k ≤ ds.length) : ghR ds k ≤ 1 + 3 * k ∧ ghC ds k ≤ 1 + 3 * k ∧ 1 ≤ ghC ds k := by
  induction k with
  | zero => simp [ghR, ghC]
  | succ k ih =>
    obtain ⟨⟨x, y⟩, hd⟩ : ∃ d, ds[k]'(by omega) = d := ⟨_, rfl⟩
    have he : ds[k]? = some (x, y) := by rw [List.getElem?_eq_getElem (by omega), hd]
    have := ih (by omega)
    have := dirsOk_at h he
    rw [ghR_succ he, ghC_succ he]
    omega

def isDet (a b : Int) (ds : List (Int × Int)) : Bool := inR a 1 5 && inR b 1 5 && dirsOk ds && (decide (a < (ghSize ds).1) || decide (b < (ghSize ds).2))

set_option maxHeartbeats 2000000 in
theorem implIsDetermined_any (a b : Int) (A : Option Addr) (cap : Nat) (ds : List (Int × Int)) (w : World) (hl : ds.length ≤ 1048576) (hcap : ds.length ≤ cap) (hx : LDirs w A ds) :
    Calls Try.prog 10 #[.int .i64 a, .int .i64 b, .slice A ds.length cap] w fun e w' => e = .returned (.bool (isDet a b ds)) ∧ Ext w w' := by
  cases h1 : inR a 1 5
  · have HB : Hid (isDet a b ds = false) := Lib.hid (by simp [isDet, h1])
    go_enter Try.func10, Try.ntmps10
    go_wp2_with (go_at_call 21; refine (within_any _ _ _ _).mono ?_; rintro e w' ⟨rfl, rfl⟩)
    go_ret
    exact ⟨ret_bool HB.out.symm, Ext.refl _⟩
  cases h2 : inR b 1 5
  · have HB : Hid (isDet a b ds = false) := Lib.hid (by simp [isDet, h2])
    go_enter Try.func10, Try.ntmps10
    go_wp2_with (go_at_call 21; refine (within_any _ _ _ _).mono ?_; rintro e w' ⟨rfl, rfl⟩)
    go_ret
    exact ⟨ret_bool HB.out.symm, Ext.refl _⟩
  have c1 := fun w hx => implDirectionsOk_any A cap ds w hl hcap hx
  have c2 := fun w hx => implGhostSize_any A cap ds w hl hcap hx
  cases h3 : dirsOk ds
  · have HB : Hid (isDet a b ds = false) := Lib.hid (by simp [isDet, h3])
    rw [h3] at c1
    go_enter Try.func10, Try.ntmps10
    go_wp2_with (first | (go_at_call 21; refine (within_any _ _ _ _).mono ?_; rintro e w' ⟨rfl, rfl⟩) | (go_at_call 8; refine (c1 _ hx).mono ?_; rintro e w' ⟨rfl, he⟩))
    go_ret
    exact ⟨ret_bool HB.out.symm, he⟩
  have HB : Hid (isDet a b ds = (decide (a < (ghSize ds).1) || decide (b < (ghSize ds).2))) := Lib.hid (by simp [isDet, h1, h2, h3])
  rw [h3] at c1
  obtain ⟨R, hR⟩ : ∃ R, R = (ghSize ds).1 := ⟨_, rfl⟩
  obtain ⟨C, hC⟩ : ∃ C, C = (ghSize ds).2 := ⟨_, rfl⟩
  rw [← hR, ← hC] at c2 HB
  clear hR hC
  by_cases hd : a < R
  · have hb : decide (a < R) = true := by simpa using hd
    go_enter Try.func10, Try.ntmps10
    go_wp2_with (first | (go_at_call 21; refine (within_any _ _ _ _).mono ?_; rintro e w' ⟨rfl, rfl⟩) | (go_at_call 8; refine (c1 _ hx).mono ?_; rintro e w1 ⟨rfl, he1⟩) | (go_at_call 7; refine (c2 _ (hx.ext he1)).mono ?_; rintro e w2 ⟨rfl, he2⟩))
    go_ret
    exact ⟨ret_bool (by rw [HB.out]; simp [hb]), he1.trans he2⟩
  · have hb : decide (a < R) = false := by simpa using hd
    by_cases hd2 : b < C
    · have hb2 : decide (b < C) = true := by simpa using hd2
      go_enter Try.func10, Try.ntmps10
      go_wp2_with (first | (go_at_call 21; refine (within_any _ _ _ _).mono ?_; rintro e w' ⟨rfl, rfl⟩) | (go_at_call 8; refine (c1 _ hx).mono ?_; rintro e w1 ⟨rfl, he1⟩) | (go_at_call 7; refine (c2 _ (hx.ext he1)).mono ?_; rintro e w2 ⟨rfl, he2⟩))
      go_ret
      exact ⟨ret_bool (by rw [HB.out]; simp [hb, hb2]), he1.trans he2⟩
    · have hb2 : decide (b < C) = false := by simpa using hd2
      go_enter Try.func10, Try.ntmps10
      go_wp2_with (first | (go_at_call 21; refine (within_any _ _ _ _).mono ?_; rintro e w' ⟨rfl, rfl⟩) | (go_at_call 8; refine (c1 _ hx).mono ?_; rintro e w1 ⟨rfl, he1⟩) | (go_at_call 7; refine (c2 _ (hx.ext he1)).mono ?_; rintro e w2 ⟨rfl, he2⟩))
      go_ret
      exact ⟨ret_bool (by rw [HB.out]; simp [hb, hb2]), he1.trans he2⟩

end Go.Proofs.Ytmffhmokbifadaa
