/- The ghosts' size; a size that determines. -/
import Derived.Test.YtiekgdgonleoaaaDirs4
namespace Go.Proofs.Ytiekgdgonleoaaa
open Go.RowKit

/-- the rows and columns that the first k directions take -/
def ghR (ds : List (Int × Int)) (k : Nat) : Int := 1 + ((ds.take k).map fun d => max d.2 (-d.2)).sum
def ghC (ds : List (Int × Int)) (k : Nat) : Int := 1 + ((ds.take k).map fun d => d.1).sum
theorem ghR_succ {ds : List (Int × Int)} {k : Nat} {x y : Int} (h : ds[k]? = some (x, y)) : ghR ds (k + 1) = ghR ds k + max y (-y) := by
  unfold ghR; rw [take_succ_of h, List.map_append, List.sum_append]; simp; omega
theorem ghC_succ {ds : List (Int × Int)} {k : Nat} {x y : Int} (h : ds[k]? = some (x, y)) : ghC ds (k + 1) = ghC ds k + x := by
  unfold ghC; rw [take_succ_of h, List.map_append, List.sum_append]; simp; omega
def ghSize (ds : List (Int × Int)) : Int × Int := if dirsOk ds = true then (ghR ds ds.length, ghC ds ds.length) else (0, 0)
theorem dirsOk_at {ds : List (Int × Int)} (h : dirsOk ds = true) {k : Nat} {x y : Int} (hk : ds[k]? = some (x, y)) : (0 ≤ x ∧ x ≤ 3) ∧ (-3 ≤ y ∧ y ≤ 3) := by
  unfold dirsOk at h
  rw [Bool.and_eq_true, List.all_eq_true] at h
  have hlt : k < ds.length := by
    rcases Nat.lt_or_ge k ds.length with h1 | h1
    · exact h1
    · rw [List.getElem?_eq_none h1] at hk; cases hk
  have h2 := h.2 k (List.mem_range.2 hlt)
  rw [dOkAt_eq hk] at h2
  unfold dirOk at h2
  simp only [Bool.and_eq_true, inR_iff] at h2
  obtain ⟨⟨⟨⟨h3, h4⟩, _⟩, _⟩, _⟩ := h2
  exact ⟨h3, h4⟩
theorem dirsOk_len {ds : List (Int × Int)} (h : dirsOk ds = true) : 1 ≤ ds.length ∧ ds.length ≤ 4 := by
  unfold dirsOk at h
  rw [Bool.and_eq_true, inR_iff] at h
  omega

theorem magnitude_any (y : Int) (w : World) (h : -1048576 ≤ y ∧ y ≤ 1048576) :
    Calls Try.prog 39 #[.int .i64 y] w fun e w' => e = .returned (.int .i64 (max y (-y))) ∧ w = w' := by
  obtain ⟨h1, h2⟩ := h
  by_cases hs : 0 ≤ y
  · have hm : max y (-y) = y := by omega
    rw [hm]
    clear hm
    go_enter Try.func39, Try.ntmps39
    go_wp2
    all_goals go_ret
    all_goals exact ⟨ret_int (by omega), rfl⟩
  · have hm : max y (-y) = -y := by omega
    rw [hm]
    clear hm
    go_enter Try.func39, Try.ntmps39
    go_wp2
    all_goals go_ret
    all_goals exact ⟨ret_int (by omega), rfl⟩

set_option maxHeartbeats 4000000 in
theorem implGhostSize_any (A : Option Addr) (cap : Nat) (ds : List (Int × Int)) (w : World) (hl : ds.length ≤ 1048576) (hcap : ds.length ≤ cap) (hx : LDirs w A ds) :
    Calls Try.prog 37 #[.slice A ds.length cap] w fun e w' => e = .returned (.tuple #[.int .i64 (ghSize ds).1, .int .i64 (ghSize ds).2]) ∧ Ext w w' := by
  have c1 := implDirectionsOk_any A cap ds w hl hcap hx
  cases h : dirsOk ds
  · have e : ghSize ds = (0, 0) := by simp [ghSize, h]
    rw [e]
    rw [h] at c1
    go_enter Try.func37, Try.ntmps37
    go_wp2_with (go_at_call 34; refine c1.mono ?_; rintro e w' ⟨rfl, he⟩)
    go_ret2
    exact ⟨rfl, he⟩
  · have e : ghSize ds = (ghR ds ds.length, ghC ds ds.length) := by simp [ghSize, h]
    have hl4 := (dirsOk_len h).2
    have HD := Lib.hid (fun (k : Nat) (x y : Int) => dirsOk_at h (k := k) (x := x) (y := y))
    rw [e]
    rw [h] at c1
    clear e h hl
    go_enter Try.func37, Try.ntmps37
    go_wp2_with (go_at_call 34; refine c1.mono ?_; rintro e w0 ⟨rfl, he0⟩)
    clear c1
    go_loopw [4, 5, 13, 7] (fun r c i _ wr => ∃ (k : Nat) (R C : Int), k ≤ ds.length ∧ i = .int .i64 k ∧ r = .int .i64 R ∧ c = .int .i64 C ∧ 0 ≤ R ∧ R ≤ 1 + 3 * k ∧ 0 ≤ C ∧ C ≤ 1 + 3 * k ∧ Hid (R = ghR ds k ∧ C = ghC ds k) ∧ Hid (Ext w wr)) (fun _ _ i _ _ => ds.length - (intOf i).toNat)
    case atStart => exact ⟨0, 1, 1, Nat.zero_le _, rfl, rfl, rfl, by omega, by omega, by omega, by omega, Lib.hid ⟨by simp [ghR], by simp [ghC]⟩, Lib.hid he0⟩
    case round =>
      obtain ⟨k, R, C, hk, rfl, rfl, rfl, hR0, hR1, hC0, hC1, hRC, he⟩ := hrel
      by_cases hlt : k < ds.length
      · obtain ⟨b, o, x, y, rfl, hb, HX, hd1, hd2⟩ := (hx.ext he.out).at_ hlt
        obtain ⟨⟨hx0, hx3⟩, hy0, hy3⟩ := HD.out k x y HX.out
        obtain ⟨m, hm⟩ : ∃ m : Int, max y (-y) = m := ⟨_, rfl⟩
        have hm0 : 0 ≤ m := by omega
        have hm3 : m ≤ 3 := by omega
        have HM := Lib.hid hm
        have cm := fun w => magnitude_any y w (by omega)
        rw [hm] at cm
        clear hm hx
        go_wp2_with (go_at_call 39; refine (cm _).mono ?_; rintro e w' ⟨rfl, rfl⟩)
        go_roundw
        case rel => exact ⟨k + 1, R + m, C + x, by omega, by go_num, rfl, rfl, by omega, by omega, by omega, by omega, Lib.hid ⟨by rw [ghR_succ HX.out, HM.out, hRC.out.1], by rw [ghC_succ HX.out, hRC.out.2]⟩, Lib.hid (he.out.alloc _)⟩
        case measure => simp [intOf]; omega
      · obtain rfl : k = ds.length := by omega
        go_wp2
        go_ret2
        exact ⟨by rw [← hRC.out.1, ← hRC.out.2]; rfl, he.out⟩

end Go.Proofs.Ytiekgdgonleoaaa
