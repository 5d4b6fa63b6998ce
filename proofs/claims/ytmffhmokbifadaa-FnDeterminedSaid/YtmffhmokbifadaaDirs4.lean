/- Lists of directions: the reference's test, the ghosts' size. -/
import Derived.Test.YtmffhmokbifadaaDirs3
namespace Go.Proofs.Ytmffhmokbifadaa
open Go.RowKit

set_option maxHeartbeats 4000000 in
theorem specDirectionsOk_any (A : Option Addr) (cap : Nat) (ds : List (Int × Int)) (w : World) (hl : ds.length ≤ 1048576) (hcap : ds.length ≤ cap) (hx : LDirs w A ds) :
    Calls Try.prog 20 #[.slice A ds.length cap] w fun e w' => e = .returned (.bool (dirsOk ds)) ∧ Ext w w' := by
  cases h1 : inR ds.length 1 4
  · go_enter Try.func20, Try.ntmps20
    go_wp2_with (go_at_call 36; refine (l01In_any _ _ _ _).mono ?_; rintro e w' ⟨rfl, rfl⟩)
    go_ret
    exact ⟨ret_bool (by simp [dirsOk, h1]), Ext.refl _⟩
  have HI := Lib.hid h1
  go_enter Try.func20, Try.ntmps20
  go_wp2_with (go_at_call 36; refine (l01In_any _ _ _ _).mono ?_; rintro e w' ⟨rfl, rfl⟩)
  go_loopw [13, 3, 4, 6] (fun i _ _ _ wr => ∃ k : Nat, k ≤ ds.length ∧ i = .int .i64 k ∧ Hid ((List.range k).all (dOkAt ds) = true) ∧ Hid (Ext w wr)) (fun i _ _ _ _ => ds.length - (intOf i).toNat)
  case atStart => exact ⟨0, Nat.zero_le _, rfl, Lib.hid rfl, Lib.hid (Ext.refl w)⟩
  case round =>
    rename World => wo
    obtain ⟨k, hk, rfl, hn, he⟩ := hrel
    by_cases hlt : k < ds.length
    · obtain ⟨b, o, x, y, rfl, hb, HX, hd1, hd2⟩ := (hx.ext he.out).at_ hlt
      have c1 := fun w => specDirectionOk_any x y w
      have g1 : (0 : Int) ≤ (k : Int) := by omega
      have g2 : (k : Int) ≤ (cap : Int) := by omega
      have g3 : k ≤ cap := by omega
      cases e1 : dirOk x y
      · have HF : Hid (dOkAt ds k = false) := Lib.hid (by rw [dOkAt_eq HX.out, e1]; rfl)
        rw [e1] at c1
        go_wp2_with (go_at_call 37; refine (c1 _).mono ?_; rintro e w' ⟨rfl, he1⟩)
        go_ret
        refine ⟨ret_bool ?_, he.out.trans (((Ext.refl _).alloc _).trans he1)⟩
        rw [dirsOk_bad hlt HF.out]
      · rw [e1] at c1
        have HE := Lib.hid e1
        go_wp2_with fail
        refine (c1 _).mono ?_
        rintro e w1 ⟨rfl, he1⟩
        have hc1 : w1.cell? ⟨wo.heap.size, 0, none⟩ = some (.int .i64 x) := (he1.cell (p := ⟨wo.heap.size, 0, none⟩) (by simp)).trans (by simp)
        have hc2 : w1.cell? ⟨wo.heap.size, 1, none⟩ = some (.int .i64 y) := (he1.cell (p := ⟨wo.heap.size, 1, none⟩) (by simp)).trans (by simp)
        have HE1 : Hid (Ext wo w1) := Lib.hid (((Ext.refl _).alloc _).trans he1)
        clear he1 hd1 hd2
        go_wp2_with fail
        go_loopw [25, 6] (fun i _ wr => ∃ j : Nat, j ≤ k ∧ i = .int .i64 j ∧ Hid (anyD (ds.take j) (x, y) = false) ∧ Hid (Ext wo wr) ∧ wr.cell? ⟨wo.heap.size, 0, none⟩ = some (.int .i64 x) ∧ wr.cell? ⟨wo.heap.size, 1, none⟩ = some (.int .i64 y)) (fun i _ _ => k - (intOf i).toNat)
        case atStart => exact ⟨0, Nat.zero_le _, rfl, Lib.hid rfl, HE1, hc1, hc2⟩
        case round =>
          obtain ⟨j, hj, rfl, hm, hq, hq1, hq2⟩ := hrel
          by_cases hjk : j < k
          · obtain ⟨b', o', x', y', hbe, _, HX', hd1, hd2⟩ := (hx.ext (he.out.trans hq.out)).at_ (show j < ds.length by omega)
            cases hbe
            have Q1 := Lib.hid hq1
            have Q2 := Lib.hid hq2
            have hlt1 : wo.heap.size < wr.heap.size := World.block_lt_of_cell? _ _ hq1
            have Q3 : ∀ o : Obj, (wr.alloc o).cell? ⟨wo.heap.size, 0, none⟩ = some (.int .i64 x) := fun o => (((Ext.refl wr).alloc o).cell (p := ⟨wo.heap.size, 0, none⟩) hlt1).trans hq1
            have Q4 : ∀ o : Obj, (wr.alloc o).cell? ⟨wo.heap.size, 1, none⟩ = some (.int .i64 y) := fun o => (((Ext.refl wr).alloc o).cell (p := ⟨wo.heap.size, 1, none⟩) hlt1).trans hq2
            by_cases h1 : x = x'
            · by_cases h2 : y = y'
              · subst h1 h2
                have HF : Hid (dOkAt ds k = false) := Lib.hid (by
                  rw [dOkAt_eq HX.out, anyD_hit (k := j) (by rw [List.getElem?_take, if_pos hjk]; exact HX'.out)]; simp)
                go_wp2_with fail
                go_ret
                refine ⟨ret_bool ?_, he.out.trans (hq.out.alloc _)⟩
                rw [dirsOk_bad hlt HF.out]
              · subst h1
                have b1 : (y' == y) = false := by simp; omega
                have HN : Hid (anyD (ds.take (j + 1)) (x, y) = false) := Lib.hid (by rw [anyD_succ HX'.out, hm.out]; simp; omega)
                clear h2
                go_wp2_with fail
                go_roundw
                case rel => exact ⟨j + 1, by omega, by go_num, HN, Lib.hid (hq.out.alloc _), Q3 _, Q4 _⟩
                case measure => simp [intOf]; omega
            · have b1 : (x' == x) = false := by simp; omega
              have HN : Hid (anyD (ds.take (j + 1)) (x, y) = false) := Lib.hid (by rw [anyD_succ HX'.out, hm.out]; simp; omega)
              clear h1
              go_wp2_with fail
              go_roundw
              case rel => exact ⟨j + 1, by omega, by go_num, HN, Lib.hid (hq.out.alloc _), Q3 _, Q4 _⟩
              case measure => simp [intOf]; omega
          · obtain rfl : j = k := by omega
            have HF : Hid ((List.range (j + 1)).all (dOkAt ds) = true) := Lib.hid (by rw [range_all_succ, hn.out, dOkAt_eq HX.out, HE.out, hm.out]; rfl)
            go_wp2_with fail
            go_roundw
            case rel => exact ⟨j + 1, by omega, by go_num, HF, Lib.hid (he.out.trans hq.out)⟩
            case measure => simp [intOf]; omega
    · obtain rfl : k = ds.length := by omega
      go_wp2
      go_ret
      exact ⟨ret_bool (by unfold dirsOk; rw [HI.out, hn.out]; rfl), he.out⟩
end Go.Proofs.Ytmffhmokbifadaa
