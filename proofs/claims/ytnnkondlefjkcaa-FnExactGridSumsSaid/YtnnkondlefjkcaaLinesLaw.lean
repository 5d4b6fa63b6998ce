/- What the law of GridSums wants besides: the result's bound, a direction's copy, a direction as an argument. -/
import Derived.Test.YtnnkondlefjkcaaLines5
import Derived.Test.YtnnkondlefjkcaaMark4
import Derived.Test.YtnnkondlefjkcaaRow
import Derived.Lib.SmallJoins
import Derived.Deep.DeepCutAuto
namespace Go.Proofs.Ytnnkondlefjkcaa
open Go.RowKit Tomo Go.ChangeShapes Go.WideShapes Go.Deep

theorem gsI_bound (g : Grid) (dx dy : Int) : (gsI g dx dy).length ≤ 1048576 := by
  unfold gsI
  split
  · rename_i h
    obtain ⟨_, hn, hk, _⟩ := grid_bd h.1
    obtain ⟨d1, d2⟩ := dir_bd h.2
    have h4 := countN_bd (n := g.length) (k := (g.headD []).length) d1 d2 (by omega) (by omega)
    unfold lsI
    rw [List.length_map, List.length_range]
    omega
  · simp
theorem toDirection_x (x y : Int) (w : World) :
    Calls Try.prog 27 #[.agg #[.int .i64 x, .int .i64 y]] w fun e w' => e = .returned (.agg #[.int .i64 x, .int .i64 y]) ∧ w' = ((w.alloc (.cells #[.int .i64 x, .int .i64 y] 29)).alloc (.cells #[.int .i64 x, .int .i64 y] 32)).alloc (.cells #[.int .i64 x, .int .i64 y] 32) := by
  go_enter Try.func27, Try.ntmps27
  go_wp2
  exact bodyPost_ret (v := .agg #[.int .i64 x, .int .i64 y]) (by simp [results, Try.results27, go_sem]) rfl ⟨rfl, rfl⟩
section
variable {H : Type} {enc : TypeId × Value → H} {w : World} {base : Nat} {v : Value} {d : DataW H} {ps : List MemPlace}
theorem opened_dir (hv : Value.okWide Try.prog w .any base 29 v) (h : DataW.Trod enc Try.prog w 0 (fun _ => true) true 29 v d ps) : ∃ x y, v = .agg #[.int .i64 x, .int .i64 y] := by
  obtain ⟨v0, v1, y0, y1, n, rfl, _, _, k0, k1⟩ := Joins.open_agg2 Try.underlying29 (by kernel_rfl) (by kernel_rfl) hv h
  obtain ⟨x, hx, _⟩ := DataW.trod_int Try.underlying3 k0
  obtain ⟨y, hy, _⟩ := DataW.trod_int Try.underlying3 k1
  have ex : v0 = .int .i64 x := by simpa using hx
  have ey : v1 = .int .i64 y := by simpa using hy
  exact ⟨x, y, by rw [ex, ey]⟩
end
end Go.Proofs.Ytnnkondlefjkcaa
