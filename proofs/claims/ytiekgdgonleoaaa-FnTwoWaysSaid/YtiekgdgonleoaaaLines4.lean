/- GridSums, in the reference and in the program. -/
import Derived.Test.YtiekgdgonleoaaaLines2
import Derived.Test.YtiekgdgonleoaaaLines3
namespace Go.Proofs.Ytiekgdgonleoaaa
open Go.RowKit Tomo

theorem grid_bd {g : Grid} {lo hi : Int} (h : gridOk g lo hi = true) : Shape g g.length (g.headD []).length ∧ (1 ≤ g.length ∧ g.length ≤ 5) ∧ (1 ≤ (g.headD []).length ∧ (g.headD []).length ≤ 5) ∧ ∀ y x, y < g.length → x < (g.headD []).length → lo ≤ at2 g y x ∧ at2 g y x ≤ hi := by
  obtain ⟨hs, h1, h2, h3, h4⟩ := gridOk_shape h
  refine ⟨hs, ⟨h1, h2⟩, ⟨h3, h4⟩, fun y x hy hx => ?_⟩
  obtain ⟨r, hr⟩ : ∃ r, g[y]? = some r := ⟨_, List.getElem?_eq_getElem hy⟩
  have hrl := hs.row hr
  obtain ⟨c, hc⟩ : ∃ c, r[x]? = some c := ⟨_, List.getElem?_eq_getElem (by omega)⟩
  rw [at2_of hr hc]
  have h5 := ((gridOk_iff.1 h).2 r (List.mem_of_getElem? hr)).2.2
  exact inR_iff.1 ((List.all_eq_true.1 h5) c (List.mem_of_getElem? hc))
/-- the sums of a grid on all lines of a direction, where both are valid -/
def gsI (g : Grid) (dx dy : Int) : List Int := if gridOk g (-100) 100 = true ∧ dirOk dx dy = true then lsI g g.length (g.headD []).length dx dy else []

set_option maxHeartbeats 2000000 in
theorem implGridSums_any (A : Option Addr) (ca : Nat) (g : Grid) (dx dy : Int) (w : World) (hl : g.length ≤ 1048576) (hr : ∀ r ∈ g, r.length ≤ 1048576) (hx : GridAt w A g) :
    Calls Try.prog 35 #[.slice A g.length ca, .agg #[.int .i64 dx, .int .i64 dy]] w fun e w' => ∃ v, e = .returned v ∧ Own w' w.heap.size v (gsI g dx dy) ∧ Ext w w' ∧ (gsI g dx dy = [] → v = .slice none 0 0) := by
  have cg := fun W (e : Ext w W) => gridOk_any A ca g (-100) 100 W hl hr (hx.ext e)
  have cd := fun W => implDirectionOk_any dx dy W
  cases h1 : gridOk g (-100) 100
  · simp only [h1] at cg
    have HR : Hid (gsI g dx dy = []) := Lib.hid (by unfold gsI; rw [if_neg (by rw [h1]; simp)])
    have cg2 := cg _ ((Ext.refl w).alloc (.cells #[.int .i64 dx, .int .i64 dy] 35))
    clear hx hr cg
    go_enter Try.func35, Try.ntmps35
    go_wp2_with (go_at_call 31; refine cg2.mono ?_; rintro e w' ⟨rfl, rfl⟩)
    go_ret
    exact ⟨_, rfl, by rw [HR.out]; exact Own.nil _ _, (Ext.refl w).alloc _, fun _ => rfl⟩
  simp only [h1] at cg
  have cg2 := cg _ ((Ext.refl w).alloc (.cells #[.int .i64 dx, .int .i64 dy] 35))
  cases h2 : dirOk dx dy
  · simp only [h2] at cd
    have HR : Hid (gsI g dx dy = []) := Lib.hid (by unfold gsI; rw [if_neg (by rw [h2]; simp)])
    clear hx hr cg
    go_enter Try.func35, Try.ntmps35
    go_wp2_with (go_at_call 31; refine cg2.mono ?_; rintro e w' ⟨rfl, rfl⟩)
    refine (cd _).mono ?_
    rintro e w1 ⟨rfl, he⟩
    have HE := Lib.hid (((Ext.refl w).alloc _).trans he)
    clear he
    go_wp2_with fail
    go_ret
    exact ⟨_, rfl, by rw [HR.out]; exact Own.nil _ _, HE.out, fun _ => rfl⟩
  simp only [h2] at cd
  obtain ⟨hs, hn, hk, hb⟩ := grid_bd h1
  have HNE : Hid (gsI g dx dy ≠ []) := Lib.hid (by
    have h3 : gsI g dx dy = lsI g g.length (g.headD []).length dx dy := by unfold gsI; rw [if_pos ⟨h1, h2⟩]
    obtain ⟨d1, d2⟩ := dir_bd h2
    have h4 := countN_bd (n := g.length) (k := (g.headD []).length) d1 d2 (by omega) (by omega)
    intro e
    rw [h3] at e
    have := congrArg List.length e
    unfold lsI at this
    rw [List.length_map, List.length_range, List.length_nil] at this
    omega)
  have HSO : Hid (∀ W, Ext w W → Calls Try.prog 48 #[.slice A g.length ca, .agg #[.int .i64 dx, .int .i64 dy]] W fun e w' => ∃ v, e = .returned v ∧ Own w' W.heap.size v (gsI g dx dy) ∧ Ext W w') := Lib.hid fun W e => by
    have h3 : gsI g dx dy = lsI g g.length (g.headD []).length dx dy := by unfold gsI; rw [if_pos ⟨h1, h2⟩]
    rw [h3]
    exact sumsOn_any A ca g g.length (g.headD []).length dx dy W hs hn hk hb h2 (hx.ext e)
  obtain ⟨n, hgn⟩ : ∃ n, g.length = n := ⟨_, rfl⟩
  rw [hgn] at HSO cg2 ⊢
  clear hx hr cg h1 h2 hs hn hk hb hgn hl
  go_enter Try.func35, Try.ntmps35
  go_wp2_with (go_at_call 31; refine cg2.mono ?_; rintro e w' ⟨rfl, rfl⟩)
  refine (cd _).mono ?_
  rintro e w1 ⟨rfl, he⟩
  have q1 : w1.cell? ⟨w.heap.size, 0, none⟩ = some (.int .i64 dx) := (he.cell (by simp)).trans (by simp)
  have q2 : w1.cell? ⟨w.heap.size, 1, none⟩ = some (.int .i64 dy) := (he.cell (by simp)).trans (by simp)
  have HE := Lib.hid (((Ext.refl w).alloc _).trans he)
  have cs := HSO.out w1 HE.out
  clear he cd
  go_wp2_with fail
  refine cs.mono ?_
  rintro e w2 ⟨v, rfl, ho, he⟩
  have HO := Lib.hid (ho.base HE.out.size)
  have HE2 := Lib.hid (HE.out.trans he)
  clear ho he cs
  go_wp2_with fail
  go_ret
  exact ⟨_, rfl, HO.out, HE2.out, fun h => absurd h HNE.out⟩
end Go.Proofs.Ytiekgdgonleoaaa
