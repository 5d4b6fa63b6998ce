/- GridSums, in the reference and in the program. -/
import Derived.Test.YtnnkondlefjkcaaLines2
import Derived.Test.YtnnkondlefjkcaaLines3
namespace Go.Proofs.Ytnnkondlefjkcaa
open Go.RowKit Tomo

theorem grid_bd {g : Grid} {lo hi : Int} (h : gridOk g lo hi = true) : Shape g g.length (g.headD []).length ∧ (1 ≤ g.length ∧ g.length ≤ 5) ∧ (1 ≤ (g.headD []).length ∧ (g.headD []).length ≤ 5) ∧ ∀ y x, y < g.length → x < (g.headD []).length → lo ≤ at2 g y x ∧ at2 g y x ≤ hi := by
  obtain ⟨hs, h1, h2, h3, h4⟩ := gridOk_shape h
  refine ⟨hs, ⟨h1, h2⟩, ⟨h3, h4⟩, fun y x hy hx => ?_⟩
  obtain ⟨r, hr⟩ : ∃ r, g[y]? = some r := ⟨_, List.getElem?_eq_getElem hy⟩
  have hrl := hs.row hr
  obtain ⟨c, hc⟩ : ∃ c, r[x]? = some c := ⟨_, List.getElem?_eq_getElem (by omega)⟩
  rw [at2_of hr hc]
  have h5 := ((gridOk_iff.1 h).2 r (List.mem_of_getElem? hr)).2.2
  exact inR_iff.1 ((List.all_eq_true.1 h5) c (List.mem_of_getElem? hc))
/-- the sums of a grid on all lines of a direction, where both are valid -/
def gsI (g : Grid) (dx dy : Int) : List Int := if gridOk g (-100) 100 = true ∧ dirOk dx dy = true then lsI g g.length (g.headD []).length dx dy else []

set_option maxHeartbeats 2000000 in
theorem implGridSums_any (A : Option Addr) (ca : Nat) (g : Grid) (dx dy : Int) (w : World) (hl : g.length ≤ 1048576) (hr : ∀ r ∈ g, r.length ≤ 1048576) (hx : GridAt w A g) :
    Calls Try.prog 28 #[.slice A g.length ca, .agg #[.int .i64 dx, .int .i64 dy]] w fun e w' => ∃ v, e = .returned v ∧ Own w' w.heap.size v (gsI g dx dy) ∧ Ext w w' ∧ (gsI g dx dy = [] → v = .slice none 0 0) := by
  have cg := fun W (e : Ext w W) => gridOk_any A ca g (-100) 100 W hl hr (hx.ext e)
  have cd := fun W => implDirectionOk_any dx dy W
  cases h1 : gridOk g (-100) 100
  · simp only [h1] at cg
    have HR : Hid (gsI g dx dy = []) := Lib.hid (by unfold gsI; rw [if_neg (by rw [h1]; simp)])
    have cg2 := cg _ ((Ext.refl w).alloc (.cells #[.int .i64 dx, .int .i64 dy] 32))
    clear hx hr cg
    go_enter Try.func28, Try.ntmps28
    go_wp2_with (go_at_call 72; refine cg2.mono ?_; rintro e w' ⟨rfl, rfl⟩)
    go_ret
    exact ⟨_, rfl, by rw [HR.out]; exact Own.nil _ _, (Ext.refl w).alloc _, fun _ => rfl⟩
  simp only [h1] at cg
  have cg2 := cg _ ((Ext.refl w).alloc (.cells #[.int .i64 dx, .int .i64 dy] 32))
  cases h2 : dirOk dx dy
  · simp only [h2] at cd
    have HR : Hid (gsI g dx dy = []) := Lib.hid (by unfold gsI; rw [if_neg (by rw [h2]; simp)])
    clear hx hr cg
    go_enter Try.func28, Try.ntmps28
    go_wp2_with (go_at_call 72; refine cg2.mono ?_; rintro e w' ⟨rfl, rfl⟩)
    refine (cd _).mono ?_
    rintro e w1 ⟨rfl, he⟩
    have HE := Lib.hid (((Ext.refl w).alloc _).trans he)
    clear he
    go_wp2_with fail
    go_ret
    exact ⟨_, rfl, by rw [HR.out]; exact Own.nil _ _, HE.out, fun _ => rfl⟩
  simp only [h2] at cd
  obtain ⟨hs, hn, hk, hb⟩ := grid_bd h1
  have HNE : Hid (gsI g dx dy ≠ []) := Lib.hid (by
    have h3 : gsI g dx dy = lsI g g.length (g.headD []).length dx dy := by unfold gsI; rw [if_pos ⟨h1, h2⟩]
    obtain ⟨d1, d2⟩ := dir_bd h2
    have h4 := countN_bd (n := g.length) (k := (g.headD []).length) d1 d2 (by omega) (by omega)
    intro e
    rw [h3] at e
    have := congrArg List.length e
    unfold lsI at this
    rw [List.length_map, List.length_range, List.length_nil] at this
    omega)
  have HSO : Hid (∀ W, Ext w W → Calls Try.prog 74 #[.slice A g.length ca, .agg #[.int .i64 dx, .int .i64 dy]] W fun e w' => ∃ v, e = .returned v ∧ Own w' W.heap.size v (gsI g dx dy) ∧ Ext W w') := Lib.hid fun W e => by
    have h3 : gsI g dx dy = lsI g g.length (g.headD []).length dx dy := by unfold gsI; rw [if_pos ⟨h1, h2⟩]
    rw [h3]
    exact sumsOn_any A ca g g.length (g.headD []).length dx dy W hs hn hk hb h2 (hx.ext e)
  obtain ⟨n, hgn⟩ : ∃ n, g.length = n := ⟨_, rfl⟩
  rw [hgn] at HSO cg2 ⊢
  clear hx hr cg h1 h2 hs hn hk hb hgn hl
  go_enter Try.func28, Try.ntmps28
  go_wp2_with (go_at_call 72; refine cg2.mono ?_; rintro e w' ⟨rfl, rfl⟩)
  refine (cd _).mono ?_
  rintro e w1 ⟨rfl, he⟩
  have q1 : w1.cell? ⟨w.heap.size, 0, none⟩ = some (.int .i64 dx) := (he.cell (by simp)).trans (by simp)
  have q2 : w1.cell? ⟨w.heap.size, 1, none⟩ = some (.int .i64 dy) := (he.cell (by simp)).trans (by simp)
  have HE := Lib.hid (((Ext.refl w).alloc _).trans he)
  have cs := HSO.out w1 HE.out
  clear he cd
  go_wp2_with fail
  refine cs.mono ?_
  rintro e w2 ⟨v, rfl, ho, he⟩
  have HO := Lib.hid (ho.base HE.out.size)
  have HE2 := Lib.hid (HE.out.trans he)
  clear ho he cs
  go_wp2_with fail
  go_ret
  exact ⟨_, rfl, HO.out, HE2.out, fun h => absurd h HNE.out⟩
set_option maxHeartbeats 2000000 in
theorem l11Grid_any (A : Option Addr) (ca : Nat) (g : Grid) (w : World) (hl : g.length ≤ 1048576) (hr : ∀ r ∈ g, r.length ≤ 1048576) (hx : GridAt w A g) :
    Calls Try.prog 68 #[.slice A g.length ca] w fun e w' => e = .returned (.bool (gridOk g (-100) 100)) ∧ w = w' := by
  cases hg : g with
  | nil =>
    have HR : Hid (gridOk [] (-100) 100 = false) := Lib.hid (by simp [gridOk, inR])
    clear hx
    simp only [List.length_nil]
    go_enter Try.func68, Try.ntmps68
    go_wp2_with fail
    go_ret
    exact ⟨ret_bool HR.out.symm, rfl⟩
  | cons g0 gs0 =>
  rw [← hg]
  have hgl1 : 1 ≤ g.length := by rw [hg]; simp
  obtain ⟨bg, og, _, _, _, hB, _⟩ := hx.at_ (k := 0) (by omega)
  subst hB
  obtain ⟨R1, c1, r1, hr1, q3, _⟩ := hx.at1 (k := 0) (by omega)
  have hr10 : (g.headD []).length = r1.length := by
    have h9 := hr1.out
    rw [hg] at h9 ⊢
    have e : g0 = r1 := by simpa using h9
    rw [← e]; rfl
  rw [Nat.add_zero, ← hr10] at q3
  have cg := l08Size_any (some ⟨bg, og, none⟩) ca g (g.length : Int) ((g.headD []).length : Int) (-100) 100 w hl hr hx
  have HR : Hid (gridOk g (-100) 100 = ((inR g.length 1 5 && inR (g.headD []).length 1 5) && sized g (g.length : Int) ((g.headD []).length : Int) (-100) 100)) := Lib.hid (by
    rw [Bool.eq_iff_iff, gridOk_iff, Bool.and_eq_true, Bool.and_eq_true, inR_iff, inR_iff, sized_iff]
    have hm := List.mem_of_getElem? hr1.out
    constructor
    · rintro ⟨h1, h2⟩
      have h3 := (h2 r1 hm).2.1
      refine ⟨⟨by omega, by omega⟩, rfl, fun r hr => ⟨by rw [(h2 r hr).1], (h2 r hr).2.2⟩⟩
    · rintro ⟨⟨h1, h2⟩, _, h3⟩
      exact ⟨by omega, fun r hr => ⟨by have := (h3 r hr).1; omega, by have := (h3 r hr).1; omega, (h3 r hr).2⟩⟩)
  obtain ⟨gn, hgn⟩ : ∃ gn, g.length = gn := ⟨_, rfl⟩
  obtain ⟨gk, hgk⟩ : ∃ gk, (g.headD []).length = gk := ⟨_, rfl⟩
  rw [hgn] at hgl1 hl HR cg ⊢
  rw [hgk] at q3 cg HR
  have hg5 := hr r1 (List.mem_of_getElem? hr1.out)
  rw [← hr10, hgk] at hg5
  clear hx hr hg hr1 hr10 hgn hgk
  obtain ⟨S, hS⟩ : ∃ S, sized g gn gk (-100) 100 = S := ⟨_, rfl⟩
  rw [hS] at cg HR
  clear hS
  cases b1 : (inR gn 1 5 && inR gk 1 5)
  · rw [b1] at HR
    go_enter Try.func68, Try.ntmps68
    go_wp2_with (go_at_call 79; refine (l03Size_any _ _ _).mono ?_; rintro e w' ⟨rfl, rfl⟩)
    go_ret
    exact ⟨ret_bool HR.out.symm, rfl⟩
  · rw [b1, Bool.true_and] at HR
    go_enter Try.func68, Try.ntmps68
    go_wp2_with (first | (go_at_call 79; refine (l03Size_any _ _ _).mono ?_; rintro e w' ⟨rfl, rfl⟩) | (go_at_call 106; refine cg.mono ?_; rintro e w' ⟨rfl, rfl⟩))
    go_ret
    exact ⟨ret_bool HR.out.symm, rfl⟩
end Go.Proofs.Ytnnkondlefjkcaa
