/- IsGhost in the program. -/
import Derived.Test.YtiekgdgonleoaaaLines4
import Derived.Test.YtiekgdgonleoaaaDirs4
import Derived.Lib.SliceRun
namespace Go.Proofs.Ytiekgdgonleoaaa
open Go.RowKit Tomo

def zeroL (r : List Int) : Bool := allIn r 0 0
/-- the grid is a ghost of these directions -/
def ghostB (g : Grid) (ds : List (Int × Int)) : Bool := dirsOk ds && gridOk g (-100) 100 && (ds.all fun d => zeroL (gsI g d.1 d.2)) && g.any fun r => !zeroL r
theorem take_any_succ {α : Type} {l : List α} {k : Nat} {x : α} (h : l[k]? = some x) (p : α → Bool) : (l.take (k + 1)).any p = ((l.take k).any p || p x) := by
  rw [take_succ_of h, List.any_append]; simp
theorem dirsOk_dir {ds : List (Int × Int)} (h : dirsOk ds = true) {k : Nat} {x y : Int} (hk : ds[k]? = some (x, y)) : dirOk x y = true := by
  unfold dirsOk at h
  rw [Bool.and_eq_true] at h
  have hlt := (List.getElem?_eq_some_iff.1 hk).1
  have h2 := (List.all_eq_true.1 h.2) k (List.mem_range.2 hlt)
  rw [dOkAt_eq hk, Bool.and_eq_true] at h2
  exact h2.1
theorem dirsOk_len4 {ds : List (Int × Int)} (h : dirsOk ds = true) : 1 ≤ ds.length ∧ ds.length ≤ 4 := by
  unfold dirsOk at h
  rw [Bool.and_eq_true, inR_iff] at h
  omega
theorem gsI_pos {g : Grid} {dx dy : Int} (h1 : gridOk g (-100) 100 = true) (h2 : dirOk dx dy = true) : 0 < (gsI g dx dy).length ∧ (gsI g dx dy).length ≤ 100 := by
  obtain ⟨_, hn, hk, _⟩ := grid_bd h1
  obtain ⟨d1, d2⟩ := dir_bd h2
  have h4 := countN_bd (n := g.length) (k := (g.headD []).length) d1 d2 (by omega) (by omega)
  unfold gsI
  rw [if_pos ⟨h1, h2⟩]
  unfold lsI
  rw [List.length_map, List.length_range]
  omega
theorem ghostB_bad {g : Grid} {ds : List (Int × Int)} {k : Nat} {x y : Int} (hk : ds[k]? = some (x, y)) (h : zeroL (gsI g x y) = false) : ghostB g ds = false := by
  unfold ghostB
  have : (ds.all fun d => zeroL (gsI g d.1 d.2)) = false := List.all_eq_false.2 ⟨(x, y), List.mem_of_getElem? hk, by rw [h]; simp⟩
  rw [this]; simp

set_option maxRecDepth 100000 in
set_option maxHeartbeats 4000000 in
theorem implIsGhost_any (A B : Option Addr) (ca cb : Nat) (g : Grid) (ds : List (Int × Int)) (w : World) (hl : g.length ≤ 1048576) (hr : ∀ r ∈ g, r.length ≤ 1048576) (hx : GridAt w A g) (hdl : ds.length ≤ 1048576) (hcap : ds.length ≤ cb) (hd : LDirs w B ds) :
    Calls Try.prog 14 #[.slice A g.length ca, .slice B ds.length cb] w fun e w' => e = .returned (.bool (ghostB g ds)) ∧ Ext w w' := by
  have qT : ∀ (w : World) (a : Option Addr) (n c n' c' : Nat), (binOp .eql 27 (.slice a n c) (.slice none n' c')).run Try.prog w = .ok (.bool a.isNone) w := fun w a n c n' c' => Lib.run_eql_slice_nil w _ _ a n c n' c' Try.underlying27
  have ci := implDirectionsOk_any B cb ds w hdl hcap hd
  cases h0 : dirsOk ds
  · rw [h0] at ci
    have HR : Hid (ghostB g ds = false) := Lib.hid (by unfold ghostB; rw [h0]; rfl)
    clear hx hr hd
    go_enter Try.func14, Try.ntmps14
    go_wp2_with fail
    refine ci.mono ?_
    rintro e w1 ⟨rfl, he⟩
    have HE := Lib.hid he
    clear he ci
    go_wp2_with fail
    go_ret
    exact ⟨ret_bool HR.out.symm, HE.out⟩
  rw [h0] at ci
  have HD0 := Lib.hid h0
  obtain ⟨hd1, hd4⟩ := dirsOk_len4 h0
  have HGS : Hid (∀ (x y : Int) W, Ext w W → Calls Try.prog 35 #[.slice A g.length ca, .agg #[.int .i64 x, .int .i64 y]] W fun e w' => ∃ v, e = .returned v ∧ Own w' W.heap.size v (gsI g x y) ∧ Ext W w' ∧ (gsI g x y = [] → v = .slice none 0 0)) := Lib.hid fun x y W e => implGridSums_any A ca g x y W hl hr (hx.ext e)
  have HX := Lib.hid hx
  have HD := Lib.hid hd
  have HRL := Lib.hid hr
  cases h1 : gridOk g (-100) 100
  · have HR : Hid (ghostB g ds = false) := Lib.hid (by unfold ghostB; rw [h0, h1]; rfl)
    have HG0 : Hid (∀ x y, gsI g x y = []) := Lib.hid (fun x y => by unfold gsI; rw [if_neg (by rw [h1]; simp)])
    obtain ⟨gn, hgn⟩ : ∃ gn, g.length = gn := ⟨_, rfl⟩
    rw [hgn] at HGS ⊢
    clear hx hr hd h0 h1 hgn HX HRL
    go_enter Try.func14, Try.ntmps14
    go_wp2_with fail
    refine ci.mono ?_
    rintro e w1 ⟨rfl, he⟩
    have HE := Lib.hid he
    clear he ci
    go_wp2_with fail
    go_loopw [15, 6, 7] (fun i _ _ wr => i = .int .i64 0 ∧ Hid (Ext w wr)) (fun i _ _ _ => ds.length - (intOf i).toNat)
    case atStart => exact ⟨rfl, HE⟩
    case round =>
      rename World => wa
      obtain ⟨rfl, hE⟩ := hrel
      obtain ⟨b, o, x, y, rfl, hb, HXY, hd1', hd2'⟩ := (HD.out.ext hE.out).at_ (k := 0) (by omega)
      simp only [Nat.zero_mul, Nat.add_zero] at hd1' hd2'
      have cs := HGS.out x y _ (hE.out.alloc (.cells #[.int .i64 x, .int .i64 y] 35))
      go_wp2_with fail
      refine cs.mono ?_
      rintro e w2 ⟨v, rfl, _, he, hv⟩
      obtain rfl := hv (HG0.out x y)
      have HE2 := Lib.hid ((hE.out.alloc _).trans he)
      clear he cs hv
      go_wp2_with fail
      go_ret
      exact ⟨ret_bool HR.out.symm, HE2.out⟩
  have HG1 := Lib.hid h1
  have HSP : Hid (∀ (k : Nat) (x y : Int), ds[k]? = some (x, y) → 0 < (gsI g x y).length ∧ (gsI g x y).length ≤ 100) := Lib.hid fun k x y hk => gsI_pos h1 (dirsOk_dir h0 hk)
  obtain ⟨gn, hgn⟩ : ∃ gn, g.length = gn := ⟨_, rfl⟩
  have HGN := Lib.hid hgn
  rw [hgn] at HGS hl ⊢
  clear hx hr hd h0 h1 hgn
  go_enter Try.func14, Try.ntmps14
  go_wp2_with fail
  refine ci.mono ?_
  rintro e w1 ⟨rfl, he⟩
  have HE := Lib.hid he
  clear he ci
  go_wp2_with fail
  go_loopw [15, 6, 7] (fun i _ _ wr => ∃ a : Nat, a ≤ ds.length ∧ i = .int .i64 a ∧ Hid (((ds.take a).all fun d => zeroL (gsI g d.1 d.2)) = true) ∧ Hid (Ext w wr)) (fun i _ _ _ => ds.length - (intOf i).toNat)
  case atStart => exact ⟨0, Nat.zero_le _, rfl, Lib.hid rfl, HE⟩
  case round =>
    rename World => wa
    obtain ⟨a, ha, rfl, hA, hE⟩ := hrel
    by_cases hlt : a < ds.length
    · obtain ⟨b, o, x, y, rfl, hb, HXY, hd1', hd2'⟩ := (HD.out.ext hE.out).at_ hlt
      have cs := HGS.out x y _ (hE.out.alloc (.cells #[.int .i64 x, .int .i64 y] 35))
      have hsp := HSP.out a x y HXY.out
      go_wp2_with fail
      refine cs.mono ?_
      rintro e w2 ⟨v, rfl, ho, he, _⟩
      have HE2 := Lib.hid ((hE.out.alloc _).trans he)
      obtain ⟨bs, cs', rfl, _⟩ := ho.form hsp.1
      have cw := allWithin_any (some ⟨bs, 0, none⟩) cs' (gsI g x y) 0 0 w2 (by omega) ho.ints.2
      have HZ : Hid (zeroL (gsI g x y) = allIn (gsI g x y) 0 0) := Lib.hid rfl
      obtain ⟨Z, hZ⟩ : ∃ Z, allIn (gsI g x y) 0 0 = Z := ⟨_, rfl⟩
      rw [hZ] at cw HZ
      obtain ⟨sn, hsn⟩ : ∃ sn, (gsI g x y).length = sn := ⟨_, rfl⟩
      rw [hsn] at cw hsp ⊢
      obtain ⟨hs0, hs1⟩ := hsp
      clear he cs ho hZ hsn
      cases Z
      · have HB := Lib.hid (ghostB_bad HXY.out HZ.out)
        go_wp2_with (go_at_call 36; refine cw.mono ?_; rintro e w' ⟨rfl, rfl⟩)
        go_ret
        exact ⟨ret_bool HB.out.symm, HE2.out⟩
      · have HN : Hid (((ds.take (a + 1)).all fun d => zeroL (gsI g d.1 d.2)) = true) := Lib.hid (by rw [take_all_succ HXY.out, hA.out, HZ.out]; rfl)
        go_wp2_with (go_at_call 36; refine cw.mono ?_; rintro e w' ⟨rfl, rfl⟩)
        go_roundw
        case rel => exact ⟨a + 1, by omega, by go_num, HN, HE2⟩
        case measure => simp [intOf]; omega
    · obtain rfl : a = ds.length := by omega
      have HALL : Hid ((ds.all fun d => zeroL (gsI g d.1 d.2)) = true) := Lib.hid (by have := hA.out; rw [take_full] at this; exact this)
      clear hA
      go_wp2_with fail
      go_loopw [32, 9] (fun i _ wr => ∃ a : Nat, a ≤ gn ∧ i = .int .i64 a ∧ Hid (((g.take a).any fun r => !zeroL r) = false) ∧ Hid (Ext w wr)) (fun i _ _ => gn - (intOf i).toNat)
      case atStart => exact ⟨0, Nat.zero_le _, rfl, Lib.hid rfl, hE⟩
      case round =>
        rename World => wb
        clear hE
        obtain ⟨c, hc, rfl, hC, hE⟩ := hrel
        by_cases hltc : c < gn
        · obtain ⟨b5, o5, R5, c5, r, hA5, _, hr5, hc5, hi5⟩ := (HX.out.ext hE.out).at_ (k := c) (by rw [HGN.out]; exact hltc)
          subst hA5
          have cw := allWithin_any R5 c5 r 0 0 wb (HRL.out r (List.mem_of_getElem? hr5.out)) hi5
          have hrl := HRL.out r (List.mem_of_getElem? hr5.out)
          have HZ : Hid (zeroL r = allIn r 0 0) := Lib.hid rfl
          obtain ⟨Z, hZ⟩ : ∃ Z, allIn r 0 0 = Z := ⟨_, rfl⟩
          rw [hZ] at cw HZ
          have HRM := Lib.hid (List.mem_of_getElem? hr5.out)
          clear hi5 hZ
          cases Z
          · have HB : Hid (ghostB g ds = true) := Lib.hid (by
              unfold ghostB
              rw [HD0.out, HG1.out, HALL.out]
              simp only [Bool.true_and]
              rw [List.any_eq_true]
              exact ⟨r, HRM.out, by rw [HZ.out]; rfl⟩)
            go_wp2_with (go_at_call 36; refine cw.mono ?_; rintro e w' ⟨rfl, rfl⟩)
            go_ret
            exact ⟨ret_bool HB.out.symm, hE.out⟩
          · have HN : Hid (((g.take (c + 1)).any fun r => !zeroL r) = false) := Lib.hid (by rw [take_any_succ hr5.out, hC.out, HZ.out]; rfl)
            go_wp2_with (go_at_call 36; refine cw.mono ?_; rintro e w' ⟨rfl, rfl⟩)
            go_roundw
            case rel => exact ⟨c + 1, by omega, by go_num, HN, hE⟩
            case measure => simp [intOf]; omega
        · obtain rfl : c = gn := by omega
          have HB : Hid (ghostB g ds = false) := Lib.hid (by
            have := hC.out
            rw [← HGN.out, take_full] at this
            unfold ghostB
            rw [this]; simp)
          go_wp2_with fail
          go_ret
          exact ⟨ret_bool HB.out.symm, hE.out⟩
end Go.Proofs.Ytiekgdgonleoaaa
