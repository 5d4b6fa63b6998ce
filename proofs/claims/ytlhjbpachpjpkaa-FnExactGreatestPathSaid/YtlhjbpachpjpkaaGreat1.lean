/- The greatest length of a shortest way: the program's GreatestPath. -/
import Derived.Test.YtlhjbpachpjpkaaPtA
import Derived.Test.YtlhjbpachpjpkaaAllImpl
import Derived.Carry
import Derived.Deep.RegionWith
import Derived.Deep.DeepCutAuto
namespace Go.Proofs.Ytlhjbpachpjpkaa
open Go.RowKit Tomo

theorem OwnGrids.toO {w : World} {B : Nat} {v : Value} {gs : List Grid} (h : OwnGrids w B v gs) : GridsO w B v gs := by
  obtain ⟨us, h1, h2, h3, _⟩ := h
  exact ⟨us, h1, h2, fun k u g hu hg => (h3 k u g hu hg).base (Nat.zero_le _)⟩
/-- what GreatestPath answers -/
noncomputable def greatI (rows cols : List Int) : Int :=
  match allI rows cols with
  | [] => -1
  | g :: gs => if 4 < rows.length ∨ 4 < cols.length then -1 else ((maxL ((g :: gs).map (wayLen (sideBy rows.length cols.length) g)) : Nat) : Int)
theorem maxL_take {L : List Grid} {f : Grid → Nat} {p : Nat} {g : Grid} (h : L[p]? = some g) : maxL ((L.take (p + 1)).map f) = max (maxL ((L.take p).map f)) (f g) := by
  rw [take_succ_of h, List.map_append]
  exact maxL_snoc _ _
set_option maxRecDepth 100000 in
set_option maxHeartbeats 16000000 in
theorem implGreatestPath_any (A B : Option Addr) (ca cb : Nat) (rows cols : List Int) (w : World) (hl : rows.length ≤ 1048576) (hl2 : cols.length ≤ 1048576) (hx : Ints w A rows) (hy : Ints w B cols) :
    Calls Try.prog 28 #[.slice A rows.length ca, .slice B cols.length cb] w fun e w' => e = .returned (.int .i64 (greatI rows cols)) ∧ Ext w w' := by
  have c1 := implAllImages_any A B ca cb rows cols w hl hl2 hx hy
  obtain ⟨n, hn⟩ : ∃ n, rows.length = n := ⟨_, rfl⟩
  obtain ⟨k, hk⟩ : ∃ k, cols.length = k := ⟨_, rfl⟩
  have hfew := allI_len rows cols
  have HIM : Hid (∀ g ∈ allI rows cols, Img g n k) := Lib.hid (fun g hg => by have := allI_img hg; rw [hn, hk] at this; exact this)
  cases hL : allI rows cols with
  | nil =>
    have HG : Hid (greatI rows cols = -1) := Lib.hid (by unfold greatI; rw [hL])
    rw [hL] at c1
    rw [hn, hk] at c1 ⊢
    rw [HG.out]
    clear hx hy HIM hfew
    go_enter Try.func28, Try.ntmps28
    go_wp2_with fail
    refine c1.mono ?_
    rintro e w1 ⟨v, rfl, hv, he⟩
    clear c1
    obtain ⟨V, vc, rfl, _, _⟩ := hv.slice
    clear hv
    go_wp2_with fail
    exact bodyPost_ret (v := .int .i64 (-1)) (by simp [results, Try.results28, go_sem]) rfl ⟨rfl, he⟩
  | cons g0 gs =>
    obtain ⟨L, hLL⟩ : ∃ L, g0 :: gs = L := ⟨_, rfl⟩
    obtain ⟨ln, hln⟩ : ∃ ln, L.length = ln := ⟨_, rfl⟩
    have hln0 : 0 < ln := by rw [← hln, ← hLL]; simp
    have hg0 : L[0]? = some g0 := by rw [← hLL]; rfl
    rw [hL, hLL, hln] at hfew
    rw [hL, hLL] at c1 HIM
    have HLN := Lib.hid hln
    have HG0 := Lib.hid hg0
    have HALL : Hid (allI rows cols = L) := Lib.hid (hL.trans hLL)
    have HN := Lib.hid hn
    have HK := Lib.hid hk
    have HG : Hid (greatI rows cols = if 4 < n ∨ 4 < k then -1 else ((maxL (L.map (wayLen (sideBy n k) g0)) : Nat) : Int)) := Lib.hid (by unfold greatI; rw [hL, ← hLL, ← hn, ← hk])
    obtain ⟨G, hG⟩ : ∃ G, greatI rows cols = G := ⟨_, rfl⟩
    rw [hG] at HG
    rw [hG, hn, hk]
    rw [hn, hk] at c1
    clear hx hy hL hLL hg0 hG
    go_enter Try.func28, Try.ntmps28
    go_wp2_with fail
    refine c1.mono ?_
    rintro e w1 ⟨v, rfl, hv, he⟩
    clear c1
    obtain ⟨b, vc, rfl, _, hbl, hel⟩ := hv.toO.form (by rw [hln]; exact hln0)
    rw [hln]
    have HE1 := Lib.hid he
    have HEL := Lib.hid hel
    have hln1 : ((ln : Int) == 0) = false := by rw [beq_eq_false_iff_ne]; omega
    clear hv hel hln
    by_cases hn4 : 4 < n
    · have hn4I : (4 : Int) < (n : Int) := by omega
      obtain rfl : G = -1 := by rw [HG.out, if_pos (.inl hn4)]
      go_wp2_with fail
      exact bodyPost_ret (v := .int .i64 (-1)) (by simp [results, Try.results28, go_sem]) rfl ⟨rfl, HE1.out⟩
    · have hn4I : ¬ (4 : Int) < (n : Int) := by omega
      by_cases hk4 : 4 < k
      · have hk4I : (4 : Int) < (k : Int) := by omega
        obtain rfl : G = -1 := by rw [HG.out, if_pos (.inr hk4)]
        go_wp2_with fail
        exact bodyPost_ret (v := .int .i64 (-1)) (by simp [results, Try.results28, go_sem]) rfl ⟨rfl, HE1.out⟩
      · have hk4I : ¬ (4 : Int) < (k : Int) := by omega
        have HGV : Hid (G = ((maxL (L.map (wayLen (sideBy n k) g0)) : Nat) : Int)) := Lib.hid (by rw [HG.out, if_neg (by omega)])
        clear HG
        go_wp2_with fail
        go_loopw [33, 7, 9, 10, 11] (fun i m _ _ _ wr => ∃ p mx : Nat, p ≤ ln ∧ i = .int .i64 p ∧ m = .int .i64 mx ∧ Hid (mx = maxL ((L.take p).map (wayLen (sideBy n k) g0))) ∧ Hid (Ext w1 wr)) (fun i _ _ _ _ _ => ln - (intOf i).toNat)
        case atStart => exact ⟨0, 0, Nat.zero_le _, rfl, rfl, Lib.hid rfl, Lib.hid (Ext.refl w1)⟩
        case round =>
          rename World => wr
          obtain ⟨p, mx, hp, rfl, rfl, hM, hE⟩ := hrel
          by_cases hlt : p < ln
          · have hltI : (p : Int) < (ln : Int) := by omega
            obtain ⟨g, hg⟩ : ∃ g, L[p]? = some g := ⟨_, List.getElem?_eq_getElem (by rw [HLN.out]; exact hlt)⟩
            obtain ⟨X, xc, hc1, ho1, _⟩ := HEL.out p g hg
            obtain ⟨X0, xc0, hc0, _, hx0⟩ := HEL.out 0 g0 HG0.out
            rw [(HIM.out g (List.mem_of_getElem? hg)).1.1] at hc1 ho1
            rw [(HIM.out g0 (List.mem_of_getElem? HG0.out)).1.1] at hc0
            have cp := PathTo_any X0 X xc0 xc rows cols n k g0 g wr HN.out HK.out (by omega) (by omega) (by rw [HALL.out]; exact List.mem_of_getElem? HG0.out) (by rw [HALL.out]; exact List.mem_of_getElem? hg) (hx0.ext hE.out) (ho1.ext hE.out)
            rw [wayLen_symm side_symm g g0] at cp
            have hc1 := (hE.out.cell (World.block_lt_of_cell? _ _ hc1)).trans hc1
            have hc0 := (hE.out.cell (World.block_lt_of_cell? _ _ hc0)).trans hc0
            obtain ⟨D, hD⟩ : ∃ D, wayLen (sideBy n k) g0 g = D := ⟨_, rfl⟩
            rw [hD] at cp
            have HM2 : Hid (max mx D = maxL ((L.take (p + 1)).map (wayLen (sideBy n k) g0))) := Lib.hid (by rw [maxL_take hg, ← hM.out, hD])
            clear ho1 hx0 hg hD
            go_wp2_with fail
            refine cp.mono ?_
            rintro e w2 ⟨P, pc, rfl, he2⟩
            clear cp hc1 hc0
            have HE2 := Lib.hid (hE.out.trans he2)
            clear he2
            go_wp2_with fail
            refine ⟨⟨p + 1, max mx D, by omega, by go_num, ?_, HM2, HE2⟩, by simp [intOf]; omega⟩
            have : ((max mx D : Nat) : Int) = if mx < D then (D : Int) else (mx : Int) := by split <;> omega
            rw [this]
          · obtain rfl : p = ln := by omega
            have HR : Hid (G = (mx : Int)) := Lib.hid (by rw [HGV.out, hM.out, List.take_of_length_le (by rw [HLN.out]; exact Nat.le_refl _)])
            have hR := HR.out
            subst hR
            have HEND := Lib.hid (HE1.out.trans hE.out)
            clear HGV hM hE
            go_wp2_with fail
            exact bodyPost_ret (v := .int .i64 mx) (by simp [results, Try.results28, go_sem]) rfl ⟨rfl, HEND.out⟩
end Go.Proofs.Ytlhjbpachpjpkaa
