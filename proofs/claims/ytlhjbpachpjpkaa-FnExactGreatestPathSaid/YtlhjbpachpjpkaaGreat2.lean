/- The greatest length of a shortest way: the specification's GreatestPath. -/
import Derived.Test.YtlhjbpachpjpkaaVisit
import Derived.Test.YtlhjbpachpjpkaaGreat1
import Derived.Test.YtlhjbpachpjpkaaExA
import Derived.Test.YtlhjbpachpjpkaaPick
import Derived.Carry
import Derived.Deep.RegionWith
namespace Go.Proofs.Ytlhjbpachpjpkaa
open Go.RowKit Tomo

set_option maxRecDepth 100000 in
set_option maxHeartbeats 16000000 in
theorem specGreatestPath_any (A B : Option Addr) (ca cb : Nat) (rows cols : List Int) (w : World) (hl : rows.length ≤ 1048576) (hl2 : cols.length ≤ 1048576) (hca : rows.length ≤ ca) (hx : Ints w A rows) (hy : Ints w B cols) (hx2 : Typed w A rows) (hy2 : Typed w B cols) :
    Calls Try.prog 26 #[.slice A rows.length ca, .slice B cols.length cb] w fun e w' => e = .returned (.int .i64 (greatI rows cols)) ∧ Ext w w' := by
  have c1 := Exists_any A B ca cb rows cols w hl hl2 hx hy
  obtain ⟨n, hn⟩ : ∃ n, rows.length = n := ⟨_, rfl⟩
  obtain ⟨k, hk⟩ : ∃ k, cols.length = k := ⟨_, rfl⟩
  obtain ⟨G, hG⟩ : ∃ G, greatI rows cols = G := ⟨_, rfl⟩
  have HGG := Lib.hid hG
  have HN := Lib.hid hn
  have HK := Lib.hid hk
  cases hE : exI rows cols
  · rw [hE] at c1
    have hGm : G = -1 := by rw [← hG]; unfold greatI; rw [allI_none hE]
    rw [hG, hGm, hn, hk]
    rw [hn, hk] at c1
    clear hx hy hx2 hy2 hG HGG hGm
    go_enter Try.func26, Try.ntmps26
    go_wp2_with fail
    refine c1.mono ?_
    rintro e w1 ⟨rfl, he⟩
    clear c1
    go_wp2_with fail
    exact bodyPost_ret (v := .int .i64 (-1)) (by simp [results, Try.results26, go_sem]) rfl ⟨rfl, he⟩
  · obtain ⟨hs, hne⟩ := allI_some hE
    obtain ⟨g0, gs, hL⟩ := List.exists_cons_of_ne_nil hne
    have HL := Lib.hid hL
    have HGV : Hid (G = if 4 < n ∨ 4 < k then -1 else ((maxL ((g0 :: gs).map (wayLen (sideBy n k) g0)) : Nat) : Int)) := Lib.hid (by rw [← hG, ← hn, ← hk]; unfold greatI; rw [hL])
    have HCA : Hid (∀ W, Ext w W → Calls Try.prog 60 #[.slice none 0 0, .slice none 0 0, .slice A n ca, .slice B k cb] W fun e w' => ∃ v, e = .returned v ∧ OwnGrids w' W.heap.size v (g0 :: gs) ∧ Ext W w') := Lib.hid fun W e => by
      have h := l05AllNil_any A B ca cb rows cols W hs hca (hx2.ext e) (hy2.ext e)
      rw [hL, hn, hk] at h
      exact h
    have HG0 : Hid (g0 ∈ allI rows cols) := Lib.hid (by rw [hL]; exact List.mem_cons_self)
    have hg0i : g0.length = n := by have := allI_img HG0.out; rw [hn] at this; exact this.1.1
    rw [hE] at c1
    rw [hG, hn, hk]
    rw [hn, hk] at c1
    clear hx hy hx2 hy2 hG hs hne hL
    go_enter Try.func26, Try.ntmps26
    go_wp2_with fail
    refine c1.mono ?_
    rintro e w1 ⟨rfl, he⟩
    have HE1 := Lib.hid he
    clear c1
    by_cases hn4 : 4 < n
    · have hn4I : (4 : Int) < (n : Int) := by omega
      obtain rfl : G = -1 := by rw [HGV.out, if_pos (.inl hn4)]
      go_wp2_with fail
      exact bodyPost_ret (v := .int .i64 (-1)) (by simp [results, Try.results26, go_sem]) rfl ⟨rfl, HE1.out⟩
    · have hn4I : ¬ (4 : Int) < (n : Int) := by omega
      by_cases hk4 : 4 < k
      · have hk4I : (4 : Int) < (k : Int) := by omega
        obtain rfl : G = -1 := by rw [HGV.out, if_pos (.inr hk4)]
        go_wp2_with fail
        exact bodyPost_ret (v := .int .i64 (-1)) (by simp [results, Try.results26, go_sem]) rfl ⟨rfl, HE1.out⟩
      · have hk4I : ¬ (4 : Int) < (k : Int) := by omega
        have HGM : Hid (G = ((maxL ((g0 :: gs).map (wayLen (sideBy n k) g0)) : Nat) : Int)) := Lib.hid (by rw [HGV.out, if_neg (by omega)])
        have c2 := HCA.out w1 he
        clear HGV HCA he
        go_wp2_with fail
        refine c2.mono ?_
        rintro e w2 ⟨v, rfl, hv, he2⟩
        clear c2
        obtain ⟨b, vc, rfl, _, hbl, hel⟩ := hv.toO.form (by simp)
        obtain ⟨X, xc, hc0, _, hx0⟩ := hel 0 g0 rfl
        obtain ⟨ln, hln⟩ : ∃ ln, (g0 :: gs).length = ln := ⟨_, rfl⟩
        have hln0 : 0 < ln := by rw [← hln]; simp
        have hln0I : (0 : Int) < (ln : Int) := by omega
        rw [hln]
        rw [hg0i] at hc0
        have c3 := l06Visit_any X xc rows cols n k g0 w2 HN.out HK.out HG0.out hx0
        have HE2 := Lib.hid (HE1.out.trans he2)
        clear hel hx0 hv he2
        go_wp2_with fail
        refine c3.mono ?_
        rintro e w3 ⟨lv, wv, qs, ds, rfl, hV⟩
        clear c3 hc0
        have HE3 := Lib.hid (HE2.out.trans hV.ext)
        have HMX : Hid (G = (maxL ds : Nat)) := Lib.hid (by
          have hb := hV.bfs
          rw [HN.out, HK.out] at hb
          rw [HGM.out, max_dist (L := g0 :: gs) hb (fun q hq => by rw [← HL.out]; exact hV.cls q hq)])
        have hq0 : 0 < qs.length := (List.getElem?_eq_some_iff.1 hV.bfs.first.1).1
        have hfew := hV.few
        have hdl : ds.length = qs.length := hV.bfs.len.symm
        obtain ⟨b2, c2, rfl, _, _, hwel⟩ := hV.ways.form (by omega)
        have HWEL : Hid (∀ (j : Nat) d, ds[j]? = some d → ∃ g gc, w3.cell? ⟨b2, j, none⟩ = some (.slice (some ⟨g, 0, none⟩) d gc)) := Lib.hid fun j d hd => by
          obtain ⟨u, h1, g, gc, ss, rfl, _, _⟩ := hwel j d hd
          exact ⟨g, gc, h1⟩
        obtain ⟨dn, hdn⟩ : ∃ dn, ds.length = dn := ⟨_, rfl⟩
        have HDN := Lib.hid hdn
        have hdfew : dn ≤ 33554432 := by omega
        rw [hdn]
        clear hV hwel hdl hdn hq0 hfew HGM
        go_wp2_with fail
        go_loopw [35, 7, 9] (fun i m _ wr => ∃ p mx : Nat, p ≤ dn ∧ i = .int .i64 p ∧ m = .int .i64 mx ∧ w3 = wr ∧ Hid (mx = maxL (ds.take p))) (fun i _ _ _ => dn - (intOf i).toNat)
        case atStart => exact ⟨0, 0, Nat.zero_le _, rfl, rfl, rfl, Lib.hid rfl⟩
        case round =>
          rename World => wr
          obtain ⟨p, mx, hp, rfl, rfl, rfl, hM⟩ := hrel
          by_cases hlt : p < dn
          · have hltI : (p : Int) < (dn : Int) := by omega
            obtain ⟨D, hD⟩ : ∃ D, ds[p]? = some D := ⟨_, List.getElem?_eq_getElem (by rw [HDN.out]; exact hlt)⟩
            obtain ⟨g, gc, hc1⟩ := HWEL.out p D hD
            have HM2 : Hid (max mx D = maxL (ds.take (p + 1))) := Lib.hid (by rw [take_succ_of hD, maxL_snoc, ← hM.out])
            clear hD
            go_wp2_with fail
            refine ⟨⟨p + 1, max mx D, by omega, by go_num, ?_, trivial, HM2⟩, by simp [intOf]; omega⟩
            have : ((max mx D : Nat) : Int) = if mx < D then (D : Int) else (mx : Int) := by split <;> omega
            rw [this]
          · obtain rfl : p = dn := by omega
            have HR : Hid (G = (mx : Int)) := Lib.hid (by rw [HMX.out, hM.out, List.take_of_length_le (by rw [HDN.out]; exact Nat.le_refl _)])
            have hR := HR.out
            subst hR
            clear hM
            go_wp2_with fail
            exact bodyPost_ret (v := .int .i64 mx) (by simp [results, Try.results26, go_sem]) rfl ⟨rfl, HE3.out⟩
end Go.Proofs.Ytlhjbpachpjpkaa
