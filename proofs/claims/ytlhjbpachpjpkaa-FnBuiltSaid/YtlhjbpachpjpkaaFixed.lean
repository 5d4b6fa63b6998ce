/- The cells that are alike in all images: in the reference and in the program. -/
import Derived.Test.YtlhjbpachpjpkaaLeast
import Derived.Test.YtlhjbpachpjpkaaPaint1
namespace Go.Proofs.Ytlhjbpachpjpkaa
open Go.RowKit Tomo

def mrg (o c : Int) : Int := if o = c then o else -1
/-- a cell of the first images -/
def fixF (gs : List Grid) (i l : Nat) : Int := gs.foldl (fun o g => mrg o (at2 g i l)) (at2 (gs.headD []) i l)
def foldF (g0 : Grid) (gs : List Grid) (i l : Nat) : Int := gs.foldl (fun o g => mrg o (at2 g i l)) (at2 g0 i l)
def gridOf (n k : Nat) (F : Nat → Nat → Int) : Grid := (List.range n).map fun i => (List.range k).map fun l => F i l
theorem gridOf_shape (n k : Nat) (F : Nat → Nat → Int) : Shape (gridOf n k F) n k := by
  refine ⟨by simp [gridOf], fun r hr => ?_⟩
  obtain ⟨i, _, rfl⟩ := List.mem_map.1 hr
  simp
theorem gridOf_at (n k : Nat) (F : Nat → Nat → Int) {i l : Nat} (hi : i < n) (hl : l < k) : at2 (gridOf n k F) i l = F i l := by
  refine at2_of (r := (List.range k).map fun l => F i l) ?_ ?_
  · unfold gridOf; rw [List.getElem?_map, List.getElem?_range hi]; rfl
  · rw [List.getElem?_map, List.getElem?_range hl]; rfl
noncomputable def fixI (rows cols : List Int) : Grid := if allI rows cols = [] then [] else gridOf rows.length cols.length (fixF (allI rows cols))
theorem gridOf_bound {n k : Nat} (F : Nat → Nat → Int) (h1 : n ≤ 5) (h2 : k ≤ 5) : GBound (gridOf n k F) := by
  have hs := gridOf_shape n k F
  refine ⟨by rw [hs.1]; omega, fun r hr => by rw [hs.2 r hr]; omega, ?_⟩
  have key : ∀ l : Grid, (∀ r ∈ l, r.length ≤ 5) → total l ≤ 5 * l.length := by
    intro l
    induction l with
    | nil => intro _; simp [total]
    | cons r l ih =>
      intro hl
      have i1 := ih (fun r hr => hl r (List.mem_cons_of_mem _ hr))
      have i2 := hl r List.mem_cons_self
      unfold total at *
      rw [List.map_cons, List.sum_cons, List.length_cons]; omega
  have := key (gridOf n k F) (fun r hr => by rw [hs.2 r hr]; exact h2)
  rw [hs.1] at this
  omega
theorem fixI_bound (rows cols : List Int) : GBound (fixI rows cols) := by
  unfold fixI
  cases h : allI rows cols with
  | nil => rw [if_pos rfl]; exact nil_bound
  | cons g gs =>
    rw [if_neg (by simp)]
    have hs := (allI_sums (show g ∈ allI rows cols by rw [h]; exact List.mem_cons_self)).1
    obtain ⟨_, hr5, _, hc5, _⟩ := sumsOk_parts hs
    exact gridOf_bound _ hr5 hc5
theorem foldF_succ {g0 : Grid} {gs : List Grid} {j : Nat} {g : Grid} (h : gs[j]? = some g) (i l : Nat) : foldF g0 (gs.take (j + 1)) i l = mrg (foldF g0 (gs.take j) i l) (at2 g i l) := by
  unfold foldF; rw [take_succ_of h, List.foldl_append]; rfl
/-- the state within an image: the cells ahead of (y, x) are merged -/
def Mid (n k : Nat) (P : Nat → Nat → Int) (g q : Grid) (y x : Nat) : Prop := Shape q n k ∧ ∀ i l, i < n → l < k → at2 q i l = if i < y ∨ (i = y ∧ l < x) then mrg (P i l) (at2 g i l) else P i l
theorem Mid.start {n k : Nat} {P : Nat → Nat → Int} {g q : Grid} (h1 : Shape q n k) (h2 : ∀ i l, i < n → l < k → at2 q i l = P i l) : Mid n k P g q 0 0 :=
  ⟨h1, fun i l hi hl => by rw [if_neg (by omega)]; exact h2 i l hi hl⟩
theorem Mid.row {n k : Nat} {P : Nat → Nat → Int} {g q : Grid} {y : Nat} (h : Mid n k P g q y k) : Mid n k P g q (y + 1) 0 := by
  refine ⟨h.1, fun i l hi hl => ?_⟩
  rw [h.2 i l hi hl]
  by_cases hc : i < y ∨ (i = y ∧ l < k)
  · rw [if_pos hc, if_pos (by omega)]
  · rw [if_neg hc, if_neg (by omega)]
theorem Mid.done {n k : Nat} {P : Nat → Nat → Int} {g q : Grid} (h : Mid n k P g q n 0) : ∀ i l, i < n → l < k → at2 q i l = mrg (P i l) (at2 g i l) := fun i l hi hl => by
  rw [h.2 i l hi hl, if_pos (by omega)]
theorem Mid.keep {n k : Nat} {P : Nat → Nat → Int} {g q : Grid} {y x : Nat} {o c : Int} (h : Mid n k P g q y x) (hy : y < n) (hx : x < k) (ho : at2 q y x = o) (hg : at2 g y x = c) (he : o = c) : Mid n k P g q y (x + 1) := by
  refine ⟨h.1, fun i l hi hl => ?_⟩
  have h0 := h.2 y x hy hx
  rw [if_neg (by omega)] at h0
  rw [h.2 i l hi hl]
  by_cases hc : i < y ∨ (i = y ∧ l < x)
  · rw [if_pos hc, if_pos (by omega)]
  · rw [if_neg hc]
    by_cases he2 : i = y ∧ l = x
    · obtain ⟨rfl, rfl⟩ := he2
      rw [if_pos (by omega), ← h0, ho, hg]
      unfold mrg; rw [if_pos he]
    · rw [if_neg (by omega)]
theorem Mid.put {n k : Nat} {P : Nat → Nat → Int} {g q : Grid} {y x : Nat} {o c : Int} {r : List Int} (h : Mid n k P g q y x) (hy : y < n) (hx : x < k) (hr : q[y]? = some r) (ho : at2 q y x = o) (hg : at2 g y x = c) (he : ¬ o = c) : Mid n k P g (q.set y (r.set x (-1))) y (x + 1) := by
  have hrl := h.1.row hr
  refine ⟨h.1.set (by rw [List.length_set]; exact hrl), fun i l hi hl => ?_⟩
  have h0 := h.2 y x hy hx
  rw [if_neg (by omega)] at h0
  rw [at2_set hr (by omega)]
  by_cases he2 : i = y ∧ l = x
  · obtain ⟨rfl, rfl⟩ := he2
    rw [if_pos ⟨rfl, rfl⟩, if_pos (by omega), ← h0, ho, hg]
    unfold mrg; rw [if_neg he]
  · rw [if_neg he2, h.2 i l hi hl]
    by_cases hc : i < y ∨ (i = y ∧ l < x)
    · rw [if_pos hc, if_pos (by omega)]
    · rw [if_neg hc, if_neg (by omega)]


set_option maxHeartbeats 4000000 in
theorem implFixedCells_any (A B : Option Addr) (ca cb : Nat) (rows cols : List Int) (w : World) (hl : rows.length ≤ 1048576) (hl2 : cols.length ≤ 1048576) (hx : Ints w A rows) (hy : Ints w B cols) :
    Calls Try.prog 57 #[.slice A rows.length ca, .slice B cols.length cb] w fun e w' => ∃ v, e = .returned v ∧ OwnGrid w' w.heap.size v (fixI rows cols) ∧ Ext w w' := by
  have cl := implAllImages_any A B ca cb rows cols w hl hl2 hx hy
  obtain ⟨so, hso⟩ : ∃ so, sumsOk rows cols = so := ⟨_, rfl⟩
  rw [hso] at cl
  by_cases hne : allI rows cols = []
  · have HP : Hid (fixI rows cols = []) := Lib.hid (by unfold fixI; rw [if_pos hne])
    simp only [hne] at cl
    clear hx hy hso hne
    go_enter Try.func57, Try.ntmps57
    go_wp2_with fail
    refine cl.mono ?_
    rintro e w2 ⟨v, rfl, ho, he⟩
    obtain ⟨Ag, cg, rfl, _⟩ := ho.slice
    have HE2 := Lib.hid he
    clear ho he cl
    go_wp2
    go_ret
    exact ⟨_, rfl, by rw [HP.out]; exact OwnGrid.nil _ _, HE2.out⟩
  have HIMG : Hid (∀ m, m ∈ allI rows cols → Img m rows.length cols.length) := Lib.hid fun m hm => allI_img hm
  have hlen := allI_len rows cols
  obtain ⟨fx, hfx⟩ : ∃ fx, fixI rows cols = fx := ⟨_, rfl⟩
  have HFX : Hid (fx = gridOf rows.length cols.length (fixF (allI rows cols))) := Lib.hid (by rw [← hfx]; unfold fixI; rw [if_neg hne])
  rw [hfx]
  obtain ⟨gs, hgs⟩ : ∃ gs, allI rows cols = gs := ⟨_, rfl⟩
  rw [hgs] at HIMG hlen hne HFX
  simp only [hgs] at cl
  obtain ⟨g0, HG0⟩ : ∃ g0, Hid (gs[0]? = some g0) := by
    cases gs with
    | nil => exact absurd rfl hne
    | cons g0 gs0 => exact ⟨g0, Lib.hid rfl⟩
  have HFOLD : Hid (foldF g0 gs = fixF gs) := Lib.hid (by
    funext i l
    unfold foldF fixF
    cases gs with
    | nil => exact absurd rfl hne
    | cons a b => have e : a = g0 := by have := HG0.out; simpa using this
                  rw [e]; rfl)
  have HG0I := Lib.hid (HIMG.out g0 (List.mem_of_getElem? HG0.out))
  obtain ⟨hn1, hn5⟩ := HG0I.out.2.1
  obtain ⟨hk1, hk5⟩ := HG0I.out.2.2.1
  obtain ⟨n, hn⟩ : ∃ n, rows.length = n := ⟨_, rfl⟩
  obtain ⟨k, hk⟩ : ∃ k, cols.length = k := ⟨_, rfl⟩
  obtain ⟨N, hN⟩ : ∃ N, gs.length = N := ⟨_, rfl⟩
  have hN1 : 0 < N := by rw [← hN]; exact (List.getElem?_eq_some_iff.1 HG0.out).1
  rw [hN] at hlen
  have HN := Lib.hid hN
  rw [hn, hk] at HIMG HFX HG0I  ⊢
  rw [hn] at hn1 hn5
  rw [hk] at hk1 hk5
  simp only [hn, hk] at cl
  have hnz : ((N : Int) == 0) = false := by simp; omega
  clear hfx hgs hn hk hN
  clear hx hy hso hne
  go_enter Try.func57, Try.ntmps57
  go_wp2_with fail
  refine cl.mono ?_
  rintro e w3 ⟨v, rfl, ho, he⟩
  have HE3 := Lib.hid he
  have HB3 : Hid (w.heap.size ≤ w3.heap.size) := Lib.hid HE3.out.size
  obtain ⟨us, hu⟩ := ho.u
  obtain ⟨Ag, cg, rfl, _⟩ := ho.slice
  rw [HN.out] at hu ⊢
  have HU := Lib.hid hu
  obtain ⟨b3, u0, g0', Au0, cu0, hA0, hb0, _, hg0', hcell0, _, hog0⟩ := hu.elt (k := 0) (by rw [HN.out]; exact hN1)
  subst hA0
  obtain rfl : g0' = g0 := by have h := hg0'.out; rw [HG0.out] at h; exact (Option.some.inj h).symm
  have cc := copyGrid_any Au0 cu0 g0' w3 (by rw [HG0I.out.1.1]; omega) (by rw [HG0I.out.1.1]; omega) (fun r hr => by rw [HG0I.out.1.2 r hr]; omega) hog0.gridAt
  rw [HG0I.out.1.1] at cc hcell0
  clear ho he hu hog0 hg0' cl
  go_wp2_with fail
  refine cc.mono ?_
  rintro e w4 ⟨b4, c4, rfl, ho4, he4⟩
  have HE4 := Lib.hid he4
  have HO4 := Lib.hid ho4
  clear ho4 he4 cc
  go_wp2_with fail
  go_loopw [29, 9, 10, 11, 12, 13] (fun i _ _ _ _ _ wr => ∃ (j : Nat) (q : Grid), j ≤ N ∧ i = .int .i64 j ∧ Hid (Ext w3 wr) ∧ Hid (OwnGrid wr w3.heap.size (.slice (some ⟨b4, 0, none⟩) n c4) q) ∧ Hid (Shape q n k ∧ ∀ i l, i < n → l < k → at2 q i l = foldF g0' (gs.take j) i l)) (fun i _ _ _ _ _ _ => N - (intOf i).toNat)
  case atStart => exact ⟨0, g0', Nat.zero_le _, rfl, HE4, HO4, Lib.hid ⟨HG0I.out.1, fun i l _ _ => by simp [foldF]⟩⟩
  case round =>
    rename World => wa
    obtain ⟨j, q, hj, rfl, hE, hq, hS⟩ := hrel
    by_cases hlt : j < N
    · obtain ⟨b, u, g, Au, cu, hA, hb, _, hg, hcell, _, hog⟩ := HU.out.elt (by rw [HN.out]; exact hlt)
      cases hA
      have himg := HIMG.out g (List.mem_of_getElem? hg.out)
      have hcell2 : wa.cell? ⟨b3, j, none⟩ = some (.slice Au n cu) := by rw [← himg.1.1]; exact (hE.out.cell (p := ⟨b3, j, none⟩) hb).trans hcell
      have HI := Lib.hid himg
      have HG := Lib.hid hog.gridAt
      obtain ⟨P, hP⟩ : ∃ P, foldF g0' (gs.take j) = P := ⟨_, rfl⟩
      have HNEXT : Hid (∀ i l, foldF g0' (gs.take (j + 1)) i l = mrg (P i l) (at2 g i l)) := Lib.hid (fun i l => by rw [foldF_succ hg.out, hP])
      have HST : Hid (Mid n k P g q 0 0) := Lib.hid (Mid.start hS.out.1 (fun i l h1 h2 => by rw [hS.out.2 i l h1 h2, hP]))
      clear hog hcell himg hS hP
      go_wp2_with fail
      go_loopw [35, 10, 11, 12, 13] (fun i _ _ _ _ wr => ∃ (y : Nat) (q : Grid), y ≤ n ∧ i = .int .i64 y ∧ Hid (Ext w3 wr) ∧ Hid (OwnGrid wr w3.heap.size (.slice (some ⟨b4, 0, none⟩) n c4) q) ∧ Hid (Mid n k P g q y 0)) (fun i _ _ _ _ _ => n - (intOf i).toNat)
      case atStart => exact ⟨0, q, Nat.zero_le _, rfl, hE, hq, HST⟩
      case round =>
        rename World => wb
        clear hq HST hE
        obtain ⟨y, q, hy, rfl, hE, hq, hM⟩ := hrel
        by_cases hlty : y < n
        · obtain ⟨b5, o5, R5, c5, gr, rfl, _, hgr, hcg, hig⟩ := (HG.out.ext hE.out).at_ (k := y) (by rw [HI.out.1.1]; exact hlty)
          have hgrl := HI.out.1.row hgr.out
          rw [hgrl] at hcg
          have HGR := Lib.hid hgrl
          have HIG : Hid (∀ W, Ext w3 W → Ints W R5 gr) := Lib.hid (fun W e => by
            obtain ⟨b6, o6, R6, c6, hA6, hb6, hc6, _, hi6⟩ := HG.out y gr hgr.out
            cases hA6
            have e1 := (hE.out.cell (p := ⟨b5, o5 + y, none⟩) hb6).trans hc6
            rw [e1] at hcg
            cases hcg
            exact hi6.ext e)
          clear hgrl hig
          go_wp2_with fail
          go_loopw [42, 12, 13] (fun i _ _ wr => ∃ (x : Nat) (q : Grid), x ≤ k ∧ i = .int .i64 x ∧ Hid (Ext w3 wr) ∧ Hid (OwnGrid wr w3.heap.size (.slice (some ⟨b4, 0, none⟩) n c4) q) ∧ Hid (Mid n k P g q y x)) (fun i _ _ _ => k - (intOf i).toNat)
          case atStart => exact ⟨0, q, Nat.zero_le _, rfl, hE, hq, hM⟩
          case round =>
            rename World => wc
            clear hq hM hE
            obtain ⟨x, q, hx, rfl, hE, hq, hM⟩ := hrel
            by_cases hltx : x < k
            · obtain ⟨b7, o7, cv, rfl, _, hcv, hc7⟩ := (HIG.out wc hE.out).at_ (k := x) (by rw [HGR.out]; exact hltx)
              obtain ⟨qr, hqr, hqrl⟩ := hM.out.1.get hlty
              obtain ⟨Rq, cR, hcq, hle, hBR, hRl, hints, hfr, hset⟩ := hq.out.row hqr (by omega)
              obtain ⟨ov, hov, hc8⟩ := hints.at1 (k := x) (by omega)
              rw [Nat.zero_add] at hc8
              rw [hqrl] at hcq
              have hf := hfr x
              have HSET := Lib.hid (hset x (-1) (by omega))
              have HEN : Hid (Ext w3 (wc.setCell ⟨Rq, x, none⟩ (.int .i64 (-1)))) := Lib.hid (Below.setCell hE.out hBR _)
              have HV := Lib.hid (And.intro (at2_of hqr hov.out) (at2_of hgr.out hcv.out))
              have HQR := Lib.hid hqr
              clear hset hfr hints hqr hqrl
              cases e : (ov != cv)
              · have HN2 : Hid (Mid n k P g q y (x + 1)) := Lib.hid (hM.out.keep hlty hltx HV.out.1 HV.out.2 (by simpa using e))
                go_wp2_with fail
                go_roundw
                case rel => exact ⟨x + 1, q, by omega, by go_num, hE, hq, HN2⟩
                case measure => simp [intOf]; omega
              · have HN2 : Hid (Mid n k P g (q.set y (qr.set x (-1))) y (x + 1)) := Lib.hid (hM.out.put hlty hltx HQR.out HV.out.1 HV.out.2 (by simpa using e))
                go_wp2_with fail
                go_roundw
                case rel => exact ⟨x + 1, _, by omega, by go_num, HEN, HSET, HN2⟩
                case measure => simp [intOf]; omega
            · obtain rfl : x = k := by omega
              have HM2 := Lib.hid hM.out.row
              go_wp2_with fail
              go_roundw
              case rel => exact ⟨y + 1, q, by omega, by go_num, hE, hq, HM2⟩
              case measure => simp [intOf]; omega
        · obtain rfl : y = n := by omega
          have HM2 : Hid (Shape q y k ∧ ∀ i l, i < y → l < k → at2 q i l = foldF g0' (gs.take (j + 1)) i l) := Lib.hid ⟨hM.out.1, fun i l h1 h2 => by rw [hM.out.done i l h1 h2, HNEXT.out]⟩
          go_wp2_with fail
          go_roundw
          case rel => exact ⟨j + 1, q, by omega, by go_num, hE, hq, HM2⟩
          case measure => simp [intOf]; omega
    · obtain rfl : j = N := by omega
      have HQ : Hid (q = fx) := Lib.hid (by
        rw [HFX.out]
        refine grid_ext hS.out.1 (gridOf_shape n k _) (fun i l h1 h2 => ?_)
        rw [hS.out.2 i l h1 h2, gridOf_at n k _ h1 h2, ← HN.out, take_full, HFOLD.out])
      go_wp2
      go_ret
      exact ⟨_, rfl, by rw [← HQ.out]; exact hq.out.base HB3.out, HE3.out.trans hE.out⟩
end Go.Proofs.Ytlhjbpachpjpkaa
