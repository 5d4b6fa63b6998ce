/- The first image that meets a mask: in the reference and in the program. -/
import Derived.Test.YtgbehjjefiepdaaLeast
namespace Go.Proofs.Ytgbehjjefiepdaa
open Go.RowKit Tomo

noncomputable def maskedL (mask : Grid) (rows cols : List Int) : List Grid := if maskOk mask rows cols = true then maskedI mask rows cols else []
noncomputable def maskedFirst (mask : Grid) (rows cols : List Int) : Grid := (maskedL mask rows cols).headD []
noncomputable def maskedAny (mask : Grid) (rows cols : List Int) : Bool := decide (maskedL mask rows cols ≠ [])
theorem maskedFirst_bound (mask : Grid) (rows cols : List Int) : GBound (maskedFirst mask rows cols) := by
  unfold maskedFirst maskedL
  split
  · cases h : maskedI mask rows cols with
    | nil => exact nil_bound
    | cons g gs =>
      have hm : g ∈ maskedI mask rows cols := by rw [h]; exact List.mem_cons_self
      exact img_bound (allI_img (List.mem_filter.1 hm).1)
  · exact nil_bound
theorem filter_first {α : Type} {l : List α} {k : Nat} {x : α} {p : α → Bool} (h : l[k]? = some x) (hp : p x = true) (hn : (l.take k).filter p = []) : ∃ t, l.filter p = x :: t := by
  have e : l = l.take k ++ x :: l.drop (k + 1) := by rw [← drop_at h, List.take_append_drop]
  rw [e, List.filter_append, hn, List.nil_append, List.filter_cons_of_pos hp]
  exact ⟨_, rfl⟩

set_option maxHeartbeats 2000000 in
theorem specMaskedImage_any (A0 A B : Option Addr) (c0 ca cb : Nat) (mask : List (List Int)) (rows cols : List Int) (w : World) (hl0 : mask.length ≤ 1048576) (hr0 : ∀ r ∈ mask, r.length ≤ 1048576) (hm : GridAt w A0 mask)
    (hl : rows.length ≤ 1048576) (hl2 : cols.length ≤ 1048576) (hca : rows.length ≤ ca) (hx : Typed w A rows) (hy : Typed w B cols) :
    Calls Try.prog 40 #[.slice A0 mask.length c0, .slice A rows.length ca, .slice B cols.length cb] w fun e w' => ∃ v, e = .returned (.tuple #[v, .bool (maskedAny mask rows cols)]) ∧ OwnGrid w' w.heap.size v (maskedFirst mask rows cols) ∧ Ext w w' := by
  have cm := specMaskOk_any A0 A B c0 ca cb mask rows cols w hl0 hr0 hm hl hl2 hx.1 hy.1
  cases h : maskOk mask rows cols
  · rw [h] at cm
    have HP : Hid (maskedFirst mask rows cols = [] ∧ maskedAny mask rows cols = false) := Lib.hid (by unfold maskedFirst maskedAny maskedL; rw [h]; simp)
    rw [HP.out.2]
    go_enter Try.func40, Try.ntmps40
    go_wp2_with (go_at_call 71; refine cm.mono ?_; rintro e w' ⟨rfl, rfl⟩)
    go_ret2
    exact ⟨_, rfl, by rw [HP.out.1]; exact OwnGrid.nil _ _, Ext.refl _⟩
  · rw [h] at cm
    have cl := specAllImages_any A B ca cb rows cols w hl hl2 hca hx hy
    have HCM := Lib.hid (fun (w' : World) (e : Ext w w') (g : List (List Int)) (Au : Option Addr) (cu : Nat) (h1 : g.length ≤ 1048576) (h2 : ∀ r ∈ g, r.length ≤ 1048576) (hg : GridAt w' Au g) => specMeetsMask_any Au A0 cu c0 g mask w' h1 h2 hl0 hr0 hg (hm.ext e))
    have HIMG : Hid (∀ m, m ∈ allI rows cols → Img m rows.length cols.length) := Lib.hid fun m hm => allI_img hm
    have HDEF : Hid (maskedL mask rows cols = (allI rows cols).filter fun m => meets m mask) := Lib.hid (by unfold maskedL; rw [h]; rfl)
    have HF : Hid (maskedFirst mask rows cols = (maskedL mask rows cols).headD []) := Lib.hid rfl
    have HA : Hid (maskedAny mask rows cols = decide (maskedL mask rows cols ≠ [])) := Lib.hid rfl
    have hlen := allI_len rows cols
    obtain ⟨so, hso⟩ : ∃ so, sumsOk rows cols = so := ⟨_, rfl⟩
    obtain ⟨gs, hgs⟩ : ∃ gs, allI rows cols = gs := ⟨_, rfl⟩
    obtain ⟨q, hq⟩ : ∃ q, maskedFirst mask rows cols = q := ⟨_, rfl⟩
    obtain ⟨t, ht⟩ : ∃ t, maskedAny mask rows cols = t := ⟨_, rfl⟩
    rw [HDEF.out] at HF HA
    rw [hgs] at HIMG HF HA hlen
    simp only [hgs] at cl
    rw [hso] at cl
    rw [hq] at HF ⊢
    rw [ht] at HA ⊢
    clear hx hy hm hgs hq hso h hl0 hr0 ht HDEF
    have HT : Hid (∀ (j : Nat) g, gs[j]? = some g → meets g mask = true → (gs.take j).filter (fun m => meets m mask) = [] → q = g ∧ t = true) := Lib.hid (fun j g h1 h2 h3 => by
      obtain ⟨l, hl⟩ := filter_first h1 h2 h3
      rw [HF.out, HA.out, hl]; simp)
    have HTF : Hid (gs.filter (fun m => meets m mask) = [] → q = [] ∧ t = false) := Lib.hid (fun h3 => by rw [HF.out, HA.out, h3]; simp)
    clear HF HA
    cases t
    all_goals
      go_enter Try.func40, Try.ntmps40
      go_wp2_with (go_at_call 71; refine cm.mono ?_; rintro e w' ⟨rfl, rfl⟩)
      refine cl.mono ?_
      rintro e w2 ⟨v, rfl, ho, he⟩
      have HE2 := Lib.hid he
      obtain ⟨us, hu⟩ := ho.u
      obtain ⟨Ag, cg, rfl, _⟩ := ho.slice
      have HU := Lib.hid hu
      clear ho he hu cl cm
      go_wp2_with fail
      go_loopw [25, 11] (fun i _ wr => ∃ j : Nat, j ≤ gs.length ∧ i = .int .i64 j ∧ wr = w2 ∧ Hid ((gs.take j).filter (fun m => meets m mask) = [])) (fun i _ _ => gs.length - (intOf i).toNat)
      case atStart => exact ⟨0, Nat.zero_le _, rfl, rfl, Lib.hid (by simp)⟩
      case round =>
        obtain ⟨j, hj, rfl, rfl, hf⟩ := hrel
        by_cases hlt : j < gs.length
        · obtain ⟨b, u, g, Au, cu, rfl, hb, _, hg, hcell, hue, hog⟩ := HU.out.elt hlt
          have himg := HIMG.out g (List.mem_of_getElem? hg.out)
          have cc := HCM.out wr HE2.out g Au cu (by rw [himg.1.1]; have := himg.2.1.2; omega) (fun r hr => by rw [himg.1.2 r hr]; have := himg.2.2.1.2; omega) hog.gridAt
          have HS := Lib.hid (filter_take_succ hg.out fun m => meets m mask)
          have HOG := Lib.hid hog
          clear hog himg
          cases hmm : meets g mask
          · rw [hmm] at cc
            have HN : Hid ((gs.take (j + 1)).filter (fun m => meets m mask) = []) := Lib.hid (by rw [HS.out, if_neg (by rw [hmm]; simp), List.append_nil]; exact hf.out)
            go_wp2_with fail
            refine cc.mono ?_
            rintro e w' ⟨rfl, rfl⟩
            go_wp2
            go_roundw
            case rel => exact ⟨j + 1, by omega, by go_num, trivial, HN⟩
            case measure => simp [intOf]; omega
          · rw [hmm] at cc
            have HR := Lib.hid (HT.out j g hg.out hmm hf.out)
            first
              | exact Bool.noConfusion HR.out.2
              | (go_wp2_with fail
                 refine cc.mono ?_
                 rintro e w' ⟨rfl, rfl⟩
                 go_wp2
                 go_ret2
                 exact ⟨_, rfl, by rw [HR.out.1]; exact HOG.out, HE2.out⟩)
        · obtain rfl : j = gs.length := by omega
          have HR := Lib.hid (HTF.out (by have h := hf.out; rw [take_full] at h; exact h))
          first
            | exact Bool.noConfusion HR.out.2
            | (go_wp2
               go_ret2
               exact ⟨_, rfl, by rw [HR.out.1]; exact OwnGrid.nil _ _, HE2.out⟩)

set_option maxHeartbeats 2000000 in
theorem implMaskedImage_any (A0 A B : Option Addr) (c0 ca cb : Nat) (mask : List (List Int)) (rows cols : List Int) (w : World) (hl0 : mask.length ≤ 1048576) (hr0 : ∀ r ∈ mask, r.length ≤ 1048576) (hm : GridAt w A0 mask)
    (hl : rows.length ≤ 1048576) (hl2 : cols.length ≤ 1048576) (hx : Ints w A rows) (hy : Ints w B cols) :
    Calls Try.prog 41 #[.slice A0 mask.length c0, .slice A rows.length ca, .slice B cols.length cb] w fun e w' => ∃ v, e = .returned (.tuple #[v, .bool (maskedAny mask rows cols)]) ∧ OwnGrid w' w.heap.size v (maskedFirst mask rows cols) ∧ Ext w w' := by
  have cm := implMaskOk_any A0 A B c0 ca cb mask rows cols w hl0 hr0 hm hl hl2 hx hy
  have cl := masked_any A0 A B c0 ca cb mask rows cols w hl0 hr0 hm hl hl2 hx hy
  have hlen : (maskedI mask rows cols).length ≤ 33554432 := Nat.le_trans (List.length_filter_le _ _) (allI_len rows cols)
  cases h : maskOk mask rows cols
  · rw [h] at cm
    have HP : Hid (maskedFirst mask rows cols = [] ∧ maskedAny mask rows cols = false) := Lib.hid (by unfold maskedFirst maskedAny maskedL; rw [h]; simp)
    rw [HP.out.2]
    clear cl
    go_enter Try.func41, Try.ntmps41
    go_wp2_with (go_at_call 73; refine cm.mono ?_; rintro e w' ⟨rfl, rfl⟩)
    go_ret2
    exact ⟨_, rfl, by rw [HP.out.1]; exact OwnGrid.nil _ _, Ext.refl _⟩
  · rw [h] at cm
    have HF : Hid (maskedFirst mask rows cols = (maskedI mask rows cols).headD []) := Lib.hid (by unfold maskedFirst maskedL; rw [h]; rfl)
    have HA : Hid (maskedAny mask rows cols = decide (maskedI mask rows cols ≠ [])) := Lib.hid (by unfold maskedAny maskedL; rw [h]; rfl)
    obtain ⟨gs, hgs⟩ : ∃ gs, maskedI mask rows cols = gs := ⟨_, rfl⟩
    obtain ⟨q, hq⟩ : ∃ q, maskedFirst mask rows cols = q := ⟨_, rfl⟩
    obtain ⟨t, ht⟩ : ∃ t, maskedAny mask rows cols = t := ⟨_, rfl⟩
    rw [hgs] at HF HA hlen
    simp only [hgs] at cl
    rw [hq] at HF ⊢
    rw [ht] at HA ⊢
    clear hx hy hm hgs hq h hl0 hr0 ht
    cases gs with
    | nil =>
      have hT : t = false := by rw [HA.out]; simp
      subst hT
      clear HA
      go_enter Try.func41, Try.ntmps41
      go_wp2_with (go_at_call 73; refine cm.mono ?_; rintro e w' ⟨rfl, rfl⟩)
      refine cl.mono ?_
      rintro e w2 ⟨v, rfl, ho, he⟩
      obtain ⟨Ag, cg, rfl, _⟩ := ho.slice
      have HE2 := Lib.hid he
      clear ho he cl cm
      go_wp2
      go_ret2
      exact ⟨_, rfl, by rw [HF.out]; exact OwnGrid.nil _ _, HE2.out⟩
    | cons g gs =>
      have hT : t = true := by rw [HA.out]; simp
      subst hT
      have HQ : Hid (q = g) := Lib.hid HF.out
      clear HA HF
      obtain ⟨N, hN⟩ : ∃ N, (g :: gs).length = N := ⟨_, rfl⟩
      have hN1 : 1 ≤ N := by rw [← hN]; simp
      rw [hN] at hlen
      have HN := Lib.hid hN
      clear hN
      go_enter Try.func41, Try.ntmps41
      go_wp2_with (go_at_call 73; refine cm.mono ?_; rintro e w' ⟨rfl, rfl⟩)
      refine cl.mono ?_
      rintro e w2 ⟨v, rfl, ho, he⟩
      obtain ⟨Ag, cg, rfl, _⟩ := ho.slice
      obtain ⟨b, u, hA, _, _, hcu, hou⟩ := ho.elt (k := 0) (g := g) rfl
      subst hA
      rw [HN.out]
      have HO := Lib.hid hou
      have HE2 := Lib.hid he
      clear ho he hou cl cm
      go_wp2
      go_ret2
      exact ⟨_, rfl, by rw [HQ.out]; exact HO.out, HE2.out⟩
end Go.Proofs.Ytgbehjjefiepdaa
