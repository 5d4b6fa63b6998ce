/- Whether there is an image. -/
import Derived.Test.YtmcnpdpplmbofaaExists2
namespace Go.Proofs.Ytmcnpdpplmbofaa
open Go.RowKit Tomo

/-- what the rows can give beyond what the first k columns ask -/
noncomputable def sortD (xs : List Int) : List Int := Classical.epsilon fun s => Down s xs
theorem sortD_of {s xs : List Int} (h : Down s xs) : sortD xs = s := (Classical.epsilon_spec (p := fun s => Down s xs) ⟨s, h⟩ : Down (sortD xs) xs).uniq h
noncomputable def gap (rows cols : List Int) (k : Nat) : Int := mostIn rows k - ((sortD cols).take k).sum
theorem allIn_of {l : List Int} {lo hi : Int} (h : ∀ x ∈ l, inR x lo hi = true) : allIn l lo hi = true := List.all_eq_true.2 h
theorem small_take {l : List Int} (h : Small l) (k : Nat) : Small (l.take k) := fun x hx => h x (List.mem_of_mem_take hx)
theorem take_ints {w : World} {A : Option Addr} {xs : List Int} (h : Ints w A xs) (k : Nat) : Ints w A (xs.take k) := fun j x hj => by
  rw [List.getElem?_take] at hj
  split at hj
  · exact h j x hj
  · cases hj
theorem conj_small (rows : List Int) (n : Nat) (h : rows.length ≤ 1000) : Small (conj rows n) := by
  intro x hx
  unfold conj cj at hx
  obtain ⟨j, _, rfl⟩ := List.mem_map.1 hx
  have h1 : (rows.take rows.length).countP (fun r => decide ((j : Int) < r)) ≤ (rows.take rows.length).length := List.countP_le_length
  have h2 : ¬ j < 0 := by omega
  rw [if_neg h2]
  rw [List.length_take] at h1
  omega

set_option maxHeartbeats 2000000 in
theorem l04Gap_any (A B : Option Addr) (ca cb : Nat) (rows cols : List Int) (k : Nat) (w : World) (h : sumsOk rows cols = true) (hk : k ≤ cols.length) (hx : Ints w A rows) (hy : Ints w B cols) :
    Calls Try.prog 54 #[.slice A rows.length ca, .slice B cols.length cb, .int .i64 k] w fun e w' => e = .returned (.int .i64 (gap rows cols k)) ∧ Ext w w' := by
  obtain ⟨hr1, hr5, hc1, hc5, hra, hca, _⟩ := sumsOk_parts h
  have cc := ConjugateOf_any A ca rows cols.length w hr5 hc1 hc5 hra hx
  have hpos : ∀ r ∈ rows, 0 ≤ r := fun r hr => (inR_iff.1 ((List.all_eq_true.1 hra) r hr)).1
  have HM := Lib.hid (conj_take_sum rows hk hpos)
  have HCS := Lib.hid (small_take (conj_small rows cols.length (by omega)) k)
  have hcsm : Small cols := small_of hca (by omega) (by omega)
  have HSM := Lib.hid hcsm
  clear hra hca hpos hcsm h
  have hrows : rows.length ≤ 1000 := by omega
  go_enter Try.func54, Try.ntmps54
  go_wp2_with fail
  refine cc.mono ?_
  rintro e w1 ⟨b1, rfl, ho1, he1⟩
  have hcl : ((conj rows cols.length).take k).length = k := by rw [List.length_take]; unfold conj; rw [cj_len]; omega
  have ct := l03Total_any (some ⟨b1, 0, none⟩) cols.length ((conj rows cols.length).take k) w1 (by omega) HCS.out (take_ints ho1.ints.2 k)
  rw [hcl, HM.out] at ct
  have HE1 := Lib.hid he1
  clear ho1 he1 cc hcl
  have g1 : (0 : Int) ≤ (k : Int) := by omega
  have g2 : (k : Int) ≤ (cols.length : Int) := by omega
  have hmb := sum_small (xs := (conj rows cols.length).take k) HCS.out (by have := List.length_take_le k (conj rows cols.length); omega) k
  rw [List.take_take, Nat.min_self, HM.out] at hmb
  obtain ⟨m, hm⟩ : ∃ m, mostIn rows k = m := ⟨_, rfl⟩
  rw [hm] at ct hmb
  obtain ⟨hm1, hm2⟩ := hmb
  have HMM := Lib.hid hm
  clear hm
  go_wp2_with fail
  refine ct.mono ?_
  rintro e w' ⟨rfl, rfl⟩
  clear ct
  go_wp2_with fail
  refine (SortedDown_any B cb cols w1 (by omega) (hy.ext HE1.out)).mono ?_
  rintro e w2 ⟨v, s, rfl, ho2, hd, he2⟩
  obtain ⟨A2, c2, rfl, hsc, hi2⟩ := ho2.slice
  have hsl : s.length = cols.length := hd.1.length_eq
  have hss : Small s := fun x hx => HSM.out x (hd.1.subset hx)
  have hk2 : (s.take k).length = k := by rw [List.length_take]; omega
  have ct2 := l03Total_any A2 c2 (s.take k) w2 (by omega) (small_take hss k) (take_ints hi2 k)
  rw [hk2] at ct2
  have HG : Hid (sortD cols = s) := Lib.hid (sortD_of hd)
  have hsb := sum_small (xs := s) hss (by omega) k
  have HE2 := Lib.hid he2
  have g3 : (k : Int) ≤ (c2 : Int) := by omega
  have g4 : k ≤ c2 := by omega
  obtain ⟨t, ht⟩ : ∃ t, (s.take k).sum = t := ⟨_, rfl⟩
  rw [ht] at ct2 hsb
  obtain ⟨ht1, ht2⟩ := hsb
  have HT := Lib.hid ht
  rw [hsl]
  clear ho2 hd he2 hi2 hss hk2 ht hsl
  go_wp2_with fail
  refine ct2.mono ?_
  rintro e w' ⟨rfl, rfl⟩
  go_wp2
  go_ret
  exact ⟨ret_int (by unfold gap; rw [HG.out, HT.out, HMM.out]), HE1.out.trans HE2.out⟩

noncomputable def exI (rows cols : List Int) : Bool := sumsOk rows cols && decide (imgs rows cols ≠ [])

theorem most_zero : ∀ (l : List Int), (∀ r ∈ l, 0 ≤ r) → mostIn l 0 = 0
  | [], _ => rfl
  | r :: l, h => by
    have h1 := most_zero l (fun r hr => h r (List.mem_cons_of_mem _ hr))
    have h2 := h r List.mem_cons_self
    unfold mostIn at *
    rw [List.map_cons, List.sum_cons, h1]
    show min ((0 : Nat) : Int) r + 0 = 0
    omega

set_option maxHeartbeats 2000000 in
theorem WorstColumns_any (A B : Option Addr) (ca cb : Nat) (rows cols : List Int) (w : World) (h : sumsOk rows cols = true) (hx : Ints w A rows) (hy : Ints w B cols) :
    Calls Try.prog 43 #[.slice A rows.length ca, .slice B cols.length cb] w fun e w' => ∃ n : Int, e = .returned (.int .i64 n) ∧ ((n == 0) = decide (imgs rows cols ≠ [])) ∧ Ext w w' := by
  obtain ⟨hr1, hr5, hc1, hc5, hra, hca, htot⟩ := sumsOk_parts h
  have cs := specSumsOk_any A B ca cb rows cols w (by omega) (by omega) hx hy
  rw [h] at cs
  have HS := Lib.hid h
  have HBAD : Hid (∀ k, k ≤ cols.length → gap rows cols k < 0 → imgs rows cols = []) := Lib.hid (fun k hk hg => by
    cases hm : imgs rows cols with
    | nil => rfl
    | cons m l =>
      exfalso
      have hd : ∃ s, Down s cols := ⟨cols.mergeSort (fun a b => decide (b ≤ a)), by
        refine ⟨List.mergeSort_perm _ _, ?_⟩
        have := List.pairwise_mergeSort (le := fun a b : Int => decide (b ≤ a)) (fun a b c h1 h2 => by simp at *; omega) (fun a b => by simp; omega) cols
        exact this.imp (fun h => by simpa using h)⟩
      obtain ⟨s, hs⟩ := hd
      have h1 := gale_ryser_conv rows cols s hs.1 m (by rw [hm]; exact List.mem_cons_self) k hk
      unfold gap at hg
      rw [sortD_of hs] at hg
      omega)
  have HGOOD : Hid ((∀ k, 1 ≤ k → k ≤ cols.length → 0 ≤ gap rows cols k) → imgs rows cols ≠ []) := Lib.hid (fun hall => by
    have hd : ∃ s, Down s cols := ⟨cols.mergeSort (fun a b => decide (b ≤ a)), by
        refine ⟨List.mergeSort_perm _ _, ?_⟩
        have := List.pairwise_mergeSort (le := fun a b : Int => decide (b ≤ a)) (fun a b c h1 h2 => by simp at *; omega) (fun a b => by simp; omega) cols
        exact this.imp (fun h => by simpa using h)⟩
    obtain ⟨s, hs⟩ := hd
    refine gale_ryser rows cols s hs.1 hs.2 htot (fun k hk => ?_)
    rcases Nat.eq_zero_or_pos k with rfl | hk0
    · have hpos : ∀ r ∈ rows, 0 ≤ r := fun r hr => (inR_iff.1 ((List.all_eq_true.1 hra) r hr)).1
      rw [most_zero rows hpos]; simp
    · have := hall k hk0 hk
      unfold gap at this
      rw [sortD_of hs] at this
      omega)
  clear hra hca htot h
  go_enter Try.func43, Try.ntmps43
  go_wp2_with (go_at_call 22; refine cs.mono ?_; rintro e w' ⟨rfl, rfl⟩)
  clear cs
  go_loopw [5] (fun i wr => ∃ k : Nat, 1 ≤ k ∧ k ≤ cols.length + 1 ∧ i = .int .i64 k ∧ Hid (∀ j, 1 ≤ j → j < k → 0 ≤ gap rows cols j) ∧ Hid (Ext w wr)) (fun i _ => cols.length + 1 - (intOf i).toNat)
  case atStart => exact ⟨1, by omega, by omega, rfl, Lib.hid (fun j h1 h2 => by omega), Lib.hid (Ext.refl w)⟩
  case round =>
    obtain ⟨k, hk1, hk, rfl, hg, he⟩ := hrel
    by_cases hle : k ≤ cols.length
    · have cg := l04Gap_any A B ca cb rows cols k wr HS.out hle (hx.ext he.out) (hy.ext he.out)
      obtain ⟨G, hG⟩ : ∃ G, gap rows cols k = G := ⟨_, rfl⟩
      rw [hG] at cg
      have HG := Lib.hid hG
      clear hG hx hy
      by_cases hneg : G < 0
      · have HI := Lib.hid (HBAD.out k hle (by rw [HG.out]; exact hneg))
        go_wp2_with fail
        refine cg.mono ?_
        rintro e w1 ⟨rfl, he1⟩
        go_wp2
        go_ret
        exact ⟨k, rfl, by rw [HI.out]; simp; omega, he.out.trans he1⟩
      · go_wp2_with fail
        refine cg.mono ?_
        rintro e w1 ⟨rfl, he1⟩
        have HE1 := Lib.hid he1
        clear he1 cg
        go_wp2
        go_roundw
        case rel => exact ⟨k + 1, by omega, by omega, by go_num, Lib.hid (fun j h1 h2 => by
          rcases Nat.lt_or_ge j k with h3 | h3
          · exact hg.out j h1 h3
          · obtain rfl : j = k := by omega
            rw [HG.out]; omega), Lib.hid (he.out.trans HE1.out)⟩
        case measure => simp [intOf]; omega
    · obtain rfl : k = cols.length + 1 := by omega
      have HI := Lib.hid (HGOOD.out (fun j h1 h2 => hg.out j h1 (by omega)))
      go_wp2
      go_ret
      exact ⟨0, rfl, by have := HI.out; simp [this], he.out⟩

theorem Exists_any (A B : Option Addr) (ca cb : Nat) (rows cols : List Int) (w : World) (hl : rows.length ≤ 1048576) (hl2 : cols.length ≤ 1048576) (hx : Ints w A rows) (hy : Ints w B cols) :
    Calls Try.prog 34 #[.slice A rows.length ca, .slice B cols.length cb] w fun e w' => e = .returned (.bool (exI rows cols)) ∧ Ext w w' := by
  have cs := specSumsOk_any A B ca cb rows cols w hl hl2 hx hy
  cases h : sumsOk rows cols
  · have HE : Hid (exI rows cols = false) := Lib.hid (by unfold exI; rw [h]; rfl)
    rw [h] at cs
    go_enter Try.func34, Try.ntmps34
    go_wp2_with (go_at_call 22; refine cs.mono ?_; rintro e w' ⟨rfl, rfl⟩)
    go_ret
    exact ⟨ret_bool HE.out.symm, Ext.refl _⟩
  · have HE : Hid (exI rows cols = decide (imgs rows cols ≠ [])) := Lib.hid (by unfold exI; rw [h]; rfl)
    rw [h] at cs
    have cw := WorstColumns_any A B ca cb rows cols w h hx hy
    go_enter Try.func34, Try.ntmps34
    go_wp2_with (go_at_call 22; refine cs.mono ?_; rintro e w' ⟨rfl, rfl⟩)
    refine cw.mono ?_
    rintro e w1 ⟨n, rfl, hn, he⟩
    have HN := Lib.hid hn
    clear hn cw
    cases b1 : (n == 0)
    all_goals
      go_wp2
      go_ret
      exact ⟨ret_bool (by rw [HE.out, ← HN.out, b1]), he⟩
end Go.Proofs.Ytmcnpdpplmbofaa
