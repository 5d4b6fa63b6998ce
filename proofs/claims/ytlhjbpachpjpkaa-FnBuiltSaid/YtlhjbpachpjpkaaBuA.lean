/- Texts merged: Built1 Built2 Built3. -/
import Derived.Test.YtlhjbpachpjpkaaExA
import Derived.Test.YtlhjbpachpjpkaaReA
import Derived.Test.YtlhjbpachpjpkaaLayed
import Derived.Lib.OwnBridge
import Derived.Sort.LotA
import Derived.Test.YtlhjbpachpjpkaaTomA
namespace Go.Proofs.Ytlhjbpachpjpkaa
open Go.RowKit Tomo

/-- a row that a sort of Go's has laid anew is the call's own, still -/
theorem Own.sorted {w : World} {B g n c m : Nat} {xs ys : List Int} (h : Own w B (.slice (some ⟨g, 0, none⟩) n c) xs) (hy : ys.length = xs.length) : Own ((Go.Sort.putRow (Value.int .i64) w g 0 ys.toArray).drewN m) B (.slice (some ⟨g, 0, none⟩) n c) ys := by
  have hn := h.ints.1
  subst hn
  unfold Own at h ⊢
  have h1 := Lib.ownsRow_putRow (q := m) (k := xs.length) h hy (Nat.le_refl _)
  rw [List.take_of_length_le (by omega)] at h1
  rw [hy]
  exact h1
theorem Ext.sorted {w0 w : World} {α : Type} [Inhabited α] {enc : α → Value} {g m : Nat} {d : Array α} (h : Ext w0 w) (hg : w0.heap.size ≤ g) : Ext w0 ((Go.Sort.putRow enc w g 0 d).drewN m) := Lib.below_putRow h hg
theorem Own.holds {w : World} {B g n c : Nat} {xs : List Int} (h : Own w B (.slice (some ⟨g, 0, none⟩) n c) xs) : Go.Sort.Holds (Value.int .i64) w g 0 xs.toArray := by
  have hn := h.ints.1
  subst hn
  obtain ⟨g', cap, he, _, _, _, _, _, hh⟩ := Lib.holds_of_ownsRow (enc := Value.int .i64) h (by simp)
  cases he
  exact hh
theorem perm_of_in {α : Type} [Inhabited α] {d d' : Array α} (h : Go.Sort.PermIn 0 d.size d d') : d'.size = d.size ∧ d'.toList.Perm d.toList := by
  obtain ⟨h1, _, h2⟩ := h
  refine ⟨h1, ?_⟩
  have e1 : d'.extract 0 d.size = d' := by rw [← h1]; simp
  have e2 : d.extract 0 d.size = d := by simp
  rw [e1, e2] at h2
  exact h2
theorem pairwise_of_in {α : Type} [Inhabited α] {lt : α → α → Bool} {d : Array α} {n : Nat} (hn : n = d.size) (h : Go.Sort.SortedIn lt 0 n d) : d.toList.Pairwise (fun a b => lt b a = false) := by
  subst hn
  rw [List.pairwise_iff_getElem]
  intro i j hi hj hij
  have hi' : i < d.size := by simpa using hi
  have hj' : j < d.size := by simpa using hj
  have := h i j (Nat.zero_le _) hij hj'
  rw [getElem!_pos d i hi', getElem!_pos d j hj'] at this
  simpa using this

theorem downClosure (x y : Int) (W : World) : Calls Try.prog 104 #[.int .i64 x, .int .i64 y] W fun e w' => e = .returned (.int .i64 (Lib.compareInt y x)) ∧ ∃ q, w' = W.drewN q := by
  have hcon := AnyG.cmp_Compare_int cmpInt y x W
  change Calls Try.prog 105 _ _ _ at hcon
  obtain ⟨r, hr⟩ : ∃ r, Lib.compareInt y x = r := ⟨_, rfl⟩
  rw [hr] at hcon ⊢
  clear hr
  go_enter Try.func104, Try.ntmps104
  go_wp2_with (go_at_call 105; refine hcon.mono ?_; rintro e w' ⟨rfl, rfl⟩)
  go_ret
  exact ⟨rfl, 0, rfl⟩
theorem lenSome (n : Nat) (W : World) (h : n ≤ 12) : Calls Try.prog 112 #[.int .u64 n] W fun e w' => (∃ l : Int, e = .returned (.int .i64 l)) ∧ w' = W :=
  (Any.bits_Len bitsLen n W (by omega) (by omega)).mono fun _ _ ⟨he, hw⟩ => ⟨⟨_, he⟩, hw⟩
theorem swoDown : Go.Sort.SWO (ltOf fun x y : Int => Lib.compareInt y x) := by
  have e : ∀ x y : Int, ltOf (fun x y : Int => Lib.compareInt y x) x y = decide (y < x) := fun x y => by
    unfold ltOf Lib.compareInt
    by_cases h : y < x
    · simp [h]
    · by_cases h2 : x < y <;> simp [h, h2]
  exact ⟨fun x => by rw [e]; simp, fun x y z h1 h2 => by rw [e] at *; simp at *; omega, fun x y z h1 h2 => by rw [e] at *; simp at *; omega⟩
theorem down_of {d d' : Array Int} (h1 : Go.Sort.PermIn 0 d.size d d') (h2 : Go.Sort.SortedIn (ltOf fun x y : Int => Lib.compareInt y x) 0 d.size d') : Down d'.toList d.toList := by
  obtain ⟨hs, hp⟩ := perm_of_in h1
  refine ⟨hp, (pairwise_of_in hs.symm h2).imp fun {a b} h => ?_⟩
  unfold ltOf Lib.compareInt at h
  have h := of_decide_eq_false h
  refine Classical.byContradiction fun hl => h ?_
  show (if a < b then (-1 : Int) else if a > b then 1 else 0) < 0
  rw [if_pos (by omega)]; decide
set_option maxHeartbeats 2000000 in
theorem implSortedDown_any (A : Option Addr) (c : Nat) (xs : List Int) (w : World) (h1 : 1 ≤ xs.length) (hl : xs.length ≤ 12) (hx : Ints w A xs) :
    Calls Try.prog 94 #[.slice A xs.length c] w fun e w' => ∃ g cap s, e = .returned (.slice (some ⟨g, 0, none⟩) xs.length cap) ∧ Own w' w.heap.size (.slice (some ⟨g, 0, none⟩) xs.length cap) s ∧ Down s xs ∧ Ext w w' := by
  have cc := copyInts_any A c xs w (by omega) (by omega) hx
  have eg : ∀ args w, (callFunc 104 args).run Try.prog w = .ok (.enter 104 args) w := enters_of Try.func104 (by kernel_rfl) rfl
  clear hx
  obtain ⟨n, hn⟩ : ∃ n, xs.length = n := ⟨_, rfl⟩
  have HN := Lib.hid hn
  rw [hn] at cc h1 hl ⊢
  clear hn
  go_enter Try.func94, Try.ntmps94
  go_wp2_with fail
  refine cc.mono ?_
  rintro e w1 ⟨g, cap, rfl, ho, he⟩
  have hcon := Any.slices_SortFunc_small_sorted sortFn (Value.int .i64) (fun _ => rfl) (fun x y : Int => Lib.compareInt y x) swoDown 104 #[] g 0 cap xs.toArray w1 eg (fun _ _ _ _ x y => downClosure x y _) ho.holds (by have := HN.out; simp; omega) lenSome
  change Calls Try.prog 103 _ _ _ at hcon
  have hgl := (ho.lt (b := g) rfl).1
  have HO := Lib.hid ho
  have HE := Lib.hid he
  have HG := Lib.hid hgl
  clear cc ho he hgl eg
  have hn : xs.toArray.size = n := by have := HN.out; simpa using this
  have hcon2 : Calls Try.prog 103 #[.slice (some ⟨g, 0, none⟩) n cap, .func (.func 104) #[] #[]] w1 fun e w' => e = .returned (.tuple #[]) ∧ ∃ s, Own w' w.heap.size (.slice (some ⟨g, 0, none⟩) n cap) s ∧ Down s xs ∧ Ext w w' := by
    rw [← hn]
    refine hcon.mono fun e w' h => ?_
    obtain ⟨he, d', m, hp, hs, rfl⟩ := h
    refine ⟨he, d'.toList, ?_, by simpa using down_of hp hs, HE.out.sorted HG.out⟩
    have := (perm_of_in hp).1
    rw [hn]
    have h := HO.out.sorted (m := m) (ys := d'.toList) (by simp at this ⊢; exact this)
    simpa using h
  clear hcon hn h1 hl HO HN
  go_wp2_with (go_at_call 103; refine hcon2.mono ?_; rintro e w2 ⟨rfl, s, ho, hd, he⟩)
  go_ret
  exact ⟨g, cap, s, rfl, ho, hd, he⟩
end Go.Proofs.Ytlhjbpachpjpkaa

namespace Go.Proofs.Ytlhjbpachpjpkaa
open Go.RowKit Tomo

set_option maxHeartbeats 4000000 in
theorem implConjugateOf_any (A : Option Addr) (c : Nat) (rows : List Int) (n : Nat) (w : World) (hl : rows.length ≤ 5) (hn1 : 1 ≤ n) (hn5 : n ≤ 5) (hin : allIn rows 0 n = true) (hx : Ints w A rows) :
    Calls Try.prog 93 #[.slice A rows.length c, .int .i64 n] w fun e w' => ∃ b, e = .returned (.slice (some ⟨b, 0, none⟩) n n) ∧ Own w' w.heap.size (.slice (some ⟨b, 0, none⟩) n n) (conj rows n) ∧ Ext w w' := by
  have b1 : inR n 1 5 = true := inR_iff.2 (by omega)
  have cw := within_any (n : Int) 1 5 w
  rw [b1] at cw
  have ca := allWithin_any A c rows 0 n w (by omega) hx
  rw [hin] at ca
  have HIN : Hid (∀ x ∈ rows, inR x 0 n = true) := Lib.hid (fun x hx => (List.all_eq_true.1 hin) x hx)
  have hmk := run_make_row' (P := Try.prog) 28 3 (.int .i64 0) 8 Try.underlying28 infoInt rfl .i64 .i64 n (by omega) (by omega)
  have HZ : Hid (Own (w.alloc (.cells (madeCells #[.int .i64 0] n) 3)) w.heap.size (.slice (some ⟨w.heap.size, 0, none⟩) n n) (cj rows n 0 0)) := Lib.hid (by
    have h := own_zeros w n (by omega)
    have e : List.replicate n (0 : Int) = cj rows n 0 0 := by
      apply List.ext_getElem?
      intro j
      by_cases hj : j < n
      · rw [cj_at rows hj, List.getElem?_replicate, if_pos hj]; simp
      · rw [List.getElem?_eq_none (by simp; omega), List.getElem?_eq_none (by rw [cj_len]; omega)]
    rw [e] at h; exact h)
  clear hin
  go_enter Try.func93, Try.ntmps93
  go_wp2_with (first | (go_at_call 55; refine cw.mono ?_; rintro e w' ⟨rfl, rfl⟩) | (go_at_call 73; refine ca.mono ?_; rintro e w' ⟨rfl, rfl⟩))
  clear hmk cw ca
  go_loopw [27, 7, 8] (fun i _ _ wr => ∃ k : Nat, k ≤ rows.length ∧ i = .int .i64 k ∧ Hid (Own wr w.heap.size (.slice (some ⟨w.heap.size, 0, none⟩) n n) (cj rows n k 0)) ∧ Hid (Ext w wr)) (fun i _ _ _ => rows.length - (intOf i).toNat)
  case atStart => exact ⟨0, Nat.zero_le _, rfl, HZ, Lib.hid ((Ext.refl w).alloc _)⟩
  case round =>
    rename World => wo
    obtain ⟨k, hk, rfl, ho, he⟩ := hrel
    by_cases hlt : k < rows.length
    · obtain ⟨b, o, x, rfl, _, HX, hcx⟩ := (hx.ext he.out).at_ hlt
      have b2 := HIN.out x (List.mem_of_getElem? HX.out)
      obtain ⟨x0, xn⟩ := inR_iff.1 b2
      clear hx
      go_wp2_with fail
      go_loopw [8] (fun i wr => ∃ j : Nat, (j : Int) ≤ x ∧ i = .int .i64 j ∧ Hid (Own wr w.heap.size (.slice (some ⟨w.heap.size, 0, none⟩) n n) (cj rows n k j)) ∧ Hid (Ext w wr)) (fun i _ => x.toNat - (intOf i).toNat)
      case atStart => exact ⟨0, by omega, rfl, ho, he⟩
      case round =>
        clear ho
        obtain ⟨j, hj, rfl, ho, he'⟩ := hrel
        by_cases hjx : (j : Int) < x
        · have hlen : (cj rows n k j).length = n := cj_len rows n k j
          have hjn : j < (cj rows n k j).length := by rw [hlen]; omega
          have ho1 := ho.out
          rw [show (Value.slice (some ⟨w.heap.size, 0, none⟩) n n) = .slice (some ⟨w.heap.size, 0, none⟩) (cj rows n k j).length n by rw [hlen]] at ho1
          obtain ⟨⟨c0, hc0, hcell⟩, hfr, hset⟩ := ho1.put hjn
          have hs := hset (c0 + 1)
          rw [cj_set rows (by omega) hc0, hlen] at hs
          have HS := Lib.hid hs
          have hcb : 0 ≤ c0 ∧ c0 ≤ 100 := by
            rw [cj_at rows (by omega)] at hc0
            have h1 := Option.some.inj hc0
            have h2 : (rows.take k).countP (fun r => decide ((j : Int) < r)) ≤ (rows.take k).length := List.countP_le_length
            have h3 : (rows.take k).length ≤ 5 := by rw [List.length_take]; omega
            have h4 : ¬ j < j := by omega
            rw [if_neg h4] at h1
            omega
          obtain ⟨hcb1, hcb2⟩ := hcb
          have HE2 : Hid (Ext w (wr.setCell ⟨w.heap.size, j, none⟩ (.int .i64 (c0 + 1)))) := Lib.hid (Below.setCell he'.out (Nat.le_refl _) _)
          clear hset hs ho1 hc0 hlen hjn
          go_wp2
          go_roundw
          case rel => exact ⟨j + 1, by omega, by go_num, HS, HE2⟩
          case measure => simp [intOf]; omega
        · obtain ⟨m, rfl⟩ : ∃ m : Nat, x = m := ⟨x.toNat, by omega⟩
          obtain rfl : j = m := by omega
          have HN := Lib.hid (cj_next (n := n) rows HX.out rfl)
          go_wp2
          go_roundw
          case rel => exact ⟨k + 1, by omega, by go_num, Lib.hid (by rw [← HN.out]; exact ho.out), he'⟩
          case measure => simp [intOf]; omega
    · obtain rfl : k = rows.length := by omega
      go_wp2
      go_ret
      exact ⟨_, rfl, ho.out, he.out⟩

set_option maxHeartbeats 4000000 in
theorem implWorstColumns_any (A B : Option Addr) (ca cb : Nat) (rows cols : List Int) (w : World) (h : sumsOk rows cols = true) (hx : Ints w A rows) (hy : Ints w B cols) :
    Calls Try.prog 75 #[.slice A rows.length ca, .slice B cols.length cb] w fun e w' => ∃ n : Int, e = .returned (.int .i64 n) ∧ ((n == 0) = decide (imgs rows cols ≠ [])) ∧ Ext w w' := by
  obtain ⟨hr1, hr5, hc1, hc5, hra, hca, htot⟩ := sumsOk_parts h
  have cs := implSumsOk_any A B ca cb rows cols w (by omega) (by omega) hx hy
  rw [h] at cs
  have hd : ∃ s, Down s cols := ⟨cols.mergeSort (fun a b => decide (b ≤ a)), by
    refine ⟨List.mergeSort_perm _ _, ?_⟩
    have := List.pairwise_mergeSort (le := fun a b : Int => decide (b ≤ a)) (fun a b c h1 h2 => by simp at *; omega) (fun a b => by simp; omega) cols
    exact this.imp (fun h => by simpa using h)⟩
  have HBAD : Hid (∀ k, k ≤ cols.length → gap rows cols k < 0 → imgs rows cols = []) := Lib.hid (fun k hk hg => by
    cases hm : imgs rows cols with
    | nil => rfl
    | cons m l =>
      exfalso
      obtain ⟨s, hs⟩ := hd
      have h1 := gale_ryser_conv rows cols s hs.1 m (by rw [hm]; exact List.mem_cons_self) k hk
      unfold gap at hg
      rw [sortD_of hs] at hg
      omega)
  have hpos : ∀ r ∈ rows, 0 ≤ r := fun r hr => (inR_iff.1 ((List.all_eq_true.1 hra) r hr)).1
  have HGOOD : Hid ((∀ k, 1 ≤ k → k ≤ cols.length → 0 ≤ gap rows cols k) → imgs rows cols ≠ []) := Lib.hid (fun hall => by
    obtain ⟨s, hs⟩ := hd
    refine gale_ryser rows cols s hs.1 hs.2 htot (fun k hk => ?_)
    rcases Nat.eq_zero_or_pos k with rfl | hk0
    · rw [most_zero rows hpos]; simp
    · have := hall k hk0 hk
      unfold gap at this
      rw [sortD_of hs] at this
      omega)
  have cc := implConjugateOf_any A ca rows cols.length w hr5 hc1 hc5 hra hx
  have HM := Lib.hid (fun k (hk : k ≤ cols.length) => conj_take_sum rows hk hpos)
  have HCS := Lib.hid (conj_small rows cols.length (by omega))
  have hcsm : Small cols := small_of hca (by omega) (by omega)
  have HSM := Lib.hid hcsm
  have HCL : Hid ((conj rows cols.length).length = cols.length) := Lib.hid (by unfold conj; exact cj_len _ _ _ _)
  have HSD := Lib.hid (fun W (e : Ext w W) => implSortedDown_any B cb cols W hc1 (by omega) (hy.ext e))
  obtain ⟨cj', hcj⟩ : ∃ cj', conj rows cols.length = cj' := ⟨_, rfl⟩
  rw [hcj] at cc HM HCS HCL
  obtain ⟨n, hn⟩ : ∃ n, cols.length = n := ⟨_, rfl⟩
  have HN := Lib.hid hn
  rw [hn] at cs cc HM HCL HSD HBAD HGOOD hc1 hc5 ⊢
  clear hra hca htot h hd hpos hcsm hx hy hcj hn
  go_enter Try.func75, Try.ntmps75
  go_wp2_with (first | (go_at_call 70; refine cs.mono ?_; rintro e w' ⟨rfl, rfl⟩))
  clear cs
  refine cc.mono ?_
  rintro e w1 ⟨b1, rfl, ho1, he1⟩
  have sd := HSD.out w1 he1
  have HC := Lib.hid ho1.ints.2
  have HE1 := Lib.hid he1
  clear cc ho1 he1 HSD
  go_wp2_with fail
  refine sd.mono ?_
  rintro e w2 ⟨g, cap, s, rfl, ho2, hd, he2⟩
  have HS := Lib.hid ho2.ints.2
  have HC2 := Lib.hid (HC.out.ext he2)
  have hcap : n ≤ cap := by
    obtain ⟨A', c', hv, hle, _⟩ := ho2.slice
    have hs := ho2.ints.1
    cases hv
    omega
  have HE2 := Lib.hid (HE1.out.trans he2)
  have HSL : Hid (s.length = n ∧ Small s) := Lib.hid ⟨ho2.ints.1.symm, fun x hx => HSM.out x (hd.1.subset hx)⟩
  have HG : Hid (sortD cols = s) := Lib.hid (sortD_of hd)
  have HGAP : Hid (∀ k, k ≤ n → gap rows cols k = (cj'.take k).sum - (s.take k).sum) := Lib.hid (fun k hk => by unfold gap; rw [HG.out, HM.out k hk])
  have HCA := Lib.hid (fun k (hk : k ≤ n) W (e : Ext w2 W) => by
    have h := sumOf_any (some ⟨g, 0, none⟩) cap (s.take k) W (by rw [List.length_take, HSL.out.1]; omega) (small_take HSL.out.2 k) (take_ints (HS.out.ext e) k)
    rw [List.length_take, HSL.out.1, Nat.min_eq_left hk] at h
    exact h.mono fun e w' h => (⟨h.1, h.2.symm⟩ : _ ∧ w' = W))
  have HCB := Lib.hid (fun k (hk : k ≤ n) W (e : Ext w2 W) => by
    have h := sumOf_any (some ⟨b1, 0, none⟩) n (cj'.take k) W (by rw [List.length_take, HCL.out]; omega) (small_take HCS.out k) (take_ints (HC2.out.ext e) k)
    rw [List.length_take, HCL.out, Nat.min_eq_left hk] at h
    exact h.mono fun e w' h => (⟨h.1, h.2.symm⟩ : _ ∧ w' = W))
  clear sd ho2 hd he2 HG HC2 HS HC
  go_wp2_with fail
  go_loopw [7] (fun i wr => ∃ k : Nat, 1 ≤ k ∧ k ≤ n + 1 ∧ i = .int .i64 k ∧ Hid (∀ j, 1 ≤ j → j < k → 0 ≤ gap rows cols j) ∧ Hid (Ext w2 wr)) (fun i _ => n + 1 - (intOf i).toNat)
  case atStart => exact ⟨1, by omega, by omega, rfl, Lib.hid (fun j h1 h2 => by omega), Lib.hid (Ext.refl w2)⟩
  case round =>
    obtain ⟨k, hk1, hk, rfl, hg, he⟩ := hrel
    by_cases hle : k ≤ n
    · have hc1' := fun d => HCA.out k hle (wr.drewN d) (he.out.drewN d)
      have hc2' := fun d => HCB.out k hle (wr.drewN d) (he.out.drewN d)
      have hgk := HGAP.out k hle
      obtain ⟨a, ha⟩ : ∃ a, (s.take k).sum = a := ⟨_, rfl⟩
      obtain ⟨b, hb⟩ : ∃ b, (cj'.take k).sum = b := ⟨_, rfl⟩
      rw [ha] at hc1' hgk
      rw [hb] at hc2' hgk
      have HGK := Lib.hid hgk
      clear hgk ha hb
      have g0 : (0 : Int) ≤ (k : Int) := by omega
      have g1 : (k : Int) ≤ (n : Int) := by omega
      have g2 : (k : Int) ≤ (cap : Int) := by omega
      have g3 : k ≤ cap := by omega
      by_cases hneg : b < a
      · have HI := Lib.hid (HBAD.out k hle (by rw [HGK.out]; omega))
        go_wp2_with fail
        go_quiet ((first | (go_at_call 37; with_reducible refine Calls.quiet_of_same (hc1' _)) | (go_at_call 37; with_reducible refine Calls.quiet_of_same (hc2' _))))
        go_wp2_with fail
        go_ret
        exact ⟨k, rfl, by rw [HI.out]; simp; omega, (HE2.out.trans he.out).drewN _⟩
      · go_wp2_with fail
        go_quiet ((first | (go_at_call 37; with_reducible refine Calls.quiet_of_same (hc1' _)) | (go_at_call 37; with_reducible refine Calls.quiet_of_same (hc2' _))))
        go_wp2_with fail
        go_roundw
        case rel => exact ⟨k + 1, by omega, by omega, by go_num, Lib.hid (fun j h1 h2 => by
          rcases Nat.lt_or_ge j k with h3 | h3
          · exact hg.out j h1 h3
          · obtain rfl : j = k := by omega
            rw [HGK.out]; omega), Lib.hid (he.out.drewN _)⟩
        case measure => simp [intOf]; omega
    · obtain rfl : k = n + 1 := by omega
      have HI := Lib.hid (HGOOD.out (fun j h1 h2 => hg.out j h1 (by omega)))
      go_wp2_with fail
      go_ret
      exact ⟨0, rfl, by have := HI.out; simp [this], HE2.out.trans he.out⟩

theorem implExists_any (A B : Option Addr) (ca cb : Nat) (rows cols : List Int) (w : World) (hl : rows.length ≤ 1048576) (hl2 : cols.length ≤ 1048576) (hx : Ints w A rows) (hy : Ints w B cols) :
    Calls Try.prog 48 #[.slice A rows.length ca, .slice B cols.length cb] w fun e w' => e = .returned (.bool (exI rows cols)) ∧ Ext w w' := by
  have cs := implSumsOk_any A B ca cb rows cols w hl hl2 hx hy
  cases h : sumsOk rows cols
  · have HE : Hid (exI rows cols = false) := Lib.hid (by unfold exI; rw [h]; rfl)
    rw [h] at cs
    go_enter Try.func48, Try.ntmps48
    go_wp2_with (go_at_call 70; refine cs.mono ?_; rintro e w' ⟨rfl, rfl⟩)
    go_ret
    exact ⟨ret_bool HE.out.symm, Ext.refl _⟩
  · have HE : Hid (exI rows cols = decide (imgs rows cols ≠ [])) := Lib.hid (by unfold exI; rw [h]; rfl)
    rw [h] at cs
    have cw := implWorstColumns_any A B ca cb rows cols w h hx hy
    go_enter Try.func48, Try.ntmps48
    go_wp2_with (go_at_call 70; refine cs.mono ?_; rintro e w' ⟨rfl, rfl⟩)
    refine cw.mono ?_
    rintro e w1 ⟨n, rfl, hn, he⟩
    have HN := Lib.hid hn
    clear hn cw
    cases b1 : (n == 0)
    all_goals
      go_wp2
      go_ret
      exact ⟨ret_bool (by rw [HE.out, ← HN.out, b1]), he⟩
end Go.Proofs.Ytlhjbpachpjpkaa

namespace Go.Proofs.Ytlhjbpachpjpkaa
open Go.RowKit Tomo

set_option maxHeartbeats 2000000 in
theorem buildClosure (P g c k x y : Nat) (L : List Int) (W : World) (hk : L.length = k) (hx : x < k) (hy : y < k) (hs : Small L)
    (hb : W.cell? ⟨P, 0, none⟩ = some (.slice (some ⟨g, 0, none⟩) k c)) (hi : Ints W (some ⟨g, 0, none⟩) L) :
    Calls Try.prog 52 #[.int .i64 x, .int .i64 y, .pointer (some ⟨P, 0, none⟩)] W fun e w' => e = .returned (.int .i64 (L.getD y 0 - L.getD x 0)) ∧ ∃ q, w' = W.drewN q := by
  obtain ⟨u, hu, cu⟩ := hi.at1 (k := x) (by omega)
  obtain ⟨v, hv, cv⟩ := hi.at1 (k := y) (by omega)
  rw [Nat.zero_add] at cu cv
  have bu := hs u (List.mem_of_getElem? hu.out)
  have bv := hs v (List.mem_of_getElem? hv.out)
  have eu : L.getD x 0 = u := by rw [List.getD_eq_getElem?_getD, hu.out]; rfl
  have ev : L.getD y 0 = v := by rw [List.getD_eq_getElem?_getD, hv.out]; rfl
  rw [eu, ev]
  have hw : IntKind.i64.wrap (v - u) = v - u := IntWalk.i64_in _ (by omega)
  have xI : (x : Int) < (k : Int) := by omega
  have yI : (y : Int) < (k : Int) := by omega
  clear hu hv eu ev bu bv hi hs hk
  go_enter Try.func52, Try.ntmps52
  go_wp2_with fail
  go_quiet (fail)
  go_wp2_with fail
  go_ret
  exact ⟨rfl, _, rfl⟩
set_option maxHeartbeats 2000000 in
theorem stableCmp_any (b c k f : Nat) (cb : Array Value) (w : World) (R : World → Prop) (hk : k < 20)
    (hi : Calls Try.prog 95 #[.slice (some ⟨b, 0, none⟩) k c, .int .i64 0, .int .i64 k, .func (.func f) #[] cb] w fun e w' => e = .returned (.tuple #[]) ∧ R w') :
    Calls Try.prog 76 #[.slice (some ⟨b, 0, none⟩) k c, .int .i64 k, .func (.func f) #[] cb] w fun e w' => e = .returned (.tuple #[]) ∧ R w' := by
  go_enter Try.func76, Try.ntmps76
  go_wp2_with fail
  go_loopw [7, 8] (fun x y wr => x = .int .i64 0 ∧ y = .int .i64 20 ∧ Hid (wr = w)) (fun _ _ _ => 0)
  case atStart => exact ⟨rfl, rfl, Lib.hid rfl⟩
  case round =>
    rename World => wr
    obtain ⟨rfl, rfl, hw⟩ := hrel
    obtain rfl := hw.out
    clear hw
    go_wp2_with fail
    refine hi.mono ?_
    rintro e w2 ⟨rfl, hR⟩
    clear hi
    go_wp2_with fail
    go_loopw [6, 7, 8, 9] (fun x _ _ _ wr => x = .int .i64 20 ∧ Hid (wr = w2)) (fun _ _ _ _ _ => 0)
    case atStart => exact ⟨rfl, Lib.hid rfl⟩
    case round =>
      rename World => wq
      obtain ⟨rfl, hw⟩ := hrel
      obtain rfl := hw.out
      clear hw
      go_wp2_with fail
      go_end0
      exact ⟨rfl, hR⟩
set_option maxHeartbeats 2000000 in
theorem sortStable_any (b c k f : Nat) (cb : Array Value) (w : World) (R : World → Prop) (hk : k < 20)
    (hi : Calls Try.prog 95 #[.slice (some ⟨b, 0, none⟩) k c, .int .i64 0, .int .i64 k, .func (.func f) #[] cb] w fun e w' => e = .returned (.tuple #[]) ∧ R w') :
    Calls Try.prog 51 #[.slice (some ⟨b, 0, none⟩) k c, .func (.func f) #[] cb] w fun e w' => e = .returned (.tuple #[]) ∧ R w' := by
  have c1 := stableCmp_any b c k f cb w R hk hi
  clear hi
  go_enter Try.func51, Try.ntmps51
  go_wp2_with fail
  refine c1.mono ?_
  rintro e w2 ⟨rfl, hR⟩
  clear c1
  go_wp2_with fail
  go_end0
  exact ⟨rfl, hR⟩
theorem sortWorld_cell {α : Type} [Inhabited α] {enc : α → Value} {w : World} {blk off m : Nat} {dk : Array α} {os : Array Obj} {a : Addr} (h : a.block ≠ blk) (hl : a.block < w.heap.size) : (sortWorld enc w blk off m dk os).cell? a = w.cell? a := by
  unfold sortWorld
  rw [Go.Sort.cell?_grow _ _ _ (by rw [Go.Sort.size_putRow]; exact hl), Go.Sort.cell?_putRow_other _ _ _ _ _ _ (Or.inl h)]
  rfl
theorem sortWorld_size {α : Type} [Inhabited α] {enc : α → Value} {w : World} {blk off m : Nat} {dk : Array α} {os : Array Obj} : w.heap.size ≤ (sortWorld enc w blk off m dk os).heap.size := by
  unfold sortWorld Go.Sort.grow
  show w.heap.size ≤ ((Go.Sort.putRow enc (Go.Sort.ahead w m) blk off dk).heap ++ os).size
  rw [Array.size_append, Go.Sort.size_putRow]
  exact Nat.le_add_right _ _
theorem putRow_block {α : Type} [Inhabited α] {enc : α → Value} {w : World} {g m : Nat} {d : Array α} {j : Nat} (h : j ≠ g) : ((Go.Sort.putRow enc w g 0 d).drewN m).heap[j]? = w.heap[j]? := by
  show (Go.Sort.putRow enc w g 0 d).heap[j]? = w.heap[j]?
  simp only [Go.Sort.putRow, Go.Sort.mapBlock, Array.getElem?_modify]
  rw [if_neg (fun e => h e.symm)]
theorem finRange_vals (k : Nat) : (List.finRange k).map (fun i => i.val) = List.range k := by
  apply List.ext_getElem
  · simp
  · intro i h1 h2; simp
/-- the column's number, as a value -/
def encF (k : Nat) (i : Fin k) : Value := .int .i64 (i.val : Int)
set_option maxHeartbeats 2000000 in
theorem sortOrder_any (P g c b co k B : Nat) (L : List Int) (w : World) (hk1 : 1 ≤ k) (hk5 : k ≤ 5) (hL : L.length = k) (hs : Small L)
    (hb : w.cell? ⟨P, 0, none⟩ = some (.slice (some ⟨g, 0, none⟩) k c)) (hi : Ints w (some ⟨g, 0, none⟩) L) (ho : Own w B (.slice (some ⟨b, 0, none⟩) k co) ((List.range k).map fun i : Nat => (i : Int))) (hP : P ≠ b) (hg : g ≠ b) :
    Calls Try.prog 51 #[.slice (some ⟨b, 0, none⟩) k co, .func (.func 52) #[] #[.pointer (some ⟨P, 0, none⟩)]] w fun e w' => e = .returned (.tuple #[]) ∧
      ∃ l : List Nat, l.Perm (List.range k) ∧ (l.Pairwise fun a b => L.getD b 0 ≤ L.getD a 0) ∧ Own w' B (.slice (some ⟨b, 0, none⟩) k co) (l.map fun i : Nat => (i : Int)) ∧ (∀ w0, Ext w0 w → w0.heap.size ≤ b → Ext w0 w') ∧ w'.heap.size = w.heap.size ∧ ∀ j, j ≠ b → w'.heap[j]? = w.heap[j]? := by
  obtain ⟨m, rfl⟩ : ∃ m, k = m + 1 := ⟨k - 1, by omega⟩
  refine sortStable_any b co (m + 1) _ _ w _ (by omega) ?_
  have eg : ∀ args w, (callFunc 52 args).run Try.prog w = .ok (.enter 52 args) w := enters_of Try.func52 (by kernel_rfl) rfl
  have hPl : P < w.heap.size := World.block_lt_of_cell? _ _ hb
  have hgl : g < w.heap.size := by
    obtain ⟨b', o', _, e, hlt, _⟩ := hi.at_ (k := 0) (by omega)
    cases e; exact hlt
  have hmap : ((List.range (m + 1)).map fun i : Nat => (i : Int)).map (Value.int .i64) = (List.finRange (m + 1)).map (encF (m + 1)) := by
    rw [← finRange_vals, List.map_map, List.map_map]; rfl
  have how : w.ownsRow B 3 1 (.slice (some ⟨b, 0, none⟩) (m + 1) co) (m + 1) ((List.finRange (m + 1)).map (encF (m + 1))) := by
    have h := ho
    unfold Own at h
    rw [hmap, List.length_map, List.length_range] at h
    exact h
  obtain ⟨b', co', hv, hBb, hbl, _, _, hzl, hH⟩ := Lib.holds_of_ownsRow (enc := encF (m + 1)) how (by simp)
  cases hv
  have hcmp : CmpReads Try.prog 52 #[.pointer (some ⟨P, 0, none⟩)] (encF (m + 1)) (fun x y => L.getD y.val 0 - L.getD x.val 0) b 0 (List.finRange (m + 1)).toArray.size w := fun q os dk _ x y => by
    refine buildClosure P g c (m + 1) x.val y.val L (sortWorld (encF (m + 1)) w b 0 q dk os) hL x.isLt y.isLt hs ?_ ?_
    · rw [sortWorld_cell hP hPl]; exact hb
    · intro j z hz
      obtain ⟨b1, o1, e, hlt, hc⟩ := hi j z hz
      cases e
      exact ⟨g, 0, rfl, Nat.lt_of_lt_of_le hgl sortWorld_size, by rw [sortWorld_cell hg hgl]; exact hc⟩
  have hsz : (List.finRange (m + 1)).toArray.size = m + 1 := by simp
  have hcon := Any.insertionSortCmpFunc_one insSort (encF (m + 1)) (fun _ => rfl) (fun x y => L.getD y.val 0 - L.getD x.val 0) 52 #[.pointer (some ⟨P, 0, none⟩)] b 0 co 0 (m + 1) (List.finRange (m + 1)).toArray w eg hcmp hH (by omega) (by rw [hsz]; omega) (by rw [hsz]; omega)
  change Calls Try.prog 95 _ _ _ at hcon
  rw [hsz] at hcon
  refine hcon.mono fun e w' h => ?_
  obtain ⟨he, n, rfl⟩ := h
  have hlt : ∀ x y : Fin (m + 1), ltOf (fun x y : Fin (m + 1) => L.getD y.val 0 - L.getD x.val 0) x y = decide (L.getD y.val 0 < L.getD x.val 0) := fun x y => by
    show decide (L.getD y.val 0 - L.getD x.val 0 < 0) = _
    by_cases h : L.getD y.val 0 < L.getD x.val 0
    · rw [decide_eq_true h, decide_eq_true (by omega)]
    · rw [decide_eq_false h, decide_eq_false (by omega)]
  have hS : Go.Sort.SWO (ltOf (fun x y : Fin (m + 1) => L.getD y.val 0 - L.getD x.val 0)) :=
    ⟨fun x => by rw [hlt]; simp, fun x y z h1 h2 => by rw [hlt] at *; simp only [decide_eq_true_eq] at *; omega, fun x y z h1 h2 => by rw [hlt] at *; simp only [decide_eq_false_iff_not] at *; omega⟩
  have hso := Go.Sort.insertionSort_holds hS (List.finRange (m + 1)).toArray 0 (m + 1) (by omega) (by rw [hsz]; omega)
  obtain ⟨hp, hd⟩ := hso
  obtain ⟨d', hd'⟩ : ∃ d', Go.Sort.insertionSort (ltOf (fun x y : Fin (m + 1) => L.getD y.val 0 - L.getD x.val 0)) (List.finRange (m + 1)).toArray 0 (m + 1) = d' := ⟨_, rfl⟩
  rw [hd'] at hp hd ⊢
  have hp2 := perm_of_in (d := (List.finRange (m + 1)).toArray) (d' := d') (by rw [hsz]; exact hp)
  have hdl : d'.toList.length = m + 1 := by have := hp2.1; rw [hsz] at this; simpa using this
  refine ⟨he, d'.toList.map (fun i => i.val), ?_, ?_, ?_, fun w0 e0 h0 => e0.sorted h0, ?_, fun j hj => putRow_block hj⟩
  · rw [← finRange_vals]
    exact hp2.2.map _
  · rw [List.pairwise_map]
    refine (pairwise_of_in (n := m + 1) (by simpa using hdl.symm) hd).imp fun {a b} h => ?_
    rw [hlt] at h
    have := of_decide_eq_false h
    omega
  · have h := Lib.ownsRow_putRow (q := n) (k := m + 1) (ys := d'.toList) how hdl (Nat.le_refl _)
    rw [List.take_of_length_le (by omega)] at h
    unfold Own
    rw [List.map_map, List.map_map, List.length_map, hdl]
    exact h
  · show (Go.Sort.putRow _ w b 0 d').heap.size = _
    rw [Go.Sort.size_putRow]
end Go.Proofs.Ytlhjbpachpjpkaa
