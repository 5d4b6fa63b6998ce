/- Images that agree with one in some cells. -/
import Derived.Test.YtnnkondlefjkcaaMasked
import Derived.Test.YtnnkondlefjkcaaSums
namespace Go.Proofs.Ytnnkondlefjkcaa
open Go.RowKit Tomo

/-- the cell with this number -/
def cellAt (m : Grid) (k : Nat) (c : Int) : Int := at2 m (c.toNat / k) (c.toNat % k)
def agrees (m x : Grid) (k : Nat) (cells : List Int) : Bool := cells.all fun c => cellAt m k c == cellAt x k c
noncomputable def agreeOk (m : Grid) (cells : List Int) : Bool := gridOk m 0 1 && rising cells (m.length * (m.headD []).length : Nat)
noncomputable def agreeI (m : Grid) (cells : List Int) : List Grid := (allI (rsI m) (csI m)).filter fun x => agrees m x (m.headD []).length cells
noncomputable def agreeCount (m : Grid) (cells : List Int) : Int := if agreeOk m cells = true then ((agreeI m cells).length : Int) else -1

theorem rising_all {xs : List Int} {lim : Int} (h : rising xs lim = true) : ∀ c ∈ xs, 0 ≤ c ∧ c < lim := by
  intro c hc
  obtain ⟨i, hi⟩ := List.mem_iff_getElem?.1 hc
  have hlt := (List.getElem?_eq_some_iff.1 hi).1
  unfold rising at h
  rw [List.all_eq_true] at h
  have h2 := h i (List.mem_range.2 hlt)
  cases i with
  | zero => rw [riseAt_zero hi, inR_iff] at h2; omega
  | succ i =>
    rw [riseAt_next hi (List.getElem?_eq_getElem (by omega)), Bool.and_eq_true, inR_iff] at h2
    omega

theorem rs_len {m : Grid} (h : gridOk m 0 1 = true) : (rsI m).length = m.length ∧ (csI m).length = (m.headD []).length := by
  unfold rsI csI
  rw [if_pos h, if_pos h, List.length_map, List.length_map]
  exact ⟨rfl, (tr_shape m).1⟩
theorem cell_split {n k c : Nat} (hk : 0 < k) (h : c < n * k) : c / k < n ∧ c % k < k :=
  ⟨(Nat.div_lt_iff_lt_mul hk).2 h, Nat.mod_lt _ hk⟩
theorem Img.cell2 {m : Grid} {n k C : Nat} (h : Img m n k) (hk : 0 < k) (hC : C < n * k) {w : World} {A : Option Addr} (hg : GridAt w A m) :
    ∃ b o cR b3 o3 v, A = some ⟨b, o, none⟩ ∧ b < w.heap.size ∧ w.cell? ⟨b, o + C / k, none⟩ = some (.slice (some ⟨b3, o3, none⟩) k cR) ∧ w.cell? ⟨b3, o3 + C % k, none⟩ = some (.int .i64 v) ∧ Hid (at2 m (C / k) (C % k) = v) ∧ (v = 0 ∨ v = 1) := by
  obtain ⟨h1, h2⟩ := cell_split hk hC
  obtain ⟨r, v, hr, hrl, hv, h01⟩ := h.cell h1 h2
  obtain ⟨b, o, R, cR, r', rfl, hb, hr', hq, hints⟩ := hg.at_ (k := C / k) (by rw [h.1.1]; exact h1)
  obtain rfl : r' = r := by have := hr'.out; rw [hr] at this; exact (Option.some.inj this).symm
  obtain ⟨b3, o3, v', rfl, _, hv', hq3⟩ := hints.at_ (k := C % k) (by omega)
  obtain rfl : v' = v := by have := hv'.out; rw [hv] at this; exact (Option.some.inj this).symm
  rw [hrl] at hq
  exact ⟨b, o, cR, b3, o3, v', rfl, hb, hq, hq3, Lib.hid (at2_of hr hv), h01⟩
theorem Img.head2 {m : Grid} {n k : Nat} (h : Img m n k) {w : World} {b o : Nat} (hg : GridAt w (some ⟨b, o, none⟩) m) : ∃ R c, w.cell? ⟨b, o, none⟩ = some (.slice R k c) := by
  obtain ⟨R, c, r, hr, hq, _⟩ := hg.at1 (k := 0) (by rw [h.1.1]; have := h.2.1.1; omega)
  exact ⟨R, c, by rw [Nat.add_zero] at hq; rw [hq, h.1.row hr.out]⟩
theorem agrees_succ {m x : Grid} {k j C : Nat} {cells : List Int} (h : cells[j]? = some (C : Int)) : agrees m x k (cells.take (j + 1)) = (agrees m x k (cells.take j) && (at2 m (C / k) (C % k) == at2 x (C / k) (C % k))) := by
  unfold agrees; rw [take_all_succ h]; simp [cellAt]
theorem agrees_bad {m x : Grid} {k j C : Nat} {cells : List Int} (h : cells[j]? = some (C : Int)) (hne : (at2 m (C / k) (C % k) == at2 x (C / k) (C % k)) = false) : agrees m x k cells = false := by
  unfold agrees; exact all_false_of h _ (by simpa [cellAt] using hne)

set_option maxHeartbeats 4000000 in
theorem l12Agrees_any (A B D : Option Addr) (ca cb cd : Nat) (m x : Grid) (n k : Nat) (cells : List Int) (w : World) (hm : Img m n k) (hx : Img x n k) (hgm : GridAt w A m) (hgx : GridAt w B x) (hc : Ints w D cells) (hlen : cells.length ≤ 1048576) (hcs : ∀ c ∈ cells, 0 ≤ c ∧ c < (n * k : Nat)) :
    Calls Try.prog 123 #[.slice A n ca, .slice B n cb, .slice D cells.length cd] w fun e w' => e = .returned (.bool (agrees m x k cells)) ∧ Drew w w' := by
  obtain ⟨hn1, hn5⟩ := hm.2.1
  obtain ⟨hk1, hk5⟩ := hm.2.2.1
  have hnk : n * k ≤ 25 := Nat.mul_le_mul hn5 hk5
  have HM := Lib.hid hm
  have HX := Lib.hid hx
  have HGM := Lib.hid hgm
  have HGX := Lib.hid hgx
  have HC := Lib.hid hc
  have HCS := Lib.hid hcs
  clear hm hx hgm hgx hc hcs
  go_enter Try.func123, Try.ntmps123
  go_wp2_with fail
  go_loopw [11, 8] (fun i _ wr => ∃ j : Nat, j ≤ cells.length ∧ i = .int .i64 j ∧ Hid (Drew w wr) ∧ Hid (agrees m x k (cells.take j) = true)) (fun i _ _ => cells.length - (intOf i).toNat)
  case atStart => exact ⟨0, Nat.zero_le _, rfl, Lib.hid (Drew.refl w), Lib.hid rfl⟩
  case round =>
    obtain ⟨j, hj, rfl, hd, hs⟩ := hrel
    by_cases hlt : j < cells.length
    · obtain ⟨d, hd'⟩ := hd.out
      subst hd'
      obtain ⟨b, o, cv, rfl, _, hcv, hq⟩ := HC.out.at_ hlt
      obtain ⟨c1, c2⟩ := HCS.out cv (List.mem_of_getElem? hcv.out)
      obtain ⟨C, rfl⟩ : ∃ C : Nat, cv = C := ⟨cv.toNat, by omega⟩
      have hC : C < n * k := by omega
      obtain ⟨h1, h2⟩ := cell_split (by omega) hC
      have g1 : 0 ≤ (C : Int) / (k : Int) := Int.ediv_nonneg (by omega) (by omega)
      have g2 : (C : Int) / (k : Int) < (n : Int) := by rw [← Int.natCast_ediv]; omega
      have g3 : 0 ≤ (C : Int) % (k : Int) := Int.emod_nonneg _ (by omega)
      have g4 : (C : Int) % (k : Int) < (k : Int) := Int.emod_lt_of_pos _ (by omega)
      obtain ⟨b1, o1, cR1, b3, o3, v, rfl, hb1, q1, q3, hv, _⟩ := HM.out.cell2 (by omega) hC HGM.out
      obtain ⟨b5, o5, cR5, b7, o7, v', rfl, hb5, q5, q7, hv', _⟩ := HX.out.cell2 (by omega) hC HGX.out
      obtain ⟨R0, c0, q0⟩ := HM.out.head2 HGM.out
      have HS := agrees_succ (m := m) (x := x) (k := k) hcv.out
      rw [hv.out, hv'.out] at HS
      have HS2 := Lib.hid HS
      have HBAD := agrees_bad (m := m) (x := x) (k := k) hcv.out
      rw [hv.out, hv'.out] at HBAD
      have HB2 := Lib.hid HBAD
      clear HS HBAD hC
      cases e : (v == v')
      · have e2 : (v != v') = true := by simpa [bne] using e
        have HT := Lib.hid (HB2.out e)
        clear e
        go_wp2_with fail
        go_quiet (fail)
        go_wp2_with fail
        go_ret
        exact ⟨ret_bool HT.out.symm, hd.out.drewN _⟩
      · have e2 : (v != v') = false := by simpa [bne] using e
        have HT : Hid (agrees m x k (cells.take (j + 1)) = true) := Lib.hid (by rw [HS2.out, hs.out, e]; rfl)
        clear e
        go_wp2_with fail
        go_quiet (fail)
        go_wp2_with fail
        go_roundw
        case rel => exact ⟨j + 1, by omega, by go_num, Lib.hid ⟨_, rfl⟩, HT⟩
        case measure => simp [intOf]; omega
    · obtain rfl : j = cells.length := by omega
      have HT : Hid (agrees m x k cells = true) := Lib.hid (by have := hs.out; rw [take_full] at this; exact this)
      go_wp2_with fail
      go_ret
      exact ⟨ret_bool HT.out.symm, hd.out⟩

set_option maxHeartbeats 2000000 in
theorem l12Ok_any (A D : Option Addr) (ca cd : Nat) (m : Grid) (cells : List Int) (w : World) (hl : m.length ≤ 1048576) (hr : ∀ r ∈ m, r.length ≤ 1048576) (hlen : cells.length ≤ 1048576) (hgm : GridAt w A m) (hc : Ints w D cells) :
    Calls Try.prog 96 #[.slice A m.length ca, .slice D cells.length cd] w fun e w' => e = .returned (.bool (agreeOk m cells)) ∧ w = w' := by
  have ci := specImageOk_any A ca m w hl hr hgm
  cases h : gridOk m 0 1
  · rw [h] at ci
    have HP : Hid (agreeOk m cells = false) := Lib.hid (by unfold agreeOk; rw [h]; rfl)
    clear hgm hc
    go_enter Try.func96, Try.ntmps96
    go_wp2_with (go_at_call 57; refine ci.mono ?_; rintro e w' ⟨rfl, rfl⟩)
    go_ret
    exact ⟨ret_bool HP.out.symm, rfl⟩
  · rw [h] at ci
    have HP : Hid (agreeOk m cells = rising cells (m.length * (m.headD []).length : Nat)) := Lib.hid (by unfold agreeOk; rw [h]; rfl)
    have himg := Img.of h
    obtain ⟨hn1, hn5⟩ := himg.2.1
    obtain ⟨hk1, hk5⟩ := himg.2.2.1
    have hnk : m.length * (m.headD []).length ≤ 25 := Nat.mul_le_mul hn5 hk5
    have cl := l08List_any D cd cells (m.length * (m.headD []).length : Nat) w hlen (by omega) (by omega) hc
    obtain ⟨bb, oo, _, _, _, hA, _⟩ := hgm.at_ (k := 0) (by omega)
    subst hA
    obtain ⟨R0, c0, q0⟩ := himg.head2 hgm
    obtain ⟨n, hn⟩ : ∃ n, m.length = n := ⟨_, rfl⟩
    obtain ⟨k, hk⟩ : ∃ k, (m.headD []).length = k := ⟨_, rfl⟩
    obtain ⟨q, hq⟩ : ∃ q, agreeOk m cells = q := ⟨_, rfl⟩
    rw [hq] at HP ⊢
    rw [hn, hk] at HP cl hnk
    rw [hn] at ci hn1 hn5 ⊢
    rw [hk] at hk1 hk5 q0
    rw [Int.natCast_mul] at HP cl
    have g1 : 0 ≤ (n : Int) * (k : Int) := by rw [← Int.natCast_mul]; omega
    have g2 : (n : Int) * (k : Int) ≤ 25 := by rw [← Int.natCast_mul]; omega
    obtain ⟨t, ht⟩ : ∃ t, rising cells ((n : Int) * (k : Int)) = t := ⟨_, rfl⟩
    rw [ht] at HP cl
    clear himg hgm hc hn hk h hq ht hr hl
    go_enter Try.func96, Try.ntmps96
    go_wp2_with (first | (go_at_call 57; refine ci.mono ?_; rintro e w' ⟨rfl, rfl⟩) | (go_at_call 122; refine cl.mono ?_; rintro e w' ⟨rfl, rfl⟩))
    go_ret
    exact ⟨ret_bool HP.out.symm, rfl⟩

set_option maxHeartbeats 2000000 in
theorem l12Count_any (L A D : Option Addr) (cl ca cd : Nat) (gs : List Grid) (m : Grid) (n k : Nat) (cells : List Int) (w : World) (B : Nat) (hlist : OwnGrids w B (.slice L gs.length cl) gs) (hgl : gs.length ≤ 1000000000) (himgs : ∀ g ∈ gs, Img g n k) (hm : Img m n k) (hgm : GridAt w A m) (hc : Ints w D cells) (hlen : cells.length ≤ 1048576) (hcs : ∀ c ∈ cells, 0 ≤ c ∧ c < (n * k : Nat)) :
    Calls Try.prog 97 #[.slice L gs.length cl, .slice A n ca, .slice D cells.length cd] w fun e w' => e = .returned (.int .i64 ((gs.filter fun x => agrees m x k cells).length : Nat)) ∧ Ext w w' := by
  obtain ⟨us, hu⟩ := hlist.u
  have HU := Lib.hid hu
  have HIMG := Lib.hid himgs
  have HCA := Lib.hid (fun (W : World) (e : Ext w W) (g : Grid) (Bg : Option Addr) (cg : Nat) (hg : Img g n k) (hgg : GridAt W Bg g) => l12Agrees_any A Bg D ca cg cd m g n k cells W hm hg (hgm.ext e) hgg (hc.ext e) hlen hcs)
  obtain ⟨q, hq⟩ : ∃ q, (gs.filter fun x => agrees m x k cells).length = q := ⟨_, rfl⟩
  rw [hq]
  have HQ := Lib.hid hq
  clear hlist hu himgs hm hgm hc hcs hq
  go_enter Try.func97, Try.ntmps97
  go_wp2_with fail
  go_loopw [12, 7, 9] (fun i t _ wr => ∃ j s : Nat, j ≤ gs.length ∧ s ≤ gs.length ∧ i = .int .i64 j ∧ t = .int .i64 s ∧ Hid (Ext w wr) ∧ Hid (s = ((gs.take j).filter fun x => agrees m x k cells).length)) (fun i _ _ _ => gs.length - (intOf i).toNat)
  case atStart => exact ⟨0, 0, Nat.zero_le _, Nat.zero_le _, rfl, rfl, Lib.hid (Ext.refl _), Lib.hid (by simp)⟩
  case round =>
    obtain ⟨j, s, hj, hs, rfl, rfl, hE, hf⟩ := hrel
    by_cases hlt : j < gs.length
    · obtain ⟨b, u, g, Au, cu, rfl, hb, _, hg, hcell, _, hog⟩ := HU.out.elt hlt
      have himg := HIMG.out g (List.mem_of_getElem? hg.out)
      have cc := HCA.out wr hE.out g Au cu himg (hog.ext hE.out).gridAt
      have hcell2 : wr.cell? ⟨b, j, none⟩ = some (.slice Au n cu) := by rw [← himg.1.1]; exact (hE.out.cell (p := ⟨b, j, none⟩) hb).trans hcell
      have HS := Lib.hid (filter_take_succ hg.out fun x => agrees m x k cells)
      have HLE := Lib.hid (filter_take_le gs (j + 1) fun x => agrees m x k cells)
      clear hog himg hcell
      cases hmm : agrees m g k cells
      · rw [hmm] at cc
        have HN : Hid (s = ((gs.take (j + 1)).filter fun x => agrees m x k cells).length) := Lib.hid (by rw [HS.out, if_neg (by rw [hmm]; simp), List.append_nil]; exact hf.out)
        go_wp2_with fail
        refine cc.mono ?_
        rintro e w1 ⟨rfl, hd⟩
        have HE1 := Lib.hid (hE.out.trans hd.ext)
        clear hd
        go_wp2
        go_roundw
        case rel => exact ⟨j + 1, s, by omega, hs, by go_num, rfl, HE1, HN⟩
        case measure => simp [intOf]; omega
      · rw [hmm] at cc
        have HN : Hid (s + 1 = ((gs.take (j + 1)).filter fun x => agrees m x k cells).length) := Lib.hid (by rw [HS.out, if_pos hmm, List.length_append, hf.out]; rfl)
        have hs1 : s + 1 ≤ gs.length := by rw [HN.out]; exact HLE.out
        go_wp2_with fail
        refine cc.mono ?_
        rintro e w1 ⟨rfl, hd⟩
        have HE1 := Lib.hid (hE.out.trans hd.ext)
        clear hd
        go_wp2
        go_roundw
        case rel => exact ⟨j + 1, s + 1, by omega, hs1, by go_num, by go_num, HE1, HN⟩
        case measure => simp [intOf]; omega
    · obtain rfl : j = gs.length := by omega
      have HT : Hid (q = s) := Lib.hid (by have h := hf.out; rw [take_full] at h; rw [← HQ.out, h])
      go_wp2
      go_ret
      exact ⟨ret_int (by rw [HT.out]), hE.out⟩


end Go.Proofs.Ytnnkondlefjkcaa
