/- The sums of an image's rows and columns, in the reference and in the program. -/
import Derived.Test.YtlhjbpachpjpkaaTrans
import Derived.Test.YtlhjbpachpjpkaaTomA
namespace Go.Proofs.Ytlhjbpachpjpkaa
open Go.RowKit

def rsI (m : List (List Int)) : List Int := if gridOk m 0 1 = true then m.map List.sum else []
def csI (m : List (List Int)) : List Int := if gridOk m 0 1 = true then (tr m).map List.sum else []
theorem Ints.one {w : World} {x : Int} {n : Nat} (h : n = w.heap.size) : Ints (w.alloc (.cells #[.int .i64 x] 3)) (some ⟨n, 0, none⟩) [x] := fun j z hj => by
  subst h
  cases j with
  | zero =>
    have : x = z := by simpa using hj
    exact ⟨w.heap.size, 0, rfl, by simp, by rw [← this]; exact new_cell rfl⟩
  | succ j => simp at hj
theorem gridOk_row {m : List (List Int)} (h : gridOk m 0 1 = true) {r : List Int} (hr : r ∈ m) : r.length ≤ 5 ∧ Small r := by
  obtain ⟨h1, h2⟩ := gridOk_iff.1 h
  obtain ⟨_, k1, k2⟩ := h2 r hr
  exact ⟨by omega, small_of k2 (by omega) (by omega)⟩
theorem map_take_succ {m : List (List Int)} {k : Nat} {r : List Int} (h : m[k]? = some r) : (m.map List.sum).take (k + 1) = (m.map List.sum).take k ++ [r.sum] :=
  take_succ_of (by rw [List.getElem?_map, h]; rfl)

set_option maxHeartbeats 2000000 in
theorem implRowSums_any (A : Option Addr) (c : Nat) (m : List (List Int)) (w : World) (hl : m.length ≤ 1048576) (hr : ∀ r ∈ m, r.length ≤ 1048576) (hx : GridAt w A m) :
    Calls Try.prog 8 #[.slice A m.length c] w fun e w' => ∃ v, e = .returned v ∧ Own w' w.heap.size v (rsI m) ∧ Ext w w' := by
  have ci := implImageOk_any A c m w hl hr hx
  cases h : gridOk m 0 1
  · rw [h] at ci
    have HP : Hid (rsI m = []) := Lib.hid (by unfold rsI; rw [h]; rfl)
    clear hr hx
    go_enter Try.func8, Try.ntmps8
    go_wp2_with (go_at_call 36; refine ci.mono ?_; rintro e w' ⟨rfl, rfl⟩)
    go_ret
    exact ⟨_, rfl, by rw [HP.out]; exact Own.nil _ _, Ext.refl _⟩
  · rw [h] at ci
    have HP : Hid (rsI m = m.map List.sum) := Lib.hid (by unfold rsI; rw [h]; rfl)
    have HR : Hid (∀ r ∈ m, r.length ≤ 5 ∧ Small r) := Lib.hid fun r hr => gridOk_row h hr
    have hm5 : m.length ≤ 5 := (gridOk_rows h).2.1
    have HX := Lib.hid hx
    clear hr hx h
    go_enter Try.func8, Try.ntmps8
    go_wp2_with (go_at_call 36; refine ci.mono ?_; rintro e w' ⟨rfl, rfl⟩)
    go_loopw [11, 3, 5] (fun i v _ wr => ∃ k : Nat, k ≤ m.length ∧ i = .int .i64 k ∧ Hid (Own wr w.heap.size v ((m.map List.sum).take k)) ∧ Hid (Ext w wr)) (fun i _ _ _ => m.length - (intOf i).toNat)
    case atStart => exact ⟨0, Nat.zero_le _, rfl, Lib.hid (Own.nil _ _), Lib.hid (Ext.refl w)⟩
    case round =>
      obtain ⟨k, hk, rfl, ho, he⟩ := hrel
      by_cases hlt : k < m.length
      · obtain ⟨b, o, R, c', r, rfl, hb, HR1, hcell, hri⟩ := (HX.out.ext he.out).at_ hlt
        obtain ⟨hr5, hsm⟩ := HR.out r (List.mem_of_getElem? HR1.out)
        have cs := sumOf_any R c' r wr (by omega) hsm hri
        obtain ⟨z, hz⟩ : ∃ z, r.sum = z := ⟨_, rfl⟩
        rw [hz] at cs
        have HN := map_take_succ HR1.out
        rw [hz] at HN
        replace HN := Lib.hid HN
        have hB : w.heap.size ≤ wr.heap.size := he.out.size
        have hlen : ((m.map List.sum).take k).length = k := by rw [List.length_take, List.length_map]; omega
        have HL := Lib.hid hlen
        have hi := Ints.one (w := wr) (x := z) rfl
        have HI := Lib.hid hi
        clear hsm hri hz hlen hi
        go_wp2_with fail
        refine cs.mono ?_
        rintro e w' ⟨rfl, rfl⟩
        go_wp2_with (at_builtin; refine app_ints (ys := [z]) (ho.out.ext ((Ext.refl wr).alloc _)) (by simp; omega) (by rw [HL.out]; simp; omega) (by simp) HI.out rfl _ _ rfl rfl rfl ?_)
        intro g cap w1 hown hb _ _
        have HN2 : Hid (∀ n, n = k + 1 → Own w1 w.heap.size (.slice (some ⟨g, 0, none⟩) n cap) ((m.map List.sum).take (k + 1))) := Lib.hid (fun n hn => by rw [HN.out, hn]; exact hown)
        have HE2 : Hid (Ext w w1) := Lib.hid (hb w (he.out.alloc _))
        clear hown hb
        go_wp2
        go_roundw
        case rel => exact ⟨k + 1, by omega, by go_num, Lib.hid (HN2.out _ (by first | rfl | simp)), HE2⟩
        case measure => simp [intOf]; omega
      · obtain rfl : k = m.length := by omega
        have HO : Hid (Own wr w.heap.size u3 (rsI m)) := Lib.hid (by have := ho.out; rw [List.take_of_length_le (by rw [List.length_map]; omega)] at this; rw [HP.out]; exact this)
        go_wp2
        go_ret
        exact ⟨_, rfl, HO.out, he.out⟩

set_option maxHeartbeats 2000000 in
theorem implColSums_any (A : Option Addr) (c : Nat) (m : List (List Int)) (w : World) (hl : m.length ≤ 1048576) (hr : ∀ r ∈ m, r.length ≤ 1048576) (hx : GridAt w A m) :
    Calls Try.prog 9 #[.slice A m.length c] w fun e w' => ∃ v, e = .returned v ∧ Own w' w.heap.size v (csI m) ∧ Ext w w' := by
  have ct := implTransposeOf_any A c m w hl hr hx
  cases h : gridOk m 0 1
  · have ct2 : Calls Try.prog 38 #[.slice A m.length c] w fun e w' => e = .returned (.slice none 0 0) ∧ w = w' := ct.mono fun e w' hh => hh.1 h
    have cr := implRowSums_any none 0 [] w (by simp) (by simp) (fun k r hk => by simp at hk)
    have HP : Hid (csI m = rsI []) := Lib.hid (by unfold csI; rw [h]; rfl)
    clear ct hr hx
    go_enter Try.func9, Try.ntmps9
    go_wp2_with (go_at_call 38; refine ct2.mono ?_; rintro e w' ⟨rfl, rfl⟩)
    refine cr.mono ?_
    rintro e w' ⟨v, rfl, ho, he⟩
    have HO := Lib.hid ho
    clear ho
    go_wp2
    go_ret
    exact ⟨_, rfl, by rw [HP.out]; exact HO.out, he⟩
  · obtain ⟨hs, h1, h2, h3, h4⟩ := gridOk_shape h
    have ct2 : Calls Try.prog 38 #[.slice A m.length c] w fun e w' => ∃ b cap, e = .returned (.slice (some ⟨b, 0, none⟩) (m.headD []).length cap) ∧ OwnGrid w' w.heap.size (.slice (some ⟨b, 0, none⟩) (m.headD []).length cap) (tr m) ∧ Ext w w' := ct.mono fun e w' hh => hh.2 h
    have hts := tr_shape m
    have HP : Hid (csI m = rsI (tr m)) := Lib.hid (by unfold csI rsI; rw [h, gridOk_tr h])
    have HCR : Hid (∀ (b cap : Nat) (W : World), OwnGrid W w.heap.size (.slice (some ⟨b, 0, none⟩) (m.headD []).length cap) (tr m) → Calls Try.prog 8 #[.slice (some ⟨b, 0, none⟩) (m.headD []).length cap] W fun e w' => ∃ v, e = .returned v ∧ Own w' W.heap.size v (csI m) ∧ Ext W w') := Lib.hid (fun b cap W ho => by
      have cr := implRowSums_any (some ⟨b, 0, none⟩) cap (tr m) W (by rw [hts.1]; omega) (fun r hr => by rw [hts.2 r hr]; omega) ho.gridAt
      rw [hts.1] at cr
      rw [HP.out]
      exact cr)
    obtain ⟨k, hk⟩ : ∃ k, (m.headD []).length = k := ⟨_, rfl⟩
    rw [hk] at ct2 HCR
    clear ct hr hx h hs h1 h2 h3 h4 hts hk HP
    go_enter Try.func9, Try.ntmps9
    go_wp2_with fail
    refine ct2.mono ?_
    rintro e w1 ⟨b, cap, rfl, ho, he⟩
    have HO := Lib.hid ho
    have HE := Lib.hid he
    clear ho he ct2
    go_wp2_with fail
    refine (HCR.out b cap w1 HO.out).mono ?_
    rintro e w2 ⟨v, rfl, ho, he⟩
    have HO2 := Lib.hid (ho.base HE.out.size)
    have HE2 := Lib.hid (HE.out.trans he)
    clear ho he
    go_wp2
    go_ret
    exact ⟨_, rfl, HO2.out, HE2.out⟩


end Go.Proofs.Ytlhjbpachpjpkaa
