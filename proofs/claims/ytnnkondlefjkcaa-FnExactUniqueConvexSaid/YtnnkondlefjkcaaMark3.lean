/- Marks: lists of images. -/
import Derived.Test.YtnnkondlefjkcaaMark4
import Derived.Test.YtnnkondlefjkcaaLeast
namespace Go.Proofs.Ytnnkondlefjkcaa
open Go.RowKit Tomo

def GsBound (gs : List Grid) : Prop := gs.length ≤ 1000000000 ∧ (∀ g ∈ gs, GBound g) ∧ totals gs ≤ 1000000000
theorem totals_le {gs : List Grid} {M : Nat} (h : ∀ g ∈ gs, total g ≤ M) : totals gs ≤ gs.length * M := by
  induction gs with
  | nil => simp [totals]
  | cons g gs ih =>
    have h1 := ih (fun g hg => h g (List.mem_cons_of_mem _ hg))
    have h2 := h g List.mem_cons_self
    unfold totals at *
    rw [List.map_cons, List.sum_cons, List.length_cons, Nat.add_mul, Nat.one_mul]; omega
theorem img_total {g : Grid} {n k : Nat} (h : Img g n k) : total g ≤ 25 := by
  have h2 := h.2.1.2
  have h3 := h.2.2.1.2
  have key : ∀ l : Grid, (∀ r ∈ l, r.length ≤ 5) → total l ≤ l.length * 5 := by
    intro l
    induction l with
    | nil => intro _; simp [total]
    | cons r l ih =>
      intro hl
      have i1 := ih (fun r hr => hl r (List.mem_cons_of_mem _ hr))
      have i2 := hl r List.mem_cons_self
      unfold total at *
      rw [List.map_cons, List.sum_cons, List.length_cons, Nat.add_mul, Nat.one_mul]; omega
  have h4 := key g (fun r hr => by rw [h.1.2 r hr]; exact h3)
  have h5 := h.1.1
  have h6 : g.length * 5 ≤ 5 * 5 := Nat.mul_le_mul_right 5 (by omega)
  omega
theorem allI_bound (rows cols : List Int) : GsBound (allI rows cols) := by
  have h1 := allI_len rows cols
  have h2 := totals_le (gs := allI rows cols) (M := 25) (fun g hg => img_total (allI_img hg))
  have h3 : (allI rows cols).length * 25 ≤ 33554432 * 25 := Nat.mul_le_mul_right 25 h1
  exact ⟨by omega, fun g hg => img_bound (allI_img hg), by omega⟩
theorem nils_bound : GsBound [] := ⟨by simp, (fun g hg => by cases hg), by simp [totals]⟩

theorem OwnGrid.rowVal_same {w w' : World} {B : Nat} {u p : Value} {g : Grid} (h : OwnGrid w B u g) (k : Same 30 w w') (hp : RowVal w' u p) : RowVal w u p := by
  refine hp.bwd fun b hb => ?_
  obtain ⟨us1, k1, k2, _⟩ := h
  rcases k2.2 with ⟨hv, _⟩ | ⟨g1, cap, cur, hv, _, hg1, _⟩
  · rw [hv] at hb; cases hb
  · rw [hv] at hb
    have e : g1 = b := by simpa [Value.ownBlock] using hb
    subst e
    exact (k _ _ _ hg1).trans hg1.symm
theorem OwnGridsIn.setGrid {w w' : World} {lo hi b n c : Nat} {gs : List Grid} {u : Value} {g g' : Grid} {i : Nat} (h : OwnGridsIn w lo hi (.slice (some ⟨b, 0, none⟩) n c) gs) (hg : gs[i]? = some g) (hc : w.cell? ⟨b, i, none⟩ = some u) (ho : OwnGrid w' lo u g') (hon : Only w w' fun k => ∃ p, RowVal w u p ∧ p.ownBlock = some k) :
    OwnGridsIn w' lo hi (.slice (some ⟨b, 0, none⟩) n c) (gs.set i g') ∧ Only w w' (fun k => lo ≤ k ∧ k < hi) := by
  obtain ⟨h1, h2, h3⟩ := h
  obtain ⟨k1, k2, k3⟩ := h1.setGrid hg hc ho hon
  have hi' : i < n := by
    have := (List.getElem?_eq_some_iff.1 hg).1
    obtain ⟨us, q1, q2, _⟩ := h1
    rcases q2.2 with ⟨hv, _⟩ | ⟨_, _, _, hv, _⟩ <;> cases hv
    exact this
  have hru : RowVal w (.slice (some ⟨b, 0, none⟩) n c) u := ⟨b, n, c, i, rfl, hi', hc⟩
  refine ⟨⟨k1, h2, fun u' hu' => ?_⟩, hon.mono fun k ⟨p, hp, hk⟩ => ?_⟩
  · have hu0 := RowVal.back k2 hu'
    obtain ⟨_, g1, _, ho1⟩ := h1.imgVal hu0
    exact ⟨(h3 u' hu0).1, fun p hp => (h3 u' hu0).2 p (ho1.rowVal_same k3 hp)⟩
  · obtain ⟨_, g1, _, ho1⟩ := h1.imgVal hru
    exact ⟨(ho1.rowVal_lt hp hk).1, (h3 u hru).2 p hp k hk⟩

set_option maxHeartbeats 2000000 in
theorem markIntSSS_in_of {A : Option Addr} {n c lo hi : Nat} {gs : List Grid} {k : Int} {w : World} (K : Nat) (hk : k = K) (hK : K ≤ 100000000000) (hn : n ≤ 1000000000) (hg : totals gs ≤ 1000000000) (hgl : ∀ g ∈ gs, g.length ≤ 1000000000) (ho : OwnGridsIn w lo hi (.slice A n c) gs) :
    Calls Try.prog 50 #[.slice A n c, .int .i64 k] w fun e w' => ∃ K' : Nat, e = .returned (.int .i64 K') ∧ Hid (K' = K + totals gs) ∧ OwnGridsIn w' lo hi (.slice A n c) (markGs K gs) ∧ Only w w' (fun b => lo ≤ b ∧ b < hi) := by
  subst hk
  have HL : Hid (n = gs.length) := Lib.hid ho.1.len
  have HO := Lib.hid ho
  have HGL := Lib.hid hgl
  have HTT := Lib.hid (totals_take_le gs)
  obtain ⟨T, hT⟩ : ∃ T, totals gs = T := ⟨_, rfl⟩
  rw [hT] at hg HTT ⊢
  have HT := Lib.hid hT
  clear ho hT hgl
  go_enter Try.func50, Try.ntmps50
  go_wp2
  go_loopw [5, 1] (fun i t wr => ∃ (j s : Nat), j ≤ n ∧ s ≤ T ∧ i = .int .i64 j ∧ t = .int .i64 ((K : Int) + (s : Int)) ∧ Hid (s = totals (gs.take j)) ∧ Hid (OwnGridsIn wr lo hi (.slice A n c) (markGs K (gs.take j) ++ gs.drop j)) ∧ Hid (Only w wr (fun b => lo ≤ b ∧ b < hi))) (fun i _ _ => n - (intOf i).toNat)
  case atStart => exact ⟨0, 0, Nat.zero_le _, Nat.zero_le _, rfl, by simp, Lib.hid (by simp [totals]), Lib.hid (by simpa [markGs] using HO.out), Lib.hid (Only.refl _ _)⟩
  case round =>
    obtain ⟨j, s, hj, hsT, rfl, rfl, hs, ho, hon⟩ := hrel
    by_cases hlt : j < n
    · have hgj : gs[j]? = some (gs[j]'(by rw [← HL.out]; exact hlt)) := List.getElem?_eq_getElem _
      generalize gs[j]'(by rw [← HL.out]; exact hlt) = g at hgj
      have hmr : (markGs (K : Int) (gs.take j) ++ gs.drop j)[j]? = some g := mark_read (by rw [markGs_length, List.length_take, ← HL.out]; omega) hgj
      obtain ⟨b, u, hA, _, _, hcu, hou⟩ := ho.out.1.elt hmr
      subst hA
      obtain ⟨Au, cu, rfl, _⟩ := hou.slice
      have hsum : totals (gs.take (j + 1)) = s + total g := by rw [take_succ_of hgj, totals_snoc, hs.out]
      have hle := HTT.out (j + 1)
      rw [hsum] at hle
      have hgn : g.length ≤ 1000000000 := HGL.out g (List.mem_of_getElem? hgj)
      have cm := markIntSS_any Au g.length cu lo g ((K : Int) + (s : Int)) wr (by omega) hgn (by omega) hou
      have HNX : Hid (∀ w', OwnGrid w' lo (.slice Au g.length cu) (markG ((K : Int) + (s : Int)) g) → Only wr w' (fun b => ∃ p, RowVal wr (.slice Au g.length cu) p ∧ p.ownBlock = some b) → OwnGridsIn w' lo hi (.slice (some ⟨b, 0, none⟩) n c) (markGs K (gs.take (j + 1)) ++ gs.drop (j + 1)) ∧ Only w w' (fun i => lo ≤ i ∧ i < hi)) := Lib.hid (fun w' h1 h2 => by
        obtain ⟨q1, q2⟩ := ho.out.setGrid hmr hcu h1 h2
        rw [mark_step (by rw [markGs_length, List.length_take, ← HL.out]; omega) hgj] at q1
        refine ⟨?_, hon.out.trans q2⟩
        rw [take_succ_of hgj, markGs_snoc, ← hs.out]
        exact q1)
      clear ho hon hou hmr
      have HS : Hid (s + total g = totals (gs.take (j + 1))) := Lib.hid hsum.symm
      clear hsum
      obtain ⟨tg, htg⟩ : ∃ t, total g = t := ⟨_, rfl⟩
      rw [htg] at cm HS hle
      go_wp2_with fail
      refine cm.mono ?_
      rintro e w1 ⟨rfl, h1, h2⟩
      obtain ⟨k1, k2⟩ := HNX.out w1 h1 h2
      have HK1 := Lib.hid k1
      have HK2 := Lib.hid k2
      clear h1 h2 k1 k2 HNX
      go_wp2
      go_roundw
      case rel => exact ⟨j + 1, s + tg, by omega, hle, by go_num, by simp; omega, HS, HK1, HK2⟩
      case measure => simp [intOf]; omega
    · obtain rfl : j = n := by omega
      have HF : Hid (OwnGridsIn wr lo hi (.slice A j c) (markGs K gs)) := Lib.hid (by
        have h := ho.out
        rw [List.drop_of_length_le (by rw [← HL.out]; omega), List.append_nil, List.take_of_length_le (by rw [← HL.out]; omega)] at h
        exact h)
      have HST : Hid (s = T) := Lib.hid (by have h := hs.out; rw [List.take_of_length_le (by rw [← HL.out]; omega), HT.out] at h; exact h)
      go_wp2
      go_ret
      exact ⟨K + s, ret_int (by simp), Lib.hid (by rw [HST.out]), HF.out, hon.out⟩

set_option maxHeartbeats 2000000 in
theorem heldIntSSS_in_of {A : Option Addr} {n c lo hi : Nat} {gs : List Grid} {k : Int} {w : World} (K : Nat) (hk : k = K) (hK : K ≤ 100000000000) (hn : n ≤ 1000000000) (hg : totals gs ≤ 1000000000) (hgl : ∀ g ∈ gs, g.length ≤ 1000000000) (ho : OwnGridsIn w lo hi (.slice A n c) (markGs K gs)) :
    Calls Try.prog 51 #[.slice A n c, .int .i64 k] w fun e w' => ∃ K' : Nat, e = .returned (.int .i64 K') ∧ Hid (K' = K + totals gs) ∧ w = w' := by
  subst hk
  have HL : Hid (n = gs.length) := Lib.hid (by rw [ho.1.len, markGs_length])
  have HO := Lib.hid ho.1
  have HGL := Lib.hid hgl
  have HTT := Lib.hid (totals_take_le gs)
  obtain ⟨T, hT⟩ : ∃ T, totals gs = T := ⟨_, rfl⟩
  rw [hT] at hg HTT ⊢
  have HT := Lib.hid hT
  clear ho hT hgl
  go_enter Try.func51, Try.ntmps51
  go_wp2
  go_loopw [5, 1] (fun i t wr => ∃ (j s : Nat), j ≤ n ∧ s ≤ T ∧ i = .int .i64 j ∧ t = .int .i64 ((K : Int) + (s : Int)) ∧ wr = w ∧ Hid (s = totals (gs.take j))) (fun i _ _ => n - (intOf i).toNat)
  case atStart => exact ⟨0, 0, Nat.zero_le _, Nat.zero_le _, rfl, by simp, rfl, Lib.hid (by simp [totals])⟩
  case round =>
    obtain ⟨j, s, hj, hsT, rfl, rfl, rfl, hs⟩ := hrel
    by_cases hlt : j < n
    · have hgj : gs[j]? = some (gs[j]'(by rw [← HL.out]; exact hlt)) := List.getElem?_eq_getElem _
      generalize gs[j]'(by rw [← HL.out]; exact hlt) = g at hgj
      have hmr := markGs_at (K : Int) gs j g hgj
      rw [← hs.out] at hmr
      obtain ⟨b, u, rfl, _, _, hcu, hou⟩ := HO.out.elt hmr
      obtain ⟨Au, cu, rfl, _⟩ := hou.slice
      rw [markG_length] at hcu hou
      have hsum : totals (gs.take (j + 1)) = s + total g := by rw [take_succ_of hgj, totals_snoc, hs.out]
      have hle := HTT.out (j + 1)
      rw [hsum] at hle
      have hgn : g.length ≤ 1000000000 := HGL.out g (List.mem_of_getElem? hgj)
      have cm := heldIntSS_any Au g.length cu lo g ((K : Int) + (s : Int)) wr (by omega) hgn (by omega) hou
      have HS : Hid (s + total g = totals (gs.take (j + 1))) := Lib.hid hsum.symm
      obtain ⟨tg, htg⟩ : ∃ t, total g = t := ⟨_, rfl⟩
      rw [htg] at cm HS hle
      clear hsum hmr hou htg
      go_wp2_with fail
      refine cm.mono ?_
      rintro e w' ⟨rfl, rfl⟩
      go_wp2
      go_roundw
      case rel => exact ⟨j + 1, s + tg, by omega, hle, by go_num, by simp; omega, trivial, HS⟩
      case measure => simp [intOf]; omega
    · obtain rfl : j = n := by omega
      have HST : Hid (s = T) := Lib.hid (by have h := hs.out; rw [List.take_of_length_le (by rw [← HL.out]; omega), HT.out] at h; exact h)
      go_wp2
      go_ret
      exact ⟨K + s, ret_int (by simp), Lib.hid (by rw [HST.out]), rfl⟩

set_option maxHeartbeats 2000000 in
theorem eqIntSSS_same (A B : Option Addr) (ca cb : Nat) (gs : List Grid) (w : World) (hb : GsBound gs) {b1 b2 : Nat} (hx : OwnGrids w b1 (.slice A gs.length ca) gs) (hy : OwnGrids w b2 (.slice B gs.length cb) gs) :
    Calls Try.prog 49 #[.slice A gs.length ca, .slice B gs.length cb] w fun e w' => e = .returned (.bool true) ∧ Drew w w' := by
  have HX := Lib.hid hx
  have HY := Lib.hid hy
  have HB := Lib.hid hb.2.1
  have hgl := hb.1
  clear hx hy hb
  go_enter Try.func49, Try.ntmps49
  go_wp2
  go_loopw [5] (fun i wr => ∃ k : Nat, k ≤ gs.length ∧ i = .int .i64 k ∧ Hid (Drew w wr)) (fun i _ => gs.length - (intOf i).toNat)
  case atStart => exact ⟨0, Nat.zero_le _, rfl, Lib.hid (Drew.refl w)⟩
  case round =>
    obtain ⟨k, hk, rfl, hd⟩ := hrel
    by_cases hlt : k < gs.length
    · have hgk : gs[k]? = some gs[k] := List.getElem?_eq_getElem hlt
      generalize gs[k] = g at hgk
      obtain ⟨hg1, hg2, _⟩ := HB.out g (List.mem_of_getElem? hgk)
      obtain ⟨b, u, rfl, _, _, hcu, hou⟩ := (HX.out.ext hd.out.ext).elt hgk
      obtain ⟨Au, cu, rfl, _⟩ := hou.slice
      obtain ⟨b', u', rfl, _, _, hcu', hou'⟩ := (HY.out.ext hd.out.ext).elt hgk
      obtain ⟨Au', cu', rfl, _⟩ := hou'.slice
      have HO := Lib.hid hou
      have HO' := Lib.hid hou'
      clear hou hou' hgk
      go_wp2
      go_quiet ((go_at_call 19; refine Calls.quiet_of (eqIntSS_same _ _ _ _ g _ hg1 hg2 ((HO.out.ext ((Ext.refl _).drewN _)).gridAt) ((HO'.out.ext ((Ext.refl _).drewN _)).gridAt))))
      go_wp2
      go_roundw
      case rel => exact ⟨k + 1, by omega, by go_num, Lib.hid (hd.out.drewN _)⟩
      case measure => simp [intOf]; omega
    · obtain rfl : k = gs.length := by omega
      go_wp2
      go_ret
      exact ⟨rfl, hd.out⟩
end Go.Proofs.Ytnnkondlefjkcaa
