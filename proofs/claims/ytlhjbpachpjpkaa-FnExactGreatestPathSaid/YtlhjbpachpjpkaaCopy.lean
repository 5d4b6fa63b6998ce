/- Copies of grids, empty grids. -/
import Derived.Test.YtlhjbpachpjpkaaOwn
namespace Go.Proofs.Ytlhjbpachpjpkaa
open Go.RowKit

theorem copyInts_any (A : Option Addr) (c : Nat) (xs : List Int) (w : World) (hl : xs.length ≤ 1000000) (h0 : 0 < xs.length) (hx : Ints w A xs) :
    Calls Try.prog 50 #[.slice A xs.length c] w fun e w' => ∃ g cap, e = .returned (.slice (some ⟨g, 0, none⟩) xs.length cap) ∧ Own w' w.heap.size (.slice (some ⟨g, 0, none⟩) xs.length cap) xs ∧ Ext w w' := by
  obtain ⟨b, o, _, rfl, _⟩ := hx.at_ (show 0 < xs.length by omega)
  go_enter Try.func50, Try.ntmps50
  go_wp2_with (at_builtin; refine app_ints (xs := []) (Own.nil w w.heap.size) (Nat.le_refl _) (by simpa using hl) h0 hx rfl _ _ rfl rfl rfl ?_)
  intro g cap w' hown hb _ _
  go_wp2
  go_ret
  exact ⟨_, _, rfl, hown, hb w (Ext.refl w)⟩

set_option maxHeartbeats 2000000 in
theorem copyGrid_any (A : Option Addr) (c : Nat) (g : List (List Int)) (w : World) (hl : g.length ≤ 1000000) (h0 : 0 < g.length) (hr : ∀ r ∈ g, 1 ≤ r.length ∧ r.length ≤ 1000000) (hx : GridAt w A g) :
    Calls Try.prog 40 #[.slice A g.length c] w fun e w' => ∃ b cap, e = .returned (.slice (some ⟨b, 0, none⟩) g.length cap) ∧ OwnGrid w' w.heap.size (.slice (some ⟨b, 0, none⟩) g.length cap) g ∧ Ext w w' := by
  go_enter Try.func40, Try.ntmps40
  go_wp2
  go_loopw [3, 8, 5] (fun v i _ wr => ∃ k : Nat, k ≤ g.length ∧ i = .int .i64 k ∧ Hid (OwnGrid wr w.heap.size v (g.take k)) ∧ Hid (Ext w wr)) (fun _ i _ _ => g.length - (intOf i).toNat)
  case atStart => exact ⟨0, Nat.zero_le _, rfl, Lib.hid (OwnGrid.nil _ _), Lib.hid (Ext.refl w)⟩
  case round =>
    obtain ⟨k, hk, rfl, ho, he⟩ := hrel
    by_cases hlt : k < g.length
    · obtain ⟨b, o, R, c', r, rfl, hb, HX, hcell, hri⟩ := (hx.ext he.out).at_ hlt
      obtain ⟨hr1, hr2⟩ := hr r (List.mem_of_getElem? HX.out)
      clear hx hr
      have hB : w.heap.size ≤ wr.heap.size := he.out.size
      have hlen : (g.take k).length = k := by rw [List.length_take]; omega
      go_wp2_with fail
      refine (copyInts_any R c' r wr hr2 hr1 hri).mono ?_
      rintro e w1 ⟨q, cap1, rfl, hown, he1⟩
      have HO := Lib.hid hown
      have HE := Lib.hid he1
      clear hown he1 hcell hri
      go_wp2_with (at_builtin; refine app_row ho.out (HE.out.alloc _) hB (HO.out.ext ((Ext.refl w1).alloc _)) (by rw [hlen]; omega) (by simp) rfl _ _ rfl rfl rfl ?_)
      intro b2 cap2 w2 ho2 hb2
      have HN : Hid (OwnGrid w2 w.heap.size (.slice (some ⟨b2, 0, none⟩) (k + 1) cap2) (g.take (k + 1))) := Lib.hid (by rw [take_succ_of HX.out]; exact ho2)
      have HE2 : Hid (Ext w w2) := Lib.hid (hb2 w ((he.out.trans HE.out).alloc _))
      clear ho2 hb2
      go_wp2
      go_roundw
      case rel => exact ⟨k + 1, by omega, by go_num, HN, HE2⟩
      case measure => simp [intOf]; omega
    · obtain rfl : k = g.length := by omega
      have ho' := ho.out
      rw [take_full] at ho'
      obtain ⟨b, cap, rfl, _, _⟩ := ho'.form h0
      have HO := Lib.hid ho'
      clear ho' ho
      go_wp2
      go_ret
      exact ⟨_, _, rfl, HO.out, he.out⟩

set_option maxHeartbeats 2000000 in
theorem l02Copy_any (A : Option Addr) (c : Nat) (g : List (List Int)) (w : World) (hl : g.length ≤ 1000000) (h0 : 0 < g.length) (hr : ∀ r ∈ g, 1 ≤ r.length ∧ r.length ≤ 1000000) (hx : GridAt w A g) :
    Calls Try.prog 79 #[.slice A g.length c] w fun e w' => ∃ b cap, e = .returned (.slice (some ⟨b, 0, none⟩) g.length cap) ∧ OwnGrid w' w.heap.size (.slice (some ⟨b, 0, none⟩) g.length cap) g ∧ Ext w w' := by
  go_enter Try.func79, Try.ntmps79
  go_wp2
  go_loopw [3, 9, 5] (fun v i _ wr => ∃ k : Nat, k ≤ g.length ∧ i = .int .i64 k ∧ Hid (OwnGrid wr w.heap.size v (g.take k)) ∧ Hid (Ext w wr)) (fun _ i _ _ => g.length - (intOf i).toNat)
  case atStart => exact ⟨0, Nat.zero_le _, rfl, Lib.hid (OwnGrid.empty _ _ (Nat.le_refl _)), Lib.hid ((Ext.refl w).alloc _)⟩
  case round =>
    obtain ⟨k, hk, rfl, ho, he⟩ := hrel
    by_cases hlt : k < g.length
    · obtain ⟨b, o, R, c', r, rfl, hb, HX, hcell, hri⟩ := (hx.ext he.out).at_ hlt
      obtain ⟨hr1, hr2⟩ := hr r (List.mem_of_getElem? HX.out)
      clear hx hr
      have hB : w.heap.size ≤ wr.heap.size := he.out.size
      have hlen : (g.take k).length = k := by rw [List.length_take]; omega
      obtain ⟨b0, o0, _, rfl, _⟩ := hri.at_ (show 0 < r.length by omega)
      have hrA : Ints (wr.alloc (.cells #[] 3)) (some ⟨b0, o0, none⟩) r := hri.ext ((Ext.refl wr).alloc _)
      have HA := Lib.hid hrA
      clear hri hrA
      go_wp2_with (first | (at_builtin; refine app_ints (xs := []) (Own.empty wr wr.heap.size (Nat.le_refl _)) (by simp) (by simpa using hr2) hr1 HA.out rfl _ _ rfl rfl rfl ?_))
      intro q cap1 w1 hown hbe _ _
      have HO := Lib.hid hown
      have HE : Hid (Ext wr w1) := Lib.hid (hbe wr ((Ext.refl wr).alloc _))
      clear hown hbe hcell
      go_wp2_with (at_builtin; refine app_row ho.out (HE.out.alloc _) hB (HO.out.ext ((Ext.refl w1).alloc _)) (by rw [hlen]; omega) (by simp) rfl _ _ rfl rfl rfl ?_)
      intro b2 cap2 w2 ho2 hb2
      have HN : Hid (OwnGrid w2 w.heap.size (.slice (some ⟨b2, 0, none⟩) (k + 1) cap2) (g.take (k + 1))) := Lib.hid (by rw [take_succ_of HX.out]; exact ho2)
      have HE2 : Hid (Ext w w2) := Lib.hid (hb2 w ((he.out.trans HE.out).alloc _))
      clear ho2 hb2
      go_wp2
      go_roundw
      case rel => exact ⟨k + 1, by omega, by go_num, HN, HE2⟩
      case measure => simp [intOf]; omega
    · obtain rfl : k = g.length := by omega
      have ho' := ho.out
      rw [take_full] at ho'
      obtain ⟨b, cap, rfl, _, _⟩ := ho'.form h0
      have HO := Lib.hid ho'
      clear ho' ho
      go_wp2
      go_ret
      exact ⟨_, _, rfl, HO.out, he.out⟩
set_option maxHeartbeats 2000000 in
theorem l02Copy_some (A : Option Addr) (c : Nat) (g : List (List Int)) (w : World) (hl : g.length ≤ 1000000) (hr : ∀ r ∈ g, 1 ≤ r.length ∧ r.length ≤ 1000000) (hx : GridAt w A g) :
    Calls Try.prog 79 #[.slice A g.length c] w fun e w' => ∃ v, e = .returned v ∧ OwnGrid w' w.heap.size v g ∧ Ext w w' := by
  go_enter Try.func79, Try.ntmps79
  go_wp2
  go_loopw [3, 9, 5] (fun v i _ wr => ∃ k : Nat, k ≤ g.length ∧ i = .int .i64 k ∧ Hid (OwnGrid wr w.heap.size v (g.take k)) ∧ Hid (Ext w wr)) (fun _ i _ _ => g.length - (intOf i).toNat)
  case atStart => exact ⟨0, Nat.zero_le _, rfl, Lib.hid (OwnGrid.empty _ _ (Nat.le_refl _)), Lib.hid ((Ext.refl w).alloc _)⟩
  case round =>
    obtain ⟨k, hk, rfl, ho, he⟩ := hrel
    by_cases hlt : k < g.length
    · obtain ⟨b, o, R, c', r, rfl, hb, HX, hcell, hri⟩ := (hx.ext he.out).at_ hlt
      obtain ⟨hr1, hr2⟩ := hr r (List.mem_of_getElem? HX.out)
      clear hx hr
      have hB : w.heap.size ≤ wr.heap.size := he.out.size
      have hlen : (g.take k).length = k := by rw [List.length_take]; omega
      obtain ⟨b0, o0, _, rfl, _⟩ := hri.at_ (show 0 < r.length by omega)
      have hrA : Ints (wr.alloc (.cells #[] 3)) (some ⟨b0, o0, none⟩) r := hri.ext ((Ext.refl wr).alloc _)
      have HA := Lib.hid hrA
      clear hri hrA
      go_wp2_with (first | (at_builtin; refine app_ints (xs := []) (Own.empty wr wr.heap.size (Nat.le_refl _)) (by simp) (by simpa using hr2) hr1 HA.out rfl _ _ rfl rfl rfl ?_))
      intro q cap1 w1 hown hbe _ _
      have HO := Lib.hid hown
      have HE : Hid (Ext wr w1) := Lib.hid (hbe wr ((Ext.refl wr).alloc _))
      clear hown hbe hcell
      go_wp2_with (at_builtin; refine app_row ho.out (HE.out.alloc _) hB (HO.out.ext ((Ext.refl w1).alloc _)) (by rw [hlen]; omega) (by simp) rfl _ _ rfl rfl rfl ?_)
      intro b2 cap2 w2 ho2 hb2
      have HN : Hid (OwnGrid w2 w.heap.size (.slice (some ⟨b2, 0, none⟩) (k + 1) cap2) (g.take (k + 1))) := Lib.hid (by rw [take_succ_of HX.out]; exact ho2)
      have HE2 : Hid (Ext w w2) := Lib.hid (hb2 w ((he.out.trans HE.out).alloc _))
      clear ho2 hb2
      go_wp2
      go_roundw
      case rel => exact ⟨k + 1, by omega, by go_num, HN, HE2⟩
      case measure => simp [intOf]; omega
    · obtain rfl : k = g.length := by omega
      have ho' := ho.out
      rw [take_full] at ho'
      have HO := Lib.hid ho'
      clear ho' ho
      go_wp2
      go_ret
      exact ⟨_, rfl, HO.out, he.out⟩

theorem new_cell {W : World} {v : Value} {t : TypeId} {n : Nat} (h : n = W.heap.size) : (W.alloc (.cells #[v] t)).cell? ⟨n, 0, none⟩ = some v := by subst h; simp

theorem own_zeros (w : World) (n : Nat) (hn : n ≤ 1000000) : Own (w.alloc (.cells (madeCells #[.int .i64 0] n) 3)) w.heap.size (.slice (some ⟨w.heap.size, 0, none⟩) n n) (List.replicate n 0) := by
  have h := World.ownsRow_lit (base := w.heap.size) (e := 3) (size := 1) w (madeCells #[.int .i64 0] n) n (Nat.le_refl _) (by unfold maxLen; omega) (by rw [size_madeCells]; omega)
  unfold Own
  rw [List.length_replicate, List.map_replicate]
  rw [toList_madeCells_one] at h
  exact h

set_option maxHeartbeats 2000000 in
theorem newGrid_any (rows cols : Nat) (w : World) (h0 : 1 ≤ rows) (h1 : rows ≤ 1000) (h2 : 1 ≤ cols) (h3 : cols ≤ 1000) :
    Calls Try.prog 49 #[.int .i64 rows, .int .i64 cols] w fun e w' => ∃ b cap, e = .returned (.slice (some ⟨b, 0, none⟩) rows cap) ∧ OwnGrid w' w.heap.size (.slice (some ⟨b, 0, none⟩) rows cap) (List.replicate rows (List.replicate cols 0)) ∧ Ext w w' := by
  have hmk := run_make_row' (P := Try.prog) 28 3 (.int .i64 0) 8 Try.underlying28 infoInt rfl .i64 .i64 cols (by omega) (by omega)
  go_enter Try.func49, Try.ntmps49
  go_wp2
  go_loopw [5, 6] (fun v i wr => ∃ k : Nat, k ≤ rows ∧ i = .int .i64 k ∧ Hid (OwnGrid wr w.heap.size v (List.replicate k (List.replicate cols 0))) ∧ Hid (Ext w wr)) (fun _ i _ => rows - (intOf i).toNat)
  case atStart => exact ⟨0, Nat.zero_le _, rfl, Lib.hid (OwnGrid.nil _ _), Lib.hid (Ext.refl w)⟩
  case round =>
    obtain ⟨k, hk, rfl, ho, he⟩ := hrel
    by_cases hlt : k < rows
    · have hB : w.heap.size ≤ wr.heap.size := he.out.size
      have hc3 : cols ≤ 1000000 := by omega
      have HZ := Lib.hid ((own_zeros wr cols hc3).ext ((Ext.refl _).alloc (.cells #[.slice (some ⟨wr.heap.size, 0, none⟩) cols cols] 28)))
      have HY : Hid (((wr.alloc (.cells (madeCells #[.int .i64 0] cols) 3)).alloc (.cells #[.slice (some ⟨wr.heap.size, 0, none⟩) cols cols] 28)).cell? ⟨wr.heap.size + 1, 0, none⟩ = some (.slice (some ⟨wr.heap.size, 0, none⟩) cols cols)) := Lib.hid (new_cell (by simp))
      have hrl : (List.replicate k (List.replicate cols (0 : Int))).length ≤ 1000000 := by rw [List.length_replicate]; omega
      have HRL := Lib.hid hrl
      clear hrl
      go_wp2_with (at_builtin; refine app_row ho.out (((Ext.refl wr).alloc _).alloc _) hB HZ.out HRL.out HY.out rfl _ _ rfl rfl rfl ?_)
      intro b2 cap2 w2 ho2 hb2
      have HN : Hid (OwnGrid w2 w.heap.size (.slice (some ⟨b2, 0, none⟩) (k + 1) cap2) (List.replicate (k + 1) (List.replicate cols 0))) := Lib.hid (by rw [List.replicate_succ']; simpa using ho2)
      have HE2 : Hid (Ext w w2) := Lib.hid (hb2 w ((he.out.alloc _).alloc _))
      clear ho2 hb2
      go_wp2
      go_roundw
      case rel => exact ⟨k + 1, by omega, by go_num, HN, HE2⟩
      case measure => simp [intOf]; omega
    · obtain rfl : k = rows := by omega
      obtain ⟨b, cap, rfl, _, _⟩ := ho.out.form (by rw [List.length_replicate]; omega)
      have HO := ho
      clear ho hmk
      go_wp2
      go_ret
      exact ⟨b, cap, by simp, by simpa using HO.out, he.out⟩

set_option maxHeartbeats 2000000 in
theorem l02Empty_any (rows cols : Nat) (w : World) (h0 : 1 ≤ rows) (h1 : rows ≤ 1000) (h2 : 1 ≤ cols) (h3 : cols ≤ 1000) :
    Calls Try.prog 62 #[.int .i64 rows, .int .i64 cols] w fun e w' => ∃ b cap, e = .returned (.slice (some ⟨b, 0, none⟩) rows cap) ∧ OwnGrid w' w.heap.size (.slice (some ⟨b, 0, none⟩) rows cap) (List.replicate rows (List.replicate cols 0)) ∧ Ext w w' := by
  have hmk := run_make_row' (P := Try.prog) 28 3 (.int .i64 0) 8 Try.underlying28 infoInt rfl .i64 .i64 cols (by omega) (by omega)
  go_enter Try.func62, Try.ntmps62
  go_wp2
  go_loopw [5, 6] (fun v i wr => ∃ k : Nat, k ≤ rows ∧ i = .int .i64 k ∧ Hid (OwnGrid wr w.heap.size v (List.replicate k (List.replicate cols 0))) ∧ Hid (Ext w wr)) (fun _ i _ => rows - (intOf i).toNat)
  case atStart => exact ⟨0, Nat.zero_le _, rfl, Lib.hid (OwnGrid.empty _ _ (Nat.le_refl _)), Lib.hid ((Ext.refl w).alloc _)⟩
  case round =>
    obtain ⟨k, hk, rfl, ho, he⟩ := hrel
    by_cases hlt : k < rows
    · have hB : w.heap.size ≤ wr.heap.size := he.out.size
      have hc3 : cols ≤ 1000000 := by omega
      have HZ := Lib.hid ((own_zeros wr cols hc3).ext ((Ext.refl _).alloc (.cells #[.slice (some ⟨wr.heap.size, 0, none⟩) cols cols] 28)))
      have HY : Hid (((wr.alloc (.cells (madeCells #[.int .i64 0] cols) 3)).alloc (.cells #[.slice (some ⟨wr.heap.size, 0, none⟩) cols cols] 28)).cell? ⟨wr.heap.size + 1, 0, none⟩ = some (.slice (some ⟨wr.heap.size, 0, none⟩) cols cols)) := Lib.hid (new_cell (by simp))
      have hrl : (List.replicate k (List.replicate cols (0 : Int))).length ≤ 1000000 := by rw [List.length_replicate]; omega
      have HRL := Lib.hid hrl
      clear hrl
      go_wp2_with (at_builtin; refine app_row ho.out (((Ext.refl wr).alloc _).alloc _) hB HZ.out HRL.out HY.out rfl _ _ rfl rfl rfl ?_)
      intro b2 cap2 w2 ho2 hb2
      have HN : Hid (OwnGrid w2 w.heap.size (.slice (some ⟨b2, 0, none⟩) (k + 1) cap2) (List.replicate (k + 1) (List.replicate cols 0))) := Lib.hid (by rw [List.replicate_succ']; simpa using ho2)
      have HE2 : Hid (Ext w w2) := Lib.hid (hb2 w ((he.out.alloc _).alloc _))
      clear ho2 hb2
      go_wp2
      go_roundw
      case rel => exact ⟨k + 1, by omega, by go_num, HN, HE2⟩
      case measure => simp [intOf]; omega
    · obtain rfl : k = rows := by omega
      obtain ⟨b, cap, rfl, _, _⟩ := ho.out.form (by rw [List.length_replicate]; omega)
      have HO := ho
      clear ho hmk
      go_wp2
      go_ret
      exact ⟨b, cap, by simp, by simpa using HO.out, he.out⟩
end Go.Proofs.Ytlhjbpachpjpkaa
