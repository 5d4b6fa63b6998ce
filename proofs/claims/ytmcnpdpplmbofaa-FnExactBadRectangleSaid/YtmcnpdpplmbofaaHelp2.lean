/- The laws' own helpers for slices of slices: copies, comparisons, sizes. -/
import Derived.Test.YtmcnpdpplmbofaaHelp1
namespace Go.Proofs.Ytmcnpdpplmbofaa
open Go.RowKit

theorem NewInts.at_ {w w' : World} {xs : List Int} (h : NewInts w w' xs) : Ints w' (some ⟨w.heap.size, 0, none⟩) xs := h.row.ints

/-- a new slice of slices: its own row, and behind it a block a row -/
structure NewGrid (w w' : World) (g : List (List Int)) : Prop where
  top : w'.rowIs w.heap.size 23 g.length (fun i => .slice (some ⟨w.heap.size + 1 + i, 0, none⟩) (g[i]?.getD []).length (g[i]?.getD []).length)
  rows : ∀ i, i < g.length → IntRow w' (w.heap.size + 1 + i) (g[i]?.getD [])
  ext : Ext w w'
  size : w'.heap.size = w.heap.size + 1 + g.length

theorem NewGrid.at_ {w w' : World} {g : List (List Int)} (h : NewGrid w w' g) : GridAt w' (some ⟨w.heap.size, 0, none⟩) g := fun k r hk => by
  have hlt : k < g.length := by
    rcases Nat.lt_or_ge k g.length with h1 | h1
    · exact h1
    · rw [List.getElem?_eq_none h1] at hk; cases hk
  have h1 := h.top.cell hlt
  have h2 := (h.rows k hlt).ints
  rw [hk] at h1 h2
  exact ⟨w.heap.size, 0, _, _, rfl, h.top.lt, by simpa using h1, Nat.le_refl _, h2⟩

def szOf (n : Nat) (left : Int) : Int := if left < n then -1 else left - n
theorem szIntS_any (A : Option Addr) (cap n : Nat) (left : Int) (w : World) (hn : n ≤ 9223372036854775807) (h0 : 0 ≤ left) (h1 : left ≤ 1048576) :
    Calls Try.prog 14 #[.slice A n cap, .int .i64 left] w fun e w' => e = .returned (.int .i64 (szOf n left)) ∧ w = w' := by
  by_cases h : left < n
  · have hs : szOf n left = -1 := by simp [szOf, h]
    have HS := Lib.hid hs; clear hs
    have h2 : left - (n : Int) < 0 := by omega
    go_enter Try.func14, Try.ntmps14
    go_wp2
    go_ret
    exact ⟨ret_int HS.out.symm, rfl⟩
  · have hs : szOf n left = left - n := by simp [szOf, h]
    have HS := Lib.hid hs; clear hs
    have h2 : ¬ left - (n : Int) < 0 := by omega
    go_enter Try.func14, Try.ntmps14
    go_wp2
    go_ret
    exact ⟨ret_int HS.out.symm, rfl⟩

/-- the number of rows and of all elements -/
def szGrid (g : List (List Int)) : Nat := g.length + (g.map List.length).sum
def szRows (g : List (List Int)) (k : Nat) : Nat := ((g.take k).map List.length).sum
theorem szRows_succ {g : List (List Int)} {k : Nat} {r : List Int} (h : g[k]? = some r) : szRows g (k + 1) = szRows g k + r.length := by
  unfold szRows
  rw [take_succ_of h, List.map_append, List.sum_append]; simp
theorem szRows_le (g : List (List Int)) (k : Nat) : szRows g k ≤ (g.map List.length).sum := by
  unfold szRows
  conv => rhs; rw [← List.take_append_drop k g, List.map_append, List.sum_append]
  omega
theorem sz_len (g : List (List Int)) : g.length ≤ szGrid g := by unfold szGrid; omega
theorem sz_row (g : List (List Int)) : ∀ r ∈ g, r.length ≤ szGrid g := by
  have key : ∀ g : List (List Int), ∀ r ∈ g, r.length ≤ (g.map List.length).sum := by
    intro g
    induction g with
    | nil => intro r hr; cases hr
    | cons x g ih =>
      intro r hr
      rw [List.map_cons, List.sum_cons]
      rcases List.mem_cons.1 hr with rfl | h
      · omega
      · have := ih r h; omega
  intro r hr
  have := key g r hr
  unfold szGrid; omega

set_option maxHeartbeats 1000000 in
theorem szIntSS_any (A : Option Addr) (cap : Nat) (g : List (List Int)) (left : Int) (w : World) (hl : g.length ≤ 9223372036854775807) (hr : ∀ r ∈ g, r.length ≤ 9223372036854775807) (h0 : 0 ≤ left) (h1 : left ≤ 1048576) (hx : GridAt w A g) :
    Calls Try.prog 4 #[.slice A g.length cap, .int .i64 left] w fun e w' => e = .returned (.int .i64 (szOf (szGrid g) left)) ∧ w = w' := by
  have hsz : szGrid g = g.length + (g.map List.length).sum := rfl
  have HSZ := Lib.hid hsz; clear hsz
  by_cases h : left < g.length
  · have hs : szOf (szGrid g) left = -1 := by have := sz_len g; unfold szOf; rw [if_pos (by omega)]
    have HS := Lib.hid hs; clear hs
    have h2 : left - (g.length : Int) < 0 := by omega
    go_enter Try.func4, Try.ntmps4
    go_wp2_with fail
    go_ret
    exact ⟨ret_int HS.out.symm, rfl⟩
  · have h2 : ¬ left - (g.length : Int) < 0 := by omega
    go_enter Try.func4, Try.ntmps4
    go_wp2_with fail
    go_loop [1, 5] (fun l i => ∃ (k : Nat) (s : Int), k ≤ g.length ∧ i = .int .i64 k ∧ l = .int .i64 s ∧ 0 ≤ s ∧ s ≤ 1048576 ∧ Hid (s = left - g.length - szRows g k)) (fun _ i => g.length - (intOf i).toNat)
    case atStart => exact ⟨0, left - g.length, Nat.zero_le _, rfl, rfl, by omega, by omega, Lib.hid (by simp [szRows])⟩
    case round =>
      obtain ⟨k, s, hk, rfl, rfl, hs0, hs1, hs⟩ := hrel
      by_cases hlt : k < g.length
      · obtain ⟨b, o, R, c, r, rfl, _, HX, hcell, _⟩ := hx.at_ hlt
        have hrl := hr r (List.mem_of_getElem? HX.out)
        clear hx hr
        by_cases hneg : s < r.length
        · have e1 : szOf r.length s = -1 := by unfold szOf; rw [if_pos hneg]
          have cz : Calls Try.prog 14 #[.slice R r.length c, .int .i64 s] w fun e w' => e = .returned (.int .i64 (-1)) ∧ w = w' := by
            rw [← e1]; exact szIntS_any R c r.length s w hrl hs0 hs1
          clear e1
          go_wp2_with (go_at_call 14; refine cz.mono ?_; rintro e w' ⟨rfl, rfl⟩)
          go_ret
          refine ⟨ret_int ?_, rfl⟩
          have a1 := hs.out
          have a2 := szRows_succ HX.out
          have a3 := szRows_le g (k + 1)
          have a4 := HSZ.out
          unfold szOf
          rw [if_pos (by omega)]
        · have e1 : szOf r.length s = s - r.length := by unfold szOf; rw [if_neg hneg]
          have cz : Calls Try.prog 14 #[.slice R r.length c, .int .i64 s] w fun e w' => e = .returned (.int .i64 (s - r.length)) ∧ w = w' := by
            rw [← e1]; exact szIntS_any R c r.length s w hrl hs0 hs1
          clear e1
          have h3 : ¬ s - (r.length : Int) < 0 := by omega
          go_wp2_with (go_at_call 14; refine cz.mono ?_; rintro e w' ⟨rfl, rfl⟩)
          go_round
          case rel => exact ⟨k + 1, s - r.length, by omega, by go_num, rfl, by omega, by omega, Lib.hid (by have := hs.out; rw [szRows_succ HX.out]; omega)⟩
          case measure => simp [intOf]; omega
      · obtain rfl : k = g.length := by omega
        go_wp2_with fail
        go_ret
        refine ⟨ret_int ?_, rfl⟩
        have a1 := hs.out
        have a4 := HSZ.out
        have a5 : szRows g g.length = (g.map List.length).sum := by unfold szRows; rw [List.take_length]
        unfold szOf
        rw [if_neg (by omega)]
        omega

set_option maxHeartbeats 1000000 in
theorem toIntSS_any (A : Option Addr) (cap : Nat) (g : List (List Int)) (w : World) (hl : g.length ≤ 1048576) (hr : ∀ r ∈ g, r.length ≤ 1048576) (hx : GridAt w A g) :
    Calls Try.prog 6 #[.slice A g.length cap] w fun e w' => e = .returned (.slice (some ⟨w.heap.size, 0, none⟩) g.length g.length) ∧ NewGrid w w' g := by
  have hmk := run_make_row' (P := Try.prog) 22 23 (.slice none 0 0) 24 Try.underlying22 infoInts rfl .i64 .i64 g.length (by omega) (by omega)
  go_enter Try.func6, Try.ntmps6
  go_wp2
  clear hmk
  go_loopw [4] (fun i wr => ∃ k : Nat, k ≤ g.length ∧ i = .int .i64 k ∧ Hid (wr.rowIs w.heap.size 23 g.length (fun i => if i < k then .slice (some ⟨w.heap.size + 1 + i, 0, none⟩) (g[i]?.getD []).length (g[i]?.getD []).length else .slice none 0 0) ∧
      (∀ i, i < k → IntRow wr (w.heap.size + 1 + i) (g[i]?.getD [])) ∧ Ext w wr ∧ wr.heap.size = w.heap.size + 1 + k)) (fun i _ => g.length - (intOf i).toNat)
  case atStart => exact ⟨0, Nat.zero_le _, rfl, Lib.hid ⟨(World.rowIs_made w (.slice none 0 0) g.length 23).congr (fun i _ => by simp), fun i hi => by omega, (Ext.refl w).alloc _, by simp⟩⟩
  case round =>
    obtain ⟨k, hk, rfl, hrel⟩ := hrel
    by_cases hlt : k < g.length
    · obtain ⟨b, o, R, c, r, rfl, hb, HX, hcell0, hrow⟩ := hx.at_ hlt
      have hrl := hr r (List.mem_of_getElem? HX.out)
      have hcell : wr.cell? ⟨b, o + k, none⟩ = some (.slice R r.length c) := (hrel.out.2.2.1.cell (p := ⟨b, o + k, none⟩) hb).trans hcell0
      have hri := hrow.ext hrel.out.2.2.1
      clear hx hr hcell0 hrow
      go_wp2_with fail
      refine (toIntS_any _ _ r _ hrl hri).mono ?_
      rintro e w1 ⟨rfl, h1⟩
      have htop := hrel.out.1.of_block (h1.ext.block _ hrel.out.1.lt)
      have hcell2 := htop.cell hlt
      have hfr := htop.frozen k
      have HT := Lib.hid htop; clear htop
      have hsz1 : wr.heap.size = w.heap.size + 1 + k := hrel.out.2.2.2
      have HZ := Lib.hid hsz1; clear hsz1
      go_wp2
      go_roundw
      case rel =>
        refine ⟨k + 1, by omega, by go_num, Lib.hid ⟨((HT.out.set k _).congr (fun i hi => ?_)), fun i hi => ?_, ?_, ?_⟩⟩
        · by_cases e : i = k
          · subst e; simp [HX.out, HZ.out]
          · by_cases e2 : i < k
            · have e3 : i < k + 1 := by omega
              simp [e, e2, e3]
            · have e3 : ¬ i < k + 1 := by omega
              simp [e, e2, e3]
        · have hne : w.heap.size + 1 + i ≠ w.heap.size := by omega
          by_cases e : i = k
          · subst e
            have := h1.row
            rw [HZ.out] at this
            rw [HX.out]
            exact World.rowIs.setOther this hne _
          · have := (hrel.out.2.1 i (by omega)).ext h1.ext
            exact World.rowIs.setOther this hne _
        · exact Below.setCell (hrel.out.2.2.1.trans h1.ext) (Nat.le_refl _) _
        · have := h1.size
          simp [this, HZ.out]; omega
      case measure => simp [intOf]; omega
    · obtain rfl : k = g.length := by omega
      go_wp2
      go_ret
      exact ⟨rfl, ⟨hrel.out.1.congr (fun i hi => by simp [hi]), hrel.out.2.1, hrel.out.2.2.1, hrel.out.2.2.2⟩⟩

set_option maxHeartbeats 1000000 in
theorem eqIntSS_same (A B : Option Addr) (ca cb : Nat) (g : List (List Int)) (w : World) (hl : g.length ≤ 1048576) (hr : ∀ r ∈ g, r.length ≤ 1048576) (hx : GridAt w A g) (hy : GridAt w B g) :
    Calls Try.prog 10 #[.slice A g.length ca, .slice B g.length cb] w fun e w' => e = .returned (.bool true) ∧ Drew w w' := by
  go_enter Try.func10, Try.ntmps10
  go_wp2
  go_loopw [5] (fun i wr => ∃ k : Nat, k ≤ g.length ∧ i = .int .i64 k ∧ Hid (Drew w wr)) (fun i _ => g.length - (intOf i).toNat)
  case atStart => exact ⟨0, Nat.zero_le _, rfl, Lib.hid (Drew.refl w)⟩
  case round =>
    obtain ⟨k, hk, rfl, hd⟩ := hrel
    by_cases hlt : k < g.length
    · obtain ⟨b, o, R, c, r, rfl, _, HX, hcell, hrow⟩ := (hx.ext hd.out.ext).at_ hlt
      obtain ⟨b', o', R', c', r', rfl, _, HX', hcell', hrow'⟩ := (hy.ext hd.out.ext).at_ hlt
      obtain rfl : r' = r := by have := HX.out.symm.trans HX'.out; injection this with this; exact this.symm
      have hrl := hr r' (List.mem_of_getElem? HX.out)
      clear hx hy hr
      go_wp2
      go_quiet ((go_at_call 9; refine Calls.quiet_of (eqIntS_same _ _ _ _ r' _ hrl (hrow.ext ((Ext.refl _).drewN _)) (hrow'.ext ((Ext.refl _).drewN _)))))
      go_wp2
      go_roundw
      case rel => exact ⟨k + 1, by omega, by go_num, Lib.hid (hd.out.drewN _)⟩
      case measure => simp [intOf]; omega
    · obtain rfl : k = g.length := by omega
      go_wp2
      go_ret
      exact ⟨rfl, hd.out⟩
end Go.Proofs.Ytmcnpdpplmbofaa
