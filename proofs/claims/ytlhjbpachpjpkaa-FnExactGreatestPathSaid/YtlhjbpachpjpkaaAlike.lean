/- The laws' own comparisons. -/
import Derived.Test.YtlhjbpachpjpkaaLineSums2
namespace Go.Proofs.Ytlhjbpachpjpkaa
open Go.RowKit Tomo
theorem take_step {α : Type} {a b : List α} {j : Nat} {x : α} (h : a.take j = b.take j) (h1 : a[j]? = some x) (h2 : b[j]? = some x) : a.take (j + 1) = b.take (j + 1) := by
  rw [List.take_add_one, List.take_add_one, h, h1, h2]
theorem OwnGrid.sliceAny {w : World} {B : Nat} {v : Value} {g : List (List Int)} (h : OwnGrid w B v g) : ∃ A c, v = .slice A g.length c ∧ GridAt w A g := by
  by_cases h0 : 0 < g.length
  · obtain ⟨b, c, rfl, _⟩ := h.form h0
    exact ⟨_, c, rfl, h.gridAt⟩
  · have h0' : g.length = 0 := by omega
    obtain ⟨us, h1, h2, _, _⟩ := h
    rcases h2.2 with ⟨hv, _⟩ | ⟨g', cap, cur, hv, _⟩
    · exact ⟨none, 0, by rw [hv, h0'], fun k r hk => by have := (List.getElem?_eq_some_iff.1 hk).1; omega⟩
    · exact ⟨_, cap, hv, fun k r hk => by have := (List.getElem?_eq_some_iff.1 hk).1; omega⟩
set_option maxHeartbeats 2000000 in
theorem same_no (A B : Option Addr) (ca cb : Nat) (xs ys : List Int) (w : World) (hl2 : ys.length ≤ 1000000) (hne : xs ≠ ys) (hx : Ints w A xs) (hy : Ints w B ys) :
    Calls Try.prog 45 #[.slice A xs.length ca, .slice B ys.length cb] w fun e w' => e = .returned (.bool false) ∧ w = w' := by
  have HX := Lib.hid hx
  have HY := Lib.hid hy
  have HNE := Lib.hid hne
  clear hx hy hne
  by_cases hll : xs.length = ys.length
  · obtain ⟨n, hn⟩ : ∃ n, ys.length = n := ⟨_, rfl⟩
    have HN := Lib.hid hn
    have HXN := Lib.hid (hll.trans hn)
    rw [hll, hn]
    rw [hn] at hl2
    clear hll hn
    go_enter Try.func45, Try.ntmps45
    go_wp2_with fail
    go_loopw [14, 5, 6] (fun i _ _ wr => ∃ (j : Nat), j ≤ n ∧ i = .int .i64 j ∧ Hid (xs.take j = ys.take j) ∧ Hid (wr = w)) (fun i _ _ _ => n - (intOf i).toNat)
    case atStart => exact ⟨0, Nat.zero_le _, rfl, Lib.hid rfl, Lib.hid rfl⟩
    case round =>
      rename World => wr
      obtain ⟨j, hj, rfl, hT, hw⟩ := hrel
      obtain rfl := hw.out
      clear hw
      by_cases hlt : j < n
      · obtain ⟨b, o, x, rfl, _, hxx, hc⟩ := HX.out.at_ (k := j) (by rw [HXN.out]; exact hlt)
        obtain ⟨b2, o2, x2, rfl, _, hxx2, hc2⟩ := HY.out.at_ (k := j) (by rw [HN.out]; exact hlt)
        by_cases hxe : x = x2
        · subst hxe
          have HT := Lib.hid (take_step hT.out hxx.out hxx2.out)
          go_wp2_with fail
          go_roundw
          case rel => exact ⟨j + 1, by omega, by go_num, HT, Lib.hid (by trivial)⟩
          case measure => simp [intOf]; omega
        · have hb1 : (x != x2) = true := by simp [bne, hxe]
          have hb2 : (x == x2) = false := by simp [hxe]
          go_wp2_with fail
          go_ret
          exact ⟨rfl, by trivial⟩
      · obtain rfl : j = n := by omega
        exact absurd (by have h := hT.out; rw [List.take_of_length_le (by rw [HXN.out]; exact Nat.le_refl _), List.take_of_length_le (by rw [HN.out]; exact Nat.le_refl _)] at h; exact h) HNE.out
  · go_enter Try.func45, Try.ntmps45
    have hb1 : ((xs.length : Int) == (ys.length : Int)) = false := by simp; omega
    have hb2 : ((xs.length : Int) != (ys.length : Int)) = true := by simp [bne]; omega
    go_wp2_with fail
    go_ret
    exact ⟨rfl, by trivial⟩
set_option maxHeartbeats 2000000 in
theorem alike_yes (A B : Option Addr) (ca cb : Nat) (g : Grid) (w : World) (hl : g.length ≤ 1000000) (hr : ∀ r ∈ g, r.length ≤ 1000000) (hx : GridAt w A g) (hy : GridAt w B g) :
    Calls Try.prog 16 #[.slice A g.length ca, .slice B g.length cb] w fun e w' => e = .returned (.bool true) ∧ w = w' := by
  have HX := Lib.hid hx
  have HY := Lib.hid hy
  have HR := Lib.hid hr
  clear hx hy hr
  obtain ⟨n, hn⟩ : ∃ n, g.length = n := ⟨_, rfl⟩
  have HN := Lib.hid hn
  rw [hn] at hl ⊢
  clear hn
  go_enter Try.func16, Try.ntmps16
  go_wp2_with fail
  go_loopw [14, 5, 6] (fun i _ _ wr => ∃ (j : Nat), j ≤ n ∧ i = .int .i64 j ∧ Hid (wr = w)) (fun i _ _ _ => n - (intOf i).toNat)
  case atStart => exact ⟨0, Nat.zero_le _, rfl, Lib.hid rfl⟩
  case round =>
    rename World => wr
    obtain ⟨j, hj, rfl, hw⟩ := hrel
    obtain rfl := hw.out
    clear hw
    by_cases hlt : j < n
    · obtain ⟨b, o, R, c, r, rfl, _, hrr, hc, hi⟩ := HX.out.at_ (k := j) (by rw [HN.out]; exact hlt)
      obtain ⟨b2, o2, R2, c2, r2, rfl, _, hrr2, hc2, hi2⟩ := HY.out.at_ (k := j) (by rw [HN.out]; exact hlt)
      obtain rfl : r = r2 := by have h := hrr.out; rw [hrr2.out] at h; exact (Option.some.inj h).symm
      have cs := same_any R R2 c c2 r wr (HR.out r (List.mem_of_getElem? hrr.out)) hi hi2
      clear hi hi2
      go_wp2_with fail
      refine cs.mono ?_
      rintro e w1 ⟨rfl, rfl⟩
      clear cs
      go_wp2_with fail
      go_roundw
      case rel => exact ⟨j + 1, by omega, by go_num, Lib.hid (by trivial)⟩
      case measure => simp [intOf]; omega
    · obtain rfl : j = n := by omega
      go_wp2_with fail
      go_ret
      exact ⟨rfl, by trivial⟩
set_option maxHeartbeats 2000000 in
theorem alike_no (A B : Option Addr) (ca cb : Nat) (g h : Grid) (w : World) (hl2 : h.length ≤ 1000000) (hr : ∀ r ∈ g, r.length ≤ 1000000) (hr2 : ∀ r ∈ h, r.length ≤ 1000000) (hne : g ≠ h) (hx : GridAt w A g) (hy : GridAt w B h) :
    Calls Try.prog 16 #[.slice A g.length ca, .slice B h.length cb] w fun e w' => e = .returned (.bool false) ∧ w = w' := by
  have HX := Lib.hid hx
  have HY := Lib.hid hy
  have HR := Lib.hid hr
  have HR2 := Lib.hid hr2
  have HNE := Lib.hid hne
  clear hx hy hr hr2 hne
  by_cases hll : g.length = h.length
  · obtain ⟨n, hn⟩ : ∃ n, h.length = n := ⟨_, rfl⟩
    have HN := Lib.hid hn
    have HXN := Lib.hid (hll.trans hn)
    rw [hll, hn]
    rw [hn] at hl2
    clear hll hn
    go_enter Try.func16, Try.ntmps16
    go_wp2_with fail
    go_loopw [14, 5, 6] (fun i _ _ wr => ∃ (j : Nat), j ≤ n ∧ i = .int .i64 j ∧ Hid (g.take j = h.take j) ∧ Hid (wr = w)) (fun i _ _ _ => n - (intOf i).toNat)
    case atStart => exact ⟨0, Nat.zero_le _, rfl, Lib.hid rfl, Lib.hid rfl⟩
    case round =>
      rename World => wr
      obtain ⟨j, hj, rfl, hT, hw⟩ := hrel
      obtain rfl := hw.out
      clear hw
      by_cases hlt : j < n
      · obtain ⟨b, o, R, c, r, rfl, _, hrr, hc, hi⟩ := HX.out.at_ (k := j) (by rw [HXN.out]; exact hlt)
        obtain ⟨b2, o2, R2, c2, r2, rfl, _, hrr2, hc2, hi2⟩ := HY.out.at_ (k := j) (by rw [HN.out]; exact hlt)
        by_cases hxe : r = r2
        · subst hxe
          have HT := Lib.hid (take_step hT.out hrr.out hrr2.out)
          have cs := same_any R R2 c c2 r wr (HR.out r (List.mem_of_getElem? hrr.out)) hi hi2
          clear hi hi2
          go_wp2_with fail
          refine cs.mono ?_
          rintro e w1 ⟨rfl, rfl⟩
          clear cs
          go_wp2_with fail
          go_roundw
          case rel => exact ⟨j + 1, by omega, by go_num, HT, Lib.hid (by trivial)⟩
          case measure => simp [intOf]; omega
        · have cs := same_no R R2 c c2 r r2 wr (HR2.out r2 (List.mem_of_getElem? hrr2.out)) hxe hi hi2
          clear hi hi2 hxe
          go_wp2_with fail
          refine cs.mono ?_
          rintro e w1 ⟨rfl, rfl⟩
          clear cs
          go_wp2_with fail
          go_ret
          exact ⟨rfl, by trivial⟩
      · obtain rfl : j = n := by omega
        exact absurd (by have h := hT.out; rw [List.take_of_length_le (by rw [HXN.out]; exact Nat.le_refl _), List.take_of_length_le (by rw [HN.out]; exact Nat.le_refl _)] at h; exact h) HNE.out
  · go_enter Try.func16, Try.ntmps16
    have hb1 : ((g.length : Int) == (h.length : Int)) = false := by simp; omega
    have hb2 : ((g.length : Int) != (h.length : Int)) = true := by simp [bne]; omega
    go_wp2_with fail
    go_ret
    exact ⟨rfl, by trivial⟩
end Go.Proofs.Ytlhjbpachpjpkaa
