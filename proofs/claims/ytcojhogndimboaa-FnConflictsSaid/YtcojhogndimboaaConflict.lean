/- Rectangles with a conflict. -/
import Derived.Test.YtcojhogndimboaaRead6
import Derived.Test.YtcojhogndimboaaRead4
namespace Go.Proofs.Ytcojhogndimboaa
open Go.RowKit

def pickSum (rows : List Int) (l : List Int) : Int := (l.map fun y => rows[y.toNat]?.getD 0).sum
def roomCell (c : Int) (inn out : Bool) : Int := (if (inn && !out && c != 0) = true then 1 else 0) - (if (!inn && out && c == 1) = true then 1 else 0)
def roomRow (list others : List Int) (y : Nat) (r : List Int) (j : Nat) : Int := ((List.range j).map fun (x : Nat) => roomCell (r[x]?.getD 0) (hasI list (y : Int)) (hasI others (x : Int))).sum
def roomGrid (list others : List Int) (g : List (List Int)) (k : Nat) : Int := ((List.range k).map fun (y : Nat) => roomRow list others y (g[y]?.getD []) (g[y]?.getD []).length).sum
def conflictB (g : List (List Int)) (rows cols list others : List Int) : Bool := decide (roomGrid list others g g.length < pickSum rows list - pickSum cols others)
def hasConflict (g : List (List Int)) (rows cols list others : List Int) : Bool :=
  maskOk g rows cols && rising list rows.length && rising others cols.length && conflictB g rows cols list others

theorem pickSum_take {rows l : List Int} {k n : Nat} {v : Int} (h : l[k]? = some (n : Int)) (hv : rows[n]? = some v) : pickSum rows (l.take (k + 1)) = pickSum rows (l.take k) + v := by
  unfold pickSum
  rw [take_succ_of h, List.map_append, List.sum_append]
  simp [hv]
theorem roomRow_succ {list others : List Int} {y : Nat} {r : List Int} {j : Nat} {c : Int} (h : r[j]? = some c) : roomRow list others y r (j + 1) = roomRow list others y r j + roomCell c (hasI list y) (hasI others j) := by
  unfold roomRow; rw [List.range_succ, List.map_append, List.sum_append]; simp [h]
theorem roomGrid_succ {list others : List Int} {g : List (List Int)} {k : Nat} {r : List Int} (h : g[k]? = some r) : roomGrid list others g (k + 1) = roomGrid list others g k + roomRow list others k r r.length := by
  unfold roomGrid; rw [List.range_succ, List.map_append, List.sum_append]; simp [h]
theorem roomCell_bound (c : Int) (a b : Bool) : -1 ≤ roomCell c a b ∧ roomCell c a b ≤ 1 := by
  unfold roomCell
  split <;> split <;> omega
theorem roomRow_bound (list others : List Int) (y : Nat) (r : List Int) (j : Nat) : -(j : Int) ≤ roomRow list others y r j ∧ roomRow list others y r j ≤ j := by
  unfold roomRow
  induction j with
  | zero => simp
  | succ j ih =>
    rw [List.range_succ, List.map_append, List.sum_append]
    have := roomCell_bound (r[j]?.getD 0) (hasI list y) (hasI others j)
    simp only [List.map_cons, List.map_nil, List.sum_cons, List.sum_nil]
    omega
theorem roomGrid_bound {list others : List Int} {g : List (List Int)} (h : ∀ r ∈ g, r.length ≤ 5) (k : Nat) : -5 * (k : Int) ≤ roomGrid list others g k ∧ roomGrid list others g k ≤ 5 * k := by
  unfold roomGrid
  induction k with
  | zero => simp
  | succ k ih =>
    rw [List.range_succ, List.map_append, List.sum_append]
    have h1 := roomRow_bound list others k (g[k]?.getD []) (g[k]?.getD []).length
    have h2 : (g[k]?.getD []).length ≤ 5 := by
      cases hg : g[k]? with
      | none => simp
      | some r => exact h r (List.mem_of_getElem? hg)
    simp only [List.map_cons, List.map_nil, List.sum_cons, List.sum_nil]
    omega
theorem rising_range {xs : List Int} {limit : Int} (h : rising xs limit = true) : ∀ x ∈ xs, 0 ≤ x ∧ x < limit := by
  intro x hx
  obtain ⟨k, hk, rfl⟩ := List.mem_iff_getElem.1 hx
  have h1 := (List.all_eq_true.1 h) k (List.mem_range.2 hk)
  simp only [riseAt, Bool.and_eq_true, List.getElem?_eq_getElem hk, Option.getD_some] at h1
  have := inR_iff.1 h1.1
  omega
theorem pickSum_bound {rows l : List Int} (hr : ∀ x ∈ rows, 0 ≤ x ∧ x ≤ 5) : 0 ≤ pickSum rows l ∧ pickSum rows l ≤ 5 * (l.length : Int) := by
  unfold pickSum
  induction l with
  | nil => simp
  | cons y l ih =>
    have h1 := getD_range (l := rows) (lo := 0) (hi := 5) hr (by omega) y.toNat
    rw [List.map_cons, List.sum_cons, List.length_cons]
    omega

/-- what the three loops ask -/
structure Rect (g : List (List Int)) (rows cols list others : List Int) : Prop where
  gl : g.length ≤ 5
  gr : ∀ r ∈ g, r.length ≤ 5
  rb : ∀ x ∈ rows, 0 ≤ x ∧ x ≤ 5
  cb : ∀ x ∈ cols, 0 ≤ x ∧ x ≤ 5
  ll : list.length ≤ 1048576
  ol : others.length ≤ 1048576
  lr : ∀ x ∈ list, 0 ≤ x ∧ x < rows.length
  orng : ∀ x ∈ others, 0 ≤ x ∧ x < cols.length
theorem rect_of {g : List (List Int)} {rows cols list others : List Int} (h1 : maskOk g rows cols = true) (h2 : rising list rows.length = true) (h3 : rising others cols.length = true) (hl : list.length ≤ 1048576) (ho : others.length ≤ 1048576) : Rect g rows cols list others := by
  simp only [maskOk, Bool.and_eq_true] at h1
  obtain ⟨a1, a2, a3, a4, a5, a6, _⟩ := sumsOk_parts h1.1
  obtain ⟨b1, b2⟩ := sized_iff.1 h1.2
  refine ⟨by omega, fun r hr => by have := (b2 r hr).1; omega, fun x hx => ?_, fun x hx => ?_, hl, ho, rising_range h2, rising_range h3⟩
  · have := inR_iff.1 ((List.all_eq_true.1 a5) x hx); omega
  · have := inR_iff.1 ((List.all_eq_true.1 a6) x hx); omega



set_option maxHeartbeats 4000000 in
theorem implHasConflict_any (A B D L O : Option Addr) (ca cb cd cl co : Nat) (g : List (List Int)) (rows cols list others : List Int) (w : World) (hl : g.length ≤ 1048576) (hr : ∀ r ∈ g, r.length ≤ 1048576) (hl1 : rows.length ≤ 1048576) (hl2 : cols.length ≤ 1048576)
    (hl3 : list.length ≤ 1048576) (hl4 : others.length ≤ 1048576) (hgrid : GridAt w A g) (hrows : Ints w B rows) (hcols : Ints w D cols) (hlist : Ints w L list) (hothers : Ints w O others) :
    Calls Try.prog 7 #[.slice A g.length ca, .slice B rows.length cb, .slice D cols.length cd, .slice L list.length cl, .slice O others.length co] w fun e w' => e = .returned (.bool (hasConflict g rows cols list others)) ∧ w = w' := by
  cases h1 : maskOk g rows cols
  · go_enter Try.func7, Try.ntmps7
    go_wp2_with (go_at_call 6; refine (implMaskOk_any _ _ _ _ _ _ g rows cols _ hl hr hgrid hl1 hl2 hrows hcols).mono ?_; rintro e w' ⟨rfl, rfl⟩)
    go_ret
    exact ⟨ret_bool (by simp [hasConflict, h1]), rfl⟩
  have c1 := rising_any L cl list rows.length w hl3 (by omega) (by omega) hlist
  have c2 := rising_any O co others cols.length w hl4 (by omega) (by omega) hothers
  cases h2 : rising list rows.length
  · rw [h2] at c1
    go_enter Try.func7, Try.ntmps7
    go_wp2_with (first | (go_at_call 6; refine (implMaskOk_any _ _ _ _ _ _ g rows cols _ hl hr hgrid hl1 hl2 hrows hcols).mono ?_; rintro e w' ⟨rfl, rfl⟩) | (go_at_call 17; (first | (with_reducible refine c1.mono ?_) | (with_reducible refine c2.mono ?_)); rintro e w' ⟨rfl, rfl⟩))
    go_ret
    exact ⟨ret_bool (by simp [hasConflict, h1, h2]), rfl⟩
  cases h3 : rising others cols.length
  · rw [h2] at c1
    rw [h3] at c2
    go_enter Try.func7, Try.ntmps7
    go_wp2_with (first | (go_at_call 6; refine (implMaskOk_any _ _ _ _ _ _ g rows cols _ hl hr hgrid hl1 hl2 hrows hcols).mono ?_; rintro e w' ⟨rfl, rfl⟩) | (go_at_call 17; (first | (with_reducible refine c1.mono ?_) | (with_reducible refine c2.mono ?_)); rintro e w' ⟨rfl, rfl⟩))
    go_ret
    exact ⟨ret_bool (by simp [hasConflict, h1, h2, h3]), rfl⟩
  have HR := Lib.hid (rect_of h1 h2 h3 hl3 hl4)
  rw [h2] at c1
  rw [h3] at c2
  have H2 := Lib.hid h2; have H3 := Lib.hid h3
  clear h2 h3
  go_enter Try.func7, Try.ntmps7
  go_wp2_with (first | (go_at_call 6; refine (implMaskOk_any _ _ _ _ _ _ g rows cols _ hl hr hgrid hl1 hl2 hrows hcols).mono ?_; rintro e w' ⟨rfl, rfl⟩) | (go_at_call 17; (first | (with_reducible refine c1.mono ?_) | (with_reducible refine c2.mono ?_)); rintro e w' ⟨rfl, rfl⟩))
  clear c1 c2 hr hl hl1 hl2
  go_loop [11, 44] (fun a i => ∃ (k : Nat) (s : Int), k ≤ list.length ∧ i = .int .i64 k ∧ a = .int .i64 s ∧ Hid (s = pickSum rows (list.take k))) (fun _ i => list.length - (intOf i).toNat)
  case atStart => exact ⟨0, 0, Nat.zero_le _, rfl, rfl, Lib.hid (by simp [pickSum])⟩
  case round =>
    obtain ⟨k, s, hk, rfl, rfl, hs⟩ := hrel
    by_cases hlt : k < list.length
    · obtain ⟨b, o, y, rfl, _, HX, hcell⟩ := hlist.at_ hlt
      have hy := HR.out.lr y (List.mem_of_getElem? HX.out)
      obtain ⟨n, rfl⟩ := Int.eq_ofNat_of_zero_le hy.1
      have hn : n < rows.length := by omega
      obtain ⟨b2, o2, v, rfl, _, HV, hcell2⟩ := hrows.at_ hn
      have hv := HR.out.rb v (List.mem_of_getElem? HV.out)
      have hb1 := pickSum_bound (l := list.take k) HR.out.rb
      have hb2 : (list.take k).length ≤ list.length := by rw [List.length_take]; omega
      have hb3 := hs.out
      have hb4 : list.length ≤ 1048576 := HR.out.ll
      have hs1 : 0 ≤ s := by omega
      have hs2 : s ≤ 100000000 := by omega
      obtain ⟨hv1, hv2⟩ := hv
      clear hb1 hb2 hb3 hb4 hlist hrows hy
      go_wp2
      go_round
      case rel => exact ⟨k + 1, s + v, by omega, by go_num, rfl, Lib.hid (by rw [pickSum_take HX.out HV.out, hs.out])⟩
      case measure => simp [intOf]; omega
    · obtain rfl : k = list.length := by omega
      have hA : Hid (s = pickSum rows list) := Lib.hid (by have := hs.out; rw [take_full] at this; exact this)
      have hA1 := pickSum_bound (l := list) HR.out.rb
      have hA2 := HR.out.ll
      have hA3 := hA.out
      have hs1 : 0 ≤ s := by omega
      have hs2 : s ≤ 100000000 := by omega
      clear hA1 hA2 hA3 hs hrows
      go_wp2_with fail
      go_loop [11, 57] (fun a i => ∃ (k : Nat) (q : Int), k ≤ others.length ∧ i = .int .i64 k ∧ a = .int .i64 q ∧ Hid (q = s - pickSum cols (others.take k))) (fun _ i => others.length - (intOf i).toNat)
      case atStart => exact ⟨0, s, Nat.zero_le _, rfl, rfl, Lib.hid (by simp [pickSum])⟩
      case round =>
        obtain ⟨k, q, hk2, rfl, rfl, hq⟩ := hrel
        by_cases hlt2 : k < others.length
        · obtain ⟨b, o, y, rfl, _, HX, hcell⟩ := hothers.at_ hlt2
          have hy := HR.out.orng y (List.mem_of_getElem? HX.out)
          obtain ⟨n, rfl⟩ := Int.eq_ofNat_of_zero_le hy.1
          have hn : n < cols.length := by omega
          obtain ⟨b2, o2, v, rfl, _, HV, hcell2⟩ := hcols.at_ hn
          have hv := HR.out.cb v (List.mem_of_getElem? HV.out)
          have hb1 := pickSum_bound (l := others.take k) HR.out.cb
          have hb2 : (others.take k).length ≤ others.length := by rw [List.length_take]; omega
          have hb3 := hq.out
          have hb4 : others.length ≤ 1048576 := HR.out.ol
          have hq1 : -100000000 ≤ q := by omega
          have hq2 : q ≤ 100000000 := by omega
          obtain ⟨hv1, hv2⟩ := hv
          clear hb1 hb2 hb3 hb4 hothers hcols hy
          go_wp2
          go_round
          case rel => exact ⟨k + 1, q - v, by omega, by go_num, rfl, Lib.hid (by rw [pickSum_take HX.out HV.out, hq.out]; omega)⟩
          case measure => simp [intOf]; omega
        · obtain rfl : k = others.length := by omega
          have hQ : Hid (q = pickSum rows list - pickSum cols others) := Lib.hid (by have := hq.out; rw [take_full] at this; rw [this, hA.out])
          clear hq hcols
          go_wp2_with fail
          go_loop [12, 70] (fun a i => ∃ (k : Nat) (t : Int), k ≤ g.length ∧ i = .int .i64 k ∧ a = .int .i64 t ∧ Hid (t = roomGrid list others g k)) (fun _ i => g.length - (intOf i).toNat)
          case atStart => exact ⟨0, 0, Nat.zero_le _, rfl, rfl, Lib.hid (by simp [roomGrid])⟩
          case round =>
            obtain ⟨k, t, hk3, rfl, rfl, ht⟩ := hrel
            by_cases hlt3 : k < g.length
            · obtain ⟨b, o, R, c, r, rfl, _, HG, hcell, hrow⟩ := hgrid.at_ hlt3
              have hr5 := HR.out.gr r (List.mem_of_getElem? HG.out)
              have hg5 := HR.out.gl
              have HB := Lib.hid (roomGrid_bound (list := list) (others := others) HR.out.gr k)
              clear hgrid
              go_wp2_with fail
              go_loop [12, 77] (fun a i => ∃ (j : Nat) (u : Int), j ≤ r.length ∧ i = .int .i64 j ∧ a = .int .i64 u ∧ Hid (u = t + roomRow list others k r j)) (fun _ i => r.length - (intOf i).toNat)
              case atStart => exact ⟨0, t, Nat.zero_le _, rfl, rfl, Lib.hid (by simp [roomRow])⟩
              case round =>
                obtain ⟨j, u, hj, rfl, rfl, hu⟩ := hrel
                by_cases hlt4 : j < r.length
                · obtain ⟨b3, o3, x, rfl, _, HX, hcell3⟩ := hrow.at_ hlt4
                  have hu1 := roomRow_bound list others k r j
                  have hu2 := hu.out
                  have hu3 := ht.out
                  have hu4 := HB.out
                  have hua : -1000 ≤ u := by omega
                  have hub : u ≤ 1000 := by omega
                  obtain ⟨bi, hbi⟩ : ∃ bi, hasI list k = bi := ⟨_, rfl⟩
                  obtain ⟨bo, hbo⟩ : ∃ bo, hasI others j = bo := ⟨_, rfl⟩
                  have c1 := contains_any L cl list k w HR.out.ll hlist
                  have c2 := contains_any O co others j w HR.out.ol hothers
                  rw [hbi] at c1
                  rw [hbo] at c2
                  have HC : Hid (roomRow list others k r (j + 1) = roomRow list others k r j + roomCell x bi bo) := Lib.hid (by rw [roomRow_succ HX.out, hbi, hbo])
                  clear hu1 hu2 hu3 hu4 hbi hbo hrow hlist hothers
                  cases bi <;> cases bo
                  · go_wp2_with (go_at_call 18; (first | (with_reducible refine c1.mono ?_) | (with_reducible refine c2.mono ?_)); rintro e w' ⟨rfl, rfl⟩)
                    go_round
                    case rel => exact ⟨j + 1, u, by omega, by go_num, rfl, Lib.hid (by rw [HC.out, hu.out]; simp [roomCell])⟩
                    case measure => simp [intOf]; omega
                  · by_cases hx1 : x = 1
                    · subst hx1
                      go_wp2_with (go_at_call 18; (first | (with_reducible refine c1.mono ?_) | (with_reducible refine c2.mono ?_)); rintro e w' ⟨rfl, rfl⟩)
                      go_round
                      case rel => exact ⟨j + 1, u - 1, by omega, by go_num, rfl, Lib.hid (by rw [HC.out, hu.out]; simp [roomCell]; omega)⟩
                      case measure => simp [intOf]; omega
                    · have hx2 : (x == 1) = false := by simpa using hx1
                      have HX1 := Lib.hid hx1; clear hx1
                      go_wp2_with (go_at_call 18; (first | (with_reducible refine c1.mono ?_) | (with_reducible refine c2.mono ?_)); rintro e w' ⟨rfl, rfl⟩)
                      go_round
                      case rel => exact ⟨j + 1, u, by omega, by go_num, rfl, Lib.hid (by rw [HC.out, hu.out]; simp [roomCell, HX1.out])⟩
                      case measure => simp [intOf]; omega
                  · by_cases hx1 : x = 0
                    · subst hx1
                      go_wp2_with (go_at_call 18; (first | (with_reducible refine c1.mono ?_) | (with_reducible refine c2.mono ?_)); rintro e w' ⟨rfl, rfl⟩)
                      go_round
                      case rel => exact ⟨j + 1, u, by omega, by go_num, rfl, Lib.hid (by rw [HC.out, hu.out]; simp [roomCell])⟩
                      case measure => simp [intOf]; omega
                    · have hx2 : (x != 0) = true := by simpa using hx1
                      have HX1 := Lib.hid hx1; clear hx1
                      go_wp2_with (go_at_call 18; (first | (with_reducible refine c1.mono ?_) | (with_reducible refine c2.mono ?_)); rintro e w' ⟨rfl, rfl⟩)
                      go_round
                      case rel => exact ⟨j + 1, u + 1, by omega, by go_num, rfl, Lib.hid (by rw [HC.out, hu.out]; simp [roomCell, HX1.out]; omega)⟩
                      case measure => simp [intOf]; omega
                  · go_wp2_with (go_at_call 18; (first | (with_reducible refine c1.mono ?_) | (with_reducible refine c2.mono ?_)); rintro e w' ⟨rfl, rfl⟩)
                    go_round
                    case rel => exact ⟨j + 1, u, by omega, by go_num, rfl, Lib.hid (by rw [HC.out, hu.out]; simp [roomCell])⟩
                    case measure => simp [intOf]; omega
                · obtain rfl : j = r.length := by omega
                  go_wp2_with fail
                  go_round
                  case rel => exact ⟨k + 1, u, by omega, by go_num, rfl, Lib.hid (by rw [roomGrid_succ HG.out, hu.out, ht.out])⟩
                  case measure => simp [intOf]; omega
            · obtain rfl : k = g.length := by omega
              have HE : Hid (conflictB g rows cols list others = decide (t < q)) := Lib.hid (by unfold conflictB; rw [ht.out, hQ.out])
              go_wp2_with fail
              go_ret
              exact ⟨ret_bool (by unfold hasConflict; rw [h1, H2.out, H3.out, HE.out]; rfl), rfl⟩

end Go.Proofs.Ytcojhogndimboaa
