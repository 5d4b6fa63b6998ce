/- The laws' drawn arguments: a convex polyomino. -/
import Derived.Test.YtlhjbpachpjpkaaShape3
import Derived.Test.YtlhjbpachpjpkaaPolys
namespace Go.Proofs.Ytlhjbpachpjpkaa
open Go.RowKit Tomo

theorem corner_at (w : World) : GridAt (((w.alloc (.cells #[.int .i64 1, .int .i64 1] 3)).alloc (.cells #[.int .i64 0, .int .i64 1] 3)).alloc (.cells #[.slice (some ⟨w.heap.size, 0, none⟩) 2 2, .slice (some ⟨w.heap.size + 1, 0, none⟩) 2 2] 28)) (some ⟨w.heap.size + 1 + 1, 0, none⟩) [[1, 1], [0, 1]] := by
  obtain ⟨w1, h1⟩ : ∃ w1, w.alloc (.cells #[.int .i64 1, .int .i64 1] 3) = w1 := ⟨_, rfl⟩
  have s1 : w1.heap.size = w.heap.size + 1 := by rw [← h1]; simp
  have a1 : w1.cell? ⟨w.heap.size, 0, none⟩ = some (.int .i64 1) := by rw [← h1]; simp
  have a2 : w1.cell? ⟨w.heap.size, 1, none⟩ = some (.int .i64 1) := by rw [← h1]; simp
  rw [h1]
  obtain ⟨w2, h2⟩ : ∃ w2, w1.alloc (.cells #[.int .i64 0, .int .i64 1] 3) = w2 := ⟨_, rfl⟩
  have s2 : w2.heap.size = w.heap.size + 1 + 1 := by rw [← h2, ← s1]; simp
  have e12 : Ext w1 w2 := by rw [← h2]; exact (Ext.refl w1).alloc _
  have b1 : w2.cell? ⟨w.heap.size + 1, 0, none⟩ = some (.int .i64 0) := by rw [← h2, ← s1]; simp
  have b2 : w2.cell? ⟨w.heap.size + 1, 1, none⟩ = some (.int .i64 1) := by rw [← h2, ← s1]; simp
  rw [h2]
  obtain ⟨w3, h3⟩ : ∃ w3, w2.alloc (.cells #[.slice (some ⟨w.heap.size, 0, none⟩) 2 2, .slice (some ⟨w.heap.size + 1, 0, none⟩) 2 2] 28) = w3 := ⟨_, rfl⟩
  have s3 : w3.heap.size = w.heap.size + 1 + 1 + 1 := by rw [← h3, ← s2]; simp
  have e23 : Ext w2 w3 := by rw [← h3]; exact (Ext.refl w2).alloc _
  have c1 : w3.cell? ⟨w.heap.size + 1 + 1, 0, none⟩ = some (.slice (some ⟨w.heap.size, 0, none⟩) 2 2) := by rw [← h3, ← s2]; simp
  have c2 : w3.cell? ⟨w.heap.size + 1 + 1, 1, none⟩ = some (.slice (some ⟨w.heap.size + 1, 0, none⟩) 2 2) := by rw [← h3, ← s2]; simp
  rw [h3]
  intro k r hk
  have hk2 : k < 2 := (List.getElem?_eq_some_iff.1 hk).1
  rcases (by omega : k = 0 ∨ k = 1) with rfl | rfl
  · have e : r = [1, 1] := by simpa using hk.symm
    subst e
    refine ⟨_, 0, some ⟨w.heap.size, 0, none⟩, 2, rfl, by omega, c1, by decide, fun j x hj => ⟨_, 0, rfl, by omega, ?_⟩⟩
    have hj2 : j < 2 := (List.getElem?_eq_some_iff.1 hj).1
    rcases (by omega : j = 0 ∨ j = 1) with rfl | rfl
    · cases hj
      exact ((e12.trans e23).cell (p := ⟨w.heap.size, 0, none⟩) (by show w.heap.size < w1.heap.size; omega)).trans a1
    · cases hj
      exact ((e12.trans e23).cell (p := ⟨w.heap.size, 1, none⟩) (by show w.heap.size < w1.heap.size; omega)).trans a2
  · have e : r = [0, 1] := by simpa using hk.symm
    subst e
    refine ⟨_, 0, some ⟨w.heap.size + 1, 0, none⟩, 2, rfl, by omega, c2, by decide, fun j x hj => ⟨_, 0, rfl, by omega, ?_⟩⟩
    have hj2 : j < 2 := (List.getElem?_eq_some_iff.1 hj).1
    rcases (by omega : j = 0 ∨ j = 1) with rfl | rfl
    · cases hj
      exact (e23.cell (p := ⟨w.heap.size + 1, 0, none⟩) (by show w.heap.size + 1 < w2.heap.size; omega)).trans b1
    · cases hj
      exact (e23.cell (p := ⟨w.heap.size + 1, 1, none⟩) (by show w.heap.size + 1 < w2.heap.size; omega)).trans b2
set_option maxRecDepth 100000 in
set_option maxHeartbeats 8000000 in
theorem MakeShape_any (A : Option Addr) (c : Nat) (xs : List Int) (w : World) (hb : Bytes w A xs) (hl : xs.length ≤ 1048576) :
    Calls Try.prog 6 #[.slice A xs.length c] w fun e w' => ∃ B cg m, e = .returned (.slice B m.length cg) ∧ GridAt w' B m ∧ polyP m = true ∧ Ext w w' := by
  have c1 := l01New_any A c xs w hb hl
  have HSH := Lib.hid (fun (W : World) (h3 : Ext w W) (h4 : Cur W w.heap.size xs.length A c) => l10Shape_any A c w.heap.size xs w W (Nat.le_refl _) hb h3 h4 hl)
  clear hb
  go_enter Try.func6, Try.ntmps6
  go_wp2_with fail
  refine c1.mono ?_
  rintro e w1 ⟨rfl, h1, h2, _⟩
  have HC1 := Lib.hid h1
  have HE1 := Lib.hid h2
  clear c1 h1 h2
  go_wp2_with fail
  go_loopw [4, 5] (fun i _ wr => ∃ k : Nat, k ≤ 4 ∧ i = .int .i64 k ∧ Hid (Cur wr w.heap.size xs.length A c) ∧ Hid (Ext w wr)) (fun i _ _ => 4 - (intOf i).toNat)
  case atStart => exact ⟨0, by omega, rfl, HC1, HE1⟩
  case round =>
    rename World => wr
    clear HC1 HE1
    obtain ⟨k, hk, rfl, hC, hE⟩ := hrel
    by_cases hlt : k < 4
    · have cs := HSH.out wr hE.out hC.out
      clear hE hC
      go_wp2_with fail
      refine cs.mono ?_
      rintro e w2 ⟨B, cg, g, rfl, hg, hg6, hg5, he, hc⟩
      have hgr : ∀ r ∈ g, r.length ≤ 1048576 := fun r hr => by have := hg5 r hr; omega
      have ci := specImageOk_any B cg g w2 (by omega) hgr hg
      have cc := specIsConvex_any B cg g w2 (by omega) hgr hg
      have HCP := Lib.hid (fun W (e : Ext w2 W) => specIsPolyomino_any B cg g W (by omega) hgr (hg.ext e))
      have HG := Lib.hid hg
      have HC2 := Lib.hid hc
      have HE2 := Lib.hid he
      have HPP : Hid (polyP g = (convexI g && (pieces g == 1))) := Lib.hid rfl
      clear cs hg hg5 hgr he hc
      cases b1 : gridOk g 0 1
      · rw [b1] at ci
        clear cc b1
        go_wp2_with fail
        refine ci.mono ?_
        rintro e w3 ⟨rfl, rfl⟩
        clear ci
        go_wp2_with fail
        go_roundw
        case rel => exact ⟨k + 1, by omega, by go_num, HC2, HE2⟩
        case measure => simp [intOf]; omega
      · rw [b1] at ci
        cases b2 : convexI g
        · rw [b2] at cc
          clear b1 b2
          go_wp2_with fail
          refine ci.mono ?_
          rintro e w3 ⟨rfl, rfl⟩
          clear ci
          go_wp2_with fail
          refine cc.mono ?_
          rintro e w3 ⟨rfl, he3⟩
          have HC3 := Lib.hid (HC2.out.blk (he3.block _ HC2.out.lt))
          have HE3 := Lib.hid (HE2.out.trans he3)
          clear cc he3
          go_wp2_with fail
          go_roundw
          case rel => exact ⟨k + 1, by omega, by go_num, HC3, HE3⟩
          case measure => simp [intOf]; omega
        · rw [b2] at cc HPP
          clear b1 b2
          cases b3 : (pieces g == 1)
          all_goals
            rw [b3] at HCP HPP
            clear b3
            go_wp2_with fail
            refine ci.mono ?_
            rintro e w3 ⟨rfl, rfl⟩
            clear ci
            go_wp2_with fail
            refine cc.mono ?_
            rintro e w3 ⟨rfl, he3⟩
            have cp := HCP.out w3 he3
            have HC3 := Lib.hid (HC2.out.blk (he3.block _ HC2.out.lt))
            have HE3 := Lib.hid (HE2.out.trans he3)
            have HG3 := Lib.hid (HG.out.ext he3)
            clear cc he3
            go_wp2_with fail
            refine cp.mono ?_
            rintro e w4 ⟨rfl, he4⟩
            have HC4 := Lib.hid (HC3.out.blk (he4.block _ HC3.out.lt))
            have HE4 := Lib.hid (HE3.out.trans he4)
            have HG4 := Lib.hid (HG3.out.ext he4)
            clear cp he4
            go_wp2_with fail
          · go_roundw
            case rel => exact ⟨k + 1, by omega, by go_num, HC4, HE4⟩
            case measure => simp [intOf]; omega
          · go_ret
            exact ⟨B, cg, g, rfl, HG4.out, HPP.out, HE4.out⟩
    · obtain rfl : k = 4 := by omega
      go_wp2_with fail
      go_ret
      exact ⟨_, 2, [[1, 1], [0, 1]], rfl, corner_at wr, corner_poly, ((hE.out.alloc _).alloc _).alloc _⟩
end Go.Proofs.Ytlhjbpachpjpkaa
