/- CanPlace, in the reference and in the program. -/
import Derived.Test.YtlhjbpachpjpkaaPick
import Derived.Test.YtlhjbpachpjpkaaPaint3
namespace Go.Proofs.Ytlhjbpachpjpkaa
open Go.RowKit Tomo

noncomputable def canPlace (rows cols : List Int) (y x cell : Int) : Bool := inR cell 0 1 && (allI rows cols).any fun m => cellI m y x == cell
theorem canPlace_out {rows cols : List Int} {y x cell : Int} (h : inR y 0 (rows.length - 1) = false ∨ inR x 0 (cols.length - 1) = false) : canPlace rows cols y x cell = false := by
  unfold canPlace
  cases hc : inR cell 0 1
  · rfl
  · rw [Bool.true_and, List.any_eq_false]
    intro m hm
    have hi := allI_img hm
    rw [cellI_out hi.1 (by
      rcases h with h | h
      · left; intro hh; rw [inR_iff.2 hh] at h; cases h
      · right; intro hh; rw [inR_iff.2 hh] at h; cases h)]
    rw [inR_iff] at hc
    simp; omega
theorem any_hit {α : Type} {l : List α} {k : Nat} {x : α} (h : l[k]? = some x) (p : α → Bool) (hp : p x = true) : l.any p = true := by
  rw [List.any_eq_true]; exact ⟨x, List.mem_of_getElem? h, hp⟩
theorem any_take_succ {α : Type} {l : List α} {k : Nat} {x : α} (h : l[k]? = some x) (p : α → Bool) : (l.take (k + 1)).any p = ((l.take k).any p || p x) := by
  rw [take_succ_of h, List.any_append]; simp


set_option maxHeartbeats 2000000 in
theorem implCanPlace_any (A B : Option Addr) (ca cb : Nat) (rows cols : List Int) (y x cell : Int) (w : World) (hl : rows.length ≤ 1048576) (hl2 : cols.length ≤ 1048576) (hx : Ints w A rows) (hy : Ints w B cols) :
    Calls Try.prog 24 #[.slice A rows.length ca, .slice B cols.length cb, .int .i64 y, .int .i64 x, .int .i64 cell] w fun e w' => e = .returned (.bool (canPlace rows cols y x cell)) ∧ Ext w w' := by
  have ca' := implAllImages_any A B ca cb rows cols w hl hl2 hx hy
  have HIMG : Hid (∀ m, m ∈ allI rows cols → Img m rows.length cols.length) := Lib.hid fun m hm => allI_img hm
  have HDEF : Hid (canPlace rows cols y x cell = (inR cell 0 1 && (allI rows cols).any fun m => cellI m y x == cell)) := Lib.hid rfl
  have hlen := allI_len rows cols
  obtain ⟨so, hso⟩ : ∃ so, sumsOk rows cols = so := ⟨_, rfl⟩
  obtain ⟨n, hn⟩ : ∃ n, rows.length = n := ⟨_, rfl⟩
  obtain ⟨k, hk⟩ : ∃ k, cols.length = k := ⟨_, rfl⟩
  obtain ⟨gs, hgs⟩ : ∃ gs, allI rows cols = gs := ⟨_, rfl⟩
  obtain ⟨q, hq⟩ : ∃ q, canPlace rows cols y x cell = q := ⟨_, rfl⟩
  rw [hgs] at HIMG HDEF hlen
  simp only [hgs] at ca'
  rw [hn, hk] at HIMG
  rw [hso, hn, hk] at ca'
  rw [hq] at HDEF
  rw [hq, hn, hk]
  rw [hn] at hl
  rw [hk] at hl2
  clear hx hy hn hk hgs hq hso
  cases b4 : inR cell 0 1
  all_goals
    have HQ := HDEF.out
    rw [b4] at HQ
    replace HQ := Lib.hid HQ
    have B4 := Lib.hid b4
    go_enter Try.func24, Try.ntmps24
    go_wp2_with fail
    refine ca'.mono ?_
    rintro e w2 ⟨v, rfl, ho, he⟩
    have HE2 := Lib.hid he
    obtain ⟨us, hu⟩ := ho.u
    obtain ⟨Ag, cg, rfl, _⟩ := ho.slice
    have HU := Lib.hid hu
    clear ho he hu ca' HDEF
    go_wp2_with fail
    go_loopw [23, 14] (fun i _ wr => ∃ j : Nat, j ≤ gs.length ∧ i = .int .i64 j ∧ wr = w2 ∧ Hid (inR cell 0 1 = true → (gs.take j).any (fun m => cellI m y x == cell) = false)) (fun i _ _ => gs.length - (intOf i).toNat)
    case atStart => exact ⟨0, Nat.zero_le _, rfl, rfl, Lib.hid (by simp)⟩
    case round =>
      obtain ⟨j, hj, rfl, rfl, hf⟩ := hrel
      by_cases hlt : j < gs.length
      · obtain ⟨b, u, g, Au, cu, rfl, hb, _, hg, hcell, _, hog⟩ := HU.out.elt hlt
        have himg := HIMG.out g (List.mem_of_getElem? hg.out)
        have hlg := himg.1.1
        have hn5 := himg.2.1.2
        have cc := CellAt_any Au cu g n k y x wr (by omega) himg hog.gridAt
        obtain ⟨z, hz⟩ : ∃ z, cellI g y x = z := ⟨_, rfl⟩
        rw [hz] at cc
        have HZ := Lib.hid hz
        rw [hlg] at hcell
        clear hog himg hlg hz
        first
          | (have _ : inR cell 0 1 = false := B4.out
             go_wp2_with (go_at_call 55; refine (within_any _ _ _ _).mono ?_; rintro e w' ⟨rfl, rfl⟩)
             go_roundw
             case rel => exact ⟨j + 1, by omega, by go_num, trivial, Lib.hid (fun h => by rw [B4.out] at h; cases h)⟩
             case measure => simp [intOf]; omega)
          | (cases b5 : (z == cell)
             · have HN : Hid (inR cell 0 1 = true → (gs.take (j + 1)).any (fun m => cellI m y x == cell) = false) := Lib.hid (fun h => by rw [any_take_succ hg.out, hf.out h, HZ.out, b5]; rfl)
               go_wp2_with (first | (go_at_call 55; refine (within_any _ _ _ _).mono ?_; rintro e w' ⟨rfl, rfl⟩) | (go_at_call 42; refine cc.mono ?_; rintro e w' ⟨rfl, rfl⟩))
               go_roundw
               case rel => exact ⟨j + 1, by omega, by go_num, trivial, HN⟩
               case measure => simp [intOf]; omega
             · have HT : Hid (q = true) := Lib.hid (by rw [HQ.out, Bool.true_and]; exact any_hit hg.out _ (by rw [HZ.out]; exact b5))
               go_wp2_with (first | (go_at_call 55; refine (within_any _ _ _ _).mono ?_; rintro e w' ⟨rfl, rfl⟩) | (go_at_call 42; refine cc.mono ?_; rintro e w' ⟨rfl, rfl⟩))
               go_ret
               exact ⟨ret_bool HT.out.symm, HE2.out⟩)
      · obtain rfl : j = gs.length := by omega
        have HT : Hid (q = false) := Lib.hid (by
          rw [HQ.out]
          first
            | (have h := hf.out B4.out; rw [take_full] at h; rw [Bool.true_and]; exact h)
            | rfl)
        go_wp2
        go_ret
        exact ⟨ret_bool HT.out.symm, HE2.out⟩
end Go.Proofs.Ytlhjbpachpjpkaa
