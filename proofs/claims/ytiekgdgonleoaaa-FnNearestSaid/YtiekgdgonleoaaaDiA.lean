/- Texts merged: Dirs1 Dirs2 Dirs3. -/
import Derived.Test.YtiekgdgonleoaaaReA
import Derived.Deep.OwnRows
import Derived.Test.YtiekgdgonleoaaaHelp2
import Derived.Laws.MakeOwn
import Derived.Deep.RegionWith
import Derived.Deep.RegionHeld3
namespace Go.Proofs.Ytiekgdgonleoaaa
open Go.RowKit

def dirOk (dx dy : Int) : Bool := inR dx 0 3 && inR dy (-3) 3 && (Int.gcd dx dy == 1) && (decide (0 < dx) || dy == 1)

theorem dir_cases {dx dy : Int} (h1 : inR dx 0 3 = true) (h2 : inR dy (-3) 3 = true) : (dx = 0 ∨ dx = 1 ∨ dx = 2 ∨ dx = 3) ∧ (dy = -3 ∨ dy = -2 ∨ dy = -1 ∨ dy = 0 ∨ dy = 1 ∨ dy = 2 ∨ dy = 3) := by
  have := inR_iff.1 h1
  have := inR_iff.1 h2
  omega

/-- no number greater than 1 divides both -/
theorem dirOk_div {dx dy : Int} (h1 : inR dx 0 3 = true) (h2 : inR dy (-3) 3 = true) :
    dirOk dx dy = (!(dx == 0 && dy != 1) && !(dx % 2 == 0 && dy.tmod 2 == 0) && !(dx % 3 == 0 && dy.tmod 3 == 0)) := by
  obtain ⟨h3, h4⟩ := dir_cases h1 h2
  rcases h3 with rfl | rfl | rfl | rfl <;> rcases h4 with rfl | rfl | rfl | rfl | rfl | rfl | rfl <;> decide


set_option maxHeartbeats 2000000 in
theorem implDirectionOk_any (dx dy : Int) (w : World) :
    Calls Try.prog 46 #[.agg #[.int .i64 dx, .int .i64 dy]] w fun e w' => e = .returned (.bool (dirOk dx dy)) ∧ Ext w w' := by
  cases h1 : inR dx 0 3
  · go_enter Try.func46, Try.ntmps46
    go_wp2_with (go_at_call 32; refine (within_any _ _ _ _).mono ?_; rintro e w' ⟨rfl, rfl⟩)
    go_ret
    exact ⟨ret_bool (by simp [dirOk, h1]), (Ext.refl _).alloc _⟩
  cases h2 : inR dy (-3) 3
  · go_enter Try.func46, Try.ntmps46
    go_wp2_with (go_at_call 32; refine (within_any _ _ _ _).mono ?_; rintro e w' ⟨rfl, rfl⟩)
    go_ret
    exact ⟨ret_bool (by simp [dirOk, h2]), (Ext.refl _).alloc _⟩
  have HD := Lib.hid (dirOk_div h1 h2)
  obtain ⟨hx1, hx2⟩ := inR_iff.1 h1
  obtain ⟨hy1, hy2⟩ := inR_iff.1 h2
  by_cases hbad : dx = 0 ∧ dy ≠ 1
  · have b1 : (dx == 0) = true := by simpa using hbad.1
    have b2 : (dy != 1) = true := by simpa using hbad.2
    clear hbad
    go_enter Try.func46, Try.ntmps46
    go_wp2_with (go_at_call 32; refine (within_any _ _ _ _).mono ?_; rintro e w' ⟨rfl, rfl⟩)
    go_ret
    exact ⟨ret_bool (by rw [HD.out, b1, b2]; simp), (Ext.refl _).alloc _⟩
  have hgood : (dx == 0 && dy != 1) = false := by
    rw [Bool.eq_false_iff]; intro h; apply hbad; simpa using h
  clear hbad
  have HGO := Lib.hid hgood
  have hsplit : (dx == 0) = false ∨ ((dx == 0) = true ∧ (dy != 1) = false) := by
    cases e1 : (dx == 0)
    · exact .inl rfl
    · rw [e1] at hgood; exact .inr ⟨rfl, by simpa using hgood⟩
  clear hgood
  rcases hsplit with b1 | ⟨b1, b2⟩
  all_goals
    go_enter Try.func46, Try.ntmps46
    go_wp2_with (go_at_call 32; refine (within_any _ _ _ _).mono ?_; rintro e w' ⟨rfl, rfl⟩)
    go_loop [3] (fun t => ∃ n : Int, 2 ≤ n ∧ n ≤ 4 ∧ t = .int .i64 n ∧ Hid ((3 ≤ n → (dx % 2 == 0 && dy.tmod 2 == 0) = false) ∧ (4 ≤ n → (dx % 3 == 0 && dy.tmod 3 == 0) = false))) (fun t => (4 - intOf t).toNat)
    case atStart => exact ⟨2, by omega, by omega, rfl, Lib.hid ⟨fun h => by omega, fun h => by omega⟩⟩
    case round =>
      obtain ⟨n, hn1, hn2, rfl, hp⟩ := hrel
      have hn : n = 2 ∨ n = 3 ∨ n = 4 := by omega
      clear hn1 hn2
      rcases hn with rfl | rfl | rfl
      · cases hA : (dx % 2 == 0)
        · go_wp2_with fail
          go_round
          case rel => exact ⟨3, by omega, by omega, rfl, Lib.hid (by have := hp.out; simp_all)⟩
          case measure => simp [intOf]
        · cases hB : (dy.tmod 2 == 0)
          · go_wp2_with fail
            go_round
            case rel => exact ⟨3, by omega, by omega, rfl, Lib.hid (by have := hp.out; simp_all)⟩
            case measure => simp [intOf]
          · go_wp2_with fail
            go_ret
            exact ⟨ret_bool (by rw [HD.out, hA, hB]; simp), (Ext.refl _).alloc _⟩
      · cases hA : (dx % 3 == 0)
        · go_wp2_with fail
          go_round
          case rel => exact ⟨4, by omega, by omega, rfl, Lib.hid (by have := hp.out; simp_all)⟩
          case measure => simp [intOf]
        · cases hB : (dy.tmod 3 == 0)
          · go_wp2_with fail
            go_round
            case rel => exact ⟨4, by omega, by omega, rfl, Lib.hid (by have := hp.out; simp_all)⟩
            case measure => simp [intOf]
          · go_wp2_with fail
            go_ret
            exact ⟨ret_bool (by rw [HD.out, hA, hB]; simp), (Ext.refl _).alloc _⟩
      · go_wp2_with fail
        go_ret
        exact ⟨ret_bool (by rw [HD.out, HGO.out, hp.out.1 (by omega), hp.out.2 (by omega)]; rfl), (Ext.refl _).alloc _⟩

end Go.Proofs.Ytiekgdgonleoaaa

namespace Go.Proofs.Ytiekgdgonleoaaa
open Go.RowKit

/-- the slice with this address reads as these directions: two cells each -/
def LDirs (w : World) (A : Option Addr) (ds : List (Int × Int)) : Prop :=
  ∀ k d, ds[k]? = some d → ∃ b o, A = some ⟨b, o, none⟩ ∧ b < w.heap.size ∧ w.cell? ⟨b, o + k * 2, none⟩ = some (.int .i64 d.1) ∧ w.cell? ⟨b, o + k * 2 + 1, none⟩ = some (.int .i64 d.2)

theorem LDirs.ext {w w' : World} {A : Option Addr} {ds : List (Int × Int)} (h : LDirs w A ds) (e : Ext w w') : LDirs w' A ds := fun k d hk => by
  obtain ⟨b, o, h1, h2, h3, h4⟩ := h k d hk
  exact ⟨b, o, h1, Nat.lt_of_lt_of_le h2 e.size, (e.cell (p := ⟨b, o + k * 2, none⟩) h2).trans h3, (e.cell (p := ⟨b, o + k * 2 + 1, none⟩) h2).trans h4⟩

theorem LDirs.at_ {w : World} {A : Option Addr} {ds : List (Int × Int)} (h : LDirs w A ds) {k : Nat} (hk : k < ds.length) :
    ∃ b o x y, A = some ⟨b, o, none⟩ ∧ b < w.heap.size ∧ Hid (ds[k]? = some (x, y)) ∧ w.cell? ⟨b, o + k * 2, none⟩ = some (.int .i64 x) ∧ w.cell? ⟨b, o + k * 2 + 1, none⟩ = some (.int .i64 y) := by
  obtain ⟨b, o, h1, h2, h3, h4⟩ := h k ds[k] (List.getElem?_eq_getElem hk)
  exact ⟨b, o, _, _, h1, h2, Lib.hid (List.getElem?_eq_getElem hk), h3, h4⟩





end Go.Proofs.Ytiekgdgonleoaaa

namespace Go.Proofs.Ytiekgdgonleoaaa
open Go.RowKit

def anyD (ds : List (Int × Int)) (d : Int × Int) : Bool := ds.any (· == d)
theorem anyD_succ {ds : List (Int × Int)} {k : Nat} {e : Int × Int} (h : ds[k]? = some e) (d : Int × Int) : anyD (ds.take (k + 1)) d = (anyD (ds.take k) d || e == d) := by
  unfold anyD; rw [take_succ_of h, List.any_append]; simp
theorem anyD_hit {ds : List (Int × Int)} {k : Nat} {d : Int × Int} (h : ds[k]? = some d) : anyD ds d = true := by
  unfold anyD; rw [List.any_eq_true]; exact ⟨d, List.mem_of_getElem? h, by simp⟩

set_option maxHeartbeats 1000000 in
theorem IndexD_any (A : Option Addr) (cap : Nat) (ds : List (Int × Int)) (x y : Int) (w : World) (hl : ds.length ≤ 1048576) (hx : LDirs w A ds) :
    Calls Try.prog 51 #[.slice A ds.length cap, .agg #[.int .i64 x, .int .i64 y]] w fun e w' => ∃ r : Int, e = .returned (.int .i64 r) ∧ decide (0 ≤ r) = anyD ds (x, y) ∧ Ext w w' := by
  go_enter Try.func51, Try.ntmps51
  go_wp2
  go_loopw [8, 5] (fun i _ wr => ∃ k : Nat, k ≤ ds.length ∧ i = .int .i64 k ∧ Hid (anyD (ds.take k) (x, y) = false) ∧ Hid (Ext w wr) ∧ wr.cell? ⟨w.heap.size, 0, none⟩ = some (.int .i64 x) ∧ wr.cell? ⟨w.heap.size, 1, none⟩ = some (.int .i64 y)) (fun i _ _ => ds.length - (intOf i).toNat)
  case atStart => exact ⟨0, Nat.zero_le _, rfl, Lib.hid rfl, Lib.hid ((Ext.refl w).alloc _), by simp, by simp⟩
  case round =>
    obtain ⟨k, hk, rfl, hn, he, hc1, hc2⟩ := hrel
    by_cases hlt : k < ds.length
    · obtain ⟨b, o, x', y', rfl, _, HX, hd1, hd2⟩ := (hx.ext he.out).at_ hlt
      have HC1 := Lib.hid hc1
      have HC2 := Lib.hid hc2
      clear hx
      by_cases h1 : x = x'
      · by_cases h2 : y = y'
        · subst h1 h2
          have HH := Lib.hid (anyD_hit HX.out)
          go_wp2
          go_quiet (fail)
          go_wp2
          go_ret
          exact ⟨k, rfl, by rw [HH.out]; simp, he.out.drewN _⟩
        · subst h1
          have b1 : (y == y') = false := by simpa using h2
          have HN : Hid (anyD (ds.take (k + 1)) (x, y) = false) := Lib.hid (by rw [anyD_succ HX.out, hn.out]; simp; omega)
          clear h2
          go_wp2
          go_quiet (fail)
          go_wp2
          go_roundw
          case rel => exact ⟨k + 1, by omega, by go_num, HN, Lib.hid (he.out.drewN _), HC1.out, HC2.out⟩
          case measure => simp [intOf]; omega
      · have b1 : (x == x') = false := by simpa using h1
        have HN : Hid (anyD (ds.take (k + 1)) (x, y) = false) := Lib.hid (by rw [anyD_succ HX.out, hn.out]; simp; omega)
        clear h1
        go_wp2
        go_quiet (fail)
        go_wp2
        go_roundw
        case rel => exact ⟨k + 1, by omega, by go_num, HN, Lib.hid (he.out.drewN _), HC1.out, HC2.out⟩
        case measure => simp [intOf]; omega
    · obtain rfl : k = ds.length := by omega
      go_wp2
      go_ret
      exact ⟨-1, rfl, by have := hn.out; rw [take_full] at this; rw [this]; rfl, he.out⟩

theorem ContainsD_any (A : Option Addr) (cap : Nat) (ds : List (Int × Int)) (x y : Int) (w : World) (hl : ds.length ≤ 1048576) (hx : LDirs w A ds) :
    Calls Try.prog 47 #[.slice A ds.length cap, .agg #[.int .i64 x, .int .i64 y]] w fun e w' => e = .returned (.bool (anyD ds (x, y))) ∧ Ext w w' := by
  go_enter Try.func47, Try.ntmps47
  go_wp2_with fail
  refine (IndexD_any A cap ds x y _ hl (hx.ext ((Ext.refl w).alloc _))).mono ?_
  rintro e w' ⟨r, rfl, hr, he⟩
  have HR := Lib.hid hr; clear hr
  go_wp2
  go_ret
  exact ⟨ret_bool HR.out, ((Ext.refl w).alloc _).trans he⟩

def dOkAt (ds : List (Int × Int)) (i : Nat) : Bool := match ds[i]? with | some d => dirOk d.1 d.2 && !anyD (ds.take i) d | none => true
def dirsOk (ds : List (Int × Int)) : Bool := inR ds.length 1 4 && (List.range ds.length).all (dOkAt ds)
theorem dOkAt_eq {ds : List (Int × Int)} {k : Nat} {x y : Int} (h : ds[k]? = some (x, y)) : dOkAt ds k = (dirOk x y && !anyD (ds.take k) (x, y)) := by unfold dOkAt; rw [h]

theorem dirsOk_bad {ds : List (Int × Int)} {k : Nat} (hk : k < ds.length) (h : dOkAt ds k = false) : dirsOk ds = false := by
  unfold dirsOk; rw [range_all_false hk h, Bool.and_false]

set_option maxHeartbeats 2000000 in
theorem implDirectionsOk_any (A : Option Addr) (cap : Nat) (ds : List (Int × Int)) (w : World) (hl : ds.length ≤ 1048576) (hcap : ds.length ≤ cap) (hx : LDirs w A ds) :
    Calls Try.prog 34 #[.slice A ds.length cap] w fun e w' => e = .returned (.bool (dirsOk ds)) ∧ Ext w w' := by
  cases h1 : inR ds.length 1 4
  · go_enter Try.func34, Try.ntmps34
    go_wp2_with (go_at_call 32; refine (within_any _ _ _ _).mono ?_; rintro e w' ⟨rfl, rfl⟩)
    go_ret
    exact ⟨ret_bool (by simp [dirsOk, h1]), Ext.refl _⟩
  have HI := Lib.hid h1
  go_enter Try.func34, Try.ntmps34
  go_wp2_with (go_at_call 32; refine (within_any _ _ _ _).mono ?_; rintro e w' ⟨rfl, rfl⟩)
  go_loopw [11, 3, 4] (fun i _ _ wr => ∃ k : Nat, k ≤ ds.length ∧ i = .int .i64 k ∧ Hid ((List.range k).all (dOkAt ds) = true) ∧ Hid (Ext w wr)) (fun i _ _ _ => ds.length - (intOf i).toNat)
  case atStart => exact ⟨0, Nat.zero_le _, rfl, Lib.hid rfl, Lib.hid (Ext.refl w)⟩
  case round =>
    obtain ⟨k, hk, rfl, hn, he⟩ := hrel
    by_cases hlt : k < ds.length
    · obtain ⟨b, o, x, y, rfl, hb, HX, hd1, hd2⟩ := (hx.ext he.out).at_ hlt
      have c1 := fun w => implDirectionOk_any x y w
      have c2 := fun w hx => ContainsD_any (some ⟨b, o, none⟩) cap (ds.take k) x y w (by simp; omega) hx
      have el : (ds.take k).length = k := by rw [List.length_take]; omega
      rw [el] at c2
      have HT : Hid (LDirs w (some ⟨b, o, none⟩) (ds.take k)) := Lib.hid (fun j d hj => by
        rw [List.getElem?_take] at hj
        split at hj
        · exact hx j d hj
        · cases hj)
      clear hx el
      have d1 : ∀ (W : World), Calls Try.prog 46 #[.agg #[.int .i64 x, .int .i64 y]] W fun e w' => e = .returned (.bool (dirOk x y)) ∧ (W.cell? ⟨wr.heap.size, 0, none⟩ = some (.int .i64 x) → W.cell? ⟨wr.heap.size, 1, none⟩ = some (.int .i64 y) → Ext wr W → w'.cell? ⟨wr.heap.size, 0, none⟩ = some (.int .i64 x) ∧ w'.cell? ⟨wr.heap.size, 1, none⟩ = some (.int .i64 y) ∧ Ext wr w') := fun W =>
        (c1 W).mono fun e w' ⟨h1, h2⟩ => ⟨h1, fun k1 k2 k3 => ⟨(h2.cell (World.block_lt_of_cell? _ _ k1)).trans k1, (h2.cell (World.block_lt_of_cell? _ _ k2)).trans k2, k3.trans h2⟩⟩
      have d2 : ∀ (W : World), LDirs W (some ⟨b, o, none⟩) (ds.take k) → Calls Try.prog 47 #[.slice (some ⟨b, o, none⟩) k cap, .agg #[.int .i64 x, .int .i64 y]] W fun e w' => e = .returned (.bool (anyD (ds.take k) (x, y))) ∧ (W.cell? ⟨wr.heap.size, 0, none⟩ = some (.int .i64 x) → W.cell? ⟨wr.heap.size, 1, none⟩ = some (.int .i64 y) → Ext wr W → w'.cell? ⟨wr.heap.size, 0, none⟩ = some (.int .i64 x) ∧ w'.cell? ⟨wr.heap.size, 1, none⟩ = some (.int .i64 y) ∧ Ext wr w') := fun W hW =>
        (c2 W hW).mono fun e w' ⟨h1, h2⟩ => ⟨h1, fun k1 k2 k3 => ⟨(h2.cell (World.block_lt_of_cell? _ _ k1)).trans k1, (h2.cell (World.block_lt_of_cell? _ _ k2)).trans k2, k3.trans h2⟩⟩
      clear c1 c2
      cases e1 : dirOk x y
      · have HF : Hid (dOkAt ds k = false) := Lib.hid (by rw [dOkAt_eq HX.out, e1]; rfl)
        rw [e1] at d1
        clear d2
        go_wp2_with fail
        first | go_region_with (go_at_call 46; refine (d1 _).mono ?_; rintro e w' ⟨rfl, he1⟩; replace he1 := he1 (by simp) (by simp) ((Ext.refl wr).alloc _).drew) | fail
        all_goals
          go_wp2_with fail
          go_ret
          refine ⟨ret_bool ?_, he.out.trans he1.2.2⟩
          rw [dirsOk_bad hlt HF.out]
      · rw [e1] at d1
        have d3 : ∀ (W : World), Ext wr W → Calls Try.prog 47 #[.slice (some ⟨b, o, none⟩) k cap, .agg #[.int .i64 x, .int .i64 y]] W fun e w' => e = .returned (.bool (anyD (ds.take k) (x, y))) ∧ (W.cell? ⟨wr.heap.size, 0, none⟩ = some (.int .i64 x) → W.cell? ⟨wr.heap.size, 1, none⟩ = some (.int .i64 y) → Ext wr W → w'.cell? ⟨wr.heap.size, 0, none⟩ = some (.int .i64 x) ∧ w'.cell? ⟨wr.heap.size, 1, none⟩ = some (.int .i64 y) ∧ Ext wr w') := fun W hW => d2 W (HT.out.ext (he.out.trans hW))
        clear d2
        have g1 : (0 : Int) ≤ (k : Int) := by omega
        have g2 : (k : Int) ≤ (cap : Int) := by omega
        have g3 : k ≤ cap := by omega
        cases e2 : anyD (ds.take k) (x, y)
        · have HF : Hid ((List.range (k + 1)).all (dOkAt ds) = true) := Lib.hid (by rw [range_all_succ, hn.out, dOkAt_eq HX.out, e1, e2]; rfl)
          rw [e2] at d3
          go_wp2_with fail
          first | go_region_held3 (fun w' => w'.cell? ⟨wr.heap.size, 0, none⟩ = some (.int .i64 x) ∧ w'.cell? ⟨wr.heap.size, 1, none⟩ = some (.int .i64 y) ∧ Ext wr w') (first | exact ⟨by simp, by simp, ((Ext.refl wr).alloc _).drew⟩ | exact he2 (‹_ ∧ _ ∧ Ext wr _›).1 (‹_ ∧ _ ∧ Ext wr _›).2.1 (‹_ ∧ _ ∧ Ext wr _›).2.2 | exact he1 (‹_ ∧ _ ∧ Ext wr _›).1 (‹_ ∧ _ ∧ Ext wr _›).2.1 (‹_ ∧ _ ∧ Ext wr _›).2.2 | go_keep) (first | (go_at_call 46; refine (d1 _).mono ?_; rintro e w' ⟨rfl, he1⟩) | (go_at_call 47; refine (d3 _ (by exact (‹_ ∧ _ ∧ Ext wr _›).2.2)).mono ?_; rintro e w' ⟨rfl, he2⟩)) | fail
          all_goals
            go_wp2_with fail
            go_roundw
            case rel => exact ⟨k + 1, by omega, by go_num, HF, Lib.hid (he.out.trans (‹_ ∧ _ ∧ Ext wr _›).2.2)⟩
            case measure => simp [intOf]; omega
        · have HF : Hid (dOkAt ds k = false) := Lib.hid (by rw [dOkAt_eq HX.out, e1, e2]; rfl)
          rw [e2] at d3
          go_wp2_with fail
          first | go_region_held3 (fun w' => w'.cell? ⟨wr.heap.size, 0, none⟩ = some (.int .i64 x) ∧ w'.cell? ⟨wr.heap.size, 1, none⟩ = some (.int .i64 y) ∧ Ext wr w') (first | exact ⟨by simp, by simp, ((Ext.refl wr).alloc _).drew⟩ | exact he2 (‹_ ∧ _ ∧ Ext wr _›).1 (‹_ ∧ _ ∧ Ext wr _›).2.1 (‹_ ∧ _ ∧ Ext wr _›).2.2 | exact he1 (‹_ ∧ _ ∧ Ext wr _›).1 (‹_ ∧ _ ∧ Ext wr _›).2.1 (‹_ ∧ _ ∧ Ext wr _›).2.2 | go_keep) (first | (go_at_call 46; refine (d1 _).mono ?_; rintro e w' ⟨rfl, he1⟩) | (go_at_call 47; refine (d3 _ (by exact (‹_ ∧ _ ∧ Ext wr _›).2.2)).mono ?_; rintro e w' ⟨rfl, he2⟩)) | fail
          all_goals
            go_wp2_with fail
            go_ret
            refine ⟨ret_bool ?_, he.out.trans (‹_ ∧ _ ∧ Ext wr _›).2.2⟩
            rw [dirsOk_bad hlt HF.out]
    · obtain rfl : k = ds.length := by omega
      go_wp2
      go_ret
      exact ⟨ret_bool (by unfold dirsOk; rw [HI.out, hn.out]; rfl), he.out⟩
end Go.Proofs.Ytiekgdgonleoaaa
