/- Lists of directions: how they read; the laws' helpers for them. -/
import Derived.Test.YtnnkondlefjkcaaDirs1
import Derived.Test.YtnnkondlefjkcaaHelp2
import Derived.Laws.MakeOwn
import Derived.Deep.RegionWith
namespace Go.Proofs.Ytnnkondlefjkcaa
open Go.RowKit

/-- the slice with this address reads as these directions: two cells each -/
def LDirs (w : World) (A : Option Addr) (ds : List (Int × Int)) : Prop :=
  ∀ k d, ds[k]? = some d → ∃ b o, A = some ⟨b, o, none⟩ ∧ b < w.heap.size ∧ w.cell? ⟨b, o + k * 2, none⟩ = some (.int .i64 d.1) ∧ w.cell? ⟨b, o + k * 2 + 1, none⟩ = some (.int .i64 d.2)

theorem LDirs.ext {w w' : World} {A : Option Addr} {ds : List (Int × Int)} (h : LDirs w A ds) (e : Ext w w') : LDirs w' A ds := fun k d hk => by
  obtain ⟨b, o, h1, h2, h3, h4⟩ := h k d hk
  exact ⟨b, o, h1, Nat.lt_of_lt_of_le h2 e.size, (e.cell (p := ⟨b, o + k * 2, none⟩) h2).trans h3, (e.cell (p := ⟨b, o + k * 2 + 1, none⟩) h2).trans h4⟩

theorem LDirs.at_ {w : World} {A : Option Addr} {ds : List (Int × Int)} (h : LDirs w A ds) {k : Nat} (hk : k < ds.length) :
    ∃ b o x y, A = some ⟨b, o, none⟩ ∧ b < w.heap.size ∧ Hid (ds[k]? = some (x, y)) ∧ w.cell? ⟨b, o + k * 2, none⟩ = some (.int .i64 x) ∧ w.cell? ⟨b, o + k * 2 + 1, none⟩ = some (.int .i64 y) := by
  obtain ⟨b, o, h1, h2, h3, h4⟩ := h k ds[k] (List.getElem?_eq_getElem hk)
  exact ⟨b, o, _, _, h1, h2, Lib.hid (List.getElem?_eq_getElem hk), h3, h4⟩

theorem szDirectionS_any (A : Option Addr) (cap n : Nat) (left : Int) (w : World) (hn : n ≤ 9223372036854775807) (h0 : 0 ≤ left) (h1 : left ≤ 1048576) :
    Calls Try.prog 35 #[.slice A n cap, .int .i64 left] w fun e w' => e = .returned (.int .i64 (szOf n left)) ∧ w = w' := by
  by_cases h : left < n
  · have hs : szOf n left = -1 := by simp [szOf, h]
    have HS := Lib.hid hs; clear hs
    have h2 : left - (n : Int) < 0 := by omega
    go_enter Try.func35, Try.ntmps35
    go_wp2
    go_ret
    exact ⟨ret_int HS.out.symm, rfl⟩
  · have hs : szOf n left = left - n := by simp [szOf, h]
    have HS := Lib.hid hs; clear hs
    have h2 : ¬ left - (n : Int) < 0 := by omega
    go_enter Try.func35, Try.ntmps35
    go_wp2
    go_ret
    exact ⟨ret_int HS.out.symm, rfl⟩

theorem eqDirection_same (x y : Int) (w : World) :
    Calls Try.prog 85 #[.agg #[.int .i64 x, .int .i64 y], .agg #[.int .i64 x, .int .i64 y]] w fun e w' => e = .returned (.bool true) ∧ Ext w w' := by
  go_enter Try.func85, Try.ntmps85
  go_wp2
  go_ret
  exact ⟨rfl, ((Ext.refl _).alloc _).alloc _⟩

theorem toDirection_any (x y : Int) (w : World) :
    Calls Try.prog 27 #[.agg #[.int .i64 x, .int .i64 y]] w fun e w' => e = .returned (.agg #[.int .i64 x, .int .i64 y]) ∧ Ext w w' ∧ w'.heap.size = w.heap.size + 3 := by
  go_enter Try.func27, Try.ntmps27
  go_wp2
  refine bodyPost_ret (v := .agg #[.int .i64 x, .int .i64 y]) (by simp [results, Try.results27, go_sem]) rfl ⟨rfl, ?_, ?_⟩
  · exact (((Ext.refl w).alloc _).alloc _).alloc _
  · simp

theorem infoDir : (Try.prog.info? 32).map (fun i => (i.zero, i.size, i.bytes)) = some (some (.agg #[.int .i64 0, .int .i64 0]), 2, 16) := by kernel_rfl

theorem make_dirs (n : Nat) (hn : n ≤ 1048576) (w : World) :
    (Instr.makeSlice 43 (.int .i64 (n : Int)) (.int .i64 (n : Int))).run Try.prog w = .ok (.slice (some ⟨w.heap.size, 0, none⟩) n n) (w.alloc (.cells (madeCells #[.int .i64 0, .int .i64 0] (n * 2)) 32)) := by
  obtain ⟨i, hi, hzz⟩ := Option.map_eq_some_iff.1 infoDir
  simp only [Prod.mk.injEq] at hzz
  obtain ⟨hz, hs, hb⟩ := hzz
  have hb2 : (i.bytes : Int) * (n : Int) ≤ 281474976710656 := by rw [hb]; omega
  have hr := run_make (P := Try.prog) w 43 32 i _ Try.underlying43 hi hz .i64 .i64 n n (by omega) (by omega) hb2 (by omega)
  simp only [Int.toNat_natCast, hs] at hr
  exact hr

/-- what is put at place i of a row of directions -/
def dcell (ds : List (Int × Int)) (i : Nat) : Value := .int .i64 (if i % 2 = 0 then (ds[i / 2]?.getD (0, 0)).1 else (ds[i / 2]?.getD (0, 0)).2)
theorem rowIs_madeD (w : World) (n : Nat) (t : TypeId) : (w.alloc (.cells (madeCells #[.int .i64 0, .int .i64 0] (n * 2)) t)).rowIs w.heap.size t (n * 2) (fun _ => .int .i64 0) :=
  ⟨_, Go.Deep.blk_alloc_new _ _, size_madeCells _ _, fun i hi => by
    have h2 : i % 2 = 0 ∨ i % 2 = 1 := by omega
    rcases h2 with h2 | h2 <;> simp [madeCells, hi, h2]⟩

structure NewDirs (w w' : World) (ds : List (Int × Int)) : Prop where
  row : w'.rowIs w.heap.size 32 (ds.length * 2) (dcell ds)
  ext : Ext w w'
theorem NewDirs.at_ {w w' : World} {ds : List (Int × Int)} (h : NewDirs w w' ds) : LDirs w' (some ⟨w.heap.size, 0, none⟩) ds := fun k d hk => by
  have hlt : k < ds.length := by
    rcases Nat.lt_or_ge k ds.length with h1 | h1
    · exact h1
    · rw [List.getElem?_eq_none h1] at hk; cases hk
  have h1 := h.row.cell (i := k * 2) (by omega)
  have h2 := h.row.cell (i := k * 2 + 1) (by omega)
  refine ⟨w.heap.size, 0, rfl, h.row.lt, ?_, ?_⟩
  · rw [show 0 + k * 2 = k * 2 by omega, h1]
    simp [dcell, hk]
  · rw [show 0 + k * 2 + 1 = k * 2 + 1 by omega, h2]
    have e1 : (k * 2 + 1) % 2 = 1 := by omega
    have e2 : (k * 2 + 1) / 2 = k := by omega
    simp [dcell, e1, e2, hk]

set_option maxHeartbeats 1000000 in
theorem toDirectionS_any (A : Option Addr) (cap : Nat) (ds : List (Int × Int)) (w : World) (hl : ds.length ≤ 1048576) (hx : LDirs w A ds) :
    Calls Try.prog 37 #[.slice A ds.length cap] w fun e w' => e = .returned (.slice (some ⟨w.heap.size, 0, none⟩) ds.length ds.length) ∧ NewDirs w w' ds := by
  have hmk := make_dirs ds.length hl
  go_enter Try.func37, Try.ntmps37
  go_wp2
  clear hmk
  go_loopw [4] (fun i wr => ∃ k : Nat, k ≤ ds.length ∧ i = .int .i64 k ∧ Hid (wr.rowIs w.heap.size 32 (ds.length * 2) (fun i => if i < k * 2 then dcell ds i else .int .i64 0) ∧ Ext w wr)) (fun i _ => ds.length - (intOf i).toNat)
  case atStart => exact ⟨0, Nat.zero_le _, rfl, Lib.hid ⟨(rowIs_madeD w ds.length 32).congr (fun i _ => by simp), (Ext.refl w).alloc _⟩⟩
  case round =>
    obtain ⟨k, hk, rfl, hrel⟩ := hrel
    obtain ⟨hrow, hext⟩ := hrel.out
    by_cases hlt : k < ds.length
    · obtain ⟨b, o, x, y, rfl, hb, HX, hcx0, hcy0⟩ := hx.at_ hlt
      have hcx : wr.cell? ⟨b, o + k * 2, none⟩ = some (.int .i64 x) := (hext.cell (p := ⟨b, o + k * 2, none⟩) hb).trans hcx0
      have hcy : wr.cell? ⟨b, o + k * 2 + 1, none⟩ = some (.int .i64 y) := (hext.cell (p := ⟨b, o + k * 2 + 1, none⟩) hb).trans hcy0
      clear hx hcx0 hcy0
      go_wp2_with fail
      refine (toDirection_any x y _).mono ?_
      rintro e w1 ⟨rfl, h1, h1s⟩
      have hrow1 := hrow.of_block (h1.block _ hrow.lt)
      have hc1 := hrow1.cell (i := k * 2) (by omega)
      have hc2 := hrow1.cell (i := k * 2 + 1) (by omega)
      have hf1 := hrow1.frozen (k * 2)
      have hf2 := hrow1.frozen (k * 2 + 1)
      have hb1 : ¬ k * 2 < k * 2 := by omega
      have hb2 : ¬ k * 2 + 1 < k * 2 := by omega
      rw [if_neg hb1] at hc1
      rw [if_neg hb2] at hc2
      have HR := Lib.hid (And.intro hrow1 (And.intro hext (And.intro h1 hb)))
      clear hrow hext hrow1 h1 h1s hb hb1 hb2 hcx hcy
      go_wp2
      go_roundw
      case rel =>
        refine ⟨k + 1, by omega, by go_num, Lib.hid ⟨((HR.out.1.set (k * 2) _).set (k * 2 + 1) _).congr (fun i hi => ?_), ?_⟩⟩
        · by_cases e : i = k * 2 + 1
          · have e1 : (k * 2 + 1) % 2 = 1 := by omega
            have e2 : (k * 2 + 1) / 2 = k := by omega
            have e3 : k * 2 + 1 < (k + 1) * 2 := by omega
            subst e; simp [HX.out, dcell, e1, e2, e3]
          · by_cases e2 : i = k * 2
            · have e3 : k * 2 < (k + 1) * 2 := by omega
              have e4 : ¬ k * 2 = k * 2 + 1 := by omega
              subst e2; simp [HX.out, dcell, e3]
            · by_cases e3 : i < k * 2
              · have e4 : i < (k + 1) * 2 := by omega
                simp [e, e2, e3, e4]
              · have e4 : ¬ i < (k + 1) * 2 := by omega
                simp [e, e2, e3, e4]
        · exact Below.setCell (Below.setCell (HR.out.2.1.trans HR.out.2.2.1) (Nat.le_refl _) _) (Nat.le_refl _) _
      case measure => simp [intOf]; omega
    · obtain rfl : k = ds.length := by omega
      go_wp2
      go_ret
      exact ⟨rfl, ⟨hrow.congr (fun i hi => by simp [hi]), hext⟩⟩

set_option maxHeartbeats 1000000 in
theorem eqDirectionS_same (A B : Option Addr) (ca cb : Nat) (ds : List (Int × Int)) (w : World) (hl : ds.length ≤ 1048576) (hx : LDirs w A ds) (hy : LDirs w B ds) :
    Calls Try.prog 39 #[.slice A ds.length ca, .slice B ds.length cb] w fun e w' => e = .returned (.bool true) ∧ Ext w w' := by
  go_enter Try.func39, Try.ntmps39
  go_wp2
  go_loopw [5] (fun i wr => ∃ k : Nat, k ≤ ds.length ∧ i = .int .i64 k ∧ Hid (Ext w wr)) (fun i _ => ds.length - (intOf i).toNat)
  case atStart => exact ⟨0, Nat.zero_le _, rfl, Lib.hid (Ext.refl w)⟩
  case round =>
    obtain ⟨k, hk, rfl, hd⟩ := hrel
    by_cases hlt : k < ds.length
    · obtain ⟨b, o, x, y, rfl, _, HX, hc1, hc2⟩ := (hx.ext hd.out).at_ hlt
      obtain ⟨b', o', x', y', rfl, _, HX', hd1, hd2⟩ := (hy.ext hd.out).at_ hlt
      obtain ⟨rfl, rfl⟩ : x' = x ∧ y' = y := by have := HX.out.symm.trans HX'.out; simp at this; exact ⟨this.1.symm, this.2.symm⟩
      clear hx hy HX HX'
      go_wp2
      go_region_with (go_at_call 85; refine (eqDirection_same _ _ _).mono ?_; rintro e w' ⟨rfl, he⟩)
      all_goals
        go_wp2_with fail
        go_roundw
        case rel => exact ⟨k + 1, by omega, by go_num, Lib.hid ((hd.out.drew).trans he)⟩
        case measure => simp [intOf]; omega
    · obtain rfl : k = ds.length := by omega
      go_wp2
      go_ret
      exact ⟨rfl, hd.out⟩
end Go.Proofs.Ytnnkondlefjkcaa
