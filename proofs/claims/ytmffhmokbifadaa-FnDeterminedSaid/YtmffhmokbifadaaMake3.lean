/- The laws' drawn arguments: a cursor that has gone on; directions. -/
import Derived.Test.YtmffhmokbifadaaMake2
import Derived.Test.YtmffhmokbifadaaDirs3
namespace Go.Proofs.Ytmffhmokbifadaa
open Go.RowKit Tomo

set_option maxHeartbeats 4000000 in
theorem l18New_any (k : Nat) (A : Option Addr) (c : Nat) (xs : List Int) (w : World) (hk : k ≤ 1000) (hb : Bytes w A xs) (hl : xs.length ≤ 1048576) :
    Calls Try.prog 17 #[.slice A xs.length c, .int .i64 k] w fun e w' => e = .returned (.pointer (some ⟨w.heap.size, 0, none⟩)) ∧ Cur w' w.heap.size xs.length A c ∧ Ext w w' ∧ w'.heap.size = w.heap.size + 1 := by
  have c1 := l01New_any A c xs w hb hl
  have HB := Lib.hid hb
  clear hb
  go_enter Try.func17, Try.ntmps17
  go_wp2_with fail
  refine c1.mono ?_
  rintro e w1 ⟨rfl, h1, h2, h3⟩
  have H := Lib.hid (And.intro h1 (And.intro h2 h3))
  clear c1 h1 h2 h3
  go_wp2_with fail
  go_loopw [6] (fun i wr => ∃ j : Nat, j ≤ k ∧ i = .int .i64 j ∧ Hid (Cur wr w.heap.size xs.length A c ∧ Ext w wr ∧ wr.heap.size = w.heap.size + 1)) (fun i _ => k - (intOf i).toNat)
  case atStart => exact ⟨0, Nat.zero_le _, rfl, H⟩
  case round =>
    rename World => wr
    obtain ⟨j, hj, rfl, hC⟩ := hrel
    by_cases hlt : j < k
    · have cb := l01Byte_any A c w.heap.size xs w wr (Nat.le_refl _) HB.out hC.out.2.1 hC.out.1 hl
      go_wp2_with fail
      refine cb.mono ?_
      rintro e w2 ⟨x, rfl, _, _, g1, g2, g3⟩
      have HC := Lib.hid (And.intro g1 (And.intro g2 (g3.1.trans hC.out.2.2)))
      clear cb g1 g2 g3 hC
      go_wp2_with fail
      go_roundw
      case rel => exact ⟨j + 1, by omega, by go_num, HC⟩
      case measure => simp [intOf]; omega
    · obtain rfl : j = k := by omega
      go_wp2_with fail
      go_ret
      exact ⟨rfl, hC.out.1, hC.out.2.1, hC.out.2.2⟩
set_option maxHeartbeats 4000000 in
theorem l01Pick_any (B : Option Addr) (cb : Nat) (ls : List Int) (A : Option Addr) (c p : Nat) (xs : List Int) (w0 w : World) (hl1 : 1 ≤ ls.length) (hl2 : ls.length ≤ 256) (hp : w0.heap.size ≤ p) (hb : Bytes w0 A xs) (he : Ext w0 w) (hc : Cur w p xs.length A c) (hl : xs.length ≤ 1048576) (hs : ∀ w', Ext w0 w' → Keep p w w' → Ints w' B ls) :
    Calls Try.prog 35 #[.pointer (some ⟨p, 0, none⟩), .slice B ls.length cb] w fun e w' => ∃ x ∈ ls, e = .returned (.int .i64 x) ∧ Cur w' p xs.length A c ∧ Ext w0 w' ∧ Keep p w w' := by
  have c1 := l01Below_any ls.length A c p xs w0 w hl1 hl2 hp hb he hc hl
  have HS := Lib.hid hs
  clear hb he hc hs
  go_enter Try.func35, Try.ntmps35
  go_wp2_with fail
  refine c1.mono ?_
  rintro e w1 ⟨x, rfl, hx, h1, h2, h3⟩
  obtain ⟨b, o, y, rfl, _, hy, hcy⟩ := (HS.out w1 h2 h3).at_ hx
  have H := Lib.hid (And.intro h1 (And.intro h2 h3))
  have HM := Lib.hid (List.mem_of_getElem? hy.out)
  clear c1 h1 h2 h3 hy
  go_wp2_with fail
  go_ret
  exact ⟨y, HM.out, rfl, H.out.1, H.out.2.1, H.out.2.2⟩
/-- all blocks that stood but one are as they were -/
def Keeps (p : Nat) (w w' : World) : Prop := w.heap.size ≤ w'.heap.size ∧ ∀ k, k < w.heap.size → k ≠ p → w'.heap[k]? = w.heap[k]?
theorem Keep.keeps {p : Nat} {w w' : World} (h : Keep p w w') : Keeps p w w' := ⟨by rw [h.1]; exact Nat.le_refl _, fun k _ hk => h.2 k hk⟩
theorem Keeps.trans {p : Nat} {a b c : World} (h : Keeps p a b) (k : Keeps p b c) : Keeps p a c := ⟨Nat.le_trans h.1 k.1, fun i hi hp => (k.2 i (by have := h.1; omega) hp).trans (h.2 i hi hp)⟩
theorem Ext.keeps {p : Nat} {w w' : World} (h : Ext w w') : Keeps p w w' := ⟨h.size, fun k hk _ => h.block k hk⟩
def sixI : List Int := [0, 1, 2, 3, 4, 5]
set_option maxRecDepth 100000 in
set_option maxHeartbeats 4000000 in
theorem l03Direction_any (A : Option Addr) (c p : Nat) (xs : List Int) (w0 w : World) (hp : w0.heap.size ≤ p) (hb : Bytes w0 A xs) (he : Ext w0 w) (hc : Cur w p xs.length A c) (hl : xs.length ≤ 1048576) :
    Calls Try.prog 19 #[.pointer (some ⟨p, 0, none⟩)] w fun e w' => ∃ dx dy : Int, e = .returned (.agg #[.int .i64 dx, .int .i64 dy]) ∧ dirOk dx dy = true ∧ Cur w' p xs.length A c ∧ Ext w0 w' ∧ Keeps p w w' := by
  have hpl := hc.lt
  obtain ⟨W, hW⟩ : ∃ W, W = (w.alloc (.cells #[.int .i64 0, .int .i64 0] 37)).alloc (.cells #[.int .i64 0, .int .i64 1, .int .i64 2, .int .i64 3, .int .i64 4, .int .i64 5] 3) := ⟨_, rfl⟩
  have hWE : Ext w W := by rw [hW]; exact ((Ext.refl w).alloc _).alloc _
  have hsz : W.heap.size = w.heap.size + 2 := by rw [hW]; simp
  have hcells : Ints W (some ⟨w.heap.size + 1, 0, none⟩) sixI := fun k x hk => by
    refine ⟨w.heap.size + 1, 0, rfl, by omega, ?_⟩
    have hk6 : k < 6 := (List.getElem?_eq_some_iff.1 hk).1
    rw [hW]
    have h6 : k = 0 ∨ k = 1 ∨ k = 2 ∨ k = 3 ∨ k = 4 ∨ k = 5 := by omega
    rcases h6 with rfl | rfl | rfl | rfl | rfl | rfl <;> (cases hk; simp)
  have c1 := l01Pick_any (some ⟨w.heap.size + 1, 0, none⟩) 6 sixI A c p xs w0 W (by decide) (by decide) hp hb (he.trans hWE) (hc.blk (hWE.block p hpl)) hl (fun w' _ kp k x hk => by
    obtain ⟨b, o, h1, h2, h3⟩ := hcells k x hk
    cases h1
    exact ⟨_, _, rfl, by rw [kp.1]; exact h2, (cell_blk (kp.2 _ (by omega)) _).trans h3⟩)
  have HW := Lib.hid hW
  have HWE := Lib.hid hWE
  have hcell : ∀ w', Keep p W w' → w'.cell? ⟨w.heap.size, 0, none⟩ = some (.int .i64 0) ∧ w'.cell? ⟨w.heap.size, 1, none⟩ = some (.int .i64 0) ∧ w'.frozen? ⟨w.heap.size, 0, none⟩ = false ∧ w'.frozen? ⟨w.heap.size, 1, none⟩ = false := fun w' kp => by
    have e := kp.2 w.heap.size (by omega)
    refine ⟨(cell_blk e 0).trans ?_, (cell_blk e 1).trans ?_, (frozen_blk e 0).trans ?_, (frozen_blk e 1).trans ?_⟩ <;> (rw [hW]; simp)
  have HCE := Lib.hid hcell
  have HPL := Lib.hid hpl
  clear hb he hc hWE hcells hcell hW hpl
  go_enter Try.func19, Try.ntmps19
  go_wp2_with fail
  rw [← HW.out]
  refine c1.mono ?_
  rintro e w1 ⟨x, hx, rfl, h1, h2, h3⟩
  obtain ⟨d1, d2, d3, d4⟩ := HCE.out w1 h3
  have hs1 : w1.heap.size = w.heap.size + 2 := by rw [h3.1, hsz]
  have HF := Lib.hid (And.intro h1 (And.intro h2 h3))
  have h6 : x = 0 ∨ x = 1 ∨ x = 2 ∨ x = 3 ∨ x = 4 ∨ x = 5 := by
    unfold sixI at hx
    simpa using hx
  clear c1 h1 h2 h3 hx
  have q1 : ∀ (a b : Value) (o : Obj), (((w1.setCell ⟨w.heap.size, 0, none⟩ a).setCell ⟨w.heap.size, 1, none⟩ b).alloc o).cell? ⟨w.heap.size, 0, none⟩ = some a := fun a b o =>
    (((Ext.refl _).alloc o).cell (by simp [hs1])).trans ((World.cell?_setCell_other _ _ _ _ (by simp)).trans (World.cell?_setCell_same _ _ _ d1))
  have q2 : ∀ (a b : Value) (o : Obj), (((w1.setCell ⟨w.heap.size, 0, none⟩ a).setCell ⟨w.heap.size, 1, none⟩ b).alloc o).cell? ⟨w.heap.size, 1, none⟩ = some b := fun a b o =>
    (((Ext.refl _).alloc o).cell (by simp [hs1])).trans (World.cell?_setCell_same _ _ _ ((World.cell?_setCell_other _ _ _ _ (by simp)).trans d2))
  have q3 : ∀ (a b : Value) (o : Obj) (k : Nat), k < w.heap.size → (((w1.setCell ⟨w.heap.size, 0, none⟩ a).setCell ⟨w.heap.size, 1, none⟩ b).alloc o).heap[k]? = w1.heap[k]? := fun a b o k hk =>
    (((Ext.refl _).alloc o).block k (by simp [hs1]; omega)).trans ((Below.heap_setCell _ _ _ _ (by show k ≠ w.heap.size; omega)).trans (Below.heap_setCell _ _ _ _ (by show k ≠ w.heap.size; omega)))
  have HD : Hid (∀ (a b : Value) (o : Obj), Cur (((w1.setCell ⟨w.heap.size, 0, none⟩ a).setCell ⟨w.heap.size, 1, none⟩ b).alloc o) p xs.length A c ∧ Ext w0 (((w1.setCell ⟨w.heap.size, 0, none⟩ a).setCell ⟨w.heap.size, 1, none⟩ b).alloc o) ∧ Keeps p w (((w1.setCell ⟨w.heap.size, 0, none⟩ a).setCell ⟨w.heap.size, 1, none⟩ b).alloc o)) := Lib.hid fun a b o => by
    have hw0 : w0.heap.size ≤ w.heap.size := by have := HPL.out; omega
    have e1 : Ext w0 (w1.setCell ⟨w.heap.size, 0, none⟩ a) := Below.setCell HF.out.2.1 hw0 _
    have e2 : Ext w0 ((w1.setCell ⟨w.heap.size, 0, none⟩ a).setCell ⟨w.heap.size, 1, none⟩ b) := Below.setCell e1 hw0 _
    refine ⟨HF.out.1.blk (q3 a b o p HPL.out), e2.alloc _, by simp [hs1]; omega, fun k hk hkp => ?_⟩
    exact (q3 a b o k hk).trans ((HF.out.2.2.2 k hkp).trans (HWE.out.block k hk))
  have Q1 := Lib.hid q1
  have Q2 := Lib.hid q2
  clear q1 q2 q3
  rcases h6 with rfl | rfl | rfl | rfl | rfl | rfl
  · go_wp2_with fail
    exact bodyPost_ret (v := .agg #[.int .i64 1, .int .i64 0]) (by simp [results, Try.results19, go_sem, Q1.out, Q2.out]) rfl ⟨1, 0, rfl, by decide, HD.out _ _ _⟩
  · go_wp2_with fail
    exact bodyPost_ret (v := .agg #[.int .i64 0, .int .i64 1]) (by simp [results, Try.results19, go_sem, Q1.out, Q2.out]) rfl ⟨0, 1, rfl, by decide, HD.out _ _ _⟩
  · go_wp2_with fail
    exact bodyPost_ret (v := .agg #[.int .i64 1, .int .i64 1]) (by simp [results, Try.results19, go_sem, Q1.out, Q2.out]) rfl ⟨1, 1, rfl, by decide, HD.out _ _ _⟩
  · go_wp2_with fail
    exact bodyPost_ret (v := .agg #[.int .i64 1, .int .i64 (-1)]) (by simp [results, Try.results19, go_sem, Q1.out, Q2.out]) rfl ⟨1, -1, rfl, by decide, HD.out _ _ _⟩
  · go_wp2_with fail
    exact bodyPost_ret (v := .agg #[.int .i64 2, .int .i64 1]) (by simp [results, Try.results19, go_sem, Q1.out, Q2.out]) rfl ⟨2, 1, rfl, by decide, HD.out _ _ _⟩
  · go_wp2_with fail
    exact bodyPost_ret (v := .agg #[.int .i64 1, .int .i64 2]) (by simp [results, Try.results19, go_sem, Q1.out, Q2.out]) rfl ⟨1, 2, rfl, by decide, HD.out _ _ _⟩
end Go.Proofs.Ytmffhmokbifadaa
