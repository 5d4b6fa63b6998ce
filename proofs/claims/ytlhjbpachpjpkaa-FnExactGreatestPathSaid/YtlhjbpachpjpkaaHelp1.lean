/- The laws' own helpers: copies of slices, comparisons of slices, their sizes. -/
import Derived.Test.YtlhjbpachpjpkaaMem
import Derived.Deep.OwnRows
namespace Go.Proofs.Ytlhjbpachpjpkaa
open Go.RowKit

theorem infoInt : (Try.prog.info? 3).map (fun i => (i.zero, i.size, i.bytes)) = some (some (.int .i64 0), 1, 8) := by kernel_rfl
theorem infoInts : (Try.prog.info? 28).map (fun i => (i.zero, i.size, i.bytes)) = some (some (.slice none 0 0), 1, 24) := by kernel_rfl

/-- block b is a row of these numbers, and of nothing else; it may be written -/
def IntRow (w : World) (b : Nat) (xs : List Int) : Prop := w.rowIs b 3 xs.length (fun i => .int .i64 (xs[i]?.getD 0))

theorem IntRow.ints {w : World} {b : Nat} {xs : List Int} (h : IntRow w b xs) : Ints w (some ⟨b, 0, none⟩) xs := fun k x hk => by
  have hlt : k < xs.length := by
    rcases Nat.lt_or_ge k xs.length with h1 | h1
    · exact h1
    · rw [List.getElem?_eq_none h1] at hk; cases hk
  refine ⟨b, 0, rfl, h.lt, ?_⟩
  have := h.cell hlt
  rw [hk] at this
  simpa using this

theorem IntRow.ext {w w' : World} {b : Nat} {xs : List Int} (h : IntRow w b xs) (e : Ext w w') : IntRow w' b xs := h.of_block (e.block b h.lt)

/-- the world with a new row of these numbers, its first new block -/
structure NewInts (w w' : World) (xs : List Int) : Prop where
  row : IntRow w' w.heap.size xs
  ext : Ext w w'
  size : w'.heap.size = w.heap.size + 1

/-- at most draws -/
def Drew (w w' : World) : Prop := ∃ n, w' = w.drewN n
theorem Drew.refl (w : World) : Drew w w := ⟨0, rfl⟩
theorem Drew.ext {w w' : World} (h : Drew w w') : Ext w w' := by obtain ⟨n, rfl⟩ := h; exact (Ext.refl w).drewN n
theorem Drew.drewN {w w' : World} (h : Drew w w') (n : Nat) : Drew w (w'.drewN n) := by obtain ⟨m, rfl⟩ := h; exact ⟨m + n, by rw [World.drewN_drewN]⟩

theorem toIntS_any (A : Option Addr) (cap : Nat) (xs : List Int) (w : World) (hl : xs.length ≤ 1048576) (hx : Ints w A xs) :
    Calls Try.prog 27 #[.slice A xs.length cap] w fun e w' => e = .returned (.slice (some ⟨w.heap.size, 0, none⟩) xs.length xs.length) ∧ NewInts w w' xs := by
  have hmk := run_make_row' (P := Try.prog) 28 3 (.int .i64 0) 8 Try.underlying28 infoInt rfl .i64 .i64 xs.length (by omega) (by omega)
  go_enter Try.func27, Try.ntmps27
  go_wp2
  clear hmk
  go_loopw [4] (fun i wr => ∃ k : Nat, k ≤ xs.length ∧ i = .int .i64 k ∧ Hid (wr.rowIs w.heap.size 3 xs.length (fun i => if i < k then .int .i64 (xs[i]?.getD 0) else .int .i64 0) ∧ Ext w wr ∧ wr.heap.size = w.heap.size + 1)) (fun i _ => xs.length - (intOf i).toNat)
  case atStart => exact ⟨0, Nat.zero_le _, rfl, Lib.hid ⟨(World.rowIs_made w (.int .i64 0) xs.length 3).congr (fun i _ => by simp), (Ext.refl w).alloc _, by simp⟩⟩
  case round =>
    obtain ⟨k, hk, rfl, hrel⟩ := hrel
    obtain ⟨hrow, hext, hsize⟩ := hrel.out
    by_cases hlt : k < xs.length
    · obtain ⟨b, o, x, rfl, hb, HX, hcell0⟩ := hx.at_ hlt
      have hcell : wr.cell? ⟨b, o + k, none⟩ = some (.int .i64 x) := (hext.cell (p := ⟨b, o + k, none⟩) hb).trans hcell0
      have hcell2 := hrow.cell hlt
      have hfr := hrow.frozen k
      have HR := Lib.hid (And.intro hrow (And.intro hext hsize))
      clear hrow hext hx hcell0 hsize
      go_wp2
      go_roundw
      case rel =>
        refine ⟨k + 1, by omega, by go_num, Lib.hid ⟨((HR.out.1.set k _).congr (fun i hi => ?_)), ?_, by simpa using HR.out.2.2⟩⟩
        · by_cases e : i = k
          · subst e; simp [HX.out]
          · by_cases e2 : i < k
            · have e3 : i < k + 1 := by omega
              simp [e, e2, e3]
            · have e3 : ¬ i < k + 1 := by omega
              simp [e, e2, e3]
        · exact Below.setCell HR.out.2.1 (Nat.le_refl _) _
      case measure => simp [intOf]; omega
    · obtain rfl : k = xs.length := by omega
      go_wp2
      go_ret
      exact ⟨rfl, ⟨hrow.congr (fun i hi => by simp [hi]), hext, hsize⟩⟩

theorem eqIntS_same (A B : Option Addr) (ca cb : Nat) (xs : List Int) (w : World) (hl : xs.length ≤ 1048576) (hx : Ints w A xs) (hy : Ints w B xs) :
    Calls Try.prog 29 #[.slice A xs.length ca, .slice B xs.length cb] w fun e w' => e = .returned (.bool true) ∧ Drew w w' := by
  go_enter Try.func29, Try.ntmps29
  go_wp2
  go_loopw [5] (fun i wr => ∃ k : Nat, k ≤ xs.length ∧ i = .int .i64 k ∧ Hid (Drew w wr)) (fun i _ => xs.length - (intOf i).toNat)
  case atStart => exact ⟨0, Nat.zero_le _, rfl, Lib.hid (Drew.refl w)⟩
  case round =>
    obtain ⟨k, hk, rfl, hd⟩ := hrel
    by_cases hlt : k < xs.length
    · obtain ⟨b, o, x, rfl, _, HX, hcell⟩ := (hx.ext hd.out.ext).at_ hlt
      obtain ⟨b', o', x', rfl, _, HX', hcell'⟩ := (hy.ext hd.out.ext).at_ hlt
      obtain rfl : x' = x := by have := HX.out.symm.trans HX'.out; injection this with this; exact this.symm
      clear hx hy
      go_wp2
      go_quiet (fail)
      go_wp2
      go_roundw
      case rel => exact ⟨k + 1, by omega, by go_num, Lib.hid (hd.out.drewN _)⟩
      case measure => simp [intOf]; omega
    · obtain rfl : k = xs.length := by omega
      go_wp2
      go_ret
      exact ⟨rfl, hd.out⟩
end Go.Proofs.Ytlhjbpachpjpkaa
