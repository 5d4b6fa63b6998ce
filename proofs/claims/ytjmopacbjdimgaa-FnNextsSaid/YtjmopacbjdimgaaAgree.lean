/- Images that agree with one in some cells. -/
import Derived.Test.YtjmopacbjdimgaaMasked
import Derived.Test.YtjmopacbjdimgaaSums
namespace Go.Proofs.Ytjmopacbjdimgaa
open Go.RowKit Tomo

/-- the cell with this number -/
def cellAt (m : Grid) (k : Nat) (c : Int) : Int := at2 m (c.toNat / k) (c.toNat % k)
def agrees (m x : Grid) (k : Nat) (cells : List Int) : Bool := cells.all fun c => cellAt m k c == cellAt x k c
noncomputable def agreeOk (m : Grid) (cells : List Int) : Bool := gridOk m 0 1 && rising cells (m.length * (m.headD []).length : Nat)
noncomputable def agreeI (m : Grid) (cells : List Int) : List Grid := (allI (rsI m) (csI m)).filter fun x => agrees m x (m.headD []).length cells
noncomputable def agreeCount (m : Grid) (cells : List Int) : Int := if agreeOk m cells = true then ((agreeI m cells).length : Int) else -1

theorem rising_all {xs : List Int} {lim : Int} (h : rising xs lim = true) : ∀ c ∈ xs, 0 ≤ c ∧ c < lim := by
  intro c hc
  obtain ⟨i, hi⟩ := List.mem_iff_getElem?.1 hc
  have hlt := (List.getElem?_eq_some_iff.1 hi).1
  unfold rising at h
  rw [List.all_eq_true] at h
  have h2 := h i (List.mem_range.2 hlt)
  cases i with
  | zero => rw [riseAt_zero hi, inR_iff] at h2; omega
  | succ i =>
    rw [riseAt_next hi (List.getElem?_eq_getElem (by omega)), Bool.and_eq_true, inR_iff] at h2
    omega

theorem rs_len {m : Grid} (h : gridOk m 0 1 = true) : (rsI m).length = m.length ∧ (csI m).length = (m.headD []).length := by
  unfold rsI csI
  rw [if_pos h, if_pos h, List.length_map, List.length_map]
  exact ⟨rfl, (tr_shape m).1⟩
theorem cell_split {n k c : Nat} (hk : 0 < k) (h : c < n * k) : c / k < n ∧ c % k < k :=
  ⟨(Nat.div_lt_iff_lt_mul hk).2 h, Nat.mod_lt _ hk⟩
theorem Img.cell2 {m : Grid} {n k C : Nat} (h : Img m n k) (hk : 0 < k) (hC : C < n * k) {w : World} {A : Option Addr} (hg : GridAt w A m) :
    ∃ b o cR b3 o3 v, A = some ⟨b, o, none⟩ ∧ b < w.heap.size ∧ w.cell? ⟨b, o + C / k, none⟩ = some (.slice (some ⟨b3, o3, none⟩) k cR) ∧ w.cell? ⟨b3, o3 + C % k, none⟩ = some (.int .i64 v) ∧ Hid (at2 m (C / k) (C % k) = v) ∧ (v = 0 ∨ v = 1) := by
  obtain ⟨h1, h2⟩ := cell_split hk hC
  obtain ⟨r, v, hr, hrl, hv, h01⟩ := h.cell h1 h2
  obtain ⟨b, o, R, cR, r', rfl, hb, hr', hq, hints⟩ := hg.at_ (k := C / k) (by rw [h.1.1]; exact h1)
  obtain rfl : r' = r := by have := hr'.out; rw [hr] at this; exact (Option.some.inj this).symm
  obtain ⟨b3, o3, v', rfl, _, hv', hq3⟩ := hints.at_ (k := C % k) (by omega)
  obtain rfl : v' = v := by have := hv'.out; rw [hv] at this; exact (Option.some.inj this).symm
  rw [hrl] at hq
  exact ⟨b, o, cR, b3, o3, v', rfl, hb, hq, hq3, Lib.hid (at2_of hr hv), h01⟩
theorem Img.head2 {m : Grid} {n k : Nat} (h : Img m n k) {w : World} {b o : Nat} (hg : GridAt w (some ⟨b, o, none⟩) m) : ∃ R c, w.cell? ⟨b, o, none⟩ = some (.slice R k c) := by
  obtain ⟨R, c, r, hr, hq, _⟩ := hg.at1 (k := 0) (by rw [h.1.1]; have := h.2.1.1; omega)
  exact ⟨R, c, by rw [Nat.add_zero] at hq; rw [hq, h.1.row hr.out]⟩
theorem agrees_succ {m x : Grid} {k j C : Nat} {cells : List Int} (h : cells[j]? = some (C : Int)) : agrees m x k (cells.take (j + 1)) = (agrees m x k (cells.take j) && (at2 m (C / k) (C % k) == at2 x (C / k) (C % k))) := by
  unfold agrees; rw [take_all_succ h]; simp [cellAt]
theorem agrees_bad {m x : Grid} {k j C : Nat} {cells : List Int} (h : cells[j]? = some (C : Int)) (hne : (at2 m (C / k) (C % k) == at2 x (C / k) (C % k)) = false) : agrees m x k cells = false := by
  unfold agrees; exact all_false_of h _ (by simpa [cellAt] using hne)





end Go.Proofs.Ytjmopacbjdimgaa
