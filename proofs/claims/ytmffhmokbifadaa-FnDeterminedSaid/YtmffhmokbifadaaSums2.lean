/- The sums of an image: their bounds. -/
import Derived.Test.YtmffhmokbifadaaLineSums2
namespace Go.Proofs.Ytmffhmokbifadaa
open Go.RowKit Tomo

theorem gsI_len {m : Grid} {dx dy : Int} (h : gridOk m 0 1 = true) (hd : dirOk dx dy = true) : ((gsI m dx dy).length : Int) = countN m.length (m.headD []).length dx dy ∧ (gsI m dx dy).length ≤ 100 := by
  have hm := Img.of h
  obtain ⟨hn1, hn5⟩ := hm.2.1
  obtain ⟨hk1, hk5⟩ := hm.2.2.1
  obtain ⟨d1, d2⟩ := dir_bd hd
  have h4 := countN_bd (n := m.length) (k := (m.headD []).length) d1 d2 (by omega) (by omega)
  unfold gsI
  rw [if_pos ⟨bits_wide h, hd⟩]
  unfold lsI
  rw [List.length_map, List.length_range]
  omega
theorem gsI_bd {m : Grid} {dx dy : Int} (h : gridOk m 0 1 = true) (hd : dirOk dx dy = true) : ∀ x ∈ gsI m dx dy, -100000 ≤ x ∧ x ≤ 100000 := by
  obtain ⟨_, hn, hk, hb⟩ := grid_bd (bits_wide h)
  unfold gsI
  rw [if_pos ⟨bits_wide h, hd⟩]
  intro x hx
  unfold lsI at hx
  obtain ⟨j, _, rfl⟩ := List.mem_map.1 hx
  have b1 := sum2_bd (f := onLine m (m.headD []).length dx dy j) (C := 100) (k := (m.headD []).length) (a := m.length) (fun i x hi hx => onLine_bd (by omega) hb dx dy j hi hx)
  have h5 : ((m.headD []).length : Int) = 1 ∨ ((m.headD []).length : Int) = 2 ∨ ((m.headD []).length : Int) = 3 ∨ ((m.headD []).length : Int) = 4 ∨ ((m.headD []).length : Int) = 5 := by omega
  rcases h5 with h5 | h5 | h5 | h5 | h5 <;> rw [h5] at b1 <;> omega
theorem sums_bits {m : Grid} {n : Nat} (hb : ∀ r ∈ m, allIn r 0 1 = true) (hs : ∀ r ∈ m, r.length = n) : allIn (m.map List.sum) 0 n = true := by
  unfold allIn
  rw [List.all_eq_true]
  intro x hx
  obtain ⟨r, hr, rfl⟩ := List.mem_map.1 hx
  have h1 := bits_sumI (hb r hr)
  rw [hs r hr] at h1
  exact inR_iff.2 ⟨h1.1, h1.2.1⟩
theorem tr_head {m : Grid} (h : gridOk m 0 1 = true) : (tr m).length = (m.headD []).length ∧ ((tr m).headD []).length = m.length := by
  have hm := Img.of h
  obtain ⟨hk1, hk5⟩ := hm.2.2.1
  have hs := tr_shape m
  refine ⟨hs.1, ?_⟩
  cases e : tr m with
  | nil => rw [e] at hs; have h0 := hs.1; rw [List.length_nil] at h0; omega
  | cons r l => exact hs.2 r (by rw [e]; exact List.mem_cons_self)
theorem rsI_len {m : Grid} (h : gridOk m 0 1 = true) : (rsI m).length = m.length := by unfold rsI; rw [if_pos h, List.length_map]
theorem csI_len {m : Grid} (h : gridOk m 0 1 = true) : (csI m).length = (m.headD []).length := by unfold csI; rw [if_pos h, List.length_map, (tr_shape m).1]
theorem rsI_in {m : Grid} (h : gridOk m 0 1 = true) : allIn (rsI m) 0 (m.headD []).length = true := by
  have hm := Img.of h
  unfold rsI
  rw [if_pos h]
  exact sums_bits hm.2.2.2 hm.1.2
theorem csI_in {m : Grid} (h : gridOk m 0 1 = true) : allIn (csI m) 0 m.length = true := by
  have ht := gridOk_tr h
  have hm := Img.of ht
  obtain ⟨e1, e2⟩ := tr_head h
  unfold csI
  rw [if_pos h, ← e2]
  exact sums_bits hm.2.2.2 hm.1.2
theorem sums_ok {m : Grid} (h : gridOk m 0 1 = true) : sumsOk (rsI m) (csI m) = true := by
  have hm := Img.of h
  obtain ⟨hn1, hn5⟩ := hm.2.1
  obtain ⟨hk1, hk5⟩ := hm.2.2.1
  have h1 := rsI_in h
  have h2 := csI_in h
  unfold sumsOk
  rw [rsI_len h, csI_len h, h1, h2, rsI_total h, csI_total h]
  simp only [Bool.and_eq_true, inR_iff, beq_iff_eq]
  refine ⟨⟨⟨⟨⟨?_, ?_⟩, ?_, ?_⟩, ?_⟩, ?_⟩, ?_⟩ <;> first | trivial | omega
theorem in_bd {l : List Int} {n : Nat} (h : allIn l 0 n = true) (hn : n ≤ 5) : ∀ x ∈ l, -100000 ≤ x ∧ x ≤ 100000 := fun x hx => by
  have := inR_iff.1 ((List.all_eq_true.1 h) x hx)
  omega
theorem rsI_tr {m : Grid} (h : gridOk m 0 1 = true) : rsI (tr m) = csI m := by
  unfold rsI csI
  rw [if_pos h, if_pos (gridOk_tr h)]
end Go.Proofs.Ytmffhmokbifadaa
