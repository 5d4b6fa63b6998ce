/- Conjugates and sorted lists. -/
import Derived.Test.YtmcnpdpplmbofaaRows1
import Derived.Test.YtmcnpdpplmbofaaTomoGR
import Derived.Test.YtmcnpdpplmbofaaRead3
namespace Go.Proofs.Ytmcnpdpplmbofaa
open Go.RowKit Tomo

/-- the conjugate of the first i rows, and one more in its first k cells -/
def cj (rows : List Int) (n i k : Nat) : List Int := (List.range n).map fun (j : Nat) => (((rows.take i).countP fun r => decide ((j : Int) < r) : Nat) : Int) + if j < k then 1 else 0
def conj (rows : List Int) (n : Nat) : List Int := cj rows n rows.length 0
theorem cj_len (rows : List Int) (n i k : Nat) : (cj rows n i k).length = n := by simp [cj]
theorem cj_at (rows : List Int) {n i k j : Nat} (h : j < n) : (cj rows n i k)[j]? = some ((((rows.take i).countP fun r => decide ((j : Int) < r) : Nat) : Int) + if j < k then 1 else 0) := by
  unfold cj; rw [List.getElem?_map, List.getElem?_range h]; rfl
theorem cj_set (rows : List Int) {n i k : Nat} {c : Int} (h : k < n) (hc : (cj rows n i k)[k]? = some c) : (cj rows n i k).set k (c + 1) = cj rows n i (k + 1) := by
  rw [cj_at rows h] at hc
  apply List.ext_getElem?
  intro j
  by_cases hj : j < n
  · by_cases e : j = k
    · subst e
      rw [List.getElem?_set_self (by rw [cj_len]; exact h), cj_at rows h]
      have := Option.some.inj hc
      have h1 : ¬ j < j := by omega
      have h2 : j < j + 1 := by omega
      rw [if_neg h1] at this
      rw [if_pos h2]
      congr 1; omega
    · rw [List.getElem?_set_ne (fun h => e h.symm), cj_at rows hj, cj_at rows hj]
      congr 2
      by_cases h3 : j < k
      · rw [if_pos h3, if_pos (by omega)]
      · rw [if_neg h3, if_neg (by omega)]
  · rw [List.getElem?_eq_none (by rw [List.length_set, cj_len]; omega), List.getElem?_eq_none (by rw [cj_len]; omega)]
theorem cj_next (rows : List Int) {n i : Nat} {x : Int} {k : Nat} (hx : rows[i]? = some x) (hk : x = k) : cj rows n i k = cj rows n (i + 1) 0 := by
  unfold cj
  apply List.map_congr_left
  intro j _
  rw [take_succ_of hx, List.countP_append]
  by_cases h : j < k
  · have h2 : (j : Int) < x := by omega
    simp [h, h2]
  · have h2 : ¬ (j : Int) < x := by omega
    simp [h, h2]
theorem conj_take_sum (rows : List Int) {n k : Nat} (hk : k ≤ n) (h0 : ∀ r ∈ rows, 0 ≤ r) : ((conj rows n).take k).sum = mostIn rows k := by
  have e : (conj rows n).take k = (List.range k).map fun (j : Nat) => ((rows.countP fun r => decide ((j : Int) < r) : Nat) : Int) := by
    unfold conj cj
    rw [← List.map_take, List.take_range, Nat.min_eq_left hk]
    apply List.map_congr_left
    intro j _
    simp
  rw [e]
  clear e
  induction rows with
  | nil =>
    unfold mostIn
    have : ∀ l : List Nat, (l.map fun (j : Nat) => ((([] : List Int).countP fun r => decide ((j : Int) < r) : Nat) : Int)).sum = 0 := by
      intro l; induction l with
      | nil => rfl
      | cons a l ih => rw [List.map_cons, List.sum_cons, ih]; rfl
    rw [this]; rfl
  | cons r rows ih =>
    have ih' := ih (fun r hr => h0 r (List.mem_cons_of_mem _ hr))
    have hr0 := h0 r List.mem_cons_self
    unfold mostIn at *
    rw [List.map_cons, List.sum_cons, ← ih']
    have key : ∀ k : Nat, ((List.range k).map fun (j : Nat) => (((r :: rows).countP fun r => decide ((j : Int) < r) : Nat) : Int)).sum = min (k : Int) r + ((List.range k).map fun (j : Nat) => ((rows.countP fun r => decide ((j : Int) < r) : Nat) : Int)).sum := by
      intro k
      induction k with
      | zero => simp; omega
      | succ k ihk =>
        rw [List.range_succ, List.map_append, List.map_append, List.sum_append, List.sum_append, ihk]
        simp only [List.map_cons, List.map_nil, List.sum_cons, List.sum_nil, List.countP_cons]
        by_cases h : (k : Int) < r
        · simp [h]; omega
        · simp [h]; omega
    exact key k

set_option maxHeartbeats 2000000 in
theorem ConjugateOf_any (A : Option Addr) (c : Nat) (rows : List Int) (n : Nat) (w : World) (hl : rows.length ≤ 5) (hn1 : 1 ≤ n) (hn5 : n ≤ 5) (hin : allIn rows 0 n = true) (hx : Ints w A rows) :
    Calls Try.prog 55 #[.slice A rows.length c, .int .i64 n] w fun e w' => ∃ b, e = .returned (.slice (some ⟨b, 0, none⟩) n n) ∧ Own w' w.heap.size (.slice (some ⟨b, 0, none⟩) n n) (conj rows n) ∧ Ext w w' := by
  have b1 : inR n 1 5 = true := inR_iff.2 (by omega)
  have HIN : Hid (∀ x ∈ rows, inR x 0 n = true) := Lib.hid (fun x hx => (List.all_eq_true.1 hin) x hx)
  have hmk := run_make_row' (P := Try.prog) 23 3 (.int .i64 0) 8 Try.underlying23 infoInt rfl .i64 .i64 n (by omega) (by omega)
  have HZ : Hid (Own (w.alloc (.cells (madeCells #[.int .i64 0] n) 3)) w.heap.size (.slice (some ⟨w.heap.size, 0, none⟩) n n) (cj rows n 0 0)) := Lib.hid (by
    have h := own_zeros w n (by omega)
    have e : List.replicate n (0 : Int) = cj rows n 0 0 := by
      apply List.ext_getElem?
      intro j
      by_cases hj : j < n
      · rw [cj_at rows hj, List.getElem?_replicate, if_pos hj]; simp
      · rw [List.getElem?_eq_none (by simp; omega), List.getElem?_eq_none (by rw [cj_len]; omega)]
    rw [e] at h; exact h)
  clear hin
  go_enter Try.func55, Try.ntmps55
  go_wp2_with (go_at_call 32; refine (l01In_any _ _ _ _).mono ?_; rintro e w' ⟨rfl, rfl⟩)
  clear hmk
  go_loopw [21, 7, 8] (fun i _ _ wr => ∃ k : Nat, k ≤ rows.length ∧ i = .int .i64 k ∧ Hid (Own wr w.heap.size (.slice (some ⟨w.heap.size, 0, none⟩) n n) (cj rows n k 0)) ∧ Hid (Ext w wr)) (fun i _ _ _ => rows.length - (intOf i).toNat)
  case atStart => exact ⟨0, Nat.zero_le _, rfl, HZ, Lib.hid ((Ext.refl w).alloc _)⟩
  case round =>
    rename World => wo
    obtain ⟨k, hk, rfl, ho, he⟩ := hrel
    by_cases hlt : k < rows.length
    · obtain ⟨b, o, x, rfl, _, HX, hcx⟩ := (hx.ext he.out).at_ hlt
      have b2 := HIN.out x (List.mem_of_getElem? HX.out)
      obtain ⟨x0, xn⟩ := inR_iff.1 b2
      clear hx
      go_wp2_with (go_at_call 32; refine (l01In_any _ _ _ _).mono ?_; rintro e w' ⟨rfl, rfl⟩)
      go_loopw [8] (fun i wr => ∃ j : Nat, (j : Int) ≤ x ∧ i = .int .i64 j ∧ Hid (Own wr w.heap.size (.slice (some ⟨w.heap.size, 0, none⟩) n n) (cj rows n k j)) ∧ Hid (Ext w wr)) (fun i _ => x.toNat - (intOf i).toNat)
      case atStart => exact ⟨0, by omega, rfl, ho, he⟩
      case round =>
        clear ho
        obtain ⟨j, hj, rfl, ho, he'⟩ := hrel
        by_cases hjx : (j : Int) < x
        · have hlen : (cj rows n k j).length = n := cj_len rows n k j
          have hjn : j < (cj rows n k j).length := by rw [hlen]; omega
          have ho1 := ho.out
          rw [show (Value.slice (some ⟨w.heap.size, 0, none⟩) n n) = .slice (some ⟨w.heap.size, 0, none⟩) (cj rows n k j).length n by rw [hlen]] at ho1
          obtain ⟨⟨c0, hc0, hcell⟩, hfr, hset⟩ := ho1.put hjn
          have hs := hset (c0 + 1)
          rw [cj_set rows (by omega) hc0, hlen] at hs
          have HS := Lib.hid hs
          have hcb : 0 ≤ c0 ∧ c0 ≤ 100 := by
            rw [cj_at rows (by omega)] at hc0
            have h1 := Option.some.inj hc0
            have h2 : (rows.take k).countP (fun r => decide ((j : Int) < r)) ≤ (rows.take k).length := List.countP_le_length
            have h3 : (rows.take k).length ≤ 5 := by rw [List.length_take]; omega
            have h4 : ¬ j < j := by omega
            rw [if_neg h4] at h1
            omega
          obtain ⟨hcb1, hcb2⟩ := hcb
          have HE2 : Hid (Ext w (wr.setCell ⟨w.heap.size, j, none⟩ (.int .i64 (c0 + 1)))) := Lib.hid (Below.setCell he'.out (Nat.le_refl _) _)
          clear hset hs ho1 hc0 hlen hjn
          go_wp2
          go_roundw
          case rel => exact ⟨j + 1, by omega, by go_num, HS, HE2⟩
          case measure => simp [intOf]; omega
        · obtain ⟨m, rfl⟩ : ∃ m : Nat, x = m := ⟨x.toNat, by omega⟩
          obtain rfl : j = m := by omega
          have HN := Lib.hid (cj_next (n := n) rows HX.out rfl)
          go_wp2
          go_roundw
          case rel => exact ⟨k + 1, by omega, by go_num, Lib.hid (by rw [← HN.out]; exact ho.out), he'⟩
          case measure => simp [intOf]; omega
    · obtain rfl : k = rows.length := by omega
      go_wp2
      go_ret
      exact ⟨_, rfl, ho.out, he.out⟩
end Go.Proofs.Ytmcnpdpplmbofaa
