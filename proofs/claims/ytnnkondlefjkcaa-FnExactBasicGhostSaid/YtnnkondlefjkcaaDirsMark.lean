/- Marks in a list of directions. -/
import Derived.Test.YtnnkondlefjkcaaDirs2
import Derived.Test.YtnnkondlefjkcaaMark4
namespace Go.Proofs.Ytnnkondlefjkcaa
open Go.RowKit Tomo

structure DirsIn (w : World) (lo hi b : Nat) (ds : List (Int × Int)) : Prop where
  row : w.rowIs b 32 (ds.length * 2) (dcell ds)
  lo : lo ≤ b
  hi : b < hi
theorem DirsIn.seg {w w' : World} {lo hi b : Nat} {ds : List (Int × Int)} (h : DirsIn w lo hi b ds) (k : Seg lo hi w w') : DirsIn w' lo hi b ds := ⟨h.row.of_block (k b h.lo h.hi), h.lo, h.hi⟩
theorem toDirectionS_in {w w' : World} {ds : List (Int × Int)} (h : NewDirs w w' ds) : DirsIn w' w.heap.size w'.heap.size w.heap.size ds := ⟨h.row, Nat.le_refl _, h.row.lt⟩
theorem DirsIn.dirs {w : World} {lo hi b : Nat} {ds : List (Int × Int)} (h : DirsIn w lo hi b ds) : LDirs w (some ⟨b, 0, none⟩) ds := fun k d hk => by
  have hlt : k < ds.length := by
    rcases Nat.lt_or_ge k ds.length with h1 | h1
    · exact h1
    · rw [List.getElem?_eq_none h1] at hk; cases hk
  have h1 := h.row.cell (i := k * 2) (by omega)
  have h2 := h.row.cell (i := k * 2 + 1) (by omega)
  refine ⟨b, 0, rfl, h.row.lt, ?_, ?_⟩
  · rw [show 0 + k * 2 = k * 2 by omega, h1]
    simp [dcell, hk]
  · rw [show 0 + k * 2 + 1 = k * 2 + 1 by omega, h2]
    have e1 : (k * 2 + 1) % 2 = 1 := by omega
    have e2 : (k * 2 + 1) / 2 = k := by omega
    simp [dcell, e1, e2, hk]

set_option maxHeartbeats 2000000 in
theorem markDirectionS_any (b n c : Nat) (f : Nat → Value) (K : Nat) (w : World) (hn : n ≤ 1048576) (hK : K ≤ 100000000000) (hx : w.rowIs b 32 (n * 2) f) :
    Calls Try.prog 40 #[.slice (some ⟨b, 0, none⟩) n c, .int .i64 (K : Int)] w fun e w' => e = .returned (.int .i64 ((K + 2 * n : Nat) : Int)) ∧ Only w w' (fun b' => b' = b) := by
  have HX := Lib.hid hx
  clear hx
  go_enter Try.func40, Try.ntmps40
  go_wp2
  go_loopw [5, 1] (fun i t wr => ∃ j : Nat, j ≤ n ∧ i = .int .i64 j ∧ t = .int .i64 ((K + 2 * j : Nat) : Int) ∧ Hid (∃ f, wr.rowIs b 32 (n * 2) f) ∧ Hid (Only w wr (fun b' => b' = b))) (fun i _ _ => n - (intOf i).toNat)
  case atStart => exact ⟨0, Nat.zero_le _, rfl, by simp, Lib.hid ⟨f, HX.out⟩, Lib.hid (Only.refl _ _)⟩
  case round =>
    obtain ⟨j, hj, rfl, rfl, ho, hon⟩ := hrel
    by_cases hlt : j < n
    · obtain ⟨f', hr⟩ := ho.out
      have hc1 := hr.cell (i := j * 2) (by omega)
      have hc2 := hr.cell (i := j * 2 + 1) (by omega)
      have hf1 := hr.frozen (j * 2)
      have hf2 := hr.frozen (j * 2 + 1)
      obtain ⟨M, hM⟩ : ∃ M, K + 2 * j = M := ⟨_, rfl⟩
      rw [hM]
      have HM := Lib.hid hM
      have hM1 : M ≤ 200000000000 := by omega
      obtain ⟨v1, hv1⟩ : ∃ v, f' (j * 2) = v := ⟨_, rfl⟩
      obtain ⟨v2, hv2⟩ : ∃ v, f' (j * 2 + 1) = v := ⟨_, rfl⟩
      rw [hv1] at hc1
      rw [hv2] at hc2
      have HR := Lib.hid hr
      clear hr ho hM hv1 hv2
      go_wp2
      go_roundw
      case rel => exact ⟨j + 1, by omega, by go_num, by first | rfl | (congr 1; have := HM.out; omega), Lib.hid ⟨_, (HR.out.set _ _).set _ _⟩, Lib.hid (hon.out.trans (((Only.set _ b _ _).mono fun b' h => by first | exact h | exact h.symm).trans ((Only.set _ b _ _).mono fun b' h => by first | exact h | exact h.symm)))⟩
      case measure => simp [intOf]; omega
    · obtain rfl : j = n := by omega
      go_wp2
      go_ret
      exact ⟨rfl, hon.out⟩
theorem markDirectionS_in {lo hi b c : Nat} {ds : List (Int × Int)} {k : Int} {w : World} (K : Nat) (hk : k = K) (hK : K ≤ 100000000000) (hl : ds.length ≤ 1048576) (ho : DirsIn w lo hi b ds) :
    Calls Try.prog 40 #[.slice (some ⟨b, 0, none⟩) ds.length c, .int .i64 k] w fun e w' => ∃ K' : Nat, e = .returned (.int .i64 K') ∧ Hid (K' = K + 2 * ds.length) ∧ True ∧ Only w w' (fun b => lo ≤ b ∧ b < hi) := by
  subst hk
  exact (markDirectionS_any b ds.length c _ K w hl hK ho.row).mono fun e w' ⟨h1, h2⟩ => ⟨_, h1, Lib.hid rfl, trivial, h2.mono fun b' hb => by subst hb; exact ⟨ho.lo, ho.hi⟩⟩
end Go.Proofs.Ytnnkondlefjkcaa
