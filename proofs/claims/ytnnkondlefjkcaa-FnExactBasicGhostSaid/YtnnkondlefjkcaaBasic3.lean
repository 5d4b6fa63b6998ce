/- BasicGhost in the reference. -/
import Derived.Test.YtnnkondlefjkcaaBasic2
import Derived.Test.YtnnkondlefjkcaaRows2
namespace Go.Proofs.Ytnnkondlefjkcaa
open Go.RowKit Tomo

def pw : Nat → Int
  | 0 => 1
  | j + 1 => 2 * pw j
theorem pw_bd {j : Nat} (h : j ≤ 4) : 1 ≤ pw j ∧ pw j ≤ 16 := by
  match j, h with
  | 0, _ => decide
  | 1, _ => decide
  | 2, _ => decide
  | 3, _ => decide
  | 4, _ => decide
/-- the sizes and the cells of the ghosts on the way -/
structure BgAt (ds : List (Int × Int)) (j n k : Nat) : Prop where
  r : (n : Int) = ghR ds j
  c : (k : Int) = ghC ds j
  n1 : 1 ≤ n ∧ n ≤ 1 + 3 * j
  k1 : 1 ≤ k ∧ k ≤ 1 + 3 * j
  s : Shape (bgAt ds j) n k
  b : ∀ y x, y < n → x < k → -(pw j) ≤ at2 (bgAt ds j) y x ∧ at2 (bgAt ds j) y x ≤ pw j
theorem BgAt.zero (ds : List (Int × Int)) : BgAt ds 0 1 1 :=
  ⟨by simp [ghR], by simp [ghC], by omega, by omega, ⟨rfl, fun r hr => by rw [List.mem_singleton.1 hr]; rfl⟩, fun y x hy hx => by
    obtain rfl : y = 0 := by omega
    obtain rfl : x = 0 := by omega
    rw [show at2 (bgAt ds 0) 0 0 = 1 from rfl]
    decide⟩
theorem bgAt_succ {ds : List (Int × Int)} {j n k : Nat} (h : BgAt ds j n k) {x y : Int} (hk : ds[j]? = some (x, y)) : bgAt ds (j + 1) = minusI (bgAt ds j) n k x y := by
  have h1 := h.r
  have h2 := h.c
  rw [bgAt, hk, ← h1, ← h2]
  rfl
theorem BgAt.succ {ds : List (Int × Int)} {j n k : Nat} (h : BgAt ds j n k) {x y : Int} (hk : ds[j]? = some (x, y)) (hx : 0 ≤ x ∧ x ≤ 3) (hy : -3 ≤ y ∧ y ≤ 3) (hj : j < 4) : BgAt ds (j + 1) (n + ((-y).toNat + y.toNat)) (k + x.toNat) := by
  obtain ⟨e1, e2⟩ := gh_step hk hx.1
  have h1 := h.r
  have h2 := h.c
  have h3 := h.n1
  have h4 := h.k1
  have hp := pw_bd (j := j) (by omega)
  refine ⟨by rw [e1, ← h1]; omega, by rw [e2, ← h2]; omega, by omega, by omega, ?_, ?_⟩
  · rw [bgAt_succ h hk]; exact minusI_shape _ _ _ _ _
  · intro i l hi hl
    rw [bgAt_succ h hk]
    exact minusI_bd (by omega) h.b hi hl
def bgOk (ds : List (Int × Int)) : Bool := inR (ghSize ds).1 1 5 && inR (ghSize ds).2 1 5
def bgRes (ds : List (Int × Int)) : Grid := if bgOk ds = true then bgI ds else []
theorem bgOk_dirs {ds : List (Int × Int)} (h : bgOk ds = true) : dirsOk ds = true := by
  unfold bgOk ghSize at h
  cases e : dirsOk ds
  · rw [e, if_neg (by simp)] at h; revert h; decide
  · rfl

set_option maxRecDepth 100000 in
set_option maxHeartbeats 4000000 in
theorem specBasicGhost_any (A : Option Addr) (cap : Nat) (ds : List (Int × Int)) (w : World) (hl : ds.length ≤ 1048576) (hcap : ds.length ≤ cap) (hx : LDirs w A ds) :
    Calls Try.prog 36 #[.slice A ds.length cap] w fun e w' => ∃ v, e = .returned (.tuple #[v, .bool (bgOk ds)]) ∧ OwnGrid w' w.heap.size v (bgRes ds) ∧ Ext w w' := by
  have c1 := specGhostSize_any A cap ds w hl hcap hx
  have c2 := fun W => l03Size_any (ghSize ds).1 (ghSize ds).2 W
  cases h : bgOk ds
  · have HR : Hid (bgRes ds = []) := Lib.hid (by unfold bgRes; rw [h]; rfl)
    have h' : (inR (ghSize ds).1 1 5 && inR (ghSize ds).2 1 5) = false := h
    simp only [h'] at c2
    obtain ⟨s1, hs1⟩ : ∃ s1, (ghSize ds).1 = s1 := ⟨_, rfl⟩
    obtain ⟨s2, hs2⟩ : ∃ s2, (ghSize ds).2 = s2 := ⟨_, rfl⟩
    rw [hs1, hs2] at c1
    simp only [hs1, hs2] at c2
    clear hx h h' hs1 hs2
    go_enter Try.func36, Try.ntmps36
    go_wp2_with fail
    refine c1.mono ?_
    rintro e w1 ⟨rfl, he⟩
    have HE := Lib.hid he
    clear he c1
    go_wp2_with (go_at_call 79; refine (c2 _).mono ?_; rintro e w' ⟨rfl, rfl⟩)
    go_ret2
    exact ⟨_, rfl, by rw [HR.out]; exact OwnGrid.nil _ _, HE.out⟩
  have HR : Hid (bgRes ds = bgAt ds ds.length) := Lib.hid (by unfold bgRes; rw [if_pos h]; rfl)
  have hd := bgOk_dirs h
  obtain ⟨hd1, hd4⟩ := dirsOk_len hd
  have HD := Lib.hid (fun (k : Nat) (x y : Int) => dirsOk_at hd (k := k) (x := x) (y := y))
  have h' : (inR (ghSize ds).1 1 5 && inR (ghSize ds).2 1 5) = true := h
  simp only [h'] at c2
  obtain ⟨s1, hs1⟩ : ∃ s1, (ghSize ds).1 = s1 := ⟨_, rfl⟩
  obtain ⟨s2, hs2⟩ : ∃ s2, (ghSize ds).2 = s2 := ⟨_, rfl⟩
  rw [hs1, hs2] at c1
  simp only [hs1, hs2] at c2
  have HX := Lib.hid hx
  clear hx h h' hd hs1 hs2
  go_enter Try.func36, Try.ntmps36
  go_wp2_with fail
  refine c1.mono ?_
  rintro e w1 ⟨rfl, he⟩
  have HE : Hid (Ext w ((w1.alloc (.cells #[.int .i64 1] 3)).alloc (.cells #[.slice (some ⟨w1.heap.size, 0, none⟩) 1 1] 30))) := Lib.hid ((he.alloc _).alloc _)
  have HO : Hid (OwnGrid ((w1.alloc (.cells #[.int .i64 1] 3)).alloc (.cells #[.slice (some ⟨w1.heap.size, 0, none⟩) 1 1] 30)) w.heap.size (.slice (some ⟨w1.heap.size + 1, 0, none⟩) 1 1) (bgAt ds 0)) := Lib.hid (by
    have h := OwnGrid.one (B := w.heap.size) (w := w1.alloc (.cells #[.int .i64 1] 3)) (Nat.le_trans he.size (by simp)) ((Own.one w1 1).base he.size)
    rw [show (w1.alloc (.cells #[.int .i64 1] 3)).heap.size = w1.heap.size + 1 by simp] at h
    exact h)
  have HB0 := Lib.hid (BgAt.zero ds)
  clear he c1
  go_wp2_with (go_at_call 79; refine (c2 _).mono ?_; rintro e w' ⟨rfl, rfl⟩)
  go_loopw [22, 6, 8] (fun i s _ wr => ∃ (j n k b cp : Nat), j ≤ ds.length ∧ i = .int .i64 j ∧ s = .slice (some ⟨b, 0, none⟩) n cp ∧ Hid (BgAt ds j n k) ∧ Hid (Ext w wr) ∧ Hid (OwnGrid wr w.heap.size (.slice (some ⟨b, 0, none⟩) n cp) (bgAt ds j))) (fun i _ _ _ => ds.length - (intOf i).toNat)
  case atStart => exact ⟨0, 1, 1, _, 1, Nat.zero_le _, rfl, rfl, HB0, HE, HO⟩
  case round =>
    rename World => wa
    obtain ⟨j, n, k, b, cp, hj, rfl, rfl, hB, hE, hO⟩ := hrel
    by_cases hlt : j < ds.length
    · obtain ⟨b5, o5, x, y, rfl, hb, HXY, hd1', hd2'⟩ := (HX.out.ext hE.out).at_ hlt
      obtain ⟨hx3, hy3⟩ := HD.out j x y HXY.out
      have h3 := hB.out.n1
      have h4 := hB.out.k1
      have hp := pw_bd (j := j) (by omega)
      have cm : Calls Try.prog 80 #[.slice (some ⟨b, 0, none⟩) n cp, .agg #[.int .i64 x, .int .i64 y]] (wa.alloc (.cells #[.int .i64 x, .int .i64 y] 32)) _ :=
        l11Minus_any (some ⟨b, 0, none⟩) cp (bgAt ds j) n k x y (pw j) _ hB.out.s (by omega) (by omega) hx3 hy3 (by omega) hB.out.b (hO.out.ext ((Ext.refl wa).alloc _)).gridAt
      have HN := Lib.hid (hB.out.succ HXY.out hx3 hy3 (by omega))
      have HG := Lib.hid (bgAt_succ hB.out HXY.out)
      clear hx3 hy3 h3 h4 hp
      go_wp2_with fail
      refine cm.mono ?_
      rintro e w2 ⟨b2, c2', rfl, ho, he⟩
      have HE2 := Lib.hid ((hE.out.alloc _).trans he)
      have HO2 := Lib.hid (ho.base (B' := w.heap.size) (Nat.le_trans hE.out.size (Nat.le_trans (by simp) (Nat.le_refl _))))
      rw [← HG.out] at HO2
      clear ho he cm
      go_wp2_with fail
      go_roundw
      case rel => exact ⟨j + 1, _, _, b2, c2', by omega, by go_num, rfl, HN, HE2, HO2⟩
      case measure => simp [intOf]; omega
    · obtain rfl : j = ds.length := by omega
      go_wp2_with fail
      go_ret2
      exact ⟨_, rfl, by rw [HR.out]; exact hO.out, hE.out⟩
end Go.Proofs.Ytnnkondlefjkcaa
