/- The nearest image, in the reference and in the program. -/
import Derived.Test.YtlhjbpachpjpkaaBest
import Derived.Test.YtlhjbpachpjpkaaReA
import Derived.Test.YtlhjbpachpjpkaaPaint1
namespace Go.Proofs.Ytlhjbpachpjpkaa
open Go.RowKit Tomo

/-- in how many cells two rows, two grids differ -/
def distR (a b : List Int) : Nat → Nat
  | 0 => 0
  | j + 1 => distR a b j + (if a[j]? = b[j]? then 0 else 1)
def distG (a b : Grid) (k : Nat) : Nat → Nat
  | 0 => 0
  | i + 1 => distG a b k i + distR (a[i]?.getD []) (b[i]?.getD []) k
def dist (a b : Grid) : Int := distG a b (a.headD []).length a.length
theorem distR_le (a b : List Int) : ∀ j, distR a b j ≤ j
  | 0 => Nat.le_refl _
  | j + 1 => by have := distR_le a b j; unfold distR; split <;> omega
theorem distG_le (a b : Grid) (k : Nat) : ∀ i, distG a b k i ≤ i * k
  | 0 => by simp [distG]
  | i + 1 => by
    have h1 := distG_le a b k i
    have h2 := distR_le (a[i]?.getD []) (b[i]?.getD []) k
    unfold distG
    rw [Nat.add_mul, Nat.one_mul]; omega
theorem dist_img {a b : Grid} {n k : Nat} (h : Img a n k) : dist a b = (distG a b k n : Nat) := by
  unfold dist; rw [h.head, h.1.1]
--GEN

theorem eq_dec (n N : Nat) : ((n : Int) == (N : Int)) = decide (N = n) := by
  by_cases h : N = n
  · subst h; simp
  · rw [decide_eq_false h]
    simp; omega
theorem distR_succ (a b : List Int) (j : Nat) : distR a b (j + 1) = distR a b j + (if a[j]? = b[j]? then 0 else 1) := rfl
theorem distG_succ (a b : Grid) (k i : Nat) : distG a b k (i + 1) = distG a b k i + distR (a[i]?.getD []) (b[i]?.getD []) k := rfl
def sameSz (b : Grid) (n k : Nat) : Bool := gridOk b 0 1 && decide (b.length = n) && decide ((b.headD []).length = k)
theorem sameSz_img {b : Grid} {n k : Nat} (h : Img b n k) : sameSz b n k = true := by unfold sameSz; rw [h.ok, h.1.1, h.head]; simp
theorem sameSz_iff {b : Grid} {n k : Nat} (h : sameSz b n k = true) : Img b n k := by
  unfold sameSz at h
  simp only [Bool.and_eq_true, decide_eq_true_eq] at h
  obtain ⟨⟨h1, h2⟩, h3⟩ := h
  have := Img.of h1
  rw [h2, h3] at this
  exact this
theorem Img.head2 {m : Grid} {n k : Nat} (h : Img m n k) {w : World} {b o : Nat} (hg : GridAt w (some ⟨b, o, none⟩) m) : ∃ R c, w.cell? ⟨b, o, none⟩ = some (.slice R k c) := by
  obtain ⟨R, c, r, hr, hq, _⟩ := hg.at1 (k := 0) (by rw [h.1.1]; have := h.2.1.1; omega)
  exact ⟨R, c, by rw [Nat.add_zero] at hq; rw [hq, h.1.row hr.out]⟩

set_option maxRecDepth 100000 in
set_option maxHeartbeats 4000000 in
theorem sameSize_any (A B : Option Addr) (ca cb : Nat) (a b : Grid) (n k : Nat) (w : World) (hi : Img a n k) (hl : b.length ≤ 1048576) (hr : ∀ r ∈ b, r.length ≤ 1048576) (hx : GridAt w A a) (hy : GridAt w B b) :
    Calls Try.prog 43 #[.slice A n ca, .slice B b.length cb] w fun e w' => e = .returned (.bool (sameSz b n k)) ∧ Drew w w' := by
  obtain ⟨hn1, hn5⟩ := hi.2.1
  obtain ⟨hk1, hk5⟩ := hi.2.2.1
  obtain ⟨b1, o1, _, _, _, hA, _⟩ := hx.at_ (k := 0) (by rw [hi.1.1]; omega)
  subst hA
  have HCA : Hid (∀ d, Calls Try.prog 36 #[.slice (some ⟨b1, o1, none⟩) n ca] (w.drewN d) fun e w' => e = .returned (.bool true) ∧ w' = w.drewN d) := Lib.hid (fun d => by
    have h := implImageOk_any (some ⟨b1, o1, none⟩) ca a (w.drewN d) (by rw [hi.1.1]; omega) (fun r hr => by rw [hi.1.2 r hr]; omega) (hx.ext ((Ext.refl w).drewN d))
    rw [hi.ok, hi.1.1] at h
    exact h.mono fun e w' hh => ⟨hh.1, hh.2.symm⟩)
  have HCB : Hid (∀ d, Calls Try.prog 36 #[.slice B b.length cb] (w.drewN d) fun e w' => e = .returned (.bool (gridOk b 0 1)) ∧ w' = w.drewN d) := Lib.hid (fun d =>
    (implImageOk_any B cb b (w.drewN d) hl hr (hy.ext ((Ext.refl w).drewN d))).mono fun e w' hh => ⟨hh.1, hh.2.symm⟩)
  obtain ⟨R0, c0, q0⟩ := hi.head2 hx
  cases hok : gridOk b 0 1
  · rw [hok] at HCB
    have hz : sameSz b n k = false := by unfold sameSz; rw [hok]; rfl
    rw [hz]
    obtain ⟨N, hN⟩ : ∃ N, b.length = N := ⟨_, rfl⟩
    rw [hN] at HCB hl ⊢
    clear hi hx hy hok hz hr hN
    go_enter Try.func43, Try.ntmps43
    go_wp2_with fail
    go_quiet ((first | (go_at_call 36; with_reducible refine Calls.quiet_of_same (HCA.out _)) | (go_at_call 36; with_reducible refine Calls.quiet_of_same (HCB.out _))))
    go_wp2_with fail
    go_ret
    exact ⟨rfl, ⟨_, rfl⟩⟩
  have hj := Img.of hok
  obtain ⟨b2, o2, _, _, _, hB, _⟩ := hy.at_ (k := 0) (by have := hj.2.1.1; omega)
  subst hB
  obtain ⟨R1, c1, q1⟩ := hj.head2 hy
  rw [hok] at HCB
  have hz : sameSz b n k = (decide (b.length = n) && decide ((b.headD []).length = k)) := by unfold sameSz; rw [hok]; rfl
  rw [hz]
  obtain ⟨hN1, hN5⟩ := hj.2.1
  obtain ⟨hK1, hK5⟩ := hj.2.2.1
  obtain ⟨N, hN⟩ : ∃ N, b.length = N := ⟨_, rfl⟩
  obtain ⟨K, hK⟩ : ∃ K, (b.headD []).length = K := ⟨_, rfl⟩
  rw [hN] at HCB hl hN1 hN5 ⊢
  rw [hK] at q1 hK1 hK5 ⊢
  have b5 : ((n : Int) == (N : Int)) = decide (N = n) := eq_dec n N
  have b6 : ((k : Int) == (K : Int)) = decide (K = k) := eq_dec k K
  clear hi hx hy hok hz hr hj hN hK
  generalize decide (N = n) = t5 at *
  generalize decide (K = k) = t6 at *
  cases t5
  · go_enter Try.func43, Try.ntmps43
    go_wp2_with fail
    go_quiet ((first | (go_at_call 36; with_reducible refine Calls.quiet_of_same (HCA.out _)) | (go_at_call 36; with_reducible refine Calls.quiet_of_same (HCB.out _))))
    go_wp2_with fail
    go_ret
    exact ⟨rfl, ⟨_, rfl⟩⟩
  cases t6
  all_goals
    go_enter Try.func43, Try.ntmps43
    go_wp2_with fail
    go_quiet ((first | (go_at_call 36; with_reducible refine Calls.quiet_of_same (HCA.out _)) | (go_at_call 36; with_reducible refine Calls.quiet_of_same (HCB.out _))))
    go_wp2_with fail
    go_ret
    exact ⟨rfl, ⟨_, rfl⟩⟩


end Go.Proofs.Ytlhjbpachpjpkaa
