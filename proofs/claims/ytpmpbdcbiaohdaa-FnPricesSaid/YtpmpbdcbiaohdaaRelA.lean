/- Texts merged: Relax1 Relax2 Relax3 Relax4. -/
import Derived.Test.YtpmpbdcbiaohdaaFind1
import Derived.Test.YtpmpbdcbiaohdaaTomA
namespace Go.Proofs.Ytpmpbdcbiaohdaa
open Go.RowKit Tomo

/-- the lengths of rows and columns as one function on the nodes -/
def dRK (n : Nat) (R K : List Int) (v : Nat) : Int := if v < n then R[v]?.getD 0 else K[v - n]?.getD 0
theorem dRK_setK {n k x : Nat} {R K : List Int} {z : Int} (hK : K.length = k) (hx : x < k) (v : Nat) : dRK n R (K.set x z) v = if v = n + x then z else dRK n R K v := by
  unfold dRK
  by_cases hv : v < n
  · rw [if_pos hv, if_neg (by omega), if_pos hv]
  · rw [if_neg hv, if_neg hv]
    by_cases h : v = n + x
    · rw [if_pos h, h, show n + x - n = x by omega, List.getElem?_set_self (by omega)]; rfl
    · rw [if_neg h, List.getElem?_set_ne (by omega)]
theorem dRK_setR {n y : Nat} {R K : List Int} {z : Int} (hR : R.length = n) (hy : y < n) (v : Nat) : dRK n (R.set y z) K v = if v = y then z else dRK n R K v := by
  unfold dRK
  by_cases hv : v < n
  · rw [if_pos hv, if_pos hv]
    by_cases h : v = y
    · rw [if_pos h, h, List.getElem?_set_self (by omega)]; rfl
    · rw [if_neg h, List.getElem?_set_ne (by omega)]
  · rw [if_neg hv, if_neg (by omega), if_neg hv]
theorem dRK_row {n y : Nat} {R K : List Int} (hy : y < n) : dRK n R K y = R[y]?.getD 0 := by unfold dRK; rw [if_pos hy]
theorem dRK_col {n x : Nat} {R K : List Int} : dRK n R K (n + x) = K[x]?.getD 0 := by unfold dRK; rw [if_neg (by omega), show n + x - n = x by omega]
/-- the sweep so far: the cells of 'done' are taken into account -/
structure Swp (m : Nat → Nat → Bool) (w : Nat → Nat → Int) (n k : Nat) (done : Nat → Nat → Prop) (R0 K0 : List Int) (S : List Int × List Int × Bool) : Prop where
  lr : S.1.length = n
  lk : S.2.1.length = k
  mono : ∀ v, dRK n S.1 S.2.1 v ≤ dRK n R0 K0 v
  black : ∀ y x, done y x → y < n → x < k → m y x = true → dRK n S.1 S.2.1 (n + x) ≤ dRK n R0 K0 y + w y x
  white : ∀ y x, done y x → y < n → x < k → m y x = false → dRK n S.1 S.2.1 y ≤ dRK n R0 K0 (n + x) - w y x
  below : ∀ L, Fits n k w m L → (∀ v, L v ≤ dRK n R0 K0 v) → ∀ v, L v ≤ dRK n S.1 S.2.1 v
  same : S.2.2 = false → S.1 = R0 ∧ S.2.1 = K0
  less : S.2.2 = true → ∃ v, dRK n S.1 S.2.1 v < dRK n R0 K0 v
theorem Swp.start {m : Nat → Nat → Bool} {w : Nat → Nat → Int} {n k : Nat} {done : Nat → Nat → Prop} {R0 K0 : List Int} (h1 : R0.length = n) (h2 : K0.length = k) (hd : ∀ y x, done y x → y < n → x < k → False) : Swp m w n k done R0 K0 (R0, K0, false) :=
  ⟨h1, h2, fun _ => Int.le_refl _, fun y x h hy hx => (hd y x h hy hx).elim, fun y x h hy hx => (hd y x h hy hx).elim, fun _ _ h => h, fun _ => ⟨rfl, rfl⟩, fun h => by cases h⟩
theorem Swp.cell {m : Nat → Nat → Bool} {w : Nat → Nat → Int} {n k a b : Nat} {done done' : Nat → Nat → Prop} {R0 K0 : List Int} {S : List Int × List Int × Bool} (h : Swp m w n k done R0 K0 S) (ha : a < n) (hb : b < k)
    (hd : ∀ y x, done' y x → done y x ∨ (y = a ∧ x = b)) {c : Int} (hc : c = b2i (m a b)) : Swp m w n k done' R0 K0 (rxC c (w a b) a b S) := by
  obtain ⟨R, K, f⟩ := S
  have hlr : R.length = n := h.lr
  have hlk : K.length = k := h.lk
  have hmono : ∀ v, dRK n R K v ≤ dRK n R0 K0 v := h.mono
  have hr : R[a]?.getD 0 = dRK n R K a := (dRK_row ha).symm
  have hk : K[b]?.getD 0 = dRK n R K (n + b) := dRK_col.symm
  unfold rxC
  dsimp only
  rw [hr, hk]
  cases hm : m a b
  · rw [hc, hm, if_neg (by decide)]
    by_cases hlt : dRK n R K (n + b) - w a b < dRK n R K a
    · rw [if_pos hlt]
      have hset := fun v => dRK_setR (K := K) (z := dRK n R K (n + b) - w a b) hlr ha v
      refine ⟨by rw [List.length_set]; exact hlr, hlk, fun v => ?_, fun y x hdn hy hx hmm => ?_, fun y x hdn hy hx hmm => ?_, fun L hL hLd v => ?_, (fun h => by cases h), fun _ => ⟨a, ?_⟩⟩
      · show dRK n (R.set a _) K v ≤ _
        rw [hset v]
        have := hmono v
        split
        · rename_i e; subst e; omega
        · exact this
      · show dRK n (R.set a _) K (n + x) ≤ _
        rw [hset, if_neg (by omega)]
        rcases hd y x hdn with hd' | ⟨rfl, rfl⟩
        · exact h.black y x hd' hy hx hmm
        · rw [hm] at hmm; cases hmm
      · show dRK n (R.set a _) K y ≤ _
        rw [hset]
        rcases hd y x hdn with hd' | ⟨rfl, rfl⟩
        · have h1 : dRK n R K y ≤ _ := h.white y x hd' hy hx hmm
          split
          · rename_i e; subst e; omega
          · exact h1
        · rw [if_pos rfl]
          have := hmono (n + x)
          omega
      · show L v ≤ dRK n (R.set a _) K v
        rw [hset v]
        have h1 : ∀ v, L v ≤ dRK n R K v := h.below L hL hLd
        split
        · rename_i e
          subst e
          have h2 := hL (n + b) v (.inl ⟨ha, by omega, by omega, by rw [show n + b - n = b by omega]; exact hm, rfl⟩)
          have h3 := h1 (n + b)
          unfold len at h2
          rw [if_neg (by omega), show n + b - n = b by omega] at h2
          omega
        · exact h1 v
      · show dRK n (R.set a _) K a < _
        rw [hset, if_pos rfl]
        have := hmono a
        omega
    · rw [if_neg hlt]
      refine ⟨hlr, hlk, hmono, fun y x hdn hy hx hmm => ?_, fun y x hdn hy hx hmm => ?_, h.below, h.same, h.less⟩
      · rcases hd y x hdn with hd' | ⟨rfl, rfl⟩
        · exact h.black y x hd' hy hx hmm
        · rw [hm] at hmm; cases hmm
      · rcases hd y x hdn with hd' | ⟨rfl, rfl⟩
        · exact h.white y x hd' hy hx hmm
        · have := hmono (n + x)
          show dRK n R K y ≤ _
          omega
  · rw [hc, hm, if_pos (by decide)]
    by_cases hlt : dRK n R K a + w a b < dRK n R K (n + b)
    · rw [if_pos hlt]
      have hset := fun v => dRK_setK (n := n) (R := R) (z := dRK n R K a + w a b) hlk hb v
      refine ⟨hlr, by rw [List.length_set]; exact hlk, fun v => ?_, fun y x hdn hy hx hmm => ?_, fun y x hdn hy hx hmm => ?_, fun L hL hLd v => ?_, (fun h => by cases h), fun _ => ⟨n + b, ?_⟩⟩
      · show dRK n R (K.set b _) v ≤ _
        rw [hset v]
        have := hmono v
        split
        · rename_i e; subst e; omega
        · exact this
      · show dRK n R (K.set b _) (n + x) ≤ _
        rw [hset]
        rcases hd y x hdn with hd' | ⟨rfl, rfl⟩
        · have h1 : dRK n R K (n + x) ≤ _ := h.black y x hd' hy hx hmm
          split
          · rename_i e
            have e' : x = b := by omega
            subst e'; omega
          · exact h1
        · rw [if_pos rfl]
          have := hmono y
          omega
      · show dRK n R (K.set b _) y ≤ _
        rw [hset, if_neg (by omega)]
        rcases hd y x hdn with hd' | ⟨rfl, rfl⟩
        · exact h.white y x hd' hy hx hmm
        · rw [hm] at hmm; cases hmm
      · show L v ≤ dRK n R (K.set b _) v
        rw [hset v]
        have h1 : ∀ v, L v ≤ dRK n R K v := h.below L hL hLd
        split
        · rename_i e
          subst e
          have h2 := hL a (n + b) (.inr ⟨ha, by omega, by omega, by rw [show n + b - n = b by omega]; exact hm, rfl⟩)
          have h3 := h1 a
          unfold len at h2
          rw [if_pos ha, show n + b - n = b by omega] at h2
          omega
        · exact h1 v
      · show dRK n R (K.set b _) (n + b) < _
        rw [hset, if_pos rfl]
        have := hmono (n + b)
        omega
    · rw [if_neg hlt]
      refine ⟨hlr, hlk, hmono, fun y x hdn hy hx hmm => ?_, fun y x hdn hy hx hmm => ?_, h.below, h.same, h.less⟩
      · rcases hd y x hdn with hd' | ⟨rfl, rfl⟩
        · exact h.black y x hd' hy hx hmm
        · have := hmono y
          show dRK n R K (n + x) ≤ _
          omega
      · rcases hd y x hdn with hd' | ⟨rfl, rfl⟩
        · exact h.white y x hd' hy hx hmm
        · rw [hm] at hmm; cases hmm
theorem swp_row {m wt : Grid} {n k : Nat} (hm : Img m n k) {a : Nat} (ha : a < n) {R0 K0 : List Int} {S : List Int × List Int × Bool} (h : Swp (cellB m) (at2 wt) n k (fun y _ => y < a) R0 K0 S) :
    ∀ b, b ≤ k → Swp (cellB m) (at2 wt) n k (fun y x => y < a ∨ (y = a ∧ x < b)) R0 K0 (rxRow m wt a b S) := by
  intro b
  induction b with
  | zero => intro _; exact ⟨h.lr, h.lk, h.mono, fun y x hd => h.black y x (by omega), fun y x hd => h.white y x (by omega), h.below, h.same, h.less⟩
  | succ b ih =>
    intro hb
    rw [rxRow_succ]
    refine (ih (by omega)).cell ha (by omega) (fun y x hd => by omega) ?_
    obtain ⟨r, c, h1, _, h3, h4⟩ := hm.cell ha (show b < k by omega)
    unfold cellB
    rw [List.getD_eq_getElem?_getD, List.getD_eq_getElem?_getD, h1, at2_of h1 h3]
    show c = b2i (r[b]?.getD 0 == 1)
    rw [h3]
    rcases h4 with rfl | rfl <;> decide
theorem swp_all {m wt : Grid} {n k : Nat} (hm : Img m n k) {R0 K0 : List Int} (h1 : R0.length = n) (h2 : K0.length = k) : ∀ a, a ≤ n → Swp (cellB m) (at2 wt) n k (fun y _ => y < a) R0 K0 (rxAll m wt k a (R0, K0, false)) := by
  intro a
  induction a with
  | zero => intro _; exact Swp.start h1 h2 fun y x h => by omega
  | succ a ih =>
    intro ha
    rw [rxAll_succ]
    have h := swp_row (wt := wt) hm (show a < n by omega) (ih (by omega)) k (Nat.le_refl _)
    exact ⟨h.lr, h.lk, h.mono, fun y x hd hy hx => h.black y x (by omega) hy hx, fun y x hd hy hx => h.white y x (by omega) hy hx, h.below, h.same, h.less⟩
/-- a whole sweep is a round -/
theorem swp_round {m wt : Grid} {n k : Nat} (hm : Img m n k) {R0 K0 : List Int} (h1 : R0.length = n) (h2 : K0.length = k) :
    Round n k (at2 wt) (cellB m) (dRK n R0 K0) (dRK n (rxAll m wt k n (R0, K0, false)).1 (rxAll m wt k n (R0, K0, false)).2.1) := by
  have h := swp_all (wt := wt) hm h1 h2 n (Nat.le_refl _)
  refine ⟨h.mono, fun u v huv => ?_, h.below⟩
  unfold Lk Arc at huv
  unfold len
  rcases huv with ⟨a1, a2, a3, a4, _⟩ | ⟨a1, a2, a3, a4, _⟩
  · rw [if_neg (by omega)]
    have h3 := h.white v (u - n) a1 a1 (by omega) a4
    rw [show n + (u - n) = u by omega] at h3
    omega
  · rw [if_pos a1]
    have h3 := h.black u (v - n) a1 a1 (by omega) a4
    rw [show n + (v - n) = v by omega] at h3
    exact h3
end Go.Proofs.Ytpmpbdcbiaohdaa

namespace Go.Proofs.Ytpmpbdcbiaohdaa
open Go.RowKit Tomo

/-- the lengths ahead of sweep i -/
def stI (m wt : Grid) (n k : Nat) : Nat → List Int × List Int
  | 0 => (List.replicate n 0, List.replicate k 0)
  | i + 1 => ((rxAll m wt k n ((stI m wt n k i).1, (stI m wt n k i).2, false)).1, (rxAll m wt k n ((stI m wt n k i).1, (stI m wt n k i).2, false)).2.1)
/-- sweep i changes something -/
def chI (m wt : Grid) (n k i : Nat) : Bool := (rxAll m wt k n ((stI m wt n k i).1, (stI m wt n k i).2, false)).2.2
theorem stI_len {m wt : Grid} {n k : Nat} (hm : Img m n k) : ∀ i, (stI m wt n k i).1.length = n ∧ (stI m wt n k i).2.length = k
  | 0 => ⟨List.length_replicate, List.length_replicate⟩
  | i + 1 => by
    have ih := stI_len (wt := wt) hm i
    have h := swp_all (wt := wt) hm ih.1 ih.2 n (Nat.le_refl _)
    exact ⟨h.lr, h.lk⟩
theorem fp_of_st {m wt : Grid} {n k : Nat} (hm : Img m n k) : ∀ (t i : Nat), (∃ j, i ≤ j ∧ j < i + t ∧ chI m wt n k j = false ∧ fpFrom m wt n k t (stI m wt n k i).1 (stI m wt n k i).2 = some ((stI m wt n k j).1.map fun x => -x, (stI m wt n k j).2)) ∨
    ((∀ j, i ≤ j → j < i + t → chI m wt n k j = true) ∧ fpFrom m wt n k t (stI m wt n k i).1 (stI m wt n k i).2 = none)
  | 0, i => Or.inr ⟨fun j h1 h2 => by omega, rfl⟩
  | t + 1, i => by
    have hl := stI_len (wt := wt) hm i
    have h := swp_all (wt := wt) hm hl.1 hl.2 n (Nat.le_refl _)
    cases hc : chI m wt n k i
    · have hs := h.same hc
      refine Or.inl ⟨i, Nat.le_refl _, by omega, hc, ?_⟩
      unfold fpFrom
      have hc' : ¬ (rxAll m wt k n ((stI m wt n k i).1, (stI m wt n k i).2, false)).2.2 = true := by
        intro e; unfold chI at hc; rw [hc] at e; cases e
      rw [if_neg hc', hs.1, hs.2]
    · have e : fpFrom m wt n k (t + 1) (stI m wt n k i).1 (stI m wt n k i).2 = fpFrom m wt n k t (stI m wt n k (i + 1)).1 (stI m wt n k (i + 1)).2 := by
        rw [fpFrom, if_pos (show (rxAll m wt k n ((stI m wt n k i).1, (stI m wt n k i).2, false)).2.2 = true from hc)]; rfl
      rw [e]
      rcases fp_of_st hm t (i + 1) with ⟨j, h1, h2, h3, h4⟩ | ⟨h1, h2⟩
      · exact Or.inl ⟨j, by omega, by omega, h3, h4⟩
      · refine Or.inr ⟨fun j a1 a2 => ?_, h2⟩
        by_cases hj : j = i
        · rw [hj]; exact hc
        · exact h1 j (by omega) (by omega)
def dI (m wt : Grid) (n k i : Nat) : Nat → Int := dRK n (stI m wt n k i).1 (stI m wt n k i).2
theorem dI_zero (m wt : Grid) (n k v : Nat) : dI m wt n k 0 v = 0 := by
  unfold dI dRK stI
  dsimp only
  split <;> (rw [List.getElem?_replicate]; split <;> rfl)
theorem dI_round {m wt : Grid} {n k : Nat} (hm : Img m n k) (i : Nat) : Round n k (at2 wt) (cellB m) (dI m wt n k i) (dI m wt n k (i + 1)) := by
  have hl := stI_len (wt := wt) hm i
  exact swp_round hm hl.1 hl.2
/-- a sweep that changes nothing: the lengths fit -/
theorem fits_of_still {m wt : Grid} {n k i : Nat} (hm : Img m n k) (h : chI m wt n k i = false) : Fits n k (at2 wt) (cellB m) (dI m wt n k i) := by
  have hl := stI_len (wt := wt) hm i
  have hs := (swp_all (wt := wt) hm hl.1 hl.2 n (Nat.le_refl _)).same h
  have hr := (dI_round (wt := wt) hm i).2.1
  intro u v huv
  have h1 := hr u v huv
  have e : dI m wt n k (i + 1) = dI m wt n k i := by
    unfold dI
    show dRK n (rxAll m wt k n ((stI m wt n k i).1, (stI m wt n k i).2, false)).1 (rxAll m wt k n ((stI m wt n k i).1, (stI m wt n k i).2, false)).2.1 = _
    rw [hs.1, hs.2]
  rw [e] at h1
  exact h1
/-- lengths that fit are changed no more -/
theorem still_of_fits {m wt : Grid} {n k i : Nat} (hm : Img m n k) (h : Fits n k (at2 wt) (cellB m) (dI m wt n k i)) : chI m wt n k i = false := by
  have hl := stI_len (wt := wt) hm i
  have hw := swp_all (wt := wt) hm hl.1 hl.2 n (Nat.le_refl _)
  cases hc : chI m wt n k i
  · rfl
  · obtain ⟨v, hv⟩ := hw.less hc
    have := hw.below _ h (fun v => Int.le_refl _) v
    unfold dI at this
    omega
theorem dI_bounds {m wt : Grid} {n k : Nat} (hm : Img m n k) (hw : ∀ y x, y < n → x < k → -100 ≤ at2 wt y x ∧ at2 wt y x ≤ 100) (hh : Heaviest n k (at2 wt) (cellB m)) (i v : Nat) (hv : v < n + k) : -1000 ≤ dI m wt n k i v ∧ dI m wt n k i v ≤ 0 := by
  obtain ⟨L, hL, hb, _⟩ := least_lengths n k (at2 wt) hh (B := 100) (by omega) hw
  have hfit : Fits n k (at2 wt) (cellB m) (fun v => if v < n + k then L v else 0) := by
    intro u v huv
    have hlt := arc_lt n k huv
    simp only [hlt.1, hlt.2.1, if_true]
    exact hL u v huv
  have hlow : ∀ i v, (if v < n + k then L v else 0) ≤ dI m wt n k i v := by
    intro i
    induction i with
    | zero =>
      intro v
      rw [dI_zero]
      split
      · exact (hb v ‹_›).1
      · exact Int.le_refl _
    | succ i ih => exact fun v => (dI_round hm i).2.2 _ hfit ih v
  have hup : ∀ i v, dI m wt n k i v ≤ 0 := by
    intro i
    induction i with
    | zero => intro v; rw [dI_zero]; exact Int.le_refl _
    | succ i ih => exact fun v => Int.le_trans ((dI_round hm i).1 v) (ih v)
  have h1 := hlow i v
  rw [if_pos hv] at h1
  have h2 := (hb v hv).2
  have h3 : 100 * ((n + k : Nat) : Int) ≤ 1000 := by have := hm.2.1; have := hm.2.2.1; omega
  exact ⟨by omega, hup i v⟩
/-- the end of FindPrices -/
theorem fp_law {m wt : Grid} {n k : Nat} (hm : Img m n k) (hw : ∀ y x, y < n → x < k → -100 ≤ at2 wt y x ∧ at2 wt y x ≤ 100) :
    (Heaviest n k (at2 wt) (cellB m) → ∃ j, Fits n k (at2 wt) (cellB m) (dI m wt n k j) ∧ fpFrom m wt n k (n + k + 1) (List.replicate n 0) (List.replicate k 0) = some ((stI m wt n k j).1.map fun x => -x, (stI m wt n k j).2)) ∧
    (¬ Heaviest n k (at2 wt) (cellB m) → fpFrom m wt n k (n + k + 1) (List.replicate n 0) (List.replicate k 0) = none) := by
  constructor
  · intro hh
    rcases fp_of_st (wt := wt) hm (n + k + 1) 0 with ⟨j, _, _, h3, h4⟩ | ⟨h1, _⟩
    · exact ⟨j, fits_of_still hm h3, h4⟩
    · exfalso
      have hf := rounds_fit n k (at2 wt) hh (B := 100) (by omega) hw (fun i v => dI m wt n k i v) (fun v => dI_zero m wt n k v) (fun i => dI_round hm i) (n + k) (by omega)
      have := still_of_fits hm hf
      rw [h1 (n + k) (by omega) (by omega)] at this
      cases this
  · intro hh
    rcases fp_of_st (wt := wt) hm (n + k + 1) 0 with ⟨j, _, _, h3, _⟩ | ⟨_, h2⟩
    · exact (hh (heaviest_of_fits n k (at2 wt) _ (fits_of_still hm h3))).elim
    · exact h2
end Go.Proofs.Ytpmpbdcbiaohdaa

namespace Go.Proofs.Ytpmpbdcbiaohdaa
open Go.RowKit Tomo

theorem cell_b2i {m : Grid} {n k : Nat} (hm : Img m n k) {y x : Nat} (hy : y < n) (hx : x < k) : at2 m y x = b2i (cellB m y x) := by
  obtain ⟨r, c, h1, _, h3, h4⟩ := hm.cell hy hx
  unfold cellB
  rw [List.getD_eq_getElem?_getD, List.getD_eq_getElem?_getD, h1, at2_of h1 h3]
  show c = b2i (r[x]?.getD 0 == 1)
  rw [h3]
  rcases h4 with rfl | rfl <;> decide
theorem weight_eq {m wt : Grid} {n k : Nat} (hm : Img m n k) : weightI wt m = weight n k (at2 wt) (cellB m) := by
  unfold weightI gridW weight
  rw [hm.1.1, sum_range_map]
  refine sumN_congr fun y hy => ?_
  have hy' : y < m.length := by rw [hm.1.1]; exact hy
  have hw : (m[y]?.getD []).length = k := by rw [List.getElem?_eq_getElem hy']; exact hm.1.2 _ (List.getElem_mem hy')
  unfold rowW
  rw [hw, sum_range_map]
  refine sumN_congr fun x hx => ?_
  rw [← cell_b2i hm hy hx]
  rfl
theorem weight_congr {R C : Nat} {w : Nat → Nat → Int} {f g : Nat → Nat → Bool} (h : ∀ y x, y < R → x < C → f y x = g y x) : weight R C w f = weight R C w g := by
  unfold weight
  exact sumN_congr fun y hy => sumN_congr fun x hx => by rw [h y x hy hx]
/-- the conditions on prices, cell by cell -/
def PrOk (m : Nat → Nat → Bool) (w : Nat → Nat → Int) (n k : Nat) (a b : Nat → Int) : Prop := ∀ y x, y < n → x < k → (m y x = true → 0 ≤ w y x - a y - b x) ∧ (m y x = false → w y x - a y - b x ≤ 0)
theorem pr_fits {m : Nat → Nat → Bool} {w : Nat → Nat → Int} {n k : Nat} {d : Nat → Int} (h : Fits n k w m d) : PrOk m w n k (fun y => - d y) (fun x => d (n + x)) := by
  intro y x hy hx
  constructor
  · intro hm
    have := h y (n + x) (.inr ⟨hy, by omega, by omega, by rw [show n + x - n = x by omega]; exact hm, rfl⟩)
    unfold len at this
    rw [if_pos hy, show n + x - n = x by omega] at this
    show 0 ≤ w y x - (- d y) - d (n + x)
    omega
  · intro hm
    have := h (n + x) y (.inl ⟨hy, by omega, by omega, by rw [show n + x - n = x by omega]; exact hm, rfl⟩)
    unfold len at this
    rw [if_neg (by omega), show n + x - n = x by omega] at this
    show w y x - (- d y) - d (n + x) ≤ 0
    omega
theorem fits_pr {m : Nat → Nat → Bool} {w : Nat → Nat → Int} {n k : Nat} {a b : Nat → Int} (h : PrOk m w n k a b) : Fits n k w m (fun v => if v < n then - a v else b (v - n)) := by
  intro u v huv
  unfold Lk Arc at huv
  unfold len
  rcases huv with ⟨a1, a2, a3, a4, _⟩ | ⟨a1, a2, a3, a4, _⟩
  · have h1 := (h v (u - n) a1 (by omega)).2 a4
    simp only [a1, if_true, if_neg (show ¬ u < n by omega)]
    omega
  · have h1 := (h u (v - n) a1 (by omega)).1 a4
    simp only [a1, if_true, if_neg (show ¬ v < n by omega)]
    omega
/-- prices of a heaviest image hold at every image of its sums and its weight -/
theorem pr_slack {m x : Nat → Nat → Bool} {w : Nat → Nat → Int} {n k : Nat} {a b : Nat → Int} (h : PrOk x w n k a b) (hs : SameSums n k x m) (hw : weight n k w m = weight n k w x) : PrOk m w n k a b := by
  have key : ∀ f : Nat → Nat → Bool, sumN n (fun y => sumN k (fun i => b2i (f y i) * (w y i - a y - b i))) = weight n k w f - sumN n (fun y => a y * rowS k f y) - sumN k (fun i => b i * colS n f i) := by
    intro f
    have e1 : sumN n (fun y => a y * rowS k f y) = sumN n (fun y => sumN k (fun i => b2i (f y i) * a y)) := by
      refine sumN_congr fun y _ => ?_
      unfold rowS
      rw [← sumN_mul]
      exact sumN_congr fun i _ => Int.mul_comm _ _
    have e2 : sumN k (fun i => b i * colS n f i) = sumN n (fun y => sumN k (fun i => b2i (f y i) * b i)) := by
      rw [sumN_swap]
      refine sumN_congr fun i _ => ?_
      unfold colS
      rw [← sumN_mul]
      exact sumN_congr fun y _ => Int.mul_comm _ _
    rw [e1, e2]
    unfold weight
    rw [← sumN_sub, ← sumN_sub]
    refine sumN_congr fun y _ => ?_
    rw [← sumN_sub, ← sumN_sub]
    refine sumN_congr fun i _ => ?_
    cases f y i <;> simp [b2i]
  have e1 : sumN n (fun y => a y * rowS k m y) = sumN n (fun y => a y * rowS k x y) := sumN_congr fun y hy => by
    have h1 : rowS k m y = rowS k x y := hs.1 y hy
    rw [h1]
  have e2 : sumN k (fun i => b i * colS n m i) = sumN k (fun i => b i * colS n x i) := sumN_congr fun i hi => by
    have h1 : colS n m i = colS n x i := hs.2 i hi
    rw [h1]
  have hd : sumN n (fun y => sumN k (fun i => (b2i (x y i) - b2i (m y i)) * (w y i - a y - b i))) = 0 := by
    have h1 := key m
    have h2 := key x
    rw [e1, e2, hw] at h1
    have h3 : sumN n (fun y => sumN k (fun i => (b2i (x y i) - b2i (m y i)) * (w y i - a y - b i))) = sumN n (fun y => sumN k (fun i => b2i (x y i) * (w y i - a y - b i))) - sumN n (fun y => sumN k (fun i => b2i (m y i) * (w y i - a y - b i))) := by
      rw [← sumN_sub]
      refine sumN_congr fun y _ => ?_
      rw [← sumN_sub]
      refine sumN_congr fun i _ => ?_
      rw [Int.sub_mul]
    omega
  have hpos : ∀ y i, y < n → i < k → 0 ≤ (b2i (x y i) - b2i (m y i)) * (w y i - a y - b i) := by
    intro y i hy hi
    obtain ⟨p1, p2⟩ := h y i hy hi
    cases hx : x y i <;> cases hm : m y i <;> simp [b2i]
    · have := p2 hx; omega
    · have := p1 hx; omega
  have hrow := sumN_eq_zero (fun y hy => sumN_nonneg (fun i hi => hpos y i hy hi)) (Int.le_of_eq hd)
  intro y i hy hi
  have hz := sumN_eq_zero (fun i hi => hpos y i hy hi) (Int.le_of_eq (hrow y hy)) i hi
  obtain ⟨p1, p2⟩ := h y i hy hi
  cases hx : x y i <;> cases hm : m y i <;> rw [hx, hm] at hz <;> simp [b2i] at hz
  · exact ⟨fun e => (by cases e), fun _ => p2 hx⟩
  · exact ⟨fun _ => by omega, fun e => by cases e⟩
  · exact ⟨fun e => (by cases e), fun _ => by omega⟩
  · exact ⟨fun _ => p1 hx, fun e => by cases e⟩
end Go.Proofs.Ytpmpbdcbiaohdaa

namespace Go.Proofs.Ytpmpbdcbiaohdaa
open Go.RowKit Tomo

theorem priceCell_iff (v : Bool) (z : Int) : priceCell (b2i v) z = true ↔ (v = true → 0 ≤ z) ∧ (v = false → z ≤ 0) := by
  unfold priceCell
  cases v <;> simp [b2i]
theorem pricesOk_iff {m wt : Grid} {n k : Nat} (hm : Img m n k) (ho : (weightOf wt m).2 = true) {A B : List Int} (ha : A.length = n) (hb : B.length = k) (ha2 : allIn A (-1000) 1000 = true) (hb2 : allIn B (-1000) 1000 = true) :
    pricesOk wt m A B = true ↔ PrOk (cellB m) (at2 wt) n k (fun y => A[y]?.getD 0) (fun x => B[x]?.getD 0) := by
  have hcell : ∀ y x, y < n → x < k → (priceCell ((m[y]?.getD [])[x]?.getD 0) ((wt[y]?.getD [])[x]?.getD 0 - A[y]?.getD 0 - B[x]?.getD 0) = true ↔ (cellB m y x = true → 0 ≤ at2 wt y x - A[y]?.getD 0 - B[x]?.getD 0) ∧ (cellB m y x = false → at2 wt y x - A[y]?.getD 0 - B[x]?.getD 0 ≤ 0)) := fun y x hy hx => by
    have e : (m[y]?.getD [])[x]?.getD 0 = b2i (cellB m y x) := cell_b2i hm hy hx
    rw [e]
    exact priceCell_iff _ _
  have hlen : ∀ y, y < n → (m[y]?.getD []).length = k := fun y hy => by
    have hy' : y < m.length := by rw [hm.1.1]; exact hy
    rw [List.getElem?_eq_getElem hy']
    exact hm.1.2 _ (List.getElem_mem hy')
  unfold pricesOk
  rw [ho, ha2, hb2, ha, hb, hm.1.1, hm.head]
  simp only [Bool.true_and, Bool.and_true, decide_true, List.all_eq_true, List.mem_range]
  constructor
  · intro h y x hy hx
    have h1 := h y hy
    unfold priceAt priceRow at h1
    rw [hlen y hy, List.all_eq_true] at h1
    exact (hcell y x hy hx).1 (h1 x (List.mem_range.2 hx))
  · intro h y hy
    unfold priceAt priceRow
    rw [hlen y hy, List.all_eq_true]
    intro x hx
    exact (hcell y x hy (List.mem_range.1 hx)).2 (h y x hy (List.mem_range.1 hx))
/-- FindPrices at an image: it ends exactly if the image is heaviest; the prices have the sizes, lie in the bounds, and hold -/
theorem fp_image {m wt : Grid} {n k : Nat} (hm : Img m n k) (ho : (weightOf wt m).2 = true) (hw : ∀ y x, y < n → x < k → -100 ≤ at2 wt y x ∧ at2 wt y x ≤ 100) :
    ((fpI wt m).isSome = true ↔ Heaviest n k (at2 wt) (cellB m)) ∧ (Heaviest n k (at2 wt) (cellB m) → (fpA wt m).length = n ∧ (fpB wt m).length = k ∧ allIn (fpA wt m) (-1000) 1000 = true ∧ allIn (fpB wt m) (-1000) 1000 = true ∧
      PrOk (cellB m) (at2 wt) n k (fun y => (fpA wt m)[y]?.getD 0) (fun x => (fpB wt m)[x]?.getD 0)) := by
  obtain ⟨l1, l2⟩ := fp_law (wt := wt) hm hw
  have e : fpI wt m = fpFrom m wt n k (n + k + 1) (List.replicate n 0) (List.replicate k 0) := by
    unfold fpI
    rw [if_pos ho, hm.1.1, hm.head]
  refine ⟨⟨fun h => ?_, fun h => ?_⟩, fun hh => ?_⟩
  · refine Classical.byContradiction fun hn => ?_
    rw [e, l2 hn] at h
    cases h
  · obtain ⟨j, _, h2⟩ := l1 h
    rw [e, h2]; rfl
  · obtain ⟨j, hf, h2⟩ := l1 hh
    have hl := stI_len (wt := wt) hm j
    have hbd := fun v hv => dI_bounds hm hw hh j v hv
    have hp := pr_fits hf
    have eA : fpA wt m = (stI m wt n k j).1.map fun x => -x := by unfold fpA; rw [e, h2]; rfl
    have eB : fpB wt m = (stI m wt n k j).2 := by unfold fpB; rw [e, h2]; rfl
    have gA : ∀ y, y < n → ((stI m wt n k j).1.map fun x => -x)[y]?.getD 0 = - dI m wt n k j y := fun y hy => by
      have hy' : y < (stI m wt n k j).1.length := by rw [hl.1]; exact hy
      unfold dI
      rw [dRK_row hy, List.getElem?_map, List.getElem?_eq_getElem hy']; rfl
    have gB : ∀ x, (stI m wt n k j).2[x]?.getD 0 = dI m wt n k j (n + x) := fun x => by unfold dI; rw [dRK_col]
    rw [eA, eB]
    refine ⟨by rw [List.length_map]; exact hl.1, hl.2, ?_, ?_, fun y x hy hx => ?_⟩
    · unfold allIn
      rw [List.all_eq_true]
      intro z hz
      obtain ⟨y, hy, rfl⟩ := List.mem_iff_getElem.1 hz
      have hyn : y < n := by rw [List.length_map, hl.1] at hy; exact hy
      have h3 := gA y hyn
      rw [List.getElem?_eq_getElem hy, Option.getD_some] at h3
      have h4 := hbd y (by omega)
      exact inR_iff.2 (by omega)
    · unfold allIn
      rw [List.all_eq_true]
      intro z hz
      obtain ⟨x, hx, rfl⟩ := List.mem_iff_getElem.1 hz
      have hxk : x < k := by rw [hl.2] at hx; exact hx
      have h3 := gB x
      rw [List.getElem?_eq_getElem hx, Option.getD_some] at h3
      have h4 := hbd (n + x) (by omega)
      exact inR_iff.2 (by omega)
    · have h3 := hp y x hy hx
      dsimp only
      rw [gA y hy, gB x]
      exact h3
end Go.Proofs.Ytpmpbdcbiaohdaa
