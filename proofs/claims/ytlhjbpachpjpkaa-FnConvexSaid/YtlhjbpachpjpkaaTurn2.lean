/- The number of pieces is one exactly if the black cells hang together; an image and the image turned. -/
import Derived.Test.YtlhjbpachpjpkaaTurn1
import Derived.Test.YtlhjbpachpjpkaaPieces
import Derived.Test.YtlhjbpachpjpkaaTomA
namespace Go.Proofs.Ytlhjbpachpjpkaa
open Go.RowKit Tomo

theorem paint_exists {n k : Nat} : ∀ (N : Nat) (m : List (List Int)) (y x : Int), ones m < N → Img m n k → ∃ q, Paint m y x q ∧ Img q n k ∧ ones q ≤ ones m := by
  intro N
  induction N with
  | zero => intro m y x h; omega
  | succ N ih =>
    intro m y x h hi
    by_cases hc : cellI m y x = 1
    · obtain ⟨i, j, r, rfl, rfl, hr, hj⟩ := cellI_one hc
      have ho := ones_set hr hj
      obtain ⟨a, pa, ia, oa⟩ := ih (m.set i (r.set j 0)) (i - 1) j (by omega) (hi.set hr (by omega))
      obtain ⟨b, pb, ib, ob⟩ := ih a (i + 1) j (by omega) ia
      obtain ⟨c, pc, ic, oc⟩ := ih b i (j - 1) (by omega) ib
      obtain ⟨d, pd, id, od⟩ := ih c i (j + 1) (by omega) ic
      exact ⟨d, .go m i j r a b c d hr hj pa pb pc pd, id, by omega⟩
    · exact ⟨m, .stop m y x hc, hi, Nat.le_refl _⟩
theorem count_exists {m : List (List Int)} {n k : Nat} (hi : Img m n k) : ∀ y, ∃ q c, Count k m y 0 q c ∧ Img q n k := by
  have row : ∀ (y : Nat) (q0 : List (List Int)) (c0 : Nat), Count k m y 0 q0 c0 → Img q0 n k → ∀ x, x ≤ k → ∃ q c, Count k m y x q c ∧ Img q n k := by
    intro y q0 c0 h0 i0 x
    induction x with
    | zero => intro _; exact ⟨q0, c0, h0, i0⟩
    | succ x ih =>
      intro hx
      obtain ⟨q, c, hq, iq⟩ := ih (by omega)
      by_cases hc : cellI q y x = 1
      · obtain ⟨q', hp, iq', _⟩ := paint_exists (ones q + 1) q y x (by omega) iq
        exact ⟨q', c + 1, .black y x q q' c hq (by omega) hc hp, iq'⟩
      · exact ⟨q, c, .white y x q c hq (by omega) hc, iq⟩
  intro y
  induction y with
  | zero => exact ⟨m, 0, .start, hi⟩
  | succ y ih =>
    obtain ⟨q, c, hq, iq⟩ := ih
    obtain ⟨q2, c2, h2, i2⟩ := row y q c hq iq k (Nat.le_refl _)
    exact ⟨q2, c2, .row y q2 c2 h2, i2⟩
/-- what is so at every cell that the count comes to -/
structure Counted (k : Nat) (m : List (List Int)) (y x : Nat) (q : List (List Int)) (c : Nat) : Prop where
  sub : ∀ i j, cellI q i j = 1 → cellI m i j = 1
  seen : ∀ i j : Nat, j < k → (i < y ∨ (i = y ∧ j < x)) → cellI q i j ≠ 1
  none : c = 0 → q = m
  one : c = 1 → ∃ s t, cellI m s t = 1 ∧ ∀ i j, cellI m i j = 1 → (cellI q i j ≠ 1 ↔ Conn m s t i j)
  some : 1 ≤ c → ∃ s t, cellI m s t = 1
  two : 2 ≤ c → ∃ s t v u, cellI m s t = 1 ∧ cellI m v u = 1 ∧ ¬ Conn m s t v u
theorem Count.counted {k : Nat} {m : List (List Int)} {y x : Nat} {q : List (List Int)} {c : Nat} (h : Count k m y x q c) : Counted k m y x q c := by
  induction h with
  | start => exact ⟨fun _ _ h => h, fun i j _ h => by omega, fun _ => rfl, fun h => by omega, fun h => by omega, fun h => by omega⟩
  | white y x q c _ hx hc ih =>
    refine ⟨ih.sub, fun i j hj h => ?_, ih.none, ih.one, ih.some, ih.two⟩
    by_cases he : i = y ∧ j = x
    · obtain ⟨rfl, rfl⟩ := he; exact hc
    · exact ih.seen i j hj (by omega)
  | black y x q q' c _ hx hc hp ih =>
    have hw := hp.erased
    have hb := ih.sub _ _ hc
    refine ⟨fun i j h => ih.sub i j (hw.sub i j h), fun i j hj h => ?_, fun h => by omega, fun h => ?_, fun _ => ⟨y, x, hb⟩, fun h => ?_⟩
    · by_cases he : i = y ∧ j = x
      · obtain ⟨rfl, rfl⟩ := he; exact hw.here
      · exact fun h2 => ih.seen i j hj (by omega) (hw.sub _ _ h2)
    · obtain rfl := ih.none (by omega)
      exact ⟨y, x, hb, fun i j hij => ⟨hw.sound i j hij, hw.gone⟩⟩
    · by_cases h1 : c = 1
      · obtain ⟨s, t, hs, hst⟩ := ih.one h1
        exact ⟨s, t, y, x, hs, hb, fun hn => (hst y x hb).2 hn hc⟩
      · exact ih.two (by omega)
  | row y q c _ ih =>
    refine ⟨ih.sub, fun i j hj h => ih.seen i j hj (by omega), ih.none, ih.one, ih.some, ih.two⟩
/-- the black cells hang together, and there is one -/
def Whole (m : List (List Int)) : Prop := ∃ s t, cellI m s t = 1 ∧ ∀ i j, cellI m i j = 1 → Conn m s t i j
theorem pieces_one {m : List (List Int)} (h : gridOk m 0 1 = true) : pieces m = 1 ↔ Whole m := by
  have hi := Img.of h
  obtain ⟨q, c, hc, iq⟩ := count_exists hi m.length
  have hk := hc.counted
  have hdone : ∀ i j, cellI q i j ≠ 1 := fun i j hij => by
    obtain ⟨i', j', r, rfl, rfl, hr, hj⟩ := cellI_one hij
    have h1 : i' < q.length := (List.getElem?_eq_some_iff.1 hr).1
    have h2 : j' < r.length := (List.getElem?_eq_some_iff.1 hj).1
    have h3 := iq.1.1
    have h4 := iq.1.2 r (List.mem_of_getElem? hr)
    exact hk.seen i' j' (by omega) (Or.inl (by omega)) hij
  rw [pieces_of h hc]
  constructor
  · intro he
    obtain ⟨s, t, hs, hst⟩ := hk.one (by omega)
    exact ⟨s, t, hs, fun i j hij => (hst i j hij).1 (hdone i j)⟩
  · rintro ⟨s, t, hs, hst⟩
    rcases Nat.lt_trichotomy c 1 with h0 | h0 | h0
    · have := hk.none (by omega)
      subst this
      exact absurd hs (hdone s t)
    · rw [h0]; rfl
    · obtain ⟨a, b, v, u, h1, h2, h3⟩ := hk.two (by omega)
      exact absurd ((hst a b h1).symm.trans (hst v u h2)) h3

/-! ### turned -/
theorem Img.tr {m : Grid} {n k : Nat} (h : Img m n k) : Img (tr m) k n := by
  have hg := gridOk_tr h.ok
  have h2 := Img.of hg
  have hs := tr_shape m
  rw [h.head, h.1.1] at hs
  have hk := h.2.2.1
  have e1 : (Go.Proofs.Ytlhjbpachpjpkaa.tr m).length = k := hs.1
  have e2 : ((Go.Proofs.Ytlhjbpachpjpkaa.tr m).headD []).length = n := by
    cases hc : Go.Proofs.Ytlhjbpachpjpkaa.tr m with
    | nil => rw [hc] at e1; simp at e1; omega
    | cons r l => exact hs.2 r (by rw [hc]; exact List.mem_cons_self)
  rw [e1, e2] at h2
  exact h2
theorem tr_tr {m : Grid} {n k : Nat} (h : Img m n k) : tr (tr m) = m := by
  have h2 := h.tr
  have hs := tr_shape (tr m)
  rw [h2.head, h2.1.1] at hs
  refine grid_ext (n := n) (m := k) hs h.1 fun i j hi hj => ?_
  rw [at2_tr _ (by rw [h2.head]; exact hi) (by rw [h2.1.1]; exact hj), at2_tr _ (by rw [h.head]; exact hj) (by rw [h.1.1]; exact hi)]
theorem cellI_tr {m : Grid} {n k : Nat} (h : Img m n k) (y x : Int) (hb : cellI m y x = 1) : cellI (tr m) x y = 1 := by
  obtain ⟨i, j, r, rfl, rfl, hr, hj⟩ := cellI_one hb
  have h1 : i < m.length := (List.getElem?_eq_some_iff.1 hr).1
  have h2 : j < r.length := (List.getElem?_eq_some_iff.1 hj).1
  have h3 := h.1.1
  have h4 := h.1.2 r (List.mem_of_getElem? hr)
  obtain ⟨r', c, e1, _, e2, _⟩ := h.tr.cell (show j < k by omega) (show i < n by omega)
  rw [cellI_of e1 e2, ← at2_of e1 e2, at2_tr _ (by rw [h.head]; omega) h1, at2_of hr hj]
theorem Conn.tr {m : Grid} {n k : Nat} (h : Img m n k) {y x v u : Int} (hc : Conn m y x v u) : Conn (tr m) x y u v := by
  induction hc with
  | here hb => exact .here (cellI_tr h _ _ hb)
  | step v1 u1 b a _ hn hb ih => exact ih.step _ _ _ _ hn.turn (cellI_tr h _ _ hb)
theorem Whole.tr {m : Grid} {n k : Nat} (h : Img m n k) (hw : Whole m) : Whole (tr m) := by
  obtain ⟨s, t, hs, hst⟩ := hw
  refine ⟨t, s, cellI_tr h _ _ hs, fun i j hij => ?_⟩
  have := cellI_tr h.tr i j hij
  rw [tr_tr h] at this
  exact (hst j i this).tr h
theorem pieces_tr {m : Grid} {n k : Nat} (h : Img m n k) (hp : pieces m = 1) : pieces (tr m) = 1 := (pieces_one h.tr.ok).2 (((pieces_one h.ok).1 hp).tr h)
end Go.Proofs.Ytlhjbpachpjpkaa
