/- All images: how many there may be, what they look like; lists of some of them. -/
import Derived.Test.YtlhjbpachpjpkaaAllImpl
namespace Go.Proofs.Ytlhjbpachpjpkaa
open Go.RowKit Tomo

theorem allI_sums {rows cols : List Int} {g : Grid} (h : g ∈ allI rows cols) : sumsOk rows cols = true ∧ g ∈ imgs rows cols := by
  unfold allI at h
  by_cases hs : sumsOk rows cols = true
  · rw [if_pos hs] at h; exact ⟨hs, h⟩
  · rw [if_neg hs] at h; cases h
theorem allI_img {rows cols : List Int} {g : Grid} (h : g ∈ allI rows cols) : Img g rows.length cols.length := by
  obtain ⟨hs, hg⟩ := allI_sums h
  obtain ⟨hr1, hr5, hc1, hc5, _⟩ := sumsOk_parts hs
  obtain ⟨h1, h2, _⟩ := (mem_imgs _ _ _).1 hg
  refine ⟨⟨by rw [← h2]; simp, fun r hr => (h1 r hr).1⟩, ⟨hr1, hr5⟩, ⟨hc1, hc5⟩, fun r hr => ?_⟩
  unfold allIn
  rw [List.all_eq_true]
  intro x hx
  rw [inR_iff]
  rcases (h1 r hr).2 x hx with rfl | rfl <;> omega
theorem allI_len (rows cols : List Int) : (allI rows cols).length ≤ 33554432 := by
  unfold allI
  by_cases hs : sumsOk rows cols = true
  · rw [if_pos hs]
    obtain ⟨hr1, hr5, hc1, hc5, _⟩ := sumsOk_parts hs
    cases rows with
    | nil => simp at hr1
    | cons r rs =>
      rw [← putAll_imgs hs]
      refine Nat.le_trans (putRow_contK_len rs [] cols [] r [] cols.length rs.length (by simp)) ?_
      have e25 : (2 : Nat) ^ 25 = 33554432 := by decide
      rw [← e25]
      refine Nat.pow_le_pow_right (by omega) ?_
      have h1 : rs.length * cols.length ≤ 4 * 5 := Nat.mul_le_mul (by simp at hr5; omega) hc5
      omega
  · rw [if_neg hs]; simp
theorem allI_none {rows cols : List Int} (h : exI rows cols = false) : allI rows cols = [] := by
  unfold exI at h
  unfold allI
  by_cases hs : sumsOk rows cols = true
  · rw [if_pos hs]
    rw [hs] at h
    simpa using h
  · rw [if_neg hs]
theorem allI_some {rows cols : List Int} (h : exI rows cols = true) : sumsOk rows cols = true ∧ allI rows cols ≠ [] := by
  unfold exI at h
  rw [Bool.and_eq_true] at h
  refine ⟨h.1, ?_⟩
  unfold allI
  rw [if_pos h.1]
  simpa using h.2

theorem l05AllNil_any (A B : Option Addr) (ca cb : Nat) (rows cols : List Int) (w : World) (h : sumsOk rows cols = true) (hca : rows.length ≤ ca) (hx : Typed w A rows) (hy : Typed w B cols) :
    Calls Try.prog 60 #[.slice none 0 0, .slice none 0 0, .slice A rows.length ca, .slice B cols.length cb] w fun e w' => ∃ v, e = .returned v ∧ OwnGrids w' w.heap.size v (allI rows cols) ∧ Ext w w' := by
  obtain ⟨hr1, hr5, hc1, hc5, hra, hca2, _⟩ := sumsOk_parts h
  refine (l05All_any rows cols [] [] (.slice none 0 0) (.slice none 0 0) w w.heap.size 0 A B ca cb hr5 hc1 hc5 (fun r hr => by have := inR_iff.1 ((List.all_eq_true.1 hca2) r hr); omega) (fun r hr => by have := inR_iff.1 ((List.all_eq_true.1 hra) r hr); omega) (by
    have : 32 ^ rows.length ≤ 32 ^ 5 := Nat.pow_le_pow_right (by decide) hr5
    have e : (32 : Nat) ^ 5 = 33554432 := by decide
    simp only [List.length_nil]; omega) (by simp; omega) (fun r hr => by cases hr) (OwnGrids.nil _ _) (Nat.le_refl _) (OwnGrid.nil _ _) hx hca hy).mono ?_
  rintro e w2 ⟨v, rfl, ho, hb, _⟩
  refine ⟨v, rfl, ?_, hb⟩
  unfold allI
  rw [if_pos h, ← specAll_imgs h]
  simpa using ho

/-- the images' values of those images that meet a test -/
def pickU (p : Grid → Bool) : List Value → List Grid → List Value
  | u :: us, g :: gs => if p g = true then u :: pickU p us gs else pickU p us gs
  | _, _ => []
theorem pickU_len (p : Grid → Bool) : ∀ (us : List Value) (gs : List Grid), us.length = gs.length → (pickU p us gs).length = (gs.filter p).length
  | [], [], _ => rfl
  | [], g :: gs, h => by cases h
  | u :: us, [], h => by cases h
  | u :: us, g :: gs, h => by
    have ih := pickU_len p us gs (by simpa using h)
    unfold pickU
    by_cases hp : p g = true
    · rw [if_pos hp, List.filter_cons_of_pos hp, List.length_cons, List.length_cons, ih]
    · rw [if_neg hp, List.filter_cons_of_neg hp, ih]
theorem pickU_snoc (p : Grid → Bool) (u : Value) (g : Grid) : ∀ (us : List Value) (gs : List Grid), us.length = gs.length → pickU p (us ++ [u]) (gs ++ [g]) = if p g = true then pickU p us gs ++ [u] else pickU p us gs
  | [], [], _ => by simp only [List.nil_append]; unfold pickU; by_cases h : p g = true <;> simp [h, pickU]
  | [], _ :: _, h => by cases h
  | _ :: _, [], h => by cases h
  | v :: us, f :: gs, h => by
    have ih := pickU_snoc p u g us gs (by simpa using h)
    rw [List.cons_append, List.cons_append]
    unfold pickU
    rw [ih]
    by_cases h1 : p f = true <;> by_cases h2 : p g = true <;> simp [h1, h2]
theorem pickU_idx (p : Grid → Bool) : ∀ (us : List Value) (gs : List Grid), us.length = gs.length → ∃ f : Nat → Nat, (∀ i j, i < j → j < (gs.filter p).length → f i < f j) ∧ ∀ i, i < (gs.filter p).length → f i < gs.length ∧ (pickU p us gs)[i]? = us[f i]? ∧ (gs.filter p)[i]? = gs[f i]?
  | [], [], _ => ⟨id, fun i j _ h => by simp at h, fun i h => by simp at h⟩
  | [], _ :: _, h => by cases h
  | _ :: _, [], h => by cases h
  | u :: us, g :: gs, h => by
    obtain ⟨f, h1, h2⟩ := pickU_idx p us gs (by simpa using h)
    unfold pickU
    by_cases hp : p g = true
    · rw [if_pos hp, List.filter_cons_of_pos hp]
      refine ⟨fun i => match i with | 0 => 0 | i + 1 => f i + 1, ?_, ?_⟩
      · intro i j hij hj
        cases j with
        | zero => omega
        | succ j =>
          cases i with
          | zero => show 0 < f j + 1; omega
          | succ i =>
            have := h1 i j (by omega) (by simpa using hj)
            show f i + 1 < f j + 1; omega
      · intro i hi
        cases i with
        | zero => exact ⟨by simp, rfl, rfl⟩
        | succ i =>
          obtain ⟨k1, k2, k3⟩ := h2 i (by simpa using hi)
          exact ⟨by show f i + 1 < _; simpa using k1, by simpa using k2, by simpa using k3⟩
    · rw [if_neg hp, List.filter_cons_of_neg hp]
      refine ⟨fun i => f i + 1, fun i j hij hj => by have := h1 i j hij hj; show f i + 1 < f j + 1; omega, fun i hi => ?_⟩
      obtain ⟨k1, k2, k3⟩ := h2 i hi
      exact ⟨by simpa using k1, by simpa using k2, by simpa using k3⟩

/-- a list of images with the values that hold them -/
def GridsU (w : World) (B : Nat) (v : Value) (gs : List Grid) (us : List Value) : Prop :=
  us.length = gs.length ∧ w.ownsRow B 23 1 v gs.length us ∧ (∀ (k : Nat) u g, us[k]? = some u → gs[k]? = some g → OwnGrid w B u g) ∧
    ∀ (i j : Nat) u u', us[i]? = some u → us[j]? = some u' → i ≠ j → Apart w u u'
theorem OwnGrids.u {w : World} {B : Nat} {v : Value} {gs : List Grid} (h : OwnGrids w B v gs) : ∃ us, GridsU w B v gs us := h
theorem GridsU.grids {w : World} {B : Nat} {v : Value} {gs : List Grid} {us : List Value} (h : GridsU w B v gs us) : OwnGrids w B v gs := ⟨us, h⟩
theorem GridsU.elt {w : World} {B : Nat} {A : Option Addr} {n c : Nat} {gs : List Grid} {us : List Value} (h : GridsU w B (.slice A n c) gs us) {k : Nat} (hk : k < gs.length) : ∃ b u g Au cu, A = some ⟨b, 0, none⟩ ∧ b < w.heap.size ∧ Hid (us[k]? = some u) ∧ Hid (gs[k]? = some g) ∧ w.cell? ⟨b, k, none⟩ = some (.slice Au g.length cu) ∧ Hid (u = .slice Au g.length cu) ∧ OwnGrid w B (.slice Au g.length cu) g := by
  obtain ⟨h1, h2, h3, h4⟩ := h
  have hu : us[k]? = some (us[k]'(by omega)) := List.getElem?_eq_getElem (by omega)
  have hg : gs[k]? = some gs[k] := List.getElem?_eq_getElem hk
  have ho := h3 k _ _ hu hg
  obtain ⟨Au, cu, he, _⟩ := ho.slice
  rcases h2.2 with ⟨_, h0⟩ | ⟨b, cap, cur, hv, hb, hgb, _⟩
  · omega
  · cases hv
    have h5 := h2.cellAt k (by omega)
    refine ⟨b, _, _, Au, cu, rfl, heap_lt hgb, Lib.hid hu, Lib.hid hg, ?_, Lib.hid he, ?_⟩
    · rw [h5, hu, he]
    · rw [← he]; exact ho
theorem Apart.ext {w w' : World} {B B' : Nat} {u u' : Value} {g g' : Grid} (h : Apart w u u') (h1 : OwnGrid w B u g) (h2 : OwnGrid w B' u' g') (e : Ext w w') : Apart w' u u' := fun p q hp hq =>
  h p q (h1.rowVal_non (NonOut.ext e) hp) (h2.rowVal_non (NonOut.ext e) hq)
/-- the list of those that meet a test -/
theorem GridsU.pick {w w' : World} {B B' : Nat} {v v' : Value} {gs : List Grid} {us : List Value} (h : GridsU w B v gs us) (e : Ext w w') (p : Grid → Bool) (hB : B ≤ B') (ho : w'.ownsRow B' 23 1 v' (gs.filter p).length (pickU p us gs)) : GridsU w' B v' (gs.filter p) (pickU p us gs) := by
  obtain ⟨h1, h2, h3, h4⟩ := h
  obtain ⟨f, hf1, hf2⟩ := pickU_idx p us gs h1
  have hlen := pickU_len p us gs h1
  refine ⟨hlen, ownsRow_base ho hB, fun k u g hu hg => ?_, fun i j u u' hi hj hij => ?_⟩
  · have hk := (List.getElem?_eq_some_iff.1 hg).1
    obtain ⟨k1, k2, k3⟩ := hf2 k hk
    exact (h3 (f k) u g (by rw [← k2]; exact hu) (by rw [← k3]; exact hg)).ext e
  · have hi' : i < (gs.filter p).length := by rw [← hlen]; exact (List.getElem?_eq_some_iff.1 hi).1
    have hj' : j < (gs.filter p).length := by rw [← hlen]; exact (List.getElem?_eq_some_iff.1 hj).1
    obtain ⟨i1, i2, _⟩ := hf2 i hi'
    obtain ⟨j1, j2, _⟩ := hf2 j hj'
    have hne : f i ≠ f j := by
      rcases Nat.lt_or_ge i j with hlt | hge
      · have := hf1 i j hlt hj'; omega
      · have := hf1 j i (by omega) hi'; omega
    rw [i2] at hi
    rw [j2] at hj
    exact (h4 (f i) (f j) u u' hi hj hne).ext (h3 (f i) u _ hi (List.getElem?_eq_getElem i1)) (h3 (f j) u' _ hj (List.getElem?_eq_getElem j1)) e

section
variable {ops : Array Oper} {rest : List Oper} {o : Oper} {a : Act} {Q : Exit → Act → World → Prop}
/-- 'append(v, u)': an image's value -/
theorem app_img {w : World} {B : Nat} {v u : Value} {n : Nat} {xs : List Value} (h : w.ownsRow B 23 1 v n xs) (hB : B ≤ w.heap.size) (hone : u.oneCell' = true) (hl : n ≤ 1000000000) {ad : Addr} {c : Nat}
    (hy : w.cell? ad = some u) (hgd : o.guard = none) (s x : Operand) (ho : o.op = .call { callee := .builtin .append, args := #[s, x], argTypes := #[25, 25] })
    (hs : a.eval s = v) (hx : a.eval x = .slice (some ad) 1 c)
    (hK : ∀ b cap w', w'.ownsRow B 23 1 (.slice (some ⟨b, 0, none⟩) (n + 1) cap) (n + 1) (xs ++ [u]) → (∀ z, Below B z w → Below B z w') → wpList Try.prog ops Q rest (a.put o.dst (.slice (some ⟨b, 0, none⟩) (n + 1) cap)) w') :
    wpList Try.prog ops Q (o :: rest) a w := by
  obtain ⟨i, hi, hz, hsz, hby⟩ := infoGrid'
  refine wpList_append_lies w hgd s x 25 ho B 23 i (.slice none 0 0) 1 24 Try.underlying25 hi hz hsz hby rfl (by decide) v n xs hs h ad 1 c [u] hx rfl
    (fun j u' hj => by
      cases j with
      | zero => have : u = u' := by simpa using hj
                subst this
                unfold Addr.add; simpa using hy
      | succ j => simp at hj) (fun u' hu' => by
        have : u' = u := by simpa using hu'
        subst this; exact hone) (by decide) (by unfold maxLen; omega) (by omega) hB w.heap.size rfl ?_
  intro b cap w' hown hgrow hat hlt
  exact hK b cap w' hown (fun z hz => hz.grown hgrow hB fun k hk => (World.ownsRow.lt h k hk).1)
end
end Go.Proofs.Ytlhjbpachpjpkaa
