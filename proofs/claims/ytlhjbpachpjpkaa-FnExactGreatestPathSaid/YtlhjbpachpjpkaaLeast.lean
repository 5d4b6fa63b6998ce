/- The least image, the first one that meets a mask: in the reference and in the program. -/
import Derived.Test.YtlhjbpachpjpkaaMasked
import Derived.Test.YtlhjbpachpjpkaaMaA
namespace Go.Proofs.Ytlhjbpachpjpkaa
open Go.RowKit Tomo

theorem img_bound {g : Grid} {n k : Nat} (h : Img g n k) : GBound g := by
  have h1 := h.1.1
  have h2 := h.2.1.2
  have h3 := h.2.2.1.2
  refine ⟨by omega, fun r hr => by rw [h.1.2 r hr]; omega, ?_⟩
  have key : ∀ l : Grid, (∀ r ∈ l, r.length ≤ 5) → total l ≤ 5 * l.length := by
    intro l
    induction l with
    | nil => intro _; simp [total]
    | cons r l ih =>
      intro hl
      have i1 := ih (fun r hr => hl r (List.mem_cons_of_mem _ hr))
      have i2 := hl r List.mem_cons_self
      unfold total at *
      rw [List.map_cons, List.sum_cons, List.length_cons]; omega
  have := key g (fun r hr => by rw [h.1.2 r hr]; omega)
  omega
theorem nil_bound : GBound [] := ⟨by simp, (fun r hr => by cases hr), by simp [total]⟩
noncomputable def leastI (rows cols : List Int) : Grid := (allI rows cols).headD []
theorem leastI_bound (rows cols : List Int) : GBound (leastI rows cols) := by
  unfold leastI
  cases h : allI rows cols with
  | nil => exact nil_bound
  | cons g gs => exact img_bound (allI_img (by rw [h]; exact List.mem_cons_self))
theorem exI_of {rows cols : List Int} (h : allI rows cols ≠ []) : exI rows cols = true := by
  cases e : exI rows cols
  · exact absurd (allI_none e) h
  · rfl


set_option maxHeartbeats 2000000 in
theorem implLeastImage_any (A B : Option Addr) (ca cb : Nat) (rows cols : List Int) (w : World) (hl : rows.length ≤ 1048576) (hl2 : cols.length ≤ 1048576) (hx : Ints w A rows) (hy : Ints w B cols) :
    Calls Try.prog 21 #[.slice A rows.length ca, .slice B cols.length cb] w fun e w' => ∃ v, e = .returned (.tuple #[v, .bool (exI rows cols)]) ∧ OwnGrid w' w.heap.size v (leastI rows cols) ∧ Ext w w' := by
  have cl := implAllImages_any A B ca cb rows cols w hl hl2 hx hy
  have HP : Hid (leastI rows cols = (allI rows cols).headD []) := Lib.hid rfl
  have HX1 : Hid (allI rows cols ≠ [] → exI rows cols = true) := Lib.hid exI_of
  have HX2 : Hid (allI rows cols = [] → exI rows cols = false) := Lib.hid (fun h => by
    cases e : exI rows cols
    · rfl
    · exact absurd h (allI_some e).2)
  have hlen := allI_len rows cols
  obtain ⟨so, hso⟩ : ∃ so, sumsOk rows cols = so := ⟨_, rfl⟩
  obtain ⟨gs, hgs⟩ : ∃ gs, allI rows cols = gs := ⟨_, rfl⟩
  obtain ⟨q, hq⟩ : ∃ q, leastI rows cols = q := ⟨_, rfl⟩
  obtain ⟨ex, hex⟩ : ∃ ex, exI rows cols = ex := ⟨_, rfl⟩
  rw [hq] at HP ⊢
  rw [hex] at HX1 HX2 ⊢
  rw [hgs] at HP HX1 HX2 hlen
  simp only [hgs] at cl
  rw [hso] at cl
  clear hx hy hgs hso hq hex
  cases gs with
  | nil =>
    have hE : ex = false := HX2.out rfl
    subst hE
    clear HX1 HX2
    go_enter Try.func21, Try.ntmps21
    go_wp2_with fail
    refine cl.mono ?_
    rintro e w2 ⟨v, rfl, ho, he⟩
    obtain ⟨Ag, cg, rfl, _⟩ := ho.slice
    have HE2 := Lib.hid he
    clear ho he cl
    go_wp2
    go_ret2
    exact ⟨_, rfl, by rw [HP.out]; exact OwnGrid.nil _ _, HE2.out⟩
  | cons g gs =>
    have hE : ex = true := HX1.out (by simp)
    subst hE
    have HQ : Hid (q = g) := Lib.hid HP.out
    clear HX1 HX2 HP
    obtain ⟨N, hN⟩ : ∃ N, (g :: gs).length = N := ⟨_, rfl⟩
    have hN1 : 1 ≤ N := by rw [← hN]; simp
    rw [hN] at hlen
    have HN := Lib.hid hN
    clear hN
    go_enter Try.func21, Try.ntmps21
    go_wp2_with fail
    refine cl.mono ?_
    rintro e w2 ⟨v, rfl, ho, he⟩
    obtain ⟨Ag, cg, rfl, _⟩ := ho.slice
    obtain ⟨b, u, hA, _, _, hcu, hou⟩ := ho.elt (k := 0) (g := g) rfl
    subst hA
    rw [HN.out]
    have HO := Lib.hid hou
    have HE2 := Lib.hid he
    clear ho he hou cl
    go_wp2
    go_ret2
    exact ⟨_, rfl, by rw [HQ.out]; exact HO.out, HE2.out⟩
end Go.Proofs.Ytlhjbpachpjpkaa
