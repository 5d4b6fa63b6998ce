/- As many convex polyominoes with sums turned. -/
import Derived.Test.YtlhjbpachpjpkaaTurn2
import Derived.Test.YtlhjbpachpjpkaaPolys
import Derived.Test.YtlhjbpachpjpkaaUnique
import Derived.Test.YtlhjbpachpjpkaaTomA
namespace Go.Proofs.Ytlhjbpachpjpkaa
open Go.RowKit Tomo

theorem sub_len {α : Type} : ∀ {a b : List α}, a.Nodup → (∀ x ∈ a, x ∈ b) → a.length ≤ b.length
  | [], _, _, _ => Nat.zero_le _
  | x :: a, b, hn, hs => by
    obtain ⟨h1, h2⟩ := List.nodup_cons.1 hn
    obtain ⟨p, q, rfl⟩ := List.append_of_mem (hs x List.mem_cons_self)
    have h3 : a.length ≤ (p ++ q).length := sub_len h2 fun y hy => by
      have := hs y (List.mem_cons_of_mem _ hy)
      rcases List.mem_append.1 this with h | h
      · exact List.mem_append_left _ h
      · rcases List.mem_cons.1 h with e | e
        · subst e; exact absurd hy h1
        · exact List.mem_append_right _ e
    rw [List.length_append] at h3 ⊢
    rw [List.length_cons, List.length_cons]; omega
theorem rsI_tr2 {m : Grid} (h : gridOk m 0 1 = true) : rsI (tr m) = csI m ∧ csI (tr m) = rsI m := by
  have hi := Img.of h
  have h2 := gridOk_tr h
  constructor
  · unfold rsI csI; rw [if_pos h, if_pos h2]
  · unfold rsI csI; rw [if_pos h, if_pos h2, tr_tr hi]
theorem convex_tr {m : Grid} {n k : Nat} (h : Img m n k) (hc : convexI m = true) : convexI (tr m) = true := by
  unfold convexI vconvex at *
  rw [tr_tr h]
  rw [h.ok, Bool.true_and, Bool.and_eq_true] at hc
  rw [h.tr.ok, hc.1, hc.2]; rfl
theorem polyP_parts {m : Grid} (h : polyP m = true) : convexI m = true ∧ pieces m = 1 := by
  unfold polyP at h
  rw [Bool.and_eq_true, beq_iff_eq] at h
  exact h
theorem poly_tr {rows cols : List Int} {g : Grid} (h : g ∈ polyL rows cols) : tr g ∈ polyL cols rows := by
  obtain ⟨h1, h2⟩ := List.mem_filter.1 h
  have hi := allI_img h1
  obtain ⟨e1, e2⟩ := allI_eq h1
  obtain ⟨p1, p2⟩ := polyP_parts h2
  have hs := img_self hi.tr.ok
  obtain ⟨r1, r2⟩ := rsI_tr2 hi.ok
  rw [r1, r2, e1, e2] at hs
  refine List.mem_filter.2 ⟨hs, ?_⟩
  unfold polyP
  rw [convex_tr hi p1, pieces_tr hi p2]; rfl
theorem polyL_nodup (rows cols : List Int) : (polyL rows cols).Nodup := by
  unfold polyL allI
  split
  · exact (imgs_nodup rows cols).filter _
  · exact List.nodup_nil
theorem poly_le (rows cols : List Int) : (polyL rows cols).length ≤ (polyL cols rows).length := by
  have hn : ((polyL rows cols).map tr).Nodup := by
    have h := polyL_nodup rows cols
    unfold List.Nodup at h ⊢
    rw [List.pairwise_map]
    refine h.imp_of_mem fun {a b} ha hb hab he => hab ?_
    have i1 := allI_img (List.mem_filter.1 ha).1
    have i2 := allI_img (List.mem_filter.1 hb).1
    rw [← tr_tr i1, ← tr_tr i2, he]
  have := sub_len hn (b := polyL cols rows) fun x hx => by
    obtain ⟨g, hg, rfl⟩ := List.mem_map.1 hx
    exact poly_tr hg
  rw [List.length_map] at this
  exact this
theorem poly_len (rows cols : List Int) : (polyL rows cols).length = (polyL cols rows).length := Nat.le_antisymm (poly_le _ _) (poly_le _ _)
/-- the image that is made if no draw succeeds -/
theorem corner_poly : polyP [[1, 1], [0, 1]] = true := by
  have hg : gridOk [[1, 1], [0, 1]] 0 1 = true := by decide
  have hc : convexI [[1, 1], [0, 1]] = true := by decide
  have hw : Whole [[1, 1], [0, 1]] := by
    have c00 : cellI [[1, 1], [0, 1]] 0 0 = 1 := by decide
    have c01 : cellI [[1, 1], [0, 1]] 0 1 = 1 := by decide
    have c11 : cellI [[1, 1], [0, 1]] 1 1 = 1 := by decide
    refine ⟨0, 0, c00, fun i j hij => ?_⟩
    obtain ⟨a, b, r, rfl, rfl, hr, hj⟩ := cellI_one hij
    have k01 : Conn [[1, 1], [0, 1]] 0 0 0 1 := (Conn.here c00).step _ _ _ _ (by unfold Nb; omega) c01
    have k11 : Conn [[1, 1], [0, 1]] 0 0 1 1 := k01.step _ _ _ _ (by unfold Nb; omega) c11
    have h1 : a < 2 := (List.getElem?_eq_some_iff.1 hr).1
    rcases (by omega : a = 0 ∨ a = 1) with rfl | rfl
    · have e : r = [1, 1] := by simpa using hr.symm
      subst e
      have h2 : b < 2 := (List.getElem?_eq_some_iff.1 hj).1
      rcases (by omega : b = 0 ∨ b = 1) with rfl | rfl
      · exact .here c00
      · exact k01
    · have e : r = [0, 1] := by simpa using hr.symm
      subst e
      have h2 : b < 2 := (List.getElem?_eq_some_iff.1 hj).1
      rcases (by omega : b = 0 ∨ b = 1) with rfl | rfl
      · simp at hj
      · exact k11
  unfold polyP
  rw [hc, (pieces_one hg).2 hw]; rfl
end Go.Proofs.Ytlhjbpachpjpkaa
