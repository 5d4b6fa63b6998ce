/- One piece: the black cells hang together (plain mathematics). -/
import Derived.Test.YtlhjbpachpjpkaaPaint1
namespace Go.Proofs.Ytlhjbpachpjpkaa
open Go.RowKit

/-- cells side by side -/
def Nb (y x v u : Int) : Prop := (v = y - 1 ∧ u = x) ∨ (v = y + 1 ∧ u = x) ∨ (v = y ∧ u = x - 1) ∨ (v = y ∧ u = x + 1)
theorem Nb.symm {y x v u : Int} (h : Nb y x v u) : Nb v u y x := by unfold Nb at *; omega
theorem Nb.turn {y x v u : Int} (h : Nb y x v u) : Nb x y u v := by unfold Nb at *; omega
/-- a way over black cells -/
inductive Conn (m : List (List Int)) (y x : Int) : Int → Int → Prop
  | here : cellI m y x = 1 → Conn m y x y x
  | step (v u b a : Int) : Conn m y x v u → Nb v u b a → cellI m b a = 1 → Conn m y x b a
theorem Conn.first {m : List (List Int)} {y x v u : Int} (h : Conn m y x v u) : cellI m y x = 1 := by
  induction h with
  | here h => exact h
  | step _ _ _ _ _ _ _ ih => exact ih
theorem Conn.last {m : List (List Int)} {y x v u : Int} (h : Conn m y x v u) : cellI m v u = 1 := by
  cases h with
  | here h => exact h
  | step _ _ _ _ _ _ h => exact h
theorem Conn.trans {m : List (List Int)} {y x v u b a : Int} (h : Conn m y x v u) (k : Conn m v u b a) : Conn m y x b a := by
  induction k with
  | here _ => exact h
  | step v1 u1 b1 a1 _ hn hc ih => exact ih.step _ _ _ _ hn hc
theorem Conn.symm {m : List (List Int)} {y x v u : Int} (h : Conn m y x v u) : Conn m v u y x := by
  induction h with
  | here h => exact .here h
  | step v1 u1 b1 a1 h1 hn hc ih => exact ((Conn.here hc).step _ _ _ _ hn.symm h1.last).trans ih
theorem Conn.mono {m q : List (List Int)} {y x v u : Int} (h : Conn q y x v u) (hs : ∀ i j, cellI q i j = 1 → cellI m i j = 1) : Conn m y x v u := by
  induction h with
  | here h => exact .here (hs _ _ h)
  | step v1 u1 b1 a1 _ hn hc ih => exact ih.step _ _ _ _ hn (hs _ _ hc)

theorem cellI_one {m : List (List Int)} {y x : Int} (h : cellI m y x = 1) : ∃ (i j : Nat) (r : List Int), y = i ∧ x = j ∧ m[i]? = some r ∧ r[j]? = some 1 := by
  unfold cellI at h
  split at h
  · rename_i hp
    split at h
    · rename_i r hr
      refine ⟨y.toNat, x.toNat, r, by omega, by omega, hr, ?_⟩
      cases hc : r[x.toNat]? with
      | none => rw [hc] at h; simp at h
      | some c => rw [hc] at h; simpa using h
    · simp at h
  · simp at h
theorem cellI_set {m : List (List Int)} {i j : Nat} {r : List Int} (hr : m[i]? = some r) (hj : r[j]? = some 1) (v u : Int) : cellI (m.set i (r.set j 0)) v u = if v = i ∧ u = j then 0 else cellI m v u := by
  have hi : i < m.length := (List.getElem?_eq_some_iff.1 hr).1
  have hjl : j < r.length := (List.getElem?_eq_some_iff.1 hj).1
  unfold cellI
  by_cases hp : 0 ≤ v ∧ 0 ≤ u
  · rw [if_pos hp, if_pos hp]
    by_cases hv : v = i
    · have e : v.toNat = i := by omega
      rw [e, List.getElem?_set_self hi, hr]
      show (r.set j 0)[u.toNat]?.getD (-1) = _
      by_cases hu : u = j
      · have e2 : u.toNat = j := by omega
        rw [if_pos ⟨hv, hu⟩, e2, List.getElem?_set_self hjl]; rfl
      · have e2 : u.toNat ≠ j := by omega
        rw [if_neg (fun h => hu h.2), List.getElem?_set_ne (fun h => e2 h.symm)]
    · have e : v.toNat ≠ i := by omega
      rw [List.getElem?_set_ne (fun h => e h.symm), if_neg (fun h => hv h.1)]
  · rw [if_neg hp, if_neg hp, if_neg (fun h => hp ⟨by omega, by omega⟩)]

/-- what wiping leaves: the same or white; the piece of the cell is gone, no other one -/
structure Erased (m q : List (List Int)) (y x : Int) : Prop where
  sub : ∀ i j, cellI q i j = 1 → cellI m i j = 1
  here : cellI q y x ≠ 1
  closed : ∀ i j, cellI m i j = 1 → cellI q i j ≠ 1 → ∀ v u, Nb i j v u → cellI q v u ≠ 1
  sound : ∀ i j, cellI m i j = 1 → cellI q i j ≠ 1 → Conn m y x i j
theorem Paint.erased {m q : List (List Int)} {y x : Int} (h : Paint m y x q) : Erased m q y x := by
  induction h with
  | stop m y x h => exact ⟨fun _ _ h => h, h, fun _ _ h1 h2 => absurd h1 h2, fun _ _ h1 h2 => absurd h1 h2⟩
  | go m i j r a b c d hr hj _ _ _ _ ia ib ic id =>
    have hset := cellI_set hr hj
    have s0 : ∀ u v, cellI (m.set i (r.set j 0)) u v = 1 → cellI m u v = 1 := fun u v h => by
      rw [hset] at h
      split at h
      · cases h
      · exact h
    have hm : cellI m i j = 1 := cellI_of hr hj
    have hz : cellI (m.set i (r.set j 0)) i j ≠ 1 := by rw [hset, if_pos ⟨rfl, rfl⟩]; decide
    have sa : ∀ u v, cellI a u v = 1 → cellI m u v = 1 := fun u v h => s0 u v (ia.sub u v h)
    have sb : ∀ u v, cellI b u v = 1 → cellI m u v = 1 := fun u v h => sa u v (ib.sub u v h)
    have sc : ∀ u v, cellI c u v = 1 → cellI m u v = 1 := fun u v h => sb u v (ic.sub u v h)
    have dc : ∀ u v, cellI d u v = 1 → cellI c u v = 1 := id.sub
    have db : ∀ u v, cellI d u v = 1 → cellI b u v = 1 := fun u v h => ic.sub u v (dc u v h)
    have da : ∀ u v, cellI d u v = 1 → cellI a u v = 1 := fun u v h => ib.sub u v (db u v h)
    have far : ∀ u v, ¬ (u = (i : Int) ∧ v = (j : Int)) → cellI m u v = 1 → cellI (m.set i (r.set j 0)) u v = 1 := fun u v h1 h2 => by rw [hset, if_neg h1]; exact h2
    refine ⟨fun u v h => sa u v (da u v h), fun h => hz (ia.sub _ _ (da _ _ h)), fun u v h1 h2 v' u' hn hd => ?_, fun u v h1 h2 => ?_⟩
    · by_cases he : u = (i : Int) ∧ v = (j : Int)
      · obtain ⟨rfl, rfl⟩ := he
        rcases hn with ⟨rfl, rfl⟩ | ⟨rfl, rfl⟩ | ⟨rfl, rfl⟩ | ⟨rfl, rfl⟩
        · exact ia.here (da _ _ hd)
        · exact ib.here (db _ _ hd)
        · exact ic.here (dc _ _ hd)
        · exact id.here hd
      · have h3 := far u v he h1
        by_cases c1 : cellI a u v = 1
        · by_cases c2 : cellI b u v = 1
          · by_cases c3 : cellI c u v = 1
            · exact id.closed u v c3 h2 v' u' hn hd
            · exact ic.closed u v c2 c3 v' u' hn (dc _ _ hd)
          · exact ib.closed u v c1 c2 v' u' hn (db _ _ hd)
        · exact ia.closed u v h3 c1 v' u' hn (da _ _ hd)
    · by_cases he : u = (i : Int) ∧ v = (j : Int)
      · obtain ⟨rfl, rfl⟩ := he
        exact .here hm
      · have h3 := far u v he h1
        have join : ∀ {g : List (List Int)} {p o : Int}, (∀ u v, cellI g u v = 1 → cellI m u v = 1) → Nb i j p o → Conn g p o u v → Conn m i j u v := fun hs hn hc =>
          ((Conn.here hm).step _ _ _ _ hn (hs _ _ hc.first)).trans (hc.mono hs)
        by_cases c1 : cellI a u v = 1
        · by_cases c2 : cellI b u v = 1
          · by_cases c3 : cellI c u v = 1
            · exact join sc (by unfold Nb; omega) (id.sound u v c3 h2)
            · exact join sb (by unfold Nb; omega) (ic.sound u v c2 c3)
          · exact join sa (by unfold Nb; omega) (ib.sound u v c1 c2)
        · exact join s0 (by unfold Nb; omega) (ia.sound u v h3 c1)
theorem Erased.gone {m q : List (List Int)} {y x : Int} (h : Erased m q y x) {i j : Int} (hc : Conn m y x i j) : cellI q i j ≠ 1 := by
  induction hc with
  | here _ => exact h.here
  | step v u b a h1 hn _ ih => exact h.closed v u h1.last ih b a hn
end Go.Proofs.Ytlhjbpachpjpkaa
