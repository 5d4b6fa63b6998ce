/- A search in breadth finds the distances (plain mathematics). -/
import Derived.Test.YtlhjbpachpjpkaaTomA
namespace Go.Proofs.Ytlhjbpachpjpkaa.Tomo

section
variable {α : Type} (N : α → α → Prop)
/-- a way of so many steps -/
inductive Walk : Nat → α → α → Prop
  | here (x : α) : Walk 0 x x
  | step (k : Nat) (x y z : α) : Walk k x y → N y z → Walk (k + 1) x z
theorem Walk.cons {N : α → α → Prop} {x y : α} (h : N x y) : ∀ {k : Nat} {z : α}, Walk N k y z → Walk N (k + 1) x z := by
  intro k z hw
  induction hw with
  | here y => exact .step 0 x x y (.here x) h
  | step k y a b _ hn ih => exact .step _ x a b (ih h) hn
theorem Walk.symm {N : α → α → Prop} (hs : ∀ x y, N x y → N y x) {k : Nat} {x y : α} (h : Walk N k x y) : Walk N k y x := by
  induction h with
  | here x => exact .here x
  | step k x y z _ hn ih => exact Walk.cons (hs _ _ hn) ih
theorem Walk.inv {N : α → α → Prop} {P : α → Prop} (hp : ∀ x y, P x → N x y → P y) {k : Nat} {x y : α} (h : Walk N k x y) (hx : P x) : P y := by
  induction h with
  | here x => exact hx
  | step k x y z _ hn ih => exact hp _ _ (ih hx) hn
def IsDist (x y : α) (d : Nat) : Prop := Walk N d x y ∧ ∀ k, Walk N k x y → d ≤ k
theorem IsDist.uniq {N : α → α → Prop} {x y : α} {d e : Nat} (h : IsDist N x y d) (k : IsDist N x y e) : d = e := Nat.le_antisymm (h.2 _ k.1) (k.2 _ h.1)
open Classical in
/-- the distance, or 0 if there is no way -/
noncomputable def wayLen (x y : α) : Nat := if ∃ d, IsDist N x y d then Classical.epsilon fun d => IsDist N x y d else 0
theorem wayLen_of {N : α → α → Prop} {x y : α} {d : Nat} (h : IsDist N x y d) : wayLen N x y = d := by
  have hx : ∃ d, IsDist N x y d := ⟨d, h⟩
  unfold wayLen
  rw [if_pos hx]
  exact (Classical.epsilon_spec hx).uniq h
theorem wayLen_none {N : α → α → Prop} {x y : α} (h : ∀ d, ¬ IsDist N x y d) : wayLen N x y = 0 := by
  unfold wayLen
  rw [if_neg (fun ⟨d, hd⟩ => h d hd)]
/-- the search: the nodes found, their distances; i of them are done -/
structure Bfs (root : α) (qs : List α) (ds : List Nat) (i : Nat) : Prop where
  len : qs.length = ds.length
  nodup : qs.Nodup
  first : qs[0]? = some root ∧ ds[0]? = some 0
  walk : ∀ (j : Nat) q d, qs[j]? = some q → ds[j]? = some d → Walk N d root q
  low : ∀ (j : Nat) d, ds[j]? = some d → d ≤ j
  mono : ∀ (j j' : Nat) d d', j ≤ j' → ds[j]? = some d → ds[j']? = some d' → d ≤ d'
  near : ∀ (j : Nat) d di, ds[j]? = some d → ds[i]? = some di → d ≤ di + 1
  closed : ∀ (j : Nat) q d, j < i → qs[j]? = some q → ds[j]? = some d → ∀ y, N q y → ∃ (j' : Nat) (d' : Nat), qs[j']? = some y ∧ ds[j']? = some d' ∧ d' ≤ d + 1
/-- this node has been found -/
def Found2 (qs : List α) (ds : List Nat) (d : Nat) (y : α) : Prop := ∃ (j' : Nat) (d' : Nat), qs[j']? = some y ∧ ds[j']? = some d' ∧ d' ≤ d + 1
theorem Found2.app {qs : List α} {ds : List Nat} {d : Nat} {y : α} (h : Found2 qs ds d y) (a : List α) (b : List Nat) : Found2 (qs ++ a) (ds ++ b) d y := by
  obtain ⟨j, e, h1, h2, h3⟩ := h
  exact ⟨j, e, by rw [List.getElem?_append_left (List.getElem?_eq_some_iff.1 h1).1]; exact h1, by rw [List.getElem?_append_left (List.getElem?_eq_some_iff.1 h2).1]; exact h2, h3⟩
variable {N} {root : α} {qs : List α} {ds : List Nat} {i : Nat}
theorem Bfs.start (root : α) : Bfs N root [root] [0] 0 := by
  have h0 : ∀ {β : Type} {x b : β} {j : Nat}, ([x] : List β)[j]? = some b → j = 0 ∧ b = x := fun {β x b j} h => by
    cases j with
    | zero => exact ⟨rfl, by simpa using h.symm⟩
    | succ j => simp at h
  refine ⟨rfl, by simp, ⟨rfl, rfl⟩, fun j q d h1 h2 => ?_, fun j d h => ?_, fun j j' d d' _ h1 h2 => ?_, fun j d di h1 _ => ?_, fun j q d h => by omega⟩
  · obtain ⟨_, rfl⟩ := h0 h1
    obtain ⟨_, rfl⟩ := h0 h2
    exact .here _
  · obtain ⟨_, rfl⟩ := h0 h; omega
  · obtain ⟨_, rfl⟩ := h0 h1; omega
  · obtain ⟨_, rfl⟩ := h0 h1; omega
theorem snoc_at {β : Type} {l : List β} {x b : β} {j : Nat} (h : (l ++ [x])[j]? = some b) : (j < l.length ∧ l[j]? = some b) ∨ (j = l.length ∧ b = x) := by
  rcases Nat.lt_trichotomy j l.length with h1 | h1 | h1
  · rw [List.getElem?_append_left h1] at h; exact .inl ⟨h1, h⟩
  · subst h1
    rw [List.getElem?_append_right (Nat.le_refl _), Nat.sub_self] at h
    exact .inr ⟨rfl, by simpa using h.symm⟩
  · rw [List.getElem?_eq_none (by simp; omega)] at h; cases h
/-- a new node beside the node that is under way -/
theorem Bfs.add (h : Bfs N root qs ds i) {q y : α} {d : Nat} (hq : qs[i]? = some q) (hd : ds[i]? = some d) (hn : N q y) (hy : y ∉ qs) : Bfs N root (qs ++ [y]) (ds ++ [d + 1]) i := by
  have hil : i < ds.length := (List.getElem?_eq_some_iff.1 hd).1
  have hl := h.len
  refine ⟨by rw [List.length_append, List.length_append, hl]; rfl, ?_, ?_, fun j q' d' h1 h2 => ?_, fun j d' h1 => ?_, fun j j' a b hjj h1 h2 => ?_, fun j a di h1 h2 => ?_, fun j q' d' hj h1 h2 z hz => ?_⟩
  · rw [List.nodup_append]
    exact ⟨h.nodup, by simp, fun a ha b hb e => hy (by rw [← List.mem_singleton.1 hb, ← e]; exact ha)⟩
  · obtain ⟨r1, r2⟩ := h.first
    exact ⟨by rw [List.getElem?_append_left (List.getElem?_eq_some_iff.1 r1).1]; exact r1, by rw [List.getElem?_append_left (List.getElem?_eq_some_iff.1 r2).1]; exact r2⟩
  · rcases snoc_at h1 with ⟨a1, a2⟩ | ⟨a1, rfl⟩
    · rcases snoc_at h2 with ⟨b1, b2⟩ | ⟨b1, rfl⟩
      · exact h.walk j q' d' a2 b2
      · omega
    · rcases snoc_at h2 with ⟨b1, b2⟩ | ⟨b1, rfl⟩
      · omega
      · exact .step d root q q' (h.walk i q d hq hd) hn
  · rcases snoc_at h1 with ⟨a1, a2⟩ | ⟨a1, rfl⟩
    · exact h.low j d' a2
    · have := h.low i d hd; omega
  · rcases snoc_at h1 with ⟨a1, a2⟩ | ⟨a1, rfl⟩
    · rcases snoc_at h2 with ⟨b1, b2⟩ | ⟨b1, rfl⟩
      · exact h.mono j j' a b hjj a2 b2
      · exact h.near j a d a2 hd
    · rcases snoc_at h2 with ⟨b1, b2⟩ | ⟨b1, rfl⟩
      · omega
      · exact Nat.le_refl _
  · have h2' : ds[i]? = some di := by rw [List.getElem?_append_left hil] at h2; exact h2
    rcases snoc_at h1 with ⟨a1, a2⟩ | ⟨a1, rfl⟩
    · exact h.near j a di a2 h2'
    · rw [hd] at h2'; cases h2'; exact Nat.le_refl _
  · have hjl : j < qs.length := by omega
    rw [List.getElem?_append_left hjl] at h1
    rw [List.getElem?_append_left (by omega)] at h2
    obtain ⟨j', d'', c1, c2, c3⟩ := h.closed j q' d' hj h1 h2 z hz
    exact Found2.app ⟨j', d'', c1, c2, c3⟩ _ _
/-- all neighbours of the node have been found: it is done -/
theorem Bfs.next (h : Bfs N root qs ds i) {q : α} {d : Nat} (hq : qs[i]? = some q) (hd : ds[i]? = some d) (hall : ∀ y, N q y → Found2 qs ds d y) : Bfs N root qs ds (i + 1) := by
  refine ⟨h.len, h.nodup, h.first, h.walk, h.low, h.mono, fun j a di h1 h2 => ?_, fun j q' d' hj h1 h2 y hy => ?_⟩
  · have := h.near j a d h1 hd
    have := h.mono i (i + 1) d di (by omega) hd h2
    omega
  · by_cases e : j = i
    · subst e
      rw [hq] at h1
      rw [hd] at h2
      cases h1
      cases h2
      exact hall y hy
    · exact h.closed j q' d' (by omega) h1 h2 y hy
/-- all are done -/
theorem Bfs.done (h : Bfs N root qs ds qs.length) {k : Nat} {y : α} (hw : Walk N k root y) : ∃ (j : Nat) (d : Nat), qs[j]? = some y ∧ ds[j]? = some d ∧ d ≤ k := by
  have key : ∀ {k : Nat} {x y : α}, Walk N k x y → x = root → ∃ (j : Nat) (d : Nat), qs[j]? = some y ∧ ds[j]? = some d ∧ d ≤ k := by
    intro k x y hw
    induction hw with
    | here x => intro e; subst e; exact ⟨0, 0, h.first.1, h.first.2, Nat.le_refl _⟩
    | step k x y z _ hn ih =>
      intro e
      obtain ⟨j, d, h1, h2, h3⟩ := ih e
      obtain ⟨j', d', g1, g2, g3⟩ := h.closed j y d (List.getElem?_eq_some_iff.1 h1).1 h1 h2 z hn
      exact ⟨j', d', g1, g2, by omega⟩
  exact key hw rfl
theorem nodup_at {l : List α} (h : l.Nodup) {i j : Nat} {x : α} (hi : l[i]? = some x) (hj : l[j]? = some x) : i = j := by
  have h1 := (List.getElem?_eq_some_iff.1 hi).1
  have h2 := (List.getElem?_eq_some_iff.1 hj).1
  exact (List.getElem?_inj h1 h).1 (hi.trans hj.symm)
theorem Bfs.isDist (h : Bfs N root qs ds qs.length) {j : Nat} {y : α} {d : Nat} (hy : qs[j]? = some y) (hd : ds[j]? = some d) : IsDist N root y d := by
  refine ⟨h.walk j y d hy hd, fun k hw => ?_⟩
  obtain ⟨j', d', g1, g2, g3⟩ := h.done hw
  obtain rfl := nodup_at h.nodup hy g1
  rw [hd] at g2
  cases g2
  exact g3
theorem Bfs.far (h : Bfs N root qs ds qs.length) {y : α} (hy : y ∉ qs) : wayLen N root y = 0 := wayLen_none fun d hd => by
  obtain ⟨j, e, h1, _⟩ := h.done hd.1
  exact hy (List.mem_of_getElem? h1)
/-- from a node that is not the first one a step leads nearer; no step leads nearer by more than one -/
theorem Bfs.down (h : Bfs N root qs ds qs.length) (hs : ∀ x y, N x y → N y x) {j : Nat} {y : α} {d : Nat} (hy : qs[j]? = some y) (hd : ds[j]? = some (d + 1)) : ∃ (z : α) (j' : Nat), N y z ∧ qs[j']? = some z ∧ ds[j']? = some d := by
  have hw := h.walk j y _ hy hd
  generalize hk : d + 1 = k at hw
  cases hw with
  | here => omega
  | step k x z _ hz hn =>
    obtain rfl : k = d := by omega
    obtain ⟨j', d', g1, g2, g3⟩ := h.done hz
    obtain ⟨j2, d2, k1, k2, k3⟩ := h.closed j' z d' (List.getElem?_eq_some_iff.1 g1).1 g1 g2 y hn
    obtain rfl := nodup_at h.nodup hy k1
    rw [hd] at k2
    cases k2
    exact ⟨z, j', hs _ _ hn, g1, by rw [g2]; congr 1; omega⟩
theorem Bfs.step (h : Bfs N root qs ds qs.length) {j : Nat} {y z : α} {d : Nat} (hy : qs[j]? = some y) (hd : ds[j]? = some d) (hn : N y z) : ∃ (j' : Nat) (d' : Nat), qs[j']? = some z ∧ ds[j']? = some d' ∧ d' ≤ d + 1 := h.closed j y d (List.getElem?_eq_some_iff.1 hy).1 hy hd z hn
end
/-- the greatest of some numbers, or 0 -/
def maxL (l : List Nat) : Nat := l.foldl max 0
theorem maxL_snoc (l : List Nat) (d : Nat) : maxL (l ++ [d]) = max (maxL l) d := by unfold maxL; rw [List.foldl_append]; rfl
theorem foldl_max_ge : ∀ (l : List Nat) (m : Nat), m ≤ l.foldl max m ∧ ∀ x ∈ l, x ≤ l.foldl max m
  | [], _ => ⟨Nat.le_refl _, fun x h => by cases h⟩
  | a :: l, m => by
    have h := foldl_max_ge l (max m a)
    refine ⟨Nat.le_trans (Nat.le_max_left _ _) h.1, fun x hx => ?_⟩
    rcases List.mem_cons.1 hx with e | e
    · subst e; exact Nat.le_trans (Nat.le_max_right _ _) h.1
    · exact h.2 x e
theorem foldl_max_le : ∀ (l : List Nat) (m b : Nat), m ≤ b → (∀ x ∈ l, x ≤ b) → l.foldl max m ≤ b
  | [], _, _, h, _ => h
  | a :: l, m, b, h, hl => foldl_max_le l (max m a) b (Nat.max_le.2 ⟨h, hl a List.mem_cons_self⟩) (fun x hx => hl x (List.mem_cons_of_mem _ hx))
theorem maxL_ge {l : List Nat} {x : Nat} (h : x ∈ l) : x ≤ maxL l := (foldl_max_ge l 0).2 x h
theorem maxL_le {l : List Nat} {b : Nat} (h : ∀ x ∈ l, x ≤ b) : maxL l ≤ b := foldl_max_le l 0 b (Nat.zero_le _) h
/-- the greatest distance among all that are found is the greatest distance to one of the list -/
theorem max_dist {α : Type} {N : α → α → Prop} {root : α} {qs : List α} {ds : List Nat} (h : Bfs N root qs ds qs.length) {L : List α} (hL : ∀ q ∈ qs, q ∈ L) : maxL ds = maxL (L.map (wayLen N root)) := by
  refine Nat.le_antisymm (maxL_le fun d hd => ?_) (maxL_le fun d hd => ?_)
  · obtain ⟨j, hj⟩ := List.getElem?_of_mem hd
    have hjl : j < qs.length := by rw [h.len]; exact (List.getElem?_eq_some_iff.1 hj).1
    have hq : qs[j]? = some qs[j] := List.getElem?_eq_getElem hjl
    have := wayLen_of (h.isDist hq hj)
    exact maxL_ge (List.mem_map.2 ⟨qs[j], hL _ (List.getElem_mem hjl), this⟩)
  · obtain ⟨m, _, rfl⟩ := List.mem_map.1 hd
    by_cases hm : m ∈ qs
    · obtain ⟨j, hj⟩ := List.getElem?_of_mem hm
      have hjl : j < ds.length := by rw [← h.len]; exact (List.getElem?_eq_some_iff.1 hj).1
      have hd' : ds[j]? = some ds[j] := List.getElem?_eq_getElem hjl
      rw [wayLen_of (h.isDist hj hd')]
      exact maxL_ge (List.getElem_mem hjl)
    · rw [h.far hm]; exact Nat.zero_le _
theorem wayLen_symm {α : Type} {N : α → α → Prop} (hs : ∀ x y, N x y → N y x) (x y : α) : wayLen N x y = wayLen N y x := by
  have key : ∀ x y d, IsDist N x y d → IsDist N y x d := fun x y d h => ⟨h.1.symm hs, fun k hk => h.2 k (hk.symm hs)⟩
  by_cases hd : ∃ d, IsDist N x y d
  · obtain ⟨d, hd⟩ := hd
    rw [wayLen_of hd, wayLen_of (key _ _ _ hd)]
  · rw [wayLen_none (fun d h => hd ⟨d, h⟩), wayLen_none (fun d h => hd ⟨d, key _ _ _ h⟩)]
end Go.Proofs.Ytlhjbpachpjpkaa.Tomo
