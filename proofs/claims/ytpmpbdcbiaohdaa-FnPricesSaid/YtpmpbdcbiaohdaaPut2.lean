/- The program's search for images: the plain law of its steps. -/
import Derived.Test.YtpmpbdcbiaohdaaPut1
namespace Go.Proofs.Ytpmpbdcbiaohdaa
open Go.RowKit Tomo

/-- how the search goes on behind a row -/
def contK : List Int → Grid → Row → Row → List Grid
  | [], done => fun _ row => [done ++ [row]]
  | r :: rs, done => fun left' row => putAll rs left' r (done ++ [row])
theorem putAll_contK (rs : List Int) (left : Row) (need : Int) (done : Grid) : putAll rs left need done = putRow (contK rs done) rs.length [] left need [] := by
  cases rs <;> rfl
theorem putRow_len (K : Row → Row → List Grid) (n M k : Nat) (hK : ∀ l' row, l'.length = k → (K l' row).length ≤ M) : ∀ (ls pre : Row) (need : Int) (cur : Row), pre.length + ls.length = k → (putRow K n pre ls need cur).length ≤ 2 ^ ls.length * M
  | [], pre, need, cur, h => by
    unfold putRow
    by_cases h0 : 0 < need
    · rw [if_pos h0]; simp
    · rw [if_neg h0]
      have := hK pre cur (by simpa using h)
      simpa using this
  | l :: ls, pre, need, cur, h => by
    have i1 := putRow_len K n M k hK ls (pre ++ [l]) need (cur ++ [0]) (by simp only [List.length_append, List.length_cons, List.length_nil] at *; omega)
    have i2 := putRow_len K n M k hK ls (pre ++ [l - 1]) (need - 1) (cur ++ [1]) (by simp only [List.length_append, List.length_cons, List.length_nil] at *; omega)
    unfold putRow
    rw [List.length_append, List.length_cons, Nat.pow_succ, Nat.mul_comm (2 ^ ls.length) 2, Nat.mul_assoc]
    generalize 2 ^ ls.length * M = Z at *
    split <;> split <;> (try rw [List.length_nil]) <;> (try rw [List.length_nil]) <;> omega
theorem contK_len : ∀ (rs : List Int) (done : Grid) (l' row : Row) (k : Nat), l'.length = k → (contK rs done l' row).length ≤ 2 ^ (rs.length * k)
  | [], done, l', row, k, h => by simp [contK]
  | r :: rs, done, l', row, k, h => by
    show (putAll rs l' r (done ++ [row])).length ≤ _
    rw [putAll_contK]
    have := putRow_len (contK rs (done ++ [row])) rs.length (2 ^ (rs.length * k)) k (fun a b h => contK_len rs _ a b k h) l' [] r [] (by simpa using h)
    rw [h, ← Nat.pow_add] at this
    rw [List.length_cons, Nat.add_mul, Nat.one_mul, Nat.add_comm]
    exact this
theorem putRow_contK_len (rs : List Int) (done : Grid) (ls pre : Row) (need : Int) (cur : Row) (k n : Nat) (h : pre.length + ls.length = k) : (putRow (contK rs done) n pre ls need cur).length ≤ 2 ^ (ls.length + rs.length * k) := by
  rw [Nat.pow_add]
  exact putRow_len _ _ _ k (fun a b h => contK_len rs done a b k h) ls pre need cur h

/-- the image while the search is on: rows done, a part of a row, cells and rows that are still white -/
def mOf (k : Nat) (done : Grid) (cur : Row) (u rs : Nat) : Grid := done ++ (cur ++ List.replicate u 0) :: List.replicate rs (List.replicate k 0)
theorem mOf_at {k Y u R : Nat} {done : Grid} {cur : Row} (h : done.length = Y) : (mOf k done cur u R)[Y]? = some (cur ++ List.replicate u 0) := by
  subst h; simp [mOf]
theorem mOf_set {k Y X u R : Nat} {done : Grid} {cur : Row} (h : done.length = Y) (h2 : cur.length = X) (z : Int) : (mOf k done cur (u + 1) R).set Y ((cur ++ List.replicate (u + 1) 0).set X z) = mOf k done (cur ++ [z]) u R := by
  subst h h2
  have e : (cur ++ List.replicate (u + 1) (0 : Int)).set cur.length z = cur ++ [z] ++ List.replicate u 0 := by
    rw [List.replicate_succ, List.set_append_right _ _ (Nat.le_refl _)]; simp
  rw [e]
  unfold mOf
  rw [List.set_append_right _ _ (Nat.le_refl _)]; simp
theorem mOf_zero (k u R : Nat) (done : Grid) (cur : Row) : mOf k done (cur ++ [0]) u R = mOf k done cur (u + 1) R := by
  unfold mOf
  rw [List.append_assoc, List.replicate_succ]; rfl
theorem mOf_reset {k Y X u R : Nat} {done : Grid} {cur : Row} (h : done.length = Y) (h2 : cur.length = X) (z : Int) : (mOf k done (cur ++ [z]) u R).set Y ((cur ++ [z] ++ List.replicate u 0).set X 0) = mOf k done cur (u + 1) R := by
  subst h h2
  have e : (cur ++ [z] ++ List.replicate u (0 : Int)).set cur.length 0 = cur ++ List.replicate (u + 1) 0 := by
    rw [List.append_assoc, List.set_append_right _ _ (Nat.le_refl _), List.replicate_succ]; simp
  rw [e]
  unfold mOf
  rw [List.set_append_right _ _ (Nat.le_refl _)]; simp
theorem mOf_next (k R : Nat) (done : Grid) (cur : Row) : mOf k done cur 0 (R + 1) = mOf k (done ++ [cur]) [] k R := by
  unfold mOf
  simp [List.replicate_succ]
theorem mOf_last (k : Nat) (done : Grid) (cur : Row) : mOf k done cur 0 0 = done ++ [cur] := by simp [mOf]
theorem left_at {X : Nat} {pre ls : Row} {l : Int} (h : pre.length = X) : (pre ++ l :: ls)[X]? = some l := by subst h; simp
theorem left_set {X : Nat} {pre ls : Row} {l z : Int} (h : pre.length = X) : (pre ++ l :: ls).set X z = pre ++ z :: ls := by
  subst h; rw [List.set_append_right _ _ (Nat.le_refl _)]; simp
theorem mOf_rows {k u R : Nat} {done : Grid} {cur : Row} (h1 : ∀ r ∈ done, r.length = k) (h2 : cur.length + u = k) : ∀ r ∈ mOf k done cur u R, r.length = k := by
  intro r hr
  unfold mOf at hr
  simp only [List.mem_append, List.mem_cons, List.mem_replicate] at hr
  rcases hr with hr | rfl | ⟨_, rfl⟩
  · exact h1 r hr
  · simp only [List.length_append, List.length_replicate]; omega
  · simp
theorem putRow_nil {K : Row → Row → List Grid} {n : Nat} {pre cur : Row} {need : Int} : putRow K n pre [] need cur = if 0 < need then [] else K pre cur := by rw [putRow]
theorem putRow_cons {K : Row → Row → List Grid} {n : Nat} {pre ls cur : Row} {need l : Int} : putRow K n pre (l :: ls) need cur = (if need ≤ (ls.length : Int) ∧ l ≤ (n : Int) then putRow K n (pre ++ [l]) ls need (cur ++ [0]) else []) ++
    (if 0 < need ∧ 0 < l then putRow K n (pre ++ [l - 1]) ls (need - 1) (cur ++ [1]) else []) := by rw [putRow]

theorem PutSt.ext {c : Cx} {rows : List Int} {w w' : World} {gs : List Grid} {m : Grid} {left : List Int} (h : PutSt c rows w gs m left) (e : Ext w w') : PutSt c rows w' gs m left := by
  have old : ∀ {k : Nat} {o : Obj}, w.heap[k]? = some o → w'.heap[k]? = some o := fun hk => (e.block _ (heap_lt hk)).trans hk
  obtain ⟨z1, z2, z3, z4⟩ := h.sz
  refine ⟨old h.hc, old h.hr, old h.hm, old h.hl, old h.hf, ?_, h.gm.ext e, h.gl.ext e, ?_, h.rowAt (Below.mono e (by omega)), h.lt, ⟨z1, z2, z3, by have := e.size; omega⟩⟩
  · obtain ⟨v, h1, h2⟩ := h.ho
    exact ⟨v, old h1, h2.ext e⟩
  · obtain ⟨cs, hcs⟩ := h.gm.block
    intro p hp
    exact h.ap p (RowVal.back ((old hcs).trans hcs.symm) hp)

section
variable {ops : Array Oper} {o : Oper} {a : Act} {Q : Exit → Act → World → Prop}
theorem app_grid_step {K : Act → World → Prop} {E : Prop} {w0 w : World} {B : Nat} {v u : Value} {gs : List (List (List Int))} {g : List (List Int)} (h : OwnGrids w0 B v gs) (e0 : Ext w0 w) (hB : B ≤ w0.heap.size) (hu : OwnGrid w w0.heap.size u g) (hl : gs.length ≤ 1000000000) {ad : Addr} {c : Nat}
    (hy : w.cell? ad = some u) (hgd : o.guard = none) (s x : Operand) (ho : o.op = .call { callee := .builtin .append, args := #[s, x], argTypes := #[50, 50] })
    (hs : a.eval s = v) (hx : a.eval x = .slice (some ad) 1 c)
    (hK : ∀ b cap w', OwnGrids w' B (.slice (some ⟨b, 0, none⟩) (gs.length + 1) cap) (gs ++ [g]) → NonOut w w' → w.grownBy w' v.ownBlock → K (a.put o.dst (.slice (some ⟨b, 0, none⟩) (gs.length + 1) cap)) w') :
    if Region.wanted o (yielded ops a.tmps) = true then Oper.wp Try.prog o a w K Q else E := by
  have hw : Region.wanted o (yielded ops a.tmps) = true := by simp [Region.wanted, hgd]
  rw [if_pos hw]
  exact app_grid_wp h e0 hB hu hl hy s x ho hs hx fun b cap w' h1 _ h3 h4 => hK b cap w' h1 h3 h4
end

/-- the search from a cell on does what the plain one does -/
def PutOk (c : Cx) (rows rs : List Int) (ls : Row) : Prop :=
  ∀ (done : Grid) (pre cur : Row) (need y x : Int) (gs : List Grid) (w : World), rows.drop (done.length + 1) = rs → done.length + 1 + rs.length = c.n → y = done.length → x = pre.length → cur.length = pre.length → pre.length + ls.length = c.k → 0 ≤ need → need ≤ 5 →
    (∀ l ∈ pre ++ ls, 0 ≤ l ∧ l ≤ 5) → gs.length + 2 ^ (ls.length + rs.length * c.k) ≤ 1000000000 → (∀ r ∈ done, r.length = c.k) → PutSt c rows w gs (mOf c.k done cur ls.length rs.length) (pre ++ ls) →
    Calls Try.prog 36 #[.int .i64 y, .int .i64 x, .int .i64 need, .pointer (some ⟨c.Pc, 0, none⟩), .pointer (some ⟨c.Pr, 0, none⟩), .pointer (some ⟨c.Po, 0, none⟩), .pointer (some ⟨c.Pm, 0, none⟩), .pointer (some ⟨c.Pl, 0, none⟩), .pointer (some ⟨c.Pf, 0, none⟩)] w
      fun e w' => e = .returned (.tuple #[]) ∧ PutSt c rows w' (gs ++ putRow (contK rs done) rs.length pre ls need cur) (mOf c.k done cur ls.length rs.length) (pre ++ ls) ∧ Below c.Bz w w'
end Go.Proofs.Ytpmpbdcbiaohdaa
