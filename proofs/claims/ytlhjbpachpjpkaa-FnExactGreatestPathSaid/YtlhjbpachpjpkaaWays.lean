/- A list of ways: slices of switches of given lengths, each in a block of its own. -/
import Derived.Test.YtlhjbpachpjpkaaQueue
namespace Go.Proofs.Ytlhjbpachpjpkaa
open Go.RowKit Tomo

theorem infoSwL : (Try.prog.info? 64).map (fun i => (i.zero, i.size, i.bytes)) = some (some (.slice none 0 0), 1, 24) := by kernel_rfl
theorem infoSwL' : ∃ i, Try.prog.info? 64 = some i ∧ i.zero = some (.slice none 0 0) ∧ i.size = 1 ∧ i.bytes = 24 := by
  obtain ⟨i, hi, hzz⟩ := Option.map_eq_some_iff.1 infoSwL
  simp only [Prod.mk.injEq] at hzz
  exact ⟨i, hi, hzz⟩
/-- u is a list of d switches -/
def WayO (w : World) (B : Nat) (u : Value) (d : Nat) : Prop := ∃ g c ss, u = .slice (some ⟨g, 0, none⟩) d c ∧ ss.length = d ∧ OwnS w B u ss
theorem WayO.ext {w w' : World} {B : Nat} {u : Value} {d : Nat} (h : WayO w B u d) (e : Ext w w') : WayO w' B u d := by
  obtain ⟨g, c, ss, h1, h2, h3⟩ := h
  exact ⟨g, c, ss, h1, h2, h3.ext e⟩
/-- blocks of cells that hold no slices of switches are as they were -/
def NonW (w w' : World) : Prop := ∀ (k : Nat) cs t fz, w.heap[k]? = some (.cells cs t fz) → t ≠ 64 → w'.heap[k]? = some (.cells cs t fz)
theorem NonW.grown {w w' : World} {B n : Nat} {v : Value} {xs : List Value} (h : w.ownsRow B 64 1 v n xs) (hg : w.grownBy w' v.ownBlock) : NonW w w' := fun k cs t fz hk ht => by
  refine (hg.block k (heap_lt hk) (fun e => ?_)).trans hk
  rcases h.2 with ⟨hv, _⟩ | ⟨g, cap, cur, hv, _, hb, _⟩
  · rw [hv] at e; cases e
  · rw [hv] at e
    have e2 : k = g := by simpa [Value.ownBlock] using e
    rw [e2, hb] at hk
    injection hk with hk
    injection hk with _ h2 _
    exact ht h2.symm
theorem NonW.ownsRow {w w' : World} {B : Nat} {e : TypeId} {size : Nat} {v : Value} {n : Nat} {xs : List Value} (k : NonW w w') (h : w.ownsRow B e size v n xs) (he : e ≠ 64) : w'.ownsRow B e size v n xs := by
  obtain ⟨h1, h2⟩ := h
  refine ⟨h1, ?_⟩
  rcases h2 with h2 | ⟨g, cap, cur, hv, hb, hg, hrest⟩
  · exact .inl h2
  · exact .inr ⟨g, cap, cur, hv, hb, k g _ _ _ hg he, hrest⟩
theorem NonW.grid {w w' : World} {B : Nat} {v : Value} {g : Grid} (k : NonW w w') (h : OwnGrid w B v g) : OwnGrid w' B v g := by
  obtain ⟨us, h1, h2, h3, h4⟩ := h
  exact ⟨us, h1, k.ownsRow h2 (by decide), fun i u r hu hr => k.ownsRow (h3 i u r hu hr) (by decide), h4⟩
theorem NonW.sw {w w' : World} {B : Nat} {v : Value} {ss : List Sw} (k : NonW w w') (h : OwnS w B v ss) : OwnS w' B v ss := k.ownsRow h (by decide)
theorem NonW.way {w w' : World} {B : Nat} {u : Value} {d : Nat} (k : NonW w w') (h : WayO w B u d) : WayO w' B u d := by
  obtain ⟨g, c, ss, h1, h2, h3⟩ := h
  exact ⟨g, c, ss, h1, h2, k.sw h3⟩
theorem NonW.grids {w w' : World} {B : Nat} {v : Value} {gs : List Grid} (k : NonW w w') (h : GridsO w B v gs) : GridsO w' B v gs := by
  obtain ⟨us, h1, h2, h3⟩ := h
  exact ⟨us, h1, k.ownsRow h2 (by decide), fun i u g hu hg => k.grid (h3 i u g hu hg)⟩
/-- the slice v, in a block of its own from B on, holds lists of switches of these lengths -/
def WaysO (w : World) (B : Nat) (v : Value) (ds : List Nat) : Prop := ∃ us : List Value, us.length = ds.length ∧ w.ownsRow B 64 1 v ds.length us ∧ ∀ (k : Nat) u d, us[k]? = some u → ds[k]? = some d → WayO w 0 u d
theorem WaysO.ext {w w' : World} {B : Nat} {v : Value} {ds : List Nat} (h : WaysO w B v ds) (e : Ext w w') : WaysO w' B v ds := by
  obtain ⟨us, h1, h2, h3⟩ := h
  exact ⟨us, h1, ownsRow_ext h2 e, fun k u d hu hd => (h3 k u d hu hd).ext e⟩
theorem WaysO.nonQ {w w' : World} {B : Nat} {v : Value} {ds : List Nat} (h : WaysO w B v ds) (k : NonQ w w') : WaysO w' B v ds := by
  obtain ⟨us, h1, h2, h3⟩ := h
  refine ⟨us, h1, k.ownsRow h2 (by decide), fun i u d hu hd => ?_⟩
  obtain ⟨g, c, ss, a1, a2, a3⟩ := h3 i u d hu hd
  exact ⟨g, c, ss, a1, a2, k.sw a3⟩
theorem WaysO.lit {w : World} {u : Value} {d : Nat} (h : WayO w 0 u d) (B : Nat) (hB : B ≤ w.heap.size) : WaysO (w.alloc (.cells #[u] 64)) B (.slice (some ⟨w.heap.size, 0, none⟩) 1 1) [d] :=
  ⟨[u], rfl, World.ownsRow_lit (base := B) (e := 64) (size := 1) w #[u] 1 hB (by decide) rfl, fun k u' g' hu hg => by
    cases k with
    | zero =>
      have e1 : u = u' := by simpa using hu
      have e2 : d = g' := by simpa using hg
      subst e1 e2
      exact h.ext ((Ext.refl w).alloc _)
    | succ k => simp at hu⟩
theorem WaysO.form {w : World} {B : Nat} {v : Value} {ds : List Nat} (h : WaysO w B v ds) (h0 : 0 < ds.length) : ∃ b c, v = .slice (some ⟨b, 0, none⟩) ds.length c ∧ B ≤ b ∧ b < w.heap.size ∧
    ∀ (k : Nat) d, ds[k]? = some d → ∃ u, w.cell? ⟨b, k, none⟩ = some u ∧ WayO w 0 u d := by
  obtain ⟨us, h1, h2, h3⟩ := h
  have hh := h2
  rcases h2.2 with ⟨_, e⟩ | ⟨b, cap, cur, hv, hB, hgb, _⟩
  · omega
  · subst hv
    refine ⟨b, cap, rfl, hB, heap_lt hgb, fun k d hd => ?_⟩
    have hkl : k < ds.length := (List.getElem?_eq_some_iff.1 hd).1
    have hc := hh.cellAt k (by omega)
    have hu : us[k]? = some (us[k]'(by omega)) := List.getElem?_eq_getElem (by omega)
    rw [hu] at hc
    exact ⟨_, hc, h3 k _ d hu hd⟩
theorem WaysO.lt {w : World} {B : Nat} {v : Value} {ds : List Nat} (h : WaysO w B v ds) {b : Nat} (hb : v.ownBlock = some b) : B ≤ b ∧ b < w.heap.size := by
  obtain ⟨us, h1, h2, _⟩ := h
  exact World.ownsRow.lt h2 b hb
theorem ok_inj {α : Type} {v v' : α} {w w' : World} (h : Result.ok v w = Result.ok v' w') : v = v' ∧ w = w' := by cases h; exact ⟨rfl, rfl⟩
theorem slice_inj {b b' n n' c c' : Nat} (h : Value.slice (some ⟨b, 0, none⟩) n c = .slice (some ⟨b', 0, none⟩) n' c') : b = b' := by cases h; rfl
section
variable {ops : Array Oper} {rest : List Oper} {o : Oper} {a : Act} {Q : Exit → Act → World → Prop}
/-- 'append(v, ys..)': switches, perhaps none -/
theorem app_sws_wp {K : Act → World → Prop} {w : World} {B : Nat} {v : Value} {xs ys : List Sw} (h : OwnS w B v xs) (hB : B ≤ w.heap.size) (hl : xs.length + ys.length ≤ 1000000000) {ad : Addr} {c : Nat}
    (hy : ∀ j u, (flatS ys)[j]? = some u → w.cell? (ad.add j) = some u) (s x : Operand) (ho : o.op = .call { callee := .builtin .append, args := #[s, x], argTypes := #[64, 64] })
    (hs : a.eval s = v) (hx : a.eval x = .slice (some ad) ys.length c)
    (hK : ∀ v' w', OwnS w' B v' (xs ++ ys) → (∀ z, Below B z w → Below B z w') → w.grownBy w' v.ownBlock → K (a.put o.dst v') w') :
    o.wp Try.prog a w K Q := by
  obtain ⟨i, hi, hz, hsz, hby⟩ := infoSw'
  refine wp_append_own w s x 64 ho B 78 i (.agg #[.int .i64 0, .int .i64 0, .int .i64 0, .int .i64 0]) 4 32 Try.underlying64 hi hz hsz hby rfl (by decide) v xs.length (flatS xs) hs h ad ys.length c (flatS ys) hx (flatS_len ys) hy
    (fun u hu => flatS_one u hu) (by unfold maxLen; omega) (by omega) hB ?_
  intro v' w' hown hgrow _
  refine hK v' w' ?_ (fun z hz => hz.grown hgrow hB fun k hk => (World.ownsRow.lt h k hk).1) hgrow
  unfold OwnS
  rw [List.length_append, flatS_app]
  exact hown
theorem app_sws_step {K : Act → World → Prop} {E : Prop} {w : World} {B : Nat} {v : Value} {xs ys : List Sw} (h : OwnS w B v xs) (hB : B ≤ w.heap.size) (hl : xs.length + ys.length ≤ 1000000000) {ad : Addr} {c : Nat}
    (hy : ∀ j u, (flatS ys)[j]? = some u → w.cell? (ad.add j) = some u) (hgd : o.guard = none) (s x : Operand) (ho : o.op = .call { callee := .builtin .append, args := #[s, x], argTypes := #[64, 64] })
    (hs : a.eval s = v) (hx : a.eval x = .slice (some ad) ys.length c)
    (hK : ∀ v' w', OwnS w' B v' (xs ++ ys) → (∀ z, Below B z w → Below B z w') → w.grownBy w' v.ownBlock → K (a.put o.dst v') w') :
    if Region.wanted o (yielded ops a.tmps) = true then Oper.wp Try.prog o a w K Q else E := by
  have hw : Region.wanted o (yielded ops a.tmps) = true := by simp [Region.wanted, hgd]
  rw [if_pos hw]
  exact app_sws_wp h hB hl hy s x ho hs hx hK
/-- 'append(ways, way)' at a step of a region that draws its order -/
theorem app_ways_step {K : Act → World → Prop} {E : Prop} {w : World} {B bw n cw : Nat} {u : Value} {ds : List Nat} {d : Nat} (h : WaysO w B (.slice (some ⟨bw, 0, none⟩) n cw) ds) (hg0 : WayO w 0 u d) (hB : B ≤ w.heap.size) (hl : ds.length ≤ 1000000000) {ad : Addr} {c : Nat}
    (hy : w.cell? ad = some u) (hgd : o.guard = none) (s x : Operand) (ho : o.op = .call { callee := .builtin .append, args := #[s, x], argTypes := #[60, 60] })
    (hs : a.eval s = .slice (some ⟨bw, 0, none⟩) n cw) (hx : a.eval x = .slice (some ad) 1 c)
    (hK : ∀ b cap w', WaysO w' B (.slice (some ⟨b, 0, none⟩) (ds.length + 1) cap) (ds ++ [d]) → NonW w w' → w.grownBy w' (some bw) → (∀ (j : Nat) z, j < ds.length → w.cell? ⟨bw, j, none⟩ = some z → w'.cell? ⟨bw, j, none⟩ = some z) → K (a.put o.dst (.slice (some ⟨b, 0, none⟩) (ds.length + 1) cap)) w') :
    if Region.wanted o (yielded ops a.tmps) = true then Oper.wp Try.prog o a w K Q else E := by
  have hw : Region.wanted o (yielded ops a.tmps) = true := by simp [Region.wanted, hgd]
  rw [if_pos hw]
  obtain ⟨i, hi, hz, hsz, hby⟩ := infoSwL'
  obtain ⟨us, h1, h2, h3⟩ := h
  have hone : u.oneCell' = true := by obtain ⟨_, _, _, rfl, _⟩ := hg0; rfl
  have hn : n = ds.length := by
    rcases h2.2 with ⟨hv, _⟩ | ⟨_, _, _, hv, _⟩
    · cases hv
    · cases hv; rfl
  subst hn
  have hnews : ∀ j u', ([u] : List Value)[j]? = some u' → w.cell? (ad.add j) = some u' := fun j u' hj => by
    cases j with
    | zero =>
      have : u = u' := by simpa using hj
      subst this
      unfold Addr.add; simpa using hy
    | succ j => simp at hj
  have hone' : ∀ u' ∈ ([u] : List Value), u'.oneCell' = true := fun u' hu' => by
    have : u' = u := by simpa using hu'
    subst this; exact hone
  obtain ⟨b, cap, w', hr, hown, hgrow, _, _⟩ := run_append_lies (P := Try.prog) w 60 o.type B 64 i (.slice none 0 0) 1 24 Try.underlying60 hi hz hsz hby rfl (by decide) _ ds.length us h2 ad 1 c [u] rfl hnews hone' (by decide) (by unfold maxLen; omega) (by omega) hB w.heap.size rfl
  have hold : ∀ (j : Nat) z, j < ds.length → w.cell? ⟨bw, j, none⟩ = some z → w'.cell? ⟨bw, j, none⟩ = some z := fun j z hj hz' => by
    have hcA := h2.cellAt j (by omega)
    rcases h2.2 with ⟨hv, _⟩ | ⟨g, cp, cur, hv, _, hg, _, _, hcs, _⟩
    · cases hv
    · cases hv
      by_cases hroom : ds.length + 1 ≤ cw
      · have hr2 := run_append_room (P := Try.prog) w 60 o.type 64 i Try.underlying60 hi bw ds.length cw cur hg ad 1 c [u] (by rw [hsz]; rfl) hnews hone' hroom (by rw [hsz, hcs]; simp; omega)
        have hr2 := hr.symm.trans hr2
        obtain rfl := slice_inj (ok_inj hr2).1
        have hcB := hown.cellAt j (by omega)
        rw [hcB, List.getElem?_append_left (by omega), ← hcA, hz']
      · have hr2 := run_append_grow (P := Try.prog) w 60 o.type 64 i (.slice none 0 0) Try.underlying60 hi hz ⟨bw, 0, none⟩ ds.length cw us (by rw [hsz]; omega) (h2.cells (g := bw) rfl) ad 1 c [u] (by rw [hsz]; rfl) hnews (by omega) (by omega) (by rw [hby]; exact growslice_fits (by omega) (by omega))
        have hr2 := hr.symm.trans hr2
        rw [(ok_inj hr2).2]
        exact (((Ext.refl w).drew.alloc _).cell (World.block_lt_of_cell? _ _ hz')).trans hz'
  have hn := NonW.grown h2 hgrow
  unfold Oper.wp execOp
  simp only [ho, resolve, invoke, builtin, Sem.run_bind, Sem.run_pure, Result.andThen_ok, List.map_toArray, List.map_cons, List.map_nil, hs, hx, hr]
  refine hK b cap w' ⟨us ++ [u], by rw [List.length_append, List.length_append, h1]; rfl, by rw [List.length_append]; exact hown, fun k u' g' hu hg => ?_⟩ hn hgrow hold
  rcases snoc_at hu with ⟨a1, a2⟩ | ⟨a1, rfl⟩
  · rcases snoc_at hg with ⟨b1, b2⟩ | ⟨b1, rfl⟩
    · exact hn.way (h3 k u' g' a2 b2)
    · omega
  · rcases snoc_at hg with ⟨b1, b2⟩ | ⟨b1, rfl⟩
    · omega
    · exact hn.way hg0
end
/-- the search by the specification: its memory, and what it has found -/
structure VSt (w wr : World) (rows cols : List Int) (root : Grid) (lv wv : Value) (qs : List Grid) (ds : List Nat) (i : Nat) : Prop where
  ext : Ext w wr
  list : GridsO wr w.heap.size lv qs
  ways : WaysO wr w.heap.size wv ds
  bfs : Bfs (sideBy rows.length cols.length) root qs ds i
  cls : ∀ q ∈ qs, q ∈ allI rows cols
section
variable {w wr : World} {rows cols : List Int} {root : Grid} {lv wv : Value} {qs : List Grid} {ds : List Nat} {i : Nat}
theorem VSt.img (h : VSt w wr rows cols root lv wv qs ds i) : ∀ q ∈ qs, Img q rows.length cols.length := fun q hq => allI_img (h.cls q hq)
theorem VSt.few (h : VSt w wr rows cols root lv wv qs ds i) : qs.length ≤ 33554432 := Nat.le_trans (nodup_le h.bfs.nodup h.cls) (allI_len _ _)
theorem VSt.step {w' : World} (h : VSt w wr rows cols root lv wv qs ds i) (e : Ext wr w') : VSt w w' rows cols root lv wv qs ds i := ⟨h.ext.trans e, h.list.ext e, h.ways.ext e, h.bfs, h.cls⟩
end
end Go.Proofs.Ytlhjbpachpjpkaa
