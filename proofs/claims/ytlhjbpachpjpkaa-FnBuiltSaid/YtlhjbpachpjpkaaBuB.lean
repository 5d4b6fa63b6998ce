/- Texts merged: Built4 Built5. -/
import Derived.Test.YtlhjbpachpjpkaaTomA
import Derived.Test.YtlhjbpachpjpkaaMaA
import Derived.Test.YtlhjbpachpjpkaaBuA
namespace Go.Proofs.Ytlhjbpachpjpkaa
open Go.RowKit Tomo

/-- these rows are made; some rows with the sums that are left make an image of them -/
def GInv (rows cols : List Int) (t : Nat) (done : Grid) (left : List Int) : Prop := done.length = t ∧ left.length = cols.length ∧ ∃ rest, (done ++ rest) ∈ imgs rows cols ∧ rest ∈ imgs (rows.drop t) left
theorem colSum_app (n : Nat) (rest : Grid) : ∀ done : Grid, colSum n (done ++ rest) = done.foldr addRow (colSum n rest)
  | [] => rfl
  | r :: done => by rw [List.cons_append]; show addRow r _ = _; rw [colSum_app n rest done]; rfl
theorem imgs_swap {rows cols left : List Int} {t : Nat} {done rest rest2 : Grid} (h : (done ++ rest) ∈ imgs rows cols) (hl : left.length = cols.length) (h1 : rest ∈ imgs (rows.drop t) left) (h2 : rest2 ∈ imgs (rows.drop t) left) : (done ++ rest2) ∈ imgs rows cols := by
  obtain ⟨a1, a2, a3⟩ := (mem_imgs _ _ _).1 h
  obtain ⟨b1, b2, b3⟩ := (mem_imgs _ _ _).1 h1
  obtain ⟨c1, c2, c3⟩ := (mem_imgs _ _ _).1 h2
  refine (mem_imgs _ _ _).2 ⟨fun r hr => ?_, ?_, ?_⟩
  · rcases List.mem_append.1 hr with e | e
    · exact a1 r (List.mem_append_left _ e)
    · rw [← hl]; exact c1 r e
  · rw [List.map_append, c2, ← b2, ← List.map_append]; exact a2
  · rw [hl] at b3 c3
    rw [colSum_app, c3, ← b3, ← colSum_app]; exact a3
theorem GInv.start {rows cols : List Int} (h : imgs rows cols ≠ []) : GInv rows cols 0 [] cols := by
  obtain ⟨m, l, hm⟩ := List.exists_cons_of_ne_nil h
  have : m ∈ imgs rows cols := by rw [hm]; exact List.mem_cons_self
  exact ⟨rfl, rfl, m, this, this⟩
theorem GInv.range {rows cols left : List Int} {t : Nat} {done : Grid} {n : Int} (h : GInv rows cols t done left) (hn : rows[t]? = some n) : ∃ k : Nat, n = k ∧ k ≤ cols.length := by
  obtain ⟨_, hl, rest, _, h2⟩ := h
  have ht : t < rows.length := (List.getElem?_eq_some_iff.1 hn).1
  have hd : rows.drop t = n :: rows.drop (t + 1) := by
    rw [List.drop_eq_getElem_cons ht]
    rw [List.getElem?_eq_getElem ht] at hn
    rw [Option.some.inj hn]
  rw [hd] at h2
  cases rest with
  | nil => have := ((mem_imgs _ _ _).1 h2).2.1; cases this
  | cons r rest =>
    obtain ⟨_, g2, g3, g4⟩ := imgs_tail h2
    have key : ∀ l : List Int, (∀ x ∈ l, x = 0 ∨ x = 1) → 0 ≤ l.sum ∧ l.sum ≤ l.length := by
      intro l
      induction l with
      | nil => intro _; simp
      | cons x l ih =>
        intro h
        have h1 := h x List.mem_cons_self
        have h2 := ih (fun y hy => h y (List.mem_cons_of_mem _ hy))
        rw [List.sum_cons, List.length_cons]; omega
    have := key r g4
    exact ⟨n.toNat, by omega, by omega⟩
theorem GInv.next {rows cols left : List Int} {t k : Nat} {done : Grid} {l : List Nat} (h : GInv rows cols t done left) (hn : rows[t]? = some (k : Int)) (hk : k ≤ cols.length) (hp : l.Perm (List.range cols.length)) (hs : l.Pairwise fun a b => left.getD b 0 ≤ left.getD a 0) :
    GInv rows cols (t + 1) (done ++ [indR cols.length (l.take k)]) (subRow left (indR cols.length (l.take k))) := by
  obtain ⟨h0, hl, rest, h1, h2⟩ := h
  have ht : t < rows.length := (List.getElem?_eq_some_iff.1 hn).1
  have hd : rows.drop t = (k : Int) :: rows.drop (t + 1) := by
    rw [List.drop_eq_getElem_cons ht]
    rw [List.getElem?_eq_getElem ht] at hn
    rw [Option.some.inj hn]
  have hll : l.length = cols.length := by rw [hp.length_eq, List.length_range]
  have hnd : l.Nodup := hp.symm.nodup List.nodup_range
  have hsplit := List.take_append_drop k l
  have hpw := hs
  rw [← hsplit, List.pairwise_append] at hpw
  have h2' := h2
  rw [hd] at h2'
  obtain ⟨rest2, h3⟩ := greedy_step h2' (l := l.take k) ((List.take_sublist k l).nodup hnd) (fun x hx => by
    have := hp.subset (List.mem_of_mem_take hx)
    rw [hl]; exact List.mem_range.1 this) (by rw [List.length_take, hll]; omega) (fun x y hx hy hny => by
    have hy2 : y ∈ l := hp.symm.subset (List.mem_range.2 (by omega))
    rw [← hsplit] at hy2
    rcases List.mem_append.1 hy2 with e | e
    · exact absurd e hny
    · exact hpw.2.2 x hx y e)
  rw [hl] at h3
  obtain ⟨g1, g2, _, _⟩ := imgs_tail h3
  refine ⟨by rw [List.length_append, h0]; rfl, by rw [subRow_length _ _ (by rw [indR_len, hl]), hl], rest2, ?_, g1⟩
  rw [List.append_assoc]
  exact imgs_swap h1 hl h2 (by rw [hd]; exact h3)
theorem GInv.done {rows cols left : List Int} {done : Grid} (h : GInv rows cols rows.length done left) : done ∈ imgs rows cols := by
  obtain ⟨_, _, rest, h1, h2⟩ := h
  rw [List.drop_length] at h2
  unfold imgs at h2
  split at h2
  · have e : rest = [] := by simpa using h2
    rw [e, List.append_nil] at h1; exact h1
  · cases h2
/-- the row under way, and what it leaves -/
theorem sub_ind_set {left : List Int} {k x : Nat} {l : List Nat} {v : Int} (hl : left.length = k) (hx : x < k) (hn : x ∉ l) (hv : (subRow left (indR k l))[x]? = some v) : (subRow left (indR k l)).set x (v - 1) = subRow left (indR k (l ++ [x])) := by
  have hlen : ∀ l, (subRow left (indR k l)).length = k := fun l => by rw [subRow_length _ _ (by rw [indR_len, hl]), hl]
  have hat : ∀ (l : List Nat) (j : Nat) (h : j < k), (subRow left (indR k l))[j]? = some (left[j] - if j ∈ l then 1 else 0) := fun l j h => by
    unfold subRow
    rw [List.getElem?_zipWith, indR_at h, List.getElem?_eq_getElem (by omega)]
  apply List.ext_getElem?
  intro j
  by_cases hj : j < k
  · by_cases e : j = x
    · subst e
      rw [List.getElem?_set_self (by rw [hlen]; exact hj), hat _ _ hj]
      rw [hat _ _ hj, if_neg hn] at hv
      have := Option.some.inj hv
      rw [if_pos (by simp)]
      congr 1; omega
    · rw [List.getElem?_set_ne (fun h => e h.symm), hat _ _ hj, hat _ _ hj]
      have : (j ∈ l ++ [x]) ↔ j ∈ l := by simp [e]
      simp only [this]
  · rw [List.getElem?_eq_none (by rw [List.length_set, hlen]; omega), List.getElem?_eq_none (by rw [hlen]; omega)]
theorem sub_ind_nil {left : List Int} {k : Nat} (hl : left.length = k) : subRow left (indR k []) = left := by
  apply List.ext_getElem?
  intro j
  unfold subRow
  rw [List.getElem?_zipWith]
  by_cases hj : j < k
  · rw [indR_at hj, List.getElem?_eq_getElem (by omega)]; simp
  · rw [List.getElem?_eq_none (show left.length ≤ j by omega)]

theorem Seg.setOut {lo hi : Nat} (w : World) (R x : Nat) (v : Value) (h : R < lo ∨ hi ≤ R) : Seg lo hi w (w.setCell ⟨R, x, none⟩ v) := fun k h1 h2 => Below.heap_setCell _ _ _ _ (by show k ≠ R; omega)
theorem OwnIn.put {w : World} {lo hi g c : Nat} {xs : List Int} (h : OwnIn w lo hi (.slice (some ⟨g, 0, none⟩) xs.length c) xs) {x : Nat} (hx : x < xs.length) :
    (∃ y, xs[x]? = some y ∧ w.cell? ⟨g, x, none⟩ = some (.int .i64 y)) ∧ w.frozen? ⟨g, x, none⟩ = false ∧ lo ≤ g ∧ g < hi ∧ ∀ y, OwnIn (w.setCell ⟨g, x, none⟩ (.int .i64 y)) lo hi (.slice (some ⟨g, 0, none⟩) xs.length c) (xs.set x y) := by
  obtain ⟨h1, h2, h3⟩ := h.1.put hx
  exact ⟨h1, h2, (h.1.lt (b := g) rfl).1, h.2 g rfl, fun y => ⟨h3 y, h.2⟩⟩
theorem OwnGridIn.put {w : World} {lo hi b n c : Nat} {g : Grid} (h : OwnGridIn w lo hi (.slice (some ⟨b, 0, none⟩) n c) g) {k : Nat} {r : List Int} (hk : g[k]? = some r) (hr : 0 < r.length) :
    ∃ R c', w.cell? ⟨b, k, none⟩ = some (.slice (some ⟨R, 0, none⟩) r.length c') ∧ r.length ≤ c' ∧ lo ≤ R ∧ R < hi ∧ Ints w (some ⟨R, 0, none⟩) r ∧ (∀ x, w.frozen? ⟨R, x, none⟩ = false) ∧
      ∀ x y, x < r.length → OwnGridIn (w.setCell ⟨R, x, none⟩ (.int .i64 y)) lo hi (.slice (some ⟨b, 0, none⟩) n c) (g.set k (r.set x y)) := by
  obtain ⟨h1, h2, h3⟩ := h
  obtain ⟨R, c', hc, hle, hB, hRl, hi', hf, hs⟩ := h1.row hk hr
  have hkl : k < g.length := (List.getElem?_eq_some_iff.1 hk).1
  have hv := h1.onlyRows hkl hc
  have hne : b ≠ R := by
    rcases h1.apartTop hv with e | e
    · cases e
    · exact fun he => e (by rw [he]; rfl)
  refine ⟨R, c', hc, hle, hB, h3 _ hv R rfl, hi', hf, fun x y hx => ⟨hs x y hx, h2, fun p hp q hq => h3 p (hp.bwd fun b' hb' => ?_) q hq⟩⟩
  have e : b' = b := by simpa [Value.ownBlock] using hb'.symm
  subst e
  exact Below.heap_setCell _ _ _ _ hne

/-- the memory of the call: the image, what is left, its box, the order of the columns -/
structure BSt (w wr : World) (p1 p2 p3 k R b0 cap gL cL : Nat) (out : Grid) (left ord : List Int) : Prop where
  ext : Ext w wr
  s1 : w.heap.size ≤ p1
  s2 : p1 ≤ p2
  s3 : p2 ≤ p3
  s4 : p3 + 2 ≤ wr.heap.size
  grid : OwnGridIn wr p1 p2 (.slice (some ⟨b0, 0, none⟩) R cap) out
  lf : OwnIn wr p2 p3 (.slice (some ⟨gL, 0, none⟩) k cL) left
  ll : left.length = k
  box : wr.cell? ⟨p3, 0, none⟩ = some (.slice (some ⟨gL, 0, none⟩) k cL)
  od : OwnIn wr (p3 + 1) (p3 + 2) (.slice (some ⟨p3 + 1, 0, none⟩) k k) ord
  ol : ord.length = k
section
variable {w wr : World} {p1 p2 p3 k R b0 cap gL cL : Nat} {out : Grid} {left ord : List Int}
theorem BSt.seg {w' : World} (h : BSt w wr p1 p2 p3 k R b0 cap gL cL out left ord) (k' : Seg p1 (p3 + 2) wr w') (hs : wr.heap.size ≤ w'.heap.size) (he : Ext w w') : BSt w w' p1 p2 p3 k R b0 cap gL cL out left ord :=
  have s2 := h.s2
  have s3 := h.s3
  ⟨he, h.s1, h.s2, h.s3, Nat.le_trans h.s4 hs, h.grid.seg (fun i h1 h2 => k' i h1 (by omega)), h.lf.seg (fun i h1 h2 => k' i (by omega) (by omega)), h.ll,
    (World.cell?_of_block (w := wr) (w' := w') (a := ⟨p3, 0, none⟩) (k' p3 (by omega) (by omega))).trans h.box, h.od.seg (fun i h1 h2 => k' i (by omega) (by omega)), h.ol⟩
theorem BSt.drew (h : BSt w wr p1 p2 p3 k R b0 cap gL cL out left ord) (n : Nat) : BSt w (wr.drewN n) p1 p2 p3 k R b0 cap gL cL out left ord := h.seg (fun _ _ _ => rfl) (Nat.le_refl _) (h.ext.drewN n)
theorem BSt.putOrd (h : BSt w wr p1 p2 p3 k R b0 cap gL cL out left ord) {x : Nat} (hx : x < k) :
    (∃ y, ord[x]? = some y ∧ wr.cell? ⟨p3 + 1, x, none⟩ = some (.int .i64 y)) ∧ wr.frozen? ⟨p3 + 1, x, none⟩ = false ∧ ∀ y, BSt w (wr.setCell ⟨p3 + 1, x, none⟩ (.int .i64 y)) p1 p2 p3 k R b0 cap gL cL out left (ord.set x y) := by
  have ho := h.od
  have hol := h.ol
  have s1 := h.s1
  have s2 := h.s2
  have s3 := h.s3
  subst hol
  obtain ⟨c1, c2, c3, c4, c5⟩ := ho.put hx
  refine ⟨c1, c2, fun y => ⟨Below.setCell h.ext (by show w.heap.size ≤ p3 + 1; omega) _, h.s1, h.s2, h.s3, by rw [World.size_setCell]; exact h.s4, h.grid.seg (Seg.setOut _ _ _ _ (by omega)), h.lf.seg (Seg.setOut _ _ _ _ (by omega)), h.ll, ?_, ?_, by rw [List.length_set]⟩⟩
  · rw [← h.box]
    exact World.cell?_of_block (Below.heap_setCell _ _ _ _ (by show p3 ≠ p3 + 1; omega))
  · exact c5 y
theorem BSt.putLeft (h : BSt w wr p1 p2 p3 k R b0 cap gL cL out left ord) {x : Nat} (hx : x < k) :
    (∃ y, left[x]? = some y ∧ wr.cell? ⟨gL, x, none⟩ = some (.int .i64 y)) ∧ wr.frozen? ⟨gL, x, none⟩ = false ∧ ∀ y, BSt w (wr.setCell ⟨gL, x, none⟩ (.int .i64 y)) p1 p2 p3 k R b0 cap gL cL out (left.set x y) ord := by
  have ho := h.lf
  have hol := h.ll
  have s1 := h.s1
  have s2 := h.s2
  have s3 := h.s3
  subst hol
  obtain ⟨c1, c2, c3, c4, c5⟩ := ho.put hx
  refine ⟨c1, c2, fun y => ⟨Below.setCell h.ext (by show w.heap.size ≤ gL; omega) _, h.s1, h.s2, h.s3, by rw [World.size_setCell]; exact h.s4, h.grid.seg (Seg.setOut _ _ _ _ (by omega)), c5 y, by rw [List.length_set], ?_, h.od.seg (Seg.setOut _ _ _ _ (by omega)), h.ol⟩⟩
  rw [← h.box]
  exact World.cell?_of_block (Below.heap_setCell _ _ _ _ (by show p3 ≠ gL; omega))
theorem BSt.putGrid (h : BSt w wr p1 p2 p3 k R b0 cap gL cL out left ord) {y : Nat} {r : List Int} (hy : out[y]? = some r) (hr : r.length = k) (hk : 0 < k) :
    ∃ Q c', wr.cell? ⟨b0, y, none⟩ = some (.slice (some ⟨Q, 0, none⟩) k c') ∧ (∀ x, x < k → ∃ z, wr.cell? ⟨Q, x, none⟩ = some (.int .i64 z)) ∧ (∀ x, wr.frozen? ⟨Q, x, none⟩ = false) ∧ ∀ x z, x < k → BSt w (wr.setCell ⟨Q, x, none⟩ (.int .i64 z)) p1 p2 p3 k R b0 cap gL cL (out.set y (r.set x z)) left ord := by
  have s1 := h.s1
  have s2 := h.s2
  have s3 := h.s3
  obtain ⟨Q, c', hc, hle, hB, hQ, hi, hf, hs⟩ := h.grid.put hy (by omega)
  rw [hr] at hc
  refine ⟨Q, c', hc, fun x hx => ?_, hf, fun x z hx => ⟨Below.setCell h.ext (by show w.heap.size ≤ Q; omega) _, h.s1, h.s2, h.s3, by rw [World.size_setCell]; exact h.s4, hs x z (by omega), h.lf.seg (Seg.setOut _ _ _ _ (by omega)), h.ll, ?_, h.od.seg (Seg.setOut _ _ _ _ (by omega)), h.ol⟩⟩
  · obtain ⟨z, _, hz⟩ := hi.at1 (k := x) (by omega)
    rw [Nat.zero_add] at hz
    exact ⟨z, hz⟩
  · rw [← h.box]
    exact World.cell?_of_block (Below.heap_setCell _ _ _ _ (by show p3 ≠ Q; omega))
theorem BSt.sorted {w' : World} {ord' : List Int} (h : BSt w wr p1 p2 p3 k R b0 cap gL cL out left ord) (ho : Own w' (p3 + 1) (.slice (some ⟨p3 + 1, 0, none⟩) k k) ord') (he : ∀ w0, Ext w0 wr → w0.heap.size ≤ p3 + 1 → Ext w0 w') (hs : w'.heap.size = wr.heap.size) (hb : ∀ j, j ≠ p3 + 1 → w'.heap[j]? = wr.heap[j]?) :
    BSt w w' p1 p2 p3 k R b0 cap gL cL out left ord' :=
  have s1 := h.s1
  have s2 := h.s2
  have s3 := h.s3
  ⟨he w h.ext (by omega), h.s1, h.s2, h.s3, by rw [hs]; exact h.s4, h.grid.seg (fun i _ _ => hb i (by omega)), h.lf.seg (fun i _ _ => hb i (by omega)), h.ll,
    (World.cell?_of_block (w := wr) (w' := w') (a := ⟨p3, 0, none⟩) (hb p3 (by omega))).trans h.box, ⟨ho, fun b hb => Nat.lt_of_le_of_lt (Nat.le_of_eq (show b = p3 + 1 by simpa [Value.ownBlock] using hb.symm)) (Nat.lt_succ_self _)⟩, ho.ints.1.symm⟩
theorem BSt.leftInts (h : BSt w wr p1 p2 p3 k R b0 cap gL cL out left ord) : Ints wr (some ⟨gL, 0, none⟩) left := h.lf.1.ints.2
theorem BSt.gNe (h : BSt w wr p1 p2 p3 k R b0 cap gL cL out left ord) : gL ≠ p3 + 1 := by have := h.lf.2 gL rfl; omega
end
theorem GInv.small {rows cols left : List Int} {t : Nat} {done : Grid} (h : GInv rows cols t done left) (hr : rows.length ≤ 5) : Small left := by
  obtain ⟨_, _, rest, _, h2⟩ := h
  obtain ⟨a1, a2, a3⟩ := (mem_imgs _ _ _).1 h2
  have hl : rest.length ≤ 5 := by
    have : (rest.map List.sum).length = (rows.drop t).length := by rw [a2]
    rw [List.length_map, List.length_drop] at this; omega
  intro x hx
  rw [← a3] at hx
  have b1 := colSum_le left.length rest (fun r hr => (a1 r hr).2) x hx
  have b2 := colSum_nonneg left.length rest (fun r hr z hz => by rcases (a1 r hr).2 z hz with e | e <;> omega) x hx
  omega
end Go.Proofs.Ytlhjbpachpjpkaa

namespace Go.Proofs.Ytlhjbpachpjpkaa
open Go.RowKit Tomo

set_option maxRecDepth 100000 in
set_option maxHeartbeats 8000000 in
theorem implBuildImage_any (A B : Option Addr) (ca cb : Nat) (rows cols : List Int) (w : World) (h : exI rows cols = true) (hx : Ints w A rows) (hy : Ints w B cols) :
    Calls Try.prog 20 #[.slice A rows.length ca, .slice B cols.length cb] w fun e w' => ∃ b cap g, e = .returned (.tuple #[.slice (some ⟨b, 0, none⟩) rows.length cap, .bool true]) ∧ OwnGrid w' w.heap.size (.slice (some ⟨b, 0, none⟩) rows.length cap) g ∧ g ∈ imgs rows cols ∧ Ext w w' := by
  have hso : sumsOk rows cols = true := by unfold exI at h; rw [Bool.and_eq_true] at h; exact h.1
  have hne : imgs rows cols ≠ [] := by unfold exI at h; rw [Bool.and_eq_true] at h; exact of_decide_eq_true h.2
  obtain ⟨hr1, hr5, hc1, hc5, hra, hca, htot⟩ := sumsOk_parts hso
  have ce := implExists_any A B ca cb rows cols w (by omega) (by omega) hx hy
  rw [h] at ce
  have HX := Lib.hid hx
  have HY := Lib.hid hy
  have HG0 := Lib.hid (GInv.start hne)
  have HSM : Hid (Small cols) := Lib.hid (small_of hca (by omega) (by omega))
  have HCOP := Lib.hid (fun W (e : Ext w W) => copyInts_any B cb cols W (by omega) (by omega) (hy.ext e))
  obtain ⟨R, hR⟩ : ∃ R, rows.length = R := ⟨_, rfl⟩
  obtain ⟨k, hk⟩ : ∃ k, cols.length = k := ⟨_, rfl⟩
  have HR := Lib.hid hR
  have HK := Lib.hid hk
  rw [hR] at ce hr1 hr5 ⊢
  rw [hk] at ce hc1 hc5 HCOP ⊢
  have hmk := run_make_row' (P := Try.prog) 28 3 (.int .i64 0) 8 Try.underlying28 infoInt rfl .i64 .i64 k (by omega) (by omega)
  clear h hso hne hra hca htot hx hy hR hk
  go_enter Try.func20, Try.ntmps20
  go_wp2_with fail
  refine ce.mono ?_
  rintro e w1 ⟨rfl, he1⟩
  have HE1 := Lib.hid he1
  have cg := newGrid_any R k w1 hr1 (by omega) hc1 (by omega)
  clear ce he1
  go_wp2_with fail
  refine cg.mono ?_
  rintro e w2 ⟨b0, cap, rfl, ho2, he2⟩
  have HO2 := Lib.hid ho2.in_
  have HE2 := Lib.hid he2
  have HE02 := Lib.hid (HE1.out.trans he2)
  have cc := HCOP.out w2 HE02.out
  clear cg ho2 he2 HCOP
  go_wp2_with fail
  refine cc.mono ?_
  rintro e w3 ⟨gL, cL, rfl, ho3, he3⟩
  have HO3 := Lib.hid ho3.in_
  have HE3 := Lib.hid he3
  have HE03 := Lib.hid (HE02.out.trans he3)
  obtain ⟨p1, hp1⟩ : ∃ p1, w1.heap.size = p1 := ⟨_, rfl⟩
  obtain ⟨p2, hp2⟩ : ∃ p2, w2.heap.size = p2 := ⟨_, rfl⟩
  obtain ⟨p3, hp3⟩ : ∃ p3, w3.heap.size = p3 := ⟨_, rfl⟩
  have HST : Hid (BSt w ((w3.alloc (.cells #[.slice (some ⟨gL, 0, none⟩) k cL] 28)).alloc (.cells (madeCells #[.int .i64 0] k) 3)) p1 p2 p3 k R b0 cap gL cL (List.replicate R (List.replicate k 0)) cols (List.replicate k 0)) := Lib.hid (by
    have ez := own_zeros (w3.alloc (.cells #[.slice (some ⟨gL, 0, none⟩) k cL] 28)) k (by omega)
    have esz : (w3.alloc (.cells #[.slice (some ⟨gL, 0, none⟩) k cL] 28)).heap.size = p3 + 1 := by rw [← hp3]; simp
    rw [esz] at ez
    have e3 : Ext w3 ((w3.alloc (.cells #[.slice (some ⟨gL, 0, none⟩) k cL] 28)).alloc (.cells (madeCells #[.int .i64 0] k) 3)) := ((Ext.refl w3).alloc _).alloc _
    have o2 := HO2.out
    have o3 := HO3.out
    rw [hp1, hp2] at o2
    rw [hp2, hp3] at o3
    refine ⟨HE03.out.trans e3, by rw [← hp1]; exact HE1.out.size, by rw [← hp1, ← hp2]; exact HE2.out.size, by rw [← hp2, ← hp3]; exact HE3.out.size, by rw [← hp3]; simp, ?_, ?_, HK.out, ?_, ⟨ez, fun b hb => ?_⟩, List.length_replicate⟩
    · exact o2.seg (Seg.ext (HE3.out.trans e3) (by rw [hp2]; exact Nat.le_refl _))
    · exact o3.seg (Seg.ext e3 (by rw [hp3]; exact Nat.le_refl _))
    · rw [← hp3]; simp
    · have : p3 + 1 = b := by simpa [Value.ownBlock] using hb
      omega)
  have HEP3 := Lib.hid hp3
  clear cc ho3 he3 hp1 hp2 hp3 HO2 HO3 HE2 HE3 HE02 HE03
  go_wp2_with fail
  rw [HEP3.out]
  go_loopw [30, 9, 10, 11, 13] (fun i _ _ _ _ wr => ∃ (t : Nat) (done : Grid) (left ord : List Int), t ≤ R ∧ i = .int .i64 t ∧ Hid (BSt w wr p1 p2 p3 k R b0 cap gL cL (done ++ List.replicate (R - t) (List.replicate k 0)) left ord) ∧ Hid (GInv rows cols t done left)) (fun i _ _ _ _ _ => R - (intOf i).toNat)
  case atStart => exact ⟨0, [], cols, _, Nat.zero_le _, rfl, HST, HG0⟩
  case round =>
    rename World => wo
    obtain ⟨t, done, left, ord, ht, rfl, hB, hG⟩ := hrel
    clear HST HG0
    by_cases hlt : t < R
    · obtain ⟨br, orr, z, rfl, _, HZ, hcz⟩ := (HX.out.ext hB.out.ext).at_ (k := t) (by rw [HR.out]; exact hlt)
      obtain ⟨nn, hz, hnk⟩ := hG.out.range HZ.out
      subst hz
      rw [HK.out] at hnk
      have hltI : (t : Int) < (R : Int) := by omega
      go_wp2_with fail
      go_loopw [37, 11] (fun i _ wr => ∃ (j : Nat) (ord : List Int), j ≤ k ∧ i = .int .i64 j ∧ Hid (BSt w wr p1 p2 p3 k R b0 cap gL cL (done ++ List.replicate (R - t) (List.replicate k 0)) left ord) ∧ Hid (∀ i, i < j → ord[i]? = some (i : Int))) (fun i _ _ => k - (intOf i).toNat)
      case atStart => exact ⟨0, ord, Nat.zero_le _, rfl, hB, Lib.hid (fun i h => by omega)⟩
      case round =>
        rename World => wi
        clear hB hcz
        obtain ⟨j, ord, hj, rfl, hB, hO⟩ := hrel
        by_cases hjk : j < k
        · obtain ⟨⟨y, _, hcy⟩, hfy, hset⟩ := hB.out.putOrd hjk
          have HN := Lib.hid (hset (j : Int))
          have HO2 : Hid (∀ i, i < j + 1 → (ord.set j (j : Int))[i]? = some (i : Int)) := Lib.hid (fun i hi => by
            by_cases e : i = j
            · subst e
              rw [List.getElem?_set_self (by rw [hB.out.ol]; exact hjk)]
            · rw [List.getElem?_set_ne (fun h => e h.symm)]; exact hO.out i (by omega))
          have hjI : (j : Int) < (k : Int) := by omega
          clear hset hB hO
          go_wp2_with fail
          go_roundw
          case rel => exact ⟨j + 1, _, by omega, by go_num, HN, HO2⟩
          case measure => simp [intOf]; omega
        · obtain rfl : j = k := by omega
          have ho : ord = (List.range j).map fun i : Nat => (i : Int) := by
            apply List.ext_getElem?
            intro i
            by_cases hi : i < j
            · rw [hO.out i hi]; simp [List.getElem?_range hi]
            · rw [List.getElem?_eq_none (by rw [hB.out.ol]; omega), List.getElem?_eq_none (by simp; omega)]
          subst ho
          have cs := sortOrder_any p3 gL cL (p3 + 1) j j (p3 + 1) left wi hc1 hc5 hB.out.ll (hG.out.small (by rw [HR.out]; exact hr5)) hB.out.box hB.out.leftInts hB.out.od.1 (by omega) hB.out.gNe
          go_wp2_with fail
          refine cs.mono ?_
          rintro e w5 ⟨rfl, l, hp, hpw, ho5, h51, h52, h53⟩
          have HB5 := Lib.hid (hB.out.sorted ho5 h51 h52 h53)
          have HP := Lib.hid hp
          have HLL : Hid (l.length = j) := Lib.hid (by rw [hp.length_eq, List.length_range])
          have HNX := Lib.hid (hG.out.next HZ.out (by rw [HK.out]; exact hnk) (by rw [HK.out]; exact hp) hpw)
          rw [HK.out] at HNX
          have HZR : Hid (List.replicate (R - t) (List.replicate j (0 : Int)) = List.replicate j 0 :: List.replicate (R - (t + 1)) (List.replicate j 0)) := Lib.hid (by
            rw [show R - t = (R - (t + 1)) + 1 by omega]; rfl)
          have HDL : Hid (done.length = t) := Lib.hid hG.out.1
          have HLFL : Hid (left.length = j) := Lib.hid hB.out.ll
          have HLSM : Hid (Small left) := Lib.hid (hG.out.small (by rw [HR.out]; exact hr5))
          have hnI : (nn : Int) ≤ (j : Int) := by omega
          have hn0 : (0 : Int) ≤ (nn : Int) := by omega
          have HB6 : Hid (BSt w w5 p1 p2 p3 j R b0 cap gL cL (done ++ indR j (l.take 0) :: List.replicate (R - (t + 1)) (List.replicate j 0)) (subRow left (indR j (l.take 0))) (l.map fun i : Nat => (i : Int))) := Lib.hid (by
            rw [List.take_zero, sub_ind_nil HLFL.out, indR_nil, ← HZR.out]; exact HB5.out)
          clear cs hp hpw ho5 h51 h52 h53 hB hO HB5 hG
          go_wp2_with fail
          go_loopw [52, 13] (fun i _ wr => ∃ (q : Nat), q ≤ nn ∧ i = .int .i64 q ∧ Hid (BSt w wr p1 p2 p3 j R b0 cap gL cL (done ++ indR j (l.take q) :: List.replicate (R - (t + 1)) (List.replicate j 0)) (subRow left (indR j (l.take q))) (l.map fun i : Nat => (i : Int)))) (fun i _ _ => nn - (intOf i).toNat)
          case atStart => exact ⟨0, Nat.zero_le _, rfl, HB6⟩
          case round =>
            rename World => wq
            clear HB6
            obtain ⟨q, hq, rfl, hB⟩ := hrel
            by_cases hqn : q < nn
            · obtain ⟨x, hx⟩ : ∃ x, l[q]? = some x := ⟨_, List.getElem?_eq_getElem (by rw [HLL.out]; omega)⟩
              have hxj : x < j := List.mem_range.1 (HP.out.subset (List.mem_of_getElem? hx))
              obtain ⟨⟨yy, hyy, hcx⟩, _, _⟩ := hB.out.putOrd (x := q) (by omega)
              rw [List.getElem?_map, hx] at hyy
              obtain rfl : (x : Int) = yy := Option.some.inj hyy
              obtain ⟨Q, c', hcr, hcz, hfz, hst⟩ := hB.out.putGrid (y := t) (r := indR j (l.take q)) (by rw [List.getElem?_append_right (by rw [HDL.out]; exact Nat.le_refl _), HDL.out, Nat.sub_self]; rfl) (indR_len _ _) hc1
              obtain ⟨z0, hcz0⟩ := hcz x hxj
              have hfz0 := hfz x
              have HB1 := hst x 1 hxj
              have HTK : Hid (l.take (q + 1) = l.take q ++ [x]) := Lib.hid (take_succ_of hx)
              have hxn : x ∉ l.take q := by
                have hnd : l.Nodup := HP.out.symm.nodup List.nodup_range
                rw [← List.take_append_drop q l, List.nodup_append] at hnd
                intro hm
                have hql : q < l.length := (List.getElem?_eq_some_iff.1 hx).1
                refine hnd.2.2 x hm x ?_ rfl
                rw [List.drop_eq_getElem_cons hql]
                rw [List.getElem?_eq_getElem hql] at hx
                rw [Option.some.inj hx]; exact List.mem_cons_self
              have e1 : (done ++ indR j (l.take q) :: List.replicate (R - (t + 1)) (List.replicate j 0)).set t ((indR j (l.take q)).set x 1) = done ++ indR j (l.take (q + 1)) :: List.replicate (R - (t + 1)) (List.replicate j 0) := by
                rw [List.set_append_right _ _ (by rw [HDL.out]; exact Nat.le_refl _), HDL.out, Nat.sub_self, List.set_cons_zero, indR_set hxj, ← HTK.out]
              rw [e1] at HB1
              obtain ⟨W1, hW1⟩ : ∃ W1, wq.setCell ⟨Q, x, none⟩ (.int .i64 1) = W1 := ⟨_, rfl⟩
              rw [hW1] at HB1
              obtain ⟨⟨v, hv, hcv⟩, hfv, hsv⟩ := HB1.putLeft hxj
              have hbx := HB1.box
              have hvb : -1048577 ≤ v ∧ v ≤ 1048577 := by
                unfold subRow at hv
                rw [List.getElem?_zipWith, indR_at hxj, List.getElem?_eq_getElem (by rw [HLFL.out]; exact hxj)] at hv
                have hv2 := Option.some.inj hv
                have := HLSM.out _ (List.getElem_mem (by rw [HLFL.out]; exact hxj : x < left.length))
                split at hv2 <;> omega
              obtain ⟨hv1, hv2⟩ := hvb
              have HB2 := hsv (v - 1)
              rw [sub_ind_set HLFL.out hxj hxn hv, ← HTK.out] at HB2
              have HB3 := Lib.hid HB2
              have HW1 := Lib.hid hW1
              have qI : (q : Int) < (nn : Int) := by omega
              have xI : (x : Int) < (j : Int) := by omega
              have hw1 : IntKind.i64.wrap (v - 1) = v - 1 := IntWalk.i64_in _ (by omega)
              clear HB1 HB2 hsv hst hcz hfz hB hx hyy hxn e1 hv hW1
              go_upto_region 19 with fail
              rw [HW1.out]
              go_wp2_with fail
              go_roundw
              case rel => exact ⟨q + 1, by omega, by go_num, HB3⟩
              case measure => simp [intOf]; omega
            · obtain rfl : q = nn := by omega
              have HB7 : Hid (BSt w wq p1 p2 p3 j R b0 cap gL cL ((done ++ [indR j (l.take q)]) ++ List.replicate (R - (t + 1)) (List.replicate j 0)) (subRow left (indR j (l.take q))) (l.map fun i : Nat => (i : Int))) := Lib.hid (by
                rw [List.append_assoc]; exact hB.out)
              go_wp2_with fail
              go_roundw
              case rel => exact ⟨t + 1, _, _, _, by omega, by go_num, HB7, HNX⟩
              case measure => simp [intOf]; omega
    · obtain rfl : t = R := by omega
      have HOG := hB.out.grid.1
      rw [Nat.sub_self, List.replicate_zero, List.append_nil] at HOG
      have HFO := Lib.hid (HOG.base hB.out.s1)
      have HFE := Lib.hid hB.out.ext
      have hG2 := hG.out
      rw [← HR.out] at hG2
      have HFG := Lib.hid hG2.done
      clear hB hG HOG hG2
      go_wp2_with fail
      go_ret2
      exact ⟨b0, cap, done, rfl, HFO.out, HFG.out, HFE.out⟩
end Go.Proofs.Ytlhjbpachpjpkaa
