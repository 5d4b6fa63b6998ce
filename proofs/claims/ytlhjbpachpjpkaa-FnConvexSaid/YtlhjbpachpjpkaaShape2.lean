/- The laws' drawn arguments: an image of any kind, a shape. -/
import Derived.Test.YtlhjbpachpjpkaaShape1
import Derived.Test.YtlhjbpachpjpkaaGrids2
namespace Go.Proofs.Ytlhjbpachpjpkaa
open Go.RowKit Tomo

theorem Keeps.ownsRow {p B : Nat} {w w' : World} {e : TypeId} {size : Nat} {v : Value} {n : Nat} {xs : List Value} (h : w.ownsRow B e size v n xs) (k : Keeps p w w') (hp : p < B) : w'.ownsRow B e size v n xs := by
  obtain ⟨h1, h2⟩ := h
  refine ⟨h1, ?_⟩
  rcases h2 with h3 | ⟨g, cap, cur, hv, hb, hg, hr⟩
  · exact Or.inl h3
  · refine Or.inr ⟨g, cap, cur, hv, hb, (k.2 g ?_ (by omega)).trans hg, hr⟩
    rcases Nat.lt_or_ge g w.heap.size with h4 | h4
    · exact h4
    · rw [Array.getElem?_eq_none h4] at hg; cases hg
theorem OwnGrid.keeps2 {p B : Nat} {w w' : World} {v : Value} {g : Grid} (h : OwnGrid w B v g) (k : Keeps p w w') (hp : p < B) : OwnGrid w' B v g := by
  obtain ⟨us, h1, h2, h3, h4⟩ := h
  exact ⟨us, h1, k.ownsRow h2 hp, fun i u r hu hr => k.ownsRow (h3 i u r hu hr) hp, h4⟩
theorem OwnGrid.topApart {w : World} {B : Nat} {v p : Value} {g : Grid} (h : OwnGrid w B v g) (hp : RowVal w v p) : p.ownBlock = none ∨ p.ownBlock ≠ v.ownBlock := by
  obtain ⟨k, r, hr, ho⟩ := h.rowVal hp
  obtain ⟨us, h1, h2, _⟩ := h
  exact kinds_apart h2 ho
/-- the cell of a row in its grid may be written anew: the row cut at its head -/
theorem OwnGrid.cutHead {w : World} {B b n c : Nat} {r : List Int} {g : Grid} (h : OwnGrid w B (.slice (some ⟨b, 0, none⟩) n c) (r :: g)) (hr : 0 < r.length) :
    ∃ R c', w.cell? ⟨b, 0, none⟩ = some (.slice (some ⟨R, 0, none⟩) r.length c') ∧ r.length ≤ c' ∧ w.frozen? ⟨b, 0, none⟩ = false ∧ B ≤ b ∧ b < w.heap.size ∧
      ∀ o c2, r.length - 1 ≤ c2 → (1 < r.length → o = 1) → GridAt (w.setCell ⟨b, 0, none⟩ (.slice (some ⟨R, o, none⟩) (r.length - 1) c2)) (some ⟨b, 0, none⟩) (r.drop 1 :: g) := by
  have hh := h
  obtain ⟨us, h1, h2, h3, h4⟩ := hh
  have e0 : (r :: g)[0]? = some r := rfl
  obtain ⟨u, hu, hc, hbl⟩ := OwnGrid.us h2 h1 e0
  have ho := h3 0 u r hu e0
  obtain ⟨R, c', rfl, hle, hBR, hRl⟩ := ho.form hr
  have hn : n = (r :: g).length := by
    rcases h2.2 with ⟨hv, _⟩ | ⟨_, _, _, hv, _⟩ <;> cases hv
    rfl
  subst hn
  have hbB := (World.ownsRow.lt h2 b rfl).1
  refine ⟨R, c', hc, hle, h2.frozenAt 0, hbB, hbl, fun o c2 hc2 ho1 k s hk => ?_⟩
  have hne : ∀ p, RowVal w (.slice (some ⟨b, 0, none⟩) (r :: g).length c) p → ∀ q, p.ownBlock = some q → q ≠ b := fun p hp q hq e => by
    subst e
    rcases h.topApart hp with e | e
    · rw [e] at hq; cases hq
    · exact e (by rw [hq]; rfl)
  cases k with
  | zero =>
    have es : s = r.drop 1 := by simpa using hk.symm
    subst es
    have hRb : R ≠ b := hne _ ⟨b, _, c, 0, rfl, by simp, hc⟩ R rfl
    refine ⟨b, 0, some ⟨R, o, none⟩, c2, rfl, by simpa using hbl, ?_, by rw [List.length_drop]; exact hc2, fun j x hj => ?_⟩
    · rw [Nat.add_zero, World.cell?_setCell_same _ _ _ hc, List.length_drop]
    · have hjl : j < (r.drop 1).length := (List.getElem?_eq_some_iff.1 hj).1
      rw [List.length_drop] at hjl
      obtain rfl := ho1 (by omega)
      rw [List.getElem?_drop] at hj
      obtain ⟨b', o', hA, hlt, hcell⟩ := ho.ints.2 (1 + j) x hj
      cases hA
      refine ⟨R, 1, rfl, by simpa using hlt, ?_⟩
      rw [World.cell?_setCell_other _ _ _ _ (by intro e; injection e with e; exact hRb e.symm)]
      rw [← hcell]; congr 2; omega
  | succ k =>
    have hk' : (r :: g)[k + 1]? = some s := hk
    obtain ⟨u', hu', hc', _⟩ := OwnGrid.us h2 h1 hk'
    obtain ⟨A', c'', hv', hle', hi'⟩ := (h3 (k + 1) u' s hu' hk').slice
    have hkl : k + 1 < (r :: g).length := (List.getElem?_eq_some_iff.1 hk').1
    refine ⟨b, 0, A', c'', rfl, by simpa using hbl, ?_, hle', fun j x hj => ?_⟩
    · rw [Nat.zero_add, World.cell?_setCell_other _ _ _ _ (by simp), hc', hv']
    · obtain ⟨b', o', hA, hlt, hcell⟩ := hi' j x hj
      subst hA
      have hbb : b' ≠ b := hne u' ⟨b, _, c, k + 1, rfl, hkl, hc'⟩ b' (by rw [hv']; rfl)
      exact ⟨b', o', rfl, by simpa using hlt, by rw [World.cell?_setCell_other _ _ _ _ (by intro e; injection e with e; exact hbb e.symm)]; exact hcell⟩
set_option maxRecDepth 100000 in
set_option maxHeartbeats 8000000 in
theorem l02Any_any (A : Option Addr) (c p : Nat) (xs : List Int) (w0 w : World) (hp : w0.heap.size ≤ p) (hb : Bytes w0 A xs) (he : Ext w0 w) (hc : Cur w p xs.length A c) (hl : xs.length ≤ 1048576) :
    Calls Try.prog 65 #[.pointer (some ⟨p, 0, none⟩)] w fun e w' => ∃ B cg g, e = .returned (.slice B g.length cg) ∧ GridAt w' B g ∧ g.length ≤ 6 ∧ (∀ r ∈ g, r.length ≤ 5) ∧ Ext w0 w' ∧ Cur w' p xs.length A c := by
  have c1 := l02Draw_any 5 A c p xs w0 w (by omega) (by omega) hp hb he hc hl
  have HBE := Lib.hid (fun (W : World) (h3 : Ext w0 W) (h4 : Cur W p xs.length A c) => l01Below_any 14 A c p xs w0 W (by omega) (by omega) hp hb h3 h4 hl)
  have HNR := Lib.hid (fun (W : World) (h3 : Ext w0 W) (h4 : Cur W p xs.length A c) => l01Near01_any A c p xs w0 W hp hb h3 h4 hl)
  clear hb he hc
  go_enter Try.func65, Try.ntmps65
  go_wp2_with fail
  refine c1.mono ?_
  rintro e w1 ⟨b, cap, m, rfl, ho, hg, h2, h1⟩
  have c2 := HBE.out w1 h2 h1
  have HO1 := Lib.hid ho
  have HG := Lib.hid hg
  have HPL1 := Lib.hid h1.lt
  clear c1 ho hg h1 h2
  go_wp2_with fail
  refine c2.mono ?_
  rintro e w2 ⟨z, rfl, hz, h1, h2, h3⟩
  have HO := Lib.hid (HO1.out.keep h3 (Nat.lt_succ_self _))
  have HC := Lib.hid h1
  have HE := Lib.hid h2
  have HPL := Lib.hid h1.lt
  obtain ⟨n, hn⟩ : ∃ n, m.length = n := ⟨_, rfl⟩
  obtain ⟨k, hk⟩ : ∃ k, (m.headD []).length = k := ⟨_, rfl⟩
  have him : Img m n k := by have h1 := Img.of HG.out; rw [hn, hk] at h1; exact h1
  obtain ⟨hn1, hn5⟩ := him.2.1
  obtain ⟨hk1, hk5⟩ := him.2.2.1
  rw [hn] at HO ⊢
  have HIM := Lib.hid him
  clear c2 h1 h2 h3 hn hk him HO1
  have h5 : z = 0 ∨ z = 1 ∨ z = 2 ∨ z = 3 ∨ 4 ≤ z := by omega
  rcases h5 with rfl | rfl | rfl | rfl | h4
  · obtain ⟨r0, hr0, hr0l⟩ := HIM.out.1.get (show 0 < n by omega)
    obtain ⟨R, cR, hcq, hle, hBR, hRl, hints, hfr, hset⟩ := HO.out.row hr0 (by omega)
    have hbo := HO.out.lt (b := b) rfl
    rw [hr0l] at hcq
    have HRW : Hid (∀ W3, Keeps p w2 W3 → W3.cell? ⟨b, 0, none⟩ = some (.slice (some ⟨R, 0, none⟩) k cR) ∧ W3.frozen? ⟨R, 0, none⟩ = false ∧ (∃ old, W3.cell? ⟨R, 0, none⟩ = some (.int .i64 old)) ∧ ∀ z, OwnGrid (W3.setCell ⟨R, 0, none⟩ (.int .i64 z)) (p + 1) (.slice (some ⟨b, 0, none⟩) n cap) (m.set 0 (r0.set 0 z))) := Lib.hid fun W3 kp => by
      have ho3 := HO.out.keeps2 kp (Nat.lt_succ_self _)
      have e1 := cell_blk (kp.2 b hbo.2 (by omega)) 0
      obtain ⟨R', c', hc', _, _, _, hi', hf', hs'⟩ := ho3.row hr0 (by omega)
      rw [hr0l] at hc'
      have e2 := e1.trans hcq
      rw [hc'] at e2
      cases e2
      obtain ⟨old, _, ho4⟩ := hi'.at1 (k := 0) (by omega)
      exact ⟨hc', hf' 0, ⟨old, ho4⟩, fun z => hs' 0 z (by omega)⟩
    have HCB : Hid (∀ W, Keep p w2 W → W.heap[p]? = w2.heap[p]? → Ext w0 W → Calls Try.prog 89 #[.pointer (some ⟨p, 0, none⟩), .int .i64 0, .int .i64 1] W fun e w' => ∃ v : Int, e = .returned (.int .i64 v) ∧ Cur w' p xs.length A c ∧ Ext w0 w' ∧ Keeps p w2 w') := Lib.hid fun W k1 k2 k3 => (HNR.out W k3 (HC.out.blk k2)).mono fun e w' ⟨v, g1, g2, g3, g4⟩ => ⟨v, g1, g2, g3, k1.keeps.trans g4⟩
    obtain ⟨q1, _, _, _⟩ := HRW.out w2 (Keep.refl _ _).keeps
    have HSZ := Lib.hid (And.intro hBR (And.intro hr0 hr0l))
    have hnI : (0 : Int) < (n : Int) := by omega
    have hkI : (0 : Int) < (k : Int) := by omega
    have hn0 : 0 < n := by omega
    have hk0 : 0 < k := by omega
    clear hset hfr hints hr0 hr0l hle hRl hcq hBR hbo HO HC
    go_wp2_with fail
    first | go_region_with (go_at_call 89; refine (HCB.out _ (by exact ⟨rfl, fun _ _ => rfl⟩) (by rfl) (HE.out.trans (by (repeat (first | exact Ext.refl _ | apply Ext.drew))))).mono ?_; rintro e w4 ⟨z, rfl, k1, k2, k3⟩; obtain ⟨m1, m2, ⟨old, m3⟩, m4⟩ := HRW.out w4 k3) | fail
    all_goals
      have HN1 := Lib.hid (m4 z)
      have HN2 : Hid (Ext w0 (w4.setCell ⟨R, 0, none⟩ (.int .i64 z))) := Lib.hid (Below.setCell k2 (by have := HSZ.out.1; show w0.heap.size ≤ R; omega) _)
      have HN3 : Hid (Cur (w4.setCell ⟨R, 0, none⟩ (.int .i64 z)) p xs.length A c) := Lib.hid (k1.blk (Below.heap_setCell _ _ _ _ (by have h2 := HSZ.out.1; show p ≠ R; omega)))
      have HN4 : Hid (Shape (m.set 0 (r0.set 0 z)) n k) := Lib.hid (shape_set HIM.out.1 HSZ.out.2.1)
      clear m4 k1 k2 k3
      go_wp2_with fail
      go_ret
      exact ⟨_, cap, m.set 0 (r0.set 0 z), by rw [HN4.out.1]; rfl, (HN1.out.ext (by (repeat (first | exact Ext.refl _ | apply Ext.drew)))).gridAt, by rw [HN4.out.1]; omega, (fun r hr => by rw [HN4.out.2 r hr]; exact hk5), HN2.out.trans (by (repeat (first | exact Ext.refl _ | apply Ext.drew))), HN3.out.blk rfl⟩
  · obtain ⟨r0, g0, rfl⟩ : ∃ r0 g0, m = r0 :: g0 := by
      cases m with
      | nil => have h := HIM.out.1.1; simp at h; omega
      | cons r0 g0 => exact ⟨r0, g0, rfl⟩
    have hr0l : r0.length = k := HIM.out.1.2 r0 List.mem_cons_self
    obtain ⟨R, cR, hcq, hle, hfz, hbB, hbl, hset⟩ := HO.out.cutHead (by omega)
    rw [hr0l] at hcq hle hset
    have hnI : (0 : Int) < (n : Int) := by omega
    have hn0 : 0 < n := by omega
    have hkI : (1 : Int) ≤ (k : Int) := by omega
    have hcI : (k : Int) ≤ (cR : Int) := by omega
    have HF := Lib.hid (And.intro hbB hr0l)
    have hn1' := HIM.out.1.1
    have hgl : g0.length + 1 = n := by simpa using hn1'
    have hgr : ∀ r ∈ g0, r.length = k := fun r hr => HIM.out.1.2 r (List.mem_cons_of_mem _ hr)
    have HGL := Lib.hid (And.intro hgl hgr)
    have hbl2 : b < w2.heap.size := hbl
    have hEX : ∀ v, Ext w0 (w2.setCell ⟨b, 0, none⟩ v) := fun v => Below.setCell HE.out (by show w0.heap.size ≤ b; omega) _
    have hCU : ∀ v, Cur (w2.setCell ⟨b, 0, none⟩ v) p xs.length A c := fun v => HC.out.blk (Below.heap_setCell _ _ _ _ (by show p ≠ b; omega))
    have HEX := Lib.hid hEX
    have HCU := Lib.hid hCU
    by_cases hc1 : cR = 1
    · subst hc1
      have HS := Lib.hid (hset 0 0 (by omega) (fun h => by omega))
      have hk1' : k = 1 := by omega
      subst hk1'
      clear hset hbl hbB hr0l HO hn1' hgl hgr hEX hCU
      go_wp2_with fail
      go_ret
      exact ⟨_, cap, r0.drop 1 :: g0, by rw [List.length_cons, HGL.out.1]; rfl, HS.out, by rw [List.length_cons, HGL.out.1]; omega, (fun r hr => by
        rcases List.mem_cons.1 hr with e | e
        · rw [e, List.length_drop, HF.out.2]; omega
        · rw [HGL.out.2 r e]; exact hk5), HEX.out _, HCU.out _⟩
    · have HS := Lib.hid (hset 1 (cR - 1) (by omega) (fun _ => rfl))
      clear hset hbl hbB hr0l HO hn1' hgl hgr hEX hCU
      go_wp2_with fail
      go_ret
      exact ⟨_, cap, r0.drop 1 :: g0, by rw [List.length_cons, HGL.out.1]; rfl, HS.out, by rw [List.length_cons, HGL.out.1]; omega, (fun r hr => by
        rcases List.mem_cons.1 hr with e | e
        · rw [e, List.length_drop, HF.out.2]; omega
        · rw [HGL.out.2 r e]; exact hk5), HEX.out _, HCU.out _⟩
  · obtain ⟨r0, hr0, hr0l⟩ := HIM.out.1.get (show 0 < n by omega)
    obtain ⟨R, cR, hcq, _, _, _, hints, _, _⟩ := HO.out.row hr0 (by omega)
    rw [hr0l] at hcq
    have HI := Lib.hid hints
    have HR0 := Lib.hid hr0
    have HL := Lib.hid hr0l
    have hB : p + 1 ≤ w2.heap.size := HPL.out
    have hnI : (0 : Int) < (n : Int) := by omega
    have hn0 : 0 < n := by omega
    have hbl := (HO.out.lt (b := b) rfl).2
    have hr5 : r0.length ≤ 5 := by omega
    have hr1 : 0 < r0.length := by omega
    have hgl := HIM.out.1.1
    have HOI : Hid (∀ W, Ext w2 W → OwnGrid W (p + 1) (.slice (some ⟨b, 0, none⟩) n cap) m ∧ Ints W (some ⟨R, 0, none⟩) r0) := Lib.hid fun W e => ⟨HO.out.ext e, HI.out.ext e⟩
    have HL2 : Hid (k = r0.length) := Lib.hid hr0l.symm
    clear hints hr0 hr0l
    rw [HL2.out] at hcq
    go_wp2_with (at_builtin; refine app_ints (xs := []) (ys := r0) (Own.empty w2 w2.heap.size (Nat.le_refl _)) (by simp) (by simp; omega) hr1 (HOI.out _ ((Ext.refl w2).alloc _)).2 rfl _ _ rfl rfl rfl ?_)
    intro g3 c3 w3 hown hb3 _ _
    have HW3 := Lib.hid hown
    have HE3 : Hid (Ext w2 w3) := Lib.hid (hb3 w2 ((Ext.refl w2).alloc _))
    have hml : m.length ≤ 1000 := by omega
    clear hown hb3 hcq hgl
    go_wp2_with (at_builtin; refine app_row HO.out (HE3.out.alloc _) hB (HW3.out.ext ((Ext.refl w3).alloc _)) (by omega) (by simp) rfl _ _ rfl rfl rfl ?_)
    intro b4 c4 w4 ho4 hb4
    have hB4 := hb4 w2 (Below.alloc (Below.mono HE3.out hB) (Nat.le_trans hB HE3.out.size) _)
    have HO4 := Lib.hid ho4
    have HE4 : Hid (Ext w0 w4) := Lib.hid (Below.trans HE.out (Below.mono hB4 (by omega)))
    have HC4 : Hid (Cur w4 p xs.length A c) := Lib.hid (HC.out.blk (hB4.block p (by omega)))
    clear ho4 hb4 hB4
    go_wp2_with fail
    go_ret
    exact ⟨some ⟨b4, 0, none⟩, c4, m ++ [[] ++ r0], by rw [List.length_append]; rfl, HO4.out.gridAt, by rw [List.length_append, HIM.out.1.1]; simp; omega, (fun r hr => by
      rcases List.mem_append.1 hr with e | e
      · rw [HIM.out.1.2 r e]; exact hk5
      · rw [List.mem_singleton.1 e]; simpa using hr5), HE4.out, HC4.out⟩
  · go_wp2_with fail
    go_ret
    exact ⟨none, 0, [], rfl, fun k r hk => by simp at hk, by simp, (fun r hr => by cases hr), HE.out, HC.out⟩
  · have b0 : ((z : Int) == 0) = false := by simp; omega
    have b1 : ((z : Int) == 1) = false := by simp; omega
    have b2 : ((z : Int) == 2) = false := by simp; omega
    have b3 : ((z : Int) == 3) = false := by simp; omega
    go_wp2_with fail
    go_ret
    exact ⟨_, cap, m, by rw [HIM.out.1.1]; rfl, HO.out.gridAt, by rw [HIM.out.1.1]; omega, (fun r hr => by rw [HIM.out.1.2 r hr]; exact hk5), HE.out, HC.out⟩
end Go.Proofs.Ytlhjbpachpjpkaa
