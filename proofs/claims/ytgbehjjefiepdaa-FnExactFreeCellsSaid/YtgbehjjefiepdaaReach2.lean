/- The reference's search: its walk. -/
import Derived.Test.YtgbehjjefiepdaaReach1
namespace Go.Proofs.Ytgbehjjefiepdaa
open Go.RowKit Tomo

theorem infoBool : (Try.prog.info? 4).map (fun i => (i.zero, i.size, i.bytes)) = some (some (.bool false), 1, 1) := by kernel_rfl
/-- the slice v holds these truth values, in a block of its own from B on -/
def OwnB (w : World) (B : Nat) (v : Value) (bs : List Bool) : Prop := w.ownsRow B 4 1 v bs.length (bs.map Value.bool)
theorem OwnB.ext {w w' : World} {B : Nat} {v : Value} {bs : List Bool} (h : OwnB w B v bs) (e : Ext w w') : OwnB w' B v bs := ownsRow_ext h e
theorem OwnB.put {w : World} {B g n c : Nat} {bs : List Bool} (h : OwnB w B (.slice (some ⟨g, 0, none⟩) n c) bs) {x : Nat} (hx : x < n) (hn : n = bs.length) :
    (∃ y, bs[x]? = some y ∧ w.cell? ⟨g, x, none⟩ = some (.bool y)) ∧ w.frozen? ⟨g, x, none⟩ = false ∧ ∀ y, OwnB (w.setCell ⟨g, x, none⟩ (.bool y)) B (.slice (some ⟨g, 0, none⟩) n c) (bs.set x y) := by
  subst hn
  refine ⟨⟨bs[x], List.getElem?_eq_getElem hx, ?_⟩, World.ownsRow.frozenAt h x, fun y => ?_⟩
  · have := World.ownsRow.cellAt h x (by omega)
    rw [List.getElem?_map, List.getElem?_eq_getElem hx] at this
    exact this
  · have := (World.ownsRow.stored h x (.bool y)).1
    unfold OwnB
    rw [List.map_set, List.length_set]
    exact this
theorem OwnB.grown {w : World} {B g n c : Nat} {bs : List Bool} (h : OwnB w B (.slice (some ⟨g, 0, none⟩) n c) bs) (hn : n = bs.length) (x : Nat) (y : Bool) : w.grownBy (w.setCell ⟨g, x, none⟩ (.bool y)) (some g) := by
  subst hn
  exact (World.ownsRow.stored h x (.bool y)).2
theorem OwnB.block {w : World} {B b n c : Nat} {bs : List Bool} (h : OwnB w B (.slice (some ⟨b, 0, none⟩) n c) bs) : B ≤ b ∧ b < w.heap.size := World.ownsRow.lt h b rfl
theorem own_falses (w : World) (n : Nat) (hn : n ≤ 1000000) : OwnB (w.alloc (.cells (madeCells #[.bool false] n) 4)) w.heap.size (.slice (some ⟨w.heap.size, 0, none⟩) n n) (List.replicate n false) := by
  have h := World.ownsRow_lit (base := w.heap.size) (e := 4) (size := 1) w (madeCells #[.bool false] n) n (Nat.le_refl _) (by unfold maxLen; omega) (by rw [size_madeCells]; omega)
  unfold OwnB
  rw [List.length_replicate, List.map_replicate]
  rw [toList_madeCells_one] at h
  exact h

theorem Img.head4 {m : Grid} {n k : Nat} (h : Img m n k) {w : World} {b o : Nat} (hg : GridAt w (some ⟨b, o, none⟩) m) : ∃ R c, w.cell? ⟨b, o, none⟩ = some (.slice R k c) := by
  obtain ⟨R, c, r, hr, hq, _⟩ := hg.at1 (k := 0) (by rw [h.1.1]; have := h.2.1.1; omega)
  exact ⟨R, c, by rw [Nat.add_zero] at hq; rw [hq, h.1.row hr.out]⟩
/-- what the search has found -/
structure Found (n k : Nat) (M : Nat → Nat → Bool) (s : Nat) (bs : List Bool) (Q : List Nat) : Prop where
  len : bs.length = n + k
  mem : ∀ v, v < n + k → (bs[v]? = some true ↔ v ∈ Q)
  lt : ∀ v ∈ Q, v < n + k
  rch : ∀ v ∈ Q, Rch n k M s v
  cnt : bs.countP (· == true) = Q.length
  start : s ∈ Q
theorem Found.le {n k : Nat} {M : Nat → Nat → Bool} {s : Nat} {bs : List Bool} {Q : List Nat} (h : Found n k M s bs Q) : Q.length ≤ n + k := by
  rw [← h.cnt, ← h.len]; exact List.countP_le_length
theorem countP_set_true : ∀ (bs : List Bool) (x : Nat), bs[x]? = some false → (bs.set x true).countP (· == true) = bs.countP (· == true) + 1
  | [], x, h => by simp at h
  | b :: bs, 0, h => by
    have e : b = false := by simpa using h
    subst e; simp
  | b :: bs, x + 1, h => by
    have := countP_set_true bs x (by simpa using h)
    rw [List.set_cons_succ, List.countP_cons, List.countP_cons, this]; omega
theorem Found.one {n k : Nat} {M : Nat → Nat → Bool} {s : Nat} (hs : s < n + k) : Found n k M s ((List.replicate (n + k) false).set s true) [s] := by
  have h0 : (List.replicate (n + k) false)[s]? = some false := by simp [hs]
  refine ⟨by simp, fun v hv => ?_, fun v hv => ?_, fun v hv => ?_, ?_, by simp⟩
  · by_cases e : v = s
    · subst e; simp [hs]
    · rw [List.getElem?_set_ne (fun h => e h.symm)]; simp [e, hv]
  · have e : v = s := by simpa using hv
    omega
  · have e : v = s := by simpa using hv
    subst e; exact Rch.refl
  · rw [countP_set_true _ _ h0]; simp
theorem Found.more {n k : Nat} {M : Nat → Nat → Bool} {s : Nat} {bs : List Bool} {Q : List Nat} (h : Found n k M s bs Q) {v w : Nat} (hv : v ∈ Q) (hw : w < n + k) (he : REdge n k M v w) (hf : bs[w]? = some false) : Found n k M s (bs.set w true) (Q ++ [w]) := by
  refine ⟨by rw [List.length_set]; exact h.len, fun u hu => ?_, fun u hu => ?_, fun u hu => ?_, ?_, List.mem_append_left _ h.start⟩
  · by_cases e : u = w
    · subst e
      rw [List.getElem?_set_self (by rw [h.len]; exact hw)]; simp
    · rw [List.getElem?_set_ne (fun h => e h.symm), h.mem u hu]; simp [e]
  · rcases List.mem_append.1 hu with hu | hu
    · exact h.lt u hu
    · have e : u = w := by simpa using hu
      omega
  · rcases List.mem_append.1 hu with hu | hu
    · exact h.rch u hu
    · have e : u = w := by simpa using hu
      subst e; exact Rch.step v u (h.rch v hv) he
  · rw [countP_set_true _ _ hf, h.cnt]; simp
/-- the first nodes of the queue have been looked at -/
def Looked (n k : Nat) (M : Nat → Nat → Bool) (Q : List Nat) (at_ : Nat) : Prop := ∀ i v, i < at_ → Q[i]? = some v → ∀ w, w < n + k → REdge n k M v w → w ∈ Q
def LookedAt (n k : Nat) (M : Nat → Nat → Bool) (Q : List Nat) (v w0 : Nat) : Prop := ∀ w, w < w0 → w < n + k → REdge n k M v w → w ∈ Q
theorem Looked.app {n k : Nat} {M : Nat → Nat → Bool} {Q : List Nat} {a w : Nat} (h : Looked n k M Q a) (ha : a ≤ Q.length) : Looked n k M (Q ++ [w]) a := fun i v hi hv u hu he => by
  rw [List.getElem?_append_left (by omega)] at hv
  exact List.mem_append_left _ (h i v hi hv u hu he)
theorem LookedAt.app {n k : Nat} {M : Nat → Nat → Bool} {Q : List Nat} {v w0 : Nat} (h : LookedAt n k M Q v w0) : LookedAt n k M (Q ++ [w0]) v (w0 + 1) := fun w hw hl he => by
  by_cases e : w = w0
  · subst e; simp
  · exact List.mem_append_left _ (h w (by omega) hl he)
theorem LookedAt.skip {n k : Nat} {M : Nat → Nat → Bool} {Q : List Nat} {v w0 : Nat} (h : LookedAt n k M Q v w0) (hno : REdge n k M v w0 → w0 ∈ Q) : LookedAt n k M Q v (w0 + 1) := fun w hw hl he => by
  by_cases e : w = w0
  · subst e; exact hno he
  · exact h w (by omega) hl he
theorem Looked.next {n k : Nat} {M : Nat → Nat → Bool} {Q : List Nat} {a v : Nat} (h : Looked n k M Q a) (hv : Q[a]? = some v) (hl : LookedAt n k M Q v (n + k)) : Looked n k M Q (a + 1) := fun i u hi hu w hw he => by
  by_cases e : i = a
  · subst e
    rw [hv] at hu; cases hu
    exact hl w hw hw he
  · exact h i u (by omega) hu w hw he
theorem Found.closed {n k : Nat} {M : Nat → Nat → Bool} {s : Nat} {bs : List Bool} {Q : List Nat} (h : Found n k M s bs Q) (hl : Looked n k M Q Q.length) : ∀ v w, v < n + k → w < n + k → bs[v]? = some true → REdge n k M v w → bs[w]? = some true := fun v w hv hw hb he => by
  obtain ⟨i, hi⟩ := List.mem_iff_getElem?.1 ((h.mem v hv).1 hb)
  exact (h.mem w hw).2 (hl i v (List.getElem?_eq_some_iff.1 hi).1 hi w hw he)

theorem Img.mem {m : Grid} {n k : Nat} (h : Img m n k) {w : World} {b o : Nat} (hg : GridAt w (some ⟨b, o, none⟩) m) {y x : Nat} (hy : y < n) (hx : x < k) :
    ∃ R ro rc c, w.cell? ⟨b, o + y, none⟩ = some (.slice (some ⟨R, ro, none⟩) k rc) ∧ w.cell? ⟨R, ro + x, none⟩ = some (.int .i64 c) ∧ at2 m y x = c ∧ (c = 0 ∨ c = 1) := by
  obtain ⟨b5, o5, R5, c5, r, hA, _, hr, hc, hi⟩ := hg.at_ (k := y) (by rw [h.1.1]; exact hy)
  cases hA
  have hrl := h.1.row hr.out
  obtain ⟨b7, o7, c, hA7, _, hcv, hc7⟩ := hi.at_ (k := x) (by rw [hrl]; exact hx)
  subst hA7
  rw [hrl] at hc
  have e := at2_of hr.out hcv.out
  exact ⟨b7, o7, c5, c, hc, hc7, e, by rw [← e]; exact at2_bit h hy hx⟩
theorem made_falses {T s : Nat} (h : s < T) : (madeCells #[.bool false] T)[s]? = some (Value.bool false) := by
  rw [← Array.getElem?_toList, toList_madeCells_one, List.getElem?_replicate, if_pos h]
def qI (Q : List Nat) : List Int := Q.map (fun v : Nat => (v : Int))
theorem qI_len (Q : List Nat) : (qI Q).length = Q.length := List.length_map ..
theorem qI_at {Q : List Nat} {i v : Nat} (h : Q[i]? = some v) : (qI Q)[i]? = some (v : Int) := by
  unfold qI; rw [List.getElem?_map, h]; rfl
theorem edge_row {n k : Nat} {M : Nat → Nat → Bool} {v w : Nat} (hv : v < n) : REdge n k M v w ↔ n ≤ w ∧ w < n + k ∧ M v (w - n) = true :=
  ⟨fun h => by
    rcases h with ⟨_, h⟩ | ⟨_, h, _⟩
    · exact h
    · omega, fun h => .inl ⟨hv, h⟩⟩
theorem edge_col {n k : Nat} {M : Nat → Nat → Bool} {v w : Nat} (hv : n ≤ v) (hv2 : v < n + k) : REdge n k M v w ↔ w < n ∧ M w (v - n) = false :=
  ⟨fun h => by
    rcases h with ⟨_, h⟩ | ⟨h, _, _, h2⟩
    · omega
    · exact ⟨h, h2⟩, fun h => .inr ⟨h.1, hv, hv2, h.2⟩⟩

set_option maxRecDepth 100000 in
set_option maxHeartbeats 8000000 in
theorem l07Reach_any (A : Option Addr) (ca : Nat) (m : Grid) (n k s : Nat) (w : World) (hm : Img m n k) (hs : s < n + k) (hx : GridAt w A m) :
    Calls Try.prog 65 #[.slice A n ca, .int .i64 s] w fun e w' => ∃ b bs, e = .returned (.slice (some ⟨b, 0, none⟩) (n + k : Nat) (n + k : Nat)) ∧ OwnB w' w.heap.size (.slice (some ⟨b, 0, none⟩) (n + k) (n + k)) bs ∧ (∃ Q, Found n k (cellB m) s bs Q ∧ Looked n k (cellB m) Q Q.length) ∧ Ext w w' := by
  obtain ⟨hn1, hn5⟩ := hm.2.1
  obtain ⟨hk1, hk5⟩ := hm.2.2.1
  obtain ⟨bm, om, _, _, _, hA, hbm, _⟩ := hx.at_ (k := 0) (by rw [hm.1.1]; omega)
  subst hA
  obtain ⟨R0, c0, q0⟩ := hm.head4 hx
  have hmk := run_make_row' (P := Try.prog) 55 4 (.bool false) 1 Try.underlying55 infoBool rfl .i64 .i64 (n + k) (by omega) (by omega)
  have HM := Lib.hid hm
  have HX := Lib.hid hx
  have HF0 := Lib.hid (Found.one (k := k) (M := cellB m) hs)
  obtain ⟨M, hM⟩ : ∃ M, cellB m = M := ⟨_, rfl⟩
  have HMM := Lib.hid hM
  rw [hM] at HF0 ⊢
  obtain ⟨T, hT⟩ : ∃ T, n + k = T := ⟨_, rfl⟩
  have hTi : (n : Int) + (k : Int) = (T : Int) := by rw [← hT]; rfl
  have hT10 : T ≤ 10 := by omega
  rw [hT] at hmk hs HF0 ⊢
  have HT := Lib.hid hT
  have hmd := made_falses hs
  have HOB : Hid (OwnB ((w.alloc (.cells ((madeCells #[.bool false] T).setIfInBounds s (.bool true)) 4)).alloc (.cells #[.int .i64 (s : Int)] 3)) w.heap.size (.slice (some ⟨w.heap.size, 0, none⟩) T T) ((List.replicate T false).set s true)) := Lib.hid (OwnB.ext (by
    have h := World.ownsRow_lit (base := w.heap.size) (e := 4) (size := 1) w ((madeCells #[.bool false] T).setIfInBounds s (.bool true)) T (Nat.le_refl _) (by unfold maxLen; omega) (by rw [Array.size_setIfInBounds, size_madeCells]; omega)
    unfold OwnB
    rw [List.length_set, List.length_replicate, List.map_set, List.map_replicate]
    rw [Array.toList_setIfInBounds, toList_madeCells_one] at h
    exact h) ((Ext.refl _).alloc _))
  have HOQ : Hid (Own ((w.alloc (.cells ((madeCells #[.bool false] T).setIfInBounds s (.bool true)) 4)).alloc (.cells #[.int .i64 (s : Int)] 3)) (w.heap.size + 1) (.slice (some ⟨w.heap.size + 1, 0, none⟩) 1 1) (qI [s])) := Lib.hid (by
    have h := World.ownsRow_lit (base := w.heap.size + 1) (e := 3) (size := 1) (w.alloc (.cells ((madeCells #[.bool false] T).setIfInBounds s (.bool true)) 4)) #[.int .i64 (s : Int)] 1 (by simp) (by decide) rfl
    simpa [qI, Own] using h)
  have HE0 : Hid (Ext w ((w.alloc (.cells ((madeCells #[.bool false] T).setIfInBounds s (.bool true)) 4)).alloc (.cells #[.int .i64 (s : Int)] 3))) := Lib.hid (((Ext.refl w).alloc _).alloc _)
  clear hm hx hT hM
  go_enter Try.func65, Try.ntmps65
  go_wp2_with fail
  go_loopw [7, 8, 9, 10, 11] (fun Qv i _ _ _ wr => ∃ (a q qg qc : Nat) (Q : List Nat) (bs : List Bool), i = .int .i64 a ∧ Qv = .slice (some ⟨qg, 0, none⟩) q qc ∧ a ≤ q ∧ q ≤ T ∧ Hid (Q.length = q) ∧ Hid (Found n k M s bs Q) ∧ Hid (Looked n k M Q a) ∧ Hid (OwnB wr w.heap.size (.slice (some ⟨w.heap.size, 0, none⟩) T T) bs) ∧ Hid (Own wr (w.heap.size + 1) (.slice (some ⟨qg, 0, none⟩) q qc) (qI Q)) ∧ Hid (Ext w wr)) (fun _ i _ _ _ _ => T - (intOf i).toNat)
  case atStart => exact ⟨0, 1, w.heap.size + 1, 1, [s], _, rfl, rfl, by omega, by omega, Lib.hid rfl, HF0, Lib.hid (fun i v hi => by omega), HOB, HOQ, HE0⟩
  case round =>
    rename World => wa
    clear HOB HOQ HE0 HF0
    obtain ⟨a, q, qg, qc, Q, bs, rfl, rfl, haq, hqT, HQ, HF, HL, HB, HO, HE⟩ := hrel
    by_cases hlt : a < q
    · have hq1 : a < (qI Q).length := by rw [qI_len, HQ.out]; exact hlt
      have ho1 := HO.out
      rw [← HQ.out, ← qI_len] at ho1
      obtain ⟨⟨y, hy, hcy⟩, _, _⟩ := ho1.put hq1
      obtain ⟨v, hv⟩ : ∃ v, Q[a]? = some v := ⟨_, List.getElem?_eq_getElem (by rw [HQ.out]; exact hlt)⟩
      obtain rfl : y = (v : Int) := by rw [qI_at hv] at hy; exact (Option.some.inj hy).symm
      have hvT : v < T := by rw [← HT.out]; exact HF.out.lt v (List.mem_of_getElem? hv)
      have HV := Lib.hid hv
      clear hq1 ho1 hy hv
      go_wp2_with fail
      go_loopw [38, 7, 10, 11] (fun i Qv _ _ wr => ∃ (j q qg qc : Nat) (Q : List Nat) (bs : List Bool), i = .int .i64 j ∧ Qv = .slice (some ⟨qg, 0, none⟩) q qc ∧ a < q ∧ q ≤ T ∧ j ≤ T ∧ Hid (Q.length = q) ∧ Hid (Q[a]? = some v) ∧ Hid (Found n k M s bs Q) ∧ Hid (Looked n k M Q a) ∧ Hid (LookedAt n k M Q v j) ∧ Hid (OwnB wr w.heap.size (.slice (some ⟨w.heap.size, 0, none⟩) T T) bs) ∧ Hid (Own wr (w.heap.size + 1) (.slice (some ⟨qg, 0, none⟩) q qc) (qI Q)) ∧ Hid (Ext w wr)) (fun i _ _ _ _ => T - (intOf i).toNat)
      case atStart => exact ⟨0, q, qg, qc, Q, bs, rfl, rfl, hlt, hqT, Nat.zero_le _, HQ, HV, HF, HL, Lib.hid (fun w hw => by omega), HB, HO, HE⟩
      case round =>
        rename World => wb
        clear HQ HV HF HL HB HO HE hqT haq hlt
        obtain ⟨j, q, qg, qc, Q, bs, rfl, rfl, haq, hqT, hjT, HQ, HV, HF, HL, HLA, HB, HO, HE⟩ := hrel
        by_cases hj : j < T
        · have hLA := HLA.out
          have hvT2 : v < n + k := by rw [HT.out]; exact hvT
          have hjT2 : j < n + k := by rw [HT.out]; exact hj
          have hob := HB.out
          obtain ⟨⟨bv, hbj, hbc⟩, hbf, hput⟩ := hob.put hj (by rw [HF.out.len, HT.out])
          clear HLA hob
          by_cases hvn : v < n
          · by_cases hjn : j < n
            · have HN : Hid (LookedAt n k M Q v (j + 1)) := Lib.hid (hLA.skip fun he => absurd ((edge_row hvn).1 he).1 (by omega))
              clear hLA
              go_wp2_with fail
              go_roundw
              case rel => exact ⟨j + 1, q, qg, qc, Q, bs, by go_num, rfl, haq, hqT, by omega, HQ, HV, HF, HL, HN, HB, HO, HE⟩
              case measure => simp [intOf]; omega
            · obtain ⟨R, ro, rc, c, hc1, hc2, hc3, hc4⟩ := HM.out.mem (HX.out.ext HE.out) (y := v) (x := j - n) hvn (by omega)
              have hM2 : M v (j - n) = (c == 1) := by rw [← HMM.out, cellB_at2, hc3]
              rcases hc4 with rfl | rfl
              · have HN : Hid (LookedAt n k M Q v (j + 1)) := Lib.hid (hLA.skip fun he => absurd (((edge_row hvn).1 he).2.2) (by rw [hM2]; decide))
                clear hLA
                go_wp2_with fail
                go_roundw
                case rel => exact ⟨j + 1, q, qg, qc, Q, bs, by go_num, rfl, haq, hqT, by omega, HQ, HV, HF, HL, HN, HB, HO, HE⟩
                case measure => simp [intOf]; omega
              · have hedge : REdge n k M v j := (edge_row hvn).2 ⟨by omega, hjT2, by rw [hM2]; rfl⟩
                cases bv
                · have hjQ : Hid (Found n k M s (bs.set j true) (Q ++ [j])) := Lib.hid (HF.out.more (List.mem_of_getElem? HV.out) (by rw [HT.out]; exact hj) hedge hbj)
                  have HQ2 : Hid ((Q ++ [j]).length = q + 1) := Lib.hid (by rw [List.length_append, HQ.out]; rfl)
                  have HV2 : Hid ((Q ++ [j])[a]? = some v) := Lib.hid (by rw [List.getElem?_append_left (by rw [HQ.out]; exact haq)]; exact HV.out)
                  have HL2 : Hid (Looked n k M (Q ++ [j]) a) := Lib.hid (HL.out.app (by rw [HQ.out]; omega))
                  have HN := Lib.hid hLA.app
                  have hq2 : q + 1 ≤ T := by
                    have := hjQ.out.le
                    rw [HQ2.out, HT.out] at this
                    exact this
                  have hseg := Lib.hid (HB.out.grown (by rw [HF.out.len, HT.out]) j true)
                  have HO1 : Hid (Own (wb.setCell ⟨w.heap.size, j, none⟩ (.bool true)) (w.heap.size + 1) (.slice (some ⟨qg, 0, none⟩) q qc) (qI Q)) := Lib.hid (World.ownsRow.kept HO.out hseg.out (by
                    right
                    intro e
                    have h1 : w.heap.size + 1 ≤ qg := (HO.out.lt rfl).1
                    have h2 : qg = w.heap.size := by simpa [Value.ownBlock] using e
                    omega))
                  have HB1 := Lib.hid (hput true)
                  have HE1 : Hid (Ext w (wb.setCell ⟨w.heap.size, j, none⟩ (.bool true))) := Lib.hid (Below.setCell HE.out (Nat.le_refl _) _)
                  have HI : Hid (Ints ((wb.setCell ⟨w.heap.size, j, none⟩ (.bool true)).alloc (.cells #[.int .i64 (j : Int)] 3)) (some ⟨wb.heap.size, 0, none⟩) [(j : Int)]) := Lib.hid (Ints.one (by simp))
                  have hs1 := HE1.out.size
                  have hs2 : w.heap.size < wb.heap.size := (OwnB.block HB.out).2
                  have hqI := qI_len Q
                  rw [HQ.out] at hqI
                  clear hput hLA hbj hseg
                  go_wp2_with (at_builtin; refine app_ints (ys := [(j : Int)]) (HO1.out.ext ((Ext.refl _).alloc _)) (by simp; omega) (by simp; omega) (by simp) HI.out rfl _ _ rfl rfl rfl ?_)
                  intro g2 c2 w2 ho2 hb2 hgr hg2
                  have HO2 : Hid (Own w2 (w.heap.size + 1) (.slice (some ⟨g2, 0, none⟩) (q + 1) c2) (qI (Q ++ [j]))) := Lib.hid (by
                    have h := ho2
                    unfold qI at h ⊢
                    rw [List.map_append]
                    exact h)
                  have HE2 : Hid (Ext w w2) := Lib.hid (Below.grown (HE1.out.alloc _) hgr (by simp; omega) fun b e => by
                    have h1 : w.heap.size + 1 ≤ qg := (HO1.out.lt rfl).1
                    have h2 : qg = b := by simpa [Value.ownBlock] using e
                    omega)
                  have HB2 : Hid (OwnB w2 w.heap.size (.slice (some ⟨w.heap.size, 0, none⟩) T T) (bs.set j true)) := Lib.hid (World.ownsRow.kept (HB1.out.ext ((Ext.refl _).alloc _)) hgr (by
                    right
                    intro e
                    have h1 : w.heap.size + 1 ≤ qg := (HO1.out.lt rfl).1
                    have h2 : w.heap.size = qg := by simpa [Value.ownBlock] using e
                    omega))
                  clear ho2 hb2 hgr hg2
                  go_wp2_with fail
                  go_roundw
                  case rel => exact ⟨j + 1, q + 1, g2, c2, Q ++ [j], _, by go_num, rfl, by omega, hq2, by omega, HQ2, HV2, hjQ, HL2, HN, HB2, HO2, HE2⟩
                  case measure => simp [intOf]; omega
                · have hjQ : j ∈ Q := (HF.out.mem j (by rw [HT.out]; exact hj)).1 hbj
                  have HN : Hid (LookedAt n k M Q v (j + 1)) := Lib.hid (hLA.skip fun _ => hjQ)
                  clear hLA hjQ hput
                  go_wp2_with fail
                  go_roundw
                  case rel => exact ⟨j + 1, q, qg, qc, Q, bs, by go_num, rfl, haq, hqT, by omega, HQ, HV, HF, HL, HN, HB, HO, HE⟩
                  case measure => simp [intOf]; omega
          · by_cases hjn : j < n
            · obtain ⟨R, ro, rc, c, hc1, hc2, hc3, hc4⟩ := HM.out.mem (HX.out.ext HE.out) (y := j) (x := v - n) hjn (by omega)
              have hM2 : M j (v - n) = (c == 1) := by rw [← HMM.out, cellB_at2, hc3]
              rcases hc4 with rfl | rfl
              · have hedge : REdge n k M v j := (edge_col (by omega) hvT2).2 ⟨hjn, by rw [hM2]; rfl⟩
                cases bv
                · have hjQ : Hid (Found n k M s (bs.set j true) (Q ++ [j])) := Lib.hid (HF.out.more (List.mem_of_getElem? HV.out) (by rw [HT.out]; exact hj) hedge hbj)
                  have HQ2 : Hid ((Q ++ [j]).length = q + 1) := Lib.hid (by rw [List.length_append, HQ.out]; rfl)
                  have HV2 : Hid ((Q ++ [j])[a]? = some v) := Lib.hid (by rw [List.getElem?_append_left (by rw [HQ.out]; exact haq)]; exact HV.out)
                  have HL2 : Hid (Looked n k M (Q ++ [j]) a) := Lib.hid (HL.out.app (by rw [HQ.out]; omega))
                  have HN := Lib.hid hLA.app
                  have hq2 : q + 1 ≤ T := by
                    have := hjQ.out.le
                    rw [HQ2.out, HT.out] at this
                    exact this
                  have hseg := Lib.hid (HB.out.grown (by rw [HF.out.len, HT.out]) j true)
                  have HO1 : Hid (Own (wb.setCell ⟨w.heap.size, j, none⟩ (.bool true)) (w.heap.size + 1) (.slice (some ⟨qg, 0, none⟩) q qc) (qI Q)) := Lib.hid (World.ownsRow.kept HO.out hseg.out (by
                    right
                    intro e
                    have h1 : w.heap.size + 1 ≤ qg := (HO.out.lt rfl).1
                    have h2 : qg = w.heap.size := by simpa [Value.ownBlock] using e
                    omega))
                  have HB1 := Lib.hid (hput true)
                  have HE1 : Hid (Ext w (wb.setCell ⟨w.heap.size, j, none⟩ (.bool true))) := Lib.hid (Below.setCell HE.out (Nat.le_refl _) _)
                  have HI : Hid (Ints ((wb.setCell ⟨w.heap.size, j, none⟩ (.bool true)).alloc (.cells #[.int .i64 (j : Int)] 3)) (some ⟨wb.heap.size, 0, none⟩) [(j : Int)]) := Lib.hid (Ints.one (by simp))
                  have hs1 := HE1.out.size
                  have hs2 : w.heap.size < wb.heap.size := (OwnB.block HB.out).2
                  have hqI := qI_len Q
                  rw [HQ.out] at hqI
                  clear hput hLA hbj hseg
                  go_wp2_with (at_builtin; refine app_ints (ys := [(j : Int)]) (HO1.out.ext ((Ext.refl _).alloc _)) (by simp; omega) (by simp; omega) (by simp) HI.out rfl _ _ rfl rfl rfl ?_)
                  intro g2 c2 w2 ho2 hb2 hgr hg2
                  have HO2 : Hid (Own w2 (w.heap.size + 1) (.slice (some ⟨g2, 0, none⟩) (q + 1) c2) (qI (Q ++ [j]))) := Lib.hid (by
                    have h := ho2
                    unfold qI at h ⊢
                    rw [List.map_append]
                    exact h)
                  have HE2 : Hid (Ext w w2) := Lib.hid (Below.grown (HE1.out.alloc _) hgr (by simp; omega) fun b e => by
                    have h1 : w.heap.size + 1 ≤ qg := (HO1.out.lt rfl).1
                    have h2 : qg = b := by simpa [Value.ownBlock] using e
                    omega)
                  have HB2 : Hid (OwnB w2 w.heap.size (.slice (some ⟨w.heap.size, 0, none⟩) T T) (bs.set j true)) := Lib.hid (World.ownsRow.kept (HB1.out.ext ((Ext.refl _).alloc _)) hgr (by
                    right
                    intro e
                    have h1 : w.heap.size + 1 ≤ qg := (HO1.out.lt rfl).1
                    have h2 : w.heap.size = qg := by simpa [Value.ownBlock] using e
                    omega))
                  clear ho2 hb2 hgr hg2
                  go_wp2_with fail
                  go_roundw
                  case rel => exact ⟨j + 1, q + 1, g2, c2, Q ++ [j], _, by go_num, rfl, by omega, hq2, by omega, HQ2, HV2, hjQ, HL2, HN, HB2, HO2, HE2⟩
                  case measure => simp [intOf]; omega
                · have hjQ : j ∈ Q := (HF.out.mem j (by rw [HT.out]; exact hj)).1 hbj
                  have HN : Hid (LookedAt n k M Q v (j + 1)) := Lib.hid (hLA.skip fun _ => hjQ)
                  clear hLA hjQ hput
                  go_wp2_with fail
                  go_roundw
                  case rel => exact ⟨j + 1, q, qg, qc, Q, bs, by go_num, rfl, haq, hqT, by omega, HQ, HV, HF, HL, HN, HB, HO, HE⟩
                  case measure => simp [intOf]; omega
              · have HN : Hid (LookedAt n k M Q v (j + 1)) := Lib.hid (hLA.skip fun he => absurd (((edge_col (by omega) hvT2).1 he).2) (by rw [hM2]; decide))
                clear hLA
                go_wp2_with fail
                go_roundw
                case rel => exact ⟨j + 1, q, qg, qc, Q, bs, by go_num, rfl, haq, hqT, by omega, HQ, HV, HF, HL, HN, HB, HO, HE⟩
                case measure => simp [intOf]; omega
            · have HN : Hid (LookedAt n k M Q v (j + 1)) := Lib.hid (hLA.skip fun he => absurd (((edge_col (by omega) hvT2).1 he).1) hjn)
              clear hLA
              go_wp2_with fail
              go_roundw
              case rel => exact ⟨j + 1, q, qg, qc, Q, bs, by go_num, rfl, haq, hqT, by omega, HQ, HV, HF, HL, HN, HB, HO, HE⟩
              case measure => simp [intOf]; omega
        · obtain rfl : j = T := by omega
          have HN : Hid (Looked n k M Q (a + 1)) := Lib.hid (HL.out.next HV.out (by rw [HT.out]; exact HLA.out))
          go_wp2_with fail
          go_roundw
          case rel => exact ⟨a + 1, q, qg, qc, Q, bs, by go_num, rfl, by omega, hqT, HQ, HF, HN, HB, HO, HE⟩
          case measure => simp [intOf]; omega
    · obtain rfl : a = q := by omega
      go_wp2_with fail
      go_ret
      exact ⟨w.heap.size, bs, rfl, HB.out, ⟨Q, HF.out, by rw [HQ.out]; exact HL.out⟩, HE.out⟩
end Go.Proofs.Ytgbehjjefiepdaa
