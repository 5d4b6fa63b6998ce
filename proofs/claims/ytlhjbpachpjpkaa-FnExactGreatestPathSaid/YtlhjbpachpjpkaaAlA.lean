/- Texts merged: All1 All2 All3. -/
import Derived.Test.YtlhjbpachpjpkaaGrA
import Derived.Test.YtlhjbpachpjpkaaRwA
import Derived.Test.YtlhjbpachpjpkaaExA
import Derived.Deep.RegionHeld3
import Derived.Test.YtlhjbpachpjpkaaTomA
namespace Go.Proofs.Ytlhjbpachpjpkaa
open Go.RowKit Tomo

section
variable {ops : Array Oper} {rest : List Oper} {o : Oper} {a : Act} {Q : Exit → Act → World → Prop}
theorem app_grid {w0 w : World} {B : Nat} {v u : Value} {gs : List (List (List Int))} {g : List (List Int)} (h : OwnGrids w0 B v gs) (e0 : Ext w0 w) (hB : B ≤ w0.heap.size) (hu : OwnGrid w w0.heap.size u g) (hl : gs.length ≤ 1000000000) {ad : Addr} {c : Nat}
    (hy : w.cell? ad = some u) (hgd : o.guard = none) (s x : Operand) (ho : o.op = .call { callee := .builtin .append, args := #[s, x], argTypes := #[25, 25] })
    (hs : a.eval s = v) (hx : a.eval x = .slice (some ad) 1 c)
    (hK : ∀ b cap w', OwnGrids w' B (.slice (some ⟨b, 0, none⟩) (gs.length + 1) cap) (gs ++ [g]) → (∀ z, Below B z w → Below B z w') → NonOut w w' → wpList Try.prog ops Q rest (a.put o.dst (.slice (some ⟨b, 0, none⟩) (gs.length + 1) cap)) w') :
    wpList Try.prog ops Q (o :: rest) a w :=
  wpList_plain hgd fun _ hk => app_grid_wp h e0 hB hu hl hy s x ho hs hx fun b cap w' h1 h2 h3 _ => hk _ _ (hK b cap w' h1 h2 h3)
end

theorem ite_len {α : Type} (c : Prop) [Decidable c] (l : List α) : (if c then l else []).length ≤ l.length := by split <;> simp

theorem specAll_len (rows : List Int) : ∀ cols : List Int, cols.length ≤ 5 → (specAll exI rows cols).length ≤ 32 ^ rows.length := by
  induction rows with
  | nil => intro cols _; simp [specAll]
  | cons r rs ih =>
    intro cols hc
    unfold specAll
    have key : ∀ l : List (List Int), (∀ row ∈ l, row.length = cols.length) → (l.flatMap fun row => if leRow row cols = true ∧ (if rs = [] then decide ((subRow cols row).sum = 0) else exI rs (subRow cols row)) = true then (specAll exI rs (subRow cols row)).map (row :: ·) else []).length ≤ l.length * 32 ^ rs.length := by
      intro l
      induction l with
      | nil => intro _; simp
      | cons row l ihl =>
        intro h
        have h1 := ihl (fun r hr => h r (List.mem_cons_of_mem _ hr))
        rw [List.flatMap_cons, List.length_append, List.length_cons, Nat.add_mul, Nat.one_mul]
        have h2 : ((specAll exI rs (subRow cols row)).map (row :: ·)).length ≤ 32 ^ rs.length := by rw [List.length_map]; exact ih _ (by rw [subRow_length _ _ (h row List.mem_cons_self)]; exact hc)
        exact Nat.le_trans (Nat.add_le_add (Nat.le_trans (ite_len _ _) h2) h1) (by omega)
    have h3 := key (rowsOf cols.length r) (fun row hrow => ((mem_rowsOf _ _ _).1 hrow).1)
    have h4 := rowsOf_len cols.length r
    have h5 : 2 ^ cols.length ≤ 32 := Nat.le_trans (Nat.pow_le_pow_right (by decide) hc) (by decide)
    refine Nat.le_trans h3 ?_
    rw [List.length_cons, Nat.pow_succ, Nat.mul_comm]
    exact Nat.mul_le_mul_left _ (Nat.le_trans h4 h5)

/-- what one row adds -/
noncomputable def rowAdds (rs cols row : List Int) : List (List (List Int)) :=
  if leRow row cols = true ∧ (if rs = [] then decide ((subRow cols row).sum = 0) else exI rs (subRow cols row)) = true then (specAll exI rs (subRow cols row)).map (row :: ·) else []
theorem specAll_cons (r : Int) (rs cols : List Int) : specAll exI (r :: rs) cols = (rowsOf cols.length r).flatMap (rowAdds rs cols) := rfl
theorem rowAdds_len (rs cols row : List Int) (hc : cols.length ≤ 5) (hr : row.length = cols.length) : (rowAdds rs cols row).length ≤ 32 ^ rs.length := by
  unfold rowAdds
  exact Nat.le_trans (ite_len _ _) (by rw [List.length_map]; exact specAll_len rs _ (by rw [subRow_length _ _ hr]; exact hc))
theorem subRow_mem {a b : List Int} (hb : ∀ y ∈ b, y = 0 ∨ y = 1) (hle : leRow b a = true) (hl : b.length = a.length) (ha : ∀ x ∈ a, x ≤ 100) : ∀ x ∈ subRow a b, 0 ≤ x ∧ x ≤ 100 := by
  intro x hx
  refine ⟨leRow_sub hle hl x hx, ?_⟩
  unfold subRow at hx
  rw [List.mem_iff_getElem?] at hx
  obtain ⟨i, hi⟩ := hx
  rw [List.getElem?_zipWith] at hi
  cases h1 : a[i]? with
  | none => rw [h1] at hi; cases hi
  | some p =>
    cases h2 : b[i]? with
    | none => rw [h1, h2] at hi; cases hi
    | some q =>
      rw [h1, h2] at hi
      have e : p - q = x := by simpa using hi
      have h3 := ha p (List.mem_of_getElem? h1)
      have h4 := hb q (List.mem_of_getElem? h2)
      omega

set_option maxRecDepth 100000 in
set_option maxHeartbeats 8000000 in
theorem l05All_any (rows : List Int) : ∀ (cols : List Int) (gs : List (List (List Int))) (done : List (List Int)) (v d : Value) (w : World) (B Bd : Nat) (Ar Ac : Option Addr) (cr cc : Nat), rows.length ≤ 5 → 1 ≤ cols.length → cols.length ≤ 5 →
    (∀ x ∈ cols, 0 ≤ x ∧ x ≤ 100) → (∀ r ∈ rows, 0 ≤ r ∧ r ≤ 5) → gs.length + 32 ^ rows.length ≤ 1000000000 → done.length + rows.length ≤ 100 → (∀ r ∈ done, 1 ≤ r.length ∧ r.length ≤ 100) → OwnGrids w B v gs → B ≤ w.heap.size → OwnGrid w Bd d done →
    Typed w Ar rows → rows.length ≤ cr → Typed w Ac cols →
    Calls Try.prog 60 #[v, d, .slice Ar rows.length cr, .slice Ac cols.length cc] w fun e w' => ∃ v', e = .returned v' ∧ OwnGrids w' B v' (gs ++ (specAll exI rows cols).map (done ++ ·)) ∧ Below B w w' ∧ NonOut w w' := by
  induction rows with
  | nil =>
    intro cols gs done v d w B Bd Ar Ac cr cc _ _ _ _ _ hgl hdl hdr hv hB hd _ _ _
    obtain ⟨Ad, cd, rfl, _⟩ := hd.slice
    have hgl' : gs.length ≤ 1000000000 := Nat.le_trans (Nat.le_add_right _ _) hgl
    have cc0 := l02Copy_some Ad cd done w (by omega) (fun r hr => ⟨(hdr r hr).1, by have := (hdr r hr).2; omega⟩) hd.gridAt
    have HV := Lib.hid hv
    clear hv hd hdr hgl
    go_enter Try.func60, Try.ntmps60
    go_wp2_with fail
    refine cc0.mono ?_
    rintro e w1 ⟨v1, rfl, ho1, he1⟩
    obtain ⟨A1, c1, rfl, _⟩ := ho1.slice
    have HO1 := Lib.hid ho1
    have HE1 := Lib.hid he1
    clear ho1 he1 cc0
    go_wp2_with (at_builtin; refine app_grid HV.out (HE1.out.alloc _) hB (HO1.out.ext ((Ext.refl w1).alloc _)) hgl' (new_cell rfl) rfl _ _ rfl rfl rfl ?_)
    intro b cap w2 ho2 hb2 hn2
    have HO2 := Lib.hid ho2
    have HB2 := Lib.hid (hb2 w ((Below.mono (HE1.out.alloc _) hB)))
    have HN2 := Lib.hid ((NonOut.ext (HE1.out.alloc (.cells #[.slice A1 done.length c1] 23))).trans hn2)
    clear ho2 hb2 hn2
    go_wp2
    go_ret
    exact ⟨_, rfl, by simpa [specAll] using HO2.out, HB2.out, HN2.out⟩
  | cons r rs ih =>
    intro cols gs done v d w B Bd Ar Ac cr cc hr5 hc1 hc5 hcs hrs hgl hdl hdr hv hB hd hAr hcr hAc
    obtain ⟨Ad, cd, rfl, _⟩ := hd.slice
    obtain ⟨hrv0, hrv5⟩ := hrs r List.mem_cons_self
    obtain ⟨b, o, _, rfl, _⟩ := hAr.1.at_ (k := 0) (by simp)
    obtain ⟨r', hr', hcr0⟩ := hAr.1.at1 (k := 0) (by simp)
    obtain rfl : r' = r := by have := hr'.out; simpa using this.symm
    rw [Nat.add_zero] at hcr0
    obtain ⟨N, hN⟩ : ∃ N, (r' :: rs).length = N := ⟨_, rfl⟩
    have hNr : rs.length + 1 = N := by rw [← hN]; rfl
    obtain ⟨M, hM⟩ : ∃ M, 32 ^ rs.length = M := ⟨_, rfl⟩
    have hM2 : 32 ^ N = 32 * M := by rw [← hN, ← hM, List.length_cons, Nat.pow_succ, Nat.mul_comm]
    rw [hN] at hr5 hcr hgl hdl ⊢
    rw [hM2] at hgl
    have hN1 : 1 ≤ N := by omega
    have HIH := Lib.hid ih
    have hti : Typed w (if cr = 1 then some ⟨b, o, none⟩ else some ⟨b, o + 1, none⟩) rs := by
      by_cases e : cr = 1
      · have : rs = [] := List.length_eq_zero_iff.1 (by omega)
        rw [if_pos e, this]
        exact ⟨fun k x hk => by simp at hk, hAr.2⟩
      · rw [if_neg e]; exact hAr.tail
    have HT := Lib.hid hti
    have HC := Lib.hid hAc
    have HV := Lib.hid hv
    have HD := Lib.hid hd
    have HDR := Lib.hid hdr
    have HCS := Lib.hid hcs
    have HRS : Hid (∀ r ∈ rs, 0 ≤ r ∧ r ≤ 5) := Lib.hid (fun r hr => hrs r (List.mem_cons_of_mem _ hr))
    have HNR := Lib.hid hNr
    have HMM := Lib.hid hM
    have hcb : cols.length ≤ 1000 := by omega
    clear hti ih hAr hAc hv hd hdr hcs hrs hN hM hM2 hr' hNr
    go_enter Try.func60, Try.ntmps60
    go_wp2_with fail
    refine (l05Rows_any cols.length r' w hc5 (by omega) (by omega)).mono ?_
    rintro e w2 ⟨v2, rfl, ho2, he2⟩
    obtain ⟨L, hL⟩ : ∃ L, rowsOf cols.length r' = L := ⟨_, rfl⟩
    have HLm : Hid (∀ row ∈ L, row.length = cols.length ∧ ∀ x ∈ row, x = 0 ∨ x = 1) := Lib.hid (fun row hrow => by rw [← hL] at hrow; have := (mem_rowsOf _ _ _).1 hrow; exact ⟨this.1, this.2.1⟩)
    have hLl : L.length ≤ 32 := by rw [← hL]; exact Nat.le_trans (rowsOf_len _ _) (Nat.le_trans (Nat.pow_le_pow_right (by decide) hc5) (by decide))
    have HL := Lib.hid hL
    rw [hL] at ho2
    clear hL
    obtain ⟨A2, c2, rfl, _⟩ := ho2.slice
    have HO2 := Lib.hid ho2
    have HE2 := Lib.hid he2
    clear ho2 he2
    go_wp2
    go_loopw [0, 10, 11, 12, 28] (fun v _ _ _ i wr => ∃ (j : Nat) (acc : List (List (List Int))), j ≤ L.length ∧ i = .int .i64 j ∧ Hid (acc.length ≤ j * M) ∧ Hid (acc = (L.take j).flatMap (rowAdds rs cols)) ∧ Hid (OwnGrids wr B v (gs ++ acc.map (done ++ ·))) ∧ Hid (Below B w wr) ∧ Hid (NonOut w2 wr) ∧ Hid (B ≤ wr.heap.size)) (fun _ _ _ _ i _ => L.length - (intOf i).toNat)
    case atStart => exact ⟨0, [], Nat.zero_le _, rfl, Lib.hid (by simp), Lib.hid (by simp), Lib.hid (by simpa using HV.out.ext HE2.out), Lib.hid (Below.mono HE2.out hB), Lib.hid (NonOut.refl _), Lib.hid (Nat.le_trans hB HE2.out.size)⟩
    case round =>
      obtain ⟨j, acc, hj, rfl, hacl, hacc, hv, hbw, hnw, hBr⟩ := hrel
      by_cases hlj : j < L.length
      · obtain ⟨b2, u, rfl, _, _, hcu, hou⟩ := (HO2.out.non hnw.out).elt (List.getElem?_eq_getElem hlj)
        have HR : Hid (L[j]? = some L[j]) := Lib.hid (List.getElem?_eq_getElem hlj)
        generalize L[j] = row at hou HR
        obtain ⟨hrowl, hrow01⟩ := HLm.out row (List.mem_of_getElem? HR.out)
        obtain ⟨Ar2, cr2, rfl, _, hir⟩ := hou.slice
        have hnww : NonOut w wr := (NonOut.ext HE2.out).trans hnw.out
        have HNW := Lib.hid hnww
        have hci := (HC.out.non hnww).1
        have cl := l05Left_any Ac Ar2 cc cr2 cols row wr (by omega) hrowl (fun x hx => by have := HCS.out x hx; omega) (fun x hx => by rcases hrow01 x hx with h | h <;> omega) hci hir
        rw [hrowl] at hcu
        have HAN : Hid (acc ++ rowAdds rs cols row = (L.take (j + 1)).flatMap (rowAdds rs cols)) := Lib.hid (by rw [take_succ_of HR.out, List.flatMap_append, hacc.out]; simp)
        have HANl : Hid ((acc ++ rowAdds rs cols row).length ≤ (j + 1) * M) := Lib.hid (by
          have h1 := rowAdds_len rs cols row hc5 hrowl
          rw [HMM.out] at h1
          have h2 := hacl.out
          rw [List.length_append, Nat.add_mul]; omega)
        have HROW := Lib.hid hou
        rw [hrowl] at HROW
        clear hou hir hnww hci
        have HCl := Lib.hid cl
        clear cl
        cases hle : leRow row cols
        · have HA : Hid (rowAdds rs cols row = []) := Lib.hid (by unfold rowAdds; rw [if_neg (by rw [hle]; simp)])
          go_wp2_with fail
          refine HCl.out.mono ?_
          rintro e w3 ⟨he3, k1, _⟩
          obtain ⟨v3, rfl⟩ := k1 hle
          have HE3 := Lib.hid he3
          clear k1 he3
          go_wp2
          go_roundw
          case rel => exact ⟨j + 1, acc ++ rowAdds rs cols row, by omega, by go_num, HANl, HAN, Lib.hid (by rw [HA.out, List.append_nil]; exact hv.out.ext HE3.out), Lib.hid (Below.trans hbw.out (Below.mono HE3.out hBr.out)), Lib.hid (hnw.out.trans (NonOut.ext HE3.out)), Lib.hid (Nat.le_trans hBr.out HE3.out.size)⟩
          case measure => simp [intOf]; omega
        · obtain ⟨left, hleft⟩ : ∃ left, subRow cols row = left := ⟨_, rfl⟩
          have hll : left.length = cols.length := by rw [← hleft]; exact subRow_length _ _ hrowl
          have HLM := Lib.hid (subRow_mem hrow01 hle hrowl (fun x hx => (HCS.out x hx).2))
          rw [hleft] at HLM
          have HLL := Lib.hid hll
          have HLEFT := Lib.hid hleft
          by_cases hrs : rs = []
          · have hN1' : N = 1 := by have := HNR.out; rw [hrs] at this; simpa using this.symm
            subst hN1'
            obtain ⟨t, ht⟩ : ∃ t, left.sum = t := ⟨_, rfl⟩
            have HTT := Lib.hid ht
            have hta : rowAdds rs cols row = if t = 0 then [[row]] else [] := by
              unfold rowAdds
              rw [hrs, hleft, ht, hle]
              simp [specAll]
            have HTA := Lib.hid hta
            have HRS0 := Lib.hid hrs
            clear hta ht hleft hll hrs
            by_cases ht0 : t = 0
            · subst ht0
              have HA : Hid (rowAdds rs cols row = (specAll exI rs left).map (row :: ·)) := Lib.hid (by rw [HTA.out, HRS0.out]; simp [specAll])
              go_wp2_with fail
              refine HCl.out.mono ?_
              rintro e w3 ⟨he3, _, k1⟩
              obtain ⟨v3, rfl, ho3⟩ := k1 hle
              obtain ⟨A3, c3, rfl, _, hi3⟩ := ho3.slice
              rw [HLEFT.out] at hi3 ho3
              have ct := l03Total_any A3 c3 left w3 (by have := HLL.out; omega) (fun x hx => by have := HLM.out x hx; omega) hi3
              rw [HTT.out, HLL.out] at ct
              have hsl : (subRow cols row).length = cols.length := by rw [HLEFT.out]; exact HLL.out
              rw [hsl]
              have HE3 := Lib.hid he3
              have HT3 := Lib.hid ho3.typed
              have HROW3 : Hid (Own w3 w.heap.size (.slice Ar2 cols.length cr2) row) := Lib.hid (HROW.out.ext HE3.out)
              have HTL : Hid (rs.length = 0) := Lib.hid (by rw [HRS0.out]; rfl)
              have hdl6 : done.length ≤ 1000000 := by omega
              clear k1 he3 ho3 hi3 hsl
              have HCP : Hid (∀ W, Ext w3 W → Calls Try.prog 79 #[.slice Ad done.length cd] W fun e w' => ∃ A c, e = .returned (.slice A done.length c) ∧ OwnGrid w' 0 (.slice A done.length c) done ∧ Ext w3 w' ∧ Ext W w' ∧ (∀ k, (Value.slice A done.length c).ownBlock = some k → w3.heap.size ≤ k) ∧ (∀ W', Ext w' W' → ∀ p, RowVal W' (.slice A done.length c) p → p.ownBlock = none ∨ p.ownBlock ≠ (Value.slice Ar2 cols.length cr2).ownBlock)) := Lib.hid (fun W hW =>
                (l02Copy_some Ad cd done W (by omega) (fun r hr => ⟨(HDR.out r hr).1, by have := (HDR.out r hr).2; omega⟩) (((HD.out.non HNW.out).ext (HE3.out.trans hW)).gridAt)).mono fun e w' ⟨v', hv', ho', he'⟩ => by
                  obtain ⟨A', c', rfl, _⟩ := ho'.slice
                  refine ⟨A', c', hv', ho'.base (Nat.zero_le _), hW.trans he', he', fun k hk => Nat.le_trans hW.size (ho'.lt hk).1, fun W' hW' p hp => ?_⟩
                  cases hb : p.ownBlock with
                  | none => exact .inl rfl
                  | some k =>
                    right
                    intro heq
                    have l1 := ((ho'.ext hW').rowVal_lt hp hb).1
                    have l2 := (HROW3.out.lt heq.symm).2
                    have l3 := hW.size
                    omega)
              have HRC : Hid (∀ W b5 c5, Ext w3 W → OwnGrid W 0 (.slice (some ⟨b5, 0, none⟩) (done.length + 1) c5) (done ++ [row]) → Calls Try.prog 60 #[u0, .slice (some ⟨b5, 0, none⟩) (done.length + 1) c5, .slice (if cr = 1 then some ⟨b, o, none⟩ else some ⟨b, o + 1, none⟩) 0 (cr - 1), .slice A3 cols.length c3] W fun e w' => ∃ v', e = .returned v' ∧ OwnGrids w' B v' (gs ++ (acc ++ rowAdds rs cols row).map (done ++ ·)) ∧ Below B w w' ∧ NonOut w2 w' ∧ B ≤ w'.heap.size) := Lib.hid (fun W b5 c5 hW ho5 => by
                have hc := HIH.out left (gs ++ acc.map (done ++ ·)) (done ++ [row]) u0 (.slice (some ⟨b5, 0, none⟩) (done.length + 1) c5) W B 0 (if cr = 1 then some ⟨b, o, none⟩ else some ⟨b, o + 1, none⟩) A3 (cr - 1) c3 (by have := HNR.out; omega) (by rw [HLL.out]; exact hc1) (by rw [HLL.out]; exact hc5) HLM.out HRS.out
                  (by have h1 := hacl.out; have h2 := HMM.out; rw [List.length_append, List.length_map, h2]
                      have h3 : j * M + M ≤ 32 * M := by rw [← Nat.succ_mul]; exact Nat.mul_le_mul_right _ (by omega)
                      omega)
                  (by have := HNR.out; rw [List.length_append, List.length_singleton]; omega) (fun r hr => by
                    rcases List.mem_append.1 hr with h | h
                    · exact HDR.out r h
                    · have e : r = row := by simpa using h
                      rw [e, hrowl]; omega) ((hv.out.ext HE3.out).ext hW) (Nat.le_trans hBr.out (Nat.le_trans HE3.out.size hW.size)) ho5 (((HT.out.non HNW.out).ext HE3.out).ext hW) (by have := HNR.out; omega) (HT3.out.ext hW)
                rw [HLL.out, HTL.out] at hc
                refine hc.mono fun e w' ⟨v', hv', hq1, hq2, hq3⟩ => ⟨v', hv', ?_, ?_, ?_, ?_⟩
                · rw [HA.out]
                  have : gs ++ (acc ++ (specAll exI rs left).map (row :: ·)).map (done ++ ·) = gs ++ acc.map (done ++ ·) ++ (specAll exI rs left).map (done ++ [row] ++ ·) := by
                    rw [List.map_append, List.append_assoc, List.map_map]
                    congr 2
                    apply List.map_congr_left
                    intro x _
                    simp
                  rw [this]; exact hq1
                · exact Below.trans hbw.out (Below.trans (Below.mono (HE3.out.trans hW) hBr.out) hq2)
                · exact (hnw.out.trans (NonOut.ext (HE3.out.trans hW))).trans hq3
                · exact Nat.le_trans hBr.out (Nat.le_trans (HE3.out.trans hW).size hq2.size))
              go_wp2_with fail
              refine ct.mono ?_
              rintro e w' ⟨rfl, rfl⟩
              go_wp2_with fail
              go_region_held3 (fun _ => True) (trivial) (first | (go_at_call 79; refine (HCP.out _ (by first | exact (Ext.refl w3).drew | exact ((Ext.refl w3).drew).alloc _)).mono ?_; rintro e w4 ⟨A4, c4, rfl, ho4, he4, he4', hl4, hap4⟩; dsimp only) | (go_at_call 60; refine (HRC.out w5 b5 c5 HX ho5).mono ?_; rintro e w6 ⟨v6, rfl, hq1, hq2, hq3, hq4⟩; dsimp only) | ((with_reducible change (@ite _ _ _ (Oper.wp _ _ _ (World.alloc w4 _) _ _) _)); refine app_row_old_step (ho4.ext ((Ext.refl w4).alloc _)) (Nat.zero_le _) ((HROW3.out.ext (he4.alloc _)).base (Nat.zero_le _)) (hap4 _ ((Ext.refl w4).alloc _)) hdl6 (new_cell rfl) (by rfl) _ _ (by rfl) (by rfl) (by rfl) ?_; intro b5 c5 w5 ho5 hg5; have HX : Ext w3 w5 := Below.grown (he4.alloc _) hg5 (Nat.le_trans he4.size (by simp)) hl4) | ((with_reducible change (@ite _ _ _ (Oper.wp _ _ _ w4 _ _) _)); refine app_row_old_step ho4 (Nat.zero_le _) ((HROW3.out.ext he4).base (Nat.zero_le _)) (hap4 _ (Ext.refl w4)) hdl6 ((he4'.cell (by simp)).trans (new_cell rfl)) (by rfl) _ _ (by rfl) (by rfl) (by rfl) ?_; intro b5 c5 w5 ho5 hg5; have HX : Ext w3 w5 := Below.grown he4 hg5 he4.size hl4))
              all_goals
                have QQ := Lib.hid (And.intro hq1 (And.intro hq2 (And.intro hq3 hq4)))
                clear hq1 hq2 hq3 hq4
                go_wp2
                all_goals exact ⟨⟨_, _, _, _, _, ⟨j + 1, by omega, by go_num, acc ++ rowAdds rs cols row, HANl, HAN, Lib.hid QQ.out.1, Lib.hid QQ.out.2.1, Lib.hid QQ.out.2.2.1, Lib.hid QQ.out.2.2.2⟩, rfl, rfl, rfl, rfl, rfl⟩, by simp [intOf]; omega⟩
            · have b1 : (t == 0) = false := by simpa using ht0
              have HA : Hid (rowAdds rs cols row = []) := Lib.hid (by rw [HTA.out, if_neg ht0])
              clear ht0
              go_wp2_with fail
              refine HCl.out.mono ?_
              rintro e w3 ⟨he3, _, k1⟩
              obtain ⟨v3, rfl, ho3⟩ := k1 hle
              obtain ⟨A3, c3, rfl, _, hi3⟩ := ho3.slice
              rw [HLEFT.out] at hi3 ho3
              have ct := l03Total_any A3 c3 left w3 (by have := HLL.out; omega) (fun x hx => by have := HLM.out x hx; omega) hi3
              rw [HTT.out, HLL.out] at ct
              have hsl : (subRow cols row).length = cols.length := by rw [HLEFT.out]; exact HLL.out
              rw [hsl]
              have HE3 := Lib.hid he3
              clear k1 he3 ho3 hi3 hsl
              go_wp2_with fail
              refine ct.mono ?_
              rintro e w' ⟨rfl, rfl⟩
              go_wp2
              go_roundw
              case rel =>
                repeat apply Exists.intro
                exact ⟨⟨j + 1, acc ++ rowAdds rs cols row, by omega, by go_num, HANl, HAN, Lib.hid (by rw [HA.out, List.append_nil]; exact hv.out.ext HE3.out), Lib.hid (Below.trans hbw.out (Below.mono HE3.out hBr.out)), Lib.hid (hnw.out.trans (NonOut.ext HE3.out)), Lib.hid (Nat.le_trans hBr.out HE3.out.size)⟩, rfl⟩
              case measure => simp [intOf]; omega
          · have hN2 : 2 ≤ N := by
              have h1 := HNR.out
              have h2 : rs.length ≠ 0 := fun h => hrs (List.length_eq_zero_iff.1 h)
              omega
            have hcr1 : ¬ cr = 1 := by omega
            have HTB : Hid (Typed w (some ⟨b, o + 1, none⟩) rs) := Lib.hid (by have := HT.out; rw [if_neg hcr1] at this; exact this)
            have b1 : ((N : Int) == 1) = false := by simp; omega
            have HTL : Hid (rs.length = N - 1) := Lib.hid (by have := HNR.out; omega)
            have HADD : Hid (rowAdds rs cols row = if exI rs left = true then (specAll exI rs left).map (row :: ·) else []) := Lib.hid (by
              unfold rowAdds
              rw [hleft, hle, if_neg hrs]
              simp)
            clear hrs hleft hll
            have g1 : (1 : Int) ≤ (N : Int) := by omega
            have g2 : (N : Int) ≤ (cr : Int) := by omega
            cases hex : exI rs left
            · have HA : Hid (rowAdds rs cols row = []) := Lib.hid (by rw [HADD.out, hex]; rfl)
              go_wp2_with fail
              refine HCl.out.mono ?_
              rintro e w3 ⟨he3, _, k1⟩
              obtain ⟨v3, rfl, ho3⟩ := k1 hle
              obtain ⟨A3, c3, rfl, _, hi3⟩ := ho3.slice
              rw [HLEFT.out] at hi3 ho3
              have HTW := Lib.hid (((HTB.out.non HNW.out).ext he3).1)
              have ce := Exists_any (some ⟨b, o + 1, none⟩) A3 (cr - 1) c3 rs left w3 (by have := HTL.out; omega) (by have := HLL.out; omega) HTW.out hi3
              rw [HTL.out, HLL.out, hex] at ce
              have hsl : (subRow cols row).length = cols.length := by rw [HLEFT.out]; exact HLL.out
              rw [hsl]
              have HE3 := Lib.hid he3
              clear k1 he3 ho3 hi3 hsl
              go_wp2_with fail
              refine ce.mono ?_
              rintro e w4 ⟨rfl, he4⟩
              have HE4 := Lib.hid (HE3.out.trans he4)
              clear he4 ce
              go_wp2
              go_roundw
              case rel => exact ⟨j + 1, acc ++ rowAdds rs cols row, by omega, by go_num, HANl, HAN, Lib.hid (by rw [HA.out, List.append_nil]; exact hv.out.ext HE4.out), Lib.hid (Below.trans hbw.out (Below.mono HE4.out hBr.out)), Lib.hid (hnw.out.trans (NonOut.ext HE4.out)), Lib.hid (Nat.le_trans hBr.out HE4.out.size)⟩
              case measure => simp [intOf]; omega
            · have HA : Hid (rowAdds rs cols row = (specAll exI rs left).map (row :: ·)) := Lib.hid (by rw [HADD.out, hex]; rfl)
              go_wp2_with fail
              refine HCl.out.mono ?_
              rintro e w3a ⟨he3, _, k1⟩
              obtain ⟨v3, rfl, ho3⟩ := k1 hle
              obtain ⟨A3, c3, rfl, _, hi3⟩ := ho3.slice
              rw [HLEFT.out] at hi3 ho3
              have HTW := Lib.hid (((HTB.out.non HNW.out).ext he3).1)
              have ce := Exists_any (some ⟨b, o + 1, none⟩) A3 (cr - 1) c3 rs left w3a (by have := HTL.out; omega) (by have := HLL.out; omega) HTW.out hi3
              rw [HTL.out, HLL.out, hex] at ce
              have hsl : (subRow cols row).length = cols.length := by rw [HLEFT.out]; exact HLL.out
              rw [hsl]
              have HE3a := Lib.hid he3
              have HT3a := Lib.hid ho3.typed
              clear k1 he3 ho3 hi3 hsl
              go_wp2_with fail
              refine ce.mono ?_
              rintro e w3 ⟨rfl, he4⟩
              have HE3 := Lib.hid (HE3a.out.trans he4)
              have HT3 := Lib.hid (HT3a.out.ext he4)
              have HROW3 : Hid (Own w3 w.heap.size (.slice Ar2 cols.length cr2) row) := Lib.hid (HROW.out.ext HE3.out)
              have hdl6 : done.length ≤ 1000000 := by omega
              clear he4 ce
              have HCP : Hid (∀ W, Ext w3 W → Calls Try.prog 79 #[.slice Ad done.length cd] W fun e w' => ∃ A c, e = .returned (.slice A done.length c) ∧ OwnGrid w' 0 (.slice A done.length c) done ∧ Ext w3 w' ∧ Ext W w' ∧ (∀ k, (Value.slice A done.length c).ownBlock = some k → w3.heap.size ≤ k) ∧ (∀ W', Ext w' W' → ∀ p, RowVal W' (.slice A done.length c) p → p.ownBlock = none ∨ p.ownBlock ≠ (Value.slice Ar2 cols.length cr2).ownBlock)) := Lib.hid (fun W hW =>
                (l02Copy_some Ad cd done W (by omega) (fun r hr => ⟨(HDR.out r hr).1, by have := (HDR.out r hr).2; omega⟩) (((HD.out.non HNW.out).ext (HE3.out.trans hW)).gridAt)).mono fun e w' ⟨v', hv', ho', he'⟩ => by
                  obtain ⟨A', c', rfl, _⟩ := ho'.slice
                  refine ⟨A', c', hv', ho'.base (Nat.zero_le _), hW.trans he', he', fun k hk => Nat.le_trans hW.size (ho'.lt hk).1, fun W' hW' p hp => ?_⟩
                  cases hb : p.ownBlock with
                  | none => exact .inl rfl
                  | some k =>
                    right
                    intro heq
                    have l1 := ((ho'.ext hW').rowVal_lt hp hb).1
                    have l2 := (HROW3.out.lt heq.symm).2
                    have l3 := hW.size
                    omega)
              have HRC : Hid (∀ W b5 c5, Ext w3 W → OwnGrid W 0 (.slice (some ⟨b5, 0, none⟩) (done.length + 1) c5) (done ++ [row]) → Calls Try.prog 60 #[u0, .slice (some ⟨b5, 0, none⟩) (done.length + 1) c5, .slice (some ⟨b, o + 1, none⟩) (N - 1) (cr - 1), .slice A3 cols.length c3] W fun e w' => ∃ v', e = .returned v' ∧ OwnGrids w' B v' (gs ++ (acc ++ rowAdds rs cols row).map (done ++ ·)) ∧ Below B w w' ∧ NonOut w2 w' ∧ B ≤ w'.heap.size) := Lib.hid (fun W b5 c5 hW ho5 => by
                have hc := HIH.out left (gs ++ acc.map (done ++ ·)) (done ++ [row]) u0 (.slice (some ⟨b5, 0, none⟩) (done.length + 1) c5) W B 0 (some ⟨b, o + 1, none⟩) A3 (cr - 1) c3 (by have := HNR.out; omega) (by rw [HLL.out]; exact hc1) (by rw [HLL.out]; exact hc5) HLM.out HRS.out
                  (by have h1 := hacl.out; have h2 := HMM.out; rw [List.length_append, List.length_map, h2]
                      have h3 : j * M + M ≤ 32 * M := by rw [← Nat.succ_mul]; exact Nat.mul_le_mul_right _ (by omega)
                      omega)
                  (by have := HNR.out; rw [List.length_append, List.length_singleton]; omega) (fun r hr => by
                    rcases List.mem_append.1 hr with h | h
                    · exact HDR.out r h
                    · have e : r = row := by simpa using h
                      rw [e, hrowl]; omega) ((hv.out.ext HE3.out).ext hW) (Nat.le_trans hBr.out (Nat.le_trans HE3.out.size hW.size)) ho5 (((HTB.out.non HNW.out).ext HE3.out).ext hW) (by have := HNR.out; omega) (HT3.out.ext hW)
                rw [HLL.out, HTL.out] at hc
                refine hc.mono fun e w' ⟨v', hv', hq1, hq2, hq3⟩ => ⟨v', hv', ?_, ?_, ?_, ?_⟩
                · rw [HA.out]
                  have : gs ++ (acc ++ (specAll exI rs left).map (row :: ·)).map (done ++ ·) = gs ++ acc.map (done ++ ·) ++ (specAll exI rs left).map (done ++ [row] ++ ·) := by
                    rw [List.map_append, List.append_assoc, List.map_map]
                    congr 2
                    apply List.map_congr_left
                    intro x _
                    simp
                  rw [this]; exact hq1
                · exact Below.trans hbw.out (Below.trans (Below.mono (HE3.out.trans hW) hBr.out) hq2)
                · exact (hnw.out.trans (NonOut.ext (HE3.out.trans hW))).trans hq3
                · exact Nat.le_trans hBr.out (Nat.le_trans (HE3.out.trans hW).size hq2.size))
              go_wp2_with fail
              go_region_held3 (fun _ => True) (trivial) (first | (go_at_call 79; refine (HCP.out _ (by first | exact (Ext.refl w3).drew | exact ((Ext.refl w3).drew).alloc _)).mono ?_; rintro e w4 ⟨A4, c4, rfl, ho4, he4, he4', hl4, hap4⟩; dsimp only) | (go_at_call 60; refine (HRC.out w5 b5 c5 HX ho5).mono ?_; rintro e w6 ⟨v6, rfl, hq1, hq2, hq3, hq4⟩; dsimp only) | ((with_reducible change (@ite _ _ _ (Oper.wp _ _ _ (World.alloc w4 _) _ _) _)); refine app_row_old_step (ho4.ext ((Ext.refl w4).alloc _)) (Nat.zero_le _) ((HROW3.out.ext (he4.alloc _)).base (Nat.zero_le _)) (hap4 _ ((Ext.refl w4).alloc _)) hdl6 (new_cell rfl) (by rfl) _ _ (by rfl) (by rfl) (by rfl) ?_; intro b5 c5 w5 ho5 hg5; have HX : Ext w3 w5 := Below.grown (he4.alloc _) hg5 (Nat.le_trans he4.size (by simp)) hl4) | ((with_reducible change (@ite _ _ _ (Oper.wp _ _ _ w4 _ _) _)); refine app_row_old_step ho4 (Nat.zero_le _) ((HROW3.out.ext he4).base (Nat.zero_le _)) (hap4 _ (Ext.refl w4)) hdl6 ((he4'.cell (by simp)).trans (new_cell rfl)) (by rfl) _ _ (by rfl) (by rfl) (by rfl) ?_; intro b5 c5 w5 ho5 hg5; have HX : Ext w3 w5 := Below.grown he4 hg5 he4.size hl4))
              all_goals
                have QQ := Lib.hid (And.intro hq1 (And.intro hq2 (And.intro hq3 hq4)))
                clear hq1 hq2 hq3 hq4
                go_wp2
                go_roundw
                case rel => exact ⟨j + 1, acc ++ rowAdds rs cols row, by omega, by go_num, HANl, HAN, Lib.hid QQ.out.1, Lib.hid QQ.out.2.1, Lib.hid QQ.out.2.2.1, Lib.hid QQ.out.2.2.2⟩
                case measure => simp [intOf]; omega
      · obtain rfl : j = L.length := by omega
        have HF : Hid (acc = specAll exI (r' :: rs) cols) := Lib.hid (by have := hacc.out; rw [take_full] at this; rw [this, specAll_cons, HL.out])
        go_wp2
        go_ret
        exact ⟨_, rfl, by rw [← HF.out]; exact hv.out, hbw.out, (NonOut.ext HE2.out).trans hnw.out⟩
end Go.Proofs.Ytlhjbpachpjpkaa

namespace Go.Proofs.Ytlhjbpachpjpkaa
open Go.RowKit Tomo

theorem bits_sum : ∀ (r : List Int), (∀ x ∈ r, x = 0 ∨ x = 1) → 0 ≤ r.sum ∧ r.sum ≤ r.length
  | [], _ => by simp
  | x :: r, h => by
    have h1 := bits_sum r (fun y hy => h y (List.mem_cons_of_mem _ hy))
    have h2 := h x List.mem_cons_self
    rw [List.sum_cons, List.length_cons]; omega
theorem imgs_sumsOk {rows cols : List Int} (h : imgs rows cols ≠ []) (hr1 : 1 ≤ rows.length) (hr5 : rows.length ≤ 5) (hc1 : 1 ≤ cols.length) (hc5 : cols.length ≤ 5) : sumsOk rows cols = true := by
  obtain ⟨m, hm⟩ := List.exists_mem_of_ne_nil _ h
  obtain ⟨h1, h2, h3⟩ := (mem_imgs _ _ _).1 hm
  have hl : m.length = rows.length := by rw [← h2]; simp
  have e1 : allIn rows 0 cols.length = true := allIn_of fun x hx => by
    rw [← h2] at hx
    obtain ⟨r, hr, rfl⟩ := List.mem_map.1 hx
    have h4 := bits_sum r (h1 r hr).2
    rw [(h1 r hr).1] at h4
    exact inR_iff.2 h4
  have e2 : allIn cols 0 rows.length = true := allIn_of fun x hx => by
    rw [← h3] at hx
    have h4 := colSum_nonneg _ m (fun r hr x hx => by rcases (h1 r hr).2 x hx with e | e <;> omega) x hx
    have h5 := colSum_le _ m (fun r hr => (h1 r hr).2) x hx
    rw [hl] at h5
    exact inR_iff.2 ⟨h4, h5⟩
  have e3 : rows.sum = cols.sum := by
    have := colSum_sum cols.length m (fun r hr => (h1 r hr).1)
    rw [h3, h2] at this
    exact this.symm
  unfold sumsOk
  rw [inR_iff.2 (by omega), inR_iff.2 (by omega), e1, e2, e3]; simp
end Go.Proofs.Ytlhjbpachpjpkaa

namespace Go.Proofs.Ytlhjbpachpjpkaa
open Go.RowKit Tomo

def allI (rows cols : List Int) : List (List (List Int)) := if sumsOk rows cols = true then imgs rows cols else []
theorem specAll_imgs {rows cols : List Int} (h : sumsOk rows cols = true) : specAll exI rows cols = imgs rows cols := by
  obtain ⟨hr1, hr5, hc1, hc5, _⟩ := sumsOk_parts h
  refine specAll_eq_of exI 5 cols.length (fun rs cs hrs hl hc hi => ?_) rows cols (fun e => by rw [e] at hr1; simp at hr1) hr5 rfl
  have h1 : 1 ≤ rs.length := by
    cases rs with
    | nil => exact absurd rfl hrs
    | cons _ _ => simp
  unfold exI
  rw [imgs_sumsOk hi h1 hl (by omega) (by omega)]
  simpa using hi

end Go.Proofs.Ytlhjbpachpjpkaa
