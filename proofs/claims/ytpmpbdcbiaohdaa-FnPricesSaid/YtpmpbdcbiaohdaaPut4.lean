/- The program's search for images: the walk at a row's end. -/
import Derived.Test.YtpmpbdcbiaohdaaPut3
namespace Go.Proofs.Ytpmpbdcbiaohdaa
open Go.RowKit Tomo

theorem PutSt.po5 {c : Cx} {rows : List Int} {w w4 w5 : World} {gs : List Grid} {m : Grid} {left : List Int} {v : Value} (h : PutSt c rows w gs m left) (hv : w.heap[c.Po]? = some (.cells #[v] 50 (0, 0))) (hg : OwnGrids w c.Bo v gs) (e4 : Ext w w4) (g5 : w4.grownBy w5 v.ownBlock) :
    w5.cell? ⟨c.Po, 0, none⟩ = some v ∧ w5.frozen? ⟨c.Po, 0, none⟩ = false := by
  have l5 := h.lt.2.2.2.2.1
  have z4 := h.sz.2.2.2
  have hk : w5.heap[c.Po]? = some (.cells #[v] 50 (0, 0)) := by
    refine ((g5.block c.Po (by have := e4.size; omega) (fun e => ?_)).trans (e4.block c.Po (by omega))).trans hv
    obtain ⟨us, h1, h2, _⟩ := hg
    have := (World.ownsRow.lt h2 c.Po e.symm).1
    omega
  exact ⟨cell_of_one hk, by simp [World.frozen?, hk]⟩

set_option maxHeartbeats 4000000 in
theorem put_end0 (c : Cx) (rows : List Int) (hn5 : c.n ≤ 5) (hk1 : 1 ≤ c.k) (hk5 : c.k ≤ 5) : PutOk c rows [] [] := by
  intro done0 pre0 cur0 need0 y x gs w hdrop0 hyR0 hy hx hcl hkx0 n01 n02 hall0 hbnd0 hdone0 S0
  obtain ⟨Y0, hDY0⟩ : ∃ Y, done0.length = Y := ⟨_, rfl⟩
  simp only [List.length_nil, Nat.add_zero, Nat.zero_add] at hkx0 hbnd0 S0 ⊢
  rw [hDY0] at hdrop0 hyR0 hy
  rw [hkx0] at hx
  subst hy hx
  have cc0 := cell_of_one S0.hc
  by_cases hn0 : 0 < need0
  case pos =>
    have HS0 := Lib.hid S0
    clear S0
    go_enter Try.func36, Try.ntmps36
    go_wp2_with fail
    refine bodyPost_ret (v := .tuple #[]) (by simp [results, Try.results36, go_sem]) rfl ?_
    refine ⟨rfl, ?_, Below.refl _ _⟩
    rw [putRow_nil, if_pos hn0, List.append_nil]
    exact HS0.out
  obtain rfl : need0 = 0 := by omega
  clear hn0
  rw [List.append_nil] at S0 ⊢
  rw [mOf_last] at S0 ⊢
  have HRES : Hid (putRow (contK [] done0) 0 pre0 [] 0 cur0 = [done0 ++ [cur0]]) := Lib.hid rfl
  have hlen : (done0 ++ [cur0]).length = c.n := by rw [List.length_append, List.length_singleton, hDY0]; simpa using hyR0
  have hrl : ∀ r ∈ done0 ++ [cur0], r.length = c.k := fun r hr => by
    rcases List.mem_append.1 hr with h | h
    · exact hdone0 r h
    · have e : r = cur0 := by simpa using h
      rw [e, hcl]; exact hkx0
  obtain ⟨v, hv, hg⟩ := S0.ho
  have hPo := S0.lt.2.2.2.2.1
  have hsz := S0.sz
  have HCP : Hid (∀ W, Ext w W → Calls Try.prog 37 #[.slice (some ⟨c.mb, 0, none⟩) c.n c.mc] W fun e w' => ∃ b cap, e = .returned (.slice (some ⟨b, 0, none⟩) c.n cap) ∧ OwnGrid w' w.heap.size (.slice (some ⟨b, 0, none⟩) c.n cap) (done0 ++ [cur0]) ∧ Ext w w' ∧ w'.cell? ⟨c.Po, 0, none⟩ = some v ∧ (c.Po < w'.heap.size ∧ c.Po ≠ w'.heap.size)) := Lib.hid (fun W hW => by
    have h := copyGrid_any (some ⟨c.mb, 0, none⟩) c.mc (done0 ++ [cur0]) W (by rw [hlen]; omega) (by rw [hlen]; simp only [List.length_nil] at hyR0; omega) (fun r hr => by have := hrl r hr; omega) (S0.gm.ext hW).gridAt
    rw [hlen] at h
    refine h.mono fun e w' ⟨b, cap, h1, h2, h3⟩ => ⟨b, cap, h1, h2.base hW.size, hW.trans h3, ?_, by have h4 := (hW.trans h3).size; omega⟩
    exact ((hW.trans h3).cell (p := ⟨c.Po, 0, none⟩) (by show c.Po < _; omega)).trans (cell_of_one hv))
  have HAP : Hid (∀ (w4 w5 : World) (v5 : Value) (gs' : List Grid), Ext w w4 → OwnGrids w5 c.Bo v5 gs' → NonOut w4 w5 → w4.grownBy w5 v.ownBlock → (w5.cell? ⟨c.Po, 0, none⟩ = some v ∧ w5.frozen? ⟨c.Po, 0, none⟩ = false) ∧ Hid (PutSt c rows (w5.setCell ⟨c.Po, 0, none⟩ v5) gs' (done0 ++ [cur0]) pre0 ∧ Below c.Bz w (w5.setCell ⟨c.Po, 0, none⟩ v5))) :=
    Lib.hid (fun w4 w5 v5 gs' e4 o5 n5 g5 => ⟨S0.po5 hv hg e4 g5, Lib.hid (S0.app hv hg e4 o5 n5 g5)⟩)
  have cr0 := cell_of_one S0.hr
  have cm0 := cell_of_one S0.hm
  have co0 := cell_of_one hv
  have HOG := Lib.hid hg
  have hBo := hsz.2.2.2
  have hgl : gs.length ≤ 1000000000 := Nat.le_trans (Nat.le_add_right _ _) hbnd0
  have b2 : (((Y0 : Int) + 1) == (c.n : Int)) = true := by simp only [List.length_nil] at hyR0; simp; omega
  have hY : Y0 + 1 ≤ c.n := by simp only [List.length_nil] at hyR0; omega
  clear S0 hv hg hsz hPo hall0 hdone0 hdrop0 hbnd0 hyR0 hcl hkx0 hDY0 hlen hrl
  go_enter Try.func36, Try.ntmps36
  go_wp2_with fail
  refine wp_region_any (by kernel_rfl) ?_
  change wpAny _ _ _ _ _ _ _ (World.drew _)
  refine wpAny_ready (rs := [0, 1]) (by kernel_rfl) (by simp) ?_
  refine AllReady.cons rfl (fun K hK => ?_) ?_
  · go_simp
    refine hK _ _ ?_
    clear hK K
    refine wpAny_ready (rs := [1]) (by kernel_rfl) (by simp) ?_
    refine AllReady.cons rfl (fun K hK => ?_) ?_
    · go_simp
      refine hK _ _ ?_
      clear hK K
      refine wpAny_ready (rs := [2]) (by kernel_rfl) (by simp) ?_
      refine AllReady.cons rfl (fun K hK => ?_) ?_
      · go_simp
        go_wp2_with (go_at_call 37; refine (HCP.out _ (Ext.refl w).drew).mono ?_; rintro e w4 ⟨b4, c4, rfl, ho4, he4, hc4, hp4, hp5⟩)
        refine wpAny_ready (rs := [3]) (by kernel_rfl) (by simp) ?_
        refine AllReady.cons rfl (fun K hK => ?_) ?_
        · go_simp
          refine hK _ _ ?_
          clear hK K
          refine wpAny_ready (rs := [4]) (by kernel_rfl) (by simp) ?_
          refine AllReady.cons rfl (fun K hK => ?_) ?_
          · refine app_grid_step HOG.out (he4.alloc _) hBo (ho4.ext ((Ext.refl w4).alloc _)) hgl (new_cell rfl) (by rfl) _ _ (by rfl) (by rfl) (by rfl) ?_
            intro b5 c5 w5 ho5 hn5 hg5
            obtain ⟨⟨hc5, hf5⟩, HF5⟩ := HAP.out _ _ _ _ (he4.alloc _) ho5 hn5 hg5
            clear ho5 hn5 hg5 ho4 he4
            refine hK _ _ ?_
            clear hK K
            refine wpAny_ready (rs := [5]) (by kernel_rfl) (by simp) ?_
            refine AllReady.cons rfl (fun K hK => ?_) ?_
            · go_simp
              refine hK _ _ ?_
              clear hK K
              refine wpAny_done (by kernel_rfl) ?_ _
              go_wp2_with fail
              refine bodyPost_ret (v := .tuple #[]) (by simp [results, Try.results36, go_sem]) rfl ?_
              exact ⟨rfl, by rw [HRES.out]; exact HF5.out.1, HF5.out.2⟩
            exact AllReady.nil
          exact AllReady.nil
        exact AllReady.nil
      exact AllReady.nil
    exact AllReady.nil
  refine AllReady.cons rfl (fun K hK => ?_) ?_
  · go_simp
    refine hK _ _ ?_
    clear hK K
    refine wpAny_ready (rs := [0, 2]) (by kernel_rfl) (by simp) ?_
    refine AllReady.cons rfl (fun K hK => ?_) ?_
    · go_simp
      refine hK _ _ ?_
      clear hK K
      refine wpAny_ready (rs := [2]) (by kernel_rfl) (by simp) ?_
      refine AllReady.cons rfl (fun K hK => ?_) ?_
      · go_simp
        go_wp2_with (go_at_call 37; refine (HCP.out _ (Ext.refl w).drew).mono ?_; rintro e w4 ⟨b4, c4, rfl, ho4, he4, hc4, hp4, hp5⟩)
        refine wpAny_ready (rs := [3]) (by kernel_rfl) (by simp) ?_
        refine AllReady.cons rfl (fun K hK => ?_) ?_
        · go_simp
          refine hK _ _ ?_
          clear hK K
          refine wpAny_ready (rs := [4]) (by kernel_rfl) (by simp) ?_
          refine AllReady.cons rfl (fun K hK => ?_) ?_
          · refine app_grid_step HOG.out (he4.alloc _) hBo (ho4.ext ((Ext.refl w4).alloc _)) hgl (new_cell rfl) (by rfl) _ _ (by rfl) (by rfl) (by rfl) ?_
            intro b5 c5 w5 ho5 hn5 hg5
            obtain ⟨⟨hc5, hf5⟩, HF5⟩ := HAP.out _ _ _ _ (he4.alloc _) ho5 hn5 hg5
            clear ho5 hn5 hg5 ho4 he4
            refine hK _ _ ?_
            clear hK K
            refine wpAny_ready (rs := [5]) (by kernel_rfl) (by simp) ?_
            refine AllReady.cons rfl (fun K hK => ?_) ?_
            · go_simp
              refine hK _ _ ?_
              clear hK K
              refine wpAny_done (by kernel_rfl) ?_ _
              go_wp2_with fail
              refine bodyPost_ret (v := .tuple #[]) (by simp [results, Try.results36, go_sem]) rfl ?_
              exact ⟨rfl, by rw [HRES.out]; exact HF5.out.1, HF5.out.2⟩
            exact AllReady.nil
          exact AllReady.nil
        exact AllReady.nil
      exact AllReady.nil
    refine AllReady.cons rfl (fun K hK => ?_) ?_
    · go_simp
      go_wp2_with (go_at_call 37; refine (HCP.out _ (Ext.refl w).drew).mono ?_; rintro e w4 ⟨b4, c4, rfl, ho4, he4, hc4, hp4, hp5⟩)
      refine wpAny_ready (rs := [0, 3]) (by kernel_rfl) (by simp) ?_
      refine AllReady.cons rfl (fun K hK => ?_) ?_
      · go_simp
        refine hK _ _ ?_
        clear hK K
        refine wpAny_ready (rs := [3]) (by kernel_rfl) (by simp) ?_
        refine AllReady.cons rfl (fun K hK => ?_) ?_
        · go_simp
          refine hK _ _ ?_
          clear hK K
          refine wpAny_ready (rs := [4]) (by kernel_rfl) (by simp) ?_
          refine AllReady.cons rfl (fun K hK => ?_) ?_
          · refine app_grid_step HOG.out (he4.alloc _) hBo (ho4.ext ((Ext.refl w4).alloc _)) hgl (new_cell rfl) (by rfl) _ _ (by rfl) (by rfl) (by rfl) ?_
            intro b5 c5 w5 ho5 hn5 hg5
            obtain ⟨⟨hc5, hf5⟩, HF5⟩ := HAP.out _ _ _ _ (he4.alloc _) ho5 hn5 hg5
            clear ho5 hn5 hg5 ho4 he4
            refine hK _ _ ?_
            clear hK K
            refine wpAny_ready (rs := [5]) (by kernel_rfl) (by simp) ?_
            refine AllReady.cons rfl (fun K hK => ?_) ?_
            · go_simp
              refine hK _ _ ?_
              clear hK K
              refine wpAny_done (by kernel_rfl) ?_ _
              go_wp2_with fail
              refine bodyPost_ret (v := .tuple #[]) (by simp [results, Try.results36, go_sem]) rfl ?_
              exact ⟨rfl, by rw [HRES.out]; exact HF5.out.1, HF5.out.2⟩
            exact AllReady.nil
          exact AllReady.nil
        exact AllReady.nil
      refine AllReady.cons rfl (fun K hK => ?_) ?_
      · go_simp
        refine hK _ _ ?_
        clear hK K
        refine wpAny_ready (rs := [0]) (by kernel_rfl) (by simp) ?_
        refine AllReady.cons rfl (fun K hK => ?_) ?_
        · go_simp
          refine hK _ _ ?_
          clear hK K
          refine wpAny_ready (rs := [4]) (by kernel_rfl) (by simp) ?_
          refine AllReady.cons rfl (fun K hK => ?_) ?_
          · refine app_grid_step HOG.out (he4.alloc _) hBo (ho4.ext ((Ext.refl w4).alloc _)) hgl (new_cell rfl) (by rfl) _ _ (by rfl) (by rfl) (by rfl) ?_
            intro b5 c5 w5 ho5 hn5 hg5
            obtain ⟨⟨hc5, hf5⟩, HF5⟩ := HAP.out _ _ _ _ (he4.alloc _) ho5 hn5 hg5
            clear ho5 hn5 hg5 ho4 he4
            refine hK _ _ ?_
            clear hK K
            refine wpAny_ready (rs := [5]) (by kernel_rfl) (by simp) ?_
            refine AllReady.cons rfl (fun K hK => ?_) ?_
            · go_simp
              refine hK _ _ ?_
              clear hK K
              refine wpAny_done (by kernel_rfl) ?_ _
              go_wp2_with fail
              refine bodyPost_ret (v := .tuple #[]) (by simp [results, Try.results36, go_sem]) rfl ?_
              exact ⟨rfl, by rw [HRES.out]; exact HF5.out.1, HF5.out.2⟩
            exact AllReady.nil
          exact AllReady.nil
        exact AllReady.nil
      exact AllReady.nil
    exact AllReady.nil
  exact AllReady.nil

set_option maxHeartbeats 4000000 in
theorem put_endS (c : Cx) (rows rs : List Int) (r : Int) (hn5 : c.n ≤ 5) (hk1 : 1 ≤ c.k) (hk5 : c.k ≤ 5) (hra : ∀ r ∈ rows, 0 ≤ r ∧ r ≤ 5) (hIHs : ∀ ls, PutOk c rows rs ls) : PutOk c rows (r :: rs) [] := by
  intro done0 pre0 cur0 need0 y x gs w hdrop0 hyR0 hy hx hcl hkx0 n01 n02 hall0 hbnd0 hdone0 S0
  obtain ⟨Y0, hDY0⟩ : ∃ Y, done0.length = Y := ⟨_, rfl⟩
  simp only [List.length_nil, Nat.add_zero, Nat.zero_add] at hkx0 hbnd0 S0 ⊢
  rw [hDY0] at hdrop0 hyR0 hy
  rw [hkx0] at hx
  subst hy hx
  have cc0 := cell_of_one S0.hc
  by_cases hn0 : 0 < need0
  case pos =>
    have HS0 := Lib.hid S0
    clear S0
    go_enter Try.func36, Try.ntmps36
    go_wp2_with fail
    refine bodyPost_ret (v := .tuple #[]) (by simp [results, Try.results36, go_sem]) rfl ?_
    refine ⟨rfl, ?_, Below.refl _ _⟩
    rw [putRow_nil, if_pos hn0, List.append_nil]
    exact HS0.out
  obtain rfl : need0 = 0 := by omega
  clear hn0
  rw [List.append_nil] at S0 ⊢
  cases pre0 with
  | nil => simp at hkx0; omega
  | cons l ls =>
  obtain ⟨u, hlu⟩ : ∃ u, ls.length = u := ⟨_, rfl⟩
  obtain ⟨R, hrR⟩ : ∃ R, rs.length = R := ⟨_, rfl⟩
  rw [List.length_cons, hrR] at hyR0 hbnd0 S0 ⊢
  rw [List.length_cons, hlu] at hkx0
  rw [mOf_next] at S0
  have hr0 : rows[Y0 + 1]? = some r := by
    have h := congrArg (fun l => l[0]?) hdrop0
    simpa using h
  obtain ⟨n1, n2⟩ := hra r (List.mem_of_getElem? hr0)
  obtain ⟨pre, hpre⟩ : ∃ p : Row, p = [] := ⟨_, rfl⟩
  obtain ⟨cur, hcur⟩ : ∃ p : Row, p = [] := ⟨_, rfl⟩
  obtain ⟨done, hdn⟩ : ∃ d : Grid, d = done0 ++ [cur0] := ⟨_, rfl⟩
  have hPX : pre.length = 0 := by rw [hpre]; rfl
  have hCX : cur.length = 0 := by rw [hcur]; rfl
  have hDY : done.length = Y0 + 1 := by rw [hdn, List.length_append, List.length_singleton, hDY0]
  have hkx : 0 + (u + 1) = c.k := by omega
  have hyR : Y0 + 1 + 1 + R = c.n := by omega
  have hdrop : rows.drop (done.length + 1) = rs := by rw [hDY, ← List.drop_drop, hdrop0]; rfl
  have hdone : ∀ r ∈ done, r.length = c.k := fun q hq => by
    rw [hdn] at hq
    rcases List.mem_append.1 hq with h | h
    · exact hdone0 q h
    · have e : q = cur0 := by simpa using h
      rw [e, hcl, List.length_cons, hlu]; exact hkx0
  have hall : ∀ v ∈ pre ++ l :: ls, 0 ≤ v ∧ v ≤ 5 := fun v hv => hall0 v (by rw [hpre] at hv; simpa using hv)
  have hIH := hIHs ls
  obtain ⟨need, hneed⟩ : ∃ n : Int, n = r := ⟨_, rfl⟩
  subst hneed
  have HGOAL : Hid (∀ w' Z, Z = (if need ≤ (u : Int) ∧ l ≤ (R : Int) then putRow (contK rs done) R (pre ++ [l]) ls need (cur ++ [0]) else []) ++ (if 0 < need ∧ 0 < l then putRow (contK rs done) R (pre ++ [l - 1]) ls (need - 1) (cur ++ [1]) else []) → PutSt c rows w' (gs ++ Z) (mOf c.k done cur (u + 1) R) (pre ++ l :: ls) → Below c.Bz w w' → PutSt c rows w' (gs ++ putRow (contK (need :: rs) done0) (R + 1) (l :: ls) [] 0 cur0) (mOf c.k done0 cur0 0 (R + 1)) (l :: ls) ∧ Below c.Bz w w') := Lib.hid (fun w' Z hZ h1 h2 => ⟨by
    have e1 : putRow (contK (need :: rs) done0) (R + 1) (l :: ls) [] 0 cur0 = Z := by
      rw [putRow_nil, if_neg (by omega)]
      show putAll rs (l :: ls) need (done0 ++ [cur0]) = Z
      rw [putAll_contK, putRow_cons, hlu, hrR, hZ, hpre, hcur, hdn]
    rw [e1, mOf_next]
    rw [hcur, hpre, hdn, show u + 1 = c.k by omega] at h1
    exact h1, h2⟩)
  have HBND : Hid (gs.length + 2 ^ (u + 1 + R * c.k) ≤ 1000000000) := Lib.hid (by rw [show u + 1 + R * c.k = (R + 1) * c.k by rw [Nat.add_mul, Nat.one_mul]; omega]; exact hbnd0)
  replace S0 : PutSt c rows w gs (mOf c.k done cur (u + 1) R) (pre ++ l :: ls) := by
    rw [hcur, hpre, hdn, show u + 1 = c.k by omega]
    exact S0
  obtain ⟨bA, oA, hAr, _, crow⟩ := S0.row _ _ hr0
  have HGL2 : Hid (∀ z, (pre ++ z :: ls)[0]? = some z) := Lib.hid fun z => left_at hPX
  have HSETL : Hid (∀ a z, (pre ++ a :: ls).set 0 z = pre ++ z :: ls) := Lib.hid fun a z => left_set hPX
  have HROW : Hid ((mOf c.k done cur (u + 1) R)[(Y0 + 1)]? = some (cur ++ List.replicate (u + 1) 0)) := Lib.hid (mOf_at hDY)
  have HXR : Hid (0 < (cur ++ List.replicate (u + 1) (0 : Int)).length) := Lib.hid (by rw [List.length_append, List.length_replicate, hCX]; omega)
  have HRL : Hid ((cur ++ List.replicate (u + 1) (0 : Int)).length = c.k) := Lib.hid (by rw [List.length_append, List.length_replicate, hCX]; exact hkx)
  have HSETM : Hid (∀ z, (mOf c.k done cur (u + 1) R).set (Y0 + 1) ((cur ++ List.replicate (u + 1) 0).set 0 z) = mOf c.k done (cur ++ [z]) u R) := Lib.hid fun z => mOf_set hDY hCX z
  have HROW2 : Hid (∀ z, (mOf c.k done (cur ++ [z]) u R)[(Y0 + 1)]? = some (cur ++ [z] ++ List.replicate u 0)) := Lib.hid fun z => mOf_at hDY
  have HXR2 : Hid (∀ z, 0 < (cur ++ [z] ++ List.replicate u (0 : Int)).length) := Lib.hid fun z => by rw [List.length_append, List.length_append, List.length_replicate, List.length_singleton, hCX]; omega
  have HRL2 : Hid (∀ z, (cur ++ [z] ++ List.replicate u (0 : Int)).length = c.k) := Lib.hid fun z => by rw [List.length_append, List.length_append, List.length_replicate, List.length_singleton, hCX]; omega
  have HRESET : Hid (∀ z, (mOf c.k done (cur ++ [z]) u R).set (Y0 + 1) ((cur ++ [z] ++ List.replicate u 0).set 0 0) = mOf c.k done cur (u + 1) R) := Lib.hid fun z => mOf_reset hDY hCX z
  have HZERO : Hid (mOf c.k done (cur ++ [0]) u R = mOf c.k done cur (u + 1) R) := Lib.hid (mOf_zero _ _ _ _ _)
  have HLA : Hid ((putRow (contK rs done) R (pre ++ [l]) ls need (cur ++ [0])).length ≤ 2 ^ (u + R * c.k)) := Lib.hid (by
    have h := putRow_contK_len rs done ls (pre ++ [l]) need (cur ++ [0]) c.k R (by rw [List.length_append, List.length_singleton, hPX]; omega)
    rw [hlu, hrR] at h; exact h)
  have HPOS : Hid (2 ^ (u + 1 + R * c.k) = 2 * 2 ^ (u + R * c.k)) := Lib.hid (by rw [show u + 1 + R * c.k = (u + R * c.k) + 1 by omega, Nat.pow_succ, Nat.mul_comm])
  have HIH : Hid (∀ (z b need y x : Int) (gs : List Grid) (W : World), y = (((Y0 + 1) : Nat) : Int) → x = ((0 : Nat) : Int) + 1 → 0 ≤ need → need ≤ 5 → 0 ≤ z → z ≤ 5 → gs.length + 2 ^ (u + R * c.k) ≤ 1000000000 → PutSt c rows W gs (mOf c.k done (cur ++ [b]) u R) (pre ++ z :: ls) →
      Calls Try.prog 36 #[.int .i64 y, .int .i64 x, .int .i64 need, .pointer (some ⟨c.Pc, 0, none⟩), .pointer (some ⟨c.Pr, 0, none⟩), .pointer (some ⟨c.Po, 0, none⟩), .pointer (some ⟨c.Pm, 0, none⟩), .pointer (some ⟨c.Pl, 0, none⟩), .pointer (some ⟨c.Pf, 0, none⟩)] W
        fun e w' => e = .returned (.tuple #[]) ∧ PutSt c rows w' (gs ++ putRow (contK rs done) R (pre ++ [z]) ls need (cur ++ [b])) (mOf c.k done (cur ++ [b]) u R) (pre ++ z :: ls) ∧ Below c.Bz W w') := Lib.hid (by
    intro z b need y x gs W hy hx n1 n2 z1 z2 hb hS
    have e : pre ++ z :: ls = pre ++ [z] ++ ls := by simp
    rw [e] at hS
    have h := hIH done (pre ++ [z]) (cur ++ [b]) need y x gs W hdrop (by rw [hDY, hrR]; exact hyR) (by rw [hDY]; exact hy) (by rw [List.length_append, List.length_singleton, hPX]; rw [hx]; rfl) (by rw [List.length_append, List.length_append, hCX, hPX]; rfl) (by rw [List.length_append, List.length_singleton, hPX]; omega) n1 n2
      (fun v hv => by
        simp only [List.mem_append, List.mem_cons, List.not_mem_nil, or_false] at hv
        rcases hv with (hv | rfl) | hv
        · exact hall v (by simp [hv])
        · exact ⟨z1, z2⟩
        · exact hall v (by simp [hv])) (by rw [hlu, hrR]; exact hb) hdone (by rw [hlu, hrR]; exact hS)
    rw [hlu, hrR] at h
    rw [e]
    exact h)
  obtain ⟨l1, l2⟩ := hall l (by simp)
  have hX1 : 0 + u + 1 ≤ c.k := by omega
  have hX2 : c.k ≤ 0 + u + 1 := by omega
  have hY1 : (Y0 + 1) + R + 1 ≤ c.n := by omega
  have hY2 : c.n ≤ (Y0 + 1) + R + 1 := by omega
  have HBZ : Hid (c.Bz ≤ w.heap.size) := Lib.hid (by have := S0.sz; omega)
  have HS := Lib.hid S0
  have cc := cell_of_one S0.hc
  have cr := cell_of_one S0.hr
  have cl := cell_of_one S0.hl
  have cf : w.cell? ⟨c.Pf, 0, none⟩ = some (.func (.func 36) #[] #[.pointer (some ⟨c.Pc, 0, none⟩), .pointer (some ⟨c.Pr, 0, none⟩), .pointer (some ⟨c.Po, 0, none⟩), .pointer (some ⟨c.Pm, 0, none⟩), .pointer (some ⟨c.Pl, 0, none⟩), .pointer (some ⟨c.Pf, 0, none⟩)]) := cell_of_one S0.hf
  have cL := (S0.setL (HGL2.out l)).1
  rw [hAr] at cr
  have b2 : (((Y0 : Int) + 1) == (c.n : Int)) = false := by simp; omega
  clear S0 hIH hIHs hall hdone hdrop hbnd0 hcl hCX hPX hDY hlu hrR hkx hyR hpre hcur hdn hr0 hall0 hdone0 hdrop0 hDY0 hkx0 hyR0 hAr hra n01 n02
  by_cases h1 : need ≤ (c.k : Int) - 1
  case neg =>
    go_enter Try.func36, Try.ntmps36
    go_wp2_with fail
    have d1 : decide (need ≤ (c.k : Int) - 1) = false := by simp; omega
    go_quiet (fail)
    generalize hw1 : World.drewN w _ = w1
    have HS1 : Hid (PutSt c rows w1 (gs ++ []) (mOf c.k done cur (u + 1) R) (pre ++ l :: ls)) := Lib.hid (by rw [List.append_nil, ← hw1]; exact HS.out.ext ((Ext.refl w).drewN _))
    have HB1 : Hid (Below c.Bz w w1) := Lib.hid (by rw [← hw1]; exact Below.mono ((Ext.refl w).drewN _) HBZ.out)
    have HBND2 : Hid ((gs ++ []).length + 2 ^ (u + R * c.k) ≤ 1000000000) := Lib.hid (by have h1 := HBND.out; rw [HPOS.out] at h1; rw [List.append_nil]; omega)
    clear cc cr cl cL cf hw1
    have dc := cell_of_one HS1.out.hc
    have dl := cell_of_one HS1.out.hl
    have dL := (HS1.out.setL (HGL2.out l)).1
    by_cases h3 : 0 < need
    case neg =>
      go_wp2_with fail
      all_goals
        go_end0
        exact ⟨rfl, HGOAL.out _ ([] ++ []) (by rw [if_neg (fun h => by omega), if_neg (fun h => by omega)]) (by rw [List.append_nil]; exact HS1.out) HB1.out⟩
    by_cases h4 : 0 < l
    case neg =>
      go_wp2_with fail
      all_goals
        go_end0
        exact ⟨rfl, HGOAL.out _ ([] ++ []) (by rw [if_neg (fun h => by omega), if_neg (fun h => by omega)]) (by rw [List.append_nil]; exact HS1.out) HB1.out⟩
    obtain ⟨R1, cR, v1, q1, q2, q3, q4, qset⟩ := HS1.out.setM (y := (Y0 + 1)) (x := 0) HROW.out HXR.out
    obtain ⟨S2, B2⟩ := qset 1
    have em := cell_of_one HS1.out.hm
    have el := cell_of_one S2.hl
    obtain ⟨eL, fL, setL⟩ := S2.setL (HGL2.out l)
    obtain ⟨S3, B3⟩ := setL (l - 1)
    have ef : ((w1.setCell ⟨R1, 0, none⟩ (.int .i64 1)).setCell ⟨c.L, 0, none⟩ (.int .i64 (l - 1))).cell? ⟨c.Pf, 0, none⟩ = some (.func (.func 36) #[] #[.pointer (some ⟨c.Pc, 0, none⟩), .pointer (some ⟨c.Pr, 0, none⟩), .pointer (some ⟨c.Po, 0, none⟩), .pointer (some ⟨c.Pm, 0, none⟩), .pointer (some ⟨c.Pl, 0, none⟩), .pointer (some ⟨c.Pf, 0, none⟩)]) := cell_of_one S3.hf
    rw [HSETM.out 1, HSETL.out l (l - 1)] at S3
    have HS3 := Lib.hid S3
    have HB3 := Lib.hid (Below.trans HB1.out (Below.trans B2 B3))
    rw [HRL.out] at q1 q2
    clear S2 S3 B2 B3 qset setL
    go_wp2_with fail
    refine (HIH.out (l - 1) 1 (need - 1) _ _ _ _ (by simp) (by simp) (by omega) (by omega) (by omega) (by omega) HBND2.out HS3.out).mono ?_
    rintro e w3 ⟨rfl, S4, B4⟩
    have fl := cell_of_one S4.hl
    obtain ⟨gL, gF, setL4⟩ := S4.setL (HGL2.out (l - 1))
    obtain ⟨S5, B5⟩ := setL4 l
    rw [HSETL.out (l - 1) l] at S5
    obtain ⟨R5, cR5, v5, p1, p2, p3, p4, pset⟩ := S5.setM (y := (Y0 + 1)) (x := 0) (HROW2.out 1) (HXR2.out 1)
    have gm := cell_of_one S5.hm
    obtain ⟨S6, B6⟩ := pset 0
    rw [HRESET.out 1] at S6
    have HS6 := Lib.hid S6
    have HB6 := Lib.hid (Below.trans HB3.out (Below.trans B4 (Below.trans B5 B6)))
    rw [HRL2.out 1] at p1 p2
    clear S4 S5 S6 B4 B5 B6 setL4 pset
    go_wp2
    go_end0
    exact ⟨rfl, HGOAL.out _ ([] ++ putRow (contK rs done) R (pre ++ [l - 1]) ls (need - 1) (cur ++ [1])) (by rw [if_neg (fun h => by omega), if_pos ⟨h3, h4⟩]) (by rw [← List.append_assoc]; exact HS6.out) HB6.out⟩
  by_cases h2 : l ≤ (c.n : Int) - ((Y0 : Int) + 1) - 1
  case neg =>
    go_enter Try.func36, Try.ntmps36
    go_wp2_with fail
    go_quiet (fail)
    generalize hw1 : World.drewN w _ = w1
    have HS1 : Hid (PutSt c rows w1 (gs ++ []) (mOf c.k done cur (u + 1) R) (pre ++ l :: ls)) := Lib.hid (by rw [List.append_nil, ← hw1]; exact HS.out.ext ((Ext.refl w).drewN _))
    have HB1 : Hid (Below c.Bz w w1) := Lib.hid (by rw [← hw1]; exact Below.mono ((Ext.refl w).drewN _) HBZ.out)
    have HBND2 : Hid ((gs ++ []).length + 2 ^ (u + R * c.k) ≤ 1000000000) := Lib.hid (by have h1 := HBND.out; rw [HPOS.out] at h1; rw [List.append_nil]; omega)
    clear cc cr cl cL cf hw1
    have dc := cell_of_one HS1.out.hc
    have dl := cell_of_one HS1.out.hl
    have dL := (HS1.out.setL (HGL2.out l)).1
    by_cases h3 : 0 < need
    case neg =>
      go_wp2_with fail
      all_goals
        go_end0
        exact ⟨rfl, HGOAL.out _ ([] ++ []) (by rw [if_neg (fun h => by omega), if_neg (fun h => by omega)]) (by rw [List.append_nil]; exact HS1.out) HB1.out⟩
    by_cases h4 : 0 < l
    case neg =>
      go_wp2_with fail
      all_goals
        go_end0
        exact ⟨rfl, HGOAL.out _ ([] ++ []) (by rw [if_neg (fun h => by omega), if_neg (fun h => by omega)]) (by rw [List.append_nil]; exact HS1.out) HB1.out⟩
    obtain ⟨R1, cR, v1, q1, q2, q3, q4, qset⟩ := HS1.out.setM (y := (Y0 + 1)) (x := 0) HROW.out HXR.out
    obtain ⟨S2, B2⟩ := qset 1
    have em := cell_of_one HS1.out.hm
    have el := cell_of_one S2.hl
    obtain ⟨eL, fL, setL⟩ := S2.setL (HGL2.out l)
    obtain ⟨S3, B3⟩ := setL (l - 1)
    have ef : ((w1.setCell ⟨R1, 0, none⟩ (.int .i64 1)).setCell ⟨c.L, 0, none⟩ (.int .i64 (l - 1))).cell? ⟨c.Pf, 0, none⟩ = some (.func (.func 36) #[] #[.pointer (some ⟨c.Pc, 0, none⟩), .pointer (some ⟨c.Pr, 0, none⟩), .pointer (some ⟨c.Po, 0, none⟩), .pointer (some ⟨c.Pm, 0, none⟩), .pointer (some ⟨c.Pl, 0, none⟩), .pointer (some ⟨c.Pf, 0, none⟩)]) := cell_of_one S3.hf
    rw [HSETM.out 1, HSETL.out l (l - 1)] at S3
    have HS3 := Lib.hid S3
    have HB3 := Lib.hid (Below.trans HB1.out (Below.trans B2 B3))
    rw [HRL.out] at q1 q2
    clear S2 S3 B2 B3 qset setL
    go_wp2_with fail
    refine (HIH.out (l - 1) 1 (need - 1) _ _ _ _ (by simp) (by simp) (by omega) (by omega) (by omega) (by omega) HBND2.out HS3.out).mono ?_
    rintro e w3 ⟨rfl, S4, B4⟩
    have fl := cell_of_one S4.hl
    obtain ⟨gL, gF, setL4⟩ := S4.setL (HGL2.out (l - 1))
    obtain ⟨S5, B5⟩ := setL4 l
    rw [HSETL.out (l - 1) l] at S5
    obtain ⟨R5, cR5, v5, p1, p2, p3, p4, pset⟩ := S5.setM (y := (Y0 + 1)) (x := 0) (HROW2.out 1) (HXR2.out 1)
    have gm := cell_of_one S5.hm
    obtain ⟨S6, B6⟩ := pset 0
    rw [HRESET.out 1] at S6
    have HS6 := Lib.hid S6
    have HB6 := Lib.hid (Below.trans HB3.out (Below.trans B4 (Below.trans B5 B6)))
    rw [HRL2.out 1] at p1 p2
    clear S4 S5 S6 B4 B5 B6 setL4 pset
    go_wp2
    go_end0
    exact ⟨rfl, HGOAL.out _ ([] ++ putRow (contK rs done) R (pre ++ [l - 1]) ls (need - 1) (cur ++ [1])) (by rw [if_neg (fun h => by omega), if_pos ⟨h3, h4⟩]) (by rw [← List.append_assoc]; exact HS6.out) HB6.out⟩
  go_enter Try.func36, Try.ntmps36
  go_wp2_with fail
  go_quiet (fail)
  go_wp2_with fail
  refine (HIH.out l 0 need _ _ gs _ (by simp) (by simp) (by omega) (by omega) (by omega) (by omega) (by have h1 := HBND.out; rw [HPOS.out] at h1; omega) (by rw [HZERO.out]; exact HS.out.ext ((Ext.refl w).drewN _))).mono ?_
  rintro e w1 ⟨rfl, S1, B1⟩
  rw [HZERO.out] at S1
  have HS1 := Lib.hid S1
  have HB1 : Hid (Below c.Bz w w1) := Lib.hid (Below.trans (Below.mono ((Ext.refl w).drewN _) HBZ.out) B1)
  have HBND2 : Hid ((gs ++ putRow (contK rs done) R (pre ++ [l]) ls need (cur ++ [0])).length + 2 ^ (u + R * c.k) ≤ 1000000000) := Lib.hid (by have h1 := HBND.out; have h2 := HLA.out; rw [HPOS.out] at h1; rw [List.length_append]; omega)
  clear cc cr cl cL cf S1 B1
  have dc := cell_of_one HS1.out.hc
  have dl := cell_of_one HS1.out.hl
  have dL := (HS1.out.setL (HGL2.out l)).1
  by_cases h3 : 0 < need
  case neg =>
    go_wp2_with fail
    all_goals
      go_end0
      exact ⟨rfl, HGOAL.out _ (putRow (contK rs done) R (pre ++ [l]) ls need (cur ++ [0]) ++ []) (by rw [if_pos (show need ≤ (u : Int) ∧ l ≤ (R : Int) by omega), if_neg (fun h => by omega)]) (by rw [List.append_nil]; exact HS1.out) HB1.out⟩
  by_cases h4 : 0 < l
  case neg =>
    go_wp2_with fail
    all_goals
      go_end0
      exact ⟨rfl, HGOAL.out _ (putRow (contK rs done) R (pre ++ [l]) ls need (cur ++ [0]) ++ []) (by rw [if_pos (show need ≤ (u : Int) ∧ l ≤ (R : Int) by omega), if_neg (fun h => by omega)]) (by rw [List.append_nil]; exact HS1.out) HB1.out⟩
  obtain ⟨R1, cR, v1, q1, q2, q3, q4, qset⟩ := HS1.out.setM (y := (Y0 + 1)) (x := 0) HROW.out HXR.out
  obtain ⟨S2, B2⟩ := qset 1
  have em := cell_of_one HS1.out.hm
  have el := cell_of_one S2.hl
  obtain ⟨eL, fL, setL⟩ := S2.setL (HGL2.out l)
  obtain ⟨S3, B3⟩ := setL (l - 1)
  have ef : ((w1.setCell ⟨R1, 0, none⟩ (.int .i64 1)).setCell ⟨c.L, 0, none⟩ (.int .i64 (l - 1))).cell? ⟨c.Pf, 0, none⟩ = some (.func (.func 36) #[] #[.pointer (some ⟨c.Pc, 0, none⟩), .pointer (some ⟨c.Pr, 0, none⟩), .pointer (some ⟨c.Po, 0, none⟩), .pointer (some ⟨c.Pm, 0, none⟩), .pointer (some ⟨c.Pl, 0, none⟩), .pointer (some ⟨c.Pf, 0, none⟩)]) := cell_of_one S3.hf
  rw [HSETM.out 1, HSETL.out l (l - 1)] at S3
  have HS3 := Lib.hid S3
  have HB3 := Lib.hid (Below.trans HB1.out (Below.trans B2 B3))
  rw [HRL.out] at q1 q2
  clear S2 S3 B2 B3 qset setL
  go_wp2_with fail
  refine (HIH.out (l - 1) 1 (need - 1) _ _ _ _ (by simp) (by simp) (by omega) (by omega) (by omega) (by omega) HBND2.out HS3.out).mono ?_
  rintro e w3 ⟨rfl, S4, B4⟩
  have fl := cell_of_one S4.hl
  obtain ⟨gL, gF, setL4⟩ := S4.setL (HGL2.out (l - 1))
  obtain ⟨S5, B5⟩ := setL4 l
  rw [HSETL.out (l - 1) l] at S5
  obtain ⟨R5, cR5, v5, p1, p2, p3, p4, pset⟩ := S5.setM (y := (Y0 + 1)) (x := 0) (HROW2.out 1) (HXR2.out 1)
  have gm := cell_of_one S5.hm
  obtain ⟨S6, B6⟩ := pset 0
  rw [HRESET.out 1] at S6
  have HS6 := Lib.hid S6
  have HB6 := Lib.hid (Below.trans HB3.out (Below.trans B4 (Below.trans B5 B6)))
  rw [HRL2.out 1] at p1 p2
  clear S4 S5 S6 B4 B5 B6 setL4 pset
  go_wp2
  go_end0
  exact ⟨rfl, HGOAL.out _ (putRow (contK rs done) R (pre ++ [l]) ls need (cur ++ [0]) ++ putRow (contK rs done) R (pre ++ [l - 1]) ls (need - 1) (cur ++ [1])) (by rw [if_pos (show need ≤ (u : Int) ∧ l ≤ (R : Int) by omega), if_pos ⟨h3, h4⟩]) (by rw [← List.append_assoc]; exact HS6.out) HB6.out⟩

theorem put_any (c : Cx) (rows : List Int) (hn5 : c.n ≤ 5) (hk1 : 1 ≤ c.k) (hk5 : c.k ≤ 5) (hra : ∀ r ∈ rows, 0 ≤ r ∧ r ≤ 5) : ∀ (rs : List Int) (ls : Row), PutOk c rows rs ls := by
  intro rs
  induction rs with
  | nil =>
    intro ls
    induction ls with
    | nil => exact put_end0 c rows hn5 hk1 hk5
    | cons l ls ih => exact put_step c rows [] l ls hn5 hk5 ih
  | cons r rs ihr =>
    intro ls
    induction ls with
    | nil => exact put_endS c rows rs r hn5 hk1 hk5 hra ihr
    | cons l ls ih => exact put_step c rows (r :: rs) l ls hn5 hk5 ih
end Go.Proofs.Ytpmpbdcbiaohdaa
