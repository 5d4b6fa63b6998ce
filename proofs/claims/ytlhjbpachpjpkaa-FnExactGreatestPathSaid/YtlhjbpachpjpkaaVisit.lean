/- All images that switches lead to, and a way to each: the specification's l06Visit. -/
import Derived.Test.YtlhjbpachpjpkaaSeek
import Derived.Test.YtlhjbpachpjpkaaWays
import Derived.Test.YtlhjbpachpjpkaaPtA
import Derived.Carry
import Derived.Deep.RegionWith
import Derived.Deep.RegionHeld3
import Derived.Deep.DeepCutAuto
namespace Go.Proofs.Ytlhjbpachpjpkaa
open Go.RowKit Tomo

theorem OwnS.empty1 (w : World) (o : Obj) (B : Nat) (hB : B ≤ w.heap.size) : OwnS ((w.alloc o).alloc (.cells #[] 78)) B (.slice (some ⟨w.heap.size + 1, 0, none⟩) 0 0) [] := by
  have h := OwnS.empty (w.alloc o) B (by simp; omega)
  rw [show (w.alloc o).heap.size = w.heap.size + 1 by simp] at h
  exact h
theorem way_of {w : World} {B : Nat} {v : Value} {ss : List Sw} {d : Nat} (h : OwnS w B v ss) (hd : ss.length = d) (h0 : 0 < d) : WayO w 0 v d := by
  subst hd
  obtain ⟨g, c, hv, _⟩ := h.at_.2 h0
  subst hv
  exact ⟨g, c, ss, rfl, rfl, ownsRow_base h (Nat.zero_le _)⟩
theorem sw_src {W W' : World} {B : Nat} {g c : Nat} {ss : List Sw} (h : OwnS W B (.slice (some ⟨g, 0, none⟩) ss.length c) ss) (e : Ext W W') : ∀ j u, (flatS ss)[j]? = some u → W'.cell? ((⟨g, 0, none⟩ : Addr).add j) = some u := fun j u hu => by
  rw [addr_add_s]
  have hj : j < (flatS ss).length := (List.getElem?_eq_some_iff.1 hu).1
  rw [flatS_len] at hj
  have hc := World.ownsRow.cellAt h j hj
  rw [hu] at hc
  exact (e.cell (World.block_lt_of_cell? _ _ hc)).trans hc
theorem box_of {W W' : World} {b : Nat} {x0 x1 x2 x3 : Value} {cs : Array Value} {t : TypeId} {fz : Nat × Nat} (hb : W.heap[b]? = some (.cells cs t fz)) (hw : W'.heap[b]? = some (.cells cs t fz)) (h : W.cell? ⟨b, 0, none⟩ = some x0 ∧ W.cell? ⟨b, 1, none⟩ = some x1 ∧ W.cell? ⟨b, 2, none⟩ = some x2 ∧ W.cell? ⟨b, 3, none⟩ = some x3) :
    W'.cell? ⟨b, 0, none⟩ = some x0 ∧ W'.cell? ⟨b, 1, none⟩ = some x1 ∧ W'.cell? ⟨b, 2, none⟩ = some x2 ∧ W'.cell? ⟨b, 3, none⟩ = some x3 := by
  have e : ∀ j, W'.cell? ⟨b, j, none⟩ = W.cell? ⟨b, j, none⟩ := fun j => World.cell?_of_block (hw.trans hb.symm)
  rw [e, e, e, e]
  exact h
set_option maxRecDepth 100000 in
set_option maxHeartbeats 16000000 in
theorem l06Visit_any (A : Option Addr) (ca : Nat) (rows cols : List Int) (n k : Nat) (root : Grid) (w : World) (hn : rows.length = n) (hk : cols.length = k) (hr : root ∈ allI rows cols) (hx : GridAt w A root) :
    Calls Try.prog 59 #[.slice A n ca] w fun e w' => ∃ lv wv qs ds, e = .returned (.tuple #[lv, wv]) ∧ VSt w w' rows cols root lv wv qs ds qs.length := by
  have hri : Img root n k := by have := allI_img hr; rw [hn, hk] at this; exact this
  obtain ⟨hn1, hn5⟩ := hri.2.1
  obtain ⟨hk1, hk5⟩ := hri.2.2.1
  have cc := l02Copy_any A ca root w (by rw [hri.1.1]; omega) (by rw [hri.1.1]; omega) (fun r hr => by rw [hri.1.2 r hr]; omega) hx
  rw [hri.1.1] at cc
  have HRI := Lib.hid hri
  have HR := Lib.hid hr
  have HN := Lib.hid hn
  have HKC := Lib.hid hk
  clear hx hri hr hn hk
  go_enter Try.func59, Try.ntmps59
  go_wp2_with fail
  refine cc.mono ?_
  rintro e w1 ⟨b, cap, rfl, ho, he⟩
  obtain ⟨W1, hW1⟩ : ∃ W1, W1 = w1.alloc (.cells #[.slice (some ⟨b, 0, none⟩) n cap] 23) := ⟨_, rfl⟩
  have hg1 : GridsO W1 w.heap.size (.slice (some ⟨w1.heap.size, 0, none⟩) 1 1) [root] := by rw [hW1]; exact GridsO.lit (ho.base (Nat.zero_le _)) _ he.size
  have hE1 : Ext w1 W1 := by rw [hW1]; exact (Ext.refl w1).alloc _
  have hs1 : W1.heap.size = w1.heap.size + 1 := by rw [hW1]; simp
  obtain ⟨W2, hW2⟩ : ∃ W2, W2 = W1.alloc (.cells #[] 78) := ⟨_, rfl⟩
  have ho2 : OwnS W2 0 (.slice (some ⟨w1.heap.size + 1, 0, none⟩) 0 0) [] := by rw [hW2, ← hs1]; exact OwnS.empty W1 0 (Nat.zero_le _)
  have hE2 : Ext W1 W2 := by rw [hW2]; exact (Ext.refl W1).alloc _
  have hs2 : W2.heap.size = w1.heap.size + 2 := by rw [hW2]; simp [hs1]
  obtain ⟨W3, hW3⟩ : ∃ W3, W3 = W2.alloc (.cells #[.slice (some ⟨w1.heap.size + 1, 0, none⟩) 0 0] 64) := ⟨_, rfl⟩
  have hw3 : WaysO W3 w.heap.size (.slice (some ⟨w1.heap.size + 2, 0, none⟩) 1 1) [0] := by
    rw [hW3, ← hs2]
    exact WaysO.lit (d := 0) ⟨w1.heap.size + 1, 0, [], rfl, rfl, ho2⟩ w.heap.size (he.trans (hE1.trans hE2)).size
  have hE3 : Ext W2 W3 := by rw [hW3]; exact (Ext.refl W2).alloc _
  have HW1 := Lib.hid hW1
  have HW2 := Lib.hid hW2
  have HW3 := Lib.hid hW3
  have HVS : Hid (VSt w W3 rows cols root (.slice (some ⟨w1.heap.size, 0, none⟩) 1 1) (.slice (some ⟨w1.heap.size + 2, 0, none⟩) 1 1) [root] [0] 0) := Lib.hid ⟨he.trans (hE1.trans (hE2.trans hE3)), hg1.ext (hE2.trans hE3), hw3, Bfs.start root, fun q hq => by rw [List.mem_singleton.1 hq]; exact HR.out⟩
  clear cc ho he hW1 hg1 hE1 hs1 hW2 ho2 hE2 hs2 hW3 hw3 hE3
  go_wp2_with fail
  first | rw [← HW1.out, ← HW2.out, ← HW3.out] | skip
  go_loopw [6, 4, 5, 8, 9] (fun i l v _ _ wr => ∃ (ii bq cq bw cw ln : Nat) (qs : List Grid) (ds : List Nat), i = .int .i64 ii ∧ l = .slice (some ⟨bq, 0, none⟩) ln cq ∧ v = .slice (some ⟨bw, 0, none⟩) ln cw ∧ ii ≤ ln ∧ ln ≤ 33554432 ∧ Hid (qs.length = ln) ∧ Hid (VSt w wr rows cols root (.slice (some ⟨bq, 0, none⟩) ln cq) (.slice (some ⟨bw, 0, none⟩) ln cw) qs ds ii)) (fun i _ _ _ _ _ => 33554433 - (intOf i).toNat)
  case atStart => exact ⟨0, w1.heap.size, 1, w1.heap.size + 2, 1, 1, [root], [0], rfl, rfl, rfl, by omega, by omega, Lib.hid rfl, HVS⟩
  case round =>
    rename World => wo
    clear HVS
    obtain ⟨ii, bq, cq, bw, cw, ln, qs, ds, rfl, rfl, rfl, hil, hl3, hln, hP⟩ := hrel
    by_cases hlt : ii < ln
    · have hltI : (ii : Int) < (ln : Int) := by omega
      obtain ⟨q, hq⟩ : ∃ q, qs[ii]? = some q := ⟨_, List.getElem?_eq_getElem (by rw [hln.out]; exact hlt)⟩
      obtain ⟨d, hd⟩ : ∃ d, ds[ii]? = some d := ⟨_, List.getElem?_eq_getElem (by rw [← hP.out.bfs.len, hln.out]; exact hlt)⟩
      obtain ⟨b', c', he, _, _, hel⟩ := hP.out.list.form (by rw [hln.out]; omega)
      rw [hln.out] at he
      cases he
      obtain ⟨X, xc, hcell, hox, hgx⟩ := hel ii q hq
      have hqi : Img q n k := by have := hP.out.img q (List.mem_of_getElem? hq); rw [HN.out, HKC.out] at this; exact this
      rw [hqi.1.1] at hcell
      have csw := specSwitches_any X xc q n k wo hqi.ok hqi hgx
      have HQD := Lib.hid (And.intro hq hd)
      have HQI := Lib.hid hqi
      have hdl : d ≤ 33554432 := by have := hP.out.bfs.low ii d hd; omega
      clear hel hq hd hox hgx hqi
      go_wp2_with fail
      refine csw.mono ?_
      rintro e w2 ⟨vs, ss, rfl, hsw, hall⟩
      obtain ⟨⟨VA, vc, hva⟩, _⟩ := hsw.own.at_
      subst hva
      have HSS := Lib.hid hsw.own
      have HSO := Lib.hid hsw.ok
      have HSA := Lib.hid hall
      have HP2 := Lib.hid (hP.out.step hsw.ext)
      have hfew := hsw.few
      obtain ⟨sl, hsl⟩ : ∃ sl, ss.length = sl := ⟨_, rfl⟩
      have HSL := Lib.hid hsl
      rw [hsl] at HSS hfew
      rw [hsl]
      have HLN := Lib.hid hln.out
      clear csw hsw hall hsl hP hcell hln
      go_wp2_with fail
      go_loopw [27, 4, 5, 8, 9] (fun l v u _ _ wr => ∃ (ll bq cq bw cw ln : Nat) (qs : List Grid) (ds : List Nat), l = .int .i64 ll ∧ v = .slice (some ⟨bq, 0, none⟩) ln cq ∧ u = .slice (some ⟨bw, 0, none⟩) ln cw ∧ ll ≤ sl ∧ ii < ln ∧ ln ≤ 33554432 ∧ Hid (qs.length = ln) ∧ Hid (VSt w wr rows cols root (.slice (some ⟨bq, 0, none⟩) ln cq) (.slice (some ⟨bw, 0, none⟩) ln cw) qs ds ii) ∧ Hid (qs[ii]? = some q ∧ ds[ii]? = some d) ∧ Hid (OwnS wr wo.heap.size (.slice VA sl vc) ss) ∧ Hid (∀ (l' : Nat) s, l' < ll → ss[l']? = some s → ∀ y, SwSt q n k s.a s.b s.x s.y 2 0 y → Found2 qs ds d y)) (fun l _ _ _ _ _ => sl - (intOf l).toNat)
      case atStart => exact ⟨0, bq, cq, bw, cw, ln, qs, ds, rfl, rfl, rfl, Nat.zero_le _, hlt, hl3, HLN, HP2, HQD, HSS, Lib.hid (fun l' s h => by omega)⟩
      case round =>
        rename World => wr
        clear HP2 HQD HSS HLN hil hl3 hlt hltI
        obtain ⟨ll, bq, cq, bw, cw, ln, qs, ds, rfl, rfl, rfl, hll, hlt, hl3, hln, hP, hQD, hS, hF⟩ := hrel
        by_cases hltl : ll < sl
        · have hltlI : (ll : Int) < (sl : Int) := by omega
          have hltI : (ii : Int) < (ln : Int) := by omega
          obtain ⟨s, hs⟩ : ∃ s, ss[ll]? = some s := ⟨_, List.getElem?_eq_getElem (by rw [HSL.out]; exact hltl)⟩
          obtain ⟨g, c, he, hcells⟩ := hS.out.at_.2 (by rw [HSL.out]; omega)
          rw [HSL.out] at he
          cases he
          obtain ⟨d1, d2, d3, d4⟩ := hcells ll s hs
          obtain ⟨v1, v2, v3, v4, v5⟩ := HSO.out s (List.mem_of_getElem? hs)
          obtain ⟨b', c', he, _, _, hel⟩ := hP.out.list.form (by rw [hln.out]; omega)
          rw [hln.out] at he
          cases he
          obtain ⟨X, xc, hcell, hox, hgx⟩ := hel ii q hQD.out.1
          rw [HQI.out.1.1] at hcell
          obtain ⟨wb, hwb⟩ : ∃ wb, wr.alloc (.cells #[.int .i64 s.a, .int .i64 s.b, .int .i64 s.x, .int .i64 s.y] 78) = wb := ⟨_, rfl⟩
          have heb : Ext wr wb := by rw [← hwb]; exact (Ext.refl wr).alloc _
          have b1 : wb.cell? ⟨wr.heap.size, 0, none⟩ = some (.int .i64 s.a) := by rw [← hwb]; simp
          have b2 : wb.cell? ⟨wr.heap.size, 1, none⟩ = some (.int .i64 s.b) := by rw [← hwb]; simp
          have b3 : wb.cell? ⟨wr.heap.size, 2, none⟩ = some (.int .i64 s.x) := by rw [← hwb]; simp
          have b4 : wb.cell? ⟨wr.heap.size, 3, none⟩ = some (.int .i64 s.y) := by rw [← hwb]; simp
          have hcb : wb.cell? ⟨bq, ii, none⟩ = some (.slice X n xc) := (heb.cell (World.block_lt_of_cell? _ _ hcell)).trans hcell
          have HBX : Hid (wb.cell? ⟨wr.heap.size, 0, none⟩ = some (.int .i64 s.a) ∧ wb.cell? ⟨wr.heap.size, 1, none⟩ = some (.int .i64 s.b) ∧ wb.cell? ⟨wr.heap.size, 2, none⟩ = some (.int .i64 s.x) ∧ wb.cell? ⟨wr.heap.size, 3, none⟩ = some (.int .i64 s.y)) := Lib.hid ⟨b1, b2, b3, b4⟩
          have HWB := Lib.hid hwb
          have HEB := Lib.hid heb
          have HCA := Lib.hid (fun W (e : Ext wb W) => Apply_any X xc q n k s.a s.b s.x s.y W HQI.out (hgx.ext (heb.trans e)) v1 v2 v3 v4)
          have HHS := Lib.hid hs
          clear hel hcells hox hgx hwb heb v1 v2 v3 v4 v5 hs hcell
          go_upto_region 9 with fail
          rw [HWB.out]
          clear d1 d2 d3 d4
          go_cut [9] (fun x wx => ∃ (yb yc : Nat) (y : Grid), x = .slice (some ⟨yb, 0, none⟩) n yc ∧ Hid (OwnGrid wx 0 (.slice (some ⟨yb, 0, none⟩) n yc) y) ∧ Hid (SwSt q n k s.a s.b s.x s.y 2 0 y) ∧ Hid (Ext wb wx))
          case first =>
            go_wp2_with fail
            first | go_region_with (go_at_call 81; refine (HCA.out _ (by (repeat (first | exact Ext.refl _ | apply Ext.drew)))).mono ?_; rintro e w3 ⟨yb, yc, y, rfl, hoy, hsy, hey⟩) | fail
            all_goals
              have HY3 := Lib.hid (hoy.base (Nat.zero_le _))
              have HS3 := Lib.hid hsy
              have HE3 : Hid (Ext wb w3) := Lib.hid ((Ext.refl wb).drew.trans hey)
              clear hoy hsy hey
              go_wp2_with fail
              go_meet
              exact ⟨yb, yc, y, rfl, HY3, HS3, HE3⟩
          case rest =>
            rename World => w3
            obtain ⟨yb, yc, y, rfl, hY, hSY, hE3⟩ := hcut
            clear b1 b2 b3 b4 hcb
            have hsd : sideBy n k q y := ⟨HQI.out, s, HSO.out s (List.mem_of_getElem? HHS.out), hSY.out⟩
            have hyi := (side_same hsd).1
            have hext : Ext wr w3 := HEB.out.trans hE3.out
            have HP3 := Lib.hid (hP.out.step hext)
            have HS3 := Lib.hid (hS.out.ext hext)
            have cf := l06Find_any (.slice (some ⟨bq, 0, none⟩) ln cq) w.heap.size (some ⟨yb, 0, none⟩) yc qs y n k w3 (by rw [hln.out]; omega) (by rw [hln.out]; exact hl3) (by have h := HP3.out.img; rw [HN.out, HKC.out] at h; exact h) hyi HP3.out.list hY.out.gridAt
            have HSD := Lib.hid hsd
            have HYI := Lib.hid hyi
            have HNY : Hid (∀ (y' : Grid), SwSt q n k s.a s.b s.x s.y 2 0 y' → y' = y) := Lib.hid fun y' h' => h'.uniq hSY.out
            have HNEXT : Hid (∀ (qs2 : List Grid) (ds2 : List Nat), Found2 qs2 ds2 d y → (∀ (l' : Nat) s', l' < ll → ss[l']? = some s' → ∀ y', SwSt q n k s'.a s'.b s'.x s'.y 2 0 y' → Found2 qs2 ds2 d y') → ∀ (l' : Nat) s', l' < ll + 1 → ss[l']? = some s' → ∀ y', SwSt q n k s'.a s'.b s'.x s'.y 2 0 y' → Found2 qs2 ds2 d y') := Lib.hid fun qs2 ds2 hf hall l' s' hl' hs' y' hy' => by
              by_cases e : l' = ll
              · subst e
                have e2 : s' = s := by
                  have h := HHS.out
                  rw [hs'] at h
                  exact Option.some.inj h
                subst e2
                rw [HNY.out y' hy']; exact hf
              · exact hall l' s' (by omega) hs' y' hy'
            clear hsd hyi hP hS
            go_wp2_with fail
            refine cf.mono ?_
            rintro e w' ⟨r, rfl, hr1, hr2, rfl⟩
            clear cf
            by_cases hyq : y ∈ qs
            · have hr0 : ¬ r < 0 := by have := hr1 hyq; omega
              have HFN := Lib.hid (HNEXT.out qs ds (found_old HP3.out.bfs hQD.out.2 hyq) hF.out)
              clear hr1 hr2 hyq
              go_wp2_with fail
              go_roundw
              case rel => exact ⟨ll + 1, bq, cq, bw, cw, ln, qs, ds, by go_num, rfl, rfl, by omega, hlt, hl3, hln, HP3, hQD, HS3, HFN⟩
              case measure => simp [intOf]; omega
            · have hr0 : r < 0 := by rw [hr2 hyq]; decide
              have HYQ := Lib.hid hyq
              have HY4 := Lib.hid (hY.out.ext ((Ext.refl w3).alloc (.cells #[.slice (some ⟨yb, 0, none⟩) n yc] 23)))
              clear hr1 hr2 hyq
              go_wp2_with (at_builtin; refine app_queue (HP3.out.list.ext ((Ext.refl w3).alloc _)) (HY4.out) (by simp; have := HP3.out.ext.size; omega) (by rw [hln.out]; omega) (new_cell rfl) rfl _ _ rfl rfl rfl ?_)
              intro b5 c5 w5 hgs hnq hgr
              have hbq5 := (HP3.out.list.lt (b := bq) rfl).1
              have hE5 : Ext w w5 := Below.grown (HP3.out.ext.trans ((Ext.refl w3).alloc _)) hgr (HP3.out.ext.trans ((Ext.refl w3).alloc _)).size (fun j hj => by cases hj; exact hbq5)
              have hws : WaysO w5 w.heap.size (.slice (some ⟨bw, 0, none⟩) ln cw) ds := (HP3.out.ways.ext ((Ext.refl w3).alloc _)).nonQ hnq
              have HS5 := Lib.hid (hnq.sw (HS3.out.ext ((Ext.refl w3).alloc (.cells #[.slice (some ⟨yb, 0, none⟩) n yc] 23))))
              have hbxh : wb.heap[wr.heap.size]? = some (.cells #[.int .i64 s.a, .int .i64 s.b, .int .i64 s.x, .int .i64 s.y] 78 (0, 0)) := by rw [← HWB.out]; exact heap_alloc_new wr _
              have hlw : wr.heap.size < wb.heap.size := heap_lt hbxh
              have hb3 : w3.heap[wr.heap.size]? = some (.cells #[.int .i64 s.a, .int .i64 s.b, .int .i64 s.x, .int .i64 s.y] 78 (0, 0)) := (hE3.out.block _ hlw).trans hbxh
              have hb5 := hnq _ _ _ _ ((((Ext.refl w3).alloc (.cells #[.slice (some ⟨yb, 0, none⟩) n yc] 23)).block _ (heap_lt hb3)).trans hb3) (by decide)
              have hbox := box_of hbxh hb5 HBX.out
              obtain ⟨bwx, cwx, hwv, _, hbw, hwel⟩ := hws.form (by rw [← HP3.out.bfs.len, hln.out]; omega)
              rw [← HP3.out.bfs.len, hln.out] at hwv
              cases hwv
              obtain ⟨u6, hwc, g6, c6, ss6, hu6, hd6, hs6⟩ := hwel ii d hQD.out.2
              subst hu6
              subst hd6
              have HSRC : Hid (∀ W, Ext w5 W → ∀ j u, (flatS ss6)[j]? = some u → W.cell? ((⟨g6, 0, none⟩ : Addr).add j) = some u) := Lib.hid fun W e => sw_src hs6 e
              have HK : Hid (∀ W, Ext w5 W → W.cell? ⟨wr.heap.size, 0, none⟩ = some (.int .i64 s.a) ∧ W.cell? ⟨wr.heap.size, 1, none⟩ = some (.int .i64 s.b) ∧ W.cell? ⟨wr.heap.size, 2, none⟩ = some (.int .i64 s.x) ∧ W.cell? ⟨wr.heap.size, 3, none⟩ = some (.int .i64 s.y)) := Lib.hid fun W e => box_of hb5 ((e.block _ (heap_lt hb5)).trans hb5) hbox
              have HWC : Hid (∀ W, Ext w5 W → W.cell? ⟨bw, ii, none⟩ = some (.slice (some ⟨g6, 0, none⟩) ss6.length c6)) := Lib.hid fun W e => (e.cell (World.block_lt_of_cell? _ _ hwc)).trans hwc
              have HKW : Hid (∀ W, Ext w5 W → W.cell? ⟨wr.heap.size, 0, none⟩ = some (.int .i64 s.a) ∧ W.cell? ⟨wr.heap.size, 1, none⟩ = some (.int .i64 s.b) ∧ W.cell? ⟨wr.heap.size, 2, none⟩ = some (.int .i64 s.x) ∧ W.cell? ⟨wr.heap.size, 3, none⟩ = some (.int .i64 s.y) ∧ W.cell? ⟨bw, ii, none⟩ = some (.slice (some ⟨g6, 0, none⟩) ss6.length c6)) := Lib.hid fun W e => have h := HK.out W e; ⟨h.1, h.2.1, h.2.2.1, h.2.2.2, HWC.out W e⟩
              have HWS := Lib.hid hws
              have HGS := Lib.hid hgs
              have HE5 := Lib.hid hE5
              have hdl6 : ss6.length ≤ 33554432 := hdl
              have hdsl : ds.length = ln := by rw [← HP3.out.bfs.len, hln.out]
              have hw5 : w.heap.size ≤ w5.heap.size := hE5.size
              have HBW : Hid (w.heap.size ≤ bw) := Lib.hid (hws.lt (b := bw) rfl).1
              have HFN := Lib.hid (HNEXT.out (qs ++ [y]) (ds ++ [ss6.length + 1]) (found_new HP3.out.bfs.len) (fun l' s' h1 h2 y' h3 => (hF.out l' s' h1 h2 y' h3).app _ _))
              have HBF := Lib.hid (HP3.out.bfs.add hQD.out.1 hQD.out.2 (by rw [HN.out, HKC.out]; exact HSD.out) HYQ.out)
              have HCL : Hid (∀ x ∈ qs ++ [y], x ∈ allI rows cols) := Lib.hid fun x hx => by
                rcases List.mem_append.1 hx with e | e
                · exact HP3.out.cls x e
                · rw [List.mem_singleton.1 e]
                  have := side_class q y (HP3.out.cls q (List.mem_of_getElem? hQD.out.1)) (by rw [HN.out, HKC.out]; exact HSD.out)
                  exact this
              clear hgs hnq hgr hbq5 hE5 hws hbxh hlw hb3 hbox hwel hs6 HNEXT HNY HY4 HBX HCA
              rw [hln.out]
              go_upto_region 12 with fail
              first | go_region_held3 (fun W => W.cell? ⟨wr.heap.size, 0, none⟩ = some (.int .i64 s.a) ∧ W.cell? ⟨wr.heap.size, 1, none⟩ = some (.int .i64 s.b) ∧ W.cell? ⟨wr.heap.size, 2, none⟩ = some (.int .i64 s.x) ∧ W.cell? ⟨wr.heap.size, 3, none⟩ = some (.int .i64 s.y) ∧ W.cell? ⟨bw, ii, none⟩ = some (.slice (some ⟨g6, 0, none⟩) ss6.length c6)) (first | assumption | exact HKW.out _ (by (repeat (first | assumption | exact Ext.refl _ | apply Ext.drew | apply Ext.alloc)); done) | go_keep) (first
                | (refine app_ways_step (B := w.heap.size) (d := ss6.length + 1) (u := .slice (some ⟨g7, 0, none⟩) (ss6.length + 1) c7) (HWS.out.ext (HX7.trans (by (repeat (first | exact Ext.refl _ | apply Ext.drew | apply Ext.alloc)); done))) (HY7.ext (by (repeat (first | exact Ext.refl _ | apply Ext.drew | apply Ext.alloc)); done)) (Nat.le_trans hw5 (Ext.size (w := w5) (HX7.trans (by (repeat (first | exact Ext.refl _ | apply Ext.drew | apply Ext.alloc)); done)))) (by omega) ?hy (by rfl) _ _ (by rfl) (by rfl) (by rfl) ?_; (case hy => first | exact new_cell rfl | (simp; done)); intro b8 c8 w8 ho8 hn8 hg8 hold8; have HC8 := hold8 ii _ (by omega) (HWC.out _ (HX7.trans (by (repeat (first | exact Ext.refl _ | apply Ext.drew | apply Ext.alloc)); done))); have HB8 := box_of hb5 (hn8 _ _ _ _ ((Below.block (HX7.trans (by (repeat (first | exact Ext.refl _ | apply Ext.drew | apply Ext.alloc)); done)) _ (heap_lt hb5)).trans hb5) (by decide)) (HK.out w5 (Ext.refl w5)); have HS8 := And.intro HB8.1 (And.intro HB8.2.1 (And.intro HB8.2.2.1 (And.intro HB8.2.2.2 HC8))); have HG8 := hn8.grids (HGS.out.ext (HX7.trans (by (repeat (first | exact Ext.refl _ | apply Ext.drew | apply Ext.alloc)); done))); have HO8 := hn8.sw (HS5.out.ext (HX7.trans (by (repeat (first | exact Ext.refl _ | apply Ext.drew | apply Ext.alloc)); done))); have HX8 := Below.grown (HE5.out.trans (HX7.trans (by (repeat (first | exact Ext.refl _ | apply Ext.drew | apply Ext.alloc)); done))) hg8 (Nat.le_trans hw5 (Ext.size (w := w5) (HX7.trans (by (repeat (first | exact Ext.refl _ | apply Ext.drew | apply Ext.alloc)); done)))) (fun j hj => by cases hj; exact HBW.out))
                | (refine app_sws_step (B := w5.heap.size) (xs := [] ++ ss6) (ys := [s]) (ho6.ext (by (repeat (first | exact Ext.refl _ | apply Ext.drew | apply Ext.alloc)); done)) (Nat.le_trans HX6.size (Ext.size (w := w6) (by (repeat (first | exact Ext.refl _ | apply Ext.drew | apply Ext.alloc)); done))) (by simp; omega) ?hy (by rfl) _ _ (by rfl) (by rfl) (by rfl) ?_; (case hy => exact sw_cells (by first | (simp; done) | exact hg6.cell (by simp) (by simp [Value.ownBlock])) (by first | (simp; done) | exact hg6.cell (by simp) (by simp [Value.ownBlock])) (by first | (simp; done) | exact hg6.cell (by simp) (by simp [Value.ownBlock])) (by first | (simp; done) | exact hg6.cell (by simp) (by simp [Value.ownBlock]))); intro v7 w7 ho7 hb7 hg7; have HX7 : Ext w5 w7 := hb7 w5 (HX6.trans (by (repeat (first | exact Ext.refl _ | apply Ext.drew | apply Ext.alloc)); done)); obtain ⟨g7, c7, ss7, hv7, hl7, hy7⟩ := way_of (d := ss6.length + 1) ho7 (by simp) (by omega); subst hv7; have HY7 : WayO w7 0 (.slice (some ⟨g7, 0, none⟩) (ss6.length + 1) c7) (ss6.length + 1) := ⟨g7, c7, ss7, rfl, hl7, hy7⟩)
                | (refine app_sws_step (B := w5.heap.size) (xs := []) (ys := ss6) ((OwnS.empty w5 w5.heap.size (Nat.le_refl _)).ext (by (repeat (first | assumption | exact Ext.refl _ | apply Ext.drew | apply Ext.alloc)); done)) (by first | (simp; done) | (simp; omega)) (by simp; omega) (HSRC.out _ (by (repeat (first | assumption | exact Ext.refl _ | apply Ext.drew | apply Ext.alloc)); done)) (by rfl) _ _ (by rfl) (by rfl) (by rfl) ?_; intro v6 w6 ho6 hb6 hg6; have HX6 : Ext w5 w6 := hb6 w5 (by (repeat (first | assumption | exact Ext.refl _ | apply Ext.drew | apply Ext.alloc)); done))
                | (refine app_sws_step (B := w5.heap.size) (xs := []) (ys := ss6) ((OwnS.empty1 w5 _ w5.heap.size (Nat.le_refl _)).ext (by (repeat (first | assumption | exact Ext.refl _ | apply Ext.drew | apply Ext.alloc)); done)) (by first | (simp; done) | (simp; omega)) (by simp; omega) (HSRC.out _ (by (repeat (first | assumption | exact Ext.refl _ | apply Ext.drew | apply Ext.alloc)); done)) (by rfl) _ _ (by rfl) (by rfl) (by rfl) ?_; intro v6 w6 ho6 hb6 hg6; have HX6 : Ext w5 w6 := hb6 w5 (by (repeat (first | assumption | exact Ext.refl _ | apply Ext.drew | apply Ext.alloc)); done))) | fail
              all_goals
                have HV8 : Hid (VSt w w8 rows cols root (.slice (some ⟨b5, 0, none⟩) (ln + 1) c5) (.slice (some ⟨b8, 0, none⟩) (ln + 1) c8) (qs ++ [y]) (ds ++ [ss6.length + 1]) ii) := Lib.hid ⟨HX8, by rw [← hln.out]; exact HG8, by rw [← hdsl]; exact ho8, HBF.out, HCL.out⟩
                have HO9 := Lib.hid HO8
                have HLN9 : Hid ((qs ++ [y]).length = ln + 1) := Lib.hid (by rw [List.length_append, hln.out]; rfl)
                have hln9 : ln + 1 ≤ 33554432 := by have := HV8.out.few; rw [HLN9.out] at this; exact this
                have HQD9 : Hid ((qs ++ [y])[ii]? = some q ∧ (ds ++ [ss6.length + 1])[ii]? = some ss6.length) := Lib.hid ⟨by rw [List.getElem?_append_left (by rw [hln.out]; exact hlt)]; exact hQD.out.1, by rw [List.getElem?_append_left (by rw [hdsl]; exact hlt)]; exact hQD.out.2⟩
                clear ho8 hn8 hg8 HG8 HO8 HX8 ho6 hb6 hg6 HX6 ho7 hb7 hg7 HX7 HY7 hy7 hold8 HC8 HB8 HS8
                go_wp2_with fail
                go_roundw
                case rel => exact ⟨ll + 1, b5, c5, b8, c8, ln + 1, _, _, by go_num, rfl, by first | rfl | rw [hdsl], by omega, by omega, hln9, HLN9, HV8, HQD9, HO9, HFN⟩
                case measure => simp [intOf]; omega
        · obtain rfl : ll = sl := by omega
          have HNX : Hid (VSt w wr rows cols root (.slice (some ⟨bq, 0, none⟩) ln cq) (.slice (some ⟨bw, 0, none⟩) ln cw) qs ds (ii + 1)) := Lib.hid ⟨hP.out.ext, hP.out.list, hP.out.ways, hP.out.bfs.next hQD.out.1 hQD.out.2 (fun y hy => by
            rw [HN.out, HKC.out] at hy
            obtain ⟨_, s, hs, hsw⟩ := hy
            obtain ⟨l', hl'⟩ := List.getElem?_of_mem (HSA.out s hs)
            have hlt' : l' < ll := by rw [← HSL.out]; exact (List.getElem?_eq_some_iff.1 hl').1
            exact hF.out l' s hlt' hl' y hsw), hP.out.cls⟩
          clear hP hQD hS hF
          go_wp2_with fail
          go_roundw
          case rel => exact ⟨ii + 1, bq, cq, bw, cw, ln, qs, ds, by go_num, rfl, rfl, by omega, hl3, hln, HNX⟩
          case measure => simp [intOf]; omega
    · obtain rfl : ii = ln := by omega
      have hP := hP.out
      rw [← hln.out] at hP
      have HEND := Lib.hid hP
      have HLE := Lib.hid hln.out
      clear hP
      go_wp2_with fail
      exact bodyPost_ret (v := .tuple #[.slice (some ⟨bq, 0, none⟩) ii cq, .slice (some ⟨bw, 0, none⟩) ii cw]) (by simp [results, Try.results59, go_sem]) rfl ⟨_, _, qs, ds, rfl, by rw [← HLE.out]; exact HEND.out⟩
end Go.Proofs.Ytlhjbpachpjpkaa
