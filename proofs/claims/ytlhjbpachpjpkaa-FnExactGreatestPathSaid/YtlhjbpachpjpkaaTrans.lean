/- Transposition. -/
import Derived.Test.YtlhjbpachpjpkaaCopy
import Derived.Test.YtlhjbpachpjpkaaReA
namespace Go.Proofs.Ytlhjbpachpjpkaa
open Go.RowKit

/-- the cell in row i and column j -/
def at2 (g : List (List Int)) (i j : Nat) : Int := (g[i]?.getD [])[j]?.getD 0
theorem at2_of {g : List (List Int)} {i j : Nat} {r : List Int} {x : Int} (h : g[i]? = some r) (k : r[j]? = some x) : at2 g i j = x := by unfold at2; rw [h, Option.getD_some, k, Option.getD_some]
/-- rows of this length -/
def Shape (g : List (List Int)) (n m : Nat) : Prop := g.length = n ∧ ∀ r ∈ g, r.length = m
theorem Shape.set {g : List (List Int)} {n m : Nat} (h : Shape g n m) {i : Nat} {r : List Int} (hr : r.length = m) : Shape (g.set i r) n m := by
  refine ⟨by rw [List.length_set]; exact h.1, fun r' hr' => ?_⟩
  rcases List.mem_or_eq_of_mem_set hr' with h1 | h1
  · exact h.2 r' h1
  · rw [h1]; exact hr
theorem Shape.row {g : List (List Int)} {n m : Nat} (h : Shape g n m) {i : Nat} {r : List Int} (hr : g[i]? = some r) : r.length = m := h.2 r (List.mem_of_getElem? hr)
theorem Shape.get {g : List (List Int)} {n m : Nat} (h : Shape g n m) {i : Nat} (hi : i < n) : ∃ r, g[i]? = some r ∧ r.length = m := by
  have hl : i < g.length := by rw [h.1]; exact hi
  exact ⟨g[i], List.getElem?_eq_getElem hl, h.row (List.getElem?_eq_getElem hl)⟩
theorem at2_set {g : List (List Int)} {x y : Nat} {r : List Int} {c : Int} (h : g[x]? = some r) (hy : y < r.length) (i j : Nat) : at2 (g.set x (r.set y c)) i j = if i = x ∧ j = y then c else at2 g i j := by
  have hx : x < g.length := by
    rcases Nat.lt_or_ge x g.length with h1 | h1
    · exact h1
    · rw [List.getElem?_eq_none h1] at h; cases h
  by_cases h1 : i = x
  · subst h1
    unfold at2
    rw [List.getElem?_set_self hx, h]
    simp only [Option.getD_some]
    by_cases h2 : j = y
    · subst h2; rw [List.getElem?_set_self hy]; simp
    · rw [List.getElem?_set_ne (fun h => h2 h.symm)]; simp [h2]
  · unfold at2
    rw [List.getElem?_set_ne (fun h => h1 h.symm)]; simp [h1]
theorem grid_ext {g q : List (List Int)} {n m : Nat} (hg : Shape g n m) (hq : Shape q n m) (h : ∀ i j, i < n → j < m → at2 g i j = at2 q i j) : g = q := by
  apply List.ext_getElem?
  intro i
  by_cases hi : i < n
  · obtain ⟨r, hr, hrl⟩ := hg.get hi
    obtain ⟨s, hs, hsl⟩ := hq.get hi
    rw [hr, hs]
    congr 1
    apply List.ext_getElem
    · omega
    · intro j h1 h2
      have := h i j hi (by omega)
      unfold at2 at this
      rw [hr, hs] at this
      simpa [List.getElem?_eq_getElem h1, List.getElem?_eq_getElem h2] using this
  · rw [List.getElem?_eq_none (by rw [hg.1]; omega), List.getElem?_eq_none (by rw [hq.1]; omega)]

/-- rows and columns exchanged -/
def tr (m : List (List Int)) : List (List Int) := (List.range (m.headD []).length).map fun x => m.map fun r => r[x]?.getD 0
theorem tr_shape (m : List (List Int)) : Shape (tr m) (m.headD []).length m.length := by
  refine ⟨by simp [tr], fun r hr => ?_⟩
  obtain ⟨x, _, rfl⟩ := List.mem_map.1 hr
  simp
theorem at2_tr (m : List (List Int)) {i j : Nat} (hi : i < (m.headD []).length) (hj : j < m.length) : at2 (tr m) i j = at2 m j i := by
  have e : (tr m)[i]? = some (m.map fun r => r[i]?.getD 0) := by unfold tr; rw [List.getElem?_map, List.getElem?_range hi]; rfl
  have h1 : at2 (tr m) i j = (m.map fun r => r[i]?.getD 0)[j]?.getD 0 := by unfold at2; rw [e, Option.getD_some]
  have h2 : at2 m j i = m[j][i]?.getD 0 := by unfold at2; rw [List.getElem?_eq_getElem hj, Option.getD_some]
  rw [h1, h2, List.getElem?_map, List.getElem?_eq_getElem hj]; rfl
theorem gridOk_shape {m : List (List Int)} {lo hi : Int} (h : gridOk m lo hi = true) : Shape m m.length (m.headD []).length ∧ 1 ≤ m.length ∧ m.length ≤ 5 ∧ 1 ≤ (m.headD []).length ∧ (m.headD []).length ≤ 5 := by
  obtain ⟨h1, h2⟩ := gridOk_iff.1 h
  refine ⟨⟨rfl, fun r hr => (h2 r hr).1⟩, h1.1, h1.2, ?_⟩
  cases m with
  | nil => simp at h1
  | cons r0 m => have := (h2 r0 List.mem_cons_self).2.1; simpa using this
theorem gridOk_tr {m : List (List Int)} {lo hi : Int} (h : gridOk m lo hi = true) : gridOk (tr m) lo hi = true := by
  obtain ⟨hs, h1, h2, h3, h4⟩ := gridOk_shape h
  have ht := tr_shape m
  obtain ⟨_, hm⟩ := gridOk_iff.1 h
  have hh : ((tr m).headD []).length = m.length := by
    cases e : tr m with
    | nil => exfalso; have := ht.1; rw [e, List.length_nil] at this; omega
    | cons r0 q => have := ht.2 r0 (by rw [e]; exact List.mem_cons_self); simpa using this
  rw [gridOk_iff]
  refine ⟨by rw [ht.1]; exact ⟨h3, h4⟩, fun r hr => ⟨by rw [hh, ht.2 r hr], by rw [ht.2 r hr]; exact ⟨h1, h2⟩, ?_⟩⟩
  obtain ⟨x, hx, rfl⟩ := List.mem_map.1 hr
  have hx' := List.mem_range.1 hx
  unfold allIn
  rw [List.all_eq_true]
  intro v hv
  obtain ⟨r', hr', rfl⟩ := List.mem_map.1 hv
  obtain ⟨e1, _, e3⟩ := hm r' hr'
  have hxl : x < r'.length := by omega
  rw [List.getElem?_eq_getElem hxl, Option.getD_some]
  exact (List.all_eq_true.1 e3) _ (List.getElem_mem hxl)
/-- what has been put so far -/
def TrAt (m q : List (List Int)) (y x : Nat) : Prop := Shape q (m.headD []).length m.length ∧ ∀ i j, i < (m.headD []).length → j < m.length → (j < y ∨ (j = y ∧ i < x)) → at2 q i j = at2 m j i
theorem TrAt.done {m q : List (List Int)} {x : Nat} (h : TrAt m q m.length x) : q = tr m :=
  grid_ext h.1 (tr_shape m) fun i j hi hj => by rw [h.2 i j hi hj (.inl hj), at2_tr m hi hj]
theorem TrAt.next {m q : List (List Int)} {y x : Nat} {r s : List Int} {c : Int} (h : TrAt m q y x) (hq : q[x]? = some s) (hm : m[y]? = some r) (hc : r[x]? = some c) (hy : y < m.length) : TrAt m (q.set x (s.set y c)) y (x + 1) := by
  have hs := h.1.row hq
  refine ⟨h.1.set (by rw [List.length_set]; exact hs), fun i j hi hj hp => ?_⟩
  rw [at2_set hq (by omega)]
  by_cases e : i = x ∧ j = y
  · rw [if_pos e, e.1, e.2, at2_of hm hc]
  · rw [if_neg e]
    exact h.2 i j hi hj (by omega)
theorem TrAt.row {m q : List (List Int)} {y x : Nat} (h : TrAt m q y x) (hx : (m.headD []).length ≤ x) : TrAt m q (y + 1) 0 :=
  ⟨h.1, fun i j hi hj hp => h.2 i j hi hj (by omega)⟩
theorem shape_zeros (n m : Nat) : Shape (List.replicate n (List.replicate m (0 : Int))) n m := ⟨by simp, fun r hr => by rw [List.eq_of_mem_replicate hr]; simp⟩

set_option maxHeartbeats 4000000 in
theorem specTransposeOf_any (A : Option Addr) (c : Nat) (m : List (List Int)) (w : World) (hl : m.length ≤ 1048576) (hr : ∀ r ∈ m, r.length ≤ 1048576) (hx : GridAt w A m) :
    Calls Try.prog 91 #[.slice A m.length c] w fun e w' => (gridOk m 0 1 = false → e = .returned (.slice none 0 0) ∧ w = w') ∧
      (gridOk m 0 1 = true → ∃ b cap, e = .returned (.slice (some ⟨b, 0, none⟩) (m.headD []).length cap) ∧ OwnGrid w' w.heap.size (.slice (some ⟨b, 0, none⟩) (m.headD []).length cap) (tr m) ∧ Ext w w') := by
  have ci := specImageOk_any A c m w hl hr hx
  cases h : gridOk m 0 1
  · rw [h] at ci
    go_enter Try.func91, Try.ntmps91
    go_wp2_with (go_at_call 32; refine ci.mono ?_; rintro e w' ⟨rfl, rfl⟩)
    go_ret
    exact ⟨fun _ => ⟨rfl, rfl⟩, fun h => by cases h⟩
  · rw [h] at ci
    obtain ⟨hsh, h1, h2, h3, h4⟩ := gridOk_shape h
    obtain ⟨r0, m', rfl⟩ : ∃ r0 m', m = r0 :: m' := by
      cases m with
      | nil => simp at h1
      | cons r0 m' => exact ⟨r0, m', rfl⟩
    obtain ⟨b, o, R0, c0, rfl, _, hcell0, _⟩ := hx.head
    have hd0 : ((r0 :: m').headD []).length = r0.length := rfl
    generalize hg : r0 :: m' = m at *
    obtain ⟨K, hK⟩ : ∃ K, (m.headD []).length = K := ⟨_, rfl⟩
    have HSH := Lib.hid hsh
    have HK := Lib.hid hK
    rw [hK] at h3 h4 hd0
    have HD0 := Lib.hid hd0
    have hk0 : r0.length = K := hd0.symm
    rw [hk0] at hcell0
    suffices hs : Calls Try.prog 91 #[.slice (some ⟨b, o, none⟩) m.length c] w fun e w' => ∃ b cap, e = .returned (.slice (some ⟨b, 0, none⟩) K cap) ∧ OwnGrid w' w.heap.size (.slice (some ⟨b, 0, none⟩) K cap) (tr m) ∧ Ext w w' by
      refine hs.mono ?_
      rintro e w' ⟨b', cap', k1, k2⟩
      exact ⟨fun h => (by cases h), fun _ => ⟨b', cap', by rw [hK]; exact k1, by rw [hK]; exact k2⟩⟩
    clear hg hd0 hk0 hr hsh hK h
    go_enter Try.func91, Try.ntmps91
    go_wp2_with (go_at_call 32; refine ci.mono ?_; rintro e w' ⟨rfl, rfl⟩)
    refine (l02Empty_any K m.length w h3 (by omega) h1 (by omega)).mono ?_
    rintro e w1 ⟨B, cap, rfl, ho, he⟩
    have HO := Lib.hid ho
    have HE := Lib.hid he
    clear ho he ci hcell0
    go_wp2
    go_loopw [20, 4, 5, 6, 7, 27] (fun i _ _ _ _ _ wr => ∃ (y : Nat) (q : List (List Int)), y ≤ m.length ∧ i = .int .i64 y ∧ Hid (TrAt m q y 0) ∧ Hid (OwnGrid wr w.heap.size (.slice (some ⟨B, 0, none⟩) K cap) q) ∧ Hid (Ext w wr)) (fun i _ _ _ _ _ _ => m.length - (intOf i).toNat)
    case atStart => exact ⟨0, _, Nat.zero_le _, rfl, Lib.hid ⟨by rw [HK.out]; exact shape_zeros _ _, fun i j _ _ h => by omega⟩, HO, HE⟩
    case round =>
      rename World => wo
      obtain ⟨y, q, hy, rfl, ht, ho, he⟩ := hrel
      by_cases hlt : y < m.length
      · obtain ⟨R, cr, r, HX, hcell0, hri⟩ := hx.at1 hlt
        have hrl : r.length = K := by have := HSH.out.row HX.out; rw [HK.out] at this; exact this
        have HRL := Lib.hid hrl
        rw [hrl] at hcell0
        have hcell : wo.cell? ⟨b, o + y, none⟩ = some (.slice R K cr) := (he.out.cell (p := ⟨b, o + y, none⟩) (World.block_lt_of_cell? _ _ hcell0)).trans hcell0
        have HRI := Lib.hid hri
        clear hrl hcell0 hri
        go_wp2
        go_loopw [27, 6, 7] (fun i _ _ wr => ∃ (x : Nat) (q : List (List Int)), x ≤ K ∧ i = .int .i64 x ∧ Hid (TrAt m q y x) ∧ Hid (OwnGrid wr w.heap.size (.slice (some ⟨B, 0, none⟩) K cap) q) ∧ Hid (Ext w wr)) (fun i _ _ _ => K - (intOf i).toNat)
        case atStart => exact ⟨0, q, Nat.zero_le _, rfl, ht, ho, he⟩
        case round =>
          clear ht ho
          obtain ⟨x, q, hx', rfl, ht, ho, he'⟩ := hrel
          by_cases hlx : x < K
          · have hxr : x < r.length := by have := HRL.out; omega
            obtain ⟨b', o', v, rfl, _, HV, hv⟩ := (HRI.out.ext he'.out).at_ hxr
            obtain ⟨s, hs, hsl⟩ := ht.out.1.get (i := x) (by rw [HK.out]; exact hlx)
            obtain ⟨R2, c2, hq1, hle2, hBR, hRl, hints, hfr, hset⟩ := ho.out.row hs (by omega)
            obtain ⟨v0, _, hq2⟩ := hints.at1 (k := y) (by omega)
            rw [Nat.zero_add] at hq2
            rw [hsl] at hq1
            have hfy := hfr y
            have HN := Lib.hid (hset y v (by omega))
            have HT := Lib.hid (ht.out.next (c := v) hs HX.out HV.out hlt)
            have HE2 : Hid (Ext w (wr.setCell ⟨R2, y, none⟩ (.int .i64 v))) := Lib.hid (Below.setCell he'.out hBR _)
            clear hset hfr hints hs hsl hxr ht ho hle2
            go_wp2
            go_roundw
            case rel => exact ⟨x + 1, _, by omega, by go_num, HT, HN, HE2⟩
            case measure => simp [intOf]; omega
          · obtain rfl : x = K := by omega
            go_wp2
            go_roundw
            case rel => exact ⟨y + 1, q, by omega, by go_num, Lib.hid (ht.out.row (by rw [HK.out]; exact Nat.le_refl _)), ho, he'⟩
            case measure => simp [intOf]; omega
      · obtain rfl : y = m.length := by omega
        go_wp2
        go_ret
        exact ⟨B, cap, rfl, by rw [← ht.out.done]; exact ho.out, he.out⟩

set_option maxHeartbeats 4000000 in
theorem implTransposeOf_any (A : Option Addr) (c : Nat) (m : List (List Int)) (w : World) (hl : m.length ≤ 1048576) (hr : ∀ r ∈ m, r.length ≤ 1048576) (hx : GridAt w A m) :
    Calls Try.prog 38 #[.slice A m.length c] w fun e w' => (gridOk m 0 1 = false → e = .returned (.slice none 0 0) ∧ w = w') ∧
      (gridOk m 0 1 = true → ∃ b cap, e = .returned (.slice (some ⟨b, 0, none⟩) (m.headD []).length cap) ∧ OwnGrid w' w.heap.size (.slice (some ⟨b, 0, none⟩) (m.headD []).length cap) (tr m) ∧ Ext w w') := by
  have ci := implImageOk_any A c m w hl hr hx
  cases h : gridOk m 0 1
  · rw [h] at ci
    go_enter Try.func38, Try.ntmps38
    go_wp2_with (go_at_call 36; refine ci.mono ?_; rintro e w' ⟨rfl, rfl⟩)
    go_ret
    exact ⟨fun _ => ⟨rfl, rfl⟩, fun h => by cases h⟩
  · rw [h] at ci
    obtain ⟨hsh, h1, h2, h3, h4⟩ := gridOk_shape h
    obtain ⟨r0, m', rfl⟩ : ∃ r0 m', m = r0 :: m' := by
      cases m with
      | nil => simp at h1
      | cons r0 m' => exact ⟨r0, m', rfl⟩
    obtain ⟨b, o, R0, c0, rfl, _, hcell0, _⟩ := hx.head
    have hd0 : ((r0 :: m').headD []).length = r0.length := rfl
    generalize hg : r0 :: m' = m at *
    obtain ⟨K, hK⟩ : ∃ K, (m.headD []).length = K := ⟨_, rfl⟩
    have HSH := Lib.hid hsh
    have HK := Lib.hid hK
    rw [hK] at h3 h4 hd0
    have HD0 := Lib.hid hd0
    have hk0 : r0.length = K := hd0.symm
    rw [hk0] at hcell0
    suffices hs : Calls Try.prog 38 #[.slice (some ⟨b, o, none⟩) m.length c] w fun e w' => ∃ b cap, e = .returned (.slice (some ⟨b, 0, none⟩) K cap) ∧ OwnGrid w' w.heap.size (.slice (some ⟨b, 0, none⟩) K cap) (tr m) ∧ Ext w w' by
      refine hs.mono ?_
      rintro e w' ⟨b', cap', k1, k2⟩
      exact ⟨fun h => (by cases h), fun _ => ⟨b', cap', by rw [hK]; exact k1, by rw [hK]; exact k2⟩⟩
    clear hg hd0 hk0 hr hsh hK h
    go_enter Try.func38, Try.ntmps38
    go_wp2_with (go_at_call 36; refine ci.mono ?_; rintro e w' ⟨rfl, rfl⟩)
    refine (newGrid_any K m.length w h3 (by omega) h1 (by omega)).mono ?_
    rintro e w1 ⟨B, cap, rfl, ho, he⟩
    have HO := Lib.hid ho
    have HE := Lib.hid he
    clear ho he ci hcell0
    go_wp2
    go_loopw [20, 4, 5, 6, 7, 27] (fun i _ _ _ _ _ wr => ∃ (y : Nat) (q : List (List Int)), y ≤ m.length ∧ i = .int .i64 y ∧ Hid (TrAt m q y 0) ∧ Hid (OwnGrid wr w.heap.size (.slice (some ⟨B, 0, none⟩) K cap) q) ∧ Hid (Ext w wr)) (fun i _ _ _ _ _ _ => m.length - (intOf i).toNat)
    case atStart => exact ⟨0, _, Nat.zero_le _, rfl, Lib.hid ⟨by rw [HK.out]; exact shape_zeros _ _, fun i j _ _ h => by omega⟩, HO, HE⟩
    case round =>
      rename World => wo
      obtain ⟨y, q, hy, rfl, ht, ho, he⟩ := hrel
      by_cases hlt : y < m.length
      · obtain ⟨R, cr, r, HX, hcell0, hri⟩ := hx.at1 hlt
        have hrl : r.length = K := by have := HSH.out.row HX.out; rw [HK.out] at this; exact this
        have HRL := Lib.hid hrl
        rw [hrl] at hcell0
        have hcell : wo.cell? ⟨b, o + y, none⟩ = some (.slice R K cr) := (he.out.cell (p := ⟨b, o + y, none⟩) (World.block_lt_of_cell? _ _ hcell0)).trans hcell0
        have HRI := Lib.hid hri
        clear hrl hcell0 hri
        go_wp2
        go_loopw [27, 6, 7] (fun i _ _ wr => ∃ (x : Nat) (q : List (List Int)), x ≤ K ∧ i = .int .i64 x ∧ Hid (TrAt m q y x) ∧ Hid (OwnGrid wr w.heap.size (.slice (some ⟨B, 0, none⟩) K cap) q) ∧ Hid (Ext w wr)) (fun i _ _ _ => K - (intOf i).toNat)
        case atStart => exact ⟨0, q, Nat.zero_le _, rfl, ht, ho, he⟩
        case round =>
          clear ht ho
          obtain ⟨x, q, hx', rfl, ht, ho, he'⟩ := hrel
          by_cases hlx : x < K
          · have hxr : x < r.length := by have := HRL.out; omega
            obtain ⟨b', o', v, rfl, _, HV, hv⟩ := (HRI.out.ext he'.out).at_ hxr
            obtain ⟨s, hs, hsl⟩ := ht.out.1.get (i := x) (by rw [HK.out]; exact hlx)
            obtain ⟨R2, c2, hq1, hle2, hBR, hRl, hints, hfr, hset⟩ := ho.out.row hs (by omega)
            obtain ⟨v0, _, hq2⟩ := hints.at1 (k := y) (by omega)
            rw [Nat.zero_add] at hq2
            rw [hsl] at hq1
            have hfy := hfr y
            have HN := Lib.hid (hset y v (by omega))
            have HT := Lib.hid (ht.out.next (c := v) hs HX.out HV.out hlt)
            have HE2 : Hid (Ext w (wr.setCell ⟨R2, y, none⟩ (.int .i64 v))) := Lib.hid (Below.setCell he'.out hBR _)
            clear hset hfr hints hs hsl hxr ht ho hle2
            go_wp2
            go_roundw
            case rel => exact ⟨x + 1, _, by omega, by go_num, HT, HN, HE2⟩
            case measure => simp [intOf]; omega
          · obtain rfl : x = K := by omega
            go_wp2
            go_roundw
            case rel => exact ⟨y + 1, q, by omega, by go_num, Lib.hid (ht.out.row (by rw [HK.out]; exact Nat.le_refl _)), ho, he'⟩
            case measure => simp [intOf]; omega
      · obtain rfl : y = m.length := by omega
        go_wp2
        go_ret
        exact ⟨B, cap, rfl, by rw [← ht.out.done]; exact ho.out, he.out⟩
end Go.Proofs.Ytlhjbpachpjpkaa
