/- Two images with the same sums, drawn: the switches, their list, a switch carried out, MakePair. -/
import Derived.Test.YtlhjbpachpjpkaaLineSums1
import Derived.Test.YtlhjbpachpjpkaaMkA
import Derived.Test.YtlhjbpachpjpkaaCellIn
import Derived.BigQuiet
import Derived.Deep.QuietTactic
import Derived.Deep.DeepCutAuto
import Derived.Deep.RegionWith
namespace Go.Proofs.Ytlhjbpachpjpkaa
open Go.RowKit Tomo

/-- the switch is valid: its corners alternate -/
def swB (m : Grid) (a b x y : Nat) : Bool := (at2 m b y == at2 m a x && at2 m a y == 1 - at2 m a x) && at2 m b x == 1 - at2 m a x
theorem swB_iff {m : Grid} {a b x y : Nat} : swB m a b x y = true ↔ at2 m b y = at2 m a x ∧ at2 m a y = 1 - at2 m a x ∧ at2 m b x = 1 - at2 m a x := by
  unfold swB
  rw [Bool.and_eq_true, Bool.and_eq_true, beq_iff_eq, beq_iff_eq, beq_iff_eq, and_assoc]
/-- the cell has been turned: rows a, b, columns x, y; p whole rows and r cells more -/
def swDone (a b x y p r i l : Nat) : Prop := (((i = a ∧ 0 < p) ∨ (i = b ∧ 1 < p)) ∧ (l = x ∨ l = y)) ∨ (((p = 0 ∧ i = a) ∨ (p = 1 ∧ i = b)) ∧ ((l = x ∧ 0 < r) ∨ (l = y ∧ 1 < r)))
instance (a b x y p r i l : Nat) : Decidable (swDone a b x y p r i l) := by unfold swDone; infer_instance
def swF (m : Grid) (a b x y p r i l : Nat) : Int := if swDone a b x y p r i l then 1 - at2 m i l else at2 m i l
def SwSt (m : Grid) (n k a b x y p r : Nat) (q : Grid) : Prop := Shape q n k ∧ ∀ i l, i < n → l < k → at2 q i l = swF m a b x y p r i l
theorem SwSt.start {m : Grid} {n k a b x y : Nat} (h : Shape m n k) : SwSt m n k a b x y 0 0 m :=
  ⟨h, fun i l _ _ => by unfold swF; rw [if_neg (by unfold swDone; omega)]⟩
theorem SwSt.row {m : Grid} {n k a b x y p : Nat} {q : Grid} (h : SwSt m n k a b x y p 2 q) (hp : p < 2) : SwSt m n k a b x y (p + 1) 0 q := by
  refine ⟨h.1, fun i l hi hl => ?_⟩
  rw [h.2 i l hi hl]
  unfold swF
  by_cases hc : swDone a b x y p 2 i l
  · rw [if_pos hc, if_pos (by unfold swDone at hc ⊢; omega)]
  · rw [if_neg hc, if_neg (by unfold swDone at hc ⊢; omega)]
theorem SwSt.put {m : Grid} {n k a b x y p r : Nat} {q : Grid} {row : List Int} {Y X : Nat} (h : SwSt m n k a b x y p r q) (hp : p < 2) (hr : r < 2) (hY : Y = if p = 0 then a else b) (hX : X = if r = 0 then x else y)
    (hXk : X < k) (hrow : q[Y]? = some row) : SwSt m n k a b x y p (r + 1) (q.set Y (row.set X (1 - at2 m Y X))) := by
  have hrl : row.length = k := h.1.2 row (List.mem_of_getElem? hrow)
  refine ⟨shape_set h.1 hrow, fun i l hi hl => ?_⟩
  rw [at2_set hrow (by omega)]
  unfold swF
  have hp' : p = 0 ∨ p = 1 := by omega
  have hr' : r = 0 ∨ r = 1 := by omega
  by_cases hc : i = Y ∧ l = X
  · rw [if_pos hc, hc.1, hc.2, if_pos]
    unfold swDone
    rcases hp' with rfl | rfl <;> rcases hr' with rfl | rfl <;> simp at hX hY <;> omega
  · rw [if_neg hc, h.2 i l hi hl]
    unfold swF
    by_cases hd : swDone a b x y p r i l
    · rw [if_pos hd, if_pos]
      unfold swDone at hd ⊢
      rcases hp' with rfl | rfl <;> rcases hr' with rfl | rfl <;> simp at hX hY <;> omega
    · rw [if_neg hd, if_neg]
      unfold swDone at hd ⊢
      rcases hp' with rfl | rfl <;> rcases hr' with rfl | rfl <;> simp at hX hY <;> omega
/-- all four are turned -/
theorem swF_done {m : Grid} {a b x y i l : Nat} : swF m a b x y 2 0 i l = if (i = a ∨ i = b) ∧ (l = x ∨ l = y) then 1 - at2 m i l else at2 m i l := by
  unfold swF
  by_cases hc : (i = a ∨ i = b) ∧ (l = x ∨ l = y)
  · rw [if_pos hc, if_pos (by unfold swDone; omega)]
  · rw [if_neg hc, if_neg (by unfold swDone; omega)]
theorem row_sum_at {q : Grid} {n k i : Nat} (h : Shape q n k) {row : List Int} (hr : q[i]? = some row) : row.sum = sumTo (at2 q i) k := by
  rw [row_sum hr k (by rw [h.2 row (List.mem_of_getElem? hr)]; exact Nat.le_refl _), List.take_of_length_le (by rw [h.2 row (List.mem_of_getElem? hr)]; exact Nat.le_refl _)]
theorem sw_rows {m q : Grid} {n k a b x y : Nat} (hm : Shape m n k) (hq : SwSt m n k a b x y 2 0 q) (ha : a < n) (hb : b < n) (hx : x < k) (hy : y < k) (hab : a ≠ b) (hxy : x ≠ y) (hs : swB m a b x y = true) : q.map List.sum = m.map List.sum := by
  obtain ⟨s1, s2, s3⟩ := swB_iff.1 hs
  apply List.ext_getElem?
  intro i
  rw [List.getElem?_map, List.getElem?_map]
  by_cases hi : i < n
  · have hi1 : i < q.length := by rw [hq.1.1]; exact hi
    have hi2 : i < m.length := by rw [hm.1]; exact hi
    have e1 : q[i]? = some q[i] := List.getElem?_eq_getElem hi1
    have e2 : m[i]? = some m[i] := List.getElem?_eq_getElem hi2
    rw [e1, e2]
    show some (q[i].sum) = some (m[i].sum)
    rw [row_sum_at hq.1 e1, row_sum_at hm e2]
    congr 1
    have key : ∀ d : Int, (∀ l, l < k → at2 q i l = at2 m i l + ((if x = l then d else 0) + (if y = l then -d else 0))) → sumTo (at2 q i) k = sumTo (at2 m i) k := fun d hd => by
      rw [sumTo_congr hd, sumTo_add, sumTo_add, sumTo_hit d hx, sumTo_hit (-d) hy]; omega
    by_cases hia : i = a
    · subst hia
      refine key (1 - 2 * at2 m i x) fun l hl => ?_
      rw [hq.2 i l hi hl, swF_done]
      by_cases h1 : x = l
      · subst h1
        rw [if_pos (by omega), if_pos rfl, if_neg (by omega)]; omega
      · by_cases h2 : y = l
        · subst h2
          rw [if_pos (by omega), if_neg h1, if_pos rfl]; omega
        · rw [if_neg (by omega), if_neg h1, if_neg h2]; omega
    · by_cases hib : i = b
      · subst hib
        refine key (1 - 2 * at2 m i x) fun l hl => ?_
        rw [hq.2 i l hi hl, swF_done]
        by_cases h1 : x = l
        · subst h1
          rw [if_pos (by omega), if_pos rfl, if_neg (by omega)]; omega
        · by_cases h2 : y = l
          · subst h2
            rw [if_pos (by omega), if_neg h1, if_pos rfl]; omega
          · rw [if_neg (by omega), if_neg h1, if_neg h2]; omega
      · refine key 0 fun l hl => ?_
        rw [hq.2 i l hi hl, swF_done, if_neg (by omega)]
        split <;> split <;> omega
  · rw [List.getElem?_eq_none (by rw [hq.1.1]; omega), List.getElem?_eq_none (by rw [hm.1]; omega)]
theorem swB_tr {m : Grid} {n k a b x y : Nat} (hm : Img m n k) (ha : a < n) (hb : b < n) (hx : x < k) (hy : y < k) (h : swB m a b x y = true) : swB (tr m) x y a b = true := by
  obtain ⟨s1, s2, s3⟩ := swB_iff.1 h
  have hk := hm.head
  have hn := hm.1.1
  rw [swB_iff, at2_tr m (by omega) (by omega), at2_tr m (by omega) (by omega), at2_tr m (by omega) (by omega), at2_tr m (by omega) (by omega)]
  omega
/-- the image turned at a valid switch: an image of the same size with the same sums -/
theorem sw_same {m q : Grid} {n k a b x y : Nat} (hg : gridOk m 0 1 = true) (hm : Img m n k) (hq : SwSt m n k a b x y 2 0 q) (ha : a < b) (hb : b < n) (hx : x < y) (hy : y < k) (hs : swB m a b x y = true) :
    gridOk q 0 1 = true ∧ Img q n k ∧ rsI q = rsI m ∧ csI q = csI m := by
  have hbit : BitG q := fun r hr z hz => by
    obtain ⟨i, hi, rfl⟩ := List.mem_iff_getElem.1 hr
    obtain ⟨l, hl, rfl⟩ := List.mem_iff_getElem.1 hz
    have hw := hq.1.2 _ (List.getElem_mem hi)
    have hin : i < n := by rw [← hq.1.1]; exact hi
    have he : at2 q i l = q[i][l] := at2_of (List.getElem?_eq_getElem hi) (List.getElem?_eq_getElem hl)
    rw [← he, hq.2 i l hin (by omega), swF_done]
    have hmb : at2 m i l = 0 ∨ at2 m i l = 1 := by
      obtain ⟨r, c, h1, _, h3, h4⟩ := hm.cell hin (show l < k by omega)
      rw [at2_of h1 h3]; exact h4
    split <;> omega
  have hgq := bit_grid hq.1 hbit hm.2.1 hm.2.2.1
  have hqi : Img q n k := by
    have h := Img.of hgq
    rw [hq.1.1] at h
    have h2 := hq.1
    have e : (q.headD []).length = k := by
      cases hq' : q with
      | nil => rw [hq'] at h2; have h0 := h2.1; have := hm.2.1; rw [List.length_nil] at h0; omega
      | cons r l => rw [hq'] at h2; exact h2.2 r List.mem_cons_self
    rw [e] at h
    exact h
  refine ⟨hgq, hqi, ?_, ?_⟩
  · unfold rsI
    rw [if_pos hgq, if_pos hg]
    exact sw_rows hm.1 hq (by omega) hb (by omega) hy (by omega) (by omega) hs
  · unfold csI
    rw [if_pos hgq, if_pos hg]
    have hqh := hqi.head
    have hmh := hm.head
    have hqt := tr_shape q
    have hmt := tr_shape m
    rw [hqh, hqi.1.1] at hqt
    rw [hmh, hm.1.1] at hmt
    refine sw_rows (n := k) (k := n) (a := x) (b := y) (x := a) (y := b) hmt ⟨hqt, fun i l hi hl => ?_⟩ (by omega) hy (by omega) hb (by omega) (by omega) (swB_tr hm (by omega) hb (by omega) hy hs)
    rw [at2_tr q (by omega) (by rw [hqi.1.1]; exact hl), swF_done, hq.2 l i hl hi, swF_done, at2_tr m (by omega) (by rw [hm.1.1]; exact hl)]
    by_cases hc : (l = a ∨ l = b) ∧ (i = x ∨ i = y)
    · rw [if_pos hc, if_pos hc.symm]
    · rw [if_neg hc, if_neg (fun h => hc h.symm)]

theorem cell_fact {m : Grid} {n k : Nat} (hm : Img m n k) {w : World} {b o : Nat} (hg : GridAt w (some ⟨b, o, none⟩) m) {i l : Nat} (hi : i < n) (hl : l < k) :
    ∃ R c o', w.cell? ⟨b, o + i, none⟩ = some (.slice (some ⟨R, o', none⟩) k c) ∧ w.cell? ⟨R, o' + l, none⟩ = some (.int .i64 (at2 m i l)) := by
  obtain ⟨R, c, r, hr, hq, hints⟩ := hg.at1 (k := i) (by rw [hm.1.1]; exact hi)
  have hrl : r.length = k := hm.1.2 r (List.mem_of_getElem? hr.out)
  obtain ⟨R', o', v, rfl, _, hv, hc⟩ := hints.at_ (k := l) (by omega)
  rw [hrl] at hq
  rw [at2_of hr.out hv.out]
  exact ⟨R', c, o', hq, hc⟩
theorem row_fact {m : Grid} {n k : Nat} (hm : Img m n k) {w : World} {b o : Nat} (hg : GridAt w (some ⟨b, o, none⟩) m) {i : Nat} (hi : i < n) :
    ∃ R c o', w.cell? ⟨b, o + i, none⟩ = some (.slice (some ⟨R, o', none⟩) k c) ∧ ∀ l, l < k → w.cell? ⟨R, o' + l, none⟩ = some (.int .i64 (at2 m i l)) := by
  obtain ⟨R, c, o', h1, _⟩ := cell_fact hm hg hi (show 0 < k by have := hm.2.2.1; omega)
  refine ⟨R, c, o', h1, fun l hl => ?_⟩
  obtain ⟨R2, c2, o2, h2, h3⟩ := cell_fact hm hg hi hl
  rw [h1] at h2
  cases h2
  exact h3
set_option maxRecDepth 100000 in
set_option maxHeartbeats 4000000 in
theorem SwitchOk_any (A : Option Addr) (ca : Nat) (m : Grid) (n k a b x y : Nat) (w : World) (hg : gridOk m 0 1 = true) (hm : Img m n k) (hx : GridAt w A m) (hab : a < b) (hb : b < n) (hxy : x < y) (hy : y < k) :
    Calls Try.prog 99 #[.slice A n ca, .agg #[.int .i64 a, .int .i64 b, .int .i64 x, .int .i64 y]] w fun e w' => e = .returned (.bool (swB m a b x y)) ∧ Ext w w' := by
  obtain ⟨hn1, hn5⟩ := hm.2.1
  obtain ⟨hk1, hk5⟩ := hm.2.2.1
  obtain ⟨b0, o0, _, _, _, rfl, _⟩ := hx.at_ (k := 0) (by rw [hm.1.1]; omega)
  have hrl : ∀ r ∈ m, r.length ≤ 1048576 := fun r hr => by have := hm.1.2 r hr; omega
  have hml : m.length ≤ 1048576 := by have := hm.1.1; omega
  have hmn := hm.1.1
  have hmh := hm.head
  obtain ⟨wb, hwb⟩ : ∃ wb, wb = w.alloc (.cells #[.int .i64 a, .int .i64 b, .int .i64 x, .int .i64 y] 78) := ⟨_, rfl⟩
  have he : Ext w wb := by rw [hwb]; exact (Ext.refl w).alloc _
  have hxb := hx.ext he
  have k1 : cellIn m a x = true := by unfold cellIn; rw [hg, hmn, hmh, Bool.true_and, Bool.and_eq_true, inR_iff, inR_iff]; omega
  have k2 : cellIn m b y = true := by unfold cellIn; rw [hg, hmn, hmh, Bool.true_and, Bool.and_eq_true, inR_iff, inR_iff]; omega
  have c1 := l02In_any (some ⟨b0, o0, none⟩) ca m a x wb hml hrl hxb
  have c2 := l02In_any (some ⟨b0, o0, none⟩) ca m b y wb hml hrl hxb
  rw [k1, hmn] at c1
  rw [k2, hmn] at c2
  obtain ⟨Ra, cRa, oa, qa, fa⟩ := row_fact hm hxb (show a < n by omega)
  obtain ⟨Rb, cRb, ob, qb, fb⟩ := row_fact hm hxb hb
  have f1 := fa x (by omega)
  have f2 := fa y hy
  have f3 := fb x (by omega)
  have f4 := fb y hy
  have HSB : Hid (swB m a b x y = ((at2 m b y == at2 m a x && at2 m a y == 1 - at2 m a x) && at2 m b x == 1 - at2 m a x)) := Lib.hid rfl
  have hbu : at2 m a x = 0 ∨ at2 m a x = 1 := by
    obtain ⟨r, c, h1, _, h3, h4⟩ := hm.cell (show a < n by omega) (show x < k by omega)
    rw [at2_of h1 h3]; exact h4
  obtain ⟨u, hu⟩ : ∃ u, at2 m a x = u := ⟨_, rfl⟩
  obtain ⟨p, hp⟩ : ∃ p, at2 m a y = p := ⟨_, rfl⟩
  obtain ⟨q, hq⟩ : ∃ q, at2 m b x = q := ⟨_, rfl⟩
  obtain ⟨v, hv⟩ : ∃ v, at2 m b y = v := ⟨_, rfl⟩
  rw [hu, hp, hq, hv] at HSB
  rw [hu] at f1 hbu
  rw [hp] at f2
  rw [hq] at f3
  rw [hv] at f4
  have b1 : wb.cell? ⟨w.heap.size, 0, none⟩ = some (.int .i64 a) := by rw [hwb]; simp
  have b2 : wb.cell? ⟨w.heap.size, 1, none⟩ = some (.int .i64 b) := by rw [hwb]; simp
  have b3 : wb.cell? ⟨w.heap.size, 2, none⟩ = some (.int .i64 x) := by rw [hwb]; simp
  have b4 : wb.cell? ⟨w.heap.size, 3, none⟩ = some (.int .i64 y) := by rw [hwb]; simp
  have HE := Lib.hid he
  have HWB := Lib.hid hwb
  have hu0 : 0 ≤ u := by omega
  have hu1 : u ≤ 1 := by omega
  have han : a < n := by omega
  have hxk : x < k := by omega
  have i1 : (a : Int) < (n : Int) := by omega
  have i2 : (b : Int) < (n : Int) := by omega
  have i3 : (x : Int) < (k : Int) := by omega
  have i4 : (y : Int) < (k : Int) := by omega
  have d1 : decide ((b : Int) ≤ (a : Int)) = false := by simp; omega
  have d2 : decide ((y : Int) ≤ (x : Int)) = false := by simp; omega
  clear hbu hwb he hxb hx k1 k2 fa fb hu hp hq hv hmn hmh hml hrl hg hm
  cases e1 : v == u <;> cases e2 : p == 1 - u
  all_goals
    go_enter Try.func99, Try.ntmps99
    go_upto_region 1 with fail
    rw [← HWB.out]
    go_wp2_with fail
    refine c1.mono ?_
    rintro e w' ⟨rfl, rfl⟩
    go_wp2_with fail
    refine c2.mono ?_
    rintro e w' ⟨rfl, rfl⟩
    clear c1 c2
    go_wp2_with fail
    go_quiet (fail)
    go_wp2_with fail
    go_quiet (fail)
    all_goals
      go_wp2_with fail
      go_ret
      exact ⟨ret_bool (by rw [HSB.out, e1, e2]; rfl), HE.out.trans (((Ext.refl _).drewN _).drewN _)⟩

theorem addr_add_s (g j : Nat) : (⟨g, 0, none⟩ : Addr).add j = ⟨g, j, none⟩ := by
  unfold Addr.add
  by_cases h0 : j = 0
  · subst h0; rfl
  · rw [if_neg h0, Nat.zero_add]
structure Sw where
  a : Nat
  b : Nat
  x : Nat
  y : Nat
def flatS : List Sw → List Value
  | [] => []
  | s :: ss => .int .i64 s.a :: .int .i64 s.b :: .int .i64 s.x :: .int .i64 s.y :: flatS ss
theorem flatS_len (ss : List Sw) : (flatS ss).length = ss.length * 4 := by
  induction ss with
  | nil => rfl
  | cons s ss ih => simp only [flatS, List.length_cons, ih]; omega
theorem flatS_app (p q : List Sw) : flatS (p ++ q) = flatS p ++ flatS q := by
  induction p with
  | nil => rfl
  | cons s p ih => simp only [List.cons_append, flatS, ih]
theorem flatS_at {ss : List Sw} : ∀ {k : Nat} {s : Sw}, ss[k]? = some s → (flatS ss)[k * 4]? = some (.int .i64 s.a) ∧ (flatS ss)[k * 4 + 1]? = some (.int .i64 s.b) ∧ (flatS ss)[k * 4 + 2]? = some (.int .i64 s.x) ∧ (flatS ss)[k * 4 + 3]? = some (.int .i64 s.y) := by
  induction ss with
  | nil => intro k s h; simp at h
  | cons e ss ih =>
    intro k s h
    cases k with
    | zero =>
      have h1 : e = s := by simpa using h
      subst h1
      exact ⟨rfl, rfl, rfl, rfl⟩
    | succ k =>
      have h1 : ss[k]? = some s := by simpa using h
      have h2 := ih h1
      rw [show (k + 1) * 4 = k * 4 + 4 by omega]
      exact h2
theorem flatS_one {ss : List Sw} : ∀ u ∈ flatS ss, u.oneCell' = true := by
  induction ss with
  | nil => intro u hu; cases hu
  | cons s ss ih =>
    intro u hu
    simp only [flatS, List.mem_cons] at hu
    rcases hu with rfl | rfl | rfl | rfl | hu
    · rfl
    · rfl
    · rfl
    · rfl
    · exact ih u hu
/-- the switch is valid in the image of this size -/
def SwV (m : Grid) (n k : Nat) (s : Sw) : Prop := s.a < s.b ∧ s.b < n ∧ s.x < s.y ∧ s.y < k ∧ swB m s.a s.b s.x s.y = true
/-- the slice v holds these switches, in a block of its own from B on -/
def OwnS (w : World) (B : Nat) (v : Value) (ss : List Sw) : Prop := w.ownsRow B 78 4 v ss.length (flatS ss)
theorem OwnS.ext {w w' : World} {B : Nat} {v : Value} {ss : List Sw} (h : OwnS w B v ss) (k : Ext w w') : OwnS w' B v ss := ownsRow_ext h k
theorem OwnS.empty (w : World) (B : Nat) (hB : B ≤ w.heap.size) : OwnS (w.alloc (.cells #[] 78)) B (.slice (some ⟨w.heap.size, 0, none⟩) 0 0) [] :=
  World.ownsRow_lit (base := B) (e := 78) (size := 4) w #[] 0 hB (by decide) rfl
/-- a switch of the list, as its cells hold it -/
theorem OwnS.at_ {w : World} {B : Nat} {v : Value} {ss : List Sw} (h : OwnS w B v ss) : (∃ A c, v = .slice A ss.length c) ∧ (0 < ss.length → ∃ g c, v = .slice (some ⟨g, 0, none⟩) ss.length c ∧ ∀ j s, ss[j]? = some s →
    w.cell? ⟨g, j * 4, none⟩ = some (.int .i64 s.a) ∧ w.cell? ⟨g, j * 4 + 1, none⟩ = some (.int .i64 s.b) ∧ w.cell? ⟨g, j * 4 + 2, none⟩ = some (.int .i64 s.x) ∧ w.cell? ⟨g, j * 4 + 3, none⟩ = some (.int .i64 s.y)) := by
  rcases h.2 with ⟨hv, h0⟩ | ⟨g, cap, cur, hv, hb, hg, hle, _, hcs, htk⟩
  · exact ⟨⟨none, 0, by rw [hv, h0]⟩, fun h1 => by omega⟩
  · refine ⟨⟨_, cap, hv⟩, fun _ => ⟨g, cap, hv, fun j s hj => ?_⟩⟩
    have hjl : j < ss.length := (List.getElem?_eq_some_iff.1 hj).1
    have key : ∀ i u, i < ss.length * 4 → (flatS ss)[i]? = some u → w.cell? ⟨g, i, none⟩ = some u := fun i u hi hu => by
      rw [← htk, List.getElem?_take, if_pos hi, Array.getElem?_toList] at hu
      unfold World.cell?
      simp only [hg]
      simpa using hu
    obtain ⟨f1, f2, f3, f4⟩ := flatS_at hj
    exact ⟨key _ _ (by omega) f1, key _ _ (by omega) f2, key _ _ (by omega) f3, key _ _ (by omega) f4⟩
theorem infoSw4 : (Try.prog.info? 78).map (fun i => (i.zero, i.size, i.bytes)) = some (some (.agg #[.int .i64 0, .int .i64 0, .int .i64 0, .int .i64 0]), 4, 32) := by kernel_rfl
theorem infoSw' : ∃ i, Try.prog.info? 78 = some i ∧ i.zero = some (.agg #[.int .i64 0, .int .i64 0, .int .i64 0, .int .i64 0]) ∧ i.size = 4 ∧ i.bytes = 32 := by
  obtain ⟨i, hi, hzz⟩ := Option.map_eq_some_iff.1 infoSw4
  simp only [Prod.mk.injEq] at hzz
  exact ⟨i, hi, hzz⟩
section
variable {ops : Array Oper} {rest : List Oper} {o : Oper} {a : Act} {Q : Exit → Act → World → Prop}
theorem app_sw {w : World} {B : Nat} {v : Value} {xs : List Sw} {s : Sw} (h : OwnS w B v xs) (hB : B ≤ w.heap.size) (hl : xs.length + 1 ≤ 1000) {ad : Addr} {c : Nat}
    (hy : ∀ j u, (flatS [s])[j]? = some u → w.cell? (ad.add j) = some u) (hgd : o.guard = none) (p x : Operand) (ho : o.op = .call { callee := .builtin .append, args := #[p, x], argTypes := #[64, 64] })
    (hs : a.eval p = v) (hx : a.eval x = .slice (some ad) 1 c)
    (hK : ∀ v' w', OwnS w' B v' (xs ++ [s]) → (∀ z, Below B z w → Below B z w') → wpList Try.prog ops Q rest (a.put o.dst v') w') :
    wpList Try.prog ops Q (o :: rest) a w := by
  refine wpList_plain hgd fun K hk => ?_
  obtain ⟨i, hi, hz, hsz, hby⟩ := infoSw'
  refine wp_append_own w p x 64 ho B 78 i (.agg #[.int .i64 0, .int .i64 0, .int .i64 0, .int .i64 0]) 4 32 Try.underlying64 hi hz hsz hby rfl (by decide) v xs.length (flatS xs) hs h ad 1 c (flatS [s]) hx (flatS_len [s]) hy
    (fun u hu => flatS_one u hu) (by unfold maxLen; omega) (by omega) hB ?_
  intro v' w' hown hgrow _
  refine hk _ _ (hK v' w' ?_ (fun z hz => hz.grown hgrow hB fun k hk => (World.ownsRow.lt h k hk).1))
  unfold OwnS
  rw [List.length_append, flatS_app]
  exact hown
end
theorem sw_cells {W : World} {q : Nat} {s : Sw} (h1 : W.cell? ⟨q, 0, none⟩ = some (.int .i64 s.a)) (h2 : W.cell? ⟨q, 1, none⟩ = some (.int .i64 s.b)) (h3 : W.cell? ⟨q, 2, none⟩ = some (.int .i64 s.x)) (h4 : W.cell? ⟨q, 3, none⟩ = some (.int .i64 s.y)) :
    ∀ j u, (flatS [s])[j]? = some u → W.cell? ((⟨q, 0, none⟩ : Addr).add j) = some u := by
  intro j u hu
  rw [addr_add_s]
  rcases j with _ | _ | _ | _ | j
  · have : Value.int .i64 s.a = u := by simpa [flatS] using hu
    rw [← this]; exact h1
  · have : Value.int .i64 s.b = u := by simpa [flatS] using hu
    rw [← this]; exact h2
  · have : Value.int .i64 s.x = u := by simpa [flatS] using hu
    rw [← this]; exact h3
  · have : Value.int .i64 s.y = u := by simpa [flatS] using hu
    rw [← this]; exact h4
  · simp [flatS] at hu
/-- what the loops keep -/
structure SwL (m : Grid) (n k : Nat) (w wr : World) (v : Value) (N : Nat) (ss : List Sw) : Prop where
  own : OwnS wr w.heap.size v ss
  ok : ∀ s ∈ ss, SwV m n k s
  few : ss.length ≤ N
  ext : Ext w wr
set_option maxRecDepth 100000 in
set_option maxHeartbeats 8000000 in
theorem SwitchesOf_any (A : Option Addr) (ca : Nat) (m : Grid) (n k : Nat) (w : World) (hg : gridOk m 0 1 = true) (hm : Img m n k) (hx : GridAt w A m) :
    Calls Try.prog 80 #[.slice A n ca] w fun e w' => ∃ v ss, e = .returned v ∧ SwL m n k w w' v 256 ss := by
  obtain ⟨hn1, hn5⟩ := hm.2.1
  obtain ⟨hk1, hk5⟩ := hm.2.2.1
  obtain ⟨b0, o0, _, _, _, rfl, _⟩ := hx.at_ (k := 0) (by rw [hm.1.1]; omega)
  have ci := specImageOk_any (some ⟨b0, o0, none⟩) ca m w (by rw [hm.1.1]; omega) (fun r hr => by have := hm.1.2 r hr; omega) hx
  rw [hg, hm.1.1] at ci
  obtain ⟨R0, c0, p0, q0, _⟩ := row_fact hm hx (show 0 < n by omega)
  rw [Nat.add_zero] at q0
  have HQ0 : Hid (∀ W, Ext w W → W.cell? ⟨b0, o0, none⟩ = some (.slice (some ⟨R0, p0, none⟩) k c0)) := Lib.hid fun W e => (e.cell (World.block_lt_of_cell? _ _ q0)).trans q0
  have HSO := Lib.hid (fun a b x y (W : World) (e : Ext w W) (hab : a < b) (hb : b < n) (hxy : x < y) (hy : y < k) => SwitchOk_any (some ⟨b0, o0, none⟩) ca m n k a b x y W hg hm (hx.ext e) hab hb hxy hy)
  have hn0 : 0 < n := by omega
  have hnI : (0 : Int) < (n : Int) := by omega
  clear hg hm hx q0
  go_enter Try.func80, Try.ntmps80
  go_wp2_with fail
  refine ci.mono ?_
  rintro e w1 ⟨rfl, rfl⟩
  have HS0 : Hid (SwL m n k w (w.alloc (.cells #[] 78)) (.slice (some ⟨w.heap.size, 0, none⟩) 0 0) 0 []) := Lib.hid ⟨OwnS.empty w _ (Nat.le_refl _), fun s hs => (by cases hs), Nat.le_refl _, (Ext.refl w).alloc _⟩
  clear ci
  go_wp2_with fail
  go_loopw [15, 3, 4, 5, 6, 7, 8] (fun i o _ _ _ _ _ wr => ∃ (a : Nat) (v : Value) (ss : List Sw), a ≤ n ∧ i = .int .i64 a ∧ o = v ∧ Hid (SwL m n k w wr v (64 * min a 4) ss)) (fun i _ _ _ _ _ _ _ => n - (intOf i).toNat)
  case atStart => exact ⟨0, _, [], Nat.zero_le _, rfl, rfl, HS0⟩
  case round =>
    rename World => wa
    obtain ⟨a, v, ss, ha, rfl, rfl, hS⟩ := hrel
    by_cases hlta : a < n
    · go_wp2_with fail
      go_loopw [5, 3, 6, 7, 8] (fun i o _ _ _ wr => ∃ (b : Nat) (v : Value) (ss : List Sw), a < b ∧ b ≤ n ∧ i = .int .i64 b ∧ o = v ∧ Hid (SwL m n k w wr v (64 * min a 4 + 16 * (b - a - 1)) ss)) (fun i _ _ _ _ _ => n - (intOf i).toNat)
      case atStart => exact ⟨a + 1, _, ss, by omega, by omega, by go_num, rfl, Lib.hid ⟨hS.out.own, hS.out.ok, by have := hS.out.few; omega, hS.out.ext⟩⟩
      case round =>
        rename World => wb
        clear hS
        obtain ⟨b, v, ss, hab, hb, rfl, rfl, hS⟩ := hrel
        have q0 := HQ0.out wb hS.out.ext
        by_cases hltb : b < n
        · go_wp2_with fail
          go_loopw [30, 3, 6, 7, 8] (fun i o _ _ _ wr => ∃ (x : Nat) (v : Value) (ss : List Sw), x ≤ k ∧ i = .int .i64 x ∧ o = v ∧ Hid (SwL m n k w wr v (64 * min a 4 + 16 * (b - a - 1) + 4 * min x 4) ss)) (fun i _ _ _ _ _ => k - (intOf i).toNat)
          case atStart => exact ⟨0, _, ss, Nat.zero_le _, rfl, rfl, Lib.hid ⟨hS.out.own, hS.out.ok, by have := hS.out.few; omega, hS.out.ext⟩⟩
          case round =>
            rename World => wx
            clear hS q0
            obtain ⟨x, v, ss, hxk, rfl, rfl, hS⟩ := hrel
            by_cases hltx : x < k
            · go_wp2_with fail
              go_loopw [7, 3, 8] (fun i o _ wr => ∃ (y : Nat) (v : Value) (ss : List Sw), x < y ∧ y ≤ k ∧ i = .int .i64 y ∧ o = v ∧ Hid (SwL m n k w wr v (64 * min a 4 + 16 * (b - a - 1) + 4 * min x 4 + (y - x - 1)) ss)) (fun i _ _ _ => k - (intOf i).toNat)
              case atStart => exact ⟨x + 1, _, ss, by omega, by omega, by go_num, rfl, Lib.hid ⟨hS.out.own, hS.out.ok, by have := hS.out.few; omega, hS.out.ext⟩⟩
              case round =>
                rename World => wy
                clear hS
                obtain ⟨y, v, ss, hxy, hyk, rfl, rfl, hS⟩ := hrel
                have q0 := HQ0.out wy hS.out.ext
                by_cases hlty : y < k
                · have cs := HSO.out a b x y (wy.alloc (.cells #[.int .i64 a, .int .i64 b, .int .i64 x, .int .i64 y] 78)) (hS.out.ext.alloc _) hab hltb hxy hlty
                  obtain ⟨sb, hsb⟩ : ∃ sb, swB m a b x y = sb := ⟨_, rfl⟩
                  have HSB := Lib.hid hsb
                  rw [hsb] at cs
                  clear hsb
                  go_wp2_with fail
                  refine cs.mono ?_
                  rintro e w2 ⟨rfl, he⟩
                  have h1 : w2.cell? ⟨wy.heap.size, 0, none⟩ = some (.int .i64 a) := (he.cell (by simp)).trans (by simp)
                  have h2 : w2.cell? ⟨wy.heap.size, 1, none⟩ = some (.int .i64 b) := (he.cell (by simp)).trans (by simp)
                  have h3 : w2.cell? ⟨wy.heap.size, 2, none⟩ = some (.int .i64 x) := (he.cell (by simp)).trans (by simp)
                  have h4 : w2.cell? ⟨wy.heap.size, 3, none⟩ = some (.int .i64 y) := (he.cell (by simp)).trans (by simp)
                  have HE2 := Lib.hid ((hS.out.ext.alloc _).trans he)
                  have HO2 := Lib.hid (hS.out.own.ext (((Ext.refl wy).alloc _).trans he))
                  have HF := Lib.hid hS.out.few
                  have HOK := Lib.hid hS.out.ok
                  clear cs he
                  have hsc := Bool.eq_false_or_eq_true sb
                  rcases hsc with hsc | hsc
                  · have hfew : ss.length ≤ 700 := by have := HF.out; omega
                    have HSZ := Lib.hid HE2.out.size
                    rw [hsc] at HSB
                    subst hsc
                    go_wp2_with (at_builtin; refine app_sw (B := w.heap.size) (s := ⟨a, b, x, y⟩) (HO2.out.ext ((Ext.refl w2).alloc _)) (by have := HSZ.out; simp; omega) (by omega) (sw_cells (by simp) (by simp) (by simp) (by simp)) rfl _ _ rfl rfl rfl ?_)
                    intro v3 w3 ho3 hb3
                    have HN : Hid (SwL m n k w w3 v3 (64 * min a 4 + 16 * (b - a - 1) + 4 * min x 4 + (y + 1 - x - 1)) (ss ++ [⟨a, b, x, y⟩])) := Lib.hid ⟨ho3, fun s hs => by
                      rcases List.mem_append.1 hs with h | h
                      · exact HOK.out s h
                      · rw [List.mem_singleton.1 h]; exact ⟨hab, hltb, hxy, hlty, HSB.out⟩, by have := HF.out; rw [List.length_append]; simp; omega, hb3 w (HE2.out.alloc _)⟩
                    clear ho3 hb3 h1 h2 h3 h4 q0 hS
                    go_wp2_with fail
                    go_roundw
                    case rel => exact ⟨y + 1, _, _, by omega, by omega, by go_num, rfl, HN⟩
                    case measure => simp [intOf]; omega
                  · subst hsc
                    have HN : Hid (SwL m n k w w2 _ (64 * min a 4 + 16 * (b - a - 1) + 4 * min x 4 + (y + 1 - x - 1)) ss) := Lib.hid ⟨HO2.out, HOK.out, by have := HF.out; omega, HE2.out⟩
                    clear h1 h2 h3 h4 q0 hS
                    go_wp2_with fail
                    go_roundw
                    case rel => exact ⟨y + 1, _, _, by omega, by omega, by go_num, rfl, HN⟩
                    case measure => simp [intOf]; omega
                · obtain rfl : y = k := by omega
                  go_wp2_with fail
                  go_roundw
                  case rel => exact ⟨x + 1, _, ss, by omega, by go_num, rfl, Lib.hid ⟨hS.out.own, hS.out.ok, by have := hS.out.few; omega, hS.out.ext⟩⟩
                  case measure => simp [intOf]; omega
            · obtain rfl : x = k := by omega
              go_wp2_with fail
              go_roundw
              case rel => exact ⟨b + 1, _, ss, by omega, by omega, by go_num, rfl, Lib.hid ⟨hS.out.own, hS.out.ok, by have := hS.out.few; omega, hS.out.ext⟩⟩
              case measure => simp [intOf]; omega
        · obtain rfl : b = n := by omega
          go_wp2_with fail
          go_roundw
          case rel => exact ⟨a + 1, _, ss, by omega, by go_num, rfl, Lib.hid ⟨hS.out.own, hS.out.ok, by have := hS.out.few; omega, hS.out.ext⟩⟩
          case measure => simp [intOf]; omega
    · obtain rfl : a = n := by omega
      go_wp2_with fail
      go_ret
      exact ⟨_, ss, rfl, hS.out.own, hS.out.ok, by have := hS.out.few; omega, hS.out.ext⟩

theorem OwnGrid.spine_ne {w : World} {B b n c : Nat} {g : List (List Int)} (h : OwnGrid w B (.slice (some ⟨b, 0, none⟩) n c) g) {k : Nat} {r : List Int} (hk : g[k]? = some r) {R l c' : Nat} (hc : w.cell? ⟨b, k, none⟩ = some (.slice (some ⟨R, 0, none⟩) l c')) : R ≠ b := by
  obtain ⟨us, h1, h2, h3, h4⟩ := h
  obtain ⟨u, hu, hc2, hbl⟩ := OwnGrid.us h2 h1 hk
  have ho := h3 k u r hu hk
  rw [hc] at hc2
  have e := Option.some.inj hc2
  subst e
  rcases kinds_apart h2 ho with h5 | h5
  · cases h5
  · intro e
    subst e
    exact h5 rfl
structure ApM (w W : World) (bo n k hi L1 a b x y : Nat) : Prop where
  rows : ∀ i, i < n → ∃ R c, W.cell? ⟨bo, i, none⟩ = some (.slice (some ⟨R, 0, none⟩) k c) ∧ R ≠ bo ∧ w.heap.size < R ∧ R < hi
  l1 : W.cell? ⟨L1, 0, none⟩ = some (.int .i64 a)
  l2 : W.cell? ⟨L1, 1, none⟩ = some (.int .i64 b)
  bx : W.cell? ⟨w.heap.size, 2, none⟩ = some (.int .i64 x)
  by_ : W.cell? ⟨w.heap.size, 3, none⟩ = some (.int .i64 y)
theorem ApM.ext {w W W' : World} {bo n k hi L1 a b x y : Nat} (h : ApM w W bo n k hi L1 a b x y) (e : Ext W W') : ApM w W' bo n k hi L1 a b x y := by
  have key : ∀ {p : Addr} {v : Value}, W.cell? p = some v → W'.cell? p = some v := fun {p v} hp => (e.cell (World.block_lt_of_cell? _ _ hp)).trans hp
  refine ⟨fun i hi => ?_, key h.l1, key h.l2, key h.bx, key h.by_⟩
  obtain ⟨R, c, h1, h2⟩ := h.rows i hi
  exact ⟨R, c, key h1, h2⟩
theorem ApM.set {w W : World} {bo n k hi L1 a b x y : Nat} (h : ApM w W bo n k hi L1 a b x y) {R X : Nat} (v : Value) (h1 : R ≠ bo) (h2 : w.heap.size < R) (h3 : R < hi) (h4 : hi ≤ L1) : ApM w (W.setCell ⟨R, X, none⟩ v) bo n k hi L1 a b x y := by
  have key : ∀ {p o : Nat} {u : Value}, p ≠ R → W.cell? ⟨p, o, none⟩ = some u → (W.setCell ⟨R, X, none⟩ v).cell? ⟨p, o, none⟩ = some u := fun {p o u} hp hc => by
    rw [World.cell?_setCell_other _ _ _ _ (by simp)]; exact hc
  refine ⟨fun i hi => ?_, key (by omega) h.l1, key (by omega) h.l2, key (by omega) h.bx, key (by omega) h.by_⟩
  obtain ⟨R', c, g1, g2⟩ := h.rows i hi
  exact ⟨R', c, key (by omega) g1, g2⟩
theorem ApM.y {w W : World} {bo n k hi L1 a b x y : Nat} (h : ApM w W bo n k hi L1 a b x y) {p : Nat} (hp : p < 2) (ha : a < n) (hb : b < n) : ∃ Y, W.cell? ⟨L1, p, none⟩ = some (.int .i64 (Y : Nat)) ∧ (Y = if p = 0 then a else b) ∧ Y < n := by
  rcases (show p = 0 ∨ p = 1 by omega) with rfl | rfl
  · exact ⟨a, h.l1, rfl, ha⟩
  · exact ⟨b, h.l2, rfl, hb⟩
theorem two_at {W : World} {L x y k : Nat} (h : W.cell? ⟨L, 0, none⟩ = some (.int .i64 x) ∧ W.cell? ⟨L, 1, none⟩ = some (.int .i64 y)) {r : Nat} (hr : r < 2) (hx : x < k) (hy : y < k) : ∃ X, W.cell? ⟨L, r, none⟩ = some (.int .i64 (X : Nat)) ∧ (X = if r = 0 then x else y) ∧ X < k := by
  rcases (show r = 0 ∨ r = 1 by omega) with rfl | rfl
  · exact ⟨x, h.1, rfl, hx⟩
  · exact ⟨y, h.2, rfl, hy⟩
set_option maxRecDepth 100000 in
set_option maxHeartbeats 8000000 in
theorem Apply_any (A : Option Addr) (ca : Nat) (m : Grid) (n k a b x y : Nat) (w : World) (hm : Img m n k) (hx : GridAt w A m) (hab : a < b) (hb : b < n) (hxy : x < y) (hy : y < k) :
    Calls Try.prog 81 #[.slice A n ca, .agg #[.int .i64 a, .int .i64 b, .int .i64 x, .int .i64 y]] w fun e w' => ∃ bo cap q, e = .returned (.slice (some ⟨bo, 0, none⟩) n cap) ∧ OwnGrid w' w.heap.size (.slice (some ⟨bo, 0, none⟩) n cap) q ∧ SwSt m n k a b x y 2 0 q ∧ Ext w w' := by
  obtain ⟨hn1, hn5⟩ := hm.2.1
  obtain ⟨hk1, hk5⟩ := hm.2.2.1
  obtain ⟨b0, o0, _, _, _, rfl, _⟩ := hx.at_ (k := 0) (by rw [hm.1.1]; omega)
  have hmn := hm.1.1
  obtain ⟨wb, hwb⟩ : ∃ wb, wb = w.alloc (.cells #[.int .i64 a, .int .i64 b, .int .i64 x, .int .i64 y] 78) := ⟨_, rfl⟩
  have he : Ext w wb := by rw [hwb]; exact (Ext.refl w).alloc _
  have hsz : wb.heap.size = w.heap.size + 1 := by rw [hwb]; simp
  have cc := l02Copy_any (some ⟨b0, o0, none⟩) ca m wb (by omega) (by omega) (fun r hr => by have := hm.1.2 r hr; omega) (hx.ext he)
  rw [hmn] at cc
  have b1 : wb.cell? ⟨w.heap.size, 0, none⟩ = some (.int .i64 a) := by rw [hwb]; simp
  have b2 : wb.cell? ⟨w.heap.size, 1, none⟩ = some (.int .i64 b) := by rw [hwb]; simp
  have b3 : wb.cell? ⟨w.heap.size, 2, none⟩ = some (.int .i64 x) := by rw [hwb]; simp
  have b4 : wb.cell? ⟨w.heap.size, 3, none⟩ = some (.int .i64 y) := by rw [hwb]; simp
  have HMC := Lib.hid (fun (W : World) (e : Ext w W) (Y : Nat) (hY : Y < n) => row_fact hm (hx.ext e) hY)
  have HM := Lib.hid hm
  have HE := Lib.hid he
  have HWB := Lib.hid hwb
  have HSZ := Lib.hid hsz
  have HAB := Lib.hid hab
  have HXY := Lib.hid hxy
  have han : a < n := by omega
  have hxk : x < k := by omega
  clear hm hx he hwb hsz hmn
  go_enter Try.func81, Try.ntmps81
  go_upto_region 1 with fail
  rw [← HWB.out]
  go_wp2_with fail
  refine cc.mono ?_
  rintro e w1 ⟨bo, cap, rfl, ho, he1⟩
  have c1 : w1.cell? ⟨w.heap.size, 0, none⟩ = some (.int .i64 a) := (he1.cell (World.block_lt_of_cell? _ _ b1)).trans b1
  have c2 : w1.cell? ⟨w.heap.size, 1, none⟩ = some (.int .i64 b) := (he1.cell (World.block_lt_of_cell? _ _ b2)).trans b2
  have c3 : w1.cell? ⟨w.heap.size, 2, none⟩ = some (.int .i64 x) := (he1.cell (World.block_lt_of_cell? _ _ b3)).trans b3
  have c4 : w1.cell? ⟨w.heap.size, 3, none⟩ = some (.int .i64 y) := (he1.cell (World.block_lt_of_cell? _ _ b4)).trans b4
  have hap : ApM w (w1.alloc (.cells #[.int .i64 a, .int .i64 b] 3)) bo n k w1.heap.size w1.heap.size a b x y := by
    have e2 : Ext w1 (w1.alloc (.cells #[.int .i64 a, .int .i64 b] 3)) := (Ext.refl w1).alloc _
    refine ⟨fun i hi => ?_, by simp, by simp, (e2.cell (World.block_lt_of_cell? _ _ c3)).trans c3, (e2.cell (World.block_lt_of_cell? _ _ c4)).trans c4⟩
    obtain ⟨r, hr, hrl⟩ := HM.out.1.get hi
    obtain ⟨R, c', hc', _, hBR, hRl, _⟩ := ho.row hr (by omega)
    rw [hrl] at hc'
    refine ⟨R, c', (e2.cell (World.block_lt_of_cell? _ _ hc')).trans hc', ho.spine_ne hr hc', by have := HSZ.out; omega, hRl⟩
  have HAP := Lib.hid hap
  have HO1 := Lib.hid (ho.ext ((Ext.refl w1).alloc (.cells #[.int .i64 a, .int .i64 b] 3)))
  have HE1 := Lib.hid (HE.out.trans (he1.alloc (.cells #[.int .i64 a, .int .i64 b] 3)))
  have HST : Hid (SwSt m n k a b x y 0 0 m) := Lib.hid (SwSt.start HM.out.1)
  clear cc ho he1 hap b1 b2 b3 b4
  go_wp2_with fail
  obtain ⟨hi, hhi⟩ : ∃ hi, w1.heap.size = hi := ⟨_, rfl⟩
  rw [hhi] at HAP ⊢
  go_loopw [18, 7, 9] (fun i _ _ wr => ∃ (p : Nat) (q : Grid), p ≤ 2 ∧ i = .int .i64 p ∧ Hid (OwnGrid wr wb.heap.size (.slice (some ⟨bo, 0, none⟩) n cap) q) ∧ Hid (SwSt m n k a b x y p 0 q) ∧ Hid (ApM w wr bo n k hi hi a b x y) ∧ Hid (Ext w wr) ∧ Hid (hi < wr.heap.size)) (fun i _ _ _ => 2 - (intOf i).toNat)
  case atStart => exact ⟨0, m, by omega, rfl, HO1, HST, HAP, HE1, Lib.hid (by rw [← hhi]; simp)⟩
  case round =>
    rename World => wo
    clear HO1 HST HAP HE1 c1 c2 c3 c4 hhi
    obtain ⟨p, q, hp, rfl, hO, hS, hA, hE, hH⟩ := hrel
    by_cases hlt : p < 2
    · have hlt2 : (p : Int) < 2 := by omega
      obtain ⟨Y, hY1, hY2, hYn⟩ := hA.out.y hlt han hb
      have HY2 := Lib.hid hY2
      have hx3 := hA.out.bx
      have hy3 := hA.out.by_
      obtain ⟨wl, hwl⟩ : ∃ wl, wl = wo.alloc (.cells #[.int .i64 x, .int .i64 y] 3) := ⟨_, rfl⟩
      have HWL := Lib.hid hwl
      have HL : Hid (wl.cell? ⟨wo.heap.size, 0, none⟩ = some (.int .i64 x) ∧ wl.cell? ⟨wo.heap.size, 1, none⟩ = some (.int .i64 y)) := Lib.hid (by rw [hwl]; simp)
      have hEl : Ext wo wl := by rw [hwl]; exact (Ext.refl wo).alloc _
      have HO2 := Lib.hid (hO.out.ext hEl)
      have HA2 := Lib.hid (hA.out.ext hEl)
      have HE2 := Lib.hid (hE.out.trans hEl)
      have HH2 := Lib.hid (Nat.lt_of_lt_of_le hH.out hEl.size)
      clear hY2 hwl hEl hO hA hE
      go_wp2_with fail
      rw [← HWL.out]
      go_loopw [28, 9] (fun i _ wr => ∃ (r : Nat) (q : Grid), r ≤ 2 ∧ i = .int .i64 r ∧ Hid (OwnGrid wr wb.heap.size (.slice (some ⟨bo, 0, none⟩) n cap) q) ∧ Hid (SwSt m n k a b x y p r q) ∧ Hid (ApM w wr bo n k hi hi a b x y) ∧ Hid (Ext w wr) ∧ Hid (hi < wr.heap.size) ∧ Hid (wr.cell? ⟨wo.heap.size, 0, none⟩ = some (.int .i64 x) ∧ wr.cell? ⟨wo.heap.size, 1, none⟩ = some (.int .i64 y))) (fun i _ _ => 2 - (intOf i).toNat)
      case atStart => exact ⟨0, q, by omega, rfl, HO2, hS, HA2, HE2, HH2, HL⟩
      case round =>
        rename World => wi
        clear HO2 hS HA2 HE2 HH2 HL
        obtain ⟨r, q, hr, rfl, hO, hS, hA, hE, hH2, hL⟩ := hrel
        by_cases hltr : r < 2
        · have hltr2 : (r : Int) < 2 := by omega
          obtain ⟨X, hX1, hX2, hXk⟩ := two_at hL.out hltr hxk hy
          obtain ⟨qr, hqr, hqrl⟩ := hS.out.1.get hYn
          obtain ⟨Rq, cR, hcq, _, hBR, hRl, hints, hfr, hset⟩ := hO.out.row hqr (by omega)
          rw [hqrl] at hcq
          obtain ⟨R', c', hr1, hr2, hr3, hr4⟩ := hA.out.rows Y hYn
          rw [hcq] at hr1
          cases hr1
          obtain ⟨old, _, hold⟩ := hints.at1 (k := X) (by omega)
          rw [Nat.zero_add] at hold
          have hfx := hfr X
          obtain ⟨Rm, cm, om, hm1, hm2⟩ := HMC.out wi hE.out Y hYn
          have hm3 := hm2 X hXk
          have hvb : at2 m Y X = 0 ∨ at2 m Y X = 1 := by
            obtain ⟨r, c, h1, _, h3, h4⟩ := HM.out.cell hYn hXk
            rw [at2_of h1 h3]; exact h4
          have HST2 := Lib.hid (hS.out.put hlt hltr HY2.out hX2 hXk hqr)
          have HOW := Lib.hid (fun z => hset X z (by omega))
          have HAP2 := Lib.hid (fun z => hA.out.set (X := X) (.int .i64 z) hr2 hr3 hr4 (Nat.le_refl _))
          have HEX : Hid (∀ z : Int, Ext w (wi.setCell ⟨Rq, X, none⟩ (.int .i64 z))) := Lib.hid fun z => Below.setCell hE.out (show w.heap.size ≤ Rq by omega) _
          have HLX : Hid (∀ z : Int, (wi.setCell ⟨Rq, X, none⟩ (.int .i64 z)).cell? ⟨wo.heap.size, 0, none⟩ = some (.int .i64 x) ∧ (wi.setCell ⟨Rq, X, none⟩ (.int .i64 z)).cell? ⟨wo.heap.size, 1, none⟩ = some (.int .i64 y)) := Lib.hid fun z => by
            have h0 := hH.out
            constructor
            · rw [World.cell?_setCell_other _ _ _ _ (by simp)]; exact hL.out.1
            · rw [World.cell?_setCell_other _ _ _ _ (by simp)]; exact hL.out.2
          obtain ⟨v, hv⟩ : ∃ v, at2 m Y X = v := ⟨_, rfl⟩
          rw [hv] at HST2 hm3 hvb
          have hv0 : 0 ≤ v := by omega
          have hv1 : v ≤ 1 := by omega
          have hw : IntKind.i64.wrap (1 - v) = 1 - v := IntWalk.i64_in _ (by omega)
          have iY : (Y : Int) < (n : Int) := by omega
          have iX : (X : Int) < (k : Int) := by omega
          have HH3 := hH2
          clear hm2 hvb hv hset hints hfr hS hO hA hE hL hX2 hr2 hr3 hr4 hqr hqrl hBR
          go_wp2_with fail
          first | go_region_with (fail) | fail
          all_goals
            have HN1 := Lib.hid ((HOW.out (1 - v)).ext ((Ext.refl _).drew))
            have HN2 := Lib.hid ((HAP2.out (1 - v)).ext ((Ext.refl _).drew))
            have HN3 := Lib.hid ((HEX.out (1 - v)).trans ((Ext.refl _).drew))
            have HN4 := Lib.hid (HLX.out (1 - v))
            have HN5 : Hid (hi < ((wi.setCell ⟨Rq, X, none⟩ (.int .i64 (1 - v))).drew).heap.size) := Lib.hid (by have := HH3.out; have h := (Below.setCell (Below.refl 0 wi) (Nat.zero_le Rq) (.int .i64 (1 - v)) : Below 0 wi (wi.setCell ⟨Rq, X, none⟩ (.int .i64 (1 - v)))).size; exact Nat.lt_of_lt_of_le this h)
            clear HOW HAP2 HEX HLX
            try rw [hw]
            go_wp2_with fail
            go_roundw
            case rel => exact ⟨r + 1, _, by omega, by go_num, HN1, HST2, HN2, HN3, HN5, HN4⟩
            case measure => simp [intOf]; omega
        · obtain rfl : r = 2 := by omega
          have HS2 := Lib.hid (hS.out.row hlt)
          go_wp2_with fail
          go_roundw
          case rel => exact ⟨p + 1, q, by omega, by go_num, hO, HS2, hA, hE, hH2⟩
          case measure => simp [intOf]; omega
    · obtain rfl : p = 2 := by omega
      go_wp2_with fail
      go_ret
      exact ⟨bo, cap, q, rfl, hO.out.base (by have := HSZ.out; omega), hS.out, hE.out⟩

/-- q is an image of the size of m with its sums -/
def PairOk (m q : Grid) (n k : Nat) : Prop := (gridOk m 0 1 = true ∧ Img m n k) ∧ (gridOk q 0 1 = true ∧ Img q n k) ∧ rsI q = rsI m ∧ csI q = csI m
theorem PairOk.self {m : Grid} (h : gridOk m 0 1 = true) : PairOk m m m.length (m.headD []).length := ⟨⟨h, Img.of h⟩, ⟨h, Img.of h⟩, rfl, rfl⟩
theorem PairOk.step {m q q' : Grid} {n k : Nat} {s : Sw} (h : PairOk m q n k) (hv : SwV q n k s) (hq : SwSt q n k s.a s.b s.x s.y 2 0 q') : PairOk m q' n k := by
  obtain ⟨v1, v2, v3, v4, v5⟩ := hv
  obtain ⟨g1, g2, g3, g4⟩ := sw_same h.2.1.1 h.2.1.2 hq v1 v2 v3 v4 v5
  exact ⟨h.1, ⟨g1, g2⟩, g3.trans h.2.2.1, g4.trans h.2.2.2⟩
end Go.Proofs.Ytlhjbpachpjpkaa
