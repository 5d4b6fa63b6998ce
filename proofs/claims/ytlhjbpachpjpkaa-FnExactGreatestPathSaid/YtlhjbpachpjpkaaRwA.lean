/- Texts merged: Rows1 Rows2. -/
import Derived.Test.YtlhjbpachpjpkaaCopy
import Derived.Test.YtlhjbpachpjpkaaTomA
namespace Go.Proofs.Ytlhjbpachpjpkaa
open Go.RowKit

section
variable {ops : Array Oper} {rest : List Oper} {o : Oper} {a : Act} {Q : Exit → Act → World → Prop}
set_option maxRecDepth 100000 in
/-- 'append(v, u..)': the numbers of a slice, perhaps none -/
theorem app_any {w : World} {B B' : Nat} {v u : Value} {xs ys : List Int} (h : Own w B v xs) (hB : B ≤ w.heap.size) (hl : xs.length + ys.length ≤ 1000000) (hu : Own w B' u ys) (hgd : o.guard = none) (s x : Operand)
    (ho : o.op = .call { callee := .builtin .append, args := #[s, x], argTypes := #[28, 28] }) (hs : a.eval s = v) (hx : a.eval x = u)
    (hK : ∀ v' w', Own w' B v' (xs ++ ys) → (∀ z, Below B z w → Below B z w') → wpList Try.prog ops Q rest (a.put o.dst v') w') :
    wpList Try.prog ops Q (o :: rest) a w := by
  obtain ⟨i, hi, hz, hsz, hby⟩ := infoInt'
  refine wpList_plain hgd fun K hK' => ?_
  unfold Oper.wp execOp
  simp only [ho, resolve, invoke, builtin, Sem.run_bind, Sem.run_pure, Result.andThen_ok, List.map_toArray, List.map_cons, List.map_nil, hs, hx]
  rcases hu.2 with ⟨hv, h0⟩ | ⟨g, cap, cur, hv, _, _, hn, _⟩
  · have hr := run_append_owned_none (P := Try.prog) (w := w) B 28 o.type 3 i 1 Try.underlying28 hi v xs.length _ h
    rw [hv, hr]
    have hys : ys = [] := List.length_eq_zero_iff.1 h0
    subst hys
    exact hK' _ _ (hK v w (by rw [List.append_nil]; exact h) (fun z hz => hz))
  · have hnews : ∀ (j : Nat) u', (ys.map (Value.int .i64))[j]? = some u' → w.cell? ((⟨g, 0, none⟩ : Addr).add j) = some u' := fun j u' hu' => World.ownsRow.cells hu (by rw [hv]; rfl) j u' hu'
    obtain ⟨v', w', hr, hown, hgrow, _, _⟩ := run_append_own_at (P := Try.prog) w B 28 o.type 3 i (.int .i64 0) 1 8 Try.underlying28 hi hz hsz hby rfl (by decide) v xs.length (xs.map (Value.int .i64)) h ⟨g, 0, none⟩ ys.length cap (ys.map (Value.int .i64)) (by simp) hnews
      (fun u' hu' => by obtain ⟨y, _, rfl⟩ := List.mem_map.1 hu'; rfl) (by unfold maxLen; omega) (by omega) hB
    rw [hv, hr]
    refine hK' _ _ (hK v' w' ?_ (fun z hz => hz.grown hgrow hB fun k hk => (World.ownsRow.lt h k hk).1))
    unfold Own
    rw [List.length_append, List.map_append]
    exact hown
end

open Tomo
theorem subRow_take_succ {a b : List Int} {k : Nat} {x y : Int} (h : a[k]? = some x) (h' : b[k]? = some y) : subRow (a.take (k + 1)) (b.take (k + 1)) = subRow (a.take k) (b.take k) ++ [x - y] := by
  have ha : k < a.length := by
    rcases Nat.lt_or_ge k a.length with h1 | h1
    · exact h1
    · rw [List.getElem?_eq_none h1] at h; cases h
  have hb : k < b.length := by
    rcases Nat.lt_or_ge k b.length with h1 | h1
    · exact h1
    · rw [List.getElem?_eq_none h1] at h'; cases h'
  rw [take_succ_of h, take_succ_of h']
  unfold subRow
  rw [List.zipWith_append (by rw [List.length_take, List.length_take]; omega)]
  simp
theorem leRow_take_succ {a b : List Int} {k : Nat} {x y : Int} (h : a[k]? = some x) (h' : b[k]? = some y) : leRow (b.take (k + 1)) (a.take (k + 1)) = (leRow (b.take k) (a.take k) && decide (y ≤ x)) := by
  have ha : k < a.length := by
    rcases Nat.lt_or_ge k a.length with h1 | h1
    · exact h1
    · rw [List.getElem?_eq_none h1] at h; cases h
  have hb : k < b.length := by
    rcases Nat.lt_or_ge k b.length with h1 | h1
    · exact h1
    · rw [List.getElem?_eq_none h1] at h'; cases h'
  rw [take_succ_of h, take_succ_of h']
  unfold leRow
  rw [List.zipWith_append (by rw [List.length_take, List.length_take]; omega), List.all_append]
  simp
theorem leRow_false {a b : List Int} {k : Nat} {x y : Int} (h : a[k]? = some x) (h' : b[k]? = some y) (hlt : x < y) : leRow b a = false := by
  unfold leRow
  rw [List.all_eq_false]
  refine ⟨false, ?_, by simp⟩
  rw [List.mem_iff_getElem?]
  exact ⟨k, by rw [List.getElem?_zipWith, h, h']; simp; omega⟩

set_option maxHeartbeats 2000000 in
theorem l05Left_any (A B : Option Addr) (ca cb : Nat) (xs ys : List Int) (w : World) (hl : xs.length ≤ 100) (hxy : ys.length = xs.length) (hs : ∀ x ∈ xs, -100 ≤ x ∧ x ≤ 100) (hs2 : ∀ y ∈ ys, -100 ≤ y ∧ y ≤ 100) (hx : Ints w A xs) (hy : Ints w B ys) :
    Calls Try.prog 84 #[.slice A xs.length ca, .slice B xs.length cb] w fun e w' => Ext w w' ∧
      (leRow ys xs = false → ∃ v, e = .returned (.tuple #[v, .bool false])) ∧ (leRow ys xs = true → ∃ v, e = .returned (.tuple #[v, .bool true]) ∧ Own w' w.heap.size v (subRow xs ys)) := by
  go_enter Try.func84, Try.ntmps84
  go_wp2
  go_loopw [6, 7, 8, 12] (fun v _ _ i wr => ∃ k : Nat, k ≤ xs.length ∧ i = .int .i64 k ∧ Hid (leRow (ys.take k) (xs.take k) = true) ∧ Hid (Own wr w.heap.size v (subRow (xs.take k) (ys.take k))) ∧ Hid (Ext w wr)) (fun _ _ _ i _ => xs.length - (intOf i).toNat)
  case atStart => exact ⟨0, Nat.zero_le _, rfl, Lib.hid rfl, Lib.hid (Own.empty w _ (Nat.le_refl _)), Lib.hid ((Ext.refl w).alloc _)⟩
  case round =>
    obtain ⟨k, hk, rfl, hle, ho, he⟩ := hrel
    by_cases hlt : k < xs.length
    · obtain ⟨b, o, x, rfl, _, HX, hcx⟩ := (hx.ext he.out).at_ hlt
      obtain ⟨b2, o2, y, rfl, _, HY, hcy⟩ := (hy.ext he.out).at_ (k := k) (by omega)
      obtain ⟨hx1, hx2⟩ := hs x (List.mem_of_getElem? HX.out)
      obtain ⟨hy1, hy2⟩ := hs2 y (List.mem_of_getElem? HY.out)
      have HXY := Lib.hid hxy
      clear hx hy hs hs2 hxy
      by_cases hbad : x < y
      · have HB := Lib.hid (leRow_false HX.out HY.out hbad)
        go_wp2
        go_ret2
        exact ⟨he.out, fun _ => ⟨_, rfl⟩, fun h => by rw [HB.out] at h; cases h⟩
      · have hB : w.heap.size ≤ wr.heap.size := he.out.size
        have HLE : Hid (leRow (ys.take (k + 1)) (xs.take (k + 1)) = true) := Lib.hid (by rw [leRow_take_succ HX.out HY.out, hle.out]; simp; omega)
        have HOl : Hid ((subRow (xs.take k) (ys.take k)).length ≤ 100) := Lib.hid (by unfold subRow; rw [List.length_zipWith, List.length_take]; omega)
        have HI : Hid (Ints (wr.alloc (.cells #[.int .i64 (x - y)] 3)) (some ⟨wr.heap.size, 0, none⟩) [x - y]) := Lib.hid (fun j z hj => by
          cases j with
          | zero => have : x - y = z := by simpa using hj
                    exact ⟨wr.heap.size, 0, rfl, by simp, by rw [← this]; exact new_cell rfl⟩
          | succ j => simp at hj)
        go_wp2_with (at_builtin; refine app_ints (ys := [x - y]) (ho.out.ext ((Ext.refl wr).alloc _)) (by simp; omega) (by have := HOl.out; simp; omega) (by simp) HI.out rfl _ _ rfl rfl rfl ?_)
        intro g cap w1 hown hb _ _
        have HN : Hid (∀ n, n = (subRow (xs.take k) (ys.take k)).length + 1 → Own w1 w.heap.size (.slice (some ⟨g, 0, none⟩) n cap) (subRow (xs.take (k + 1)) (ys.take (k + 1)))) := Lib.hid (fun n hn => by rw [subRow_take_succ HX.out HY.out, hn]; exact hown)
        have HE2 : Hid (Ext w w1) := Lib.hid (hb w (he.out.alloc _))
        clear hown hb
        go_wp2
        go_roundw
        case rel => exact ⟨k + 1, by omega, by go_num, HLE, Lib.hid (HN.out _ (by simp)), HE2⟩
        case measure => simp [intOf]; omega
    · obtain rfl : k = xs.length := by omega
      have HLE : Hid (leRow ys xs = true) := Lib.hid (by have := hle.out; rw [take_full] at this; rw [← hxy, take_full] at this; exact this)
      have HO : Hid (Own wr w.heap.size u6 (subRow xs ys)) := Lib.hid (by have := ho.out; rw [take_full] at this; rw [← hxy, take_full] at this; exact this)
      clear hle ho
      go_wp2
      go_ret2
      exact ⟨he.out, fun h => (by rw [HLE.out] at h; cases h), fun _ => ⟨_, rfl, HO.out⟩⟩
end Go.Proofs.Ytlhjbpachpjpkaa

namespace Go.Proofs.Ytlhjbpachpjpkaa
open Go.RowKit Tomo

theorem rowsOf_len (n : Nat) : ∀ k : Int, (rowsOf n k).length ≤ 2 ^ n := by
  induction n with
  | zero => intro k; unfold rowsOf; split <;> simp
  | succ n ih =>
    intro k
    unfold rowsOf
    rw [List.length_append, Nat.pow_succ]
    have h1 := ih k
    have h2 := ih (k - 1)
    split <;> split <;> simp <;> omega
theorem OwnGrid.slice {w : World} {B : Nat} {v : Value} {g : List (List Int)} (h : OwnGrid w B v g) : ∃ A c, v = .slice A g.length c ∧ (A = none → g = []) := by
  obtain ⟨us, h1, h2, _⟩ := h
  rcases h2.2 with ⟨hv, h0⟩ | ⟨b, cap, _, hv, _⟩
  · exact ⟨none, 0, by rw [hv, h0], fun _ => List.length_eq_zero_iff.1 h0⟩
  · exact ⟨_, cap, hv, fun h => by cases h⟩
theorem OwnGrid.elt {w : World} {B : Nat} {A : Option Addr} {n c : Nat} {g : List (List Int)} (h : OwnGrid w B (.slice A n c) g) {k : Nat} {r : List Int} (hk : g[k]? = some r) : ∃ b u, A = some ⟨b, 0, none⟩ ∧ B ≤ b ∧ b < w.heap.size ∧ w.cell? ⟨b, k, none⟩ = some u ∧ Own w B u r := by
  have hlt : k < g.length := by
    rcases Nat.lt_or_ge k g.length with h1 | h1
    · exact h1
    · rw [List.getElem?_eq_none h1] at hk; cases hk
  obtain ⟨b, _, hv, _, hBb, _⟩ := h.form (by omega)
  cases hv
  obtain ⟨us, h1, h2, h3, _⟩ := h
  obtain ⟨u, hu, hc, hb⟩ := OwnGrid.us h2 h1 hk
  exact ⟨b, u, rfl, hBb, hb, hc, h3 k u r hu hk⟩
theorem Own.one (w : World) (x : Int) : Own (w.alloc (.cells #[.int .i64 x] 3)) w.heap.size (.slice (some ⟨w.heap.size, 0, none⟩) 1 1) [x] :=
  World.ownsRow_lit (base := w.heap.size) (e := 3) (size := 1) w #[.int .i64 x] 1 (Nat.le_refl _) (by decide) rfl
theorem OwnGrid.one {w : World} {B : Nat} {u : Value} {r : List Int} (hB : B ≤ w.heap.size) (h : Own w B u r) : OwnGrid (w.alloc (.cells #[u] 28)) B (.slice (some ⟨w.heap.size, 0, none⟩) 1 1) [r] := by
  refine ⟨[u], rfl, World.ownsRow_lit (base := B) (e := 28) (size := 1) w #[u] 1 hB (by decide) rfl, fun k u' r' hu hr => ?_, fun i j u1 u2 h1 h2 hij => ?_⟩
  · cases k with
    | zero =>
      have e1 : u = u' := by simpa using hu
      have e2 : r = r' := by simpa using hr
      rw [← e1, ← e2]
      exact h.ext ((Ext.refl w).alloc _)
    | succ k => simp at hu
  · cases i with
    | zero => cases j with
      | zero => exact absurd rfl hij
      | succ j => simp at h2
    | succ i => simp at h1

/-- the rows that begin with a number below x -/
def rowsTo (n : Nat) (k : Int) (x : Nat) : List (List Int) := (if 1 ≤ x ∧ 0 ≤ k then (rowsOf n k).map (0 :: ·) else []) ++ (if 2 ≤ x ∧ 1 ≤ k then (rowsOf n (k - 1)).map (1 :: ·) else [])
theorem rowsTo_two (n : Nat) (k : Int) : rowsTo n k 2 = rowsOf (n + 1) k := by unfold rowsTo; rw [rowsOf]; simp
theorem rowsTo_succ (n : Nat) (k : Int) {x : Nat} (hx : x < 2) (h : (x : Int) ≤ k) : rowsTo n k (x + 1) = rowsTo n k x ++ (rowsOf n (k - x)).map ((x : Int) :: ·) := by
  have h2 : x = 0 ∨ x = 1 := by omega
  rcases h2 with rfl | rfl
  · have h0 : 0 ≤ k := by omega
    unfold rowsTo; simp [h0]
  · have h0 : 0 ≤ k := by omega
    have h1 : 1 ≤ k := by omega
    unfold rowsTo; simp [h0, h1]
theorem rowsTo_skip (n : Nat) (k : Int) {x : Nat} (hx : x < 2) (h : k < x) : rowsTo n k (x + 1) = rowsTo n k x := by
  have h2 : x = 0 ∨ x = 1 := by omega
  rcases h2 with rfl | rfl
  · have h0 : ¬ 0 ≤ k := by omega
    unfold rowsTo; simp [h0]
  · have h1 : ¬ 1 ≤ k := by omega
    unfold rowsTo; simp [h1]
theorem rowsTo_len (n : Nat) (k : Int) (x : Nat) : (rowsTo n k x).length ≤ 2 ^ n + 2 ^ n := by
  unfold rowsTo
  rw [List.length_append]
  have h1 := rowsOf_len n k
  have h2 := rowsOf_len n (k - 1)
  split <;> split <;> simp <;> omega

set_option maxHeartbeats 4000000 in
theorem l05Rows_any (n : Nat) : ∀ (k : Int) (w : World), n ≤ 5 → -10 ≤ k → k ≤ 10 →
    Calls Try.prog 83 #[.int .i64 n, .int .i64 k] w fun e w' => ∃ v, e = .returned v ∧ OwnGrid w' w.heap.size v (rowsOf n k) ∧ Ext w w' := by
  induction n with
  | zero =>
    intro k w _ hk1 hk2
    by_cases h : k = 0
    · subst h
      have HO : Hid (OwnGrid ((w.alloc (.cells #[] 3)).alloc (.cells #[.slice (some ⟨w.heap.size, 0, none⟩) 0 0] 28)) w.heap.size (.slice (some ⟨w.heap.size + 1, 0, none⟩) 1 1) (rowsOf 0 0)) := Lib.hid (by
        have h := OwnGrid.one (by simp) (Own.empty w w.heap.size (Nat.le_refl _))
        simpa [rowsOf] using h)
      go_enter Try.func83, Try.ntmps83
      go_wp2
      go_ret
      exact ⟨_, rfl, HO.out, ((Ext.refl w).alloc _).alloc _⟩
    · have b1 : (k == 0) = false := by simpa using h
      have HO : Hid (rowsOf 0 k = []) := Lib.hid (by simp [rowsOf, h])
      clear h
      go_enter Try.func83, Try.ntmps83
      go_wp2
      go_ret
      exact ⟨_, rfl, by rw [HO.out]; exact OwnGrid.nil _ _, Ext.refl w⟩
  | succ n ih =>
    intro k w hn hk1 hk2
    have HIH := Lib.hid ih
    clear ih
    have hp : 2 ^ n ≤ 32 := Nat.le_trans (Nat.pow_le_pow_right (by decide) (show n ≤ 5 by omega)) (by decide)
    have HP := Lib.hid hp
    clear hp
    have b0 : (((n + 1 : Nat) : Int) == 0) = false := by simp; omega
    go_enter Try.func83, Try.ntmps83
    go_wp2
    go_loopw [5, 6, 8, 30] (fun v x _ _ wr => ∃ k' : Nat, k' ≤ 2 ∧ x = .int .i64 k' ∧ Hid (OwnGrid wr w.heap.size v (rowsTo n k k')) ∧ Hid (Ext w wr)) (fun _ x _ _ _ => 2 - (intOf x).toNat)
    case atStart => exact ⟨0, by omega, rfl, Lib.hid (OwnGrid.empty _ _ (Nat.le_refl _)), Lib.hid ((Ext.refl w).alloc _)⟩
    case round =>
      rename World => wo
      obtain ⟨x, hx, rfl, ho, he⟩ := hrel
      by_cases hlt : x < 2
      · by_cases hge : (x : Int) ≤ k
        · have HX := Lib.hid (rowsTo_succ n k hlt hge)
          have HLen := Lib.hid (rowsTo_len n k x)
          have HL2 := Lib.hid (rowsOf_len n (k - x))
          go_wp2_with fail
          refine (HIH.out (k - x) wo (by omega) (by omega) (by omega)).mono ?_
          rintro e w2 ⟨v2, rfl, ho2, he2⟩
          obtain ⟨L, hL⟩ : ∃ L, rowsOf n (k - x) = L := ⟨_, rfl⟩
          have HLn : Hid (∀ r ∈ L, r.length ≤ 100) := Lib.hid (fun r hr => by rw [← hL] at hr; have := ((mem_rowsOf n (k - x) r).1 hr).1; omega)
          rw [hL] at ho2 HX HL2
          clear hL
          obtain ⟨A2, c2, rfl, _⟩ := ho2.slice
          have HO2 := Lib.hid ho2
          have HW := Lib.hid (ho.out.ext he2)
          have HBl : Hid (∀ b, u5.ownBlock = some b → b < wo.heap.size) := Lib.hid (fun b hb => (ho.out.lt hb).2)
          have HE0 := Lib.hid he2
          have HE2 : Hid (Ext w w2) := Lib.hid (he.out.trans he2)
          have hLl : L.length ≤ 32 := Nat.le_trans HL2.out HP.out
          clear ho2 he2 ho
          go_wp2
          go_loopw [30, 5, 8] (fun i v _ wr => ∃ (j : Nat) (g : List (List Int)), j ≤ L.length ∧ i = .int .i64 j ∧ g.length ≤ 1000 ∧ Hid (g = rowsTo n k x ++ (L.take j).map ((x : Int) :: ·)) ∧ Hid (OwnGrid wr w.heap.size v g) ∧ Hid (Seg wo.heap.size w2.heap.size w2 wr) ∧ Hid (Ext w wr) ∧ Hid (w2.heap.size ≤ wr.heap.size) ∧ Hid (∀ b, v.ownBlock = some b → b < wo.heap.size ∨ w2.heap.size ≤ b)) (fun i _ _ _ => L.length - (intOf i).toNat)
          case atStart => exact ⟨0, rowsTo n k x, Nat.zero_le _, rfl, by have := HLen.out; have := HP.out; omega, Lib.hid (by simp), HW, Lib.hid (Seg.refl _ _ _), HE2, Lib.hid (Nat.le_refl _), Lib.hid (fun b hb => .inl (HBl.out b hb))⟩
          case round =>
            obtain ⟨j, g, hj, rfl, hgl, hg, ho, hseg, heq, hsz, hbl⟩ := hrel
            by_cases hlj : j < L.length
            · obtain ⟨b2, u, rfl, hBb, hb2, hcu, hou⟩ := HO2.out.elt (List.getElem?_eq_getElem hlj)
              have HR : Hid (L[j]? = some L[j]) := Lib.hid (List.getElem?_eq_getElem hlj)
              generalize L[j] = r at hou HR
              obtain ⟨Ar, cr, rfl, hcr, hir⟩ := hou.slice
              have hcell : wr.cell? ⟨b2, j, none⟩ = some (.slice Ar r.length cr) := (hseg.out.cell (p := ⟨b2, j, none⟩) hBb hb2).trans hcu
              have HOU : Hid (Own (wr.alloc (.cells #[.int .i64 (x : Int)] 3)) wo.heap.size (.slice Ar r.length cr) r) := Lib.hid ((hou.seg hseg.out).ext ((Ext.refl wr).alloc _))
              have HRl : Hid (r.length ≤ 100) := Lib.hid (HLn.out r (List.mem_of_getElem? HR.out))
              have hB : w.heap.size ≤ wr.heap.size := heq.out.size
              clear hou hir hcu hb2 hBb
              go_wp2_with (first | (at_builtin; refine app_any (Own.one wr (x : Int)) (by simp) (by have := HRl.out; simp; omega) HOU.out rfl _ _ rfl rfl rfl ?_))
              intro v' w3 hown hb3
              obtain ⟨A3, c3, rfl, _, _⟩ := hown.slice
              have HO3 := Lib.hid hown
              have HE3 : Hid (Ext wr w3) := Lib.hid (hb3 wr ((Ext.refl wr).alloc _))
              clear hown hb3
              go_wp2_with (at_builtin; refine app_row2 ho.out (HE3.out.alloc _) hB (HO3.out.ext ((Ext.refl w3).alloc _)) (by omega) (by simp) rfl _ _ rfl rfl rfl ?_)
              intro b4 c4 w4 ho4 hb4 hgrow hat
              have hj32 : g.length + 1 ≤ 1000 := by
                have := HLen.out; have := HP.out
                rw [hg.out, List.length_append, List.length_map, List.length_take]; omega
              have HN := Lib.hid ho4
              have HG : Hid (g ++ [(x : Int) :: r] = rowsTo n k x ++ (L.take (j + 1)).map ((x : Int) :: ·)) := Lib.hid (by rw [hg.out, take_succ_of HR.out, List.map_append, List.append_assoc]; rfl)
              have HE4 : Hid (Ext w w4) := Lib.hid (hb4 w ((heq.out.trans HE3.out).alloc _))
              have hs3 : wr.heap.size ≤ w3.heap.size := HE3.out.size
              have hs2 := hsz.out
              have HS4 : Hid (Seg wo.heap.size w2.heap.size w2 w4) := Lib.hid ((hseg.out.trans (Seg.ext (HE3.out.alloc _) hs2)).trans (Seg.grown hgrow (by simp; omega) hbl.out))
              have HZ4 : Hid (w2.heap.size ≤ w4.heap.size) := Lib.hid (Nat.le_trans (show w2.heap.size ≤ _ by simp; omega) hgrow.size)
              have HB4 : Hid (∀ b, (Value.slice (some ⟨b4, 0, none⟩) (g.length + 1) c4).ownBlock = some b → b < wo.heap.size ∨ w2.heap.size ≤ b) := Lib.hid (fun b hb => by
                have e : b4 = b := by simpa [Value.ownBlock] using hb
                rcases hat with h5 | h5
                · exact hbl.out b (by rw [← e]; exact h5)
                · right; first | omega | (simp at h5; omega))
              clear ho4 hb4 hgrow hat hs3 hs2
              go_wp2
              go_roundw
              case rel => exact ⟨j + 1, _, by omega, by go_num, by rw [List.length_append]; exact hj32, HG, by simpa using HN, HS4, HE4, HZ4, HB4⟩
              case measure => simp [intOf]; omega
            · obtain rfl : j = L.length := by omega
              have HN : Hid (OwnGrid wr w.heap.size u5 (rowsTo n k (x + 1))) := Lib.hid (by rw [HX.out]; have h6 := hg.out; rw [take_full] at h6; rw [← h6]; exact ho.out)
              go_wp2
              go_roundw
              case rel =>
                repeat apply Exists.intro
                exact ⟨⟨x + 1, by omega, by go_num, HN, heq⟩, rfl⟩
              case measure => simp [intOf]; omega
        · have HN := Lib.hid (rowsTo_skip n k hlt (by omega))
          go_wp2
          go_roundw
          case rel => exact ⟨x + 1, by omega, by go_num, Lib.hid (by rw [HN.out]; exact ho.out), he⟩
          case measure => simp [intOf]; omega
      · obtain rfl : x = 2 := by omega
        go_wp2
        go_ret
        exact ⟨_, rfl, by rw [← rowsTo_two]; exact ho.out, he.out⟩
end Go.Proofs.Ytlhjbpachpjpkaa
