/- The rows of n cells with k black ones: the reference's walk. -/
import Derived.Test.YtlhjbpachpjpkaaRows1
namespace Go.Proofs.Ytlhjbpachpjpkaa
open Go.RowKit Tomo

theorem rowsOf_len (n : Nat) : ∀ k : Int, (rowsOf n k).length ≤ 2 ^ n := by
  induction n with
  | zero => intro k; unfold rowsOf; split <;> simp
  | succ n ih =>
    intro k
    unfold rowsOf
    rw [List.length_append, Nat.pow_succ]
    have h1 := ih k
    have h2 := ih (k - 1)
    split <;> split <;> simp <;> omega
theorem OwnGrid.slice {w : World} {B : Nat} {v : Value} {g : List (List Int)} (h : OwnGrid w B v g) : ∃ A c, v = .slice A g.length c ∧ (A = none → g = []) := by
  obtain ⟨us, h1, h2, _⟩ := h
  rcases h2.2 with ⟨hv, h0⟩ | ⟨b, cap, _, hv, _⟩
  · exact ⟨none, 0, by rw [hv, h0], fun _ => List.length_eq_zero_iff.1 h0⟩
  · exact ⟨_, cap, hv, fun h => by cases h⟩
theorem OwnGrid.elt {w : World} {B : Nat} {A : Option Addr} {n c : Nat} {g : List (List Int)} (h : OwnGrid w B (.slice A n c) g) {k : Nat} {r : List Int} (hk : g[k]? = some r) : ∃ b u, A = some ⟨b, 0, none⟩ ∧ B ≤ b ∧ b < w.heap.size ∧ w.cell? ⟨b, k, none⟩ = some u ∧ Own w B u r := by
  have hlt : k < g.length := by
    rcases Nat.lt_or_ge k g.length with h1 | h1
    · exact h1
    · rw [List.getElem?_eq_none h1] at hk; cases hk
  obtain ⟨b, _, hv, _, hBb, _⟩ := h.form (by omega)
  cases hv
  obtain ⟨us, h1, h2, h3, _⟩ := h
  obtain ⟨u, hu, hc, hb⟩ := OwnGrid.us h2 h1 hk
  exact ⟨b, u, rfl, hBb, hb, hc, h3 k u r hu hk⟩
theorem Own.one (w : World) (x : Int) : Own (w.alloc (.cells #[.int .i64 x] 3)) w.heap.size (.slice (some ⟨w.heap.size, 0, none⟩) 1 1) [x] :=
  World.ownsRow_lit (base := w.heap.size) (e := 3) (size := 1) w #[.int .i64 x] 1 (Nat.le_refl _) (by decide) rfl
theorem OwnGrid.one {w : World} {B : Nat} {u : Value} {r : List Int} (hB : B ≤ w.heap.size) (h : Own w B u r) : OwnGrid (w.alloc (.cells #[u] 28)) B (.slice (some ⟨w.heap.size, 0, none⟩) 1 1) [r] := by
  refine ⟨[u], rfl, World.ownsRow_lit (base := B) (e := 28) (size := 1) w #[u] 1 hB (by decide) rfl, fun k u' r' hu hr => ?_, fun i j u1 u2 h1 h2 hij => ?_⟩
  · cases k with
    | zero =>
      have e1 : u = u' := by simpa using hu
      have e2 : r = r' := by simpa using hr
      rw [← e1, ← e2]
      exact h.ext ((Ext.refl w).alloc _)
    | succ k => simp at hu
  · cases i with
    | zero => cases j with
      | zero => exact absurd rfl hij
      | succ j => simp at h2
    | succ i => simp at h1

/-- the rows that begin with a number below x -/
def rowsTo (n : Nat) (k : Int) (x : Nat) : List (List Int) := (if 1 ≤ x ∧ 0 ≤ k then (rowsOf n k).map (0 :: ·) else []) ++ (if 2 ≤ x ∧ 1 ≤ k then (rowsOf n (k - 1)).map (1 :: ·) else [])
theorem rowsTo_two (n : Nat) (k : Int) : rowsTo n k 2 = rowsOf (n + 1) k := by unfold rowsTo; rw [rowsOf]; simp
theorem rowsTo_succ (n : Nat) (k : Int) {x : Nat} (hx : x < 2) (h : (x : Int) ≤ k) : rowsTo n k (x + 1) = rowsTo n k x ++ (rowsOf n (k - x)).map ((x : Int) :: ·) := by
  have h2 : x = 0 ∨ x = 1 := by omega
  rcases h2 with rfl | rfl
  · have h0 : 0 ≤ k := by omega
    unfold rowsTo; simp [h0]
  · have h0 : 0 ≤ k := by omega
    have h1 : 1 ≤ k := by omega
    unfold rowsTo; simp [h0, h1]
theorem rowsTo_skip (n : Nat) (k : Int) {x : Nat} (hx : x < 2) (h : k < x) : rowsTo n k (x + 1) = rowsTo n k x := by
  have h2 : x = 0 ∨ x = 1 := by omega
  rcases h2 with rfl | rfl
  · have h0 : ¬ 0 ≤ k := by omega
    unfold rowsTo; simp [h0]
  · have h1 : ¬ 1 ≤ k := by omega
    unfold rowsTo; simp [h1]
theorem rowsTo_len (n : Nat) (k : Int) (x : Nat) : (rowsTo n k x).length ≤ 2 ^ n + 2 ^ n := by
  unfold rowsTo
  rw [List.length_append]
  have h1 := rowsOf_len n k
  have h2 := rowsOf_len n (k - 1)
  split <;> split <;> simp <;> omega

set_option maxHeartbeats 4000000 in
theorem l05Rows_any (n : Nat) : ∀ (k : Int) (w : World), n ≤ 5 → -10 ≤ k → k ≤ 10 →
    Calls Try.prog 83 #[.int .i64 n, .int .i64 k] w fun e w' => ∃ v, e = .returned v ∧ OwnGrid w' w.heap.size v (rowsOf n k) ∧ Ext w w' := by
  induction n with
  | zero =>
    intro k w _ hk1 hk2
    by_cases h : k = 0
    · subst h
      have HO : Hid (OwnGrid ((w.alloc (.cells #[] 3)).alloc (.cells #[.slice (some ⟨w.heap.size, 0, none⟩) 0 0] 28)) w.heap.size (.slice (some ⟨w.heap.size + 1, 0, none⟩) 1 1) (rowsOf 0 0)) := Lib.hid (by
        have h := OwnGrid.one (by simp) (Own.empty w w.heap.size (Nat.le_refl _))
        simpa [rowsOf] using h)
      go_enter Try.func83, Try.ntmps83
      go_wp2
      go_ret
      exact ⟨_, rfl, HO.out, ((Ext.refl w).alloc _).alloc _⟩
    · have b1 : (k == 0) = false := by simpa using h
      have HO : Hid (rowsOf 0 k = []) := Lib.hid (by simp [rowsOf, h])
      clear h
      go_enter Try.func83, Try.ntmps83
      go_wp2
      go_ret
      exact ⟨_, rfl, by rw [HO.out]; exact OwnGrid.nil _ _, Ext.refl w⟩
  | succ n ih =>
    intro k w hn hk1 hk2
    have HIH := Lib.hid ih
    clear ih
    have hp : 2 ^ n ≤ 32 := Nat.le_trans (Nat.pow_le_pow_right (by decide) (show n ≤ 5 by omega)) (by decide)
    have HP := Lib.hid hp
    clear hp
    have b0 : (((n + 1 : Nat) : Int) == 0) = false := by simp; omega
    go_enter Try.func83, Try.ntmps83
    go_wp2
    go_loopw [5, 6, 8, 30] (fun v x _ _ wr => ∃ k' : Nat, k' ≤ 2 ∧ x = .int .i64 k' ∧ Hid (OwnGrid wr w.heap.size v (rowsTo n k k')) ∧ Hid (Ext w wr)) (fun _ x _ _ _ => 2 - (intOf x).toNat)
    case atStart => exact ⟨0, by omega, rfl, Lib.hid (OwnGrid.empty _ _ (Nat.le_refl _)), Lib.hid ((Ext.refl w).alloc _)⟩
    case round =>
      rename World => wo
      obtain ⟨x, hx, rfl, ho, he⟩ := hrel
      by_cases hlt : x < 2
      · by_cases hge : (x : Int) ≤ k
        · have HX := Lib.hid (rowsTo_succ n k hlt hge)
          have HLen := Lib.hid (rowsTo_len n k x)
          have HL2 := Lib.hid (rowsOf_len n (k - x))
          go_wp2_with fail
          refine (HIH.out (k - x) wo (by omega) (by omega) (by omega)).mono ?_
          rintro e w2 ⟨v2, rfl, ho2, he2⟩
          obtain ⟨L, hL⟩ : ∃ L, rowsOf n (k - x) = L := ⟨_, rfl⟩
          have HLn : Hid (∀ r ∈ L, r.length ≤ 100) := Lib.hid (fun r hr => by rw [← hL] at hr; have := ((mem_rowsOf n (k - x) r).1 hr).1; omega)
          rw [hL] at ho2 HX HL2
          clear hL
          obtain ⟨A2, c2, rfl, _⟩ := ho2.slice
          have HO2 := Lib.hid ho2
          have HW := Lib.hid (ho.out.ext he2)
          have HBl : Hid (∀ b, u5.ownBlock = some b → b < wo.heap.size) := Lib.hid (fun b hb => (ho.out.lt hb).2)
          have HE0 := Lib.hid he2
          have HE2 : Hid (Ext w w2) := Lib.hid (he.out.trans he2)
          have hLl : L.length ≤ 32 := Nat.le_trans HL2.out HP.out
          clear ho2 he2 ho
          go_wp2
          go_loopw [30, 5, 8] (fun i v _ wr => ∃ (j : Nat) (g : List (List Int)), j ≤ L.length ∧ i = .int .i64 j ∧ g.length ≤ 1000 ∧ Hid (g = rowsTo n k x ++ (L.take j).map ((x : Int) :: ·)) ∧ Hid (OwnGrid wr w.heap.size v g) ∧ Hid (Seg wo.heap.size w2.heap.size w2 wr) ∧ Hid (Ext w wr) ∧ Hid (w2.heap.size ≤ wr.heap.size) ∧ Hid (∀ b, v.ownBlock = some b → b < wo.heap.size ∨ w2.heap.size ≤ b)) (fun i _ _ _ => L.length - (intOf i).toNat)
          case atStart => exact ⟨0, rowsTo n k x, Nat.zero_le _, rfl, by have := HLen.out; have := HP.out; omega, Lib.hid (by simp), HW, Lib.hid (Seg.refl _ _ _), HE2, Lib.hid (Nat.le_refl _), Lib.hid (fun b hb => .inl (HBl.out b hb))⟩
          case round =>
            obtain ⟨j, g, hj, rfl, hgl, hg, ho, hseg, heq, hsz, hbl⟩ := hrel
            by_cases hlj : j < L.length
            · obtain ⟨b2, u, rfl, hBb, hb2, hcu, hou⟩ := HO2.out.elt (List.getElem?_eq_getElem hlj)
              have HR : Hid (L[j]? = some L[j]) := Lib.hid (List.getElem?_eq_getElem hlj)
              generalize L[j] = r at hou HR
              obtain ⟨Ar, cr, rfl, hcr, hir⟩ := hou.slice
              have hcell : wr.cell? ⟨b2, j, none⟩ = some (.slice Ar r.length cr) := (hseg.out.cell (p := ⟨b2, j, none⟩) hBb hb2).trans hcu
              have HOU : Hid (Own (wr.alloc (.cells #[.int .i64 (x : Int)] 3)) wo.heap.size (.slice Ar r.length cr) r) := Lib.hid ((hou.seg hseg.out).ext ((Ext.refl wr).alloc _))
              have HRl : Hid (r.length ≤ 100) := Lib.hid (HLn.out r (List.mem_of_getElem? HR.out))
              have hB : w.heap.size ≤ wr.heap.size := heq.out.size
              clear hou hir hcu hb2 hBb
              go_wp2_with (first | (at_builtin; refine app_any (Own.one wr (x : Int)) (by simp) (by have := HRl.out; simp; omega) HOU.out rfl _ _ rfl rfl rfl ?_))
              intro v' w3 hown hb3
              obtain ⟨A3, c3, rfl, _, _⟩ := hown.slice
              have HO3 := Lib.hid hown
              have HE3 : Hid (Ext wr w3) := Lib.hid (hb3 wr ((Ext.refl wr).alloc _))
              clear hown hb3
              go_wp2_with (at_builtin; refine app_row2 ho.out (HE3.out.alloc _) hB (HO3.out.ext ((Ext.refl w3).alloc _)) (by omega) (by simp) rfl _ _ rfl rfl rfl ?_)
              intro b4 c4 w4 ho4 hb4 hgrow hat
              have hj32 : g.length + 1 ≤ 1000 := by
                have := HLen.out; have := HP.out
                rw [hg.out, List.length_append, List.length_map, List.length_take]; omega
              have HN := Lib.hid ho4
              have HG : Hid (g ++ [(x : Int) :: r] = rowsTo n k x ++ (L.take (j + 1)).map ((x : Int) :: ·)) := Lib.hid (by rw [hg.out, take_succ_of HR.out, List.map_append, List.append_assoc]; rfl)
              have HE4 : Hid (Ext w w4) := Lib.hid (hb4 w ((heq.out.trans HE3.out).alloc _))
              have hs3 : wr.heap.size ≤ w3.heap.size := HE3.out.size
              have hs2 := hsz.out
              have HS4 : Hid (Seg wo.heap.size w2.heap.size w2 w4) := Lib.hid ((hseg.out.trans (Seg.ext (HE3.out.alloc _) hs2)).trans (Seg.grown hgrow (by simp; omega) hbl.out))
              have HZ4 : Hid (w2.heap.size ≤ w4.heap.size) := Lib.hid (Nat.le_trans (show w2.heap.size ≤ _ by simp; omega) hgrow.size)
              have HB4 : Hid (∀ b, (Value.slice (some ⟨b4, 0, none⟩) (g.length + 1) c4).ownBlock = some b → b < wo.heap.size ∨ w2.heap.size ≤ b) := Lib.hid (fun b hb => by
                have e : b4 = b := by simpa [Value.ownBlock] using hb
                rcases hat with h5 | h5
                · exact hbl.out b (by rw [← e]; exact h5)
                · right; first | omega | (simp at h5; omega))
              clear ho4 hb4 hgrow hat hs3 hs2
              go_wp2
              go_roundw
              case rel => exact ⟨j + 1, _, by omega, by go_num, by rw [List.length_append]; exact hj32, HG, by simpa using HN, HS4, HE4, HZ4, HB4⟩
              case measure => simp [intOf]; omega
            · obtain rfl : j = L.length := by omega
              have HN : Hid (OwnGrid wr w.heap.size u5 (rowsTo n k (x + 1))) := Lib.hid (by rw [HX.out]; have h6 := hg.out; rw [take_full] at h6; rw [← h6]; exact ho.out)
              go_wp2
              go_roundw
              case rel =>
                repeat apply Exists.intro
                exact ⟨⟨x + 1, by omega, by go_num, HN, heq⟩, rfl⟩
              case measure => simp [intOf]; omega
        · have HN := Lib.hid (rowsTo_skip n k hlt (by omega))
          go_wp2
          go_roundw
          case rel => exact ⟨x + 1, by omega, by go_num, Lib.hid (by rw [HN.out]; exact ho.out), he⟩
          case measure => simp [intOf]; omega
      · obtain rfl : x = 2 := by omega
        go_wp2
        go_ret
        exact ⟨_, rfl, by rw [← rowsTo_two]; exact ho.out, he.out⟩
end Go.Proofs.Ytlhjbpachpjpkaa
