/- Texts merged: Switch1 Switch2 Switch3. -/
import Derived.Test.YtlhjbpachpjpkaaPair
import Derived.Test.YtlhjbpachpjpkaaSelf
import Derived.Test.YtlhjbpachpjpkaaBfs
import Derived.Test.YtlhjbpachpjpkaaPaint3
namespace Go.Proofs.Ytlhjbpachpjpkaa
open Go.RowKit Tomo

def sideBy (n k : Nat) (m q : Grid) : Prop := Img m n k ∧ ∃ s, SwV m n k s ∧ SwSt m n k s.a s.b s.x s.y 2 0 q
theorem SwSt.uniq {m q q' : Grid} {n k a b x y : Nat} (h : SwSt m n k a b x y 2 0 q) (h' : SwSt m n k a b x y 2 0 q') : q = q' :=
  grid_ext h.1 h'.1 fun i j hi hj => by rw [h.2 i j hi hj, h'.2 i j hi hj]
theorem side_same {n k : Nat} {m q : Grid} (h : sideBy n k m q) : Img q n k ∧ rsI q = rsI m ∧ csI q = csI m := by
  obtain ⟨hm, s, ⟨h1, h2, h3, h4, h5⟩, hs⟩ := h
  exact (sw_same hm.ok hm hs h1 h2 h3 h4 h5).2
theorem side_symm {n k : Nat} (m q : Grid) (h : sideBy n k m q) : sideBy n k q m := by
  have hq := (side_same h).1
  obtain ⟨hm, s, ⟨h1, h2, h3, h4, h5⟩, hs⟩ := h
  have at_ : ∀ i l, i < n → l < k → at2 q i l = if (i = s.a ∨ i = s.b) ∧ (l = s.x ∨ l = s.y) then 1 - at2 m i l else at2 m i l := fun i l hi hl => by rw [hs.2 i l hi hl, swF_done]
  obtain ⟨s1, s2, s3⟩ := swB_iff.1 h5
  refine ⟨hq, s, ⟨h1, h2, h3, h4, ?_⟩, ⟨hm.1, fun i l hi hl => ?_⟩⟩
  · have e1 := at_ s.a s.x (by omega) (by omega)
    have e2 := at_ s.b s.y h2 h4
    have e3 := at_ s.a s.y (by omega) h4
    have e4 := at_ s.b s.x h2 (by omega)
    rw [if_pos ⟨.inl rfl, .inl rfl⟩] at e1
    rw [if_pos ⟨.inr rfl, .inr rfl⟩] at e2
    rw [if_pos ⟨.inl rfl, .inr rfl⟩] at e3
    rw [if_pos ⟨.inr rfl, .inl rfl⟩] at e4
    rw [swB_iff, e1, e2, e3, e4]
    omega
  · rw [swF_done, at_ i l hi hl]
    by_cases hc : (i = s.a ∨ i = s.b) ∧ (l = s.x ∨ l = s.y)
    · rw [if_pos hc, if_pos hc]; omega
    · rw [if_neg hc, if_neg hc]
theorem side_class {rows cols : List Int} (x y : Grid) (hx : x ∈ allI rows cols) (h : sideBy rows.length cols.length x y) : y ∈ allI rows cols := by
  obtain ⟨hi, h1, h2⟩ := side_same h
  obtain ⟨e1, e2⟩ := allI_eq hx
  have := img_self hi.ok
  rw [h1, h2, e1, e2] at this
  exact this
/-- the cells read as a number -/
def keyR (a : Int) (r : List Int) : Int := r.foldl (fun n c => 2 * n + c) a
def keyG (a : Int) (g : Grid) : Int := g.foldl keyR a
def keyI (g : Grid) : Int := keyG 0 g
theorem keyR_inj : ∀ {r s : List Int} {a b : Int}, r.length = s.length → (∀ x ∈ r, x = 0 ∨ x = 1) → (∀ x ∈ s, x = 0 ∨ x = 1) → keyR a r = keyR b s → a = b ∧ r = s
  | [], [], a, b, _, _, _, h => ⟨h, rfl⟩
  | x :: r, y :: s, a, b, hl, h1, h2, h => by
    have h' : keyR (2 * a + x) r = keyR (2 * b + y) s := h
    obtain ⟨e1, e2⟩ := keyR_inj (by simpa using hl) (fun z hz => h1 z (List.mem_cons_of_mem _ hz)) (fun z hz => h2 z (List.mem_cons_of_mem _ hz)) h'
    have hx := h1 x List.mem_cons_self
    have hy := h2 y List.mem_cons_self
    have e3 : a = b ∧ x = y := by omega
    exact ⟨e3.1, by rw [e2, e3.2]⟩
  | [], y :: s, _, _, hl, _, _, _ => by simp at hl
  | x :: r, [], _, _, hl, _, _, _ => by simp at hl
theorem keyG_inj {k : Nat} : ∀ {g h : Grid} {a b : Int}, g.length = h.length → (∀ r ∈ g, r.length = k ∧ ∀ x ∈ r, x = 0 ∨ x = 1) → (∀ r ∈ h, r.length = k ∧ ∀ x ∈ r, x = 0 ∨ x = 1) → keyG a g = keyG b h → a = b ∧ g = h
  | [], [], a, b, _, _, _, h => ⟨h, rfl⟩
  | r :: g, s :: h, a, b, hl, h1, h2, he => by
    have h' : keyG (keyR a r) g = keyG (keyR b s) h := he
    obtain ⟨e1, e2⟩ := keyG_inj (by simpa using hl) (fun z hz => h1 z (List.mem_cons_of_mem _ hz)) (fun z hz => h2 z (List.mem_cons_of_mem _ hz)) h'
    have hr := h1 r List.mem_cons_self
    have hs := h2 s List.mem_cons_self
    obtain ⟨e3, e4⟩ := keyR_inj (hr.1.trans hs.1.symm) hr.2 hs.2 e1
    exact ⟨e3, by rw [e2, e4]⟩
  | [], y :: s, _, _, hl, _, _, _ => by simp at hl
  | x :: r, [], _, _, hl, _, _, _ => by simp at hl
theorem img_bits {g : Grid} {n k : Nat} (h : Img g n k) : ∀ r ∈ g, r.length = k ∧ ∀ x ∈ r, x = 0 ∨ x = 1 := fun r hr => ⟨h.1.2 r hr, fun x hx => bit_of ((List.all_eq_true.1 (h.2.2.2 r hr)) x hx)⟩
theorem keyI_inj {g h : Grid} {n k : Nat} (hg : Img g n k) (hh : Img h n k) (e : keyI g = keyI h) : g = h := (keyG_inj (hg.1.1.trans hh.1.1.symm) (img_bits hg) (img_bits hh) e).2
theorem keyR_snoc (a : Int) (r : List Int) (c : Int) : keyR a (r ++ [c]) = 2 * keyR a r + c := by unfold keyR; rw [List.foldl_append]; rfl
theorem keyG_snoc (a : Int) (g : Grid) (r : List Int) : keyG a (g ++ [r]) = keyR (keyG a g) r := by unfold keyG; rw [List.foldl_append]; rfl
theorem keyR_bound : ∀ {r : List Int} {a : Int} {p : Nat}, (∀ x ∈ r, x = 0 ∨ x = 1) → 0 ≤ a → a < 2 ^ p → 0 ≤ keyR a r ∧ keyR a r < 2 ^ (p + r.length)
  | [], a, p, _, h0, h1 => ⟨h0, h1⟩
  | x :: r, a, p, h, h0, h1 => by
    have hx := h x List.mem_cons_self
    have h2 : (2 : Int) ^ (p + 1) = 2 ^ p * 2 := Int.pow_succ 2 p
    have := keyR_bound (r := r) (a := 2 * a + x) (p := p + 1) (fun z hz => h z (List.mem_cons_of_mem _ hz)) (by omega) (by omega)
    rw [List.length_cons, show p + (r.length + 1) = p + 1 + r.length by omega]
    exact this
theorem keyG_bound {k : Nat} : ∀ {g : Grid} {a : Int} {p : Nat}, (∀ r ∈ g, r.length = k ∧ ∀ x ∈ r, x = 0 ∨ x = 1) → 0 ≤ a → a < 2 ^ p → 0 ≤ keyG a g ∧ keyG a g < 2 ^ (p + g.length * k)
  | [], a, p, _, h0, h1 => by rw [List.length_nil, Nat.zero_mul]; exact ⟨h0, h1⟩
  | r :: g, a, p, h, h0, h1 => by
    have hr := h r List.mem_cons_self
    obtain ⟨b0, b1⟩ := keyR_bound hr.2 h0 h1
    have := keyG_bound (g := g) (a := keyR a r) (p := p + r.length) (fun z hz => h z (List.mem_cons_of_mem _ hz)) b0 b1
    rw [List.length_cons, hr.1] at *
    rw [show p + (g.length + 1) * k = p + k + g.length * k by rw [Nat.add_mul]; omega]
    exact this
theorem pow25 {p : Nat} {z : Int} (h : z < 2 ^ p) (hp : p ≤ 25) : z < 33554432 := by
  have h1 : (2 : Nat) ^ p ≤ 2 ^ 25 := Nat.pow_le_pow_right (by decide) hp
  have h2 : ((2 : Int) ^ p) = (((2 : Nat) ^ p : Nat) : Int) := by simp
  rw [h2] at h
  have h3 : (2 : Nat) ^ 25 = 33554432 := by decide
  omega
/-- on the way: some rows, and some cells of the next one -/
theorem key_way {g : Grid} {n k : Nat} (h : Img g n k) {i j : Nat} {r : List Int} (hr : g[i]? = some r) : 0 ≤ keyR (keyG 0 (g.take i)) (r.take j) ∧ keyR (keyG 0 (g.take i)) (r.take j) < 33554432 := by
  have hb := img_bits h
  have hi : i < n := by rw [← h.1.1]; exact (List.getElem?_eq_some_iff.1 hr).1
  obtain ⟨a0, a1⟩ := keyG_bound (g := g.take i) (a := 0) (p := 0) (fun s hs => hb s (List.mem_of_mem_take hs)) (Int.le_refl _) (by decide)
  have hrl := hb r (List.mem_of_getElem? hr)
  obtain ⟨b0, b1⟩ := keyR_bound (r := r.take j) (fun x hx => hrl.2 x (List.mem_of_mem_take hx)) a0 a1
  refine ⟨b0, pow25 b1 ?_⟩
  have h5 := h.2.1.2
  have k5 := h.2.2.1.2
  rw [List.length_take, List.length_take, h.1.1, hrl.1, Nat.min_eq_left (by omega)]
  have e1 : i * k ≤ 4 * 5 := Nat.mul_le_mul (by omega) k5
  have e2 : min j k ≤ 5 := Nat.le_trans (Nat.min_le_right _ _) k5
  omega
theorem key_wf {g : Grid} {n k : Nat} (h : Img g n k) : 0 ≤ keyI g ∧ keyI g < 33554432 := by
  obtain ⟨a0, a1⟩ := keyG_bound (g := g) (a := 0) (p := 0) (img_bits h) (Int.le_refl _) (by decide)
  refine ⟨a0, pow25 a1 ?_⟩
  rw [h.1.1]
  have e1 : n * k ≤ 5 * 5 := Nat.mul_le_mul h.2.1.2 h.2.2.1.2
  omega
set_option maxHeartbeats 4000000 in
theorem keyOf_any (A : Option Addr) (ca : Nat) (g : Grid) (n k : Nat) (w : World) (hi : Img g n k) (hx : GridAt w A g) :
    Calls Try.prog 86 #[.slice A n ca] w fun e w' => e = .returned (.int .i64 (keyI g)) ∧ w = w' := by
  have HI := Lib.hid hi
  have HX := Lib.hid hx
  have hn5 := hi.2.1.2
  have hk5 := hi.2.2.1.2
  clear hi hx
  go_enter Try.func86, Try.ntmps86
  go_wp2_with fail
  go_loop [10, 3, 5, 7] (fun i v _ _ => ∃ (j : Nat) (s : Int), j ≤ n ∧ i = .int .i64 j ∧ v = .int .i64 s ∧ Hid (s = keyG 0 (g.take j))) (fun i _ _ _ => n - (intOf i).toNat)
  case atStart => exact ⟨0, 0, Nat.zero_le _, rfl, rfl, Lib.hid (by simp [keyG])⟩
  case round =>
    obtain ⟨j, s, hj, rfl, rfl, hs⟩ := hrel
    by_cases hlt : j < n
    · have hltI : (j : Int) < (n : Int) := by omega
      obtain ⟨b, o, R, c, r, rfl, _, HR, hcr, hir⟩ := HX.out.at_ (k := j) (by rw [HI.out.1.1]; exact hlt)
      have hrl := HI.out.1.2 r (List.mem_of_getElem? HR.out)
      rw [hrl] at hcr
      have HIR := Lib.hid hir
      have HRL := Lib.hid hrl
      clear hir hrl
      go_wp2_with fail
      go_loop [16, 3, 7] (fun i v _ => ∃ (l : Nat) (s : Int), l ≤ k ∧ i = .int .i64 l ∧ v = .int .i64 s ∧ Hid (s = keyR (keyG 0 (g.take j)) (r.take l))) (fun i _ _ => k - (intOf i).toNat)
      case atStart => exact ⟨0, s, Nat.zero_le _, rfl, rfl, Lib.hid (by rw [hs.out, List.take_zero]; rfl)⟩
      case round =>
        clear hs
        obtain ⟨l, s, hl, rfl, rfl, hs⟩ := hrel
        by_cases hltl : l < k
        · have hltlI : (l : Int) < (k : Int) := by omega
          obtain ⟨b2, o2, x, rfl, _, HXX, hcx⟩ := HIR.out.at_ (k := l) (by rw [HRL.out]; exact hltl)
          have h1 := key_way HI.out (j := l) HR.out
          have h2 := key_way HI.out (j := l + 1) HR.out
          rw [take_succ_of HXX.out, keyR_snoc, ← hs.out] at h2
          rw [← hs.out] at h1
          obtain ⟨h3, h4⟩ := h1
          obtain ⟨h5, h6⟩ := h2
          go_wp2_with fail
          go_round
          case rel => exact ⟨l + 1, 2 * s + x, by omega, by go_num, rfl, Lib.hid (by rw [take_succ_of HXX.out, keyR_snoc, hs.out])⟩
          case measure => simp [intOf]; omega
        · obtain rfl : l = k := by omega
          have HN : Hid (s = keyG 0 (g.take (j + 1))) := Lib.hid (by
            have h := hs.out
            have h2 := HRL.out
            rw [List.take_of_length_le (show r.length ≤ l by omega)] at h
            rw [take_succ_of HR.out, keyG_snoc]; exact h)
          go_wp2_with fail
          go_round
          case rel => exact ⟨j + 1, s, by omega, by go_num, rfl, HN⟩
          case measure => simp [intOf]; omega
    · obtain rfl : j = n := by omega
      go_wp2_with fail
      go_ret
      exact ⟨ret_int (by have h := hs.out; rw [List.take_of_length_le (by rw [HI.out.1.1]; exact Nat.le_refl _)] at h; exact h), rfl⟩
end Go.Proofs.Ytlhjbpachpjpkaa

namespace Go.Proofs.Ytlhjbpachpjpkaa
open Go.RowKit Tomo

set_option maxRecDepth 100000 in
set_option maxHeartbeats 4000000 in
theorem implSwitchOk_any (A : Option Addr) (ca : Nat) (m : Grid) (n k a b x y : Nat) (w : World) (hm : Img m n k) (hx : GridAt w A m) (hab : a < b) (hb : b < n) (hxy : x < y) (hy : y < k) :
    Calls Try.prog 101 #[.slice A n ca, .agg #[.int .i64 a, .int .i64 b, .int .i64 x, .int .i64 y]] w fun e w' => e = .returned (.bool (swB m a b x y)) ∧ Ext w w' := by
  obtain ⟨hn1, hn5⟩ := hm.2.1
  obtain ⟨hk1, hk5⟩ := hm.2.2.1
  obtain ⟨b0, o0, _, _, _, rfl, _⟩ := hx.at_ (k := 0) (by rw [hm.1.1]; omega)
  have hrl : ∀ r ∈ m, r.length ≤ 1048576 := fun r hr => by have := hm.1.2 r hr; omega
  have hml : m.length ≤ 1048576 := by have := hm.1.1; omega
  have hmn := hm.1.1
  have hmh := hm.head
  obtain ⟨wb, hwb⟩ : ∃ wb, wb = w.alloc (.cells #[.int .i64 a, .int .i64 b, .int .i64 x, .int .i64 y] 78) := ⟨_, rfl⟩
  have he : Ext w wb := by rw [hwb]; exact (Ext.refl w).alloc _
  have hxb := hx.ext he
  have k1 : (inR (a : Int) 0 ((n : Int) - 1) && inR (x : Int) 0 ((k : Int) - 1)) = true := by rw [Bool.and_eq_true, inR_iff, inR_iff]; omega
  have k2 : (inR (b : Int) 0 ((n : Int) - 1) && inR (y : Int) 0 ((k : Int) - 1)) = true := by rw [Bool.and_eq_true, inR_iff, inR_iff]; omega
  have c1 := hasCell_any (some ⟨b0, o0, none⟩) ca m n k a x wb hml hm hxb
  have c2 := hasCell_any (some ⟨b0, o0, none⟩) ca m n k b y wb hml hm hxb
  rw [k1] at c1
  rw [k2] at c2
  obtain ⟨Ra, cRa, oa, qa, fa⟩ := row_fact hm hxb (show a < n by omega)
  obtain ⟨Rb, cRb, ob, qb, fb⟩ := row_fact hm hxb hb
  have f1 := fa x (by omega)
  have f2 := fa y hy
  have f3 := fb x (by omega)
  have f4 := fb y hy
  have hsb : swB m a b x y = ((at2 m b y == at2 m a x && at2 m a y == 1 - at2 m a x) && at2 m b x == 1 - at2 m a x) := rfl
  have hbu : at2 m a x = 0 ∨ at2 m a x = 1 := by
    obtain ⟨r, c, h1, _, h3, h4⟩ := hm.cell (show a < n by omega) (show x < k by omega)
    rw [at2_of h1 h3]; exact h4
  obtain ⟨u, hu⟩ : ∃ u, at2 m a x = u := ⟨_, rfl⟩
  obtain ⟨p, hp⟩ : ∃ p, at2 m a y = p := ⟨_, rfl⟩
  obtain ⟨q, hq⟩ : ∃ q, at2 m b x = q := ⟨_, rfl⟩
  obtain ⟨v, hv⟩ : ∃ v, at2 m b y = v := ⟨_, rfl⟩
  rw [hu, hp, hq, hv] at hsb
  rw [hu] at f1 hbu
  rw [hp] at f2
  rw [hq] at f3
  rw [hv] at f4
  have b1 : wb.cell? ⟨w.heap.size, 0, none⟩ = some (.int .i64 a) := by rw [hwb]; simp
  have b2 : wb.cell? ⟨w.heap.size, 1, none⟩ = some (.int .i64 b) := by rw [hwb]; simp
  have b3 : wb.cell? ⟨w.heap.size, 2, none⟩ = some (.int .i64 x) := by rw [hwb]; simp
  have b4 : wb.cell? ⟨w.heap.size, 3, none⟩ = some (.int .i64 y) := by rw [hwb]; simp
  have HSB : Hid (swB m a b x y = ((u == v && p == q) && !(u == p))) := Lib.hid (by
    have hpb : p = 0 ∨ p = 1 := by rw [← hp]; obtain ⟨r, c, h1, _, h3, h4⟩ := hm.cell (show a < n by omega) hy; rw [at2_of h1 h3]; exact h4
    have hqb : q = 0 ∨ q = 1 := by rw [← hq]; obtain ⟨r, c, h1, _, h3, h4⟩ := hm.cell hb (show x < k by omega); rw [at2_of h1 h3]; exact h4
    have hvb : v = 0 ∨ v = 1 := by rw [← hv]; obtain ⟨r, c, h1, _, h3, h4⟩ := hm.cell hb hy; rw [at2_of h1 h3]; exact h4
    rw [hsb]
    rcases hbu with h | h <;> rcases hpb with h2 | h2 <;> rcases hqb with h3 | h3 <;> rcases hvb with h4 | h4 <;> rw [h, h2, h3, h4] <;> decide)
  have HE := Lib.hid he
  have HWB := Lib.hid hwb
  have hu0 : 0 ≤ u := by omega
  have hu1 : u ≤ 1 := by omega
  have han : a < n := by omega
  have hxk : x < k := by omega
  have i1 : (a : Int) < (n : Int) := by omega
  have i2 : (b : Int) < (n : Int) := by omega
  have i3 : (x : Int) < (k : Int) := by omega
  have i4 : (y : Int) < (k : Int) := by omega
  have d1 : decide ((b : Int) ≤ (a : Int)) = false := by simp; omega
  have d2 : decide ((y : Int) ≤ (x : Int)) = false := by simp; omega
  clear hsb hbu hwb he hxb hx k1 k2 fa fb hu hp hq hv hmn hmh hml hrl hm
  cases e1 : u == v <;> cases e2 : p == q <;> cases e3 : u == p
  all_goals
    go_enter Try.func101, Try.ntmps101
    go_upto_region 1 with fail
    rw [← HWB.out]
    go_wp2_with fail
    refine c1.mono ?_
    rintro e w' ⟨rfl, rfl⟩
    go_wp2_with fail
    refine c2.mono ?_
    rintro e w' ⟨rfl, rfl⟩
    clear c1 c2
    go_wp2_with fail
    go_quiet (fail)
    go_wp2_with fail
    go_ret
    exact ⟨ret_bool (by rw [HSB.out, e1, e2]; first | rfl | (rw [e3]; rfl)), HE.out.trans ((Ext.refl _).drewN _)⟩
set_option maxRecDepth 100000 in
set_option maxHeartbeats 8000000 in
theorem implApply_any (A : Option Addr) (ca : Nat) (m : Grid) (n k a b x y : Nat) (w : World) (hm : Img m n k) (hx : GridAt w A m) (hab : a < b) (hb : b < n) (hxy : x < y) (hy : y < k) (hsw : swB m a b x y = true) :
    Calls Try.prog 88 #[.slice A n ca, .agg #[.int .i64 a, .int .i64 b, .int .i64 x, .int .i64 y]] w fun e w' => ∃ bo cap q, e = .returned (.tuple #[.slice (some ⟨bo, 0, none⟩) n cap, .bool true]) ∧ OwnGrid w' w.heap.size (.slice (some ⟨bo, 0, none⟩) n cap) q ∧ SwSt m n k a b x y 2 0 q ∧ Ext w w' := by
  obtain ⟨hn1, hn5⟩ := hm.2.1
  obtain ⟨hk1, hk5⟩ := hm.2.2.1
  obtain ⟨b0, o0, _, _, _, rfl, _⟩ := hx.at_ (k := 0) (by rw [hm.1.1]; omega)
  have hmn := hm.1.1
  obtain ⟨wb, hwb⟩ : ∃ wb, wb = w.alloc (.cells #[.int .i64 a, .int .i64 b, .int .i64 x, .int .i64 y] 78) := ⟨_, rfl⟩
  have he : Ext w wb := by rw [hwb]; exact (Ext.refl w).alloc _
  have hsz : wb.heap.size = w.heap.size + 1 := by rw [hwb]; simp
  have c0 := implSwitchOk_any (some ⟨b0, o0, none⟩) ca m n k a b x y wb hm (hx.ext he) hab hb hxy hy
  rw [hsw] at c0
  have HCC := Lib.hid (fun W (e : Ext wb W) => by
    have h := copyGrid_any (some ⟨b0, o0, none⟩) ca m W (by omega) (by omega) (fun r hr => by have := hm.1.2 r hr; omega) (hx.ext (he.trans e))
    rw [hmn] at h
    exact h)
  have b1 : wb.cell? ⟨w.heap.size, 0, none⟩ = some (.int .i64 a) := by rw [hwb]; simp
  have b2 : wb.cell? ⟨w.heap.size, 1, none⟩ = some (.int .i64 b) := by rw [hwb]; simp
  have b3 : wb.cell? ⟨w.heap.size, 2, none⟩ = some (.int .i64 x) := by rw [hwb]; simp
  have b4 : wb.cell? ⟨w.heap.size, 3, none⟩ = some (.int .i64 y) := by rw [hwb]; simp
  have HM := Lib.hid hm
  have HE := Lib.hid he
  have HWB := Lib.hid hwb
  have HSZ := Lib.hid hsz
  have HAB := Lib.hid hab
  have HXY := Lib.hid hxy
  have han : a < n := by omega
  have hxk : x < k := by omega
  clear hsw hm hx he hwb hsz hmn
  go_enter Try.func88, Try.ntmps88
  go_upto_region 1 with fail
  rw [← HWB.out]
  go_wp2_with fail
  refine c0.mono ?_
  rintro e w0 ⟨rfl, he0⟩
  have HE0 := Lib.hid he0
  have cc := HCC.out w0 he0
  clear c0 he0 HCC
  go_wp2_with fail
  refine cc.mono ?_
  rintro e w1 ⟨bo, cap, rfl, ho, he1⟩
  have he1 : Ext wb w1 := HE0.out.trans he1
  have ho : OwnGrid w1 wb.heap.size (.slice (some ⟨bo, 0, none⟩) n cap) m := ho.base HE0.out.size
  have c1 : w1.cell? ⟨w.heap.size, 0, none⟩ = some (.int .i64 a) := (he1.cell (World.block_lt_of_cell? _ _ b1)).trans b1
  have c2 : w1.cell? ⟨w.heap.size, 1, none⟩ = some (.int .i64 b) := (he1.cell (World.block_lt_of_cell? _ _ b2)).trans b2
  have c3 : w1.cell? ⟨w.heap.size, 2, none⟩ = some (.int .i64 x) := (he1.cell (World.block_lt_of_cell? _ _ b3)).trans b3
  have c4 : w1.cell? ⟨w.heap.size, 3, none⟩ = some (.int .i64 y) := (he1.cell (World.block_lt_of_cell? _ _ b4)).trans b4
  have hap : ApM w (w1.alloc (.cells #[.int .i64 a, .int .i64 b] 3)) bo n k w1.heap.size w1.heap.size a b x y := by
    have e2 : Ext w1 (w1.alloc (.cells #[.int .i64 a, .int .i64 b] 3)) := (Ext.refl w1).alloc _
    refine ⟨fun i hi => ?_, by simp, by simp, (e2.cell (World.block_lt_of_cell? _ _ c3)).trans c3, (e2.cell (World.block_lt_of_cell? _ _ c4)).trans c4⟩
    obtain ⟨r, hr, hrl⟩ := HM.out.1.get hi
    obtain ⟨R, c', hc', _, hBR, hRl, _⟩ := ho.row hr (by omega)
    rw [hrl] at hc'
    refine ⟨R, c', (e2.cell (World.block_lt_of_cell? _ _ hc')).trans hc', ho.spine_ne hr hc', by have := HSZ.out; omega, hRl⟩
  have HAP := Lib.hid hap
  have HO1 := Lib.hid (ho.ext ((Ext.refl w1).alloc (.cells #[.int .i64 a, .int .i64 b] 3)))
  have HE1 := Lib.hid (HE.out.trans (he1.alloc (.cells #[.int .i64 a, .int .i64 b] 3)))
  have HST : Hid (SwSt m n k a b x y 0 0 m) := Lib.hid (SwSt.start HM.out.1)
  clear cc ho he1 hap b1 b2 b3 b4
  go_wp2_with fail
  obtain ⟨hi, hhi⟩ : ∃ hi, w1.heap.size = hi := ⟨_, rfl⟩
  rw [hhi] at HAP ⊢
  go_loopw [23, 8, 10] (fun i _ _ wr => ∃ (p : Nat) (q : Grid), p ≤ 2 ∧ i = .int .i64 p ∧ Hid (OwnGrid wr wb.heap.size (.slice (some ⟨bo, 0, none⟩) n cap) q) ∧ Hid (SwSt m n k a b x y p 0 q) ∧ Hid (ApM w wr bo n k hi hi a b x y) ∧ Hid (Ext w wr) ∧ Hid (hi < wr.heap.size)) (fun i _ _ _ => 2 - (intOf i).toNat)
  case atStart => exact ⟨0, m, by omega, rfl, HO1, HST, HAP, HE1, Lib.hid (by rw [← hhi]; simp)⟩
  case round =>
    rename World => wo
    clear HO1 HST HAP HE1 c1 c2 c3 c4 hhi
    obtain ⟨p, q, hp, rfl, hO, hS, hA, hE, hH⟩ := hrel
    by_cases hlt : p < 2
    · have hlt2 : (p : Int) < 2 := by omega
      obtain ⟨Y, hY1, hY2, hYn⟩ := hA.out.y hlt han hb
      have HY2 := Lib.hid hY2
      have hx3 := hA.out.bx
      have hy3 := hA.out.by_
      obtain ⟨wl, hwl⟩ : ∃ wl, wl = wo.alloc (.cells #[.int .i64 x, .int .i64 y] 3) := ⟨_, rfl⟩
      have HWL := Lib.hid hwl
      have HL : Hid (wl.cell? ⟨wo.heap.size, 0, none⟩ = some (.int .i64 x) ∧ wl.cell? ⟨wo.heap.size, 1, none⟩ = some (.int .i64 y)) := Lib.hid (by rw [hwl]; simp)
      have hEl : Ext wo wl := by rw [hwl]; exact (Ext.refl wo).alloc _
      have HO2 := Lib.hid (hO.out.ext hEl)
      have HA2 := Lib.hid (hA.out.ext hEl)
      have HE2 := Lib.hid (hE.out.trans hEl)
      have HH2 := Lib.hid (Nat.lt_of_lt_of_le hH.out hEl.size)
      clear hY2 hwl hEl hO hA hE
      go_wp2_with fail
      rw [← HWL.out]
      go_loopw [33, 10] (fun i _ wr => ∃ (r : Nat) (q : Grid), r ≤ 2 ∧ i = .int .i64 r ∧ Hid (OwnGrid wr wb.heap.size (.slice (some ⟨bo, 0, none⟩) n cap) q) ∧ Hid (SwSt m n k a b x y p r q) ∧ Hid (ApM w wr bo n k hi hi a b x y) ∧ Hid (Ext w wr) ∧ Hid (hi < wr.heap.size) ∧ Hid (wr.cell? ⟨wo.heap.size, 0, none⟩ = some (.int .i64 x) ∧ wr.cell? ⟨wo.heap.size, 1, none⟩ = some (.int .i64 y))) (fun i _ _ => 2 - (intOf i).toNat)
      case atStart => exact ⟨0, q, by omega, rfl, HO2, hS, HA2, HE2, HH2, HL⟩
      case round =>
        rename World => wi
        clear HO2 hS HA2 HE2 HH2 HL
        obtain ⟨r, q, hr, rfl, hO, hS, hA, hE, hH2, hL⟩ := hrel
        by_cases hltr : r < 2
        · have hltr2 : (r : Int) < 2 := by omega
          obtain ⟨X, hX1, hX2, hXk⟩ := two_at hL.out hltr hxk hy
          obtain ⟨qr, hqr, hqrl⟩ := hS.out.1.get hYn
          obtain ⟨Rq, cR, hcq, _, hBR, hRl, hints, hfr, hset⟩ := hO.out.row hqr (by omega)
          rw [hqrl] at hcq
          obtain ⟨R', c', hr1, hr2, hr3, hr4⟩ := hA.out.rows Y hYn
          rw [hcq] at hr1
          cases hr1
          obtain ⟨old, hqo, hold⟩ := hints.at1 (k := X) (by omega)
          rw [Nat.zero_add] at hold
          have holdm : old = at2 m Y X := by
            rw [← at2_of hqr hqo.out, hS.out.2 Y X hYn hXk]
            unfold swF
            rw [if_neg]
            have hY2 := HY2.out
            have hab := HAB.out
            have hxy := HXY.out
            unfold swDone
            rcases (by omega : p = 0 ∨ p = 1) with rfl | rfl <;> rcases (by omega : r = 0 ∨ r = 1) with rfl | rfl <;> simp at hX2 hY2 <;> omega
          subst holdm
          have hfx := hfr X
          have hvb : at2 m Y X = 0 ∨ at2 m Y X = 1 := by
            obtain ⟨r, c, h1, _, h3, h4⟩ := HM.out.cell hYn hXk
            rw [at2_of h1 h3]; exact h4
          have HST2 := Lib.hid (hS.out.put hlt hltr HY2.out hX2 hXk hqr)
          have HOW := Lib.hid (fun z => hset X z (by omega))
          have HAP2 := Lib.hid (fun z => hA.out.set (X := X) (.int .i64 z) hr2 hr3 hr4 (Nat.le_refl _))
          have HEX : Hid (∀ z : Int, Ext w (wi.setCell ⟨Rq, X, none⟩ (.int .i64 z))) := Lib.hid fun z => Below.setCell hE.out (show w.heap.size ≤ Rq by omega) _
          have HLX : Hid (∀ z : Int, (wi.setCell ⟨Rq, X, none⟩ (.int .i64 z)).cell? ⟨wo.heap.size, 0, none⟩ = some (.int .i64 x) ∧ (wi.setCell ⟨Rq, X, none⟩ (.int .i64 z)).cell? ⟨wo.heap.size, 1, none⟩ = some (.int .i64 y)) := Lib.hid fun z => by
            have h0 := hH.out
            constructor
            · rw [World.cell?_setCell_other _ _ _ _ (by simp)]; exact hL.out.1
            · rw [World.cell?_setCell_other _ _ _ _ (by simp)]; exact hL.out.2
          obtain ⟨v, hv⟩ : ∃ v, at2 m Y X = v := ⟨_, rfl⟩
          rw [hv] at HST2 hold hvb
          have hv0 : 0 ≤ v := by omega
          have hv1 : v ≤ 1 := by omega
          have hw : IntKind.i64.wrap (1 - v) = 1 - v := IntWalk.i64_in _ (by omega)
          have iY : (Y : Int) < (n : Int) := by omega
          have iX : (X : Int) < (k : Int) := by omega
          have HH3 := hH2
          clear hqo hvb hv hset hints hfr hS hO hA hE hL hX2 hr2 hr3 hr4 hqr hqrl hBR
          go_wp2_with fail
          first | go_region_with (fail) | fail
          all_goals
            have HN1 := Lib.hid ((HOW.out (1 - v)).ext ((Ext.refl _).drew))
            have HN2 := Lib.hid ((HAP2.out (1 - v)).ext ((Ext.refl _).drew))
            have HN3 := Lib.hid ((HEX.out (1 - v)).trans ((Ext.refl _).drew))
            have HN4 := Lib.hid (HLX.out (1 - v))
            have HN5 : Hid (hi < ((wi.setCell ⟨Rq, X, none⟩ (.int .i64 (1 - v))).drew).heap.size) := Lib.hid (by have := HH3.out; have h := (Below.setCell (Below.refl 0 wi) (Nat.zero_le Rq) (.int .i64 (1 - v)) : Below 0 wi (wi.setCell ⟨Rq, X, none⟩ (.int .i64 (1 - v)))).size; exact Nat.lt_of_lt_of_le this h)
            clear HOW HAP2 HEX HLX
            try rw [hw]
            go_wp2_with fail
            go_roundw
            case rel => exact ⟨r + 1, _, by omega, by go_num, HN1, HST2, HN2, HN3, HN5, HN4⟩
            case measure => simp [intOf]; omega
        · obtain rfl : r = 2 := by omega
          have HS2 := Lib.hid (hS.out.row hlt)
          go_wp2_with fail
          go_roundw
          case rel => exact ⟨p + 1, q, by omega, by go_num, hO, HS2, hA, hE, hH2⟩
          case measure => simp [intOf]; omega
    · obtain rfl : p = 2 := by omega
      go_wp2_with fail
      go_ret2
      exact ⟨bo, cap, q, rfl, hO.out.base (by have := HSZ.out; omega), hS.out, hE.out⟩
end Go.Proofs.Ytlhjbpachpjpkaa

namespace Go.Proofs.Ytlhjbpachpjpkaa
open Go.RowKit Tomo

/-- the switch stands ahead of this place -/
def ahead (s : Sw) (a b x y : Nat) : Prop := s.a < a ∨ (s.a = a ∧ (s.b < b ∨ (s.b = b ∧ (s.x < x ∨ (s.x = x ∧ s.y < y)))))
instance (s : Sw) (a b x y : Nat) : Decidable (ahead s a b x y) := by unfold ahead; infer_instance
structure SwA (m : Grid) (n k : Nat) (w wr : World) (v : Value) (N : Nat) (ss : List Sw) (a b x y : Nat) : Prop where
  base : SwL m n k w wr v N ss
  all : ∀ s, SwV m n k s → ahead s a b x y → s ∈ ss
theorem SwA.shift {m : Grid} {n k : Nat} {w wr : World} {v : Value} {N N' : Nat} {ss : List Sw} {a b x y a' b' x' y' : Nat} (h : SwA m n k w wr v N ss a b x y) (hN : N ≤ N') (hp : ∀ s, SwV m n k s → ahead s a' b' x' y' → ahead s a b x y) : SwA m n k w wr v N' ss a' b' x' y' :=
  ⟨⟨h.base.own, h.base.ok, Nat.le_trans h.base.few hN, h.base.ext⟩, fun s hv hb => h.all s hv (hp s hv hb)⟩
set_option maxRecDepth 100000 in
set_option maxHeartbeats 8000000 in
theorem specSwitches_any (A : Option Addr) (ca : Nat) (m : Grid) (n k : Nat) (w : World) (hg : gridOk m 0 1 = true) (hm : Img m n k) (hx : GridAt w A m) :
    Calls Try.prog 80 #[.slice A n ca] w fun e w' => ∃ v ss, e = .returned v ∧ SwL m n k w w' v 256 ss ∧ ∀ s, SwV m n k s → s ∈ ss := by
  obtain ⟨hn1, hn5⟩ := hm.2.1
  obtain ⟨hk1, hk5⟩ := hm.2.2.1
  obtain ⟨b0, o0, _, _, _, rfl, _⟩ := hx.at_ (k := 0) (by rw [hm.1.1]; omega)
  have ci := specImageOk_any (some ⟨b0, o0, none⟩) ca m w (by rw [hm.1.1]; omega) (fun r hr => by have := hm.1.2 r hr; omega) hx
  rw [hg, hm.1.1] at ci
  obtain ⟨R0, c0, p0, q0, _⟩ := row_fact hm hx (show 0 < n by omega)
  rw [Nat.add_zero] at q0
  have HQ0 : Hid (∀ W, Ext w W → W.cell? ⟨b0, o0, none⟩ = some (.slice (some ⟨R0, p0, none⟩) k c0)) := Lib.hid fun W e => (e.cell (World.block_lt_of_cell? _ _ q0)).trans q0
  have HSO := Lib.hid (fun a b x y (W : World) (e : Ext w W) (hab : a < b) (hb : b < n) (hxy : x < y) (hy : y < k) => SwitchOk_any (some ⟨b0, o0, none⟩) ca m n k a b x y W hg hm (hx.ext e) hab hb hxy hy)
  have hn0 : 0 < n := by omega
  have hnI : (0 : Int) < (n : Int) := by omega
  clear hg hm hx q0
  go_enter Try.func80, Try.ntmps80
  go_wp2_with fail
  refine ci.mono ?_
  rintro e w1 ⟨rfl, rfl⟩
  have HS0 : Hid (SwA m n k w (w.alloc (.cells #[] 78)) (.slice (some ⟨w.heap.size, 0, none⟩) 0 0) 0 [] 0 0 0 0) := Lib.hid ⟨⟨OwnS.empty w _ (Nat.le_refl _), fun s hs => (by cases hs), Nat.le_refl _, (Ext.refl w).alloc _⟩, fun s hs hb => by have := hs.1; unfold ahead at hb; omega⟩
  clear ci
  go_wp2_with fail
  go_loopw [15, 3, 4, 5, 6, 7, 8] (fun i o _ _ _ _ _ wr => ∃ (a : Nat) (v : Value) (ss : List Sw), a ≤ n ∧ i = .int .i64 a ∧ o = v ∧ Hid (SwA m n k w wr v (64 * min a 4) ss a 0 0 0)) (fun i _ _ _ _ _ _ _ => n - (intOf i).toNat)
  case atStart => exact ⟨0, _, [], Nat.zero_le _, rfl, rfl, HS0⟩
  case round =>
    rename World => wa
    obtain ⟨a, v, ss, ha, rfl, rfl, hS⟩ := hrel
    by_cases hlta : a < n
    · go_wp2_with fail
      go_loopw [5, 3, 6, 7, 8] (fun i o _ _ _ wr => ∃ (b : Nat) (v : Value) (ss : List Sw), a < b ∧ b ≤ n ∧ i = .int .i64 b ∧ o = v ∧ Hid (SwA m n k w wr v (64 * min a 4 + 16 * (b - a - 1)) ss a b 0 0)) (fun i _ _ _ _ _ => n - (intOf i).toNat)
      case atStart => exact ⟨a + 1, _, ss, by omega, by omega, by go_num, rfl, Lib.hid (hS.out.shift (by omega) (fun s h hb => by obtain ⟨h1, h2, h3, h4, _⟩ := h; unfold ahead at hb ⊢; omega))⟩
      case round =>
        rename World => wb
        clear hS
        obtain ⟨b, v, ss, hab, hb, rfl, rfl, hS⟩ := hrel
        have q0 := HQ0.out wb hS.out.base.ext
        by_cases hltb : b < n
        · go_wp2_with fail
          go_loopw [30, 3, 6, 7, 8] (fun i o _ _ _ wr => ∃ (x : Nat) (v : Value) (ss : List Sw), x ≤ k ∧ i = .int .i64 x ∧ o = v ∧ Hid (SwA m n k w wr v (64 * min a 4 + 16 * (b - a - 1) + 4 * min x 4) ss a b x 0)) (fun i _ _ _ _ _ => k - (intOf i).toNat)
          case atStart => exact ⟨0, _, ss, Nat.zero_le _, rfl, rfl, Lib.hid (hS.out.shift (by omega) (fun s h hb => by obtain ⟨h1, h2, h3, h4, _⟩ := h; unfold ahead at hb ⊢; omega))⟩
          case round =>
            rename World => wx
            clear hS q0
            obtain ⟨x, v, ss, hxk, rfl, rfl, hS⟩ := hrel
            by_cases hltx : x < k
            · go_wp2_with fail
              go_loopw [7, 3, 8] (fun i o _ wr => ∃ (y : Nat) (v : Value) (ss : List Sw), x < y ∧ y ≤ k ∧ i = .int .i64 y ∧ o = v ∧ Hid (SwA m n k w wr v (64 * min a 4 + 16 * (b - a - 1) + 4 * min x 4 + (y - x - 1)) ss a b x y)) (fun i _ _ _ => k - (intOf i).toNat)
              case atStart => exact ⟨x + 1, _, ss, by omega, by omega, by go_num, rfl, Lib.hid (hS.out.shift (by omega) (fun s h hb => by obtain ⟨h1, h2, h3, h4, _⟩ := h; unfold ahead at hb ⊢; omega))⟩
              case round =>
                rename World => wy
                clear hS
                obtain ⟨y, v, ss, hxy, hyk, rfl, rfl, hS⟩ := hrel
                have q0 := HQ0.out wy hS.out.base.ext
                by_cases hlty : y < k
                · have cs := HSO.out a b x y (wy.alloc (.cells #[.int .i64 a, .int .i64 b, .int .i64 x, .int .i64 y] 78)) (hS.out.base.ext.alloc _) hab hltb hxy hlty
                  obtain ⟨sb, hsb⟩ : ∃ sb, swB m a b x y = sb := ⟨_, rfl⟩
                  have HSB := Lib.hid hsb
                  rw [hsb] at cs
                  clear hsb
                  go_wp2_with fail
                  refine cs.mono ?_
                  rintro e w2 ⟨rfl, he⟩
                  have h1 : w2.cell? ⟨wy.heap.size, 0, none⟩ = some (.int .i64 a) := (he.cell (by simp)).trans (by simp)
                  have h2 : w2.cell? ⟨wy.heap.size, 1, none⟩ = some (.int .i64 b) := (he.cell (by simp)).trans (by simp)
                  have h3 : w2.cell? ⟨wy.heap.size, 2, none⟩ = some (.int .i64 x) := (he.cell (by simp)).trans (by simp)
                  have h4 : w2.cell? ⟨wy.heap.size, 3, none⟩ = some (.int .i64 y) := (he.cell (by simp)).trans (by simp)
                  have HE2 := Lib.hid ((hS.out.base.ext.alloc _).trans he)
                  have HO2 := Lib.hid (hS.out.base.own.ext (((Ext.refl wy).alloc _).trans he))
                  have HF := Lib.hid hS.out.base.few
                  have HOK := Lib.hid hS.out.base.ok
                  have HAL := Lib.hid hS.out.all
                  clear cs he
                  have hsc := Bool.eq_false_or_eq_true sb
                  rcases hsc with hsc | hsc
                  · have hfew : ss.length ≤ 700 := by have := HF.out; omega
                    have HSZ := Lib.hid HE2.out.size
                    rw [hsc] at HSB
                    subst hsc
                    go_wp2_with (at_builtin; refine app_sw (B := w.heap.size) (s := ⟨a, b, x, y⟩) (HO2.out.ext ((Ext.refl w2).alloc _)) (by have := HSZ.out; simp; omega) (by omega) (sw_cells (by simp) (by simp) (by simp) (by simp)) rfl _ _ rfl rfl rfl ?_)
                    intro v3 w3 ho3 hb3
                    have HN : Hid (SwA m n k w w3 v3 (64 * min a 4 + 16 * (b - a - 1) + 4 * min x 4 + (y + 1 - x - 1)) (ss ++ [⟨a, b, x, y⟩]) a b x (y + 1)) := Lib.hid ⟨⟨ho3, fun s hs => by
                      rcases List.mem_append.1 hs with h | h
                      · exact HOK.out s h
                      · rw [List.mem_singleton.1 h]; exact ⟨hab, hltb, hxy, hlty, HSB.out⟩, by have := HF.out; rw [List.length_append]; simp; omega, hb3 w (HE2.out.alloc _)⟩, fun s hv hb => by
                      by_cases he : ahead s a b x y
                      · exact List.mem_append_left _ (HAL.out s hv he)
                      · obtain ⟨sa, sb, sx, sy⟩ := s
                        unfold ahead at hb he
                        simp only at hb he
                        have : sa = a ∧ sb = b ∧ sx = x ∧ sy = y := by omega
                        obtain ⟨rfl, rfl, rfl, rfl⟩ := this
                        exact List.mem_append_right _ List.mem_cons_self⟩
                    clear ho3 hb3 h1 h2 h3 h4 q0 hS
                    go_wp2_with fail
                    go_roundw
                    case rel => exact ⟨y + 1, _, _, by omega, by omega, by go_num, rfl, HN⟩
                    case measure => simp [intOf]; omega
                  · rw [hsc] at HSB
                    subst hsc
                    have HN : Hid (SwA m n k w w2 _ (64 * min a 4 + 16 * (b - a - 1) + 4 * min x 4 + (y + 1 - x - 1)) ss a b x (y + 1)) := Lib.hid ⟨⟨HO2.out, HOK.out, by have := HF.out; omega, HE2.out⟩, fun s hv hb => by
                      by_cases he : ahead s a b x y
                      · exact HAL.out s hv he
                      · obtain ⟨sa, sb, sx, sy⟩ := s
                        unfold ahead at hb he
                        simp only at hb he
                        have : sa = a ∧ sb = b ∧ sx = x ∧ sy = y := by omega
                        obtain ⟨rfl, rfl, rfl, rfl⟩ := this
                        have h5 := hv.2.2.2.2
                        rw [HSB.out] at h5; cases h5⟩
                    clear h1 h2 h3 h4 q0 hS
                    go_wp2_with fail
                    go_roundw
                    case rel => exact ⟨y + 1, _, _, by omega, by omega, by go_num, rfl, HN⟩
                    case measure => simp [intOf]; omega
                · obtain rfl : y = k := by omega
                  go_wp2_with fail
                  go_roundw
                  case rel => exact ⟨x + 1, _, ss, by omega, by go_num, rfl, Lib.hid (hS.out.shift (by omega) (fun s h hb => by obtain ⟨h1, h2, h3, h4, _⟩ := h; unfold ahead at hb ⊢; omega))⟩
                  case measure => simp [intOf]; omega
            · obtain rfl : x = k := by omega
              go_wp2_with fail
              go_roundw
              case rel => exact ⟨b + 1, _, ss, by omega, by omega, by go_num, rfl, Lib.hid (hS.out.shift (by omega) (fun s h hb => by obtain ⟨h1, h2, h3, h4, _⟩ := h; unfold ahead at hb ⊢; omega))⟩
              case measure => simp [intOf]; omega
        · obtain rfl : b = n := by omega
          go_wp2_with fail
          go_roundw
          case rel => exact ⟨a + 1, _, ss, by omega, by go_num, rfl, Lib.hid (hS.out.shift (by omega) (fun s h hb => by obtain ⟨h1, h2, h3, h4, _⟩ := h; unfold ahead at hb ⊢; omega))⟩
          case measure => simp [intOf]; omega
    · obtain rfl : a = n := by omega
      go_wp2_with fail
      go_ret
      exact ⟨_, ss, rfl, ⟨hS.out.base.own, hS.out.base.ok, by have := hS.out.base.few; omega, hS.out.base.ext⟩, fun s hv => hS.out.all s hv (by obtain ⟨h1, h2, h3, h4, _⟩ := hv; unfold ahead; omega)⟩
set_option maxRecDepth 100000 in
set_option maxHeartbeats 8000000 in
theorem implSwitches_any (A : Option Addr) (ca : Nat) (m : Grid) (n k : Nat) (w : World) (hg : gridOk m 0 1 = true) (hm : Img m n k) (hx : GridAt w A m) :
    Calls Try.prog 87 #[.slice A n ca] w fun e w' => ∃ v ss, e = .returned v ∧ SwL m n k w w' v 256 ss ∧ ∀ s, SwV m n k s → s ∈ ss := by
  obtain ⟨hn1, hn5⟩ := hm.2.1
  obtain ⟨hk1, hk5⟩ := hm.2.2.1
  obtain ⟨b0, o0, _, _, _, rfl, _⟩ := hx.at_ (k := 0) (by rw [hm.1.1]; omega)
  have ci := implImageOk_any (some ⟨b0, o0, none⟩) ca m w (by rw [hm.1.1]; omega) (fun r hr => by have := hm.1.2 r hr; omega) hx
  rw [hg, hm.1.1] at ci
  obtain ⟨R0, c0, p0, q0, _⟩ := row_fact hm hx (show 0 < n by omega)
  rw [Nat.add_zero] at q0
  have HQ0 : Hid (∀ W, Ext w W → W.cell? ⟨b0, o0, none⟩ = some (.slice (some ⟨R0, p0, none⟩) k c0)) := Lib.hid fun W e => (e.cell (World.block_lt_of_cell? _ _ q0)).trans q0
  have HSO := Lib.hid (fun a b x y (W : World) (e : Ext w W) (hab : a < b) (hb : b < n) (hxy : x < y) (hy : y < k) => implSwitchOk_any (some ⟨b0, o0, none⟩) ca m n k a b x y W hm (hx.ext e) hab hb hxy hy)
  have hn0 : 0 < n := by omega
  have hnI : (0 : Int) < (n : Int) := by omega
  clear hg hm hx q0
  go_enter Try.func87, Try.ntmps87
  go_wp2_with fail
  refine ci.mono ?_
  rintro e w1 ⟨rfl, rfl⟩
  have HS0 : Hid (SwA m n k w w (.slice none 0 0) 0 [] 0 0 0 0) := Lib.hid ⟨⟨World.ownsRow_nil w _ _ _, fun s hs => (by cases hs), Nat.le_refl _, Ext.refl w⟩, fun s hs hb => by have := hs.1; unfold ahead at hb; omega⟩
  clear ci
  go_wp2_with fail
  go_loopw [14, 3, 4, 5, 6, 7, 8] (fun i o _ _ _ _ _ wr => ∃ (a : Nat) (v : Value) (ss : List Sw), a ≤ n ∧ i = .int .i64 a ∧ o = v ∧ Hid (SwA m n k w wr v (64 * min a 4) ss a 0 0 0)) (fun i _ _ _ _ _ _ _ => n - (intOf i).toNat)
  case atStart => exact ⟨0, _, [], Nat.zero_le _, rfl, rfl, HS0⟩
  case round =>
    rename World => wa
    obtain ⟨a, v, ss, ha, rfl, rfl, hS⟩ := hrel
    by_cases hlta : a < n
    · go_wp2_with fail
      go_loopw [5, 3, 6, 7, 8] (fun i o _ _ _ wr => ∃ (b : Nat) (v : Value) (ss : List Sw), a < b ∧ b ≤ n ∧ i = .int .i64 b ∧ o = v ∧ Hid (SwA m n k w wr v (64 * min a 4 + 16 * (b - a - 1)) ss a b 0 0)) (fun i _ _ _ _ _ => n - (intOf i).toNat)
      case atStart => exact ⟨a + 1, _, ss, by omega, by omega, by go_num, rfl, Lib.hid (hS.out.shift (by omega) (fun s h hb => by obtain ⟨h1, h2, h3, h4, _⟩ := h; unfold ahead at hb ⊢; omega))⟩
      case round =>
        rename World => wb
        clear hS
        obtain ⟨b, v, ss, hab, hb, rfl, rfl, hS⟩ := hrel
        have q0 := HQ0.out wb hS.out.base.ext
        by_cases hltb : b < n
        · go_wp2_with fail
          go_loopw [29, 3, 6, 7, 8] (fun i o _ _ _ wr => ∃ (x : Nat) (v : Value) (ss : List Sw), x ≤ k ∧ i = .int .i64 x ∧ o = v ∧ Hid (SwA m n k w wr v (64 * min a 4 + 16 * (b - a - 1) + 4 * min x 4) ss a b x 0)) (fun i _ _ _ _ _ => k - (intOf i).toNat)
          case atStart => exact ⟨0, _, ss, Nat.zero_le _, rfl, rfl, Lib.hid (hS.out.shift (by omega) (fun s h hb => by obtain ⟨h1, h2, h3, h4, _⟩ := h; unfold ahead at hb ⊢; omega))⟩
          case round =>
            rename World => wx
            clear hS q0
            obtain ⟨x, v, ss, hxk, rfl, rfl, hS⟩ := hrel
            by_cases hltx : x < k
            · go_wp2_with fail
              go_loopw [7, 3, 8] (fun i o _ wr => ∃ (y : Nat) (v : Value) (ss : List Sw), x < y ∧ y ≤ k ∧ i = .int .i64 y ∧ o = v ∧ Hid (SwA m n k w wr v (64 * min a 4 + 16 * (b - a - 1) + 4 * min x 4 + (y - x - 1)) ss a b x y)) (fun i _ _ _ => k - (intOf i).toNat)
              case atStart => exact ⟨x + 1, _, ss, by omega, by omega, by go_num, rfl, Lib.hid (hS.out.shift (by omega) (fun s h hb => by obtain ⟨h1, h2, h3, h4, _⟩ := h; unfold ahead at hb ⊢; omega))⟩
              case round =>
                rename World => wy
                clear hS
                obtain ⟨y, v, ss, hxy, hyk, rfl, rfl, hS⟩ := hrel
                have q0 := HQ0.out wy hS.out.base.ext
                by_cases hlty : y < k
                · have cs := HSO.out a b x y (wy.alloc (.cells #[.int .i64 a, .int .i64 b, .int .i64 x, .int .i64 y] 78)) (hS.out.base.ext.alloc _) hab hltb hxy hlty
                  obtain ⟨sb, hsb⟩ : ∃ sb, swB m a b x y = sb := ⟨_, rfl⟩
                  have HSB := Lib.hid hsb
                  rw [hsb] at cs
                  clear hsb
                  go_wp2_with fail
                  refine cs.mono ?_
                  rintro e w2 ⟨rfl, he⟩
                  have h1 : w2.cell? ⟨wy.heap.size, 0, none⟩ = some (.int .i64 a) := (he.cell (by simp)).trans (by simp)
                  have h2 : w2.cell? ⟨wy.heap.size, 1, none⟩ = some (.int .i64 b) := (he.cell (by simp)).trans (by simp)
                  have h3 : w2.cell? ⟨wy.heap.size, 2, none⟩ = some (.int .i64 x) := (he.cell (by simp)).trans (by simp)
                  have h4 : w2.cell? ⟨wy.heap.size, 3, none⟩ = some (.int .i64 y) := (he.cell (by simp)).trans (by simp)
                  have HE2 := Lib.hid ((hS.out.base.ext.alloc _).trans he)
                  have HO2 := Lib.hid (hS.out.base.own.ext (((Ext.refl wy).alloc _).trans he))
                  have HF := Lib.hid hS.out.base.few
                  have HOK := Lib.hid hS.out.base.ok
                  have HAL := Lib.hid hS.out.all
                  clear cs he
                  have hsc := Bool.eq_false_or_eq_true sb
                  rcases hsc with hsc | hsc
                  · have hfew : ss.length ≤ 700 := by have := HF.out; omega
                    have HSZ := Lib.hid HE2.out.size
                    rw [hsc] at HSB
                    subst hsc
                    go_wp2_with (at_builtin; refine app_sw (B := w.heap.size) (s := ⟨a, b, x, y⟩) (HO2.out.ext ((Ext.refl w2).alloc _)) (by have := HSZ.out; simp; omega) (by omega) (sw_cells (by simp) (by simp) (by simp) (by simp)) rfl _ _ rfl rfl rfl ?_)
                    intro v3 w3 ho3 hb3
                    have HN : Hid (SwA m n k w w3 v3 (64 * min a 4 + 16 * (b - a - 1) + 4 * min x 4 + (y + 1 - x - 1)) (ss ++ [⟨a, b, x, y⟩]) a b x (y + 1)) := Lib.hid ⟨⟨ho3, fun s hs => by
                      rcases List.mem_append.1 hs with h | h
                      · exact HOK.out s h
                      · rw [List.mem_singleton.1 h]; exact ⟨hab, hltb, hxy, hlty, HSB.out⟩, by have := HF.out; rw [List.length_append]; simp; omega, hb3 w (HE2.out.alloc _)⟩, fun s hv hb => by
                      by_cases he : ahead s a b x y
                      · exact List.mem_append_left _ (HAL.out s hv he)
                      · obtain ⟨sa, sb, sx, sy⟩ := s
                        unfold ahead at hb he
                        simp only at hb he
                        have : sa = a ∧ sb = b ∧ sx = x ∧ sy = y := by omega
                        obtain ⟨rfl, rfl, rfl, rfl⟩ := this
                        exact List.mem_append_right _ List.mem_cons_self⟩
                    clear ho3 hb3 h1 h2 h3 h4 q0 hS
                    go_wp2_with fail
                    go_roundw
                    case rel => exact ⟨y + 1, _, _, by omega, by omega, by go_num, rfl, HN⟩
                    case measure => simp [intOf]; omega
                  · rw [hsc] at HSB
                    subst hsc
                    have HN : Hid (SwA m n k w w2 _ (64 * min a 4 + 16 * (b - a - 1) + 4 * min x 4 + (y + 1 - x - 1)) ss a b x (y + 1)) := Lib.hid ⟨⟨HO2.out, HOK.out, by have := HF.out; omega, HE2.out⟩, fun s hv hb => by
                      by_cases he : ahead s a b x y
                      · exact HAL.out s hv he
                      · obtain ⟨sa, sb, sx, sy⟩ := s
                        unfold ahead at hb he
                        simp only at hb he
                        have : sa = a ∧ sb = b ∧ sx = x ∧ sy = y := by omega
                        obtain ⟨rfl, rfl, rfl, rfl⟩ := this
                        have h5 := hv.2.2.2.2
                        rw [HSB.out] at h5; cases h5⟩
                    clear h1 h2 h3 h4 q0 hS
                    go_wp2_with fail
                    go_roundw
                    case rel => exact ⟨y + 1, _, _, by omega, by omega, by go_num, rfl, HN⟩
                    case measure => simp [intOf]; omega
                · obtain rfl : y = k := by omega
                  go_wp2_with fail
                  go_roundw
                  case rel => exact ⟨x + 1, _, ss, by omega, by go_num, rfl, Lib.hid (hS.out.shift (by omega) (fun s h hb => by obtain ⟨h1, h2, h3, h4, _⟩ := h; unfold ahead at hb ⊢; omega))⟩
                  case measure => simp [intOf]; omega
            · obtain rfl : x = k := by omega
              go_wp2_with fail
              go_roundw
              case rel => exact ⟨b + 1, _, ss, by omega, by omega, by go_num, rfl, Lib.hid (hS.out.shift (by omega) (fun s h hb => by obtain ⟨h1, h2, h3, h4, _⟩ := h; unfold ahead at hb ⊢; omega))⟩
              case measure => simp [intOf]; omega
        · obtain rfl : b = n := by omega
          go_wp2_with fail
          go_roundw
          case rel => exact ⟨a + 1, _, ss, by omega, by go_num, rfl, Lib.hid (hS.out.shift (by omega) (fun s h hb => by obtain ⟨h1, h2, h3, h4, _⟩ := h; unfold ahead at hb ⊢; omega))⟩
          case measure => simp [intOf]; omega
    · obtain rfl : a = n := by omega
      go_wp2_with fail
      go_ret
      exact ⟨_, ss, rfl, ⟨hS.out.base.own, hS.out.base.ok, by have := hS.out.base.few; omega, hS.out.base.ext⟩, fun s hv => hS.out.all s hv (by obtain ⟨h1, h2, h3, h4, _⟩ := hv; unfold ahead; omega)⟩
end Go.Proofs.Ytlhjbpachpjpkaa
