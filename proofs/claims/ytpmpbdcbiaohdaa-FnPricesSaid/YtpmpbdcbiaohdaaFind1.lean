/- FindPrices: the plain law of the relaxation. -/
import Derived.Test.YtpmpbdcbiaohdaaPrices
import Derived.Test.YtpmpbdcbiaohdaaLiA
import Derived.Test.YtpmpbdcbiaohdaaPaint1
namespace Go.Proofs.Ytpmpbdcbiaohdaa
open Go.RowKit Tomo

/-- one cell -/
def rxC (c wv : Int) (y x : Nat) (S : List Int × List Int × Bool) : List Int × List Int × Bool :=
  if c = 1 then (if S.1[y]?.getD 0 + wv < S.2.1[x]?.getD 0 then (S.1, S.2.1.set x (S.1[y]?.getD 0 + wv), true) else S)
  else (if S.2.1[x]?.getD 0 - wv < S.1[y]?.getD 0 then (S.1.set y (S.2.1[x]?.getD 0 - wv), S.2.1, true) else S)
/-- the cells of a row ahead of b; the rows ahead of a -/
def rxRow (m wt : Grid) (a b : Nat) (S : List Int × List Int × Bool) : List Int × List Int × Bool := (List.range b).foldl (fun S x => rxC (at2 m a x) (at2 wt a x) a x S) S
def rxAll (m wt : Grid) (k a : Nat) (S : List Int × List Int × Bool) : List Int × List Int × Bool := (List.range a).foldl (fun S y => rxRow m wt y k S) S
theorem rxRow_succ (m wt : Grid) (a b : Nat) (S : List Int × List Int × Bool) : rxRow m wt a (b + 1) S = rxC (at2 m a b) (at2 wt a b) a b (rxRow m wt a b S) := by
  unfold rxRow; rw [List.range_succ, List.foldl_append]; rfl
theorem rxAll_succ (m wt : Grid) (k a : Nat) (S : List Int × List Int × Bool) : rxAll m wt k (a + 1) S = rxRow m wt a k (rxAll m wt k a S) := by
  unfold rxAll; rw [List.range_succ, List.foldl_append]; rfl
theorem rx_hit1 {m wt : Grid} {a b : Nat} {S : List Int × List Int × Bool} {R K : List Int} {f : Bool} {wv rv kv : Int} (h : rxRow m wt a b S = (R, K, f)) (hc : at2 m a b = 1) (hw : at2 wt a b = wv) (hr : R[a]? = some rv) (hk : K[b]? = some kv) (hlt : rv + wv < kv) : rxRow m wt a (b + 1) S = (R, K.set b (rv + wv), true) := by
  rw [rxRow_succ, h, hc, hw]; unfold rxC; simp [hr, hk, hlt]
theorem rx_skip1 {m wt : Grid} {a b : Nat} {S : List Int × List Int × Bool} {R K : List Int} {f : Bool} {wv rv kv : Int} (h : rxRow m wt a b S = (R, K, f)) (hc : at2 m a b = 1) (hw : at2 wt a b = wv) (hr : R[a]? = some rv) (hk : K[b]? = some kv) (hlt : ¬ rv + wv < kv) : rxRow m wt a (b + 1) S = (R, K, f) := by
  rw [rxRow_succ, h, hc, hw]; unfold rxC; simp [hr, hk, hlt]
theorem rx_hit0 {m wt : Grid} {a b : Nat} {S : List Int × List Int × Bool} {R K : List Int} {f : Bool} {wv rv kv : Int} (h : rxRow m wt a b S = (R, K, f)) (hc : at2 m a b = 0) (hw : at2 wt a b = wv) (hr : R[a]? = some rv) (hk : K[b]? = some kv) (hlt : kv - wv < rv) : rxRow m wt a (b + 1) S = (R.set a (kv - wv), K, true) := by
  rw [rxRow_succ, h, hc, hw]; unfold rxC; simp [hr, hk, hlt]
theorem rx_skip0 {m wt : Grid} {a b : Nat} {S : List Int × List Int × Bool} {R K : List Int} {f : Bool} {wv rv kv : Int} (h : rxRow m wt a b S = (R, K, f)) (hc : at2 m a b = 0) (hw : at2 wt a b = wv) (hr : R[a]? = some rv) (hk : K[b]? = some kv) (hlt : ¬ kv - wv < rv) : rxRow m wt a (b + 1) S = (R, K, f) := by
  rw [rxRow_succ, h, hc, hw]; unfold rxC; simp [hr, hk, hlt]
/-- lengths and bounds -/
structure RxOk (n k L : Nat) (R K : List Int) : Prop where
  n : R.length = n
  k : K.length = k
  r : ∀ v ∈ R, -(L : Int) ≤ v ∧ v ≤ L
  c : ∀ v ∈ K, -(L : Int) ≤ v ∧ v ≤ L
theorem RxOk.mono {n k L L' : Nat} {R K : List Int} (h : RxOk n k L R K) (hl : L ≤ L') : RxOk n k L' R K :=
  ⟨h.n, h.k, fun v hv => by have := h.r v hv; omega, fun v hv => by have := h.c v hv; omega⟩
theorem RxOk.setK {n k L b : Nat} {R K : List Int} {v : Int} (h : RxOk n k L R K) (hv : -((L + 100 : Nat) : Int) ≤ v ∧ v ≤ ((L + 100 : Nat) : Int)) : RxOk n k (L + 100) R (K.set b v) :=
  ⟨h.n, by rw [List.length_set]; exact h.k, fun x hx => by have := h.r x hx; omega, fun x hx => by
    rcases List.mem_or_eq_of_mem_set hx with h1 | h1
    · have := h.c x h1; omega
    · rw [h1]; exact hv⟩
theorem RxOk.setR {n k L b : Nat} {R K : List Int} {v : Int} (h : RxOk n k L R K) (hv : -((L + 100 : Nat) : Int) ≤ v ∧ v ≤ ((L + 100 : Nat) : Int)) : RxOk n k (L + 100) (R.set b v) K :=
  ⟨by rw [List.length_set]; exact h.n, h.k, fun x hx => by
    rcases List.mem_or_eq_of_mem_set hx with h1 | h1
    · have := h.r x h1; omega
    · rw [h1]; exact hv, fun x hx => by have := h.c x hx; omega⟩
theorem RxOk.zero (n k : Nat) : RxOk n k 0 (List.replicate n 0) (List.replicate k 0) :=
  ⟨List.length_replicate, List.length_replicate, fun v hv => by rw [List.eq_of_mem_replicate hv]; decide, fun v hv => by rw [List.eq_of_mem_replicate hv]; decide⟩
/-- the rounds -/
def fpFrom (m wt : Grid) (n k : Nat) : Nat → List Int → List Int → Option (List Int × List Int)
  | 0, _, _ => none
  | t + 1, R, K => if (rxAll m wt k n (R, K, false)).2.2 = true then fpFrom m wt n k t (rxAll m wt k n (R, K, false)).1 (rxAll m wt k n (R, K, false)).2.1
    else some ((rxAll m wt k n (R, K, false)).1.map fun x => -x, (rxAll m wt k n (R, K, false)).2.1)
theorem fp_go {m wt : Grid} {n k t : Nat} {R K R' K' : List Int} (h : rxAll m wt k n (R, K, false) = (R', K', true)) : fpFrom m wt n k (t + 1) R K = fpFrom m wt n k t R' K' := by
  rw [fpFrom, h]; rfl
theorem fp_end {m wt : Grid} {n k t : Nat} {R K R' K' : List Int} (h : rxAll m wt k n (R, K, false) = (R', K', false)) : fpFrom m wt n k (t + 1) R K = some (R'.map fun x => -x, K') := by
  rw [fpFrom, h]; rfl
def fpI (wt m : Grid) : Option (List Int × List Int) := if (weightOf wt m).2 = true then fpFrom m wt m.length (m.headD []).length (m.length + (m.headD []).length + 1) (List.replicate m.length 0) (List.replicate (m.headD []).length 0) else none
def fpA (wt m : Grid) : List Int := ((fpI wt m).getD ([], [])).1
def fpB (wt m : Grid) : List Int := ((fpI wt m).getD ([], [])).2
/-- what is known of the arguments -/
structure FpIn (wt m : Grid) (n k : Nat) : Prop where
  n1 : 1 ≤ n ∧ n ≤ 5
  k1 : 1 ≤ k ∧ k ≤ 5
  sm : Shape m n k
  sw : Shape wt n k
  bit : ∀ y x, y < n → x < k → at2 m y x = 0 ∨ at2 m y x = 1
  wb : ∀ y x, y < n → x < k → -100 ≤ at2 wt y x ∧ at2 wt y x ≤ 100
theorem fp_in {wt m : Grid} (h : (weightOf wt m).2 = true) : FpIn wt m m.length (m.headD []).length := by
  obtain ⟨h1, h2⟩ := weightOf_true h
  have hw := weighs_of h1 h2
  have hm := Img.of h1
  have hsw : Shape wt m.length (m.headD []).length := by
    refine ⟨hw.len, fun v hv => ?_⟩
    obtain ⟨i, hi, rfl⟩ := List.getElem_of_mem hv
    have hlt : i < m.length := by rw [← hw.len]; exact hi
    have h3 := hw.row i m[i] wt[i] (List.getElem?_eq_getElem hlt) (List.getElem?_eq_getElem hi)
    rw [h3.1]
    exact hm.1.2 _ (List.getElem_mem hlt)
  refine ⟨hm.2.1, hm.2.2.1, hm.1, hsw, fun y x hy hx => ?_, fun y x hy hx => ?_⟩
  · obtain ⟨r, c, e1, _, e3, e4⟩ := hm.cell hy hx
    rw [at2_of e1 e3]; exact e4
  · have hy' : y < wt.length := by rw [hw.len]; exact hy
    have h3 := hw.row y m[y] wt[y] (List.getElem?_eq_getElem hy) (List.getElem?_eq_getElem hy')
    have hx' : x < wt[y].length := by rw [hsw.2 _ (List.getElem_mem hy')]; exact hx
    rw [at2_of (List.getElem?_eq_getElem hy') (List.getElem?_eq_getElem hx')]
    exact h3.2.2.2 _ (List.getElem_mem hx')
end Go.Proofs.Ytpmpbdcbiaohdaa
