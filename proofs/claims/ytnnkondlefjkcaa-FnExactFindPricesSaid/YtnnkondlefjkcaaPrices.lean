/- Prices that prove an image heaviest: their test. -/
import Derived.Test.YtnnkondlefjkcaaRead5
import Derived.Test.YtnnkondlefjkcaaRead6
import Derived.Test.YtnnkondlefjkcaaHelp1
namespace Go.Proofs.Ytnnkondlefjkcaa
open Go.RowKit

def priceCell (c n : Int) : Bool := !((c == 1 && decide (n < 0)) || (c == 0 && decide (0 < n)))
def priceRow (r v : List Int) (ay : Int) (b : List Int) (j : Nat) : Bool := (List.range j).all fun (x : Nat) => priceCell (r[x]?.getD 0) (v[x]?.getD 0 - ay - b[x]?.getD 0)
def priceAt (wt m : List (List Int)) (a b : List Int) (y : Nat) : Bool := priceRow (m[y]?.getD []) (wt[y]?.getD []) (a[y]?.getD 0) b (m[y]?.getD []).length
def pricesOk (wt m : List (List Int)) (a b : List Int) : Bool :=
  (weightOf wt m).2 && (decide ((a.length : Int) = m.length) && allIn a (-1000) 1000) && (decide ((b.length : Int) = (m.headD []).length) && allIn b (-1000) 1000) && (List.range m.length).all (priceAt wt m a b)

theorem priceAt_eq {wt m : List (List Int)} {a b : List Int} {k : Nat} {r v : List Int} {ay : Int} (h1 : m[k]? = some r) (h2 : wt[k]? = some v) (h3 : a[k]? = some ay) : priceAt wt m a b k = priceRow r v ay b r.length := by
  unfold priceAt; rw [h1, h2, h3]; rfl
theorem priceRow_succ {r v b : List Int} {ay : Int} {j : Nat} {c y z : Int} (h1 : r[j]? = some c) (h2 : v[j]? = some y) (h3 : b[j]? = some z) : priceRow r v ay b (j + 1) = (priceRow r v ay b j && priceCell c (y - ay - z)) := by
  unfold priceRow; rw [range_all_succ, h1, h2, h3]; rfl
theorem priceRow_false {r v b : List Int} {ay : Int} {n j : Nat} {c y z : Int} (hj : j < n) (h1 : r[j]? = some c) (h2 : v[j]? = some y) (h3 : b[j]? = some z) (h : priceCell c (y - ay - z) = false) : priceRow r v ay b n = false :=
  range_all_false hj (by rw [h1, h2, h3]; exact h)
theorem weightOf_true {wt m : List (List Int)} (h : (weightOf wt m).2 = true) : gridOk m 0 1 = true ∧ weightOk wt m.length (m.headD []).length = true := by
  unfold weightOf at h
  split at h
  · rename_i h2; simpa using h2
  · cases h



end Go.Proofs.Ytnnkondlefjkcaa
