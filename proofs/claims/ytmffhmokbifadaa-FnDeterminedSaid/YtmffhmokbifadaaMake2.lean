/- The laws' drawn arguments: images. -/
import Derived.Test.YtmffhmokbifadaaMake1
import Derived.Test.YtmffhmokbifadaaPaint1
import Derived.Test.YtmffhmokbifadaaTomoImgs
import Derived.Deep.RegionWith
namespace Go.Proofs.Ytmffhmokbifadaa
open Go.RowKit Tomo

theorem ownsRow_keep {p B : Nat} {w w' : World} {e : TypeId} {size : Nat} {v : Value} {n : Nat} {xs : List Value} (h : w.ownsRow B e size v n xs) (k : Keep p w w') (hp : p < B) : w'.ownsRow B e size v n xs := by
  obtain ⟨h1, h2⟩ := h
  refine ⟨h1, ?_⟩
  rcases h2 with h3 | ⟨g, cap, cur, hv, hb, hg, hr⟩
  · exact Or.inl h3
  · exact Or.inr ⟨g, cap, cur, hv, hb, (k.2 g (by omega)).trans hg, hr⟩
theorem OwnGrid.keep {p B : Nat} {w w' : World} {v : Value} {g : Grid} (h : OwnGrid w B v g) (k : Keep p w w') (hp : p < B) : OwnGrid w' B v g := by
  obtain ⟨us, h1, h2, h3, h4⟩ := h
  exact ⟨us, h1, ownsRow_keep h2 k hp, fun i u r hu hr => ownsRow_keep (h3 i u r hu hr) k hp, h4⟩
def BitG (q : Grid) : Prop := ∀ r ∈ q, ∀ z ∈ r, z = 0 ∨ z = 1
theorem BitG.set {q : Grid} {a b : Nat} {r : List Int} {z : Int} (h : BitG q) (hr : q[a]? = some r) (hz : z = 0 ∨ z = 1) : BitG (q.set a (r.set b z)) := fun r' hr' x hx => by
  rcases List.mem_or_eq_of_mem_set hr' with h1 | h1
  · exact h r' h1 x hx
  · rw [h1] at hx
    rcases List.mem_or_eq_of_mem_set hx with h2 | h2
    · exact h r (List.mem_of_getElem? hr) x h2
    · rw [h2]; exact hz
theorem shape_set {q : Grid} {N K i0 l0 : Nat} {r : List Int} {c : Int} (h : Shape q N K) (hr : q[i0]? = some r) : Shape (q.set i0 (r.set l0 c)) N K := by
  refine ⟨by rw [List.length_set]; exact h.1, fun r' hr' => ?_⟩
  rcases List.mem_or_eq_of_mem_set hr' with h1 | h1
  · exact h.2 r' h1
  · rw [h1, List.length_set]; exact h.2 r (List.mem_of_getElem? hr)
theorem bit_grid {q : Grid} {N K : Nat} (h : Shape q N K) (hb : BitG q) (hn : 1 ≤ N ∧ N ≤ 5) (hk : 1 ≤ K ∧ K ≤ 5) : gridOk q 0 1 = true := by
  refine gridOk_iff.2 ⟨by rw [h.1]; omega, fun r hr => ?_⟩
  have hh : (q.headD []).length = K := by
    cases q with
    | nil => have h1 := h.1; simp at h1; omega
    | cons r0 q => exact h.2 r0 List.mem_cons_self
  refine ⟨by rw [h.2 r hr, hh], by rw [h.2 r hr]; omega, ?_⟩
  unfold allIn
  rw [List.all_eq_true]
  intro z hz
  rw [inR_iff]
  have := hb r hr z hz
  omega

set_option maxHeartbeats 4000000 in
theorem l18New_zero (A : Option Addr) (c : Nat) (xs : List Int) (w : World) (hb : Bytes w A xs) (hl : xs.length ≤ 1048576) :
    Calls Try.prog 17 #[.slice A xs.length c, .int .i64 0] w fun e w' => e = .returned (.pointer (some ⟨w.heap.size, 0, none⟩)) ∧ Cur w' w.heap.size xs.length A c ∧ Ext w w' ∧ w'.heap.size = w.heap.size + 1 := by
  have c1 := l01New_any A c xs w hb hl
  clear hb
  go_enter Try.func17, Try.ntmps17
  go_wp2_with fail
  refine c1.mono ?_
  rintro e w1 ⟨rfl, h1, h2, h3⟩
  have H := Lib.hid (And.intro h1 (And.intro h2 h3))
  clear c1 h1 h2 h3
  go_wp2_with fail
  go_loopw [6] (fun i wr => i = .int .i64 0 ∧ Hid (wr = w1)) (fun _ _ => 0)
  case atStart => exact ⟨rfl, Lib.hid rfl⟩
  case round =>
    rename World => wr
    obtain ⟨rfl, hw⟩ := hrel
    obtain rfl := hw.out
    clear hw
    go_wp2_with fail
    go_ret
    exact ⟨rfl, H.out.1, H.out.2.1, H.out.2.2⟩
end Go.Proofs.Ytmffhmokbifadaa
