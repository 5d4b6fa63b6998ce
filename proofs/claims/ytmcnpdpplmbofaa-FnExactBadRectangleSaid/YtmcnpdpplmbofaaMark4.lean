/- Marks: the helpers' contracts as the laws use them. -/
import Derived.Test.YtmcnpdpplmbofaaMark2
namespace Go.Proofs.Ytmcnpdpplmbofaa
open Go.RowKit Tomo

theorem Seg.onlyIn {w w' : World} {lo hi lo' hi' : Nat} (h : Only w w' fun b => lo' ≤ b ∧ b < hi') (k : hi ≤ lo' ∨ hi' ≤ lo) : Seg lo hi w w' := h.seg fun b hb => by omega
theorem Ext.onlyIn {w0 w w' : World} {lo' hi' : Nat} (h0 : Ext w0 w) (h : Only w w' fun b => lo' ≤ b ∧ b < hi') (k : w0.heap.size ≤ lo') : Ext w0 w' := Below.trans h0 (h.below fun b hb => by omega)
def GBound (g : Grid) : Prop := g.length ≤ 1048576 ∧ (∀ r ∈ g, r.length ≤ 1048576) ∧ total g ≤ 1000000000

theorem markIntS_in {A : Option Addr} {n c lo hi : Nat} {xs : List Int} {k : Int} {w : World} (K : Nat) (hk : k = K) (hK : K ≤ 100000000000) (hn : n ≤ 1000000000) (ho : OwnIn w lo hi (.slice A n c) xs) :
    Calls Try.prog 12 #[.slice A n c, .int .i64 k] w fun e w' => ∃ K' : Nat, e = .returned (.int .i64 K') ∧ Hid (K' = K + n) ∧ OwnIn w' lo hi (.slice A n c) (seqI K n) ∧ Only w w' (fun b => lo ≤ b ∧ b < hi) := by
  subst hk
  refine (markIntS_any A n c lo xs K w (by omega) (by omega) ho.1).mono fun e w' ⟨h1, h2, h3⟩ => ⟨K + n, by rw [h1]; rfl, Lib.hid rfl, ⟨h2, ho.2⟩, h3.mono fun b hb => ⟨(ho.1.lt hb).1, ho.2 b hb⟩⟩
theorem heldIntS_in {A : Option Addr} {n c lo hi : Nat} {k : Int} {w : World} (K : Nat) (hk : k = K) (hK : K ≤ 100000000000) (hn : n ≤ 1000000000) (ho : OwnIn w lo hi (.slice A n c) (seqI K n)) :
    Calls Try.prog 13 #[.slice A n c, .int .i64 k] w fun e w' => ∃ K' : Nat, e = .returned (.int .i64 K') ∧ Hid (K' = K + n) ∧ w = w' := by
  subst hk
  exact (heldIntS_any A n c K w (by omega) (by omega) ho.1.ints.2).mono fun e w' ⟨h1, h2⟩ => ⟨K + n, by rw [h1]; rfl, Lib.hid rfl, h2⟩
theorem markIntSS_in {A : Option Addr} {n c lo hi : Nat} {g : Grid} {k : Int} {w : World} (K : Nat) (hk : k = K) (hK : K ≤ 100000000000) (hn : n ≤ 1000000000) (hg : total g ≤ 1000000000) (ho : OwnGridIn w lo hi (.slice A n c) g) :
    Calls Try.prog 11 #[.slice A n c, .int .i64 k] w fun e w' => ∃ K' : Nat, e = .returned (.int .i64 K') ∧ Hid (K' = K + total g) ∧ OwnGridIn w' lo hi (.slice A n c) (markG K g) ∧ Only w w' (fun b => lo ≤ b ∧ b < hi) := by
  subst hk
  obtain ⟨o1, o2, o3⟩ := ho
  refine (markIntSS_any A n c lo g K w (by omega) hn (by omega) o1).mono fun e w' ⟨h1, h2, h3⟩ => ⟨K + total g, by rw [h1]; rfl, Lib.hid rfl, ⟨h2, o2, fun p hp => o3 p (hp.bwd fun b hb => h3.block b fun ⟨q, hq, he⟩ => ?_)⟩, h3.mono fun b ⟨p, hp, hb⟩ => ⟨(o1.rowVal_lt hp hb).1, o3 p hp b hb⟩⟩
  rcases o1.apartTop hq with h5 | h5
  · rw [h5] at he; cases he
  · rw [he, hb] at h5; exact h5 rfl
theorem sz_total (g : Grid) : total g ≤ szGrid g := by unfold total szGrid; omega
theorem toIntS_in {w w' : World} {xs : List Int} (h : NewInts w w' xs) (hl : xs.length ≤ 1048576) : OwnIn w' w.heap.size w'.heap.size (.slice (some ⟨w.heap.size, 0, none⟩) xs.length xs.length) xs := (h.own (by omega)).in_
theorem toIntSS_in {w w' : World} {g : Grid} (h : NewGrid w w' g) (hl : g.length ≤ 1048576) (hr : ∀ r ∈ g, r.length ≤ 1048576) : OwnGridIn w' w.heap.size w'.heap.size (.slice (some ⟨w.heap.size, 0, none⟩) g.length g.length) g := (h.own (by omega) (fun r hr' => by have := hr r hr'; omega)).in_
end Go.Proofs.Ytmcnpdpplmbofaa
