/- Where an image stands in a list: the specification's l06Find. -/
import Derived.Test.YtlhjbpachpjpkaaQueue
import Derived.Test.YtlhjbpachpjpkaaUnique
import Derived.Carry
import Derived.Deep.RegionWith
namespace Go.Proofs.Ytlhjbpachpjpkaa
open Go.RowKit Tomo

set_option maxRecDepth 100000 in
set_option maxHeartbeats 8000000 in
theorem l06Find_any (v : Value) (B : Nat) (C : Option Addr) (cc : Nat) (gs : List Grid) (y : Grid) (n k : Nat) (w : World) (h0 : 0 < gs.length) (hl : gs.length ≤ 33554432) (hi : ∀ g ∈ gs, Img g n k) (hyi : Img y n k) (hg : GridsO w B v gs) (hy : GridAt w C y) :
    Calls Try.prog 82 #[v, .slice C n cc] w fun e w' => ∃ r : Int, e = .returned (.int .i64 r) ∧ (y ∈ gs → 0 ≤ r) ∧ (y ∉ gs → r = -1) ∧ w = w' := by
  obtain ⟨b, vc, rfl, _, _, hel⟩ := hg.form h0
  obtain ⟨hn1, hn5⟩ := hyi.2.1
  obtain ⟨hk1, hk5⟩ := hyi.2.2.1
  have HCS : Hid (∀ (X : Option Addr) (xc : Nat) (g : Grid), g ∈ gs → GridAt w X g → Calls Try.prog 100 #[.slice X n xc, .slice C n cc] w fun e w' => e = .returned (.bool (decide (g = y))) ∧ w = w') := Lib.hid fun X xc g hgm hgx => by
    have hgi := hi g hgm
    have h := SameImage_any X C xc cc g y w (by rw [hgi.1.1]; omega) (by rw [hyi.1.1]; omega) (fun r hr => by rw [hgi.1.2 r hr]; omega) (fun r hr => by rw [hyi.1.2 r hr]; omega) hgx hy
    rw [hgi.1.1, hyi.1.1] at h
    exact h
  have HEL : Hid (∀ (j : Nat) g, gs[j]? = some g → ∃ X xc, w.cell? ⟨b, j, none⟩ = some (.slice X n xc) ∧ GridAt w X g) := Lib.hid fun j g hj => by
    obtain ⟨X, xc, h1, _, h3⟩ := hel j g hj
    rw [(hi g (List.mem_of_getElem? hj)).1.1] at h1
    exact ⟨X, xc, h1, h3⟩
  obtain ⟨ln, hln⟩ : ∃ ln, gs.length = ln := ⟨_, rfl⟩
  have HLN := Lib.hid hln
  rw [hln] at h0 hl ⊢
  have h0I : (0 : Int) < (ln : Int) := by omega
  clear hg hy hi hyi hel hln
  go_enter Try.func82, Try.ntmps82
  go_wp2_with fail
  go_loopw [9, 4, 5, 6] (fun i _ _ _ wr => ∃ p : Nat, p ≤ ln ∧ i = .int .i64 p ∧ w = wr ∧ Hid (∀ (j : Nat) g, j < p → gs[j]? = some g → ¬ g = y)) (fun i _ _ _ _ => ln - (intOf i).toNat)
  case atStart => exact ⟨0, Nat.zero_le _, rfl, rfl, Lib.hid fun j g h => by omega⟩
  case round =>
    rename World => wr
    obtain ⟨p, hp, rfl, rfl, hF⟩ := hrel
    by_cases hlt : p < ln
    · have hltI : (p : Int) < (ln : Int) := by omega
      obtain ⟨g, hg⟩ : ∃ g, gs[p]? = some g := ⟨_, List.getElem?_eq_getElem (by rw [HLN.out]; exact hlt)⟩
      obtain ⟨X, xc, hc, hx⟩ := HEL.out p g hg
      have cs := HCS.out X xc g (List.mem_of_getElem? hg) hx
      have HG := Lib.hid hg
      clear hx hg
      by_cases hgy : g = y
      · have hd : decide (g = y) = true := decide_eq_true hgy
        rw [hd] at cs
        have HR : Hid ((y ∈ gs → (0 : Int) ≤ (p : Int)) ∧ (y ∉ gs → (p : Int) = -1)) := Lib.hid ⟨fun _ => by omega, fun h => absurd (by rw [← hgy]; exact List.mem_of_getElem? HG.out) h⟩
        clear hd hgy
        go_wp2_with fail
        refine cs.mono ?_
        rintro e w' ⟨rfl, rfl⟩
        clear cs
        go_wp2_with fail
        exact bodyPost_ret (v := .int .i64 p) (by simp [results, Try.results82, go_sem]) rfl ⟨_, rfl, HR.out.1, HR.out.2, rfl⟩
      · have hd : decide (g = y) = false := decide_eq_false hgy
        rw [hd] at cs
        have HF2 : Hid (∀ (j : Nat) g, j < p + 1 → gs[j]? = some g → ¬ g = y) := Lib.hid fun j g' hj hg' => by
          by_cases e : j = p
          · subst e
            have h := HG.out
            rw [hg'] at h
            cases h
            exact hgy
          · exact hF.out j g' (by omega) hg'
        clear hd
        go_wp2_with fail
        refine cs.mono ?_
        rintro e w' ⟨rfl, rfl⟩
        clear cs
        go_wp2_with fail
        exact ⟨⟨p + 1, by omega, by go_num, trivial, HF2⟩, by simp [intOf]; omega⟩
    · obtain rfl : p = ln := by omega
      have HR : Hid ((y ∈ gs → (0 : Int) ≤ -1) ∧ (y ∉ gs → (-1 : Int) = -1)) := Lib.hid ⟨fun h => by
        obtain ⟨j, hj⟩ := List.getElem?_of_mem h
        exact absurd rfl (hF.out j y (by rw [← HLN.out]; exact (List.getElem?_eq_some_iff.1 hj).1) hj), fun _ => rfl⟩
      go_wp2_with fail
      exact bodyPost_ret (v := .int .i64 (-1)) (by simp [results, Try.results82, go_sem]) rfl ⟨_, rfl, HR.out.1, fun h => rfl, rfl⟩
end Go.Proofs.Ytlhjbpachpjpkaa
