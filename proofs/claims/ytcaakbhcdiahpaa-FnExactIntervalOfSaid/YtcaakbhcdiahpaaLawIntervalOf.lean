/- The law of IntervalOf: its walk. -/
import Derived.Test.YtcaakbhcdiahpaaInterval
import Derived.Test.YtcaakbhcdiahpaaHelp1
namespace Go.Proofs.Ytcaakbhcdiahpaa
open Go.RowKit

theorem NewInts.at_ {w w' : World} {xs : List Int} (h : NewInts w w' xs) : Ints w' (some ⟨w.heap.size, 0, none⟩) xs := h.row.ints

set_option maxHeartbeats 1000000 in
theorem law_IntervalOf (w : World) (A : Option Addr) (cap : Nat) (xs : List Int) (h62 : xs.length ≤ 9223372036854775807) (hx : Ints w A xs) :
    Calls Try.prog 3 #[.slice A xs.length cap] w fun e w' => e = .returned (.bool true) ∧ Ext w w' := by
  by_cases hl : xs.length ≤ 1048576
  · have cs : ∀ A c w, Ints w A xs → Calls Try.prog 15 #[.slice A xs.length c] w fun e w' => e = .returned (.tuple #[.int .i64 (ivImpl xs).1, .int .i64 (ivImpl xs).2.1, .bool (ivImpl xs).2.2]) ∧ w = w' := by
      intro A c w h
      have := specIntervalOf_any A c xs w hl h
      rw [iv_eq] at this; exact this
    have ci : ∀ b w, Ints w (some ⟨b, 0, none⟩) xs → Calls Try.prog 17 #[.slice (some ⟨b, 0, none⟩) xs.length xs.length] w fun e w' => e = .returned (.tuple #[.int .i64 (ivImpl xs).1, .int .i64 (ivImpl xs).2.1, .bool (ivImpl xs).2.2]) ∧ w = w' := by
      intro b w h
      exact implIntervalOf_any b xs.length xs w hl (Nat.le_refl _) h
    obtain ⟨p, hp⟩ : ∃ p, (ivImpl xs).1 = p := ⟨_, rfl⟩
    obtain ⟨q, hq⟩ : ∃ q, (ivImpl xs).2.1 = q := ⟨_, rfl⟩
    obtain ⟨z, hz⟩ : ∃ z, (ivImpl xs).2.2 = z := ⟨_, rfl⟩
    rw [hp, hq, hz] at cs ci
    clear hp hq hz
    go_enter Try.func3, Try.ntmps3
    go_wp2_with fail
    refine (toIntS_any _ _ xs _ hl hx).mono ?_
    rintro e w1 ⟨rfl, h1⟩
    go_wp2_with fail
    refine (cs _ _ _ h1.at_).mono ?_
    rintro e w' ⟨rfl, rfl⟩
    go_wp2_with fail
    refine (toIntS_any _ _ xs _ hl (hx.ext h1.ext)).mono ?_
    rintro e w2 ⟨rfl, h2⟩
    go_wp2_with fail
    refine (ci _ _ h2.at_).mono ?_
    rintro e w' ⟨rfl, rfl⟩
    go_wp2_with fail
    refine (toIntS_any _ _ xs _ hl (hx.ext (h1.ext.trans h2.ext))).mono ?_
    rintro e w3 ⟨rfl, h3⟩
    go_wp2_with fail
    refine (eqIntS_same _ _ _ _ xs _ hl (h2.at_.ext h3.ext) h3.at_).mono ?_
    rintro e w4 ⟨rfl, h4⟩
    go_wp2_with fail
    go_ret
    exact ⟨rfl, ((h1.ext.trans h2.ext).trans h3.ext).trans h4.ext⟩
  · go_enter Try.func3, Try.ntmps3
    go_wp2_with fail
    go_ret
    exact ⟨rfl, Ext.refl _⟩
end Go.Proofs.Ytcaakbhcdiahpaa
