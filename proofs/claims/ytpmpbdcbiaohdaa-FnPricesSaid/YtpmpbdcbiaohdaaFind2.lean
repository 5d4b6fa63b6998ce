/- FindPrices: the reference's relaxation. -/
import Derived.Test.YtpmpbdcbiaohdaaFind1
import Derived.IntWalk
import Derived.Deep.DeepCutAuto
import Derived.Deep.QuietTactic
namespace Go.Proofs.Ytpmpbdcbiaohdaa
open Go.RowKit Tomo

theorem Own.setOther {w : World} {B b n c : Nat} {xs : List Int} (h : Own w B (.slice (some ⟨b, 0, none⟩) n c) xs) {b' j : Nat} (hne : b ≠ b') (v : Value) : Own (w.setCell ⟨b', j, none⟩ v) B (.slice (some ⟨b, 0, none⟩) n c) xs :=
  ownsRow_setCell_other (a := ⟨b', j, none⟩) h (fun he => hne (by simpa [Value.ownBlock] using he)) _

end Go.Proofs.Ytpmpbdcbiaohdaa
