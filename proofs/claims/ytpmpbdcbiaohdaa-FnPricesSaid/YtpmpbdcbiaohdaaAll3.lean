/- All images: the reference's AllImages. -/
import Derived.Test.YtpmpbdcbiaohdaaAll2
namespace Go.Proofs.Ytpmpbdcbiaohdaa
open Go.RowKit Tomo

def allI (rows cols : List Int) : List (List (List Int)) := if sumsOk rows cols = true then imgs rows cols else []
theorem specAll_imgs {rows cols : List Int} (h : sumsOk rows cols = true) : specAll exI rows cols = imgs rows cols := by
  obtain ⟨hr1, hr5, hc1, hc5, _⟩ := sumsOk_parts h
  refine specAll_eq_of exI 5 cols.length (fun rs cs hrs hl hc hi => ?_) rows cols (fun e => by rw [e] at hr1; simp at hr1) hr5 rfl
  have h1 : 1 ≤ rs.length := by
    cases rs with
    | nil => exact absurd rfl hrs
    | cons _ _ => simp
  unfold exI
  rw [imgs_sumsOk hi h1 hl (by omega) (by omega)]
  simpa using hi

end Go.Proofs.Ytpmpbdcbiaohdaa
