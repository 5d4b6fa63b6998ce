/- Weights and masks: their tests. -/
import Derived.Test.YtmffhmokbifadaaRead3
namespace Go.Proofs.Ytmffhmokbifadaa
open Go.RowKit




end Go.Proofs.Ytmffhmokbifadaa
