/- Weights and masks: their tests. -/
import Derived.Test.YtiekgdgonleoaaaRead3
namespace Go.Proofs.Ytiekgdgonleoaaa
open Go.RowKit




end Go.Proofs.Ytiekgdgonleoaaa
