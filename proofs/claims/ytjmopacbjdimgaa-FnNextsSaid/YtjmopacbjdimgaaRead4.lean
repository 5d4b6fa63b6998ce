/- Weights and masks: their tests. -/
import Derived.Test.YtjmopacbjdimgaaRead3
namespace Go.Proofs.Ytjmopacbjdimgaa
open Go.RowKit




end Go.Proofs.Ytjmopacbjdimgaa
