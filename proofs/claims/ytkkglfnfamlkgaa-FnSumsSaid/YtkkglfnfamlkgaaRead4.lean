/- Weights and masks: their tests. -/
import Derived.Test.YtkkglfnfamlkgaaRead3
namespace Go.Proofs.Ytkkglfnfamlkgaa
open Go.RowKit




end Go.Proofs.Ytkkglfnfamlkgaa
