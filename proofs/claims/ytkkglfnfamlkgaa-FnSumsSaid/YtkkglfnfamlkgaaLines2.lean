/- Lines of a grid: the reference's own count. -/
import Derived.Test.YtkkglfnfamlkgaaLines1
namespace Go.Proofs.Ytkkglfnfamlkgaa
open Go.RowKit

end Go.Proofs.Ytkkglfnfamlkgaa
