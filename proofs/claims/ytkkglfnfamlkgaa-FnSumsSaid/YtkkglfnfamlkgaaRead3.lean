/- More tests of images, sums, lists and masks. -/
import Derived.Test.YtkkglfnfamlkgaaRead2
namespace Go.Proofs.Ytkkglfnfamlkgaa
open Go.RowKit






end Go.Proofs.Ytkkglfnfamlkgaa
