/- More tests of images, sums, lists and masks. -/
import Derived.Test.YtjmopacbjdimgaaRead2
namespace Go.Proofs.Ytjmopacbjdimgaa
open Go.RowKit






end Go.Proofs.Ytjmopacbjdimgaa
