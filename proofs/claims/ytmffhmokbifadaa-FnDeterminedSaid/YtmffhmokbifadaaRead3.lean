/- More tests of images, sums, lists and masks. -/
import Derived.Test.YtmffhmokbifadaaRead2
namespace Go.Proofs.Ytmffhmokbifadaa
open Go.RowKit






end Go.Proofs.Ytmffhmokbifadaa
