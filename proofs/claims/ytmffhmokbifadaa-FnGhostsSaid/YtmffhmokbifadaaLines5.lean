/- GridSums in the reference. -/
import Derived.Test.YtmffhmokbifadaaLines4
namespace Go.Proofs.Ytmffhmokbifadaa
open Go.RowKit Tomo

end Go.Proofs.Ytmffhmokbifadaa
