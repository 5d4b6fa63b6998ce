/- Lines of a grid: the reference's own count. -/
import Derived.Test.YtmffhmokbifadaaLines1
namespace Go.Proofs.Ytmffhmokbifadaa
open Go.RowKit

end Go.Proofs.Ytmffhmokbifadaa
