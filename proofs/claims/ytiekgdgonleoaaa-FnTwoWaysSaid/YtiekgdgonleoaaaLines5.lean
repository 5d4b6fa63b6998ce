/- GridSums in the reference. -/
import Derived.Test.YtiekgdgonleoaaaLines4
namespace Go.Proofs.Ytiekgdgonleoaaa
open Go.RowKit Tomo

end Go.Proofs.Ytiekgdgonleoaaa
