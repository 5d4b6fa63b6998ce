/- Lines of a grid: the reference's own count. -/
import Derived.Test.YtiekgdgonleoaaaLines1
namespace Go.Proofs.Ytiekgdgonleoaaa
open Go.RowKit

end Go.Proofs.Ytiekgdgonleoaaa
