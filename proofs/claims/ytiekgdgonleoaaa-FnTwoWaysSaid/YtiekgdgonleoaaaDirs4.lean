/- Lists of directions: the reference's test, the ghosts' size. -/
import Derived.Test.YtiekgdgonleoaaaDirs3
namespace Go.Proofs.Ytiekgdgonleoaaa
open Go.RowKit

end Go.Proofs.Ytiekgdgonleoaaa
