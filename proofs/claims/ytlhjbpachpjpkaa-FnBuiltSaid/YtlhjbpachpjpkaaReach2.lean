/- The reference's search: its walk. -/
import Derived.Test.YtlhjbpachpjpkaaReach1
namespace Go.Proofs.Ytlhjbpachpjpkaa
open Go.RowKit Tomo

end Go.Proofs.Ytlhjbpachpjpkaa
