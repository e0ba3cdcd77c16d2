/- Walks: angles mirrored, doubled. -/
import Derived.Test.YteegdpnidakjiaaDoorAngM
namespace Go.Proofs.YteegdpnidakjiaaDoor
open Go.RowKit

end Go.Proofs.YteegdpnidakjiaaDoor
