/- Contracts of the reference's functions on records: ValidRecords, WhoHad. -/
import Derived.Test.YthlaldikdlljfaaDoorR4
namespace Go.Proofs.YthlaldikdlljfaaDoor
open Go.RowKit

end Go.Proofs.YthlaldikdlljfaaDoor
