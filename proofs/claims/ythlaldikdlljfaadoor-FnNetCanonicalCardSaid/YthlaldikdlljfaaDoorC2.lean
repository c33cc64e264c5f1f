/- Contracts of the laws' own helpers on lists of numbers: copies, marks, comparisons. -/
import Derived.Test.YthlaldikdlljfaaDoorC1
namespace Go.Proofs.YthlaldikdlljfaaDoor
open Go.RowKit

theorem int_info : (Tryd.prog.info? 3).map (fun i => (i.zero, i.size, i.bytes)) = some (some (.int .i64 0), 1, 8) := by kernel_rfl

end Go.Proofs.YthlaldikdlljfaaDoor
