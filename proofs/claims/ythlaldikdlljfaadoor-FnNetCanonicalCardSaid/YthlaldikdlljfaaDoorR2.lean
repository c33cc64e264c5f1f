/- Contract of the function that tells who has which port. -/
import Derived.Test.YthlaldikdlljfaaDoorR1
import Derived.Test.YthlaldikdlljfaaDoorRE
namespace Go.Proofs.YthlaldikdlljfaaDoor
open Go.RowKit

/-- What owners leaves: a map that tells who has which port, or nothing where a record does not fit. -/
def OwnQ (l : List Rec) (now : Int) (w : World) (e : Ending) (w' : World) : Prop :=
  (allUp (fit l) (upTo l now) = true ∧ ∃ g, e = .returned (.tuple #[.map (some g), .bool true]) ∧ w.heap.size ≤ g ∧ OM w' g l.length (fun p => ownP l p (upTo l now)) ∧ Below w.heap.size w w') ∨
  (allUp (fit l) (upTo l now) = false ∧ e = .returned (.tuple #[.map none, .bool false]) ∧ Below w.heap.size w w')

end Go.Proofs.YthlaldikdlljfaaDoor
