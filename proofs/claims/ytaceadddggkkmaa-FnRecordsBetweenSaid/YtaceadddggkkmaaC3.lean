/- Contracts of the functions that count for how many addresses each of a pool stands. -/
import Derived.Test.YtaceadddggkkmaaC2
import Derived.Test.YtaceadddggkkmaaApp
namespace Go.Proofs.Ytaceadddggkkmaa
open Go.RowKit

/-- What a count leaves: nil where nothing may be asked, else a new slice of the counts. -/
def CntQ (zs qs : List Int) (w : World) (e : Ending) (w' : World) : Prop :=
  ((vPool zs && askB qs) = false ∧ e = .returned (.slice none 0 0) ∧ Below w.heap.size w w') ∨
  ((vPool zs && askB qs) = true ∧ ∃ g, e = .returned (.slice (some ⟨g, 0, none⟩) zs.length zs.length) ∧ Blk w' g 3 (ints (pcs zs qs)) ∧ w.heap.size ≤ g ∧ Below w.heap.size w w')

end Go.Proofs.Ytaceadddggkkmaa
