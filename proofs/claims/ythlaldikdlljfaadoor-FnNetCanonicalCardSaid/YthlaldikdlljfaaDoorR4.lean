/- Contracts of the reference's functions on records: which are valid, who had a port. -/
import Derived.Test.YthlaldikdlljfaaDoorR3
import Derived.Deep.RegionHeld3
import Derived.IntWalk
namespace Go.Proofs.YthlaldikdlljfaaDoor
open Go.RowKit
theorem arr_at {α : Type} {l : List α} {i : Nat} {x : α} (h : l[i]? = some x) : l.toArray[i]? = some x := by simpa using h
theorem vRec_bad {l : List Rec} {k : Nat} (hk : k < l.length) (h : sAt l k = false) : vRec l = false := by rw [vRec_spec, allUp_false hk h]; rfl

end Go.Proofs.YthlaldikdlljfaaDoor
