/- Rows of strings that the call itself makes. -/
import Derived.Test.YthlaldikdlljfaaDoorApp
import Derived.Test.YthlaldikdlljfaaDoorProg
namespace Go.Proofs.YthlaldikdlljfaaDoor
open Go.RowKit

/-- A row of the call's own that reads as strings. -/
def SO (w : World) (base : Nat) (v : Value) (xs : List ByteArray) : Prop := w.ownsRow base 9 1 v xs.length (xs.map Value.string)
theorem SO.to {w w' : World} {base : Nat} {v : Value} {xs : List ByteArray} (h : SO w base v xs) (hb : Below w.heap.size w w') : SO w' base v xs := own_to h hb (Nat.le_refl _)
theorem SO.alloc {w : World} {base : Nat} {v : Value} {xs : List ByteArray} (h : SO w base v xs) (o : Obj) : SO (w.alloc o) base v xs := World.ownsRow.alloc h o
theorem lit_str (w : World) (s : ByteArray) (t : TypeId) : Rd (w.alloc (.cells #[.string s] t)) (some ⟨w.heap.size, 0, none⟩) [.string s] := by
  have := (Blk.new w t #[.string s]).rd
  simpa using this
theorem str_info : (Tryd.prog.info? 9).map (fun i => (i.zero, i.size, i.bytes)) = some (some (.string ⟨#[]⟩), 1, 16) := by kernel_rfl

end Go.Proofs.YthlaldikdlljfaaDoor
