/- Contracts of the functions on records: which are valid, who had a port. -/
import Derived.Test.YthlaldikdlljfaaDoorR2
namespace Go.Proofs.YthlaldikdlljfaaDoor
open Go.RowKit

theorem vRec_stat {l : List Rec} {k : Nat} (hk : k < l.length) (h : statI l k = false) : vRec l = false := by unfold vRec; rw [allUp_false hk h]; rfl
theorem pat_succ (l : List Rec) (k : Nat) : pat l (k + 1) = (rn l k).at_ := by unfold pat; simp
/-- An end that may be had, and whether it is. -/
def whoV (o : Option (Int × Int)) : Value := match o with
  | some (x, y) => .tuple #[.agg #[.int .i64 x, .int .i64 y], .bool true]
  | none => .tuple #[.agg #[.int .i64 0, .int .i64 0], .bool false]
end Go.Proofs.YthlaldikdlljfaaDoor
