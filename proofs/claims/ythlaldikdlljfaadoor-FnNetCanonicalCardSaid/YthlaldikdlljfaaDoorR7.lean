/- Contracts of the laws' own copies of records. -/
import Derived.Test.YthlaldikdlljfaaDoorR6
namespace Go.Proofs.YthlaldikdlljfaaDoor
open Go.RowKit

theorem c_toEnd (x y : Int) (w : World) :
    Calls Tryd.prog 17 #[.agg #[.int .i64 x, .int .i64 y]] w fun e w' => e = .returned (.agg #[.int .i64 x, .int .i64 y]) ∧ Below w.heap.size w w' := by
  go_enter Tryd.func17, Tryd.ntmps17
  go_wp2
  refine bodyPost_ret (v := .agg #[.int .i64 x, .int .i64 y]) (by simp [results, Tryd.results17, go_sem]) rfl ?_
  refine ⟨rfl, ?_⟩
  repeat (first | exact Below.refl _ _ | exact (Below.refl _ _).alloc (Nat.le_refl _) _ | refine Below.alloc ?_ (by simp; try omega) _)

end Go.Proofs.YthlaldikdlljfaaDoor
