/- Contracts of the laws' copies of nets and plans. -/
import Derived.Test.YthlaldikdlljfaaDoorB1
namespace Go.Proofs.YthlaldikdlljfaaDoor
open Go.RowKit

theorem Bl.al {a w : World} (h : Below a.heap.size a w) (o : Obj) : Below a.heap.size a (w.alloc o) := h.alloc h.size o
theorem c_toNet (ba bi : Int) (w : World) :
    Calls Tryd.prog 20 #[.agg #[.int .i64 ba, .int .i64 bi]] w fun e w' => e = .returned (.agg #[.int .i64 ba, .int .i64 bi]) ∧
      w' = ((w.alloc (.cells #[.int .i64 ba, .int .i64 bi] 29)).alloc (.cells #[.int .i64 ba, .int .i64 bi] 31)).alloc (.cells #[.int .i64 ba, .int .i64 bi] 31) := by
  go_enter Tryd.func20, Tryd.ntmps20
  go_wp2
  refine bodyPost_ret (v := .agg #[.int .i64 ba, .int .i64 bi]) (by simp [results, Tryd.results20, go_sem]) rfl ?_
  exact ⟨rfl, by simp [go_sem]⟩

end Go.Proofs.YthlaldikdlljfaaDoor
