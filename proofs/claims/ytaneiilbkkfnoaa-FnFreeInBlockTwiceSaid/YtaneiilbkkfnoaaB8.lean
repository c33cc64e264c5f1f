/- Contracts of the laws' copies of nets and plans. -/
import Derived.Test.YtaneiilbkkfnoaaB1
namespace Go.Proofs.Ytaneiilbkkfnoaa
open Go.RowKit

theorem Bl.al {a w : World} (h : Below a.heap.size a w) (o : Obj) : Below a.heap.size a (w.alloc o) := h.alloc h.size o
theorem c_toNet (ba bi : Int) (w : World) :
    Calls Try.prog 49 #[.agg #[.int .i64 ba, .int .i64 bi]] w fun e w' => e = .returned (.agg #[.int .i64 ba, .int .i64 bi]) ∧
      w' = ((w.alloc (.cells #[.int .i64 ba, .int .i64 bi] 32)).alloc (.cells #[.int .i64 ba, .int .i64 bi] 24)).alloc (.cells #[.int .i64 ba, .int .i64 bi] 24) := by
  go_enter Try.func49, Try.ntmps49
  go_wp2
  refine bodyPost_ret (v := .agg #[.int .i64 ba, .int .i64 bi]) (by simp [results, Try.results49, go_sem]) rfl ?_
  exact ⟨rfl, by simp [go_sem]⟩

theorem c_toPlan (ba bi fi si : Int) (w : World) :
    Calls Try.prog 22 #[.agg #[.int .i64 ba, .int .i64 bi, .int .i64 fi, .int .i64 si]] w fun e w' => e = .returned (.agg #[.int .i64 ba, .int .i64 bi, .int .i64 fi, .int .i64 si]) ∧ Below w.heap.size w w' := by
  go_enter Try.func22, Try.ntmps22
  go_wp2_with (go_at_call 49; refine (c_toNet _ _ _).mono ?_; rintro e w1 ⟨rfl, rfl⟩)
  refine bodyPost_ret (v := .agg #[.int .i64 ba, .int .i64 bi, .int .i64 fi, .int .i64 si]) (by simp [results, Try.results22, go_sem]) rfl ?_
  refine ⟨rfl, ?_⟩
  repeat (first | exact Below.refl _ _ | apply Bl.al)
end Go.Proofs.Ytaneiilbkkfnoaa
