/- Ends are compared field by field. -/
import Derived.Test.YthlaldikdlljfaaDoorBase
import Derived.Test.YthlaldikdlljfaaDoorProg
import Derived.Laws.StructEq
namespace Go.Proofs.YthlaldikdlljfaaDoor
open Go.RowKit

def eqE (a b c d : Int) : Bool := a == c && b == d
theorem eqE_true {a b c d : Int} (h : a = c ∧ b = d) : eqE a b c d = true := by unfold eqE; simp [h.1, h.2]
theorem eqE_false {a b c d : Int} (h : ¬ (a = c ∧ b = d)) : eqE a b c d = false := by
  unfold eqE; rw [Bool.and_eq_false_iff]; simp only [beq_eq_false_iff_ne]; omega
theorem equalIn_end (W : World) (a b c d : Int) : (Op.equalIn 10000 25 (.agg #[.int .i64 a, .int .i64 b]) (.agg #[.int .i64 c, .int .i64 d])).run Tryd.prog W = .ok (eqE a b c d) W := by
  have hp : Tryd.prog.stoodInHeld 25 = false := by kernel_rfl
  have hf : Tryd.prog.underlying 25 = some (.struct (Tryd.prog.fieldsOf 25)) := by kernel_rfl
  have hi := fun d (W : World) (a b : Int) => run_equalIn_int (P := Tryd.prog) W d 3 .i64 .i64 a b Tryd.underlying3
  rw [show (10000 : Nat) = 9998 + 1 + 1 from rfl, run_equalIn_agg W _ _ _ _ hf hp]
  unfold Program.fieldsOf
  rw [Tryd.underlying25]
  unfold eqE
  cases h1 : a == c
  · simp [Op.eqFields, hi, go_sem, h1]
  · simp [Op.eqFields, hi, go_sem, h1]
    by_cases h2 : b = d <;> simp [h2]
theorem eql_end (W : World) (a b c d : Int) : (binOp .eql 25 (.agg #[.int .i64 a, .int .i64 b]) (.agg #[.int .i64 c, .int .i64 d])).run Tryd.prog W = .ok (.bool (eqE a b c d)) W := by
  rw [run_eql_struct, equalIn_end]; rfl
theorem neq_end (W : World) (a b c d : Int) : (binOp .neq 25 (.agg #[.int .i64 a, .int .i64 b]) (.agg #[.int .i64 c, .int .i64 d])).run Tryd.prog W = .ok (.bool (!eqE a b c d)) W := by
  rw [run_neq_struct, equalIn_end]; rfl
theorem guard_end (W : World) (op : BinOp) (x y : Operand) (xs ys : Array Value) : (eqGuard op 25 x y (.agg xs) (.agg ys)).run Tryd.prog W = .ok () W := run_eqGuard_agg W op _ x y xs ys (by kernel_rfl)
end Go.Proofs.YthlaldikdlljfaaDoor
