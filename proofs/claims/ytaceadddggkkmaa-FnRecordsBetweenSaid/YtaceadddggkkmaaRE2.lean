/- Records are compared field by field. -/
import Derived.Test.YtaceadddggkkmaaRE
import Derived.Test.YtaceadddggkkmaaRP
namespace Go.Proofs.Ytaceadddggkkmaa
open Go.RowKit

def eqRb (r s : Rec) : Bool := r.at_ == s.at_ && (r.po == s.po && (eqE r.ad r.ep s.ad s.ep && r.ov == s.ov))
theorem eqRb_iff {r s : Rec} : eqRb r s = true ↔ r = s := by
  obtain ⟨a, b, c, d, e⟩ := r
  obtain ⟨a', b', c', d', e'⟩ := s
  unfold eqRb eqE
  simp [Bool.and_eq_true, and_assoc]
theorem equalIn_rec (W : World) (r s : Rec) : (Op.equalIn 10000 29 (.agg #[.int .i64 r.at_, .int .i64 r.po, .int .i64 r.ad, .int .i64 r.ep, .bool r.ov]) (.agg #[.int .i64 s.at_, .int .i64 s.po, .int .i64 s.ad, .int .i64 s.ep, .bool s.ov])).run Try.prog W = .ok (eqRb r s) W := by
  have hp : Try.prog.stoodInHeld 29 = false := by kernel_rfl
  have hf : Try.prog.underlying 29 = some (.struct (Try.prog.fieldsOf 29)) := by kernel_rfl
  have hi := fun d (W : World) (a b : Int) => run_equalIn_int (P := Try.prog) W d 3 .i64 .i64 a b Try.underlying3
  rw [show (10000 : Nat) = 9998 + 1 + 1 from rfl, run_equalIn_agg W _ _ _ _ hf hp]
  unfold Program.fieldsOf
  rw [Try.underlying29]
  unfold eqRb
  have he := fun d (W : World) (a b c d' : Int) => (by
    have hp : Try.prog.stoodInHeld 27 = false := by kernel_rfl
    have hf : Try.prog.underlying 27 = some (.struct (Try.prog.fieldsOf 27)) := by kernel_rfl
    have hi := fun d (W : World) (a b : Int) => run_equalIn_int (P := Try.prog) W d 3 .i64 .i64 a b Try.underlying3
    rw [run_equalIn_agg W _ _ _ _ hf hp]
    unfold Program.fieldsOf
    rw [Try.underlying27]
    unfold eqE
    cases h1 : a == c
    · simp [Op.eqFields, hi, go_sem, h1]
    · simp [Op.eqFields, hi, go_sem, h1]
      by_cases h2 : b = d' <;> simp [h2] : (Op.equalIn (d + 1 + 1) 27 (.agg #[.int .i64 a, .int .i64 b]) (.agg #[.int .i64 c, .int .i64 d'])).run Try.prog W = .ok (eqE a b c d') W)
  have hb := fun d (W : World) (a b : Bool) => run_equalIn_bool' (P := Try.prog) W d 4 a b Try.underlying4
  cases h1 : r.at_ == s.at_
  · simp [Op.eqFields, hi, go_sem, h1]
  cases h2 : r.po == s.po
  · simp [Op.eqFields, hi, go_sem, h1, h2]
  simp [Op.eqFields, hi, he, hb, go_sem, h1, h2]
  cases h3 : eqE r.ad r.ep s.ad s.ep
  · rfl
  · by_cases h4 : r.ov = s.ov <;> simp [h4]
theorem eql_rec (W : World) (r s : Rec) : (binOp .eql 29 (.agg #[.int .i64 r.at_, .int .i64 r.po, .int .i64 r.ad, .int .i64 r.ep, .bool r.ov]) (.agg #[.int .i64 s.at_, .int .i64 s.po, .int .i64 s.ad, .int .i64 s.ep, .bool s.ov])).run Try.prog W = .ok (.bool (eqRb r s)) W := by
  rw [run_eql_struct, equalIn_rec]; rfl
theorem neq_rec (W : World) (r s : Rec) : (binOp .neq 29 (.agg #[.int .i64 r.at_, .int .i64 r.po, .int .i64 r.ad, .int .i64 r.ep, .bool r.ov]) (.agg #[.int .i64 s.at_, .int .i64 s.po, .int .i64 s.ad, .int .i64 s.ep, .bool s.ov])).run Try.prog W = .ok (.bool (!eqRb r s)) W := by
  rw [run_neq_struct, equalIn_rec]; rfl
theorem guard_rec (W : World) (op : BinOp) (x y : Operand) (xs ys : Array Value) : (eqGuard op 29 x y (.agg xs) (.agg ys)).run Try.prog W = .ok () W := run_eqGuard_agg W op _ x y xs ys (by kernel_rfl)
end Go.Proofs.Ytaceadddggkkmaa
