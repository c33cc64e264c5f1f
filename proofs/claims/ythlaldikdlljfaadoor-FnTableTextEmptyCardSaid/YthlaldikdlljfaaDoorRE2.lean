/- Records are compared field by field. -/
import Derived.Test.YthlaldikdlljfaaDoorRE
import Derived.Test.YthlaldikdlljfaaDoorRP
namespace Go.Proofs.YthlaldikdlljfaaDoor
open Go.RowKit

def eqRb (r s : Rec) : Bool := r.at_ == s.at_ && (r.po == s.po && (eqE r.ad r.ep s.ad s.ep && r.ov == s.ov))
theorem eqRb_iff {r s : Rec} : eqRb r s = true ↔ r = s := by
  obtain ⟨a, b, c, d, e⟩ := r
  obtain ⟨a', b', c', d', e'⟩ := s
  unfold eqRb eqE
  simp [Bool.and_eq_true, and_assoc]
end Go.Proofs.YthlaldikdlljfaaDoor
