/- Joined: SF. -/
import Derived.Test.YtjflfhjnbccpmaaGreatDoorJ14
set_option linter.unusedVariables false
set_option linter.unusedSimpArgs false
namespace Go.Proofs.YtjflfhjnbccpmaaGreatDoor
open Go.RowKit
theorem env_of7 {W : World} {t1 t2 : List UInt8} {a b c : String × DataW Unit} {d : List (String × DataW Unit)} (hsh : W.ShapedOpen Tryz.prog)
    (hL : laidMet Tryz.prog (a :: b :: ("internal/strconv.uint64pow10", Lib.tabData .u64 Lib.pow10Tab) :: c :: ("strconv.ErrRange", .iface "*errors.errorString" (.ptr (.agg [.lit (.string t1)]))) :: ("strconv.ErrSyntax", .iface "*errors.errorString" (.ptr (.agg [.lit (.string t2)]))) :: d) W) : EnvP W := by
  have h2 := laidMet.tail (laidMet.tail hL)
  have h3 := laidMet.tail (laidMet.tail h2)
  obtain ⟨a0, s0, h4, _⟩ := laid_sentinel (g := 2) h3 (by kernel_rfl) (by kernel_rfl) Tryz.underlying49 row_err Tryz.underlying178 Tryz.underlying180 rfl rfl Tryz.underlying9 (by kernel_rfl) (by kernel_rfl)
  obtain ⟨a1, s1, h5, _⟩ := laid_sentinel (g := 1) (laidMet.tail h3) (by kernel_rfl) (by kernel_rfl) Tryz.underlying49 row_err Tryz.underlying178 Tryz.underlying180 rfl rfl Tryz.underlying9 (by kernel_rfl) (by kernel_rfl)
  exact ⟨tab_of h2, Tryz.laysM145.s1_3 W hsh, ⟨_, _, h5⟩, ⟨_, _, h4⟩⟩
end Go.Proofs.YtjflfhjnbccpmaaGreatDoor
