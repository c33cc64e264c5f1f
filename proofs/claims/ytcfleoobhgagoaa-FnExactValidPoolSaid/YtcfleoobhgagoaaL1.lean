/- test -/
import Derived.Test.YtcfleoobhgagoaaC2
namespace Go.Proofs.Ytcfleoobhgagoaa
open Go.RowKit
theorem l_FnExactValidPool (A : Option Addr) (c : Nat) (zs : List Int) (w : World) (h : RI w A zs) :
    Calls Try.prog 3 #[.slice A zs.length c] w fun e w' => e = .returned (.bool true) ∧ Below w.heap.size w w' := by
  by_cases hbig : 1048576 < zs.length
  · go_enter Try.func3, Try.ntmps3
    go_wp2
    go_ret
    exact ⟨rfl, Below.refl _ _⟩
  · go_enter Try.func3, Try.ntmps3
    go_wp2_with fail
    refine (c_toIntS _ _ _ _ h (by omega)).mono ?_
    rintro e w1 ⟨g1, rfl, k1, l1, b⟩
    replace h := h.to b
    have B := b
    clear b
    go_wp2_with fail
    refine (c_sValidPool _ _ _ _ (RI.of_blk k1) (by omega)).mono ?_
    rintro e w2 ⟨rfl, b⟩
    replace b := Bl.quiet b
    replace h := h.to b
    replace B := Bl.then B b
    clear b
    go_wp2_with fail
    refine (c_toIntS _ _ _ _ h (by omega)).mono ?_
    rintro e w3 ⟨g2, rfl, k2, l2, b⟩
    replace h := h.to b
    replace B := Bl.then B b
    clear b
    go_wp2_with fail
    refine (c_iValidPool _ _ _ _ (RI.of_blk k2) (by omega)).mono ?_
    rintro e w' ⟨rfl, rfl⟩
    have hn : (vPool zs != vPool zs) = false := by simp
    go_wp2_with fail
    refine (c_toIntS _ _ _ _ h (by omega)).mono ?_
    rintro e w4 ⟨g3, rfl, k3, l3, b⟩
    replace k2 := k2.to b
    replace B := Bl.then B b
    clear b
    go_wp2_with fail
    refine (c_eqIntS _ _ _ _ _ _ _ (RI.of_blk k2) (RI.of_blk k3) (by omega)).mono ?_
    rintro e w5 ⟨rfl, b⟩
    replace B := Bl.then B (Bl.quiet b)
    rw [eqL_same]
    go_wp2
    go_ret
    exact ⟨rfl, B⟩
end Go.Proofs.Ytcfleoobhgagoaa
