/- The walks of the two exact laws on blocks. -/
import Derived.Test.YtaneiilbkkfnoaaB7
import Derived.Test.YtaneiilbkkfnoaaB8
namespace Go.Proofs.Ytaneiilbkkfnoaa
open Go.RowKit

theorem l_FnExactPortInBlock (ba bi fi si : Int) (a want : Int) (A : Option Addr) (c : Nat) (zs : List Int) (w : World) (h : RI w A zs) :
    Calls Try.prog 5 #[.agg #[.int .i64 ba, .int .i64 bi, .int .i64 fi, .int .i64 si], .int .i64 a, .int .i64 want, .slice A zs.length c] w fun e w' => e = .returned (.bool true) ∧ Below w.heap.size w w' := by
  by_cases hbig : 1048576 < zs.length
  · go_enter Try.func5, Try.ntmps5
    go_wp2
    go_ret
    exact ⟨rfl, (Below.refl _ _).alloc (Nat.le_refl _) _⟩
  · go_enter Try.func5, Try.ntmps5
    have kb := Blk.new w 34 #[.int .i64 ba, .int .i64 bi, .int .i64 fi, .int .i64 si]
    have B : Below w.heap.size w (w.alloc (.cells #[.int .i64 ba, .int .i64 bi, .int .i64 fi, .int .i64 si] 34)) := (Below.refl _ _).alloc (Nat.le_refl _) _
    go_wp2_with fail
    refine (c_toPlan _ _ _ _ _).mono ?_
    rintro e w1 ⟨rfl, b⟩
    replace B := Bl.then B b
    replace h := (RI.alloc h _).to b
    replace kb := kb.to b
    clear b
    go_wp2_with fail
    refine (c_toIntS _ _ _ _ h (by omega)).mono ?_
    rintro e w2 ⟨g1, rfl, k1, l1, b⟩
    replace B := Bl.then B b
    replace h := h.to b
    replace kb := kb.to b
    clear b
    go_wp2_with fail
    refine (c_sPortInBlock _ _ _ _ _ _ _ _ _ zs _ rfl (RI.of_blk k1) (by omega)).mono ?_
    rintro e w3 ⟨rfl, b⟩
    replace B := Bl.then B b
    replace h := h.to b
    replace kb := kb.to b
    replace k1 := k1.to b
    clear b
    go_wp2_with fail
    refine (c_toIntS _ _ _ _ h (by omega)).mono ?_
    rintro e w4 ⟨g2, rfl, k2, l2, b⟩
    replace B := Bl.then B b
    replace h := h.to b
    replace kb := kb.to b
    replace k1 := k1.to b
    clear b
    have j0 : w4.cell? ⟨w.heap.size, 0, none⟩ = some (.int .i64 ba) := kb.cell 0
    have j1 : w4.cell? ⟨w.heap.size, 1, none⟩ = some (.int .i64 bi) := kb.cell 1
    have j2 : w4.cell? ⟨w.heap.size, 2, none⟩ = some (.int .i64 fi) := kb.cell 2
    have j3 : w4.cell? ⟨w.heap.size, 3, none⟩ = some (.int .i64 si) := kb.cell 3
    go_wp2_with fail
    clear j0 j1 j2 j3
    refine (c_toPlan _ _ _ _ _).mono ?_
    rintro e w5 ⟨rfl, b⟩
    replace B := Bl.then B b
    replace h := h.to b
    replace kb := kb.to b
    replace k1 := k1.to b
    replace k2 := k2.to b
    clear b
    go_wp2_with fail
    refine (c_PortInBlock _ _ _ _ _ _ _ _ _ zs _ rfl (RI.of_blk k2) (by omega)).mono ?_
    rintro e w6 ⟨rfl, b⟩
    replace B := Bl.then B b
    replace h := h.to b
    replace kb := kb.to b
    replace k1 := k1.to b
    replace k2 := k2.to b
    clear b
    go_wp2_with fail
    refine (c_toIntS _ _ _ _ h (by omega)).mono ?_
    rintro e w7 ⟨g3, rfl, k3, l3, b⟩
    replace B := Bl.then B b
    replace h := h.to b
    replace kb := kb.to b
    replace k1 := k1.to b
    replace k2 := k2.to b
    clear b
    go_wp2_with fail
    refine (c_eqIntS _ _ _ _ _ _ _ (RI.of_blk k2) (RI.of_blk k3) (by omega)).mono ?_
    rintro e w8 ⟨rfl, b⟩
    replace B := Bl.then B (Bl.quiet b)
    rw [eqL_same]
    go_wp2
    go_ret
    exact ⟨rfl, B⟩

theorem l_FnExactFreeInBlock (ba bi fi si : Int) (a : Int) (A : Option Addr) (c : Nat) (zs : List Int) (w : World) (h : RI w A zs) :
    Calls Try.prog 8 #[.agg #[.int .i64 ba, .int .i64 bi, .int .i64 fi, .int .i64 si], .int .i64 a, .slice A zs.length c] w fun e w' => e = .returned (.bool true) ∧ Below w.heap.size w w' := by
  by_cases hbig : 1048576 < zs.length
  · go_enter Try.func8, Try.ntmps8
    go_wp2
    go_ret
    exact ⟨rfl, (Below.refl _ _).alloc (Nat.le_refl _) _⟩
  · go_enter Try.func8, Try.ntmps8
    have kb := Blk.new w 34 #[.int .i64 ba, .int .i64 bi, .int .i64 fi, .int .i64 si]
    have B : Below w.heap.size w (w.alloc (.cells #[.int .i64 ba, .int .i64 bi, .int .i64 fi, .int .i64 si] 34)) := (Below.refl _ _).alloc (Nat.le_refl _) _
    go_wp2_with fail
    refine (c_toPlan _ _ _ _ _).mono ?_
    rintro e w1 ⟨rfl, b⟩
    replace B := Bl.then B b
    replace h := (RI.alloc h _).to b
    replace kb := kb.to b
    clear b
    go_wp2_with fail
    refine (c_toIntS _ _ _ _ h (by omega)).mono ?_
    rintro e w2 ⟨g1, rfl, k1, l1, b⟩
    replace B := Bl.then B b
    replace h := h.to b
    replace kb := kb.to b
    clear b
    go_wp2_with fail
    refine (c_sFreeInBlock _ _ _ _ _ _ _ _ zs _ rfl (RI.of_blk k1) (by omega)).mono ?_
    rintro e w3 ⟨rfl, b⟩
    replace B := Bl.then B b
    replace h := h.to b
    replace kb := kb.to b
    replace k1 := k1.to b
    clear b
    go_wp2_with fail
    refine (c_toIntS _ _ _ _ h (by omega)).mono ?_
    rintro e w4 ⟨g2, rfl, k2, l2, b⟩
    replace B := Bl.then B b
    replace h := h.to b
    replace kb := kb.to b
    replace k1 := k1.to b
    clear b
    have j0 : w4.cell? ⟨w.heap.size, 0, none⟩ = some (.int .i64 ba) := kb.cell 0
    have j1 : w4.cell? ⟨w.heap.size, 1, none⟩ = some (.int .i64 bi) := kb.cell 1
    have j2 : w4.cell? ⟨w.heap.size, 2, none⟩ = some (.int .i64 fi) := kb.cell 2
    have j3 : w4.cell? ⟨w.heap.size, 3, none⟩ = some (.int .i64 si) := kb.cell 3
    go_wp2_with fail
    clear j0 j1 j2 j3
    refine (c_toPlan _ _ _ _ _).mono ?_
    rintro e w5 ⟨rfl, b⟩
    replace B := Bl.then B b
    replace h := h.to b
    replace kb := kb.to b
    replace k1 := k1.to b
    replace k2 := k2.to b
    clear b
    go_wp2_with fail
    refine (c_FreeInBlock _ _ _ _ _ _ _ _ zs _ rfl (RI.of_blk k2) (by omega)).mono ?_
    rintro e w6 ⟨rfl, b⟩
    replace B := Bl.then B b
    replace h := h.to b
    replace kb := kb.to b
    replace k1 := k1.to b
    replace k2 := k2.to b
    clear b
    go_wp2_with fail
    refine (c_toIntS _ _ _ _ h (by omega)).mono ?_
    rintro e w7 ⟨g3, rfl, k3, l3, b⟩
    replace B := Bl.then B b
    replace h := h.to b
    replace kb := kb.to b
    replace k1 := k1.to b
    replace k2 := k2.to b
    clear b
    go_wp2_with fail
    refine (c_eqIntS _ _ _ _ _ _ _ (RI.of_blk k2) (RI.of_blk k3) (by omega)).mono ?_
    rintro e w8 ⟨rfl, b⟩
    replace B := Bl.then B (Bl.quiet b)
    rw [eqL_same]
    go_wp2
    go_ret
    exact ⟨rfl, B⟩

end Go.Proofs.Ytaneiilbkkfnoaa
