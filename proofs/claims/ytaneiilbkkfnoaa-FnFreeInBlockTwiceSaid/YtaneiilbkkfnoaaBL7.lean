/- The walk of the law FnPortInBlock. -/
import Derived.Test.YtaneiilbkkfnoaaBP3
import Derived.Test.YtaneiilbkkfnoaaG9
import Derived.Test.YtaneiilbkkfnoaaB8
namespace Go.Proofs.Ytaneiilbkkfnoaa
open Go.RowKit

theorem c_lIsWord (n : Int) (w : World) : Calls Try.prog 33 #[.int .i64 n] w fun e w' => e = .returned (.bool (inB n 0 65535)) ∧ w = w' := by
  go_enter Try.func33, Try.ntmps33
  go_wp2
  all_goals
    go_ret
    exact ⟨ret_bool (by unfold inB; simp; try omega), rfl⟩
set_option maxHeartbeats 3200000 in
theorem l_FnPortInBlock (A : Option Addr) (n c : Nat) (w : World) (h : RB w A n) (hc : n ≤ c) :
    Calls Try.prog 12 #[.slice A n c] w fun e w' => e = .returned (.bool true) ∧ Below w.heap.size w w' := by
  by_cases hbig : 1048576 < n
  · go_enter Try.func12, Try.ntmps12
    go_wp2
    go_ret
    exact ⟨rfl, Below.refl _ _⟩
  go_enter Try.func12, Try.ntmps12
  go_wp2_with fail
  refine (c_DrawPortInBlock _ _ _ _ h hc).mono ?_
  rintro e w1 ⟨ba, bi, fi, si, a, want, D, d, zs, rfl, hR, ha1, ha2, hy1, hy2, hd, hlm, hri, hDw, B⟩
  clear hDw
  have kb := Blk.new w1 26 #[.int .i64 ba, .int .i64 bi, .int .i64 fi, .int .i64 si]
  replace hri := hri.alloc (.cells #[.int .i64 ba, .int .i64 bi, .int .i64 fi, .int .i64 si] 26)
  replace B : Below w.heap.size w (w1.alloc (.cells #[.int .i64 ba, .int .i64 bi, .int .i64 fi, .int .i64 si] 26)) := B.alloc B.size _
  go_wp2_with fail
  refine (c_PortInBlock _ _ _ _ _ _ _ _ _ zs _ rfl hri (by omega)).mono ?_
  rintro e w2 ⟨rfl, b⟩
  replace B := Bl.then B b; replace kb := kb.to b; replace hri := hri.to b; clear b
  have j0 := kb.cell 0; have j1 := kb.cell 1; have j2 := kb.cell 2; have j3 := kb.cell 3; simp only [List.getElem?_toArray, List.getElem?_cons_zero, List.getElem?_cons_succ] at j0 j1 j2 j3
  generalize hn : pib ba bi fi si a want zs = o
  have HN := Lib.hid hn
  clear hn
  go_wp2_with fail
  refine (c_sPortInBlock _ _ _ _ _ _ _ _ _ zs _ rfl hri (by omega)).mono ?_
  rintro e w3 ⟨rfl, b⟩
  replace B := Bl.then B b; replace kb := kb.to b; replace hri := hri.to b; clear b
  clear j0 j1 j2 j3
  have j0 := kb.cell 0; have j1 := kb.cell 1; have j2 := kb.cell 2; have j3 := kb.cell 3; simp only [List.getElem?_toArray, List.getElem?_cons_zero, List.getElem?_cons_succ] at j0 j1 j2 j3
  rw [HN.out]
  by_cases ho : o < 0
  · have t0 : decide (o < 0) = true := by rw [decide_eq_true_eq]; exact ho
    go_wp2_with fail
    refine (c_sPortInBlock _ _ _ _ _ _ _ _ _ zs _ rfl hri (by omega)).mono ?_
    rintro e w9 ⟨rfl, b⟩
    rw [HN.out]
    go_wp2
    go_ret
    exact ⟨ret_bool (by simp), Bl.then B b⟩
  have t0 : decide (o < 0) = false := by rw [decide_eq_false_iff_not]; exact ho
  have hp := pib_owner (zs := zs) (a := a) (want := want) (by rw [HN.out]; exact ho)
  rw [HN.out] at hp
  have Q1 := Lib.hid hp.1
  have Q2 := Lib.hid hp.2
  clear hp
  go_wp2_with fail
  refine (c_OwnerOf _ _ _ _ _ _).mono ?_
  rintro e w4 ⟨rfl, b⟩
  replace B := Bl.then B b; replace kb := kb.to b; replace hri := hri.to b; clear b
  clear j0 j1 j2 j3
  have j0 := kb.cell 0; have j1 := kb.cell 1; have j2 := kb.cell 2; have j3 := kb.cell 3; simp only [List.getElem?_toArray, List.getElem?_cons_zero, List.getElem?_cons_succ] at j0 j1 j2 j3
  rw [Q1.out]
  go_wp2_with fail
  refine (c_isIn _ _ zs _ _ hri (by omega)).mono ?_
  rintro e w5 ⟨rfl, rfl⟩
  rw [Q2.out]
  go_wp2
  go_ret
  exact ⟨ret_bool (by simp), B⟩
end Go.Proofs.Ytaneiilbkkfnoaa
