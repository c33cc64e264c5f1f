/- The walk of the law FnPortInBlockNone. -/
import Derived.Test.YtaneiilbkkfnoaaBP3
import Derived.Test.YtaneiilbkkfnoaaG9
import Derived.Test.YtaneiilbkkfnoaaB8
import Derived.Test.YtaneiilbkkfnoaaBL7
namespace Go.Proofs.Ytaneiilbkkfnoaa
open Go.RowKit

set_option maxHeartbeats 3200000 in
theorem l_FnPortInBlockNone (A : Option Addr) (n c : Nat) (w : World) (h : RB w A n) (hc : n ≤ c) :
    Calls Try.prog 15 #[.slice A n c] w fun e w' => e = .returned (.bool true) ∧ Below w.heap.size w w' := by
  by_cases hbig : 1048576 < n
  · go_enter Try.func15, Try.ntmps15
    go_wp2
    go_ret
    exact ⟨rfl, Below.refl _ _⟩
  go_enter Try.func15, Try.ntmps15
  go_wp2_with fail
  refine (c_DrawPortInBlock _ _ _ _ h hc).mono ?_
  rintro e w1 ⟨ba, bi, fi, si, a, want, D, d, zs, rfl, hR, ha1, ha2, hy1, hy2, hd, hlm, hri, hDw, B⟩
  clear hDw
  have kb := Blk.new w1 26 #[.int .i64 ba, .int .i64 bi, .int .i64 fi, .int .i64 si]
  replace hri := hri.alloc (.cells #[.int .i64 ba, .int .i64 bi, .int .i64 fi, .int .i64 si] 26)
  replace B : Below w.heap.size w (w1.alloc (.cells #[.int .i64 ba, .int .i64 bi, .int .i64 fi, .int .i64 si] 26)) := B.alloc B.size _
  go_wp2_with fail
  refine (c_PortInBlock _ _ _ _ _ _ _ _ _ zs _ rfl hri (by omega)).mono ?_
  rintro e w2 ⟨rfl, b⟩
  replace B := Bl.then B b; replace kb := kb.to b; replace hri := hri.to b; clear b
  have j0 := kb.cell 0; have j1 := kb.cell 1; have j2 := kb.cell 2; have j3 := kb.cell 3; simp only [List.getElem?_toArray, List.getElem?_cons_zero, List.getElem?_cons_succ] at j0 j1 j2 j3
  generalize hn : pib ba bi fi si a want zs = o
  have HN := Lib.hid hn
  clear hn
  go_wp2_with fail
  refine (c_sPortInBlock _ _ _ _ _ _ _ _ _ zs _ rfl hri (by omega)).mono ?_
  rintro e w3 ⟨rfl, b⟩
  replace B := Bl.then B b; replace kb := kb.to b; replace hri := hri.to b; clear b
  clear j0 j1 j2 j3
  have j0 := kb.cell 0; have j1 := kb.cell 1; have j2 := kb.cell 2; have j3 := kb.cell 3; simp only [List.getElem?_toArray, List.getElem?_cons_zero, List.getElem?_cons_succ] at j0 j1 j2 j3
  rw [HN.out]
  cases ho : ownB ba bi fi si a
  · have hb0 := blk_no ho
    have HB := Lib.hid hb0
    clear hb0
    go_wp2_with fail
    refine (c_BlockOf _ _ _ _ _ _).mono ?_
    rintro e w4 ⟨rfl, b⟩
    replace B := Bl.then B b; replace kb := kb.to b; replace hri := hri.to b; clear b
    clear j0 j1 j2 j3
    have j0 := kb.cell 0; have j1 := kb.cell 1; have j2 := kb.cell 2; have j3 := kb.cell 3; simp only [List.getElem?_toArray, List.getElem?_cons_zero, List.getElem?_cons_succ] at j0 j1 j2 j3
    rw [HB.out]
    go_wp2_with fail
    refine (c_sPortInBlock _ _ _ _ _ _ _ _ _ zs _ rfl hri (by omega)).mono ?_
    rintro e w9 ⟨rfl, b⟩
    rw [HN.out]
    go_wp2
    go_ret
    exact ⟨ret_bool (by simp), Bl.then B b⟩
  have hb := own_bd ho
  have HB := Lib.hid (blk_eq ho)
  have hf1 : 1 ≤ fi + (a - ba) * si := by omega
  generalize hf : fi + (a - ba) * si = f at hb HB hf1
  have HF := Lib.hid hf
  clear hf
  have t1 : decide (f < 0) = false := by rw [decide_eq_false_iff_not]; omega
  go_wp2_with fail
  refine (c_BlockOf _ _ _ _ _ _).mono ?_
  rintro e w4 ⟨rfl, b⟩
  replace B := Bl.then B b; replace kb := kb.to b; replace hri := hri.to b; clear b
  clear j0 j1 j2 j3
  have j0 := kb.cell 0; have j1 := kb.cell 1; have j2 := kb.cell 2; have j3 := kb.cell 3; simp only [List.getElem?_toArray, List.getElem?_cons_zero, List.getElem?_cons_succ] at j0 j1 j2 j3
  rw [HB.out]
  cases hw : inB want 0 65535
  · go_wp2_with fail
    refine (c_lIsWord _ _).mono ?_
    rw [hw]
    rintro e w5 ⟨rfl, rfl⟩
    go_wp2_with fail
    refine (c_sPortInBlock _ _ _ _ _ _ _ _ _ zs _ rfl hri (by omega)).mono ?_
    rintro e w9 ⟨rfl, b⟩
    rw [HN.out]
    go_wp2
    go_ret
    exact ⟨ret_bool (by simp), Bl.then B b⟩
  have hww := inB_true hw
  have hm0 : 0 ≤ want.tmod si ∧ want.tmod si < si := by rw [Int.tmod_eq_emod_of_nonneg (by omega)]; exact ⟨Int.emod_nonneg _ (by omega), Int.emod_lt_of_pos _ (by omega)⟩
  have hmm : want % si = want.tmod si := (Int.tmod_eq_emod_of_nonneg (by omega)).symm
  have HM := Lib.hid hmm
  clear hmm
  go_wp2_with fail
  refine (c_lIsWord _ _).mono ?_
  rw [hw]
  rintro e w5 ⟨rfl, rfl⟩
  have HX := Lib.hid (pib_full (zs := zs) (want := want) ho hw)
  rw [HN.out] at HX
  generalize hp : fib ba bi fi si a zs = v at HX
  have HP := Lib.hid hp
  clear hp
  go_wp2_with fail
  refine (c_FreeInBlock _ _ _ _ _ _ _ _ zs _ rfl hri (by omega)).mono ?_
  rintro e w6 ⟨rfl, b⟩
  replace B := Bl.then B b; replace kb := kb.to b; replace hri := hri.to b; clear b
  rw [HP.out]
  go_wp2
  go_ret
  exact ⟨ret_bool (by rw [HX.out]; simp), B⟩
end Go.Proofs.Ytaneiilbkkfnoaa
