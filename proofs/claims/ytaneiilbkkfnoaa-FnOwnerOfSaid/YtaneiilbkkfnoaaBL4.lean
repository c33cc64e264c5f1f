/- The walk of the law FnOwnerOf. -/
import Derived.Test.YtaneiilbkkfnoaaBP2
import Derived.Test.YtaneiilbkkfnoaaG7
namespace Go.Proofs.Ytaneiilbkkfnoaa
open Go.RowKit

set_option maxHeartbeats 1600000 in
theorem l_FnOwnerOf (A : Option Addr) (n c : Nat) (w : World) (h : RB w A n) (hc : n ≤ c) :
    Calls Try.prog 6 #[.slice A n c] w fun e w' => e = .returned (.bool true) ∧ Below w.heap.size w w' := by
  by_cases hbig : 1048576 < n
  · go_enter Try.func6, Try.ntmps6
    go_wp2
    go_ret
    exact ⟨rfl, Below.refl _ _⟩
  go_enter Try.func6, Try.ntmps6
  go_wp2_with fail
  refine (c_DrawOwnerOf _ _ _ _ h hc).mono ?_
  rintro e w1 ⟨ba, bi, fi, si, a, rfl, hR, ha1, ha2, B⟩
  have kb := Blk.new w1 26 #[.int .i64 ba, .int .i64 bi, .int .i64 fi, .int .i64 si]
  replace B : Below w.heap.size w (w1.alloc (.cells #[.int .i64 ba, .int .i64 bi, .int .i64 fi, .int .i64 si] 26)) := B.alloc B.size _
  go_wp2_with fail
  refine (c_OwnerOf _ _ _ _ _ _).mono ?_
  rintro e w2 ⟨rfl, b⟩
  replace B := Bl.then B b; replace kb := kb.to b; clear b
  have j0 := kb.cell 0; have j1 := kb.cell 1; have j2 := kb.cell 2; have j3 := kb.cell 3; simp only [List.getElem?_toArray, List.getElem?_cons_zero, List.getElem?_cons_succ] at j0 j1 j2 j3
  by_cases ho : ownOf ba bi fi si a < 0
  · generalize hn : ownOf ba bi fi si a = o at ho ⊢
    go_wp2_with fail
    refine (c_sOwnerOf _ _ _ _ _ _).mono ?_
    rintro e w3 ⟨rfl, b⟩
    replace B := Bl.then B b; replace kb := kb.to b; clear b
    clear j0 j1 j2 j3
    have j0 := kb.cell 0; have j1 := kb.cell 1; have j2 := kb.cell 2; have j3 := kb.cell 3; simp only [List.getElem?_toArray, List.getElem?_cons_zero, List.getElem?_cons_succ] at j0 j1 j2 j3
    rw [hn]
    have HN := Lib.hid hn
    clear hn
    go_wp2_with fail
    refine (c_sOwnerOf _ _ _ _ _ _).mono ?_
    rintro e w4 ⟨rfl, b⟩
    rw [HN.out]
    go_wp2
    go_ret
    exact ⟨ret_bool (by simp), Bl.then B b⟩
  obtain ⟨hv, p1, p2⟩ := ownOf_pos ho
  obtain ⟨q, r, hn, hp, r0, r1, q0, q1⟩ := ownOf_qr hv p1 p2
  have hb := plan_bd hv q0 q1
  rw [hn]
  have HN := Lib.hid hn
  have HP := Lib.hid hp
  clear hn hp
  go_wp2_with fail
  refine (c_sOwnerOf _ _ _ _ _ _).mono ?_
  rintro e w3 ⟨rfl, b⟩
  replace B := Bl.then B b; replace kb := kb.to b; clear b
  clear j0 j1 j2 j3
  have j0 := kb.cell 0; have j1 := kb.cell 1; have j2 := kb.cell 2; have j3 := kb.cell 3; simp only [List.getElem?_toArray, List.getElem?_cons_zero, List.getElem?_cons_succ] at j0 j1 j2 j3
  rw [HN.out]
  have hnl : decide (ba + q < 0) = false := by rw [decide_eq_false_iff_not]; omega
  have e1 : wrap64 (ba + q) = ba + q := wrap64_id (by omega) (by omega)
  go_wp2_with fail
  refine (c_BlockOf _ _ _ _ _ _).mono ?_
  rintro e w4 ⟨rfl, b⟩
  replace B := Bl.then B b; replace kb := kb.to b; clear b
  clear j0 j1 j2 j3
  have j0 := kb.cell 0; have j1 := kb.cell 1; have j2 := kb.cell 2; have j3 := kb.cell 3; simp only [List.getElem?_toArray, List.getElem?_cons_zero, List.getElem?_cons_succ] at j0 j1 j2 j3
  rw [blkOf_q hv q0 q1]
  have hp := HP.out
  generalize hf : fi + q * si = f at hb hp ⊢
  have t0 : decide (0 ≤ f) = true := by rw [decide_eq_true_eq]; omega
  have t1 : decide (f ≤ a) = true := by rw [decide_eq_true_eq]; omega
  have t2 : decide (a < f + si) = true := by rw [decide_eq_true_eq]; omega
  have f0 : 0 ≤ f := by omega
  have f1 : f ≤ a := by omega
  have f2 : a < f + si := by omega
  have e2 : wrap64 (f + si) = f + si := wrap64_id (by omega) (by omega)
  clear hp
  go_wp2_with fail
  refine (c_InNet _ _ _ _).mono ?_
  rw [inNet_own (ownB_q hv q0 q1), ownB_q hv q0 q1]
  rintro e w5 ⟨rfl, b⟩
  go_wp2
  go_ret
  exact ⟨rfl, Bl.then B b⟩
end Go.Proofs.Ytaneiilbkkfnoaa
