/- The walk of the law FnBlockOfOwner. -/
import Derived.Test.YtaneiilbkkfnoaaBP2
import Derived.Test.YtaneiilbkkfnoaaG7
namespace Go.Proofs.Ytaneiilbkkfnoaa
open Go.RowKit

set_option maxHeartbeats 1600000 in
theorem l_FnBlockOfOwner (A : Option Addr) (n c : Nat) (w : World) (h : RB w A n) (hc : n ≤ c) :
    Calls Try.prog 4 #[.slice A n c] w fun e w' => e = .returned (.bool true) ∧ Below w.heap.size w w' := by
  by_cases hbig : 1048576 < n
  · go_enter Try.func4, Try.ntmps4
    go_wp2
    go_ret
    exact ⟨rfl, Below.refl _ _⟩
  go_enter Try.func4, Try.ntmps4
  go_wp2_with fail
  refine (c_DrawOwnerOf _ _ _ _ h hc).mono ?_
  rintro e w1 ⟨ba, bi, fi, si, a, rfl, hR, ha1, ha2, B⟩
  have kb := Blk.new w1 26 #[.int .i64 ba, .int .i64 bi, .int .i64 fi, .int .i64 si]
  replace B : Below w.heap.size w (w1.alloc (.cells #[.int .i64 ba, .int .i64 bi, .int .i64 fi, .int .i64 si] 26)) := B.alloc B.size _
  go_wp2_with fail
  refine (c_OwnerOf _ _ _ _ _ _).mono ?_
  rintro e w2 ⟨rfl, b⟩
  replace B := Bl.then B b; replace kb := kb.to b; clear b
  have j0 := kb.cell 0; have j1 := kb.cell 1; have j2 := kb.cell 2; have j3 := kb.cell 3; simp only [List.getElem?_toArray, List.getElem?_cons_zero, List.getElem?_cons_succ] at j0 j1 j2 j3
  by_cases ho : ownOf ba bi fi si a < 0
  · generalize hn : ownOf ba bi fi si a = o at ho ⊢
    go_wp2_with fail
    refine (c_sOwnerOf _ _ _ _ _ _).mono ?_
    rintro e w3 ⟨rfl, b⟩
    replace B := Bl.then B b; replace kb := kb.to b; clear b
    clear j0 j1 j2 j3
    have j0 := kb.cell 0; have j1 := kb.cell 1; have j2 := kb.cell 2; have j3 := kb.cell 3; simp only [List.getElem?_toArray, List.getElem?_cons_zero, List.getElem?_cons_succ] at j0 j1 j2 j3
    rw [hn]
    have HN := Lib.hid hn
    clear hn
    go_wp2_with fail
    refine (c_sOwnerOf _ _ _ _ _ _).mono ?_
    rintro e w4 ⟨rfl, b⟩
    rw [HN.out]
    go_wp2
    go_ret
    exact ⟨ret_bool (by simp), Bl.then B b⟩
  obtain ⟨hv, p1, p2⟩ := ownOf_pos ho
  obtain ⟨q, r, hn, hp, r0, r1, q0, q1⟩ := ownOf_qr hv p1 p2
  have hb := plan_bd hv q0 q1
  rw [hn]
  have HN := Lib.hid hn
  have HP := Lib.hid hp
  clear hn hp
  go_wp2_with fail
  refine (c_sOwnerOf _ _ _ _ _ _).mono ?_
  rintro e w3 ⟨rfl, b⟩
  replace B := Bl.then B b; replace kb := kb.to b; clear b
  clear j0 j1 j2 j3
  have j0 := kb.cell 0; have j1 := kb.cell 1; have j2 := kb.cell 2; have j3 := kb.cell 3; simp only [List.getElem?_toArray, List.getElem?_cons_zero, List.getElem?_cons_succ] at j0 j1 j2 j3
  rw [HN.out]
  have hnl : decide (ba + q < 0) = false := by rw [decide_eq_false_iff_not]; omega
  have e1 : wrap64 (ba + q) = ba + q := wrap64_id (by omega) (by omega)
  go_wp2_with fail
  refine (c_BlockOf _ _ _ _ _ _).mono ?_
  rintro e w4 ⟨rfl, b⟩
  replace B := Bl.then B b; replace kb := kb.to b; clear b
  clear j0 j1 j2 j3
  have j0 := kb.cell 0; have j1 := kb.cell 1; have j2 := kb.cell 2; have j3 := kb.cell 3; simp only [List.getElem?_toArray, List.getElem?_cons_zero, List.getElem?_cons_succ] at j0 j1 j2 j3
  rw [blkOf_q hv q0 q1]
  have HO := Lib.hid (fun hx : fi + q * si + r ≠ fi => ownOf_before hv q0 q1 r0 r1 hx)
  rw [← HP.out] at HO
  have hp := HP.out
  generalize hf : fi + q * si = f at hb hp ⊢
  obtain rfl : f = a - r := by omega
  have e2 : wrap64 (a - (a - r)) = r := by rw [show a - (a - r) = r by omega]; exact wrap64_id (by omega) (by omega)
  have e3 : wrap64 (a - 1) = a - 1 := wrap64_id (by omega) (by omega)
  have e4 : wrap64 (ba + q - 1) = ba + q - 1 := wrap64_id (by omega) (by omega)
  have t1 : decide (0 ≤ r) = true := by rw [decide_eq_true_eq]; omega
  have t2 : decide (r < si) = true := by rw [decide_eq_true_eq]; omega
  clear hf HP hp
  by_cases hx : a = fi
  · have hx' : (a == fi) = true := by rw [beq_iff_eq]; exact hx
    have HX := Lib.hid hx
    clear hx
    go_wp2
    go_ret
    exact ⟨ret_bool (by simp), B⟩
  have hx' : (a == fi) = false := by rw [beq_eq_false_iff_ne]; exact hx
  by_cases hy : ownOf ba bi fi si (a - 1) = ba + q
  · have HY := Lib.hid hy
    clear hy
    go_wp2_with fail
    refine (c_OwnerOf _ _ _ _ _ _).mono ?_
    rintro e w5 ⟨rfl, b⟩
    replace B := Bl.then B b; replace kb := kb.to b; clear b
    clear j0 j1 j2 j3
    have j0 := kb.cell 0; have j1 := kb.cell 1; have j2 := kb.cell 2; have j3 := kb.cell 3; simp only [List.getElem?_toArray, List.getElem?_cons_zero, List.getElem?_cons_succ] at j0 j1 j2 j3
    rw [HY.out]
    go_wp2
    go_ret
    exact ⟨ret_bool (by simp), B⟩
  · have HY := Lib.hid ((HO.out hx).resolve_left hy)
    clear hy
    have hz : (ba + q - 1 == ba + q) = false := by rw [beq_eq_false_iff_ne]; omega
    go_wp2_with fail
    refine (c_OwnerOf _ _ _ _ _ _).mono ?_
    rintro e w5 ⟨rfl, b⟩
    replace B := Bl.then B b; replace kb := kb.to b; clear b
    clear j0 j1 j2 j3
    have j0 := kb.cell 0; have j1 := kb.cell 1; have j2 := kb.cell 2; have j3 := kb.cell 3; simp only [List.getElem?_toArray, List.getElem?_cons_zero, List.getElem?_cons_succ] at j0 j1 j2 j3
    rw [HY.out]
    go_wp2_with fail
    refine (c_OwnerOf _ _ _ _ _ _).mono ?_
    rintro e w6 ⟨rfl, b⟩
    replace B := Bl.then B b; replace kb := kb.to b; clear b
    rw [HY.out]
    go_wp2
    go_ret
    exact ⟨ret_bool (by simp), B⟩
end Go.Proofs.Ytaneiilbkkfnoaa
