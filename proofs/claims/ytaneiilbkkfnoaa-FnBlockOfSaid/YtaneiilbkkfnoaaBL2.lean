/- The walk of the law FnBlockOf. -/
import Derived.Test.YtaneiilbkkfnoaaBP
import Derived.Test.YtaneiilbkkfnoaaG6
namespace Go.Proofs.Ytaneiilbkkfnoaa
open Go.RowKit

set_option maxHeartbeats 1600000 in
theorem l_FnBlockOf (A : Option Addr) (n c : Nat) (w : World) (h : RB w A n) (hc : n ≤ c) :
    Calls Try.prog 9 #[.slice A n c] w fun e w' => e = .returned (.bool true) ∧ Below w.heap.size w w' := by
  by_cases hbig : 1048576 < n
  · go_enter Try.func9, Try.ntmps9
    go_wp2
    go_ret
    exact ⟨rfl, Below.refl _ _⟩
  go_enter Try.func9, Try.ntmps9
  go_wp2_with fail
  refine (c_DrawBlockOf _ _ _ _ h hc).mono ?_
  rintro e w1 ⟨ba, bi, fi, si, a, rfl, hR, ha1, ha2, B⟩
  have kb := Blk.new w1 26 #[.int .i64 ba, .int .i64 bi, .int .i64 fi, .int .i64 si]
  replace B : Below w.heap.size w (w1.alloc (.cells #[.int .i64 ba, .int .i64 bi, .int .i64 fi, .int .i64 si] 26)) := B.alloc B.size _
  go_wp2_with fail
  refine (c_BlockOf _ _ _ _ _ _).mono ?_
  rintro e w2 ⟨rfl, b⟩
  replace B := Bl.then B b; replace kb := kb.to b; clear b
  have j0 := kb.cell 0; have j1 := kb.cell 1; have j2 := kb.cell 2; have j3 := kb.cell 3; simp only [List.getElem?_toArray, List.getElem?_cons_zero, List.getElem?_cons_succ] at j0 j1 j2 j3
  cases ho : ownB ba bi fi si a
  · have hn := blk_no ho
    have hlt : decide (blkOf ba bi fi si a < 0) = true := by rw [hn]; rfl
    go_wp2_with fail
    refine (c_sBlockOf _ _ _ _ _ _).mono ?_
    rintro e w3 ⟨rfl, b⟩
    replace B := Bl.then B b; replace kb := kb.to b; clear b
    clear j0 j1 j2 j3
    have j0 := kb.cell 0; have j1 := kb.cell 1; have j2 := kb.cell 2; have j3 := kb.cell 3; simp only [List.getElem?_toArray, List.getElem?_cons_zero, List.getElem?_cons_succ] at j0 j1 j2 j3
    rw [hn]
    go_wp2_with fail
    refine (c_sBlockOf _ _ _ _ _ _).mono ?_
    rintro e w4 ⟨rfl, b⟩
    rw [hn]
    go_wp2
    go_ret
    exact ⟨rfl, Bl.then B b⟩
  have hb := own_bd ho
  have hn := blk_eq ho
  rw [hn]
  generalize hf : fi + (a - ba) * si = f
  rw [hf] at hn
  go_wp2_with fail
  refine (c_sBlockOf _ _ _ _ _ _).mono ?_
  rintro e w3 ⟨rfl, b⟩
  replace B := Bl.then B b; replace kb := kb.to b; clear b
  clear j0 j1 j2 j3
  have j0 := kb.cell 0; have j1 := kb.cell 1; have j2 := kb.cell 2; have j3 := kb.cell 3; simp only [List.getElem?_toArray, List.getElem?_cons_zero, List.getElem?_cons_succ] at j0 j1 j2 j3
  rw [hn]
  have hf0 : 1 ≤ f := by omega
  have hf1 : f + si - 1 ≤ 65535 := by omega
  have hf2 : fi ≤ f := by omega
  have hnl : decide (f < 0) = false := by rw [decide_eq_false_iff_not]; omega
  go_wp2
  go_loopw [6] (fun i wr => ∃ k : Nat, (k : Int) ≤ si ∧ i = .int .i64 k ∧ Hid (Blk wr w1.heap.size 26 #[.int .i64 ba, .int .i64 bi, .int .i64 fi, .int .i64 si]) ∧ Hid (Below w.heap.size w wr)) (fun i _ => si.toNat - (intOf i).toNat)
  case atStart => exact ⟨0, by omega, rfl, kb, B⟩
  case round =>
    obtain ⟨k, hk, rfl, hK, hB⟩ := hrel
    replace kb := hK.out
    replace B := hB.out
    clear j0 j1 j2 j3
    have j0 := kb.cell 0; have j1 := kb.cell 1; have j2 := kb.cell 2; have j3 := kb.cell 3; simp only [List.getElem?_toArray, List.getElem?_cons_zero, List.getElem?_cons_succ] at j0 j1 j2 j3
    have kf := kb.frozen 0
    by_cases hlt : (k : Int) < si
    · have e1 : wrap64 (f + k) = f + k := wrap64_id (by omega) (by omega)
      have e2 : IntKind.i64.wrap (f + k) = f + k := IntWalk.i64_in _ (by omega)
      go_wp2_with fail
      refine (c_OwnerOf _ _ _ _ _ _).mono ?_
      rintro e w4 ⟨rfl, b⟩
      rw [← hf, ownOf_block ho (by omega) hlt, hf]
      go_wp2
      go_roundw
      case rel => exact ⟨k + 1, by omega, by go_num, kb.to b, Bl.then B b⟩
      case measure => simp [intOf]; omega
    · have e1 : wrap64 (f + si) = f + si := wrap64_id (by omega) (by omega)
      have e2 : wrap64 (f + si - 1) = f + si - 1 := wrap64_id (by omega) (by omega)
      have t1 : decide (fi ≤ f) = true := by simpa using hf2
      have t2 : decide (f + si - 1 ≤ 65535) = true := by simpa using hf1
      go_wp2
      all_goals
        go_ret
        exact ⟨ret_bool (by simp; try omega), B⟩
end Go.Proofs.Ytaneiilbkkfnoaa
