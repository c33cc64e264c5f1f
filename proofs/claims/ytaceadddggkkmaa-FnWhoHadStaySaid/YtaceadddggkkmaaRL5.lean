/- The walk of the law FnWhoHadStay. -/
import Derived.Test.YtaceadddggkkmaaRL3
namespace Go.Proofs.Ytaceadddggkkmaa
open Go.RowKit

set_option maxHeartbeats 1600000 in
theorem l_FnWhoHadStay (A : Option Addr) (n c : Nat) (w : World) (h : RB w A n) (hc : n ≤ c) :
    Calls Try.prog 8 #[.slice A n c] w fun e w' => e = .returned (.bool true) ∧ Below w.heap.size w w' := by
  by_cases hbig : 1048576 < n
  · go_enter Try.func8, Try.ntmps8
    go_wp2
    go_ret
    exact ⟨rfl, Below.refl _ _⟩
  have hneq := neq_end
  have heql := eql_end
  have hgd := guard_end
  go_enter Try.func8, Try.ntmps8
  go_wp2_with fail
  refine (c_DrawWhoHad _ _ _ _ h hc).mono ?_
  rintro e w1 ⟨D, m, d, l, po, now, rfl, hl, hd, hR, hm, hp, ht, B⟩
  have HL := Lib.hid hl
  clear hl h
  obtain ⟨x, y, t, HX⟩ := whoV_ex (who l po now)
  go_wp2_with fail
  refine (c_iWhoHad _ _ _ l po now _ HL.out hR (by omega) (by omega) (by omega)).mono ?_
  rw [HX.out]
  rintro e w2 ⟨rfl, b⟩
  have k1 := Blk.new w2 27 #[.int .i64 x, .int .i64 y]
  replace hR := (hR.to b).alloc (.cells #[.int .i64 x, .int .i64 y] 27)
  replace B : Below w.heap.size w (w2.alloc (.cells #[.int .i64 x, .int .i64 y] 27)) := (Bl.then B b).alloc (Bl.then B b).size _
  clear b
  go_wp2_with fail
  refine (c_sWhoHad _ _ _ l po now _ HL.out hR (by omega)).mono ?_
  rw [HX.out]
  rintro e w3 ⟨rfl, b⟩
  have k2 := Blk.new w3 27 #[.int .i64 x, .int .i64 y]
  replace k1 := (k1.to b).alloc (.cells #[.int .i64 x, .int .i64 y] 27)
  replace hR := (hR.to b).alloc (.cells #[.int .i64 x, .int .i64 y] 27)
  replace B : Below w.heap.size w (w3.alloc (.cells #[.int .i64 x, .int .i64 y] 27)) := (Bl.then B b).alloc (Bl.then B b).size _
  clear b
  have he : eqE x y x y = true := eqE_true ⟨rfl, rfl⟩
  have tt : (t != t) = false := by simp
  have y0 := k1.cell 0
  have y1 := k1.cell 1
  have z0 := k2.cell 0
  have z1 := k2.cell 1
  simp only [List.getElem?_toArray, List.getElem?_cons_zero, List.getElem?_cons_succ] at y0 y1 z0 z1
  go_wp2_with fail
  refine (c_iValidRecords _ _ _ l _ HL.out hR (by omega)).mono ?_
  rintro e w4 ⟨rfl, b⟩
  replace k1 := k1.to b
  replace k2 := k2.to b
  replace hR := hR.to b
  replace B := Bl.then B b
  clear b y0 y1 z0 z1
  have y0 := k1.cell 0
  have y1 := k1.cell 1
  have z0 := k2.cell 0
  have z1 := k2.cell 1
  simp only [List.getElem?_toArray, List.getElem?_cons_zero, List.getElem?_cons_succ] at y0 y1 z0 z1
  cases hv : vRec l
  · clear hv
    go_wp2
    go_ret
    exact ⟨ret_bool (by simp), B⟩
  have HV := Lib.hid hv
  clear hv
  clear tt y0 y1 z0 z1 k2
  go_wp2
  go_loopw [10] (fun i wr => ∃ k : Nat, k ≤ m ∧ i = .int .i64 k ∧ Hid (∀ j, j < k → ¬ ((rn l j).po = po ∧ (rn l j).at_ = now)) ∧ wr = w4) (fun i _ => m - (intOf i).toNat)
  case atStart => exact ⟨0, Nat.zero_le _, rfl, fun j hj => absurd hj (by omega), rfl⟩
  case round =>
    obtain ⟨k, hk, rfl, HK, rfl⟩ := hrel
    by_cases hlt : k < m
    · obtain ⟨b0, off, rfl, hb0, c0, c1, -, -, -⟩ := hR.get (k := k) (by rw [HL.out]; exact hlt)
      have HT : Hid (k < l.length) := Lib.hid (by rw [HL.out]; exact hlt)
      by_cases hpo : (rn l k).po = po
      · by_cases hat : (rn l k).at_ = now
        · go_wp2
          go_ret
          exact ⟨rfl, B⟩
        · have t1 : ((rn l k).at_ == now) = false := by rw [beq_eq_false_iff_ne]; exact hat
          go_wp2
          go_roundw
          case rel =>
            refine ⟨k + 1, by omega, by go_num, fun j hj => ?_, by first | rfl | trivial⟩
            by_cases hjk : j = k
            · subst hjk; exact fun h => hat h.2
            · exact HK.out j (by omega)
          case measure => simp [intOf]; omega
      · have t1 : ((rn l k).po == po) = false := by rw [beq_eq_false_iff_ne]; exact hpo
        go_wp2
        go_roundw
        case rel =>
          refine ⟨k + 1, by omega, by go_num, fun j hj => ?_, by first | rfl | trivial⟩
          by_cases hjk : j = k
          · subst hjk; exact fun h => hpo h.1
          · exact HK.out j (by omega)
        case measure => simp [intOf]; omega
    · obtain rfl : k = m := by omega
      have hw := who_stay HV.out (port := po) (now := now) (fun j hj => HK.out j (by rw [← HL.out]; exact hj))
      have e1 : IntKind.i64.wrap (now - 1) = now - 1 := IntWalk.i64_in _ (by omega)
      go_wp2_with fail
      refine (c_iWhoHad _ _ _ l po (now - 1) _ HL.out hR (by omega) (by omega) (by omega)).mono ?_
      rw [hw, HX.out]
      rintro e w5 ⟨rfl, b⟩
      have k2 := Blk.new w5 27 #[.int .i64 x, .int .i64 y]
      replace k1 := (k1.to b).alloc (.cells #[.int .i64 x, .int .i64 y] 27)
      replace B : Below w.heap.size w (w5.alloc (.cells #[.int .i64 x, .int .i64 y] 27)) := (Bl.then B b).alloc (Bl.then B b).size _
      have y0 := k1.cell 0
      have y1 := k1.cell 1
      have z0 := k2.cell 0
      have z1 := k2.cell 1
      simp only [List.getElem?_toArray, List.getElem?_cons_zero, List.getElem?_cons_succ] at y0 y1 z0 z1
      clear b hw
      go_wp2
      go_ret
      exact ⟨ret_bool (by simp), B⟩
end Go.Proofs.Ytaceadddggkkmaa
