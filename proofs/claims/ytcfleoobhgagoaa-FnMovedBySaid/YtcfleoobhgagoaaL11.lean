/- The walk of the law FnMovedBy. -/
import Derived.Test.YtcfleoobhgagoaaL9
namespace Go.Proofs.Ytcfleoobhgagoaa
open Go.RowKit

set_option maxHeartbeats 1600000 in
theorem l_FnMovedBy (A : Option Addr) (n c : Nat) (w : World) (h : RB w A n) (hc : n ≤ c) :
    Calls Try.prog 17 #[.slice A n c] w fun e w' => e = .returned (.bool true) ∧ Below w.heap.size w w' := by
  by_cases hbig : 1048576 < n
  · go_enter Try.func17, Try.ntmps17
    go_wp2
    go_ret
    exact ⟨rfl, Below.refl _ _⟩
  go_enter Try.func17, Try.ntmps17
  go_wp2_with fail
  refine (c_DrawMovedBy _ _ _ _ h hc).mono ?_
  rintro e w1 ⟨C, d, zs, C2, d2, ys, D, d', qs, rfl, hd, hl, hz, hd2, hl2, hy, hd', hl', hq, B⟩
  clear h
  have hres := mvV_bd zs ys qs
  go_wp2_with fail
  refine (n_iMovedBy _ _ _ _ _ _ _ _ _ zs ys qs _ hz hy hq rfl rfl rfl (by omega) (by omega) (by omega)).mono ?_
  rintro e w2 ⟨G, _, dg, rfl, rfl, OG, b⟩
  replace hz := hz.to b
  replace hy := hy.to b
  replace hq := hq.to b
  replace B := Bl.then B b
  clear b
  go_wp2_with fail
  refine (n_sMovedBy _ _ _ _ _ _ _ _ _ zs ys qs _ hz hy hq rfl rfl rfl (by omega) (by omega) (by omega)).mono ?_
  rintro e w3 ⟨W, _, dw, rfl, rfl, OW', b⟩
  replace OG := OG.to b
  replace hz := hz.to b
  replace hy := hy.to b
  replace hq := hq.to b
  replace B := Bl.then B b
  clear b
  go_wp2_with fail
  refine (n_equalInts _ _ _ _ _ _ _ _ _ OG.ri.1 OW'.ri.1 rfl rfl (by omega)).mono ?_
  rintro e w4 ⟨rfl, b⟩
  replace OG := OG.to b
  replace hz := hz.to b
  replace hy := hy.to b
  replace hq := hq.to b
  replace B := Bl.then B b
  clear b OW'
  rw [eqL_same]
  by_cases h0 : (mvV zs ys qs).length = 0
  · have hz0 : (((mvV zs ys qs).length : Int) == 0) = true := by rw [beq_iff_eq]; omega
    have H0 := Lib.hid h0
    clear h0
    go_wp2_with fail
    refine (n_sMovedBy _ _ _ _ _ _ _ _ _ zs ys qs _ hz hy hq rfl rfl rfl (by omega) (by omega) (by omega)).mono ?_
    rintro e w5 ⟨W, _, dw, rfl, rfl, OW', b⟩
    replace OG := OG.to b
    replace B := Bl.then B b
    clear b
    go_wp2_with fail
    refine (n_equalInts _ _ _ _ _ _ _ _ _ OG.ri.1 OW'.ri.1 rfl rfl (by omega)).mono ?_
    rintro e w6 ⟨rfl, b⟩
    replace B := Bl.then B b
    rw [eqL_same]
    go_wp2
    go_ret
    exact ⟨rfl, B⟩
  have hz0 : (((mvV zs ys qs).length : Int) == 0) = false := by rw [beq_eq_false_iff_ne]; omega
  obtain ⟨v1, v2, v3, hV⟩ := mvV_pos h0
  have hq12 := (ask_at v3).1
  rw [hV] at hres OG hz0 ⊢
  clear v1 v2 v3 hV h0
  have R0 := OG.ri.1
  clear OG
  go_wp2
  go_loopw [7, 8] (fun m i wr => ∃ k q : Nat, k ≤ qs.length ∧ i = .int .i64 k ∧ m = .int .i64 (((qs.take k).filter (mvB zs ys)).length : Nat) ∧ wr = w4.drewN q) (fun _ i _ => qs.length - (intOf i).toNat)
  case atStart => exact ⟨0, 0, Nat.zero_le _, rfl, rfl, rfl⟩
  case round =>
    obtain ⟨k, q, hk, rfl, rfl, rfl⟩ := hrel
    by_cases hlt : k < qs.length
    · obtain ⟨b3, o3, rfl, _, hc3⟩ := hq.get hlt
      have HT := Lib.hid (take_succ_nth hlt)
      have HF := Lib.hid (fun h => nth_filter (p := mvB zs ys) hlt h)
      have hfl : ((qs.take k).filter (mvB zs ys)).length ≤ k := Nat.le_trans (List.length_filter_le _ _) (by rw [List.length_take]; omega)
      generalize hx : nth qs k = x at hc3 HF
      have HX := Lib.hid hx
      clear hx
      cases hm : mvB zs ys x
      · have hm' : (pAddr zs x == pAddr ys x) = true := by unfold mvB at hm; simpa using hm
        go_wp2
        go_quiet (first
          | (go_at_call 25; exact quiet_eq2 (fun V hV => by subst hV; exact c_iPoolAddr _ _ _ _ _ (hz.drewN _) (by omega)))
          | (go_at_call 25; exact quiet_eq2 (fun V hV => by subst hV; exact c_iPoolAddr _ _ _ _ _ (hy.drewN _) (by omega))))
        go_wp2
        go_roundw
        case rel =>
          have ef : (qs.take (k + 1)).filter (mvB zs ys) = (qs.take k).filter (mvB zs ys) := by rw [HT.out, List.filter_append, HX.out]; simp [hm]
          exact ⟨k + 1, _, by omega, by go_num, by rw [ef], rfl⟩
        case measure => simp [intOf]; omega
      · have hm' : (pAddr zs x == pAddr ys x) = false := by unfold mvB at hm; simpa using hm
        obtain ⟨f1, f2⟩ := HF.out hm
        have ef : Hid ((qs.take (k + 1)).filter (mvB zs ys) = (qs.take k).filter (mvB zs ys) ++ [x]) := by rw [HT.out, List.filter_append, HX.out]; simp [Hid, hm]
        generalize hj : ((qs.take k).filter (mvB zs ys)).length = j at hfl f1 f2 ⊢
        have HJ := Lib.hid hj
        clear hj
        obtain ⟨b4, o4, rfl, _, hc4⟩ := R0.get (k := j) f2
        rw [show nth (mv zs ys qs) j = x from f1] at hc4
        have t1 : decide (((mv zs ys qs).length : Int) ≤ j) = false := by rw [decide_eq_false_iff_not]; have : j < (mv zs ys qs).length := f2; omega
        have t2 : (x != x) = false := by simp
        have f3 : j < (mv zs ys qs).length := f2
        clear f1 f2
        go_wp2
        go_quiet (first
          | (go_at_call 25; exact quiet_eq2 (fun V hV => by subst hV; exact c_iPoolAddr _ _ _ _ _ (hz.drewN _) (by omega)))
          | (go_at_call 25; exact quiet_eq2 (fun V hV => by subst hV; exact c_iPoolAddr _ _ _ _ _ (hy.drewN _) (by omega))))
        go_wp2
        go_quiet (fail)
        go_wp2
        go_roundw
        case rel => exact ⟨k + 1, _, by omega, by go_num, by rw [ef.out, List.length_append, HJ.out]; go_num, rfl⟩
        case measure => simp [intOf]; omega
    · have ef : qs.take k = qs := List.take_of_length_le (by omega)
      have HE : Hid (mvV zs zs qs = []) := mvV_same zs qs
      rw [ef]
      have t1 : ((((qs.filter (mvB zs ys)).length : Nat) : Int) == ((mv zs ys qs).length : Int)) = true := by unfold mv; simp
      clear ef
      go_wp2_with fail
      refine (n_iMovedBy _ _ _ _ _ _ _ _ _ zs zs qs _ (hz.drewN _) (hz.drewN _) (hq.drewN _) rfl rfl rfl (by omega) (by omega) (by omega)).mono ?_
      rw [HE.out]
      rintro e w5 ⟨W, _, dw, rfl, rfl, OW', b⟩
      go_wp2
      go_ret
      exact ⟨ret_bool (by simp), Bl.then (Bl.drewN B _) b⟩
end Go.Proofs.Ytcfleoobhgagoaa
