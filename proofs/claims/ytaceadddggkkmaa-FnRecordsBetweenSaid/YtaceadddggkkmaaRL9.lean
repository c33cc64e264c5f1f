/- The walks of the laws FnRecordsBetweenNone, FnRecordsBetweenBack and FnRecordsBetween. -/
import Derived.Test.YtaceadddggkkmaaT12
import Derived.Test.YtaceadddggkkmaaTQ
import Derived.Test.YtaceadddggkkmaaRL8
namespace Go.Proofs.Ytaceadddggkkmaa
open Go.RowKit

set_option maxHeartbeats 3200000 in
theorem l_FnRecordsBetweenNone (A : Option Addr) (n c : Nat) (w : World) (h : RB w A n) (hc : n ≤ c) :
    Calls Try.prog 11 #[.slice A n c] w fun e w' => e = .returned (.bool true) ∧ Below w.heap.size w w' := by
  by_cases hbig : 1048576 < n
  · go_enter Try.func11, Try.ntmps11
    go_wp2
    go_ret
    exact ⟨rfl, Below.refl _ _⟩
  go_enter Try.func11, Try.ntmps11
  go_wp2_with fail
  refine (c_DrawRecordsBetween _ _ _ _ h hc).mono ?_
  rintro e w1 ⟨D, m, d, a, E, m', d', b, now, rfl, ha, hd, hb, hd', hA, hB, hm, hm', tn0, tn1, B⟩
  have HNa := Lib.hid ha
  have HNb := Lib.hid hb
  clear ha hb h
  have hbl := between_len a b now
  go_wp2_with fail
  refine (c_iBetween _ _ _ _ _ _ a b now _ HNa.out HNb.out hd hd' hA hB (by omega) (by omega)).mono ?_
  rintro e w2 ⟨F, nf, df, rfl, hnf, hF, q⟩
  rw [hnf] at hbl
  have HNf := Lib.hid hnf
  clear hnf
  replace hA := hA.to q
  replace hB := hB.to q
  replace B := Bl.then B q
  clear q
  go_wp2_with fail
  refine (c_sBetween _ _ _ _ _ _ a b now _ HNa.out HNb.out hA hB (by omega) (by omega)).mono ?_
  rintro e w3 ⟨G, ng, dg, rfl, hng, hG, q⟩
  obtain rfl : nf = ng := HNf.out.symm.trans hng
  clear hng
  replace hA := hA.to q
  replace hB := hB.to q
  replace hF := hF.to q
  replace B := Bl.then B q
  clear q
  go_wp2_with fail
  refine (c_equalRecords _ _ _ _ _ (between a b now) _ HNf.out hF.1 hG.1 (by omega)).mono ?_
  rintro e w4 ⟨rfl, q⟩
  replace hA := hA.to q
  replace hB := hB.to q
  replace hF := hF.to q
  replace B := Bl.then B q
  clear q hG
  go_wp2_with fail
  refine (c_iValidTable _ _ _ a _ HNa.out hd hA (by omega)).mono ?_
  rintro e w5 ⟨rfl, q⟩
  replace hA := hA.to q
  replace hB := hB.to q
  replace hF := hF.to q
  replace B := Bl.then B q
  clear q
  cases h1 : vTab a
  · clear h1
    go_wp2_with fail
    refine (c_sBetween _ _ _ _ _ _ a b now _ HNa.out HNb.out hA hB (by omega) (by omega)).mono ?_
    rintro e w7 ⟨G2, ng2, dg2, rfl, hng, hG, q⟩
    obtain rfl : nf = ng2 := HNf.out.symm.trans hng
    replace hF := hF.to q
    replace B := Bl.then B q
    go_wp2_with fail
    refine (c_equalRecords _ _ _ _ _ (between a b now) _ HNf.out hF.1 hG.1 (by omega)).mono ?_
    rintro e w8 ⟨rfl, q⟩
    go_wp2
    go_ret
    exact ⟨rfl, Bl.then B q⟩
  have H1 := Lib.hid h1
  clear h1
  go_wp2_with fail
  refine (c_iValidTable _ _ _ b _ HNb.out hd' hB (by omega)).mono ?_
  rintro e w6 ⟨rfl, q⟩
  replace hA := hA.to q
  replace hB := hB.to q
  replace hF := hF.to q
  replace B := Bl.then B q
  clear q
  cases h2 : vTab b
  · clear h2
    go_wp2_with fail
    refine (c_sBetween _ _ _ _ _ _ a b now _ HNa.out HNb.out hA hB (by omega) (by omega)).mono ?_
    rintro e w7 ⟨G2, ng2, dg2, rfl, hng, hG, q⟩
    obtain rfl : nf = ng2 := HNf.out.symm.trans hng
    replace hF := hF.to q
    replace B := Bl.then B q
    go_wp2_with fail
    refine (c_equalRecords _ _ _ _ _ (between a b now) _ HNf.out hF.1 hG.1 (by omega)).mono ?_
    rintro e w8 ⟨rfl, q⟩
    go_wp2
    go_ret
    exact ⟨rfl, Bl.then B q⟩
  have H2 := Lib.hid h2
  clear h2
  by_cases hn0 : now < 0
  · have u0 : decide (now < 0) = true := by rw [decide_eq_true_eq]; exact hn0
    go_wp2_with fail
    refine (c_sBetween _ _ _ _ _ _ a b now _ HNa.out HNb.out hA hB (by omega) (by omega)).mono ?_
    rintro e w7 ⟨G2, ng2, dg2, rfl, hng, hG, q⟩
    obtain rfl : nf = ng2 := HNf.out.symm.trans hng
    replace hF := hF.to q
    replace B := Bl.then B q
    go_wp2_with fail
    refine (c_equalRecords _ _ _ _ _ (between a b now) _ HNf.out hF.1 hG.1 (by omega)).mono ?_
    rintro e w8 ⟨rfl, q⟩
    go_wp2
    go_ret
    exact ⟨rfl, Bl.then B q⟩
  have u0 : decide (now < 0) = false := by rw [decide_eq_false_iff_not]; exact hn0
  by_cases hn1 : 10000 < now
  · have u1 : decide (10000 < now) = true := by rw [decide_eq_true_eq]; exact hn1
    go_wp2_with fail
    refine (c_sBetween _ _ _ _ _ _ a b now _ HNa.out HNb.out hA hB (by omega) (by omega)).mono ?_
    rintro e w7 ⟨G2, ng2, dg2, rfl, hng, hG, q⟩
    obtain rfl : nf = ng2 := HNf.out.symm.trans hng
    replace hF := hF.to q
    replace B := Bl.then B q
    go_wp2_with fail
    refine (c_equalRecords _ _ _ _ _ (between a b now) _ HNf.out hF.1 hG.1 (by omega)).mono ?_
    rintro e w8 ⟨rfl, q⟩
    go_wp2
    go_ret
    exact ⟨rfl, Bl.then B q⟩
  have u1 : decide (10000 < now) = false := by rw [decide_eq_false_iff_not]; exact hn1
  have H3 := Lib.hid (inB_mk (n := now) (lo := 0) (hi := 10000) (by omega) (by omega))
  have L1 : Hid ((between a a now).length = 0) := by rw [btw_same]; rfl
  have L2 : Hid ((between [] b now).length = m') := by rw [btw_from H2.out H3.out, List.length_map]; exact HNb.out
  have L3 : Hid ((between b [] now).length = m') := by rw [btw_to H2.out H3.out, List.length_map]; exact HNb.out
  have L4 : nf ≤ m + m' := by rw [← HNf.out, ← HNa.out, ← HNb.out]; exact btw_le a b now
  go_wp2_with fail
  refine (c_iBetween _ _ _ _ _ _ a a now _ HNa.out HNa.out hd hd hA hA (by omega) (by omega)).mono ?_
  rintro e w7 ⟨G1, n1, c1, rfl, hn1', -, q⟩
  obtain rfl : n1 = 0 := hn1'.symm.trans L1.out
  clear hn1'
  replace hB := hB.to q
  replace B := Bl.then B q
  clear q
  go_wp2_with fail
  refine (c_iBetween none _ 0 _ 0 _ [] b now _ rfl HNb.out (Nat.le_refl _) hd' (TM.nil _ _) hB (by omega) (by omega)).mono ?_
  rintro e w8 ⟨G2, n2, c2, rfl, hn2', -, q⟩
  obtain rfl : n2 = m' := hn2'.symm.trans L2.out
  clear hn2'
  replace hB := hB.to q
  replace B := Bl.then B q
  clear q
  go_wp2_with fail
  refine (c_iBetween _ none _ 0 _ 0 b [] now _ HNb.out rfl hd' (Nat.le_refl _) hB (TM.nil _ _) (by omega) (by omega)).mono ?_
  rintro e w9 ⟨G3, n3, c3, rfl, hn3', -, q⟩
  obtain rfl : n3 = n2 := hn3'.symm.trans L3.out
  clear hn3'
  replace B := Bl.then B q
  clear q
  have u4 : decide ((nf : Int) ≤ (m : Int) + (n3 : Int)) = true := by rw [decide_eq_true_eq]; omega
  go_wp2
  go_ret
  exact ⟨rfl, B⟩

set_option maxRecDepth 4000 in
set_option maxHeartbeats 3200000 in
theorem l_FnRecordsBetween (A : Option Addr) (n c : Nat) (w : World) (h : RB w A n) (hc : n ≤ c) :
    Calls Try.prog 17 #[.slice A n c] w fun e w' => e = .returned (.bool true) ∧ Below w.heap.size w w' := by
  by_cases hbig : 1048576 < n
  · go_enter Try.func17, Try.ntmps17
    go_wp2
    go_ret
    exact ⟨rfl, Below.refl _ _⟩
  have hneq := neq_end
  have hgd := guard_end
  go_enter Try.func17, Try.ntmps17
  go_wp2_with fail
  refine (c_DrawRecordsBetween _ _ _ _ h hc).mono ?_
  rintro e w1 ⟨D, m, d, a, E, m', d', b, now, rfl, ha, hd, hb, hd', hA, hB, hm, hm', tn0, tn1, B⟩
  have HNa := Lib.hid ha
  have HNb := Lib.hid hb
  clear ha hb h
  have hbl := between_len a b now
  go_wp2_with fail
  refine (c_iBetween _ _ _ _ _ _ a b now _ HNa.out HNb.out hd hd' hA hB (by omega) (by omega)).mono ?_
  rintro e w2 ⟨F, nf, df, rfl, hnf, hF, q⟩
  rw [hnf] at hbl
  have HNf := Lib.hid hnf
  clear hnf
  replace hA := hA.to q
  replace hB := hB.to q
  replace B := Bl.then B q
  clear q
  go_wp2_with fail
  refine (c_sBetween _ _ _ _ _ _ a b now _ HNa.out HNb.out hA hB (by omega) (by omega)).mono ?_
  rintro e w3 ⟨G, ng, dg, rfl, hng, hG, q⟩
  obtain rfl : nf = ng := HNf.out.symm.trans hng
  clear hng
  replace hA := hA.to q
  replace hB := hB.to q
  replace hF := hF.to q
  replace B := Bl.then B q
  clear q
  go_wp2_with fail
  refine (c_equalRecords _ _ _ _ _ (between a b now) _ HNf.out hF.1 hG.1 (by omega)).mono ?_
  rintro e w4 ⟨rfl, q⟩
  replace hA := hA.to q
  replace hB := hB.to q
  replace hF := hF.to q
  replace B := Bl.then B q
  clear q hG
  go_wp2_with fail
  refine (c_iValidTable _ _ _ a _ HNa.out hd hA (by omega)).mono ?_
  rintro e w5 ⟨rfl, q⟩
  replace hA := hA.to q
  replace hB := hB.to q
  replace hF := hF.to q
  replace B := Bl.then B q
  clear q
  cases h1 : vTab a
  · clear h1
    go_wp2_with fail
    refine (c_sBetween _ _ _ _ _ _ a b now _ HNa.out HNb.out hA hB (by omega) (by omega)).mono ?_
    rintro e w7 ⟨G2, ng2, dg2, rfl, hng, hG, q⟩
    obtain rfl : nf = ng2 := HNf.out.symm.trans hng
    replace hF := hF.to q
    replace B := Bl.then B q
    go_wp2_with fail
    refine (c_equalRecords _ _ _ _ _ (between a b now) _ HNf.out hF.1 hG.1 (by omega)).mono ?_
    rintro e w8 ⟨rfl, q⟩
    go_wp2
    go_ret
    exact ⟨rfl, Bl.then B q⟩
  have H1 := Lib.hid h1
  clear h1
  go_wp2_with fail
  refine (c_iValidTable _ _ _ b _ HNb.out hd' hB (by omega)).mono ?_
  rintro e w6 ⟨rfl, q⟩
  replace hA := hA.to q
  replace hB := hB.to q
  replace hF := hF.to q
  replace B := Bl.then B q
  clear q
  cases h2 : vTab b
  · clear h2
    go_wp2_with fail
    refine (c_sBetween _ _ _ _ _ _ a b now _ HNa.out HNb.out hA hB (by omega) (by omega)).mono ?_
    rintro e w7 ⟨G2, ng2, dg2, rfl, hng, hG, q⟩
    obtain rfl : nf = ng2 := HNf.out.symm.trans hng
    replace hF := hF.to q
    replace B := Bl.then B q
    go_wp2_with fail
    refine (c_equalRecords _ _ _ _ _ (between a b now) _ HNf.out hF.1 hG.1 (by omega)).mono ?_
    rintro e w8 ⟨rfl, q⟩
    go_wp2
    go_ret
    exact ⟨rfl, Bl.then B q⟩
  have H2 := Lib.hid h2
  clear h2
  by_cases hn0 : now < 0
  · have u0 : decide (now < 0) = true := by rw [decide_eq_true_eq]; exact hn0
    go_wp2_with fail
    refine (c_sBetween _ _ _ _ _ _ a b now _ HNa.out HNb.out hA hB (by omega) (by omega)).mono ?_
    rintro e w7 ⟨G2, ng2, dg2, rfl, hng, hG, q⟩
    obtain rfl : nf = ng2 := HNf.out.symm.trans hng
    replace hF := hF.to q
    replace B := Bl.then B q
    go_wp2_with fail
    refine (c_equalRecords _ _ _ _ _ (between a b now) _ HNf.out hF.1 hG.1 (by omega)).mono ?_
    rintro e w8 ⟨rfl, q⟩
    go_wp2
    go_ret
    exact ⟨rfl, Bl.then B q⟩
  have u0 : decide (now < 0) = false := by rw [decide_eq_false_iff_not]; exact hn0
  by_cases hn1 : 10000 < now
  · have u1 : decide (10000 < now) = true := by rw [decide_eq_true_eq]; exact hn1
    go_wp2_with fail
    refine (c_sBetween _ _ _ _ _ _ a b now _ HNa.out HNb.out hA hB (by omega) (by omega)).mono ?_
    rintro e w7 ⟨G2, ng2, dg2, rfl, hng, hG, q⟩
    obtain rfl : nf = ng2 := HNf.out.symm.trans hng
    replace hF := hF.to q
    replace B := Bl.then B q
    go_wp2_with fail
    refine (c_equalRecords _ _ _ _ _ (between a b now) _ HNf.out hF.1 hG.1 (by omega)).mono ?_
    rintro e w8 ⟨rfl, q⟩
    go_wp2
    go_ret
    exact ⟨rfl, Bl.then B q⟩
  have u1 : decide (10000 < now) = false := by rw [decide_eq_false_iff_not]; exact hn1
  have H3 := Lib.hid (inB_mk (n := now) (lo := 0) (hi := 10000) (by omega) (by omega))
  have HA : Hid (∀ W, Below w6.heap.size w6 W → TM W D a) := fun W q => hA.to q
  have HB : Hid (∀ W, Below w6.heap.size w6 W → TM W E b) := fun W q => hB.to q
  generalize hnle2 : recCs (between a b now) = nl2
  have hnl2 : nl2.length = nf * 5 := by rw [← hnle2, recCs_len, HNf.out]
  have hnc2 : ∀ u ∈ nl2, u.oneCell' = true := by rw [← hnle2]; exact recCs_one _
  have HF : Hid (∀ W, Below w6.heap.size w6 W → Rd W F nl2) := fun W q => by rw [← hnle2]; exact hF.1.to q
  have HNL2 := Lib.hid hnle2
  clear hnle2 hA hB hF
  have ho : RO (w6.alloc (.cells #[] 29)) w6.heap.size (.slice (some ⟨w6.heap.size, 0, none⟩) 0 0) [] := RO.empty (Nat.le_refl _) rfl
  have C7 : Below w6.heap.size w6 (w6.alloc (.cells #[] 29)) := (Below.refl _ _).alloc (Nat.le_refl _) _
  go_wp2_with fail
  refine (c_iBetween none _ 0 _ 0 _ [] a now _ rfl HNa.out (Nat.le_refl _) hd (TM.nil _ _) (HA.out _ C7) (by omega) (by omega)).mono ?_
  rintro e w7 ⟨P, np, cp, rfl, hnp, hP, q⟩
  replace C7 := Bl.then C7 q
  replace ho : w7.ownsRow w6.heap.size 29 5 (.slice (some ⟨w6.heap.size, 0, none⟩) 0 0) 0 [] := ho.to q
  have hbl2 := between_len [] a now
  rw [hnp] at hbl2
  have hP1 := hP.1
  have HNp := Lib.hid hnp
  unfold RR at hP1
  generalize hnle1 : recCs (between [] a now) = nl1 at hP1
  have hnl1 : nl1.length = np * 5 := by rw [← hnle1, recCs_len, HNp.out]
  have hnc1 : ∀ u ∈ nl1, u.oneCell' = true := by rw [← hnle1]; exact recCs_one _
  have HNL1 := Lib.hid hnle1
  clear hnle1 q hP hnp
  have HW := Lib.hid (show (way a b now).length = 0 + np + nf by unfold way; rw [List.length_append, HNp.out, HNf.out]; omega)
  by_cases hbg : 16 < 0 + np + nf
  · have u5 : decide ((16 : Int) < ((0 + np + nf : Nat) : Int)) = true := by rw [decide_eq_true_eq]; omega
    have HBG := Lib.hid hbg
    clear hbg
    go_wp2_with (at_builtin; go_must (first | (refine wpList_append_rd _ rfl _ _ 23 rfl w6.heap.size 29 i0 _ 5 40 Try.underlying23 hi hz0 hz1 hz2 rfl (by omega) _ (0 + np) ([] ++ nl1) rfl ho8 F nf df nl2 rfl hF8 hnl2 hnc2 (by unfold maxLen; omega) (by omega) (by have := C8.size; omega) ?_; intro v9 w9 ho9 hg9 hat9; obtain ⟨L, cL, rfl, hcL, -, -⟩ := own_slice ho9; clear hi hz0 hz1 hz2 hat9; generalize hN : 0 + np + nf = N at *) | (obtain ⟨i0, hi, hz0, hz1, hz2⟩ := info_parts rec_info; refine wpList_append_rd _ rfl _ _ 23 rfl w6.heap.size 29 i0 _ 5 40 Try.underlying23 hi hz0 hz1 hz2 rfl (by omega) _ 0 [] rfl ho P np cp nl1 rfl hP1 hnl1 hnc1 (by unfold maxLen; omega) (by omega) (by have := C7.size; omega) ?_; intro v8 w8 ho8 hg8 hat8; have C8 := C7.grown hg8 C7.size (fun j hj => (World.ownsRow.lt ho j hj).1); have hF8 := HF.out _ C8; clear hat8)))
    go_ret
    exact ⟨rfl, B.trans ((C8.grown hg9 C8.size (fun j hj => (World.ownsRow.lt ho8 j hj).1)).mono B.size)⟩
  have u5 : decide ((16 : Int) < ((0 + np + nf : Nat) : Int)) = false := by rw [decide_eq_false_iff_not]; omega
  have HBG := Lib.hid (show (way a b now).length ≤ 16 by rw [HW.out]; omega)
  clear hbg
  go_wp2_with (at_builtin; go_must (first | (refine wpList_append_rd _ rfl _ _ 23 rfl w6.heap.size 29 i0 _ 5 40 Try.underlying23 hi hz0 hz1 hz2 rfl (by omega) _ (0 + np) ([] ++ nl1) rfl ho8 F nf df nl2 rfl hF8 hnl2 hnc2 (by unfold maxLen; omega) (by omega) (by have := C8.size; omega) ?_; intro v9 w9 ho9 hg9 hat9; obtain ⟨L, cL, rfl, hcL, -, -⟩ := own_slice ho9; clear hi hz0 hz1 hz2 hat9; generalize hN : 0 + np + nf = N at *) | (obtain ⟨i0, hi, hz0, hz1, hz2⟩ := info_parts rec_info; refine wpList_append_rd _ rfl _ _ 23 rfl w6.heap.size 29 i0 _ 5 40 Try.underlying23 hi hz0 hz1 hz2 rfl (by omega) _ 0 [] rfl ho P np cp nl1 rfl hP1 hnl1 hnc1 (by unfold maxLen; omega) (by omega) (by have := C7.size; omega) ?_; intro v8 w8 ho8 hg8 hat8; have C8 := C7.grown hg8 C7.size (fun j hj => (World.ownsRow.lt ho j hj).1); have hF8 := HF.out _ C8; clear hat8)))
  have C9 := C8.grown hg9 C8.size (fun j hj => (World.ownsRow.lt ho8 j hj).1)
  have hlog : RR w9 L (way a b now) := by
    have := Rd.of_ownS ho9
    unfold RR way
    rw [recCs_app, HNL1.out, HNL2.out]
    exact this
  have HG : Hid (∀ W, Below w9.heap.size w9 W → RR W L (way a b now)) := fun W q => hlog.to q
  have hcm : N ≤ 1099511627776 := by omega
  clear ho9 hg9 ho8 hg8 hF8 ho hP1 hlog u5 C8 C7 hnl1 hnl2 hnc1 hnc2
  go_loopw [8] (fun i wr => ∃ k : Nat, k ≤ m' ∧ i = .int .i64 k ∧ Hid (Below w9.heap.size w9 wr)) (fun i _ => m' - (intOf i).toNat)
  case atStart => exact ⟨0, Nat.zero_le _, rfl, Below.refl _ _⟩
  case round =>
    obtain ⟨k, hk, rfl, HC⟩ := hrel
    by_cases hlt : k < m'
    · have hkl : Hid (k < b.length) := Lib.hid (by rw [HNb.out]; exact hlt)
      have hC := C9.trans (HC.out.mono C9.size)
      obtain ⟨b0, off, rfl, hb0, c0, c1, c2, -⟩ := (HB.out _ hC).get hkl.out
      have hok := (tab_at H2.out hkl.out).1
      have hpo := (okM_iff.1 hok).2.1
      have HWH := Lib.hid (way_who H1.out H2.out H3.out HBG.out hkl.out)
      have t1 : eqE (mn b k).ad (mn b k).ep (mn b k).ad (mn b k).ep = true := eqE_true ⟨rfl, rfl⟩
      have i1 : (0 : Int) ≤ k ∧ (k : Int) < m' := by omega
      clear hok
      go_wp2_with fail
      refine (c_iWhoHad _ _ _ (way a b now) (mn b k).po now _ HW.out (HG.out _ HC.out) (by omega) (by omega) (by omega)).mono ?_
      rw [HWH.out]
      rintro e w10 ⟨rfl, q⟩
      have hC2 := Bl.then HC.out q
      have hC3 := hC2.alloc hC2.size (.cells #[.int .i64 (mn b k).ad, .int .i64 (mn b k).ep] 27)
      have hC4 := C9.trans (hC3.mono C9.size)
      obtain ⟨b1, off1, e1, hb1, d0, d1, -, -⟩ := (HB.out _ hC4).get hkl.out
      cases e1
      clear c0 c1 c2 hC hC4 hC2 q
      simp only [whoV]
      go_wp2
      go_quiet (fail)
      go_wp2
      go_roundw
      case rel => exact ⟨k + 1, by omega, by go_num, Bl.drewN hC3 _⟩
      case measure => simp [intOf]; omega
    · obtain rfl : k = m' := by omega
      have HV := Lib.hid (way_valid H1.out H2.out H3.out HBG.out)
      have HP := Lib.hid (way_ports H1.out H2.out H3.out HBG.out)
      go_wp2_with fail
      refine (c_iValidRecords _ _ _ (way a b now) _ HW.out (HG.out _ HC.out) (by omega)).mono ?_
      rw [HV.out]
      rintro e w10 ⟨rfl, q⟩
      have hC2 := Bl.then HC.out q
      clear q
      go_wp2_with fail
      refine (c_iPortsAt _ _ _ (way a b now) now _ HW.out (HG.out _ hC2) (by omega)).mono ?_
      rintro e w11 ⟨Q, nq, dq, rfl, hnq, -, q⟩
      rw [HP.out, HNb.out] at hnq
      subst hnq
      go_wp2
      go_ret
      exact ⟨ret_bool (by simp), B.trans ((C9.trans ((Bl.then hC2 q).mono C9.size)).mono B.size)⟩

theorem anyUp_succ (P : Nat → Bool) (k : Nat) : anyUp P (k + 1) = (anyUp P k || P k) := by
  unfold anyUp
  rw [List.range_succ, List.any_append]
  simp
def flipR (now : Int) (r : Rec) : Rec := ⟨now, r.po, r.ad, r.ep, !r.ov⟩

set_option maxHeartbeats 3200000 in
theorem l_FnRecordsBetweenBack (A : Option Addr) (n c : Nat) (w : World) (h : RB w A n) (hc : n ≤ c) :
    Calls Try.prog 10 #[.slice A n c] w fun e w' => e = .returned (.bool true) ∧ Below w.heap.size w w' := by
  by_cases hbig : 1048576 < n
  · go_enter Try.func10, Try.ntmps10
    go_wp2
    go_ret
    exact ⟨rfl, Below.refl _ _⟩
  have hgd := guard_rec
  go_enter Try.func10, Try.ntmps10
  go_wp2_with fail
  refine (c_DrawRecordsBetween _ _ _ _ h hc).mono ?_
  rintro e w1 ⟨D, m, d, a, E, m', d', b, now, rfl, ha, hd, hb, hd', hA, hB, hm, hm', tn0, tn1, B⟩
  have HNa := Lib.hid ha
  have HNb := Lib.hid hb
  clear ha hb h
  have hbl := between_len a b now
  go_wp2_with fail
  refine (c_iBetween _ _ _ _ _ _ a b now _ HNa.out HNb.out hd hd' hA hB (by omega) (by omega)).mono ?_
  rintro e w2 ⟨F, nf, df, rfl, hnf, hF, q⟩
  rw [hnf] at hbl
  have HNf := Lib.hid hnf
  clear hnf
  replace hA := hA.to q
  replace hB := hB.to q
  replace B := Bl.then B q
  clear q
  go_wp2_with fail
  refine (c_sBetween _ _ _ _ _ _ a b now _ HNa.out HNb.out hA hB (by omega) (by omega)).mono ?_
  rintro e w3 ⟨G, ng, dg, rfl, hng, hG, q⟩
  obtain rfl : nf = ng := HNf.out.symm.trans hng
  clear hng
  replace hA := hA.to q
  replace hB := hB.to q
  replace hF := hF.to q
  replace B := Bl.then B q
  clear q
  go_wp2_with fail
  refine (c_equalRecords _ _ _ _ _ (between a b now) _ HNf.out hF.1 hG.1 (by omega)).mono ?_
  rintro e w4 ⟨rfl, q⟩
  replace hA := hA.to q
  replace hB := hB.to q
  replace hF := hF.to q
  replace B := Bl.then B q
  clear q hG
  go_wp2_with fail
  refine (c_iBetween _ _ _ _ _ _ b a now _ HNb.out HNa.out hd' hd hB hA (by omega) (by omega)).mono ?_
  rintro e w5 ⟨G2, ng, dg2, rfl, hng, hG, q⟩
  obtain rfl : nf = ng := by rw [← hng, btw_back_len, HNf.out]
  have HNg := Lib.hid hng
  replace B := Bl.then B q
  replace hF := hF.to q
  have hF1 := hF.1
  have hG1 := hG.1
  have HM : Hid (∀ i, i < nf → anyUp (fun j => eqRb (rn (between b a now) j) (flipR now (rn (between a b now) i))) nf = true) := fun i hi => by
    obtain ⟨_, hm⟩ := btw_back (rn_mem (l := between a b now) (k := i) (by rw [HNf.out]; exact hi))
    obtain ⟨j, hj, e⟩ := List.getElem_of_mem hm
    refine anyUp_true (k := j) (by rw [← HNg.out]; exact hj) (eqRb_iff.2 ?_)
    rw [show rn (between b a now) j = (between b a now)[j] by simp [rn, hj], e]; rfl
  clear hng q hA hB hF hG
  generalize between b a now = bk at *
  generalize between a b now = ot at *
  go_wp2
  go_loopw [8] (fun i wr => ∃ i' q : Nat, i' ≤ nf ∧ i = .int .i64 i' ∧ wr = w5.drewN q) (fun i _ => nf - (intOf i).toNat)
  case atStart => exact ⟨0, 0, Nat.zero_le _, rfl, rfl⟩
  case round =>
    obtain ⟨i, q, hi, rfl, rfl⟩ := hrel
    by_cases hlt : i < nf
    · have hil : Hid (i < ot.length) := Lib.hid (by rw [HNf.out]; exact hlt)
      obtain ⟨b0, off, rfl, hb0, c0, c1, c2, c3, c4⟩ := hF1.get hil.out
      have i1 : (0 : Int) ≤ i ∧ (i : Int) < nf := by omega
      go_wp2
      go_loopw [9, 10] (fun s k wr => ∃ k' q : Nat, ∃ s' : Bool, k' ≤ nf ∧ k = .int .i64 k' ∧ s = .bool s' ∧ Hid (anyUp (fun j => eqRb (rn bk j) (flipR now (rn ot i))) k' = s') ∧ wr = w5.drewN q) (fun _ k _ => nf - (intOf k).toNat)
      case atStart => exact ⟨0, _, false, Nat.zero_le _, rfl, rfl, rfl, rfl⟩
      case round =>
        obtain ⟨k, q, s, hk, rfl, rfl, hS, rfl⟩ := hrel
        by_cases hlk : k < nf
        · have hkl : Hid (k < bk.length) := Lib.hid (by rw [HNg.out]; exact hlk)
          obtain ⟨b1, off1, rfl, hb1, d0, d1, d2, d3, d4⟩ := hG1.get hkl.out
          have i2 : (0 : Int) ≤ k ∧ (k : Int) < nf := by omega
          cases s
          · have heq : ∀ W : World, (binOp .eql 29 (.agg #[.int .i64 (rn bk k).at_, .int .i64 (rn bk k).po, .int .i64 (rn bk k).ad, .int .i64 (rn bk k).ep, .bool (rn bk k).ov]) (.agg #[.int .i64 now, .int .i64 (rn ot i).po, .int .i64 (rn ot i).ad, .int .i64 (rn ot i).ep, .bool (!(rn ot i).ov)])).run Try.prog W = .ok (.bool (eqRb (rn bk k) (flipR now (rn ot i)))) W := fun W => eql_rec W (rn bk k) (flipR now (rn ot i))
            have HT : Hid (anyUp (fun j => eqRb (rn bk j) (flipR now (rn ot i))) (k + 1) = eqRb (rn bk k) (flipR now (rn ot i))) := by rw [Hid, anyUp_succ, hS.out]; simp
            generalize eqRb (rn bk k) (flipR now (rn ot i)) = tt at heq HT
            go_wp2
            go_quiet (fail)
            go_wp2
            go_roundw
            case rel => exact ⟨k + 1, _, tt, by omega, by go_num, rfl, HT, rfl⟩
            case measure => simp [intOf]; omega
          · have HT : Hid (anyUp (fun j => eqRb (rn bk j) (flipR now (rn ot i))) (k + 1) = true) := by rw [Hid, anyUp_succ, hS.out]; simp
            go_wp2
            go_quiet (fail)
            go_wp2
            go_roundw
            case rel => exact ⟨k + 1, _, true, by omega, by go_num, rfl, HT, rfl⟩
            case measure => simp [intOf]; omega
        · obtain rfl : k = nf := by omega
          obtain rfl : s = true := hS.out.symm.trans (HM.out i hlt)
          go_wp2
          go_roundw
          case rel => exact ⟨i + 1, _, by omega, by go_num, rfl⟩
          case measure => simp [intOf]; omega
    · obtain rfl : i = nf := by omega
      go_wp2
      go_ret
      exact ⟨ret_bool (by simp), Bl.drewN B _⟩
end Go.Proofs.Ytaceadddggkkmaa
