/- Contract: which tables are valid, to the reference. -/
import Derived.Test.YthlaldikdlljfaaDoorT2
namespace Go.Proofs.YthlaldikdlljfaaDoor
open Go.RowKit

set_option maxHeartbeats 3200000 in
theorem c_sValidTable (A : Option Addr) (n c : Nat) (l : List Mpg) (w : World) (hn : l.length = n) (h : TM w A l) (hl : n ≤ 1099511627776) :
    Calls Tryd.prog 53 #[.slice A n c] w fun e w' => e = .returned (.bool (vTab l)) ∧ Below w.heap.size w w' := by
  have HN := Lib.hid hn
  clear hn
  have heql := eql_end
  have hgd := guard_end
  go_enter Tryd.func53, Tryd.ntmps53
  go_wp2
  go_loopw [3] (fun i wr => ∃ k : Nat, k ≤ n ∧ i = .int .i64 k ∧ Hid (∀ j, j < k → tabI l j = true) ∧ Hid (Below w.heap.size w wr)) (fun i _ => n - (intOf i).toNat)
  case atStart => exact ⟨0, Nat.zero_le _, rfl, fun j hj => absurd hj (by omega), Below.refl _ _⟩
  case round =>
    obtain ⟨k, hk, rfl, hS, HB⟩ := hrel
    by_cases hlt : k < n
    · have hR0 := h.to HB.out
      obtain ⟨b, off, rfl, hb, c0, c1, c2, c3⟩ := hR0.get (k := k) (by rw [HN.out]; omega)
      have hkl : Hid (k < l.length) := by rw [HN.out]; exact hlt
      have HST : Hid (tabI l k = (((inB (mn l k).ad 0 65535 && inB (mn l k).ep 0 65535) && (inB (mn l k).po 1000 1007 && inB (mn l k).la 0 10000)) && (decide (byE l (mn l k).ad (mn l k).ep k < 0) && decide (byP l (mn l k).po k < 0)))) := rfl
      have kb := Blk.new wr 48 #[.int .i64 (mn l k).ad, .int .i64 (mn l k).ep, .int .i64 (mn l k).po, .int .i64 (mn l k).la]
      have y0 := kb.cell 0
      have y1 := kb.cell 1
      have y2 := kb.cell 2
      have y3 := kb.cell 3
      simp only [List.getElem?_toArray, List.getElem?_cons_zero, List.getElem?_cons_succ] at y0 y1 y2 y3
      have HBB := HB.out.alloc HB.out.size (.cells #[.int .i64 (mn l k).ad, .int .i64 (mn l k).ep, .int .i64 (mn l k).po, .int .i64 (mn l k).la] 48)
      have hR1 := hR0.alloc (.cells #[.int .i64 (mn l k).ad, .int .i64 (mn l k).ep, .int .i64 (mn l k).po, .int .i64 (mn l k).la] 48)
      cases h1 : inB (mn l k).ad 0 65535 && inB (mn l k).ep 0 65535
      · go_wp2_with fail
        refine (c_validEnd _ _ _).mono ?_
        rw [h1]
        rintro e w1 ⟨rfl, hq⟩
        go_wp2
        go_ret
        exact ⟨ret_bool (by rw [vTab_bad hkl.out (by rw [HST.out, h1]; rfl)]), Bl.then HBB hq⟩
      cases h2 : inB (mn l k).po 1000 1007
      · go_wp2_with fail
        refine (c_validEnd _ _ _).mono ?_
        rw [h1]
        rintro e w1 ⟨rfl, hq⟩
        have k1 := kb.to hq
        clear y0 y1 y2 y3 c0 c1 c2 c3
        have y2 := k1.cell 2
        simp only [List.getElem?_toArray, List.getElem?_cons_zero, List.getElem?_cons_succ] at y2
        go_wp2_with fail
        refine (c_inRange _ _ _ _).mono ?_
        rw [h2]
        rintro e w' ⟨rfl, rfl⟩
        go_wp2
        go_ret
        exact ⟨ret_bool (by rw [vTab_bad hkl.out (by rw [HST.out, h1, h2]; rfl)]), Bl.then HBB hq⟩
      go_wp2_with fail
      refine (c_validEnd _ _ _).mono ?_
      rw [h1]
      rintro e w1 ⟨rfl, hq⟩
      have k1 := kb.to hq
      clear y0 y1 y2 y3 c0 c1 c2 c3
      have y0 := k1.cell 0
      have y1 := k1.cell 1
      have y2 := k1.cell 2
      have y3 := k1.cell 3
      simp only [List.getElem?_toArray, List.getElem?_cons_zero, List.getElem?_cons_succ] at y0 y1 y2 y3
      have hR := hR1.to hq
      have HB1 := Lib.hid (Bl.then HBB hq)
      clear hR0 hR1 HBB hq kb k1
      go_wp2_with fail
      refine (c_inRange _ _ _ _).mono ?_
      rw [h2]
      rintro e w' ⟨rfl, rfl⟩
      cases h3 : inB (mn l k).la 0 10000
      · go_wp2_with fail
        refine (c_inRange _ _ _ _).mono ?_
        rw [h3]
        rintro e w' ⟨rfl, rfl⟩
        go_wp2
        go_ret
        exact ⟨ret_bool (by rw [vTab_bad hkl.out (by rw [HST.out, h1, h2, h3]; rfl)]), HB1.out⟩
      go_wp2_with fail
      refine (c_inRange _ _ _ _).mono ?_
      rw [h3]
      rintro e w' ⟨rfl, rfl⟩
      have HOK := Lib.hid (And.intro h1 (And.intro h2 h3))
      clear h1 h2 h3
      go_wp2
      go_loopw [5] (fun i wr2 => ∃ j q : Nat, j ≤ k ∧ i = .int .i64 j ∧ Hid (∀ t, t < j → isE (mn l t) (mn l k).ad (mn l k).ep = false ∧ isP (mn l t) (mn l k).po = false) ∧ wr2 = w1.drewN q) (fun i _ => k - (intOf i).toNat)
      case atStart => exact ⟨0, 0, Nat.zero_le _, rfl, fun j hj => absurd hj (by omega), rfl⟩
      case round =>
        obtain ⟨j, q, hj, rfl, hF, rfl⟩ := hrel
        by_cases hjk : j < k
        · obtain ⟨b', off', e', hb', d0, d1, d2, -⟩ := hR.get (k := j) (by rw [HN.out]; omega)
          cases e'
          have e2 : 0 ≤ (j : Int) ∧ (j : Int) < n := by omega
          cases hE : isE (mn l j) (mn l k).ad (mn l k).ep
          · have t1 : eqE (mn l j).ad (mn l j).ep (mn l k).ad (mn l k).ep = false := eqE_false (fun e => by rw [isE_iff.2 e] at hE; cases hE)
            cases hP : isP (mn l j) (mn l k).po
            · have t2 : ((mn l j).po == (mn l k).po) = false := by rw [beq_eq_false_iff_ne]; intro e; rw [isP_iff.2 e] at hP; cases hP
              have HEP := Lib.hid (And.intro hE hP)
              clear hE hP
              go_wp2
              go_quiet (fail)
              go_wp2
              go_roundw
              case rel => exact ⟨j + 1, _, by omega, by go_num, upTo_succ hF.out HEP.out, rfl⟩
              case measure => simp [intOf]; omega
            · have t2 : ((mn l j).po == (mn l k).po) = true := by rw [beq_iff_eq]; exact isP_iff.1 hP
              have HPP := Lib.hid hP
              clear hE hP
              go_wp2
              go_quiet (fail)
              go_wp2
              go_ret
              have hne : decide (byP l (mn l k).po k < 0) = false := by
                rw [decide_eq_false_iff_not]
                intro hx
                have := (idx_neg.1 hx) j hjk
                rw [HPP.out] at this
                cases this
              exact ⟨ret_bool (by rw [vTab_bad hkl.out (by rw [HST.out, hne]; simp)]), Bl.drewN (Bl.drewN HB1.out _) _⟩
          · have t1 : eqE (mn l j).ad (mn l j).ep (mn l k).ad (mn l k).ep = true := eqE_true (isE_iff.1 hE)
            have HEE := Lib.hid hE
            clear hE
            go_wp2
            go_quiet (fail)
            go_wp2
            go_ret
            have hne : decide (byE l (mn l k).ad (mn l k).ep k < 0) = false := by
              rw [decide_eq_false_iff_not]
              intro hx
              have := (idx_neg.1 hx) j hjk
              rw [HEE.out] at this
              cases this
            exact ⟨ret_bool (by rw [vTab_bad hkl.out (by rw [HST.out, hne]; simp)]), Bl.drewN (Bl.drewN HB1.out _) _⟩
        · obtain rfl : j = k := by omega
          go_wp2
          go_roundw
          case rel =>
            refine ⟨j + 1, by omega, by go_num, upTo_succ hS.out ?_, Bl.drewN HB1.out _⟩
            rw [HST.out, HOK.out.1, HOK.out.2.1, HOK.out.2.2]
            simp only [Bool.and_true, Bool.true_and, Bool.and_eq_true, decide_eq_true_eq]
            exact ⟨idx_neg.2 (fun t ht => (hF.out t ht).1), idx_neg.2 (fun t ht => (hF.out t ht).2)⟩
          case measure => simp [intOf]; omega
    · obtain rfl : k = n := by omega
      go_wp2
      go_ret
      exact ⟨ret_bool (by unfold vTab; rw [allUp_true (fun j hj => hS.out j (by rw [← HN.out]; exact hj)), HN.out]; simp; omega), HB.out⟩
end Go.Proofs.YthlaldikdlljfaaDoor
