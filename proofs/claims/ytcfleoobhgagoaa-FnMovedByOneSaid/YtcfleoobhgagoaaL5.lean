/- The law that all addresses are counted, as a walk. -/
import Derived.Test.YtcfleoobhgagoaaL4
namespace Go.Proofs.Ytcfleoobhgagoaa
open Go.RowKit

/-- The counts of the first i addresses of the pool together. -/
def sumC (zs qs : List Int) : Nat → Int
  | 0 => 0
  | i + 1 => sumC zs qs i + cnt zs qs i
theorem sumC_snoc (zs qs : List Int) (a : Int) (i : Nat) : sumC zs (qs ++ [a]) i = sumC zs qs i + if 0 ≤ spr a zs.length ∧ spr a zs.length < i then 1 else 0 := by
  induction i with
  | zero => simp [sumC]
  | succ i ih =>
    simp only [sumC]
    rw [ih, cnt_snoc]
    by_cases h : spr a zs.length = (i : Int)
    · rw [if_pos h, if_neg (by omega), if_pos (by omega)]; omega
    · rw [if_neg h]
      by_cases h2 : 0 ≤ spr a zs.length ∧ spr a zs.length < i
      · rw [if_pos h2, if_pos (by omega)]; omega
      · rw [if_neg h2, if_neg (by omega)]; omega
theorem sumC_all (zs qs : List Int) (hz : 1 ≤ zs.length) : sumC zs qs zs.length = qs.length := by
  have key : ∀ k, k ≤ qs.length → sumC zs (qs.take k) zs.length = k := by
    intro k
    induction k with
    | zero =>
      intro _
      have : ∀ i, sumC zs ([] : List Int) i = 0 := by
        intro i
        induction i with
        | zero => rfl
        | succ i ih => simp [sumC, ih, cnt]
      simpa using this zs.length
    | succ k ih =>
      intro hk
      have := spr_bd (a := nth qs k) (m := zs.length) (by omega)
      rw [take_succ_nth (by omega), sumC_snoc, ih (by omega), if_pos (by omega)]; omega
  have := key qs.length (Nat.le_refl _)
  rwa [List.take_of_length_le (Nat.le_refl _)] at this
theorem sumC_bd {zs qs : List Int} (h : qs.length ≤ 12) (i : Nat) : 0 ≤ sumC zs qs i ∧ sumC zs qs i ≤ 12 * i := by
  induction i with
  | zero => simp [sumC]
  | succ i ih =>
    have := cnt_bd zs qs i
    simp only [sumC]
    omega
theorem pool_inj {zs : List Int} (h : vPool zs = true) {i j : Nat} (hj : j < zs.length) (hij : i < j) : nth zs i < nth zs j := by
  have hp := (vPool_iff.1 h).1
  induction j with
  | zero => omega
  | succ j ih =>
    have h1 := (hp (j + 1) hj).2 (by omega)
    simp at h1
    rcases Nat.lt_or_ge i j with h2 | h2
    · have := ih (by omega) h2; omega
    · obtain rfl : i = j := by omega
      exact h1
theorem pAddr_is {zs : List Int} {a : Int} (h : vPool zs = true) (ha : 0 ≤ a ∧ a ≤ 65535) {i : Nat} (hi : i < zs.length) : (pAddr zs a == nth zs i) = (spr a zs.length == (i : Int)) := by
  have hl := vPool_len h
  have hs := spr_bd (a := a) (m := zs.length) (by omega)
  rw [pAddr_eq h (inB_mk ha.1 ha.2), Bool.eq_iff_iff, beq_iff_eq, beq_iff_eq]
  constructor
  · intro e
    rcases Nat.lt_trichotomy (spr a zs.length).toNat i with h1 | h1 | h1
    · have := pool_inj h hi h1; omega
    · omega
    · have := pool_inj h (j := (spr a zs.length).toNat) (by omega) h1; omega
  · intro e
    rw [e]; simp

set_option maxHeartbeats 1000000 in
theorem l_FnPoolCounts (A : Option Addr) (n c : Nat) (w : World) (h : RB w A n) (hc : n ≤ c) :
    Calls Try.prog 14 #[.slice A n c] w fun e w' => e = .returned (.bool true) ∧ Below w.heap.size w w' := by
  by_cases hbig : 1048576 < n
  · go_enter Try.func14, Try.ntmps14
    go_wp2
    go_ret
    exact ⟨rfl, Below.refl _ _⟩
  · go_enter Try.func14, Try.ntmps14
    go_wp2_with fail
    refine (c_DrawPoolCounts _ _ _ _ h hc).mono ?_
    rintro e w1 ⟨C, d, zs, D, d', qs, rfl, hd, hl, hz, hd', hl', hq, B⟩
    clear h
    go_wp2_with fail
    refine (n_iPoolCounts _ _ _ _ _ _ _ _ _ hz hq rfl rfl (by omega) (by omega)).mono ?_
    rintro e w2 ⟨G, _, dg, rfl, rfl, OG, b⟩
    replace hz := hz.to b
    replace hq := hq.to b
    replace B := Bl.then B b
    clear b
    go_wp2_with fail
    refine (n_sPoolCounts _ _ _ _ _ _ _ _ _ hz hq rfl rfl (by omega) (by omega)).mono ?_
    rintro e w3 ⟨W, _, dw, rfl, rfl, OW, b⟩
    replace hz := hz.to b
    replace hq := hq.to b
    replace OG := OG.to b
    replace B := Bl.then B b
    clear b
    have hpl := pcsV_len zs qs
    go_wp2_with fail
    refine (n_equalInts _ _ _ _ _ _ _ _ _ OG.ri.1 OW.ri.1 rfl rfl (by omega)).mono ?_
    rintro e w4 ⟨rfl, b⟩
    replace hz := hz.to b
    replace hq := hq.to b
    replace OG := OG.to b
    replace B := Bl.then B b
    clear b OW
    rw [eqL_same]
    by_cases h0 : (pcsV zs qs).length = 0
    · have hz0 : (((pcsV zs qs).length : Int) == 0) = true := by rw [beq_iff_eq]; omega
      have H0 := Lib.hid h0
      clear h0
      go_wp2_with fail
      refine (n_sPoolCounts _ _ _ _ _ _ _ _ _ hz hq rfl rfl (by omega) (by omega)).mono ?_
      rintro e w5 ⟨W2, _, dw2, rfl, rfl, OW, b⟩
      replace OG := OG.to b
      replace B := Bl.then B b
      clear b
      go_wp2_with fail
      refine (n_equalInts _ _ _ _ _ _ _ _ _ OG.ri.1 OW.ri.1 rfl rfl (by omega)).mono ?_
      rintro e w6 ⟨rfl, b⟩
      replace B := Bl.then B b
      rw [eqL_same]
      go_wp2
      go_ret
      exact ⟨rfl, B⟩
    · have hz0 : (((pcsV zs qs).length : Int) == 0) = false := by rw [beq_eq_false_iff_ne]; omega
      have hN := pcsV_nil h0
      have hv := vPool_len hN.1
      have HV := Lib.hid hN.1
      have hk12 := (ask_at hN.2.1).1
      have HA := Lib.hid (ask_at hN.2.1).2
      have H3 := Lib.hid hN.2.2
      rw [hN.2.2, pcs_len] at OG hz0 ⊢
      clear h0 hN
      have R0 := OG.ri.1
      clear OG
      go_wp2
      go_loopw [6, 7] (fun m i wr => ∃ k q : Nat, k ≤ zs.length ∧ i = .int .i64 k ∧ m = .int .i64 (sumC zs qs k) ∧ wr = w4.drewN q) (fun _ i _ => zs.length - (intOf i).toNat)
      case atStart => exact ⟨0, 0, by omega, rfl, rfl, rfl⟩
      case round =>
        obtain ⟨k, q, hk, rfl, rfl, rfl⟩ := hrel
        have hsb := sumC_bd (zs := zs) hk12 k
        by_cases hlt : k < zs.length
        · obtain ⟨b0, o0, rfl, _, hc0⟩ := R0.get (k := k) (by rw [pcs_len]; exact hlt)
          obtain ⟨b1, o1, rfl, _, hc1⟩ := hz.get hlt
          rw [pcs_nth hlt] at hc0
          go_wp2
          go_loopw [8, 9] (fun m i wr => ∃ j q2 : Nat, j ≤ qs.length ∧ i = .int .i64 j ∧ m = .int .i64 (cnt zs (qs.take j) k) ∧ wr = w4.drewN q2) (fun _ i _ => qs.length - (intOf i).toNat)
          case atStart => exact ⟨0, q, by omega, rfl, by simp [cnt], rfl⟩
          case round =>
            obtain ⟨j, q2, hj, rfl, rfl, rfl⟩ := hrel
            have hcb := cnt_bd zs (qs.take j) k
            rw [List.length_take] at hcb
            by_cases hjl : j < qs.length
            · obtain ⟨b2, o2, rfl, _, hc2⟩ := hq.get hjl
              have E := Lib.hid (pAddr_is HV.out (HA.out j hjl) hlt)
              have T := Lib.hid (take_succ_nth hjl)
              cases hs : (spr (nth qs j) zs.length == (k : Int))
              all_goals
                have F := Lib.hid (E.out.trans hs)
                clear hs
                go_wp2
                go_quiet ((go_at_call 25; exact quiet_eq2 (fun W hW => by subst hW; exact c_iPoolAddr _ _ _ _ _ (hz.drewN _) (by omega))))
              · have f := F.out
                go_wp2
                go_roundw
                case rel =>
                  refine ⟨j + 1, _, by omega, by go_num, ?_, rfl⟩
                  rw [T.out, cnt_snoc, if_neg (by have := E.out.symm.trans f; simpa using this)]; simp
                case measure => simp [intOf]; omega
              · have f := F.out
                go_wp2
                go_roundw
                case rel =>
                  refine ⟨j + 1, _, by omega, by go_num, ?_, rfl⟩
                  rw [T.out, cnt_snoc, if_pos (by have := E.out.symm.trans f; simpa using this)]
                case measure => simp [intOf]; omega
            · have T : qs.take j = qs := List.take_of_length_le (by omega)
              rw [T]
              have hcb2 := cnt_bd zs qs k
              have hne : (cnt zs qs k != cnt zs qs k) = false := by simp
              go_wp2
              go_roundw
              case rel =>
                exact ⟨k + 1, _, by omega, by go_num, rfl, rfl⟩
              case measure => simp [intOf]; omega
        · obtain hkk : k = zs.length := by omega
          subst hkk
          have e1 := sumC_all zs qs hv.1
          rw [e1]
          have g1 : ((qs.length : Int) == (qs.length : Int)) = true := by simp
          have g2 : ((zs.length : Int) == (zs.length : Int)) = true := by simp
          clear e1
          go_wp2
          go_ret
          exact ⟨rfl, Bl.then B (Bl.of_drewN _ _)⟩
end Go.Proofs.Ytcfleoobhgagoaa
