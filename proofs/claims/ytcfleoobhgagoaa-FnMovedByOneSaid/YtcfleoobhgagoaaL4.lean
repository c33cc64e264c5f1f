/- The laws that counts add up and that all addresses are counted, as walks. -/
import Derived.Test.YtcfleoobhgagoaaL3
namespace Go.Proofs.Ytcfleoobhgagoaa
open Go.RowKit

theorem cnt_parts (zs qs : List Int) (k j : Nat) : cnt zs (qs.take k) j + cnt zs (qs.drop k) j = cnt zs qs j := by
  unfold cnt
  conv => rhs; rw [← List.take_append_drop k qs, List.filter_append, List.length_append]
  omega
theorem nth_mem' {zs : List Int} {k : Nat} (h : k < zs.length) : nth zs k ∈ zs := by simp [nth, h]
theorem ask_part {qs : List Int} {ys : List Int} (h : askB qs = true) (hl : ys.length ≤ qs.length) (hs : ∀ y ∈ ys, y ∈ qs) : askB ys = true := by
  have ha := ask_at h
  unfold askB allIn
  rw [Bool.and_eq_true]
  refine ⟨by simp; omega, allUp_true (fun j hj => ?_)⟩
  obtain ⟨i, hi, e⟩ := List.getElem_of_mem (hs _ (nth_mem' hj))
  have := ha.2 i hi
  have e2 : nth qs i = nth ys j := by rw [← e]; simp [nth, hi]
  rw [e2] at this
  exact inB_mk this.1 this.2
theorem pcsV_part {zs qs ys : List Int} (h : ¬ (pcsV zs qs).length = 0) (hl : ys.length ≤ qs.length) (hs : ∀ y ∈ ys, y ∈ qs) : pcsV zs ys = pcs zs ys := by
  obtain ⟨h1, h2, _⟩ := pcsV_nil h
  unfold pcsV
  rw [h1, ask_part h2 hl hs]; rfl

set_option maxHeartbeats 1000000 in
theorem l_FnPoolCountsParts (A : Option Addr) (n c : Nat) (w : World) (h : RB w A n) (hc : n ≤ c) :
    Calls Try.prog 12 #[.slice A n c] w fun e w' => e = .returned (.bool true) ∧ Below w.heap.size w w' := by
  by_cases hbig : 1048576 < n
  · go_enter Try.func12, Try.ntmps12
    go_wp2
    go_ret
    exact ⟨rfl, Below.refl _ _⟩
  · go_enter Try.func12, Try.ntmps12
    go_wp2_with fail
    refine (c_DrawPoolCounts _ _ _ _ h hc).mono ?_
    rintro e w1 ⟨C, d, zs, D, d', qs, rfl, hd, hl, hz, hd', hl', hq, B⟩
    clear h
    go_wp2_with fail
    refine (n_iPoolCounts _ _ _ _ _ _ _ _ _ hz hq rfl rfl (by omega) (by omega)).mono ?_
    rintro e w2 ⟨G, _, dg, rfl, rfl, OG, b⟩
    replace hz := hz.to b
    replace hq := hq.to b
    replace B := Bl.then B b
    clear b
    go_wp2_with fail
    refine (n_sPoolCounts _ _ _ _ _ _ _ _ _ hz hq rfl rfl (by omega) (by omega)).mono ?_
    rintro e w3 ⟨W, _, dw, rfl, rfl, OW, b⟩
    replace hz := hz.to b
    replace hq := hq.to b
    replace OG := OG.to b
    replace B := Bl.then B b
    clear b
    have hpl := pcsV_len zs qs
    go_wp2_with fail
    refine (n_equalInts _ _ _ _ _ _ _ _ _ OG.ri.1 OW.ri.1 rfl rfl (by omega)).mono ?_
    rintro e w4 ⟨rfl, b⟩
    replace hz := hz.to b
    replace hq := hq.to b
    replace OG := OG.to b
    replace B := Bl.then B b
    clear b OW
    rw [eqL_same]
    by_cases h0 : (pcsV zs qs).length = 0
    · have hz0 : (((pcsV zs qs).length : Int) == 0) = true := by rw [beq_iff_eq]; omega
      have H0 := Lib.hid h0
      clear h0
      go_wp2_with fail
      refine (n_sPoolCounts _ _ _ _ _ _ _ _ _ hz hq rfl rfl (by omega) (by omega)).mono ?_
      rintro e w5 ⟨W2, _, dw2, rfl, rfl, OW, b⟩
      replace OG := OG.to b
      replace B := Bl.then B b
      clear b
      go_wp2_with fail
      refine (n_equalInts _ _ _ _ _ _ _ _ _ OG.ri.1 OW.ri.1 rfl rfl (by omega)).mono ?_
      rintro e w6 ⟨rfl, b⟩
      replace B := Bl.then B b
      rw [eqL_same]
      go_wp2
      go_ret
      exact ⟨rfl, B⟩
    · have hz0 : (((pcsV zs qs).length : Int) == 0) = false := by rw [beq_eq_false_iff_ne]; omega
      have hN := pcsV_nil h0
      have hv := vPool_len hN.1
      have H1 := Lib.hid (pcsV_part (ys := qs.take (qs.length / 2)) h0 (by rw [List.length_take]; omega) (fun y hy => List.mem_of_mem_take hy))
      have H2 := Lib.hid (pcsV_part (ys := qs.drop (qs.length / 2)) h0 (by rw [List.length_drop]; omega) (fun y hy => List.mem_of_mem_drop hy))
      have H3 := Lib.hid hN.2.2
      clear h0 hN
      go_wp2_with fail
      refine (n_iPoolCounts _ _ _ _ _ _ zs (qs.take (qs.length / 2)) _ hz (hq.take _) rfl (by rw [List.length_take]; omega) (by omega) (by omega)).mono ?_
      rintro e w5 ⟨W1, _, dw1, rfl, rfl, O1, b⟩
      replace hz := hz.to b
      replace hq := hq.to b
      replace OG := OG.to b
      replace B := Bl.then B b
      clear b
      rw [H1.out, pcs_len]
      rw [H1.out, pcs_len] at O1
      go_wp2_with fail
      all_goals
        refine (n_iPoolCounts _ _ _ _ _ _ zs (qs.drop (qs.length / 2)) _ hz (by first | exact hq.dropAdd | exact RI.empty (by rw [List.length_drop]; omega)) rfl (by rw [List.length_drop]) (by omega) (by omega)).mono ?_
        rintro e w6 ⟨W2, _, dw2, rfl, rfl, O2, b⟩
        replace OG := OG.to b
        replace O1 := O1.to b
        replace B := Bl.then B b
        clear b hz hq
        rw [H2.out, pcs_len]
        rw [H2.out, pcs_len] at O2
        rw [H3.out, pcs_len]
        rw [H3.out, pcs_len] at OG
        have R0 := OG.ri.1
        have R1 := O1.ri.1
        have R2 := O2.ri.1
        clear OG O1 O2
        go_wp2
        go_loopw [9] (fun i wr => ∃ k q : Nat, k ≤ zs.length ∧ i = .int .i64 k ∧ wr = w6.drewN q) (fun i _ => zs.length - (intOf i).toNat)
        case atStart => exact ⟨0, 0, by omega, rfl, rfl⟩
        case round =>
          obtain ⟨k, q, hk, rfl, rfl⟩ := hrel
          by_cases hlt : k < zs.length
          · obtain ⟨b0, o0, rfl, _, hc0⟩ := R0.get (k := k) (by rw [pcs_len]; exact hlt)
            obtain ⟨b1, o1, rfl, _, hc1⟩ := R1.get (k := k) (by rw [pcs_len]; exact hlt)
            obtain ⟨b2, o2, rfl, _, hc2⟩ := R2.get (k := k) (by rw [pcs_len]; exact hlt)
            rw [pcs_nth hlt] at hc0 hc1 hc2
            have e1 := cnt_bd zs (qs.take (qs.length / 2)) k
            have e2 := cnt_bd zs (qs.drop (qs.length / 2)) k
            rw [List.length_take] at e1
            rw [List.length_drop] at e2
            have g1 : decide (zs.length ≤ k) = false := by simp; omega
            have hw : IntKind.i64.wrap (cnt zs (qs.take (qs.length / 2)) k + cnt zs (qs.drop (qs.length / 2)) k) = cnt zs qs k := by
              rw [IntWalk.i64_in _ (by omega)]; exact cnt_parts zs qs (qs.length / 2) k
            have hne : (cnt zs qs k != cnt zs qs k) = false := by simp
            clear e1 e2
            go_wp2
            go_quiet (fail)
            go_wp2
            go_roundw
            case rel => exact ⟨k + 1, _, by omega, by go_num, rfl⟩
            case measure => simp [intOf]; omega
          · go_wp2
            go_ret
            exact ⟨rfl, Bl.then B (Bl.of_drewN _ _)⟩
end Go.Proofs.Ytcfleoobhgagoaa
