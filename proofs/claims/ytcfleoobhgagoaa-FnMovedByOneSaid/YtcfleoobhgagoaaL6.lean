/- The walk of the law FnFullestAddr, and plain laws of the fullest address. -/
import Derived.Test.YtcfleoobhgagoaaL5
import Derived.Test.YtcfleoobhgagoaaC5
namespace Go.Proofs.Ytcfleoobhgagoaa
open Go.RowKit

theorem full_pos {zs qs : List Int} (h : ¬ full zs qs < 0) : vPool zs = true ∧ askB qs = true ∧ full zs qs = nth zs (amaxUp (pcs zs qs) zs.length) := by
  unfold full at h ⊢
  cases hc : vPool zs && askB qs
  · rw [hc] at h; simp at h
  · rw [Bool.and_eq_true] at hc; exact ⟨hc.1, hc.2, if_pos rfl⟩
theorem amax_zero {cs : List Int} : ∀ n, (∀ j, j < n → nth cs j = 0) → amaxUp cs n = 0
  | 0, _ => rfl
  | n + 1, h => by
    have ih := amax_zero n (fun j hj => h j (by omega))
    unfold amaxUp
    rw [ih, h n (by omega), h 0 (by omega), if_neg (by omega)]
theorem full_none {zs : List Int} (h : vPool zs = true) : full zs [] = nth zs 0 := by
  have ha : askB [] = true := by rfl
  unfold full
  rw [h, ha, amax_zero zs.length (fun j hj => by rw [pcs_nth hj]; simp [cnt])]
  rfl
theorem full_one {zs qs : List Int} (h : vPool zs = true) (ha : askB qs = true) : full (zs.take 1) qs = nth zs 0 := by
  have hl := vPool_len h
  have h1 : (zs.take 1).length = 1 := by rw [List.length_take]; omega
  unfold full
  rw [vPool_take h (Nat.le_refl 1) hl.1, ha, h1, amaxUp_one, nth_take (by omega)]
  rfl
theorem hasB_nth {zs : List Int} {k : Nat} (h : k < zs.length) : hasB zs (nth zs k) = true := by
  unfold hasB; exact anyUp_true h (by simp)

set_option maxHeartbeats 1600000 in
theorem l_FnFullestAddr (A : Option Addr) (n c : Nat) (w : World) (h : RB w A n) (hc : n ≤ c) :
    Calls Try.prog 15 #[.slice A n c] w fun e w' => e = .returned (.bool true) ∧ Below w.heap.size w w' := by
  by_cases hbig : 1048576 < n
  · go_enter Try.func15, Try.ntmps15
    go_wp2
    go_ret
    exact ⟨rfl, Below.refl _ _⟩
  go_enter Try.func15, Try.ntmps15
  go_wp2_with fail
  refine (c_DrawFullestAddr _ _ _ _ h hc).mono ?_
  rintro e w1 ⟨C, d, zs, D, d', qs, rfl, hd, hl, hz, hd', hl', hq, B⟩
  clear h
  go_wp2_with fail
  refine (n_iFullestAddr _ _ _ _ _ _ zs qs _ hz hq rfl rfl (by omega) (by omega)).mono ?_
  rintro e w2 ⟨rfl, b⟩
  replace hz := hz.to b
  replace hq := hq.to b
  replace B := Bl.then B b
  clear b
  go_wp2_with fail
  refine (n_iPoolCounts _ _ _ _ _ _ zs qs _ hz hq rfl rfl (by omega) (by omega)).mono ?_
  rintro e w3 ⟨G, _, dg, rfl, rfl, OG, b⟩
  replace hz := hz.to b
  replace hq := hq.to b
  replace B := Bl.then B b
  clear b
  generalize hn : full zs qs = o
  have HN := Lib.hid hn
  clear hn
  go_wp2_with fail
  refine (n_sFullestAddr _ _ _ _ _ _ zs qs _ hz hq rfl rfl (by omega) (by omega)).mono ?_
  rintro e w4 ⟨rfl, b⟩
  replace hz := hz.to b
  replace hq := hq.to b
  replace OG := OG.to b
  replace B := Bl.then B b
  clear b
  rw [HN.out]
  by_cases ho : o < 0
  · have t0 : decide (o < 0) = true := by rw [decide_eq_true_eq]; exact ho
    go_wp2_with fail
    refine (n_sFullestAddr _ _ _ _ _ _ zs qs _ hz hq rfl rfl (by omega) (by omega)).mono ?_
    rintro e w5 ⟨rfl, b⟩
    rw [HN.out]
    go_wp2
    go_ret
    exact ⟨ret_bool (by simp), Bl.then B b⟩
  have t0 : decide (o < 0) = false := by rw [decide_eq_false_iff_not]; exact ho
  obtain ⟨hv, ha, hf⟩ := full_pos (zs := zs) (qs := qs) (by rw [HN.out]; exact ho)
  rw [HN.out] at hf
  have hvl := vPool_len hv
  have HV := Lib.hid hv
  have hP : pcsV zs qs = pcs zs qs := by unfold pcsV; rw [hv, ha]; rfl
  rw [hP, pcs_len] at OG
  have hcl : (pcsV zs qs).length = zs.length := by rw [hP, pcs_len]
  rw [hcl]
  have R0 := OG.ri.1
  have hm := amaxUp_lt (cs := pcs zs qs) (n := zs.length) (by omega)
  have HF := Lib.hid (fun (j : Nat) (hj : j < amaxUp (pcs zs qs) zs.length) => amaxUp_first hj)
  have HG := Lib.hid (fun (j : Nat) (hj : j < zs.length) => amaxUp_ge (cs := pcs zs qs) hj)
  generalize amaxUp (pcs zs qs) zs.length = m at hf hm HF HG
  have hbm := cnt_bd zs qs m
  have HM := Lib.hid hf
  clear hf hv ha hP hcl OG ho
  have hcm : nth (pcs zs qs) m = cnt zs qs m := pcs_nth hm
  have HCM := Lib.hid hcm
  clear hcm
  rw [← HCM.out] at hbm
  go_wp2
  go_loop [7, 8] (fun u i => ∃ k : Nat, k ≤ zs.length ∧ i = .int .i64 k ∧ u = .int .i64 (if k ≤ m then -1 else nth (pcs zs qs) m)) (fun _ i => zs.length - (intOf i).toNat)
  case atStart => exact ⟨0, by omega, rfl, by rw [if_pos (by omega)]⟩
  case round =>
    obtain ⟨k, hk, rfl, rfl⟩ := hrel
    by_cases hlt : k < zs.length
    · obtain ⟨b0, o0, rfl, _, hc0⟩ := hz.get hlt
      obtain ⟨b1, o1, rfl, _, hc1⟩ := R0.get (k := k) (by rw [pcs_len]; exact hlt)
      by_cases hkm : k = m
      · subst hkm
        have he : (nth zs k == o) = true := by rw [beq_iff_eq]; exact HM.out.symm
        go_wp2
        go_round
        case rel => exact ⟨k + 1, by omega, by go_num, by rw [if_neg (by omega)]⟩
        case measure => simp [intOf]; omega
      · have he : (nth zs k == o) = false := by
          rw [beq_eq_false_iff_ne, HM.out]
          intro e
          rcases Nat.lt_or_ge k m with h1 | h1
          · have := pool_inj HV.out hm h1; omega
          · have := pool_inj HV.out hlt (show m < k by omega); omega
        go_wp2
        go_round
        case rel => exact ⟨k + 1, by omega, by go_num, by congr 1; split <;> split <;> omega⟩
        case measure => simp [intOf]; omega
    · obtain hkl : k = zs.length := by omega
      subst hkl
      rw [if_neg (by omega)]
      generalize hM : nth (pcs zs qs) m = M at hbm
      have HMM := Lib.hid hM
      clear hM
      go_wp2
      go_loop [9] (fun i => ∃ j : Nat, j ≤ zs.length ∧ i = .int .i64 j) (fun i => zs.length - (intOf i).toNat)
      case atStart => exact ⟨0, by omega, rfl⟩
      case round =>
        obtain ⟨j, hj, rfl⟩ := hrel
        by_cases hjl : j < zs.length
        · obtain ⟨b0, o0, rfl, _, hc0⟩ := hz.get hjl
          obtain ⟨b1, o1, rfl, _, hc1⟩ := R0.get (k := j) (by rw [pcs_len]; exact hjl)
          have hge := HG.out j hjl
          rw [HMM.out] at hge
          have t1 : decide (M < nth (pcs zs qs) j) = false := by rw [decide_eq_false_iff_not]; omega
          by_cases hcm : nth (pcs zs qs) j = M
          · have t2 : (nth (pcs zs qs) j == M) = true := by rw [beq_iff_eq]; exact hcm
            have t3 : decide (nth zs j < o) = false := by
              rw [decide_eq_false_iff_not, HM.out]
              rcases Nat.lt_trichotomy j m with h1 | h1 | h1
              · have := HF.out j h1; rw [HMM.out] at this; omega
              · subst h1; omega
              · have := pool_inj HV.out hjl h1; omega
            clear hcm hge
            go_wp2
            go_round
            case rel => exact ⟨j + 1, by omega, by go_num⟩
            case measure => simp [intOf]; omega
          · have t2 : (nth (pcs zs qs) j == M) = false := by rw [beq_eq_false_iff_ne]; exact hcm
            clear hcm hge
            go_wp2
            go_round
            case rel => exact ⟨j + 1, by omega, by go_num⟩
            case measure => simp [intOf]; omega
        · have t4 : decide (0 ≤ M) = true := by rw [decide_eq_true_eq]; omega
          go_wp2
          go_ret
          exact ⟨ret_bool (by simp; try omega), B⟩
end Go.Proofs.Ytcfleoobhgagoaa
