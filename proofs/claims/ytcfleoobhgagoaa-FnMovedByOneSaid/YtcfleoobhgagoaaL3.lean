/- Laws on the fullest address and on counts, as walks. -/
import Derived.Test.YtcfleoobhgagoaaC5
import Derived.Test.YtcfleoobhgagoaaGen3
namespace Go.Proofs.Ytcfleoobhgagoaa
open Go.RowKit
set_option maxHeartbeats 1000000 in
theorem l_FnExactFullestAddr (A0 : Option Addr) (c0 : Nat) (zs : List Int) (A1 : Option Addr) (c1 : Nat) (qs : List Int) (w : World) (h0 : RI w A0 zs) (h1 : RI w A1 qs) :
    Calls Try.prog 10 #[.slice A0 zs.length c0, .slice A1 qs.length c1] w fun e w' => e = .returned (.bool true) ∧ Below w.heap.size w w' := by
  by_cases hbig0 : 1048576 < zs.length
  · go_enter Try.func10, Try.ntmps10
    go_wp2
    go_ret
    exact ⟨rfl, Below.refl _ _⟩
  by_cases hbig1 : 1048576 < qs.length
  · go_enter Try.func10, Try.ntmps10
    go_wp2
    go_ret
    exact ⟨rfl, Below.refl _ _⟩
  have B := Below.refl w.heap.size w
  go_enter Try.func10, Try.ntmps10
  go_wp2_with fail
  refine (n_toIntS _ _ _ _ (h0.to B) (by omega)).mono ?_
  rintro e w1 ⟨Xa0, _, da0, rfl, rfl, Oa0, b⟩
  have s1 := b.size
  replace B := Bl.then B b
  clear b
  go_wp2_with fail
  refine (n_toIntS _ _ _ _ (h1.to B) (by omega)).mono ?_
  rintro e w2 ⟨Xa1, _, da1, rfl, rfl, Oa1, b⟩
  replace Oa0 := Oa0.to b
  have s2 := b.size
  replace B := Bl.then B b
  clear b
  go_wp2_with fail
  refine (n_sFullestAddr _ _ _ _ _ _ zs qs _ Oa0.ri.1 Oa1.ri.1 rfl rfl (by omega) (by omega)).mono ?_
  rintro e w3 ⟨rfl, b⟩
  replace Oa0 := Oa0.to b
  replace Oa1 := Oa1.to b
  have s3 := b.size
  replace B := Bl.then B b
  clear b
  clear Oa0
  clear Oa1
  go_wp2_with fail
  refine (n_toIntS _ _ _ _ (h0.to B) (by omega)).mono ?_
  rintro e w4 ⟨Xx0, _, dx0, rfl, rfl, Ox0, b⟩
  have s4 := b.size
  replace B := Bl.then B b
  clear b
  go_wp2_with fail
  refine (n_toIntS _ _ _ _ (h1.to B) (by omega)).mono ?_
  rintro e w5 ⟨Xx1, _, dx1, rfl, rfl, Ox1, b⟩
  replace Ox0 := Ox0.to b
  have s5 := b.size
  replace B := Bl.then B b
  clear b
  go_wp2_with fail
  refine (n_iFullestAddr _ _ _ _ _ _ zs qs _ Ox0.ri.1 Ox1.ri.1 rfl rfl (by omega) (by omega)).mono ?_
  rintro e w6 ⟨rfl, b⟩
  replace Ox0 := Ox0.to b
  replace Ox1 := Ox1.to b
  have s6 := b.size
  replace B := Bl.then B b
  clear b
  go_wp2_with fail
  refine (n_toIntS _ _ _ _ (h0.to B) (by omega)).mono ?_
  rintro e w7 ⟨Xt0, _, dt0, rfl, rfl, Ot0, b⟩
  replace Ox0 := Ox0.to b
  replace Ox1 := Ox1.to b
  have s7 := b.size
  replace B := Bl.then B b
  clear b
  go_wp2_with fail
  refine (n_eqIntS _ _ _ _ _ _ _ _ _ Ox0.ri.1 Ot0.ri.1 rfl rfl (by omega)).mono ?_
  rintro e w8 ⟨rfl, b⟩
  replace Ox0 := Ox0.to b
  replace Ox1 := Ox1.to b
  replace Ot0 := Ot0.to b
  have s8 := b.size
  replace B := Bl.then B b
  clear b
  rw [eqL_same]
  clear Ot0
  go_wp2_with fail
  refine (n_toIntS _ _ _ _ (h1.to B) (by omega)).mono ?_
  rintro e w9 ⟨Xt1, _, dt1, rfl, rfl, Ot1, b⟩
  replace Ox0 := Ox0.to b
  replace Ox1 := Ox1.to b
  have s9 := b.size
  replace B := Bl.then B b
  clear b
  go_wp2_with fail
  refine (n_eqIntS _ _ _ _ _ _ _ _ _ Ox1.ri.1 Ot1.ri.1 rfl rfl (by omega)).mono ?_
  rintro e w10 ⟨rfl, b⟩
  replace Ox0 := Ox0.to b
  replace Ox1 := Ox1.to b
  replace Ot1 := Ot1.to b
  have s10 := b.size
  replace B := Bl.then B b
  clear b
  rw [eqL_same]
  clear Ot1
  go_wp2
  go_ret
  exact ⟨rfl, B⟩

theorem pcsV_nil {zs qs : List Int} (h : ¬ (pcsV zs qs).length = 0) : vPool zs = true ∧ askB qs = true ∧ pcsV zs qs = pcs zs qs := by
  unfold pcsV at h ⊢
  split at h
  · rename_i h1
    rw [if_pos h1]
    rw [Bool.and_eq_true] at h1
    exact ⟨h1.1, h1.2, rfl⟩
  · simp at h
theorem pcsV_one {zs qs : List Int} (h : ¬ (pcsV zs qs).length = 0) : pcsV (zs.take 1) qs = [(qs.length : Int)] := by
  obtain ⟨h1, h2, _⟩ := pcsV_nil h
  have hl := vPool_len h1
  have h3 := vPool_take h1 (Nat.le_refl 1) hl.1
  have hl1 : (zs.take 1).length = 1 := by simp; omega
  unfold pcsV
  rw [h3, h2]
  show pcs (zs.take 1) qs = _
  apply nth_ext
  · rw [pcs_len, hl1]; rfl
  · intro k hk
    rw [pcs_len, hl1] at hk
    obtain rfl : k = 0 := by omega
    rw [pcs_nth (by omega)]
    show cnt (zs.take 1) qs 0 = (qs.length : Int)
    unfold cnt
    rw [hl1]
    congr 1
    rw [List.filter_eq_self.2]
    intro a _
    unfold spr
    simp

theorem l_FnPoolCountsOne (A : Option Addr) (n c : Nat) (w : World) (h : RB w A n) (hc : n ≤ c) :
    Calls Try.prog 11 #[.slice A n c] w fun e w' => e = .returned (.bool true) ∧ Below w.heap.size w w' := by
  by_cases hbig : 1048576 < n
  · go_enter Try.func11, Try.ntmps11
    go_wp2
    go_ret
    exact ⟨rfl, Below.refl _ _⟩
  · go_enter Try.func11, Try.ntmps11
    go_wp2_with fail
    refine (c_DrawPoolCounts _ _ _ _ h hc).mono ?_
    rintro e w1 ⟨C, d, zs, D, d', qs, rfl, hd, hl, hz, hd', hl', hq, B⟩
    clear h
    go_wp2_with fail
    refine (n_iPoolCounts _ _ _ _ _ _ _ _ _ hz hq rfl rfl (by omega) (by omega)).mono ?_
    rintro e w2 ⟨G, _, dg, rfl, rfl, OG, b⟩
    replace hz := hz.to b
    replace hq := hq.to b
    replace B := Bl.then B b
    clear b
    go_wp2_with fail
    refine (n_sPoolCounts _ _ _ _ _ _ _ _ _ hz hq rfl rfl (by omega) (by omega)).mono ?_
    rintro e w3 ⟨W, _, dw, rfl, rfl, OW, b⟩
    replace hz := hz.to b
    replace hq := hq.to b
    replace OG := OG.to b
    replace B := Bl.then B b
    clear b
    have hpl := pcsV_len zs qs
    go_wp2_with fail
    refine (n_equalInts _ _ _ _ _ _ _ _ _ OG.ri.1 OW.ri.1 rfl rfl (by omega)).mono ?_
    rintro e w4 ⟨rfl, b⟩
    replace hz := hz.to b
    replace hq := hq.to b
    replace OG := OG.to b
    replace B := Bl.then B b
    clear b OW
    rw [eqL_same]
    by_cases h0 : (pcsV zs qs).length = 0
    · have hz0 : (((pcsV zs qs).length : Int) == 0) = true := by rw [beq_iff_eq]; omega
      have H0 := Lib.hid h0
      clear h0
      go_wp2_with fail
      refine (n_sPoolCounts _ _ _ _ _ _ _ _ _ hz hq rfl rfl (by omega) (by omega)).mono ?_
      rintro e w5 ⟨W2, _, dw2, rfl, rfl, OW, b⟩
      replace OG := OG.to b
      replace B := Bl.then B b
      clear b
      go_wp2_with fail
      refine (n_equalInts _ _ _ _ _ _ _ _ _ OG.ri.1 OW.ri.1 rfl rfl (by omega)).mono ?_
      rintro e w6 ⟨rfl, b⟩
      replace B := Bl.then B b
      rw [eqL_same]
      go_wp2
      go_ret
      exact ⟨rfl, B⟩
    · have hz0 : (((pcsV zs qs).length : Int) == 0) = false := by rw [beq_eq_false_iff_ne]; omega
      have H1 := Lib.hid (pcsV_one h0)
      have hv := vPool_len (pcsV_nil h0).1
      clear h0
      go_wp2_with fail
      refine (n_iPoolCounts _ _ _ _ _ _ (zs.take 1) _ _ (hz.take 1) hq (by rw [List.length_take]; omega) rfl (by omega) (by omega)).mono ?_
      rintro e w5 ⟨W2, _, dw2, rfl, rfl, OW, b⟩
      replace B := Bl.then B b
      clear b
      rw [H1.out]
      rw [H1.out] at OW
      go_wp2_with fail
      refine (n_equalInts _ _ _ _ _ _ _ [(qs.length : Int)] _ (OW.ri.1.alloc _) (lit_ints _ rfl rfl) rfl rfl (by simp)).mono ?_
      rintro e w6 ⟨rfl, b⟩
      replace B := Bl.then (B.alloc B.size _) b
      rw [eqL_same]
      go_wp2
      go_ret
      exact ⟨rfl, B⟩
end Go.Proofs.Ytcfleoobhgagoaa
