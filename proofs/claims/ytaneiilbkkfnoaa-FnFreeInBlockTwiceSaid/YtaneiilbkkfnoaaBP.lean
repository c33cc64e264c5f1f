/- Plain laws of blocks and owners: no program in sight. -/
import Derived.Test.YtaneiilbkkfnoaaB7
namespace Go.Proofs.Ytaneiilbkkfnoaa

theorem own_vp {ba bi fi si a : Int} (h : ownB ba bi fi si a = true) : vPlan ba bi fi si = true ∧ inN ba bi a = true := by
  unfold ownB at h; rw [Bool.and_eq_true] at h; exact h
theorem blk_own {ba bi fi si a : Int} (h : ¬ blkOf ba bi fi si a < 0) : ownB ba bi fi si a = true := by
  cases ho : ownB ba bi fi si a
  · exact absurd (by unfold blkOf; rw [ho, if_neg (by decide)]; decide) h
  · rfl
theorem blk_eq {ba bi fi si a : Int} (h : ownB ba bi fi si a = true) : blkOf ba bi fi si a = fi + (a - ba) * si := by unfold blkOf; rw [h]; rfl
theorem blk_no {ba bi fi si a : Int} (h : ownB ba bi fi si a = false) : blkOf ba bi fi si a = -1 := by unfold blkOf; rw [h]; rfl
theorem own_last {ba bi fi si a : Int} (h : ownB ba bi fi si a = true) : (a - ba) * si + si ≤ sz bi * si := by
  obtain ⟨hv, hi⟩ := own_vp h
  have h2 := vPlan_size hv; have h6 := inB_true hi
  have h8 : (a - ba + 1) * si ≤ sz bi * si := Int.mul_le_mul_of_nonneg_right (by omega) (by omega)
  rw [Int.add_mul, Int.one_mul] at h8
  exact h8
/-- Each port of an address's block is owned by the address. -/
theorem ownOf_block {ba bi fi si a k : Int} (h : ownB ba bi fi si a = true) (h0 : 0 ≤ k) (h1 : k < si) : ownOf ba bi fi si (fi + (a - ba) * si + k) = a := by
  have hb := own_bd h
  have hl := own_last h
  unfold ownOf
  rw [(own_vp h).1, inB_mk (by omega) (by omega)]
  have e : fi + (a - ba) * si + k - fi = k + (a - ba) * si := by omega
  rw [Bool.and_self, if_pos rfl, e, Int.tdiv_eq_ediv_of_nonneg (by omega), Int.add_mul_ediv_right _ _ (by omega), Int.ediv_eq_zero_of_lt h0 h1]
  omega
theorem sz_pow {bi : Int} (h : inB bi 0 16 = true) : ∃ r : Int, 1 ≤ r ∧ r * sz bi = 65536 := by
  have := inB_true h
  obtain ⟨k, rfl⟩ : ∃ k : Nat, bi = k := ⟨bi.toNat, by omega⟩
  have hk : k ≤ 16 := by omega
  have h17 : ∀ k : Fin 17, (1 : Int) ≤ 2 ^ k.val ∧ 2 ^ k.val * (2 : Int) ^ (16 - (k.val : Int)).toNat = 65536 := by decide
  exact ⟨2 ^ k, h17 ⟨k, by omega⟩⟩
/-- The last address of a valid net is a word. -/
theorem net_top {ba bi : Int} (h : vNet ba bi = true) : ba + sz bi ≤ 65536 := by
  have hb := vNet_bits h
  have h1 := inB_true (vNet_base h)
  have hs := sz_bd hb
  obtain ⟨r, hr, hrs⟩ := sz_pow hb
  have hm : ba.tmod (sz bi) = 0 := by unfold vNet at h; simp only [Bool.and_eq_true, beq_iff_eq] at h; exact h.2.2
  rw [Int.tmod_eq_emod_of_nonneg (by omega)] at hm
  obtain ⟨q, hq⟩ := Int.dvd_of_emod_eq_zero hm
  have hlt : q < r := by
    rcases Int.lt_or_le q r with h2 | h2
    · exact h2
    · have := Int.mul_le_mul_of_nonneg_left h2 (show (0 : Int) ≤ sz bi by omega)
      rw [Int.mul_comm (sz bi) r] at this
      omega
  have := Int.mul_le_mul_of_nonneg_left (show q + 1 ≤ r by omega) (show (0 : Int) ≤ sz bi by omega)
  rw [Int.mul_add, Int.mul_one, Int.mul_comm (sz bi) r] at this
  omega
/-- InNet of an address at a valid plan's net: whether it has a block. -/
theorem inNet_own {ba bi fi si a x : Int} (h : ownB ba bi fi si a = true) : (vNet ba bi && (inB x 0 65535 && inN ba bi x)) = ownB ba bi fi si x := by
  obtain ⟨hv, _⟩ := own_vp h
  have hn := vPlan_net hv
  have ht := net_top hn
  have hb := inB_true (vNet_base hn)
  unfold ownB
  rw [hv, hn]
  cases hi : inN ba bi x
  · simp
  · have := inB_true hi
    rw [inB_mk (n := x) (by omega) (by omega)]
    rfl
/-- The net's first address has the first block. -/
theorem blk_base {ba bi fi si a : Int} (h : ownB ba bi fi si a = true) : blkOf ba bi fi si ba = fi := by
  obtain ⟨hv, hi⟩ := own_vp h
  have h6 := inB_true hi
  have ho : ownB ba bi fi si ba = true := by unfold ownB; rw [hv]; exact inB_mk (by omega) (by omega)
  rw [blk_eq ho]
  simp
end Go.Proofs.Ytaneiilbkkfnoaa
