/- Plain laws of blocks and owners: no program in sight. -/
import Derived.Test.YtaneiilbkkfnoaaB7
namespace Go.Proofs.Ytaneiilbkkfnoaa

theorem own_vp {ba bi fi si a : Int} (h : ownB ba bi fi si a = true) : vPlan ba bi fi si = true ∧ inN ba bi a = true := by
  unfold ownB at h; rw [Bool.and_eq_true] at h; exact h
theorem blk_own {ba bi fi si a : Int} (h : ¬ blkOf ba bi fi si a < 0) : ownB ba bi fi si a = true := by
  cases ho : ownB ba bi fi si a
  · exact absurd (by unfold blkOf; rw [ho, if_neg (by decide)]; decide) h
  · rfl
theorem blk_eq {ba bi fi si a : Int} (h : ownB ba bi fi si a = true) : blkOf ba bi fi si a = fi + (a - ba) * si := by unfold blkOf; rw [h]; rfl
theorem blk_no {ba bi fi si a : Int} (h : ownB ba bi fi si a = false) : blkOf ba bi fi si a = -1 := by unfold blkOf; rw [h]; rfl
theorem own_last {ba bi fi si a : Int} (h : ownB ba bi fi si a = true) : (a - ba) * si + si ≤ sz bi * si := by
  obtain ⟨hv, hi⟩ := own_vp h
  have h2 := vPlan_size hv; have h6 := inB_true hi
  have h8 : (a - ba + 1) * si ≤ sz bi * si := Int.mul_le_mul_of_nonneg_right (by omega) (by omega)
  rw [Int.add_mul, Int.one_mul] at h8
  exact h8
/-- Each port of an address's block is owned by the address. -/
theorem ownOf_block {ba bi fi si a k : Int} (h : ownB ba bi fi si a = true) (h0 : 0 ≤ k) (h1 : k < si) : ownOf ba bi fi si (fi + (a - ba) * si + k) = a := by
  have hb := own_bd h
  have hl := own_last h
  unfold ownOf
  rw [(own_vp h).1, inB_mk (by omega) (by omega)]
  have e : fi + (a - ba) * si + k - fi = k + (a - ba) * si := by omega
  rw [Bool.and_self, if_pos rfl, e, Int.tdiv_eq_ediv_of_nonneg (by omega), Int.add_mul_ediv_right _ _ (by omega), Int.ediv_eq_zero_of_lt h0 h1]
  omega
end Go.Proofs.Ytaneiilbkkfnoaa
