/- Plain laws of owners of ports: no program in sight. -/
import Derived.Test.YtaneiilbkkfnoaaBP
namespace Go.Proofs.Ytaneiilbkkfnoaa

theorem ownOf_pos {ba bi fi si p : Int} (h : ¬ ownOf ba bi fi si p < 0) : vPlan ba bi fi si = true ∧ fi ≤ p ∧ p ≤ fi + sz bi * si - 1 := by
  unfold ownOf at h
  cases hv : vPlan ba bi fi si
  · rw [hv] at h; simp at h
  cases hi : inB p fi (fi + sz bi * si - 1)
  · rw [hi, Bool.and_false, if_neg (by decide)] at h; omega
  · have := inB_true hi; exact ⟨rfl, this.1, this.2⟩
theorem ownOf_no {ba bi fi si p : Int} (h : p < fi ∨ fi + sz bi * si - 1 < p) : ownOf ba bi fi si p = -1 := by
  unfold ownOf; rw [inB_no (by omega), Bool.and_false, if_neg (by decide)]
theorem ownOf_qr {ba bi fi si p : Int} (hv : vPlan ba bi fi si = true) (h1 : fi ≤ p) (h2 : p ≤ fi + sz bi * si - 1) :
    ∃ q r : Int, ownOf ba bi fi si p = ba + q ∧ p = fi + q * si + r ∧ 0 ≤ r ∧ r < si ∧ 0 ≤ q ∧ q < sz bi := by
  have hs := vPlan_size hv
  refine ⟨(p - fi) / si, (p - fi) % si, ?_, ?_, Int.emod_nonneg _ (by omega), Int.emod_lt_of_pos _ (by omega), Int.ediv_nonneg (by omega) (by omega), ?_⟩
  · unfold ownOf; rw [hv, inB_mk h1 h2, Bool.and_self, if_pos rfl, Int.tdiv_eq_ediv_of_nonneg (by omega)]
  · have := Int.emod_add_mul_ediv (p - fi) si
    rw [Int.mul_comm si] at this
    omega
  · exact Int.ediv_lt_of_lt_mul (by omega) (by omega)
theorem ownB_q {ba bi fi si q : Int} (hv : vPlan ba bi fi si = true) (h0 : 0 ≤ q) (h1 : q < sz bi) : ownB ba bi fi si (ba + q) = true := by
  unfold ownB; rw [hv]; exact inB_mk (by omega) (by omega)
theorem blkOf_q {ba bi fi si q : Int} (hv : vPlan ba bi fi si = true) (h0 : 0 ≤ q) (h1 : q < sz bi) : blkOf ba bi fi si (ba + q) = fi + q * si := by
  rw [blk_eq (ownB_q hv h0 h1), show ba + q - ba = q by omega]
theorem ownOf_back {ba bi fi si q k : Int} (hv : vPlan ba bi fi si = true) (h0 : 0 ≤ q) (h1 : q < sz bi) (k0 : 0 ≤ k) (k1 : k < si) : ownOf ba bi fi si (fi + q * si + k) = ba + q := by
  have := ownOf_block (ownB_q hv h0 h1) k0 k1
  rwa [show ba + q - ba = q by omega] at this
theorem ownOf_first {ba bi fi si : Int} (hv : vPlan ba bi fi si = true) : ownOf ba bi fi si fi = ba := by
  have hs := sz_bd (vNet_bits (vPlan_net hv))
  have h := ownOf_back (q := 0) (k := 0) hv (by omega) (by omega) (by omega) (by have := vPlan_size hv; omega)
  simpa using h
/-- The owner of the port before is the same, or the one before. -/
theorem ownOf_before {ba bi fi si q r : Int} (hv : vPlan ba bi fi si = true) (h0 : 0 ≤ q) (h1 : q < sz bi) (k0 : 0 ≤ r) (k1 : r < si) (hp : fi + q * si + r ≠ fi) :
    ownOf ba bi fi si (fi + q * si + r - 1) = ba + q ∨ ownOf ba bi fi si (fi + q * si + r - 1) = ba + q - 1 := by
  rcases Int.lt_or_le 0 r with hr | hr
  · left
    have := ownOf_back (k := r - 1) hv h0 h1 (by omega) (by omega)
    rwa [show fi + q * si + (r - 1) = fi + q * si + r - 1 by omega] at this
  · right
    obtain rfl : r = 0 := by omega
    have hq : q ≠ 0 := by intro e; subst e; simp at hp
    have hs := vPlan_size hv
    have := ownOf_back (q := q - 1) (k := si - 1) hv (by omega) (by omega) (by omega) (by omega)
    rw [Int.sub_mul, Int.one_mul] at this
    rw [show fi + q * si + 0 - 1 = fi + (q * si - si) + (si - 1) by omega, this]
    omega
theorem plan_bd {ba bi fi si q : Int} (hv : vPlan ba bi fi si = true) (h0 : 0 ≤ q) (h1 : q < sz bi) :
    0 ≤ ba + q ∧ ba + q ≤ 65535 ∧ 0 ≤ ba ∧ ba ≤ 65535 ∧ 1 ≤ fi ∧ fi ≤ 65535 ∧ 1 ≤ si ∧ si ≤ 16 ∧ 1 ≤ fi + q * si ∧ fi + q * si + si - 1 ≤ 65535 := by
  have hn := vPlan_net hv
  have ht := net_top hn
  have hb := own_bd (ownB_q hv h0 h1)
  rw [show ba + q - ba = q by omega] at hb
  omega
theorem plan_last {ba bi fi si : Int} (hv : vPlan ba bi fi si = true) : fi + si ≤ fi + sz bi * si := by
  have hs := sz_bd (vNet_bits (vPlan_net hv))
  have h2 := vPlan_size hv
  have := Int.mul_le_mul_of_nonneg_right (a := 1) (b := sz bi) (c := si) (by omega) (by omega)
  omega
end Go.Proofs.Ytaneiilbkkfnoaa
