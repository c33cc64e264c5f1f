/- The ports that somebody has, found in any order and sorted: a plain law. No conditions. -/
import Derived.Test.YtaceadddggkkmaaRP
namespace Go.Proofs.Ytaceadddggkkmaa

theorem ports_sorted {l : List Rec} {now : Int} {ss : List Int} (h : vRec l = true) (hnd : ss.Nodup) (hm : ∀ p, p ∈ ss ↔ (ownP l p (upTo l now)).isSome = true) : (ss.mergeSort fun x y => decide (x ≤ y)) = ports l now := by
  have tr : ∀ a b c : Int, decide (a ≤ b) = true → decide (b ≤ c) = true → decide (a ≤ c) = true := fun a b c h1 h2 => by simp only [decide_eq_true_eq] at *; omega
  have to : ∀ a b : Int, (decide (a ≤ b) || decide (b ≤ a)) = true := fun a b => by simp only [Bool.or_eq_true, decide_eq_true_eq]; omega
  have hlt : (ports l now).Pairwise (fun a b => a < b) := by
    unfold ports
    rw [h, if_pos rfl]
    refine List.Pairwise.filter _ (List.pairwise_map.2 (List.pairwise_lt_range.imp ?_))
    intro a b hab
    omega
  have hp : ss.Perm (ports l now) := by
    refine (List.perm_ext_iff_of_nodup hnd (hlt.imp (fun h => by omega))).2 fun p => ?_
    rw [hm p, mem_ports]
    unfold who
    rw [h, if_pos rfl]
  refine List.Perm.eq_of_pairwise (le := fun a b => decide (a ≤ b) = true) (fun a b _ _ h1 h2 => ?_) (List.pairwise_mergeSort tr to ss) (hlt.imp (fun h => ?_)) ((List.mergeSort_perm ss _).trans hp)
  · simp only [decide_eq_true_eq] at h1 h2
    omega
  · rw [decide_eq_true_eq]; omega
theorem ports_no_len (l : List Rec) (now : Int) : (ports l now).length ≤ 8 := by
  unfold ports
  split
  · exact Nat.le_trans (List.length_filter_le _ _) (by simp)
  · exact Nat.zero_le _
end Go.Proofs.Ytaceadddggkkmaa
