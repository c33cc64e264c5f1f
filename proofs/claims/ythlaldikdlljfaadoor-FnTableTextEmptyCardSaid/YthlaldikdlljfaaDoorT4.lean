/- Contracts of RecordsBetween, the program's: the records that lead from one table to another. -/
import Derived.Test.YthlaldikdlljfaaDoorT3
import Derived.Test.YthlaldikdlljfaaDoorRG2
import Derived.Deep.DeepMust
namespace Go.Proofs.YthlaldikdlljfaaDoor
open Go.RowKit

def isM (m n : Mpg) : Bool := isE n m.ad m.ep && isP n m.po
theorem has_idx (l : List Mpg) (m : Mpg) : decide (0 ≤ idx (fun k => isM m (mn l k)) l.length) = hasM l m := by
  rcases idx_cases (fun k => isM m (mn l k)) l.length with ⟨k, hk, h1, _, e⟩ | ⟨h1, e⟩
  · rw [e]
    have : hasM l m = true := by
      dsimp only [isM] at h1
      rw [Bool.and_eq_true, isE_iff, isP_iff] at h1
      exact hasM_iff.2 ⟨k, hk, h1.1.1, h1.1.2, h1.2⟩
    rw [this, decide_eq_true_eq]; omega
  · rw [e]
    cases hh : hasM l m
    · rfl
    · obtain ⟨k, hk, e1, e2, e3⟩ := hasM_iff.1 hh
      have := h1 k hk
      dsimp only [isM] at this
      rw [isE_iff.2 ⟨e1, e2⟩, isP_iff.2 e3] at this
      cases this
/-- The records of the first k mappings of a that b has not. -/
def mis (a b : List Mpg) (now : Int) (ov : Bool) (k : Nat) : List Rec := ((a.take k).filter (fun m => !hasM b m)).map (recOf now ov)
theorem mis_succ {a b : List Mpg} {now : Int} {ov : Bool} {k : Nat} (hk : k < a.length) : mis a b now ov (k + 1) = mis a b now ov k ++ if hasM b (mn a k) then [] else [recOf now ov (mn a k)] := by
  unfold mis
  rw [List.take_add_one, List.getElem?_eq_getElem hk, List.filter_append, List.map_append]
  congr 1
  have : mn a k = a[k] := by simp [mn, hk]
  rw [this]
  cases h : hasM b a[k] <;> simp [h]
theorem mis_len (a b : List Mpg) (now : Int) (ov : Bool) (k : Nat) : (mis a b now ov k).length ≤ k := by
  unfold mis
  rw [List.length_map]
  exact Nat.le_trans (List.length_filter_le _ _) (by rw [List.length_take]; omega)

end Go.Proofs.YthlaldikdlljfaaDoor
