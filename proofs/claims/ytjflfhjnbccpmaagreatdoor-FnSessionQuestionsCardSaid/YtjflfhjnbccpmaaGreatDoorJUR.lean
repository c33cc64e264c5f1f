/- Joined: UR. -/
import Derived.Test.YtjflfhjnbccpmaaGreatDoorJ14
set_option linter.unusedVariables false
set_option linter.unusedSimpArgs false
namespace Go.Proofs.YtjflfhjnbccpmaaGreatDoor
/-- At the same time nothing goes. -/
theorem tick_same {g g' : Gt} (h : tickG g (g.no + 0) = some g') : g'.tb = g.tb ∧ g'.cs = g.cs := by
  rw [Int.add_zero] at h
  unfold tickG at h
  split at h
  · rename_i hv
    rw [Bool.and_eq_true] at hv
    injection h with h
    subst h
    have v4 := (vGate_list.1 hv.1).2.2.2.1
    have hk : ∀ m ∈ g.tb, keepM g.no g.ho m = true := fun m hm => (v4 m hm).2.2
    have h1 : exM g.tb g.no g.ho g.tb.length = g.tb := by
      unfold exM
      rw [List.take_length, List.filter_eq_self]
      exact hk
    have h2 : goneP g.tb g.no g.ho g.tb.length = [] := by
      unfold goneP
      rw [List.take_length, List.map_eq_nil_iff, List.filter_eq_nil_iff]
      intro m hm
      rw [hk m hm]; simp
    refine ⟨h1, ?_⟩
    show dropC g.cs _ = _
    rw [h2]
    unfold dropC
    simp
  · cases h
/-- What count prints. -/
def countL (g : Gt) : List UInt8 := dl g.tb.length ++ 32 :: dl g.cs.length
theorem line_count (g : Gt) : lineL g countW = (countL g, g) := by
  unfold lineL
  rw [if_neg (by decide), if_neg (by decide), if_neg (by decide), if_neg (by decide), if_pos (by decide)]; rfl
theorem line_table (g : Gt) : lineL g tableW = ((tabT g.tb).data.toList, g) := by
  unfold lineL
  rw [if_neg (by decide), if_neg (by decide), if_neg (by decide), if_pos (by decide)]
def wait0W : List UInt8 := [119, 97, 105, 116, 32, 48]
def filter9W : List UInt8 := [102, 105, 108, 116, 101, 114, 32, 57]
theorem line_wait0 (g : Gt) (h0 : numV [48] = 0) : ∃ o g', lineL g wait0W = (o, g') ∧ countL g' = countL g := by
  unfold lineL
  rw [if_neg (by decide), if_pos (by decide), show wn (spl wait0W 32) 1 = [48] by decide, h0]
  unfold waitL
  rw [if_neg (by decide)]
  cases h : tickG g (g.no + 0) with
  | none => exact ⟨_, _, rfl, rfl⟩
  | some g' =>
    obtain ⟨h1, h2⟩ := tick_same h
    exact ⟨_, _, rfl, by unfold countL; rw [h1, h2]⟩
theorem line_filter9 (g : Gt) (h9 : numV [57] = 9) : lineL g filter9W = (noL, g) := by
  unfold lineL
  rw [if_neg (by decide), if_neg (by decide), if_pos (by decide), show wn (spl filter9W 32) 1 = [57] by decide, h9]
  unfold filterL
  rw [if_neg (by decide)]
/-- With questions behind all lines, count prints the same. -/
theorem questions (ls : List (List UInt8)) (h : ls.length + 4 ≤ 20) (h0 : numV [48] = 0) (h9 : numV [57] = 9) :
    ∃ x m, 0 < m.length ∧ sesL (ls ++ [countW]) = sesL ls ++ x ∧ sesL (ls ++ [tableW, wait0W, filter9W, countW]) = sesL ls ++ (m ++ x) := by
  obtain ⟨o, g', hw, hc⟩ := line_wait0 (runL gate0 ls).2 h0
  refine ⟨countL (runL gate0 ls).2 ++ [10], (tabT (runL gate0 ls).2.tb).data.toList ++ 10 :: (o ++ 10 :: (noL ++ [10])), by simp; omega, ?_, ?_⟩
  · unfold sesL
    rw [List.take_of_length_le (by simp; omega), List.take_of_length_le (by omega), runL_app]
    simp only [runL, line_count]
  · unfold sesL
    rw [List.take_of_length_le (by simp; omega), List.take_of_length_le (by omega), runL_app]
    simp only [runL, line_table, hw, line_filter9 _ h9, line_count, hc]
    simp
end Go.Proofs.YtjflfhjnbccpmaaGreatDoor
