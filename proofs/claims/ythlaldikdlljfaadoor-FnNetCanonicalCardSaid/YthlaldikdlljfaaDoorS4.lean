/- Plain words on texts of tables. No program. -/
import Derived.Test.YthlaldikdlljfaaDoorSP
import Derived.Test.YthlaldikdlljfaaDoorTP
import Derived.Lib.Join
namespace Go.Proofs.YthlaldikdlljfaaDoor

/-- The part of a mapping. -/
def partB (m : Mpg) : ByteArray := fmtEnd m.ad m.ep ++ ⟨#[32]⟩ ++ dec m.po ++ ⟨#[32]⟩ ++ dec m.la
def partL (m : Mpg) : List UInt8 := (partB m).data.toList
def tabL (l : List Mpg) : List UInt8 := Lib.join (l.map partL) [59, 32]
/-- The text of a table. -/
def tabT (l : List Mpg) : ByteArray := if vTab l then ⟨(tabL l).toArray⟩ else ⟨#[]⟩
/-- The text of the first mappings, as the reference makes it. -/
def accT (l : List Mpg) : Nat → ByteArray
  | 0 => ⟨#[]⟩
  | k + 1 => (if k = 0 then accT l k else accT l k ++ ⟨#[59, 32]⟩) ++ fmtEnd (mn l k).ad (mn l k).ep ++ ⟨#[32]⟩ ++ dec (mn l k).po ++ ⟨#[32]⟩ ++ dec (mn l k).la
theorem join_snoc {xs : List (List UInt8)} (h : xs ≠ []) (x sep : List UInt8) : Lib.join (xs ++ [x]) sep = Lib.join xs sep ++ (sep ++ x) := by
  cases xs with
  | nil => exact absurd rfl h
  | cons y r =>
    rw [List.cons_append, Lib.join_cons, Lib.join_cons]
    unfold Lib.joinTail
    simp
theorem accT_list (l : List Mpg) : ∀ k, k ≤ l.length → (accT l k).data.toList = tabL (l.take k)
  | 0, _ => by simp [accT, tabL, Lib.join_nil]
  | k + 1, h => by
    have ih := accT_list l k (by omega)
    have hm : l[k]? = some (mn l k) := by simp [mn, show k < l.length by omega]
    have ht : l.take (k + 1) = l.take k ++ [mn l k] := by rw [List.take_add_one, hm]; rfl
    unfold tabL at ih ⊢
    rw [ht, List.map_append]
    unfold accT
    by_cases hk : k = 0
    · subst hk
      rw [if_pos rfl]
      simp [Lib.join_one, partL, partB, ByteArray.data_append, accT]
    · rw [if_neg hk]
      have hne : (l.take k).map partL ≠ [] := by
        intro e
        have := congrArg List.length e
        rw [List.length_map, List.length_take, List.length_nil] at this
        omega
      rw [List.map_singleton, join_snoc hne, ← ih]
      simp [partL, partB, ByteArray.data_append]
theorem accT_all (l : List Mpg) (h : vTab l = true) : accT l l.length = tabT l := by
  have := accT_list l l.length (Nat.le_refl _)
  rw [List.take_length] at this
  unfold tabT
  rw [h, if_pos rfl, ← this]
theorem fmtEnd_size {a p : Int} (h1 : 0 ≤ a) (h2 : a ≤ 65535) (h3 : 0 ≤ p) (h4 : p ≤ 65535) : (fmtEnd a p).size ≤ 70000 := by
  have x := addrT_size h1 h2
  have y := dec_size p
  unfold fmtEnd fmtE
  split
  · simp only [ByteArray.size_append]
    show _ + 1 + _ ≤ _
    omega
  · exact Nat.zero_le _
/-- The sizes of a valid mapping's pieces. -/
theorem piece_size {l : List Mpg} (h : vTab l = true) {k : Nat} (hk : k < l.length) : (fmtEnd (mn l k).ad (mn l k).ep).size ≤ 70000 ∧ (dec (mn l k).po).size ≤ 1100 ∧ (dec (mn l k).la).size ≤ 10100 := by
  obtain ⟨⟨⟨a1, a2⟩, a3, a4⟩, ⟨b1, b2⟩, c1, c2⟩ := okM_iff.1 (tab_at h hk).1
  have x := dec_size (mn l k).po
  have y := dec_size (mn l k).la
  exact ⟨fmtEnd_size a1 a2 a3 a4, by omega, by omega⟩
theorem accT_size {l : List Mpg} (h : vTab l = true) : ∀ k, k ≤ l.length → (accT l k).size ≤ k * 90000
  | 0, _ => Nat.zero_le _
  | k + 1, hk => by
    have ih := accT_size h k (by omega)
    obtain ⟨p1, p2, p3⟩ := piece_size h (show k < l.length by omega)
    unfold accT
    simp only [ByteArray.size_append]
    have : (if k = 0 then accT l k else accT l k ++ ⟨#[59, 32]⟩).size ≤ (accT l k).size + 2 := by
      split
      · omega
      · rw [ByteArray.size_append]; exact Nat.le_refl _
    show _ + _ + 1 + _ + 1 + _ ≤ _
    omega
theorem part_size {l : List Mpg} (h : vTab l = true) {k : Nat} (hk : k < l.length) : (partL (mn l k)).length ≤ 90000 := by
  obtain ⟨p1, p2, p3⟩ := piece_size h hk
  unfold partL
  rw [← size_list]
  unfold partB
  simp only [ByteArray.size_append]
  show _ + 1 + _ + 1 + _ ≤ _
  omega
theorem tabL_len {l : List Mpg} (h : vTab l = true) : (tabL l).length ≤ 1000000 := by
  have h1 := accT_list l l.length (Nat.le_refl _)
  rw [List.take_length] at h1
  rw [← h1, ← size_list]
  have h2 := accT_size h l.length (Nat.le_refl _)
  have h3 := (vTab_iff.1 h).2
  omega
end Go.Proofs.YthlaldikdlljfaaDoor
