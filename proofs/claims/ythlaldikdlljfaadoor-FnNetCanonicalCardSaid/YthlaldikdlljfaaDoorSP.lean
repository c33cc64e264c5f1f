/- Plain words on texts of ends and nets: their bytes. No program. -/
import Derived.Test.YthlaldikdlljfaaDoorS2
namespace Go.Proofs.YthlaldikdlljfaaDoor

/-- The digits of a number. -/
def dl (n : Int) : List UInt8 := Lib.decDigits n.toNat
theorem dec_list (n : Int) : (dec n).data.toList = dl n := by unfold dec dl; simp
theorem digits_ne : ∀ u : Nat, Lib.decDigits u ≠ [] := by
  intro u
  rw [Lib.decDigits]
  split <;> simp
theorem dl_pos (n : Int) : 0 < (dl n).length := by
  have := digits_ne n.toNat
  unfold dl
  cases h : Lib.decDigits n.toNat with
  | nil => exact absurd h this
  | cons _ _ => simp
theorem digits_dig : ∀ u : Nat, ∀ b ∈ Lib.decDigits u, 48 ≤ b.toNat ∧ b.toNat ≤ 57 := by
  intro u
  induction u using Nat.strongRecOn with
  | ind u ih =>
    intro b hb
    rw [Lib.decDigits] at hb
    split at hb
    · rename_i h
      obtain rfl := List.mem_singleton.1 hb
      simp
      omega
    · rename_i h
      rcases List.mem_append.1 hb with hb | hb
      · exact ih (u / 10) (by omega) b hb
      · obtain rfl := List.mem_singleton.1 hb
        simp
        omega
theorem dl_dig {n : Int} {b : UInt8} (h : b ∈ dl n) : 48 ≤ b.toNat ∧ b.toNat ≤ 57 := digits_dig _ b h
def aL (a : Int) : List UInt8 := dl (a / 256) ++ 46 :: dl (a % 256)
theorem addrT_list (a : Int) : (addrT a).data.toList = aL a := by
  unfold addrT aL
  simp [ByteArray.data_append, ← dec_list]
theorem fmtE_list (a p : Int) : (fmtE a p).data.toList = aL a ++ 58 :: dl p := by
  unfold fmtE
  simp [ByteArray.data_append, ← dec_list, ← addrT_list]
theorem fmtN_list (a p : Int) : (fmtN a p).data.toList = aL a ++ 47 :: dl p := by
  unfold fmtN
  simp [ByteArray.data_append, ← dec_list, ← addrT_list]
theorem size_list (s : ByteArray) : s.size = s.data.toList.length := Array.length_toList.symm
/-- Where the point stands, and the colon. -/
def ptE (a : Int) : Nat := (dl (a / 256)).length
def coE (a : Int) : Nat := (aL a).length
theorem coE_eq (a : Int) : coE a = ptE a + 1 + (dl (a % 256)).length := by unfold coE ptE aL; rw [List.length_append, List.length_cons]; omega
theorem fmtE_size (a p : Int) : (fmtE a p).size = coE a + 1 + (dl p).length := by rw [size_list, fmtE_list, List.length_append, List.length_cons]; unfold coE; omega
theorem fmtN_size (a p : Int) : (fmtN a p).size = coE a + 1 + (dl p).length := by rw [size_list, fmtN_list, List.length_append, List.length_cons]; unfold coE; omega
/-- The byte at a place. -/
def byt (s : ByteArray) (k : Nat) : Int := ((s.data.toList[k]?.getD 0).toNat : Int)
theorem aL_at {a : Int} {k : Nat} (h : k < coE a) : (k = ptE a ∧ (aL a)[k]? = some 46) ∨ (k ≠ ptE a ∧ ∃ b, (aL a)[k]? = some b ∧ 48 ≤ b.toNat ∧ b.toNat ≤ 57) := by
  rw [coE_eq] at h
  unfold aL ptE at *
  rcases Nat.lt_trichotomy k (dl (a / 256)).length with h1 | h1 | h1
  · exact .inr ⟨by omega, _, (List.getElem?_append_left h1).trans (List.getElem?_eq_getElem h1), dl_dig (List.getElem_mem _)⟩
  · exact .inl ⟨h1, by rw [List.getElem?_append_right (by omega), h1]; simp⟩
  · refine .inr ⟨by omega, ?_⟩
    obtain ⟨j, rfl⟩ : ∃ j, k = (dl (a / 256)).length + 1 + j := ⟨k - (dl (a / 256)).length - 1, by omega⟩
    have hj : j < (dl (a % 256)).length := by omega
    refine ⟨(dl (a % 256))[j], ?_, dl_dig (List.getElem_mem _)⟩
    rw [List.getElem?_append_right (by omega), show (dl (a / 256)).length + 1 + j - (dl (a / 256)).length = j + 1 by omega, List.getElem?_cons_succ]
    exact List.getElem?_eq_getElem hj
/-- Each byte of an end's text is the point, the colon, or a digit. -/
theorem fmtE_at {a p : Int} {k : Nat} (h : k < (fmtE a p).size) :
    (k = ptE a ∧ byt (fmtE a p) k = 46) ∨ (k = coE a ∧ byt (fmtE a p) k = 58) ∨ (k ≠ ptE a ∧ k ≠ coE a ∧ 48 ≤ byt (fmtE a p) k ∧ byt (fmtE a p) k ≤ 57) := by
  rw [fmtE_size] at h
  have hc := coE_eq a
  unfold byt
  rw [fmtE_list]
  rcases Nat.lt_trichotomy k (coE a) with h1 | h1 | h1
  · rw [List.getElem?_append_left h1]
    rcases aL_at h1 with ⟨e, x⟩ | ⟨e, b, x, h2, h3⟩
    · exact .inl ⟨e, by rw [x]; rfl⟩
    · exact .inr (.inr ⟨e, by omega, by rw [x, Option.getD_some]; omega, by rw [x, Option.getD_some]; omega⟩)
  · refine .inr (.inl ⟨h1, ?_⟩)
    rw [List.getElem?_append_right (by unfold coE at h1; omega), show k - (aL a).length = 0 by unfold coE at h1; omega]; rfl
  · refine .inr (.inr ⟨by omega, by omega, ?_⟩)
    obtain ⟨j, rfl⟩ : ∃ j, k = (aL a).length + (j + 1) := ⟨k - (aL a).length - 1, by unfold coE at h1; omega⟩
    have hj : j < (dl p).length := by unfold coE at h; omega
    rw [List.getElem?_append_right (by omega), show (aL a).length + (j + 1) - (aL a).length = j + 1 by omega, List.getElem?_cons_succ, List.getElem?_eq_getElem hj]
    have := dl_dig (List.getElem_mem hj)
    rw [Option.getD_some]
    omega
end Go.Proofs.YthlaldikdlljfaaDoor
