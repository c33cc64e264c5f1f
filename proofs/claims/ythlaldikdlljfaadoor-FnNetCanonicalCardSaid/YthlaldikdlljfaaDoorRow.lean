/- How the slices of an argument, as the row's frame opens them, read as lists. No conditions. -/
import Derived.Test.YthlaldikdlljfaaDoorBase
import Derived.OpenShut
namespace Go.Proofs.YthlaldikdlljfaaDoor
open Go.RowKit

/-- The n cells behind A are bytes. -/
def RB (w : World) (A : Option Addr) (n : Nat) : Prop :=
  ∀ k, k < n → ∃ b off x, A = some ⟨b, off, none⟩ ∧ b < w.heap.size ∧ w.cell? ⟨b, off + k, none⟩ = some (.int .u8 x) ∧ 0 ≤ x ∧ x ≤ 255
theorem RB.to {w w' : World} {A : Option Addr} {n : Nat} (h : RB w A n) (hb : Below w.heap.size w w') : RB w' A n := fun k hk => by
  obtain ⟨b, off, x, rfl, hlt, hc, hx⟩ := h k hk
  exact ⟨b, off, x, rfl, Nat.lt_of_lt_of_le hlt hb.size, (hb.cell (p := ⟨b, off + k, none⟩) hlt).trans hc, hx⟩
theorem RB.le {w : World} {A : Option Addr} {n m : Nat} (h : RB w A n) (hm : m ≤ n) : RB w A m := fun k hk => h k (by omega)

theorem cell_of_add {w : World} {x : Addr} {i : Nat} {v : Value} (h : w.cell? (x.add i) = some v) (h0 : x.spot = none) :
    ∃ b off, x = ⟨b, off, none⟩ ∧ b < w.heap.size ∧ w.cell? ⟨b, off + i, none⟩ = some v := by
  obtain ⟨b, off, spot⟩ := x
  obtain rfl : spot = none := h0
  have hc : w.cell? ⟨b, off + i, none⟩ = some v := by
    unfold Addr.add at h
    split at h
    · rename_i h1; subst h1; simpa using h
    · simpa using h
  exact ⟨b, off, rfl, World.block_lt_of_cell? w ⟨b, off + i, none⟩ hc, hc⟩
theorem spot_of_cell0 {w : World} {x : Addr} {v : Value} (h : w.cell? (x.add 0) = some v) : x.spot = none := by
  have : w.cell? x = some v := by simpa [Addr.add] using h
  exact World.cell?_spot this

theorem row_ints {w : World} {a : Option Addr} {len cap : Nat} {zs : List Int}
    (h : (a = none ∧ len = 0 ∧ cap = 0 ∧ zs = []) ∨ ∃ x, a = some x ∧ len ≤ cap ∧ cap ≤ maxLen ∧ zs.length = cap ∧ (∀ i, i < zs.length → w.cell? (x.add i) = some (.int .i64 (zs.getD i 0))) ∧ ∀ n ∈ zs, (Lit.int .i64 n).wf = true) :
    ∃ ys : List Int, ys.length = len ∧ RI w a ys ∧ len ≤ cap ∧ ∀ y ∈ ys, -9223372036854775808 ≤ y ∧ y ≤ 9223372036854775807 := by
  rcases h with ⟨rfl, rfl, rfl, rfl⟩ | ⟨x, rfl, hl, hm, hz, hc, hw⟩
  · exact ⟨[], rfl, RI.nil _ _, Nat.le_refl _, by simp⟩
  · refine ⟨zs.take len, by simp; omega, fun k v hk => ?_, hl, fun y hy => ?_⟩
    · have hk' : k < len := by
        rcases Nat.lt_or_ge k len with h1 | h1
        · exact h1
        · rw [List.getElem?_eq_none (by simp; omega)] at hk; cases hk
      have hv : v = .int .i64 (zs.getD k 0) := by
        rw [List.getElem?_map, List.getElem?_take, if_pos hk', List.getElem?_eq_getElem (by omega)] at hk
        simp at hk
        rw [← hk, List.getD_eq_getElem?_getD, List.getElem?_eq_getElem (by omega)]; rfl
      subst hv
      obtain ⟨b, off, rfl, hb, hcc⟩ := cell_of_add (hc k (by omega)) (spot_of_cell0 (hc 0 (by omega)))
      exact ⟨b, off, rfl, hb, hcc⟩
    · exact Go.bounds_i64 (hw y (List.mem_of_mem_take hy))

theorem row_bytes {w : World} {a : Option Addr} {len cap : Nat} {zs : List Int}
    (h : (a = none ∧ len = 0 ∧ cap = 0 ∧ zs = []) ∨ ∃ x, a = some x ∧ len ≤ cap ∧ cap ≤ maxLen ∧ zs.length = cap ∧ (∀ i, i < zs.length → w.cell? (x.add i) = some (.int .u8 (zs.getD i 0))) ∧ ∀ n ∈ zs, (Lit.int .u8 n).wf = true) :
    RB w a len ∧ len ≤ cap ∧ cap ≤ maxLen := by
  rcases h with ⟨rfl, rfl, rfl, rfl⟩ | ⟨x, rfl, hl, hm, hz, hc, hw⟩
  · exact ⟨fun k hk => absurd hk (by omega), Nat.le_refl _, by unfold maxLen; omega⟩
  · refine ⟨fun k hk => ?_, hl, hm⟩
    obtain ⟨b, off, rfl, hb, hcc⟩ := cell_of_add (hc k (by omega)) (spot_of_cell0 (hc 0 (by omega)))
    have := Go.bounds_u8 (hw (zs.getD k 0) (by rw [List.getD_eq_getElem?_getD, List.getElem?_eq_getElem (by omega)]; simp))
    exact ⟨b, off, _, rfl, hb, hcc, this⟩
end Go.Proofs.YthlaldikdlljfaaDoor
