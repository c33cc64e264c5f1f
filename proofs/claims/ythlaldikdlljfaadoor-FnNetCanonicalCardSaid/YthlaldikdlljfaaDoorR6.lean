/- Contracts of the laws' own helpers on records: copies, comparisons. -/
import Derived.Test.YthlaldikdlljfaaDoorR4
namespace Go.Proofs.YthlaldikdlljfaaDoor
open Go.RowKit

theorem RR.c5 {w : World} {b off : Nat} {l : List Rec} {k : Nat} (h : RR w (some ⟨b, off, none⟩) l) (hk : k < l.length) :
    w.cell? ⟨b, off + k * 5, none⟩ = some (.int .i64 (rn l k).at_) ∧ w.cell? ⟨b, off + k * 5 + 1, none⟩ = some (.int .i64 (rn l k).po) ∧ w.cell? ⟨b, off + k * 5 + 2, none⟩ = some (.int .i64 (rn l k).ad) ∧
      w.cell? ⟨b, off + k * 5 + 3, none⟩ = some (.int .i64 (rn l k).ep) ∧ w.cell? ⟨b, off + k * 5 + 4, none⟩ = some (.bool (rn l k).ov) := by
  obtain ⟨b', off', e, _, h⟩ := h.get hk
  cases e
  exact h
section
variable {w w' : World} {lo hi lo' hi' n c : Nat} {A : Option Addr} {l : List Rec}
theorem RR.of_blk {g : Nat} {t : TypeId} {cur : Array Value} (hb : Blk w g t cur) (h : ∀ j, j < l.length * 5 → cur[j]? = (recCs l)[j]?) : RR w (some ⟨g, 0, none⟩) l := fun i v hi => by
  have hil : i < l.length * 5 := by
    rcases Nat.lt_or_ge i (l.length * 5) with h1 | h1
    · exact h1
    · rw [List.getElem?_eq_none (by rw [recCs_len]; exact h1)] at hi; cases hi
  exact ⟨g, 0, rfl, hb.lt, by rw [Nat.zero_add, hb.cell, h i hil]; exact hi⟩
theorem RR.blk {g : Nat} {t : TypeId} {cur : Array Value} (hb : Blk w g t cur) (h : RR w (some ⟨g, 0, none⟩) l) : ∀ j, j < l.length * 5 → cur[j]? = (recCs l)[j]? := fun j hj => by
  have hjl : j < (recCs l).length := by rw [recCs_len]; exact hj
  obtain ⟨b', off', e, _, hc⟩ := h j _ (List.getElem?_eq_getElem hjl)
  cases e
  rw [List.getElem?_eq_getElem hjl, ← hc, Nat.zero_add, hb.cell]
end

theorem c_eqEnd (x y : Int) (w : World) : Calls Tryd.prog 36 #[.agg #[.int .i64 x, .int .i64 y], .agg #[.int .i64 x, .int .i64 y]] w fun e w' => e = .returned (.bool true) ∧ Below w.heap.size w w' := by
  have t1 : (x != x) = false := by simp
  have t2 : (y != y) = false := by simp
  go_enter Tryd.func36, Tryd.ntmps36
  go_wp2
  go_ret
  exact ⟨rfl, ((Below.refl _ _).alloc (Nat.le_refl _) _).alloc (by simp) _⟩

end Go.Proofs.YthlaldikdlljfaaDoor
