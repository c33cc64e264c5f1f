/- Contract of the generator: addresses at a net. -/
import Derived.Test.YtaneiilbkkfnoaaG3
namespace Go.Proofs.Ytaneiilbkkfnoaa
open Go.RowKit

section
variable {w w1 w2 : World} {g : Nat} {v0 v1 : Value}
theorem keepS (hS : w1.cell? ⟨w.heap.size, 0, none⟩ = some v0 ∧ w1.cell? ⟨w.heap.size, 1, none⟩ = some v1 ∧ w.grownBy w1 (some g) ∧ w.heap.size < w1.heap.size) (hq : Below w1.heap.size w1 w2) :
    w2.cell? ⟨w.heap.size, 0, none⟩ = some v0 ∧ w2.cell? ⟨w.heap.size, 1, none⟩ = some v1 ∧ w.grownBy w2 (some g) ∧ w.heap.size < w2.heap.size := by
  obtain ⟨h0, h1, hG, hl⟩ := hS
  exact ⟨(hq.cell hl).trans h0, (hq.cell hl).trans h1, grown_trans hG (grown_of_below hq _), Nat.lt_of_lt_of_le hl hq.size⟩
theorem keepP (hg : g < w.heap.size) (hS : w1.cell? ⟨w.heap.size, 0, none⟩ = some v0 ∧ w1.cell? ⟨w.heap.size, 1, none⟩ = some v1 ∧ w.grownBy w1 (some g) ∧ w.heap.size < w1.heap.size)
    (h : w1.grownBy w2 (some g)) :
    w2.cell? ⟨w.heap.size, 0, none⟩ = some v0 ∧ w2.cell? ⟨w.heap.size, 1, none⟩ = some v1 ∧ w.grownBy w2 (some g) ∧ w.heap.size < w2.heap.size := by
  obtain ⟨h0, h1, hG, hl⟩ := hS
  have hc : ∀ o, w2.cell? ⟨w.heap.size, o, none⟩ = w1.cell? ⟨w.heap.size, o, none⟩ := fun o => World.cell?_of_block (h.block _ hl (fun e => by have e : some w.heap.size = some g := e; injection e with e; omega))
  exact ⟨(hc 0).trans h0, (hc 1).trans h1, grown_trans hG h, Nat.lt_of_lt_of_le hl h.size⟩
end

theorem c_addrNear_none (g p : Nat) (ba bi : Int) (w : World) (hr : Rdr w g p) (hp : p ≤ 1099511623000) (hv : vNet ba bi = false) :
    Calls Try.prog 53 #[.pointer (some ⟨g, 0, none⟩), .agg #[.int .i64 ba, .int .i64 bi]] w (GenI w g p 20 (-1) 131071) := by
  go_enter Try.func53, Try.ntmps53
  go_wp2_with fail
  have hgl := hr.lt
  refine (c_validNet _ _ _).mono ?_
  rw [hv]
  rintro e w1 ⟨rfl, hq⟩
  have hr1 : Rdr w1 g p := (hr.alloc _).to hq
  have h1 := grown_trans (grown_alloc (World.grownBy.refl w (some g)) (.cells #[.int .i64 ba, .int .i64 bi] 24)) (grown_of_below hq (some g))
  go_wp2_with fail
  refine (c_someWord _ _ _ hr1 (by omega)).mono ?_
  rintro e w2 ⟨x, p', rfl, hx1, hx2, hr2, hp', h2⟩
  go_wp2
  go_ret
  exact ⟨x, p', rfl, by omega, by omega, hr2, by omega, grown_trans h1 h2⟩
end Go.Proofs.Ytaneiilbkkfnoaa
