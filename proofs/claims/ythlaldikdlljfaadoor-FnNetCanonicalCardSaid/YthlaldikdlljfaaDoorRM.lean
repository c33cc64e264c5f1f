/- A map from ports to ends that the call itself makes: what it holds, and the laws of look-up, store and delete. No conditions. -/
import Derived.Test.YthlaldikdlljfaaDoorBase
import Derived.Test.YthlaldikdlljfaaDoorProg
import Derived.Test.YthlaldikdlljfaaDoorApp
import Derived.Maps.OwnSet
namespace Go.Proofs.YthlaldikdlljfaaDoor
open Go.RowKit Go.Maps

/-- How an element (an end) reads. -/
def endElem (v : Value) : Option (DataW Unit × List MemPlace) :=
  match v with
  | .agg cs => match cs.toList with
    | [.int .i64 a, .int .i64 b] => some (.agg [.lit (.int .i64 a), .lit (.int .i64 b)], [])
    | _ => none
  | _ => none
theorem endElem_mk (a b : Int) : endElem (.agg #[.int .i64 a, .int .i64 b]) = some (.agg [.lit (.int .i64 a), .lit (.int .i64 b)], []) := rfl
theorem endElem_inv {v : Value} {z : DataW Unit × List MemPlace} (h : endElem v = some z) : ∃ a b, v = .agg #[.int .i64 a, .int .i64 b] ∧ z = (.agg [.lit (.int .i64 a), .lit (.int .i64 b)], []) := by
  unfold endElem at h
  split at h
  · rename_i cs
    split at h
    · rename_i a b hl
      injection h with h
      refine ⟨a, b, ?_, h.symm⟩
      obtain ⟨l⟩ := cs
      simp at hl
      rw [hl]
    · cases h
  · cases h
theorem law : Keyed Tryd.prog 3 := int_keyed Tryd.underlying3
theorem zeroEnd (w : World) : (zeroValue 25).run Tryd.prog w = .ok (.agg #[.int .i64 0, .int .i64 0]) w := by kernel_rfl

/-- Block b is a map of at most n entries that holds f, port by port. -/
def OM (w : World) (b n : Nat) (f : Int → Option (Int × Int)) : Prop :=
  ∃ D : DataW Unit, w.ownsMap Tryd.prog 3 endElem b n D ∧ ∀ p, (f p = none ∧ Maps.has D (.int .i64 p) = false) ∨ ∃ x y, f p = some (x, y) ∧ Maps.has D (.int .i64 p) = true ∧ ∀ z, D.atKey (.int .i64 p) z = .agg [.lit (.int .i64 x), .lit (.int .i64 y)]
section
variable {w w' : World} {b n : Nat} {f f' : Int → Option (Int × Int)}
theorem OM.congr (h : OM w b n f) (e : ∀ p, f' p = f p) : OM w b n f' := by
  obtain ⟨D, h1, h2⟩ := h
  exact ⟨D, h1, fun p => by rw [e p]; exact h2 p⟩
theorem OM.made (w : World) : OM (w.alloc (.map #[] 0)) w.heap.size 0 (fun _ => none) := ⟨_, World.ownsMap_made _ _ _ _, fun _ => .inl ⟨rfl, rfl⟩⟩
theorem OM.mono (h : OM w b n f) {m : Nat} (hm : n ≤ m) : OM w b m f := by obtain ⟨D, h1, h2⟩ := h; exact ⟨D, h1.mono hm, h2⟩
theorem OM.lt (h : OM w b n f) : b < w.heap.size := by obtain ⟨D, h1, _⟩ := h; exact h1.lt
theorem OM.kept {row : Option Nat} (h : OM w b n f) (hg : w.grownBy w' row) (hne : some b ≠ row) : OM w' b n f := by obtain ⟨D, h1, h2⟩ := h; exact ⟨D, h1.kept hg hne, h2⟩
theorem OM.alloc (h : OM w b n f) (o : Obj) : OM (w.alloc o) b n f := h.kept (World.grownBy_alloc w o none) (by simp)
theorem OM.to (h : OM w b n f) (hb : Below w.heap.size w w') : OM w' b n f := h.kept (grown_of_below hb none) (by simp)
theorem OM.drewN (h : OM w b n f) (k : Nat) : OM (w.drewN k) b n f := h.to (Bl.of_drewN w k)
theorem OM.far (h : OM w b n f) {p : Addr} (hp : b ≠ p.block) (u : Value) : OM (w.setCell p u) b n f := by obtain ⟨D, h1, h2⟩ := h; exact ⟨D, h1.setCell hp u, h2⟩
end
section
variable {P : Program} {w : World} {ops : Array Oper} {rest : List Oper} {o : Oper} {a : Act} {Q : Exit → Act → World → Prop} {b n : Nat} {f : Int → Option (Int × Int)}
theorem key_wf {p : Int} (h1 : -9223372036854775808 ≤ p) (h2 : p ≤ 9223372036854775807) : keyOf Tryd.prog 3 (.int .i64 p) = some (.int .i64 p) := keyOf_int_mk Tryd.underlying3 (WalkArith.wf_i64 ⟨h1, h2⟩)
end
end Go.Proofs.YthlaldikdlljfaaDoor
