/- Opening a plan that a law takes by value. -/
import Derived.Test.YtaneiilbkkfnoaaProg
import Derived.WalkKit
import Derived.ProofKit
import Derived.OpenShut
import Derived.ChangeOld
namespace Go.Proofs.Ytaneiilbkkfnoaa

section
open Go.ChangeShapes Go.WideShapes Go.ChangeAt Go.RowKit
variable {H : Type} {enc : TypeId × Value → H} {w : World} {base : Nat} {spare : Nat → Bool} {held : Bool}
/-- A plan that a law takes: four numbers. -/
theorem open_plan {r : Reach} {b0 : Nat} {v : Value} {d : DataW H} {p : List MemPlace} (hv : Value.okWide Try.prog w r b0 34 v) (h : DataW.Trod enc Try.prog w base spare held 34 v d p) :
    ∃ ba bi fi si, v = .agg #[.int .i64 ba, .int .i64 bi, .int .i64 fi, .int .i64 si] := by
  obtain ⟨cs, rfl, hsz⟩ := okWide_struct Try.underlying34 hv
  obtain ⟨l⟩ := cs
  have h4 : Try.prog.cellsOf 34 = 4 := by kernel_rfl
  match l, hsz.trans h4 with
  | [c0, c1, c2, c3], _ =>
    obtain ⟨fuel, hf⟩ := h
    obtain ⟨xs, n, _, hx, _, hlen, hg⟩ := DataW.trod_struct Try.underlying34 hf
    have h2 : Try.prog.cellsOf 32 = 2 := by kernel_rfl
    have h1 : Try.prog.cellsOf 3 = 1 := by kernel_rfl
    match xs, hlen with
    | [y0, y1, y2], _ =>
      have g0 : DataW.trod enc Try.prog w base spare held n 32 [c0, c1] = some y0 := by simpa [Value.cells, h2] using hg 0 _ rfl
      have g1 : DataW.trod enc Try.prog w base spare held n 3 [c2] = some y1 := by simpa [Value.cells, h1] using hg 1 _ rfl
      have g2 : DataW.trod enc Try.prog w base spare held n 3 [c3] = some y2 := by simpa [Value.cells, h1] using hg 2 _ rfl
      obtain ⟨z0, z1, m, _, _, e0, e1⟩ := trod_struct2 Try.underlying32 g0
      obtain ⟨a0, k0, _⟩ := DataW.trod_int Try.underlying3 e0
      obtain ⟨a1, k1, _⟩ := DataW.trod_int Try.underlying3 e1
      obtain ⟨a2, k2, _⟩ := DataW.trod_int Try.underlying3 g1
      obtain ⟨a3, k3, _⟩ := DataW.trod_int Try.underlying3 g2
      simp [h1] at k0 k1 k2 k3
      subst k0 k1 k2 k3
      exact ⟨a0, a1, a2, a3, rfl⟩
end
end Go.Proofs.Ytaneiilbkkfnoaa
