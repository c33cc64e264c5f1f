/- What the readers of texts ask of the world: the variables of the library as their initialisers lay them. -/
import Derived.Test.YthlaldikdlljfaaDoorSW
import Derived.Test.YthlaldikdlljfaaDoorSQ
import Derived.Test.YthlaldikdlljfaaDoorSS2
import Derived.Lib.AtoiErrMem
namespace Go.Proofs.YthlaldikdlljfaaDoor
open Go.RowKit

structure EnvP (w : World) : Prop where
  tab : TabE w
  mx : ∃ m, w.cell? ⟨0, 0, none⟩ = some (.int .i64 m)
  es : ∃ tp p, w.var? Tryd.prog "strconv.ErrSyntax" = some #[.iface tp p]
  er : ∃ tp p, w.var? Tryd.prog "strconv.ErrRange" = some #[.iface tp p]
theorem EnvP.to {w w' : World} (h : EnvP w) (hb : Below w.heap.size w w') : EnvP w' := by
  obtain ⟨h1, ⟨m, h2⟩, ⟨a, b, h3⟩, ⟨c, d, h4⟩⟩ := h
  exact ⟨h1.to hb, ⟨m, cell_keep h2 hb⟩, ⟨a, b, var_to h3 hb⟩, ⟨c, d, var_to h4 hb⟩⟩
theorem star : "*" ++ "errors.errorString" = "*errors.errorString" := by decide
theorem row_err (u : TypeId) (h : Tryd.prog.typeName? 3 u = some "*errors.errorString") : u = 142 :=
  typeName_ptr_named (nm := "errors.errorString") (by rw [star]; kernel_rfl) (by kernel_rfl) (by decide) u (by rw [star]; exact h)
theorem env_of {W : World} {t1 t2 : List UInt8} {a b : String × DataW Unit} (hsh : W.ShapedOpen Tryd.prog)
    (hL : laidMet Tryd.prog (a :: b :: ("internal/strconv.uint64pow10", Lib.tabData .u64 Lib.pow10Tab) :: ("strconv.ErrRange", .iface "*errors.errorString" (.ptr (.agg [.lit (.string t1)]))) :: ("strconv.ErrSyntax", .iface "*errors.errorString" (.ptr (.agg [.lit (.string t2)]))) :: []) W) : EnvP W := by
  have h2 := laidMet.tail (laidMet.tail hL)
  obtain ⟨a0, s0, h3, _⟩ := laid_sentinel (g := 3) (laidMet.tail h2) (by kernel_rfl) (by kernel_rfl) Tryd.underlying97 row_err Tryd.underlying142 Tryd.underlying144 rfl rfl Tryd.underlying9 (by kernel_rfl) (by kernel_rfl)
  obtain ⟨a1, s1, h4, _⟩ := laid_sentinel (g := 2) (laidMet.tail (laidMet.tail h2)) (by kernel_rfl) (by kernel_rfl) Tryd.underlying97 row_err Tryd.underlying142 Tryd.underlying144 rfl rfl Tryd.underlying9 (by kernel_rfl) (by kernel_rfl)
  exact ⟨tab_of h2, Tryd.laysM145.s1_3 W hsh, ⟨_, _, h4⟩, ⟨_, _, h3⟩⟩

theorem c_Cut (s : ByteArray) (c : UInt8) (w : World) (hs : s.size ≤ 4000000000) (hE : EnvP w) :
    Calls Tryd.prog 62 #[.string s, .string ⟨#[c]⟩] w fun e w' => Below w.heap.size w w' ∧ match cutc s.data.toList c with
      | some (x, y) => e = .returned (.tuple #[.string ⟨x.toArray⟩, .string ⟨y.toArray⟩, .bool true])
      | none => e = .returned (.tuple #[.string s, .string ⟨#[]⟩, .bool false]) := by
  obtain ⟨m, hm⟩ := hE.mx
  refine (Tryd.strings_Cut s ⟨#[c]⟩ m w (by omega) hm).mono ?_
  rintro e w' ⟨rfl, n, rfl⟩
  refine ⟨Bl.of_drewN w n, ?_⟩
  rw [show (⟨#[c]⟩ : ByteArray).data.toList = [c] from rfl]
  cases hc : cutc s.data.toList c with
  | none => rw [cut_none hc]
  | some p => obtain ⟨x, y⟩ := p; rw [cut_some hc]
end Go.Proofs.YthlaldikdlljfaaDoor
