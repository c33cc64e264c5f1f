/- Contracts of the generator: words, pools and addresses. -/
import Derived.Test.YtaceadddggkkmaaGen2
namespace Go.Proofs.Ytaceadddggkkmaa
open Go.RowKit

/-- What a generator of a number leaves: a number in lo .. hi, the reader further on by at most k, nothing else turned. -/
def GenI (w : World) (g p k : Nat) (lo hi : Int) (e : Ending) (w' : World) : Prop :=
  ∃ (x : Int) (p' : Nat), e = .returned (.int .i64 x) ∧ lo ≤ x ∧ x ≤ hi ∧ Rdr w' g p' ∧ p' ≤ p + k ∧ w.grownBy w' (some g)
theorem lit_far {w : World} {g p n : Nat} (h : Rdr w g p) (hn : n = w.heap.size) : Far (some (⟨n, 0, none⟩ : Addr)) g := fun a ha => by
  injection ha with ha
  subst ha
  have := h.lt
  show n ≠ g
  omega

end Go.Proofs.Ytaceadddggkkmaa
