/- The head of the program's text begins with the word cut: what follows from that, for whatever program. No conditions. -/
import Derived.JoinedOf
import Derived.KernelRfl
namespace Go.Proofs.YtjflfhjnbccpmaaGreatDoor.Facts
theorem strip (rest : List (List Char)) : stripLifts liftWords ("cut".toList :: rest) = ([], "cut".toList :: rest) := by rfl
section
variable {P : Program} (h : ∃ rest, behindMainWord (wordsSigns P.initOrder.toList) = "cut".toList :: rest)
include h
theorem headLifts_of : P.headLifts = [] := by
  obtain ⟨rest, h⟩ := h
  unfold Program.headLifts
  rw [h, strip]; rfl
theorem liftsFinal_of : P.liftsFinal = false := by
  have hl := headLifts_of h
  obtain ⟨rest, h⟩ := h
  unfold Program.liftsFinal
  rw [hl, h]; rfl
theorem make_of : P.make = some .cut := by
  obtain ⟨rest, h⟩ := h
  unfold Program.make
  rw [h]; rfl
theorem mayEnter_of (h1 : P.laysLater = false) (h2 : P.bearsReflect = false) (h3 : P.doorFits [] = true) : P.mayEnter = true := by
  obtain ⟨rest, h⟩ := h
  unfold Program.mayEnter
  rw [h]
  dsimp only
  rw [strip, h1, h2, h3]
  rfl
end
end Go.Proofs.YtjflfhjnbccpmaaGreatDoor.Facts
