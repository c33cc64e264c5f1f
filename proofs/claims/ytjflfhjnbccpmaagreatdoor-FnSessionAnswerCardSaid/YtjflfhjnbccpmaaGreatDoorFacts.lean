/- Closed facts of this seat's program that every row leans on. No conditions. -/
import Derived.Test.YtjflfhjnbccpmaaGreatDoorHead
import Derived.Test.YtjflfhjnbccpmaaGreatDoorRows
namespace Go.Proofs.YtjflfhjnbccpmaaGreatDoor.Facts
def codes : List Nat := [104, 97, 114, 110, 101, 115, 115, 32, 51, 52, 98, 56, 102, 97, 101, 56, 55, 101, 54, 98, 102, 50, 49, 101, 54, 54, 51, 51, 53, 57, 50, 50, 97, 100, 101, 52, 48, 48, 99, 97, 102, 99, 52, 50, 100, 49, 54, 52, 54, 99, 55, 48, 48, 98, 49, 54, 48, 101, 56, 48,
  52, 97, 53, 97, 49, 101, 54, 98, 55, 51, 48, 101, 32, 99, 117, 116, 32, 97, 116, 32, 108, 111, 111, 112, 46, 101, 120, 97, 109, 112, 108, 101, 47, 112, 111, 114, 116, 109, 97, 112, 112, 101, 114, 47, 108, 97, 119, 115, 46, 70, 110, 83, 101, 115, 115, 105, 111, 110, 66, 101,
  116, 119, 101, 101, 110, 32, 108, 111, 111, 112, 46, 101, 120, 97, 109, 112, 108, 101, 47, 112, 111, 114, 116, 109, 97, 112, 112, 101, 114, 47, 108, 97, 119, 115, 46, 70, 110, 83, 101, 115, 115, 105, 111, 110, 80, 114, 101, 102, 105, 120, 32, 108, 111, 111, 112, 46, 101, 120, 97, 109,
  112, 108, 101, 47, 112, 111, 114, 116, 109, 97, 112, 112, 101, 114, 47, 108, 97, 119, 115, 46, 70, 110, 83, 101, 115, 115, 105, 111, 110, 81, 117, 101, 115, 116, 105, 111, 110, 115, 32, 108, 111, 111, 112, 46, 101, 120, 97, 109, 112, 108, 101, 47, 112, 111, 114, 116, 109, 97, 112, 112,
  101, 114, 47, 108, 97, 119, 115, 46, 70, 110, 69, 120, 97, 99, 116, 82, 117, 110, 83, 101, 115, 115, 105, 111, 110, 32, 108, 111, 111, 112, 46, 101, 120, 97, 109, 112, 108, 101, 47, 112, 111, 114, 116, 109, 97, 112, 112, 101, 114, 47, 108, 97, 119, 115, 46, 70, 110, 83, 101, 115,
  115, 105, 111, 110, 65, 110, 115, 119, 101, 114]
theorem init_chars : Tryz.prog.initOrder = String.ofList (codes.map Char.ofNat) := by kernel_rfl
theorem words : ∃ rest, behindMainWord (wordsSigns Tryz.prog.initOrder.toList) = "cut".toList :: rest := by
  rw [init_chars, String.toList_ofList]
  exact ⟨_, rfl⟩
theorem mayEnter : Tryz.prog.mayEnter = true := mayEnter_of words (by kernel_rfl) (by kernel_rfl) (by kernel_rfl)
theorem liftsFinal : Tryz.prog.liftsFinal = false := liftsFinal_of words
theorem make_ : Tryz.prog.make = some .cut := make_of words
theorem own : ownKnob Tryz.prog.godebug = none := by kernel_rfl
theorem laidOut : laidOutB Tryz.prog = true := by kernel_rfl
end Go.Proofs.YtjflfhjnbccpmaaGreatDoor.Facts
