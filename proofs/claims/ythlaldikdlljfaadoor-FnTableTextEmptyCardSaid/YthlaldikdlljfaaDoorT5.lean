/- Contract of RecordsBetween, the program's. -/
import Derived.Test.YthlaldikdlljfaaDoorT4
namespace Go.Proofs.YthlaldikdlljfaaDoor
open Go.RowKit

theorem between_bad1 {a b : List Mpg} {now : Int} (h : vTab a = false) : between a b now = [] := by unfold between; rw [h]; rfl
theorem between_bad2 {a b : List Mpg} {now : Int} (h : vTab b = false) : between a b now = [] := by unfold between; rw [h]; simp
theorem between_bad3 {a b : List Mpg} {now : Int} (h : inB now 0 10000 = false) : between a b now = [] := by unfold between; rw [h]; simp
theorem between_mis {a b : List Mpg} {now : Int} (h1 : vTab a = true) (h2 : vTab b = true) (h3 : inB now 0 10000 = true) : between a b now = mis a b now true a.length ++ mis b a now false b.length := by
  unfold between mis
  rw [h1, h2, h3, List.take_length, List.take_length]; rfl

end Go.Proofs.YthlaldikdlljfaaDoor
