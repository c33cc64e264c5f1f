/-
  No cell of these rows narrows 'for every input' (looked for: loops, veiled, ifaces, maps, wideKeys, modest, calm, conditions, laid).
  DERIVED. THE GIVEN ROWS OF THIS SEAT. 17 by the template 'for every input the law returns true; each argument reads behind the call as it read before'; 0 by the template 'total and deterministic' (their statements: YtcfleoobhgagoaaTotals.lean).
  GIVEN WITH THE SEED: the statements are not yours to turn. If you find one false, say at which input.
  Laid BY PROGRAM, IN A SANDBOX (cutbox-rows.mjs): the forced cells as the released guide's own fill.sh prints them over the translation 94fd640917a031b7… (all of the seat's roots in one cut). By AI agents, Wed Nov 11 2026. No macro, syntax, notation, axiom, sorry.
-/
import Derived.Test.YtcfleoobhgagoaaChecked
import GoSem.Claim
import GoSem.ClaimJoined
import GoSem.ClaimMapViews
import Derived.JoinedTies
import Derived.KernelRfl
namespace Go.Proofs.Ytcfleoobhgagoaa
/- THE CELL 'sum', in the pinned program and in every row, IS THE sha256 OF THE DUMP (.gsa) THAT YtcfleoobhgagoaaProg.lean LOADS. Nothing in Lean hashes anything: it is a label: what it is worth is what the hold of that sum in a sandbox is worth. -/
noncomputable def Try.pinned : Pinned := { name := "ytcfleoobhgagoaa", sum := "94fd640917a031b75155ac8064e88c382a8eeb9761127dde1d0a4c44a568d3c2", checked := Try.checked }
namespace Rows
def none {H : Type} : Left H := { results := [], args := [] }

/-- 'laws.FnExactValidPool': WHATEVER THE INPUT: true; the input reads as it did. -/
def fnExactValidPoolSpec : ChangeSpec := { name := "fnExactValidPool", fn := fun _ => fun
  | [d] => { results := [.lit (.bool true)], args := [d] }
  | _ => none }
def fnExactValidPoolRow : OpenClaim := { program := "ytcfleoobhgagoaa", sum := "94fd640917a031b75155ac8064e88c382a8eeb9761127dde1d0a4c44a568d3c2", func := "loop.example/portmapper/laws.FnExactValidPool", spec := "fnExactValidPool", apart := false }
def FnExactValidPoolSaid : Prop := fnExactValidPoolRow.holds Try.pinned (OpenSpec.ofChange fnExactValidPoolSpec)

/-- ITS FALSE NEIGHBOUR: 'it returns false'. Refute it at one input. -/
def fnExactValidPoolWrong : ChangeSpec := { name := "fnExactValidPool", fn := fun _ => fun
  | [d] => { results := [.lit (.bool false)], args := [d] }
  | _ => none }
def FnExactValidPoolWrongFalsely : Prop := fnExactValidPoolRow.holds Try.pinned (OpenSpec.ofChange fnExactValidPoolWrong)

/-- 'laws.FnExactPoolAddr': WHATEVER THE INPUT: true; the input reads as it did. -/
def fnExactPoolAddrSpec : ChangeSpec := { name := "fnExactPoolAddr", fn := fun _ => fun
  | [d1, d2] => { results := [.lit (.bool true)], args := [d1, d2] }
  | _ => none }
def fnExactPoolAddrRow : OpenClaim := { program := "ytcfleoobhgagoaa", sum := "94fd640917a031b75155ac8064e88c382a8eeb9761127dde1d0a4c44a568d3c2", func := "loop.example/portmapper/laws.FnExactPoolAddr", spec := "fnExactPoolAddr", apart := false }
def FnExactPoolAddrSaid : Prop := fnExactPoolAddrRow.holds Try.pinned (OpenSpec.ofChange fnExactPoolAddrSpec)

/-- ITS FALSE NEIGHBOUR: 'it returns false'. Refute it at one input. -/
def fnExactPoolAddrWrong : ChangeSpec := { name := "fnExactPoolAddr", fn := fun _ => fun
  | [d1, d2] => { results := [.lit (.bool false)], args := [d1, d2] }
  | _ => none }
def FnExactPoolAddrWrongFalsely : Prop := fnExactPoolAddrRow.holds Try.pinned (OpenSpec.ofChange fnExactPoolAddrWrong)

/-- 'laws.FnValidPool': WHATEVER THE INPUT: true; the input reads as it did. -/
def fnValidPoolSpec : ChangeSpec := { name := "fnValidPool", fn := fun _ => fun
  | [d] => { results := [.lit (.bool true)], args := [d] }
  | _ => none }
def fnValidPoolRow : OpenClaim := { program := "ytcfleoobhgagoaa", sum := "94fd640917a031b75155ac8064e88c382a8eeb9761127dde1d0a4c44a568d3c2", func := "loop.example/portmapper/laws.FnValidPool", spec := "fnValidPool", apart := false }
def FnValidPoolSaid : Prop := fnValidPoolRow.holds Try.pinned (OpenSpec.ofChange fnValidPoolSpec)

/-- ITS FALSE NEIGHBOUR: 'it returns false'. Refute it at one input. -/
def fnValidPoolWrong : ChangeSpec := { name := "fnValidPool", fn := fun _ => fun
  | [d] => { results := [.lit (.bool false)], args := [d] }
  | _ => none }
def FnValidPoolWrongFalsely : Prop := fnValidPoolRow.holds Try.pinned (OpenSpec.ofChange fnValidPoolWrong)

/-- 'laws.FnExactPoolCounts': WHATEVER THE INPUT: true; the input reads as it did. -/
def fnExactPoolCountsSpec : ChangeSpec := { name := "fnExactPoolCounts", fn := fun _ => fun
  | [d1, d2] => { results := [.lit (.bool true)], args := [d1, d2] }
  | _ => none }
def fnExactPoolCountsRow : OpenClaim := { program := "ytcfleoobhgagoaa", sum := "94fd640917a031b75155ac8064e88c382a8eeb9761127dde1d0a4c44a568d3c2", func := "loop.example/portmapper/laws.FnExactPoolCounts", spec := "fnExactPoolCounts", apart := false }
def FnExactPoolCountsSaid : Prop := fnExactPoolCountsRow.holds Try.pinned (OpenSpec.ofChange fnExactPoolCountsSpec)

/-- ITS FALSE NEIGHBOUR: 'it returns false'. Refute it at one input. -/
def fnExactPoolCountsWrong : ChangeSpec := { name := "fnExactPoolCounts", fn := fun _ => fun
  | [d1, d2] => { results := [.lit (.bool false)], args := [d1, d2] }
  | _ => none }
def FnExactPoolCountsWrongFalsely : Prop := fnExactPoolCountsRow.holds Try.pinned (OpenSpec.ofChange fnExactPoolCountsWrong)

/-- 'laws.FnPoolAddrCycle': WHATEVER THE INPUT: true; the input reads as it did. -/
def fnPoolAddrCycleSpec : ChangeSpec := { name := "fnPoolAddrCycle", fn := fun _ => fun
  | [d] => { results := [.lit (.bool true)], args := [d] }
  | _ => none }
def fnPoolAddrCycleRow : OpenClaim := { program := "ytcfleoobhgagoaa", sum := "94fd640917a031b75155ac8064e88c382a8eeb9761127dde1d0a4c44a568d3c2", func := "loop.example/portmapper/laws.FnPoolAddrCycle", spec := "fnPoolAddrCycle", apart := false }
def FnPoolAddrCycleSaid : Prop := fnPoolAddrCycleRow.holds Try.pinned (OpenSpec.ofChange fnPoolAddrCycleSpec)

/-- ITS FALSE NEIGHBOUR: 'it returns false'. Refute it at one input. -/
def fnPoolAddrCycleWrong : ChangeSpec := { name := "fnPoolAddrCycle", fn := fun _ => fun
  | [d] => { results := [.lit (.bool false)], args := [d] }
  | _ => none }
def FnPoolAddrCycleWrongFalsely : Prop := fnPoolAddrCycleRow.holds Try.pinned (OpenSpec.ofChange fnPoolAddrCycleWrong)

/-- 'laws.FnPoolAddrMany': WHATEVER THE INPUT: true; the input reads as it did. -/
def fnPoolAddrManySpec : ChangeSpec := { name := "fnPoolAddrMany", fn := fun _ => fun
  | [d] => { results := [.lit (.bool true)], args := [d] }
  | _ => none }
def fnPoolAddrManyRow : OpenClaim := { program := "ytcfleoobhgagoaa", sum := "94fd640917a031b75155ac8064e88c382a8eeb9761127dde1d0a4c44a568d3c2", func := "loop.example/portmapper/laws.FnPoolAddrMany", spec := "fnPoolAddrMany", apart := false }
def FnPoolAddrManySaid : Prop := fnPoolAddrManyRow.holds Try.pinned (OpenSpec.ofChange fnPoolAddrManySpec)

/-- ITS FALSE NEIGHBOUR: 'it returns false'. Refute it at one input. -/
def fnPoolAddrManyWrong : ChangeSpec := { name := "fnPoolAddrMany", fn := fun _ => fun
  | [d] => { results := [.lit (.bool false)], args := [d] }
  | _ => none }
def FnPoolAddrManyWrongFalsely : Prop := fnPoolAddrManyRow.holds Try.pinned (OpenSpec.ofChange fnPoolAddrManyWrong)

/-- 'laws.FnPoolAddr': WHATEVER THE INPUT: true; the input reads as it did. -/
def fnPoolAddrSpec : ChangeSpec := { name := "fnPoolAddr", fn := fun _ => fun
  | [d] => { results := [.lit (.bool true)], args := [d] }
  | _ => none }
def fnPoolAddrRow : OpenClaim := { program := "ytcfleoobhgagoaa", sum := "94fd640917a031b75155ac8064e88c382a8eeb9761127dde1d0a4c44a568d3c2", func := "loop.example/portmapper/laws.FnPoolAddr", spec := "fnPoolAddr", apart := false }
def FnPoolAddrSaid : Prop := fnPoolAddrRow.holds Try.pinned (OpenSpec.ofChange fnPoolAddrSpec)

/-- ITS FALSE NEIGHBOUR: 'it returns false'. Refute it at one input. -/
def fnPoolAddrWrong : ChangeSpec := { name := "fnPoolAddr", fn := fun _ => fun
  | [d] => { results := [.lit (.bool false)], args := [d] }
  | _ => none }
def FnPoolAddrWrongFalsely : Prop := fnPoolAddrRow.holds Try.pinned (OpenSpec.ofChange fnPoolAddrWrong)

/-- 'laws.FnExactFullestAddr': WHATEVER THE INPUT: true; the input reads as it did. -/
def fnExactFullestAddrSpec : ChangeSpec := { name := "fnExactFullestAddr", fn := fun _ => fun
  | [d1, d2] => { results := [.lit (.bool true)], args := [d1, d2] }
  | _ => none }
def fnExactFullestAddrRow : OpenClaim := { program := "ytcfleoobhgagoaa", sum := "94fd640917a031b75155ac8064e88c382a8eeb9761127dde1d0a4c44a568d3c2", func := "loop.example/portmapper/laws.FnExactFullestAddr", spec := "fnExactFullestAddr", apart := false }
def FnExactFullestAddrSaid : Prop := fnExactFullestAddrRow.holds Try.pinned (OpenSpec.ofChange fnExactFullestAddrSpec)

/-- ITS FALSE NEIGHBOUR: 'it returns false'. Refute it at one input. -/
def fnExactFullestAddrWrong : ChangeSpec := { name := "fnExactFullestAddr", fn := fun _ => fun
  | [d1, d2] => { results := [.lit (.bool false)], args := [d1, d2] }
  | _ => none }
def FnExactFullestAddrWrongFalsely : Prop := fnExactFullestAddrRow.holds Try.pinned (OpenSpec.ofChange fnExactFullestAddrWrong)

/-- 'laws.FnPoolCountsOne': WHATEVER THE INPUT: true; the input reads as it did. -/
def fnPoolCountsOneSpec : ChangeSpec := { name := "fnPoolCountsOne", fn := fun _ => fun
  | [d] => { results := [.lit (.bool true)], args := [d] }
  | _ => none }
def fnPoolCountsOneRow : OpenClaim := { program := "ytcfleoobhgagoaa", sum := "94fd640917a031b75155ac8064e88c382a8eeb9761127dde1d0a4c44a568d3c2", func := "loop.example/portmapper/laws.FnPoolCountsOne", spec := "fnPoolCountsOne", apart := false }
def FnPoolCountsOneSaid : Prop := fnPoolCountsOneRow.holds Try.pinned (OpenSpec.ofChange fnPoolCountsOneSpec)

/-- ITS FALSE NEIGHBOUR: 'it returns false'. Refute it at one input. -/
def fnPoolCountsOneWrong : ChangeSpec := { name := "fnPoolCountsOne", fn := fun _ => fun
  | [d] => { results := [.lit (.bool false)], args := [d] }
  | _ => none }
def FnPoolCountsOneWrongFalsely : Prop := fnPoolCountsOneRow.holds Try.pinned (OpenSpec.ofChange fnPoolCountsOneWrong)

/-- 'laws.FnPoolCountsParts': WHATEVER THE INPUT: true; the input reads as it did. -/
def fnPoolCountsPartsSpec : ChangeSpec := { name := "fnPoolCountsParts", fn := fun _ => fun
  | [d] => { results := [.lit (.bool true)], args := [d] }
  | _ => none }
def fnPoolCountsPartsRow : OpenClaim := { program := "ytcfleoobhgagoaa", sum := "94fd640917a031b75155ac8064e88c382a8eeb9761127dde1d0a4c44a568d3c2", func := "loop.example/portmapper/laws.FnPoolCountsParts", spec := "fnPoolCountsParts", apart := false }
def FnPoolCountsPartsSaid : Prop := fnPoolCountsPartsRow.holds Try.pinned (OpenSpec.ofChange fnPoolCountsPartsSpec)

/-- ITS FALSE NEIGHBOUR: 'it returns false'. Refute it at one input. -/
def fnPoolCountsPartsWrong : ChangeSpec := { name := "fnPoolCountsParts", fn := fun _ => fun
  | [d] => { results := [.lit (.bool false)], args := [d] }
  | _ => none }
def FnPoolCountsPartsWrongFalsely : Prop := fnPoolCountsPartsRow.holds Try.pinned (OpenSpec.ofChange fnPoolCountsPartsWrong)

/-- 'laws.FnExactMovedBy': WHATEVER THE INPUT: true; the input reads as it did. -/
def fnExactMovedBySpec : ChangeSpec := { name := "fnExactMovedBy", fn := fun _ => fun
  | [d1, d2, d3] => { results := [.lit (.bool true)], args := [d1, d2, d3] }
  | _ => none }
def fnExactMovedByRow : OpenClaim := { program := "ytcfleoobhgagoaa", sum := "94fd640917a031b75155ac8064e88c382a8eeb9761127dde1d0a4c44a568d3c2", func := "loop.example/portmapper/laws.FnExactMovedBy", spec := "fnExactMovedBy", unfollowed := true, recurses := true, apart := false }
def FnExactMovedBySaid : Prop := fnExactMovedByRow.holds Try.pinned (OpenSpec.ofChange fnExactMovedBySpec)

/-- ITS FALSE NEIGHBOUR: 'it returns false'. Refute it at one input. -/
def fnExactMovedByWrong : ChangeSpec := { name := "fnExactMovedBy", fn := fun _ => fun
  | [d1, d2, d3] => { results := [.lit (.bool false)], args := [d1, d2, d3] }
  | _ => none }
def FnExactMovedByWrongFalsely : Prop := fnExactMovedByRow.holds Try.pinned (OpenSpec.ofChange fnExactMovedByWrong)

/-- 'laws.FnPoolCounts': WHATEVER THE INPUT: true; the input reads as it did. -/
def fnPoolCountsSpec : ChangeSpec := { name := "fnPoolCounts", fn := fun _ => fun
  | [d] => { results := [.lit (.bool true)], args := [d] }
  | _ => none }
def fnPoolCountsRow : OpenClaim := { program := "ytcfleoobhgagoaa", sum := "94fd640917a031b75155ac8064e88c382a8eeb9761127dde1d0a4c44a568d3c2", func := "loop.example/portmapper/laws.FnPoolCounts", spec := "fnPoolCounts", apart := false }
def FnPoolCountsSaid : Prop := fnPoolCountsRow.holds Try.pinned (OpenSpec.ofChange fnPoolCountsSpec)

/-- ITS FALSE NEIGHBOUR: 'it returns false'. Refute it at one input. -/
def fnPoolCountsWrong : ChangeSpec := { name := "fnPoolCounts", fn := fun _ => fun
  | [d] => { results := [.lit (.bool false)], args := [d] }
  | _ => none }
def FnPoolCountsWrongFalsely : Prop := fnPoolCountsRow.holds Try.pinned (OpenSpec.ofChange fnPoolCountsWrong)

/-- 'laws.FnFullestAddr': WHATEVER THE INPUT: true; the input reads as it did. -/
def fnFullestAddrSpec : ChangeSpec := { name := "fnFullestAddr", fn := fun _ => fun
  | [d] => { results := [.lit (.bool true)], args := [d] }
  | _ => none }
def fnFullestAddrRow : OpenClaim := { program := "ytcfleoobhgagoaa", sum := "94fd640917a031b75155ac8064e88c382a8eeb9761127dde1d0a4c44a568d3c2", func := "loop.example/portmapper/laws.FnFullestAddr", spec := "fnFullestAddr", apart := false }
def FnFullestAddrSaid : Prop := fnFullestAddrRow.holds Try.pinned (OpenSpec.ofChange fnFullestAddrSpec)

/-- ITS FALSE NEIGHBOUR: 'it returns false'. Refute it at one input. -/
def fnFullestAddrWrong : ChangeSpec := { name := "fnFullestAddr", fn := fun _ => fun
  | [d] => { results := [.lit (.bool false)], args := [d] }
  | _ => none }
def FnFullestAddrWrongFalsely : Prop := fnFullestAddrRow.holds Try.pinned (OpenSpec.ofChange fnFullestAddrWrong)

/-- 'laws.FnFullestAddrOne': WHATEVER THE INPUT: true; the input reads as it did. -/
def fnFullestAddrOneSpec : ChangeSpec := { name := "fnFullestAddrOne", fn := fun _ => fun
  | [d] => { results := [.lit (.bool true)], args := [d] }
  | _ => none }
def fnFullestAddrOneRow : OpenClaim := { program := "ytcfleoobhgagoaa", sum := "94fd640917a031b75155ac8064e88c382a8eeb9761127dde1d0a4c44a568d3c2", func := "loop.example/portmapper/laws.FnFullestAddrOne", spec := "fnFullestAddrOne", apart := false }
def FnFullestAddrOneSaid : Prop := fnFullestAddrOneRow.holds Try.pinned (OpenSpec.ofChange fnFullestAddrOneSpec)

/-- ITS FALSE NEIGHBOUR: 'it returns false'. Refute it at one input. -/
def fnFullestAddrOneWrong : ChangeSpec := { name := "fnFullestAddrOne", fn := fun _ => fun
  | [d] => { results := [.lit (.bool false)], args := [d] }
  | _ => none }
def FnFullestAddrOneWrongFalsely : Prop := fnFullestAddrOneRow.holds Try.pinned (OpenSpec.ofChange fnFullestAddrOneWrong)

/-- 'laws.FnMovedBy': WHATEVER THE INPUT: true; the input reads as it did. -/
def fnMovedBySpec : ChangeSpec := { name := "fnMovedBy", fn := fun _ => fun
  | [d] => { results := [.lit (.bool true)], args := [d] }
  | _ => none }
def fnMovedByRow : OpenClaim := { program := "ytcfleoobhgagoaa", sum := "94fd640917a031b75155ac8064e88c382a8eeb9761127dde1d0a4c44a568d3c2", func := "loop.example/portmapper/laws.FnMovedBy", spec := "fnMovedBy", unfollowed := true, recurses := true, apart := false }
def FnMovedBySaid : Prop := fnMovedByRow.holds Try.pinned (OpenSpec.ofChange fnMovedBySpec)

/-- ITS FALSE NEIGHBOUR: 'it returns false'. Refute it at one input. -/
def fnMovedByWrong : ChangeSpec := { name := "fnMovedBy", fn := fun _ => fun
  | [d] => { results := [.lit (.bool false)], args := [d] }
  | _ => none }
def FnMovedByWrongFalsely : Prop := fnMovedByRow.holds Try.pinned (OpenSpec.ofChange fnMovedByWrong)

/-- 'laws.FnMovedByBack': WHATEVER THE INPUT: true; the input reads as it did. -/
def fnMovedByBackSpec : ChangeSpec := { name := "fnMovedByBack", fn := fun _ => fun
  | [d] => { results := [.lit (.bool true)], args := [d] }
  | _ => none }
def fnMovedByBackRow : OpenClaim := { program := "ytcfleoobhgagoaa", sum := "94fd640917a031b75155ac8064e88c382a8eeb9761127dde1d0a4c44a568d3c2", func := "loop.example/portmapper/laws.FnMovedByBack", spec := "fnMovedByBack", unfollowed := true, recurses := true, apart := false }
def FnMovedByBackSaid : Prop := fnMovedByBackRow.holds Try.pinned (OpenSpec.ofChange fnMovedByBackSpec)

/-- ITS FALSE NEIGHBOUR: 'it returns false'. Refute it at one input. -/
def fnMovedByBackWrong : ChangeSpec := { name := "fnMovedByBack", fn := fun _ => fun
  | [d] => { results := [.lit (.bool false)], args := [d] }
  | _ => none }
def FnMovedByBackWrongFalsely : Prop := fnMovedByBackRow.holds Try.pinned (OpenSpec.ofChange fnMovedByBackWrong)

/-- 'laws.FnMovedByOne': WHATEVER THE INPUT: true; the input reads as it did. -/
def fnMovedByOneSpec : ChangeSpec := { name := "fnMovedByOne", fn := fun _ => fun
  | [d] => { results := [.lit (.bool true)], args := [d] }
  | _ => none }
def fnMovedByOneRow : OpenClaim := { program := "ytcfleoobhgagoaa", sum := "94fd640917a031b75155ac8064e88c382a8eeb9761127dde1d0a4c44a568d3c2", func := "loop.example/portmapper/laws.FnMovedByOne", spec := "fnMovedByOne", unfollowed := true, recurses := true, apart := false }
def FnMovedByOneSaid : Prop := fnMovedByOneRow.holds Try.pinned (OpenSpec.ofChange fnMovedByOneSpec)

/-- ITS FALSE NEIGHBOUR: 'it returns false'. Refute it at one input. -/
def fnMovedByOneWrong : ChangeSpec := { name := "fnMovedByOne", fn := fun _ => fun
  | [d] => { results := [.lit (.bool false)], args := [d] }
  | _ => none }
def FnMovedByOneWrongFalsely : Prop := fnMovedByOneRow.holds Try.pinned (OpenSpec.ofChange fnMovedByOneWrong)

/- THE SECOND FORM. 'bulk': how many values and letters a reading holds, each counted each time it is reached (what is shared counts as often as it is met; a slice's spare places count too). A statement '..UptoSaid' is the law's where the arguments, and the package variables that the reading takes, are together of bulk at most 1048576: NARROWER than '..Said'. Prove '..Said' where nothing that the law and all that it calls make is longer than what came in: it says more and counts as full. Else prove '..UptoSaid'. A law counts once. -/
mutual
def uptoBulk {H : Type} : DataW H → Nat
  | .lit (.string bytes) => bytes.length + 1
  | .lit _ => 1
  | .nil => 1
  | .ptr d => uptoBulk d + 1
  | .slice elems spare => uptoBulkAll elems + uptoBulkAll spare + 1
  | .agg parts => uptoBulkAll parts + 1
  | .iface _ d => uptoBulk d + 1
  | .map entries => uptoBulkEntries entries + 1
  | .held _ => 1
def uptoBulkAll {H : Type} : List (DataW H) → Nat
  | [] => 0
  | d :: r => uptoBulk d + uptoBulkAll r
def uptoBulkEntries {H : Type} : List (Lit × DataW H) → Nat
  | [] => 0
  | x :: r => uptoBulkEntry x + uptoBulkEntries r
def uptoBulkEntry {H : Type} : Lit × DataW H → Nat
  | (.string bytes, d) => bytes.length + uptoBulk d + 1
  | (_, d) => uptoBulk d + 1
 end
def uptoSmall : (H : Type) → List (DataW H) → Bool := fun _ ds => decide (uptoBulkAll ds ≤ 1048576)
def OpenSpec.upto (s : _root_.Go.ChangeSpec) : _root_.Go.OpenSpec := { _root_.Go.OpenSpec.ofChange s with cond := some uptoSmall }

/-- 'laws.FnExactValidPool', WHERE WHAT IT READS IS OF BULK AT MOST 1048576: true; the input reads as it did. -/
def fnExactValidPoolUptoRow : OpenClaim := { program := "ytcfleoobhgagoaa", sum := "94fd640917a031b75155ac8064e88c382a8eeb9761127dde1d0a4c44a568d3c2", func := "loop.example/portmapper/laws.FnExactValidPool", spec := "fnExactValidPool", apart := false, narrowed := true }
def FnExactValidPoolUptoSaid : Prop := fnExactValidPoolUptoRow.holds Try.pinned (OpenSpec.upto fnExactValidPoolSpec)

/-- 'laws.FnExactPoolAddr', WHERE WHAT IT READS IS OF BULK AT MOST 1048576: true; the input reads as it did. -/
def fnExactPoolAddrUptoRow : OpenClaim := { program := "ytcfleoobhgagoaa", sum := "94fd640917a031b75155ac8064e88c382a8eeb9761127dde1d0a4c44a568d3c2", func := "loop.example/portmapper/laws.FnExactPoolAddr", spec := "fnExactPoolAddr", apart := false, narrowed := true }
def FnExactPoolAddrUptoSaid : Prop := fnExactPoolAddrUptoRow.holds Try.pinned (OpenSpec.upto fnExactPoolAddrSpec)

/-- 'laws.FnValidPool', WHERE WHAT IT READS IS OF BULK AT MOST 1048576: true; the input reads as it did. -/
def fnValidPoolUptoRow : OpenClaim := { program := "ytcfleoobhgagoaa", sum := "94fd640917a031b75155ac8064e88c382a8eeb9761127dde1d0a4c44a568d3c2", func := "loop.example/portmapper/laws.FnValidPool", spec := "fnValidPool", apart := false, narrowed := true }
def FnValidPoolUptoSaid : Prop := fnValidPoolUptoRow.holds Try.pinned (OpenSpec.upto fnValidPoolSpec)

/-- 'laws.FnExactPoolCounts', WHERE WHAT IT READS IS OF BULK AT MOST 1048576: true; the input reads as it did. -/
def fnExactPoolCountsUptoRow : OpenClaim := { program := "ytcfleoobhgagoaa", sum := "94fd640917a031b75155ac8064e88c382a8eeb9761127dde1d0a4c44a568d3c2", func := "loop.example/portmapper/laws.FnExactPoolCounts", spec := "fnExactPoolCounts", apart := false, narrowed := true }
def FnExactPoolCountsUptoSaid : Prop := fnExactPoolCountsUptoRow.holds Try.pinned (OpenSpec.upto fnExactPoolCountsSpec)

/-- 'laws.FnPoolAddrCycle', WHERE WHAT IT READS IS OF BULK AT MOST 1048576: true; the input reads as it did. -/
def fnPoolAddrCycleUptoRow : OpenClaim := { program := "ytcfleoobhgagoaa", sum := "94fd640917a031b75155ac8064e88c382a8eeb9761127dde1d0a4c44a568d3c2", func := "loop.example/portmapper/laws.FnPoolAddrCycle", spec := "fnPoolAddrCycle", apart := false, narrowed := true }
def FnPoolAddrCycleUptoSaid : Prop := fnPoolAddrCycleUptoRow.holds Try.pinned (OpenSpec.upto fnPoolAddrCycleSpec)

/-- 'laws.FnPoolAddrMany', WHERE WHAT IT READS IS OF BULK AT MOST 1048576: true; the input reads as it did. -/
def fnPoolAddrManyUptoRow : OpenClaim := { program := "ytcfleoobhgagoaa", sum := "94fd640917a031b75155ac8064e88c382a8eeb9761127dde1d0a4c44a568d3c2", func := "loop.example/portmapper/laws.FnPoolAddrMany", spec := "fnPoolAddrMany", apart := false, narrowed := true }
def FnPoolAddrManyUptoSaid : Prop := fnPoolAddrManyUptoRow.holds Try.pinned (OpenSpec.upto fnPoolAddrManySpec)

/-- 'laws.FnPoolAddr', WHERE WHAT IT READS IS OF BULK AT MOST 1048576: true; the input reads as it did. -/
def fnPoolAddrUptoRow : OpenClaim := { program := "ytcfleoobhgagoaa", sum := "94fd640917a031b75155ac8064e88c382a8eeb9761127dde1d0a4c44a568d3c2", func := "loop.example/portmapper/laws.FnPoolAddr", spec := "fnPoolAddr", apart := false, narrowed := true }
def FnPoolAddrUptoSaid : Prop := fnPoolAddrUptoRow.holds Try.pinned (OpenSpec.upto fnPoolAddrSpec)

/-- 'laws.FnExactFullestAddr', WHERE WHAT IT READS IS OF BULK AT MOST 1048576: true; the input reads as it did. -/
def fnExactFullestAddrUptoRow : OpenClaim := { program := "ytcfleoobhgagoaa", sum := "94fd640917a031b75155ac8064e88c382a8eeb9761127dde1d0a4c44a568d3c2", func := "loop.example/portmapper/laws.FnExactFullestAddr", spec := "fnExactFullestAddr", apart := false, narrowed := true }
def FnExactFullestAddrUptoSaid : Prop := fnExactFullestAddrUptoRow.holds Try.pinned (OpenSpec.upto fnExactFullestAddrSpec)

/-- 'laws.FnPoolCountsOne', WHERE WHAT IT READS IS OF BULK AT MOST 1048576: true; the input reads as it did. -/
def fnPoolCountsOneUptoRow : OpenClaim := { program := "ytcfleoobhgagoaa", sum := "94fd640917a031b75155ac8064e88c382a8eeb9761127dde1d0a4c44a568d3c2", func := "loop.example/portmapper/laws.FnPoolCountsOne", spec := "fnPoolCountsOne", apart := false, narrowed := true }
def FnPoolCountsOneUptoSaid : Prop := fnPoolCountsOneUptoRow.holds Try.pinned (OpenSpec.upto fnPoolCountsOneSpec)

/-- 'laws.FnPoolCountsParts', WHERE WHAT IT READS IS OF BULK AT MOST 1048576: true; the input reads as it did. -/
def fnPoolCountsPartsUptoRow : OpenClaim := { program := "ytcfleoobhgagoaa", sum := "94fd640917a031b75155ac8064e88c382a8eeb9761127dde1d0a4c44a568d3c2", func := "loop.example/portmapper/laws.FnPoolCountsParts", spec := "fnPoolCountsParts", apart := false, narrowed := true }
def FnPoolCountsPartsUptoSaid : Prop := fnPoolCountsPartsUptoRow.holds Try.pinned (OpenSpec.upto fnPoolCountsPartsSpec)

/-- 'laws.FnExactMovedBy', WHERE WHAT IT READS IS OF BULK AT MOST 1048576: true; the input reads as it did. -/
def fnExactMovedByUptoRow : OpenClaim := { program := "ytcfleoobhgagoaa", sum := "94fd640917a031b75155ac8064e88c382a8eeb9761127dde1d0a4c44a568d3c2", func := "loop.example/portmapper/laws.FnExactMovedBy", spec := "fnExactMovedBy", unfollowed := true, recurses := true, apart := false, narrowed := true }
def FnExactMovedByUptoSaid : Prop := fnExactMovedByUptoRow.holds Try.pinned (OpenSpec.upto fnExactMovedBySpec)

/-- 'laws.FnPoolCounts', WHERE WHAT IT READS IS OF BULK AT MOST 1048576: true; the input reads as it did. -/
def fnPoolCountsUptoRow : OpenClaim := { program := "ytcfleoobhgagoaa", sum := "94fd640917a031b75155ac8064e88c382a8eeb9761127dde1d0a4c44a568d3c2", func := "loop.example/portmapper/laws.FnPoolCounts", spec := "fnPoolCounts", apart := false, narrowed := true }
def FnPoolCountsUptoSaid : Prop := fnPoolCountsUptoRow.holds Try.pinned (OpenSpec.upto fnPoolCountsSpec)

/-- 'laws.FnFullestAddr', WHERE WHAT IT READS IS OF BULK AT MOST 1048576: true; the input reads as it did. -/
def fnFullestAddrUptoRow : OpenClaim := { program := "ytcfleoobhgagoaa", sum := "94fd640917a031b75155ac8064e88c382a8eeb9761127dde1d0a4c44a568d3c2", func := "loop.example/portmapper/laws.FnFullestAddr", spec := "fnFullestAddr", apart := false, narrowed := true }
def FnFullestAddrUptoSaid : Prop := fnFullestAddrUptoRow.holds Try.pinned (OpenSpec.upto fnFullestAddrSpec)

/-- 'laws.FnFullestAddrOne', WHERE WHAT IT READS IS OF BULK AT MOST 1048576: true; the input reads as it did. -/
def fnFullestAddrOneUptoRow : OpenClaim := { program := "ytcfleoobhgagoaa", sum := "94fd640917a031b75155ac8064e88c382a8eeb9761127dde1d0a4c44a568d3c2", func := "loop.example/portmapper/laws.FnFullestAddrOne", spec := "fnFullestAddrOne", apart := false, narrowed := true }
def FnFullestAddrOneUptoSaid : Prop := fnFullestAddrOneUptoRow.holds Try.pinned (OpenSpec.upto fnFullestAddrOneSpec)

/-- 'laws.FnMovedBy', WHERE WHAT IT READS IS OF BULK AT MOST 1048576: true; the input reads as it did. -/
def fnMovedByUptoRow : OpenClaim := { program := "ytcfleoobhgagoaa", sum := "94fd640917a031b75155ac8064e88c382a8eeb9761127dde1d0a4c44a568d3c2", func := "loop.example/portmapper/laws.FnMovedBy", spec := "fnMovedBy", unfollowed := true, recurses := true, apart := false, narrowed := true }
def FnMovedByUptoSaid : Prop := fnMovedByUptoRow.holds Try.pinned (OpenSpec.upto fnMovedBySpec)

/-- 'laws.FnMovedByBack', WHERE WHAT IT READS IS OF BULK AT MOST 1048576: true; the input reads as it did. -/
def fnMovedByBackUptoRow : OpenClaim := { program := "ytcfleoobhgagoaa", sum := "94fd640917a031b75155ac8064e88c382a8eeb9761127dde1d0a4c44a568d3c2", func := "loop.example/portmapper/laws.FnMovedByBack", spec := "fnMovedByBack", unfollowed := true, recurses := true, apart := false, narrowed := true }
def FnMovedByBackUptoSaid : Prop := fnMovedByBackUptoRow.holds Try.pinned (OpenSpec.upto fnMovedByBackSpec)

/-- 'laws.FnMovedByOne', WHERE WHAT IT READS IS OF BULK AT MOST 1048576: true; the input reads as it did. -/
def fnMovedByOneUptoRow : OpenClaim := { program := "ytcfleoobhgagoaa", sum := "94fd640917a031b75155ac8064e88c382a8eeb9761127dde1d0a4c44a568d3c2", func := "loop.example/portmapper/laws.FnMovedByOne", spec := "fnMovedByOne", unfollowed := true, recurses := true, apart := false, narrowed := true }
def FnMovedByOneUptoSaid : Prop := fnMovedByOneUptoRow.holds Try.pinned (OpenSpec.upto fnMovedByOneSpec)

end Rows
end Go.Proofs.Ytcfleoobhgagoaa
