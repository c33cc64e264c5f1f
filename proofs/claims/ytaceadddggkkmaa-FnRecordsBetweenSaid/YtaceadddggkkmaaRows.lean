/-
  No cell of these rows narrows 'for every input' (looked for: loops, veiled, ifaces, maps, wideKeys, modest, calm, conditions, laid).
  DERIVED. THE GIVEN ROWS OF THIS SEAT. 15 by the template 'for every input the law returns true; each argument reads behind the call as it read before'; 0 by the template 'total and deterministic' (their statements: YtaceadddggkkmaaTotals.lean).
  GIVEN WITH THE SEED: the statements are not yours to turn. If you find one false, say at which input.
  Laid BY PROGRAM, IN A SANDBOX (cutbox-rows.mjs): the forced cells as the released guide's own fill.sh prints them over the translation 9e0e41457510cd91… (all of the seat's roots in one cut). By AI agents, Wed Nov 11 2026. No macro, syntax, notation, axiom, sorry.
-/
import Derived.Test.YtaceadddggkkmaaChecked
import GoSem.Claim
import GoSem.ClaimJoined
import GoSem.ClaimMapViews
import Derived.JoinedTies
import Derived.KernelRfl
namespace Go.Proofs.Ytaceadddggkkmaa
/- THE CELL 'sum', in the pinned program and in every row, IS THE sha256 OF THE DUMP (.gsa) THAT YtaceadddggkkmaaProg.lean LOADS. Nothing in Lean hashes anything: it is a label: what it is worth is what the hold of that sum in a sandbox is worth. -/
noncomputable def Try.pinned : Pinned := { name := "ytaceadddggkkmaa", sum := "9e0e41457510cd91f691f0f2df5b31b622ca372ce34ce891cf2cb3e62f64ce4c", checked := Try.checked }
namespace Rows
def none {H : Type} : Left H := { results := [], args := [] }

/-- 'laws.FnValidRecords': WHATEVER THE INPUT: true; the input reads as it did. -/
def fnValidRecordsSpec : ChangeSpec := { name := "fnValidRecords", fn := fun _ => fun
  | [d] => { results := [.lit (.bool true)], args := [d] }
  | _ => none }
def fnValidRecordsRow : OpenClaim := { program := "ytaceadddggkkmaa", sum := "9e0e41457510cd91f691f0f2df5b31b622ca372ce34ce891cf2cb3e62f64ce4c", func := "loop.example/portmapper/laws.FnValidRecords", spec := "fnValidRecords", apart := false }
def FnValidRecordsSaid : Prop := fnValidRecordsRow.holds Try.pinned (OpenSpec.ofChange fnValidRecordsSpec)

/-- ITS FALSE NEIGHBOUR: 'it returns false'. Refute it at one input. -/
def fnValidRecordsWrong : ChangeSpec := { name := "fnValidRecords", fn := fun _ => fun
  | [d] => { results := [.lit (.bool false)], args := [d] }
  | _ => none }
def FnValidRecordsWrongFalsely : Prop := fnValidRecordsRow.holds Try.pinned (OpenSpec.ofChange fnValidRecordsWrong)

/-- 'laws.FnValidRecordsTwice': WHATEVER THE INPUT: true; the input reads as it did. -/
def fnValidRecordsTwiceSpec : ChangeSpec := { name := "fnValidRecordsTwice", fn := fun _ => fun
  | [d] => { results := [.lit (.bool true)], args := [d] }
  | _ => none }
def fnValidRecordsTwiceRow : OpenClaim := { program := "ytaceadddggkkmaa", sum := "9e0e41457510cd91f691f0f2df5b31b622ca372ce34ce891cf2cb3e62f64ce4c", func := "loop.example/portmapper/laws.FnValidRecordsTwice", spec := "fnValidRecordsTwice", apart := false }
def FnValidRecordsTwiceSaid : Prop := fnValidRecordsTwiceRow.holds Try.pinned (OpenSpec.ofChange fnValidRecordsTwiceSpec)

/-- ITS FALSE NEIGHBOUR: 'it returns false'. Refute it at one input. -/
def fnValidRecordsTwiceWrong : ChangeSpec := { name := "fnValidRecordsTwice", fn := fun _ => fun
  | [d] => { results := [.lit (.bool false)], args := [d] }
  | _ => none }
def FnValidRecordsTwiceWrongFalsely : Prop := fnValidRecordsTwiceRow.holds Try.pinned (OpenSpec.ofChange fnValidRecordsTwiceWrong)

/-- 'laws.FnExactValidRecords': WHATEVER THE INPUT: true; the input reads as it did. -/
def fnExactValidRecordsSpec : ChangeSpec := { name := "fnExactValidRecords", fn := fun _ => fun
  | [d] => { results := [.lit (.bool true)], args := [d] }
  | _ => none }
def fnExactValidRecordsRow : OpenClaim := { program := "ytaceadddggkkmaa", sum := "9e0e41457510cd91f691f0f2df5b31b622ca372ce34ce891cf2cb3e62f64ce4c", func := "loop.example/portmapper/laws.FnExactValidRecords", spec := "fnExactValidRecords", apart := false }
def FnExactValidRecordsSaid : Prop := fnExactValidRecordsRow.holds Try.pinned (OpenSpec.ofChange fnExactValidRecordsSpec)

/-- ITS FALSE NEIGHBOUR: 'it returns false'. Refute it at one input. -/
def fnExactValidRecordsWrong : ChangeSpec := { name := "fnExactValidRecords", fn := fun _ => fun
  | [d] => { results := [.lit (.bool false)], args := [d] }
  | _ => none }
def FnExactValidRecordsWrongFalsely : Prop := fnExactValidRecordsRow.holds Try.pinned (OpenSpec.ofChange fnExactValidRecordsWrong)

/-- 'laws.FnWhoHad': WHATEVER THE INPUT: true; the input reads as it did. -/
def fnWhoHadSpec : ChangeSpec := { name := "fnWhoHad", fn := fun _ => fun
  | [d] => { results := [.lit (.bool true)], args := [d] }
  | _ => none }
def fnWhoHadRow : OpenClaim := { program := "ytaceadddggkkmaa", sum := "9e0e41457510cd91f691f0f2df5b31b622ca372ce34ce891cf2cb3e62f64ce4c", func := "loop.example/portmapper/laws.FnWhoHad", spec := "fnWhoHad", apart := false }
def FnWhoHadSaid : Prop := fnWhoHadRow.holds Try.pinned (OpenSpec.ofChange fnWhoHadSpec)

/-- ITS FALSE NEIGHBOUR: 'it returns false'. Refute it at one input. -/
def fnWhoHadWrong : ChangeSpec := { name := "fnWhoHad", fn := fun _ => fun
  | [d] => { results := [.lit (.bool false)], args := [d] }
  | _ => none }
def FnWhoHadWrongFalsely : Prop := fnWhoHadRow.holds Try.pinned (OpenSpec.ofChange fnWhoHadWrong)

/-- 'laws.FnWhoHadEnd': WHATEVER THE INPUT: true; the input reads as it did. -/
def fnWhoHadEndSpec : ChangeSpec := { name := "fnWhoHadEnd", fn := fun _ => fun
  | [d] => { results := [.lit (.bool true)], args := [d] }
  | _ => none }
def fnWhoHadEndRow : OpenClaim := { program := "ytaceadddggkkmaa", sum := "9e0e41457510cd91f691f0f2df5b31b622ca372ce34ce891cf2cb3e62f64ce4c", func := "loop.example/portmapper/laws.FnWhoHadEnd", spec := "fnWhoHadEnd", apart := false }
def FnWhoHadEndSaid : Prop := fnWhoHadEndRow.holds Try.pinned (OpenSpec.ofChange fnWhoHadEndSpec)

/-- ITS FALSE NEIGHBOUR: 'it returns false'. Refute it at one input. -/
def fnWhoHadEndWrong : ChangeSpec := { name := "fnWhoHadEnd", fn := fun _ => fun
  | [d] => { results := [.lit (.bool false)], args := [d] }
  | _ => none }
def FnWhoHadEndWrongFalsely : Prop := fnWhoHadEndRow.holds Try.pinned (OpenSpec.ofChange fnWhoHadEndWrong)

/-- 'laws.FnWhoHadStay': WHATEVER THE INPUT: true; the input reads as it did. -/
def fnWhoHadStaySpec : ChangeSpec := { name := "fnWhoHadStay", fn := fun _ => fun
  | [d] => { results := [.lit (.bool true)], args := [d] }
  | _ => none }
def fnWhoHadStayRow : OpenClaim := { program := "ytaceadddggkkmaa", sum := "9e0e41457510cd91f691f0f2df5b31b622ca372ce34ce891cf2cb3e62f64ce4c", func := "loop.example/portmapper/laws.FnWhoHadStay", spec := "fnWhoHadStay", apart := false }
def FnWhoHadStaySaid : Prop := fnWhoHadStayRow.holds Try.pinned (OpenSpec.ofChange fnWhoHadStaySpec)

/-- ITS FALSE NEIGHBOUR: 'it returns false'. Refute it at one input. -/
def fnWhoHadStayWrong : ChangeSpec := { name := "fnWhoHadStay", fn := fun _ => fun
  | [d] => { results := [.lit (.bool false)], args := [d] }
  | _ => none }
def FnWhoHadStayWrongFalsely : Prop := fnWhoHadStayRow.holds Try.pinned (OpenSpec.ofChange fnWhoHadStayWrong)

/-- 'laws.FnExactWhoHad': WHATEVER THE INPUT: true; the input reads as it did. -/
def fnExactWhoHadSpec : ChangeSpec := { name := "fnExactWhoHad", fn := fun _ => fun
  | [d1, d2, d3] => { results := [.lit (.bool true)], args := [d1, d2, d3] }
  | _ => none }
def fnExactWhoHadRow : OpenClaim := { program := "ytaceadddggkkmaa", sum := "9e0e41457510cd91f691f0f2df5b31b622ca372ce34ce891cf2cb3e62f64ce4c", func := "loop.example/portmapper/laws.FnExactWhoHad", spec := "fnExactWhoHad", apart := false }
def FnExactWhoHadSaid : Prop := fnExactWhoHadRow.holds Try.pinned (OpenSpec.ofChange fnExactWhoHadSpec)

/-- ITS FALSE NEIGHBOUR: 'it returns false'. Refute it at one input. -/
def fnExactWhoHadWrong : ChangeSpec := { name := "fnExactWhoHad", fn := fun _ => fun
  | [d1, d2, d3] => { results := [.lit (.bool false)], args := [d1, d2, d3] }
  | _ => none }
def FnExactWhoHadWrongFalsely : Prop := fnExactWhoHadRow.holds Try.pinned (OpenSpec.ofChange fnExactWhoHadWrong)

/-- 'laws.FnRecordsBetweenBack': WHATEVER THE INPUT: true; the input reads as it did. -/
def fnRecordsBetweenBackSpec : ChangeSpec := { name := "fnRecordsBetweenBack", fn := fun _ => fun
  | [d] => { results := [.lit (.bool true)], args := [d] }
  | _ => none }
def fnRecordsBetweenBackRow : OpenClaim := { program := "ytaceadddggkkmaa", sum := "9e0e41457510cd91f691f0f2df5b31b622ca372ce34ce891cf2cb3e62f64ce4c", func := "loop.example/portmapper/laws.FnRecordsBetweenBack", spec := "fnRecordsBetweenBack", unfollowed := true, recurses := true, apart := false }
def FnRecordsBetweenBackSaid : Prop := fnRecordsBetweenBackRow.holds Try.pinned (OpenSpec.ofChange fnRecordsBetweenBackSpec)

/-- ITS FALSE NEIGHBOUR: 'it returns false'. Refute it at one input. -/
def fnRecordsBetweenBackWrong : ChangeSpec := { name := "fnRecordsBetweenBack", fn := fun _ => fun
  | [d] => { results := [.lit (.bool false)], args := [d] }
  | _ => none }
def FnRecordsBetweenBackWrongFalsely : Prop := fnRecordsBetweenBackRow.holds Try.pinned (OpenSpec.ofChange fnRecordsBetweenBackWrong)

/-- 'laws.FnRecordsBetweenNone': WHATEVER THE INPUT: true; the input reads as it did. -/
def fnRecordsBetweenNoneSpec : ChangeSpec := { name := "fnRecordsBetweenNone", fn := fun _ => fun
  | [d] => { results := [.lit (.bool true)], args := [d] }
  | _ => none }
def fnRecordsBetweenNoneRow : OpenClaim := { program := "ytaceadddggkkmaa", sum := "9e0e41457510cd91f691f0f2df5b31b622ca372ce34ce891cf2cb3e62f64ce4c", func := "loop.example/portmapper/laws.FnRecordsBetweenNone", spec := "fnRecordsBetweenNone", unfollowed := true, recurses := true, apart := false }
def FnRecordsBetweenNoneSaid : Prop := fnRecordsBetweenNoneRow.holds Try.pinned (OpenSpec.ofChange fnRecordsBetweenNoneSpec)

/-- ITS FALSE NEIGHBOUR: 'it returns false'. Refute it at one input. -/
def fnRecordsBetweenNoneWrong : ChangeSpec := { name := "fnRecordsBetweenNone", fn := fun _ => fun
  | [d] => { results := [.lit (.bool false)], args := [d] }
  | _ => none }
def FnRecordsBetweenNoneWrongFalsely : Prop := fnRecordsBetweenNoneRow.holds Try.pinned (OpenSpec.ofChange fnRecordsBetweenNoneWrong)

/-- 'laws.FnExactRecordsBetween': WHATEVER THE INPUT: true; the input reads as it did. -/
def fnExactRecordsBetweenSpec : ChangeSpec := { name := "fnExactRecordsBetween", fn := fun _ => fun
  | [d1, d2, d3] => { results := [.lit (.bool true)], args := [d1, d2, d3] }
  | _ => none }
def fnExactRecordsBetweenRow : OpenClaim := { program := "ytaceadddggkkmaa", sum := "9e0e41457510cd91f691f0f2df5b31b622ca372ce34ce891cf2cb3e62f64ce4c", func := "loop.example/portmapper/laws.FnExactRecordsBetween", spec := "fnExactRecordsBetween", unfollowed := true, recurses := true, apart := false }
def FnExactRecordsBetweenSaid : Prop := fnExactRecordsBetweenRow.holds Try.pinned (OpenSpec.ofChange fnExactRecordsBetweenSpec)

/-- ITS FALSE NEIGHBOUR: 'it returns false'. Refute it at one input. -/
def fnExactRecordsBetweenWrong : ChangeSpec := { name := "fnExactRecordsBetween", fn := fun _ => fun
  | [d1, d2, d3] => { results := [.lit (.bool false)], args := [d1, d2, d3] }
  | _ => none }
def FnExactRecordsBetweenWrongFalsely : Prop := fnExactRecordsBetweenRow.holds Try.pinned (OpenSpec.ofChange fnExactRecordsBetweenWrong)

/-- 'laws.FnPortsAtCount': WHATEVER THE INPUT: true; the input reads as it did. -/
def fnPortsAtCountSpec : ChangeSpec := { name := "fnPortsAtCount", fn := fun _ => fun
  | [d] => { results := [.lit (.bool true)], args := [d] }
  | _ => none }
def fnPortsAtCountRow : OpenClaim := { program := "ytaceadddggkkmaa", sum := "9e0e41457510cd91f691f0f2df5b31b622ca372ce34ce891cf2cb3e62f64ce4c", func := "loop.example/portmapper/laws.FnPortsAtCount", spec := "fnPortsAtCount", recurses := true, apart := false }
def FnPortsAtCountSaid : Prop := fnPortsAtCountRow.holds Try.pinned (OpenSpec.ofChange fnPortsAtCountSpec)

/-- ITS FALSE NEIGHBOUR: 'it returns false'. Refute it at one input. -/
def fnPortsAtCountWrong : ChangeSpec := { name := "fnPortsAtCount", fn := fun _ => fun
  | [d] => { results := [.lit (.bool false)], args := [d] }
  | _ => none }
def FnPortsAtCountWrongFalsely : Prop := fnPortsAtCountRow.holds Try.pinned (OpenSpec.ofChange fnPortsAtCountWrong)

/-- 'laws.FnPortsAtShort': WHATEVER THE INPUT: true; the input reads as it did. -/
def fnPortsAtShortSpec : ChangeSpec := { name := "fnPortsAtShort", fn := fun _ => fun
  | [d] => { results := [.lit (.bool true)], args := [d] }
  | _ => none }
def fnPortsAtShortRow : OpenClaim := { program := "ytaceadddggkkmaa", sum := "9e0e41457510cd91f691f0f2df5b31b622ca372ce34ce891cf2cb3e62f64ce4c", func := "loop.example/portmapper/laws.FnPortsAtShort", spec := "fnPortsAtShort", recurses := true, apart := false }
def FnPortsAtShortSaid : Prop := fnPortsAtShortRow.holds Try.pinned (OpenSpec.ofChange fnPortsAtShortSpec)

/-- ITS FALSE NEIGHBOUR: 'it returns false'. Refute it at one input. -/
def fnPortsAtShortWrong : ChangeSpec := { name := "fnPortsAtShort", fn := fun _ => fun
  | [d] => { results := [.lit (.bool false)], args := [d] }
  | _ => none }
def FnPortsAtShortWrongFalsely : Prop := fnPortsAtShortRow.holds Try.pinned (OpenSpec.ofChange fnPortsAtShortWrong)

/-- 'laws.FnPortsAt': WHATEVER THE INPUT: true; the input reads as it did. -/
def fnPortsAtSpec : ChangeSpec := { name := "fnPortsAt", fn := fun _ => fun
  | [d] => { results := [.lit (.bool true)], args := [d] }
  | _ => none }
def fnPortsAtRow : OpenClaim := { program := "ytaceadddggkkmaa", sum := "9e0e41457510cd91f691f0f2df5b31b622ca372ce34ce891cf2cb3e62f64ce4c", func := "loop.example/portmapper/laws.FnPortsAt", spec := "fnPortsAt", recurses := true, apart := false }
def FnPortsAtSaid : Prop := fnPortsAtRow.holds Try.pinned (OpenSpec.ofChange fnPortsAtSpec)

/-- ITS FALSE NEIGHBOUR: 'it returns false'. Refute it at one input. -/
def fnPortsAtWrong : ChangeSpec := { name := "fnPortsAt", fn := fun _ => fun
  | [d] => { results := [.lit (.bool false)], args := [d] }
  | _ => none }
def FnPortsAtWrongFalsely : Prop := fnPortsAtRow.holds Try.pinned (OpenSpec.ofChange fnPortsAtWrong)

/-- 'laws.FnExactPortsAt': WHATEVER THE INPUT: true; the input reads as it did. -/
def fnExactPortsAtSpec : ChangeSpec := { name := "fnExactPortsAt", fn := fun _ => fun
  | [d1, d2] => { results := [.lit (.bool true)], args := [d1, d2] }
  | _ => none }
def fnExactPortsAtRow : OpenClaim := { program := "ytaceadddggkkmaa", sum := "9e0e41457510cd91f691f0f2df5b31b622ca372ce34ce891cf2cb3e62f64ce4c", func := "loop.example/portmapper/laws.FnExactPortsAt", spec := "fnExactPortsAt", recurses := true, apart := false }
def FnExactPortsAtSaid : Prop := fnExactPortsAtRow.holds Try.pinned (OpenSpec.ofChange fnExactPortsAtSpec)

/-- ITS FALSE NEIGHBOUR: 'it returns false'. Refute it at one input. -/
def fnExactPortsAtWrong : ChangeSpec := { name := "fnExactPortsAt", fn := fun _ => fun
  | [d1, d2] => { results := [.lit (.bool false)], args := [d1, d2] }
  | _ => none }
def FnExactPortsAtWrongFalsely : Prop := fnExactPortsAtRow.holds Try.pinned (OpenSpec.ofChange fnExactPortsAtWrong)

/-- 'laws.FnRecordsBetween': WHATEVER THE INPUT: true; the input reads as it did. -/
def fnRecordsBetweenSpec : ChangeSpec := { name := "fnRecordsBetween", fn := fun _ => fun
  | [d] => { results := [.lit (.bool true)], args := [d] }
  | _ => none }
def fnRecordsBetweenRow : OpenClaim := { program := "ytaceadddggkkmaa", sum := "9e0e41457510cd91f691f0f2df5b31b622ca372ce34ce891cf2cb3e62f64ce4c", func := "loop.example/portmapper/laws.FnRecordsBetween", spec := "fnRecordsBetween", unfollowed := true, recurses := true, apart := false }
def FnRecordsBetweenSaid : Prop := fnRecordsBetweenRow.holds Try.pinned (OpenSpec.ofChange fnRecordsBetweenSpec)

/-- ITS FALSE NEIGHBOUR: 'it returns false'. Refute it at one input. -/
def fnRecordsBetweenWrong : ChangeSpec := { name := "fnRecordsBetween", fn := fun _ => fun
  | [d] => { results := [.lit (.bool false)], args := [d] }
  | _ => none }
def FnRecordsBetweenWrongFalsely : Prop := fnRecordsBetweenRow.holds Try.pinned (OpenSpec.ofChange fnRecordsBetweenWrong)

/- THE SECOND FORM. 'bulk': how many values and letters a reading holds, each counted each time it is reached (what is shared counts as often as it is met; a slice's spare places count too). A statement '..UptoSaid' is the law's where the arguments, and the package variables that the reading takes, are together of bulk at most 1048576: NARROWER than '..Said'. Prove '..Said' where nothing that the law and all that it calls make is longer than what came in: it says more and counts as full. Else prove '..UptoSaid'. A law counts once. -/
mutual
def uptoBulk {H : Type} : DataW H → Nat
  | .lit (.string bytes) => bytes.length + 1
  | .lit _ => 1
  | .nil => 1
  | .ptr d => uptoBulk d + 1
  | .slice elems spare => uptoBulkAll elems + uptoBulkAll spare + 1
  | .agg parts => uptoBulkAll parts + 1
  | .iface _ d => uptoBulk d + 1
  | .map entries => uptoBulkEntries entries + 1
  | .held _ => 1
def uptoBulkAll {H : Type} : List (DataW H) → Nat
  | [] => 0
  | d :: r => uptoBulk d + uptoBulkAll r
def uptoBulkEntries {H : Type} : List (Lit × DataW H) → Nat
  | [] => 0
  | x :: r => uptoBulkEntry x + uptoBulkEntries r
def uptoBulkEntry {H : Type} : Lit × DataW H → Nat
  | (.string bytes, d) => bytes.length + uptoBulk d + 1
  | (_, d) => uptoBulk d + 1
 end
def uptoSmall : (H : Type) → List (DataW H) → Bool := fun _ ds => decide (uptoBulkAll ds ≤ 1048576)
def OpenSpec.upto (s : _root_.Go.ChangeSpec) : _root_.Go.OpenSpec := { _root_.Go.OpenSpec.ofChange s with cond := some uptoSmall }

/-- 'laws.FnValidRecords', WHERE WHAT IT READS IS OF BULK AT MOST 1048576: true; the input reads as it did. -/
def fnValidRecordsUptoRow : OpenClaim := { program := "ytaceadddggkkmaa", sum := "9e0e41457510cd91f691f0f2df5b31b622ca372ce34ce891cf2cb3e62f64ce4c", func := "loop.example/portmapper/laws.FnValidRecords", spec := "fnValidRecords", apart := false, narrowed := true }
def FnValidRecordsUptoSaid : Prop := fnValidRecordsUptoRow.holds Try.pinned (OpenSpec.upto fnValidRecordsSpec)

/-- 'laws.FnValidRecordsTwice', WHERE WHAT IT READS IS OF BULK AT MOST 1048576: true; the input reads as it did. -/
def fnValidRecordsTwiceUptoRow : OpenClaim := { program := "ytaceadddggkkmaa", sum := "9e0e41457510cd91f691f0f2df5b31b622ca372ce34ce891cf2cb3e62f64ce4c", func := "loop.example/portmapper/laws.FnValidRecordsTwice", spec := "fnValidRecordsTwice", apart := false, narrowed := true }
def FnValidRecordsTwiceUptoSaid : Prop := fnValidRecordsTwiceUptoRow.holds Try.pinned (OpenSpec.upto fnValidRecordsTwiceSpec)

/-- 'laws.FnExactValidRecords', WHERE WHAT IT READS IS OF BULK AT MOST 1048576: true; the input reads as it did. -/
def fnExactValidRecordsUptoRow : OpenClaim := { program := "ytaceadddggkkmaa", sum := "9e0e41457510cd91f691f0f2df5b31b622ca372ce34ce891cf2cb3e62f64ce4c", func := "loop.example/portmapper/laws.FnExactValidRecords", spec := "fnExactValidRecords", apart := false, narrowed := true }
def FnExactValidRecordsUptoSaid : Prop := fnExactValidRecordsUptoRow.holds Try.pinned (OpenSpec.upto fnExactValidRecordsSpec)

/-- 'laws.FnWhoHad', WHERE WHAT IT READS IS OF BULK AT MOST 1048576: true; the input reads as it did. -/
def fnWhoHadUptoRow : OpenClaim := { program := "ytaceadddggkkmaa", sum := "9e0e41457510cd91f691f0f2df5b31b622ca372ce34ce891cf2cb3e62f64ce4c", func := "loop.example/portmapper/laws.FnWhoHad", spec := "fnWhoHad", apart := false, narrowed := true }
def FnWhoHadUptoSaid : Prop := fnWhoHadUptoRow.holds Try.pinned (OpenSpec.upto fnWhoHadSpec)

/-- 'laws.FnWhoHadEnd', WHERE WHAT IT READS IS OF BULK AT MOST 1048576: true; the input reads as it did. -/
def fnWhoHadEndUptoRow : OpenClaim := { program := "ytaceadddggkkmaa", sum := "9e0e41457510cd91f691f0f2df5b31b622ca372ce34ce891cf2cb3e62f64ce4c", func := "loop.example/portmapper/laws.FnWhoHadEnd", spec := "fnWhoHadEnd", apart := false, narrowed := true }
def FnWhoHadEndUptoSaid : Prop := fnWhoHadEndUptoRow.holds Try.pinned (OpenSpec.upto fnWhoHadEndSpec)

/-- 'laws.FnWhoHadStay', WHERE WHAT IT READS IS OF BULK AT MOST 1048576: true; the input reads as it did. -/
def fnWhoHadStayUptoRow : OpenClaim := { program := "ytaceadddggkkmaa", sum := "9e0e41457510cd91f691f0f2df5b31b622ca372ce34ce891cf2cb3e62f64ce4c", func := "loop.example/portmapper/laws.FnWhoHadStay", spec := "fnWhoHadStay", apart := false, narrowed := true }
def FnWhoHadStayUptoSaid : Prop := fnWhoHadStayUptoRow.holds Try.pinned (OpenSpec.upto fnWhoHadStaySpec)

/-- 'laws.FnExactWhoHad', WHERE WHAT IT READS IS OF BULK AT MOST 1048576: true; the input reads as it did. -/
def fnExactWhoHadUptoRow : OpenClaim := { program := "ytaceadddggkkmaa", sum := "9e0e41457510cd91f691f0f2df5b31b622ca372ce34ce891cf2cb3e62f64ce4c", func := "loop.example/portmapper/laws.FnExactWhoHad", spec := "fnExactWhoHad", apart := false, narrowed := true }
def FnExactWhoHadUptoSaid : Prop := fnExactWhoHadUptoRow.holds Try.pinned (OpenSpec.upto fnExactWhoHadSpec)

/-- 'laws.FnRecordsBetweenBack', WHERE WHAT IT READS IS OF BULK AT MOST 1048576: true; the input reads as it did. -/
def fnRecordsBetweenBackUptoRow : OpenClaim := { program := "ytaceadddggkkmaa", sum := "9e0e41457510cd91f691f0f2df5b31b622ca372ce34ce891cf2cb3e62f64ce4c", func := "loop.example/portmapper/laws.FnRecordsBetweenBack", spec := "fnRecordsBetweenBack", unfollowed := true, recurses := true, apart := false, narrowed := true }
def FnRecordsBetweenBackUptoSaid : Prop := fnRecordsBetweenBackUptoRow.holds Try.pinned (OpenSpec.upto fnRecordsBetweenBackSpec)

/-- 'laws.FnRecordsBetweenNone', WHERE WHAT IT READS IS OF BULK AT MOST 1048576: true; the input reads as it did. -/
def fnRecordsBetweenNoneUptoRow : OpenClaim := { program := "ytaceadddggkkmaa", sum := "9e0e41457510cd91f691f0f2df5b31b622ca372ce34ce891cf2cb3e62f64ce4c", func := "loop.example/portmapper/laws.FnRecordsBetweenNone", spec := "fnRecordsBetweenNone", unfollowed := true, recurses := true, apart := false, narrowed := true }
def FnRecordsBetweenNoneUptoSaid : Prop := fnRecordsBetweenNoneUptoRow.holds Try.pinned (OpenSpec.upto fnRecordsBetweenNoneSpec)

/-- 'laws.FnExactRecordsBetween', WHERE WHAT IT READS IS OF BULK AT MOST 1048576: true; the input reads as it did. -/
def fnExactRecordsBetweenUptoRow : OpenClaim := { program := "ytaceadddggkkmaa", sum := "9e0e41457510cd91f691f0f2df5b31b622ca372ce34ce891cf2cb3e62f64ce4c", func := "loop.example/portmapper/laws.FnExactRecordsBetween", spec := "fnExactRecordsBetween", unfollowed := true, recurses := true, apart := false, narrowed := true }
def FnExactRecordsBetweenUptoSaid : Prop := fnExactRecordsBetweenUptoRow.holds Try.pinned (OpenSpec.upto fnExactRecordsBetweenSpec)

/-- 'laws.FnPortsAtCount', WHERE WHAT IT READS IS OF BULK AT MOST 1048576: true; the input reads as it did. -/
def fnPortsAtCountUptoRow : OpenClaim := { program := "ytaceadddggkkmaa", sum := "9e0e41457510cd91f691f0f2df5b31b622ca372ce34ce891cf2cb3e62f64ce4c", func := "loop.example/portmapper/laws.FnPortsAtCount", spec := "fnPortsAtCount", recurses := true, apart := false, narrowed := true }
def FnPortsAtCountUptoSaid : Prop := fnPortsAtCountUptoRow.holds Try.pinned (OpenSpec.upto fnPortsAtCountSpec)

/-- 'laws.FnPortsAtShort', WHERE WHAT IT READS IS OF BULK AT MOST 1048576: true; the input reads as it did. -/
def fnPortsAtShortUptoRow : OpenClaim := { program := "ytaceadddggkkmaa", sum := "9e0e41457510cd91f691f0f2df5b31b622ca372ce34ce891cf2cb3e62f64ce4c", func := "loop.example/portmapper/laws.FnPortsAtShort", spec := "fnPortsAtShort", recurses := true, apart := false, narrowed := true }
def FnPortsAtShortUptoSaid : Prop := fnPortsAtShortUptoRow.holds Try.pinned (OpenSpec.upto fnPortsAtShortSpec)

/-- 'laws.FnPortsAt', WHERE WHAT IT READS IS OF BULK AT MOST 1048576: true; the input reads as it did. -/
def fnPortsAtUptoRow : OpenClaim := { program := "ytaceadddggkkmaa", sum := "9e0e41457510cd91f691f0f2df5b31b622ca372ce34ce891cf2cb3e62f64ce4c", func := "loop.example/portmapper/laws.FnPortsAt", spec := "fnPortsAt", recurses := true, apart := false, narrowed := true }
def FnPortsAtUptoSaid : Prop := fnPortsAtUptoRow.holds Try.pinned (OpenSpec.upto fnPortsAtSpec)

/-- 'laws.FnExactPortsAt', WHERE WHAT IT READS IS OF BULK AT MOST 1048576: true; the input reads as it did. -/
def fnExactPortsAtUptoRow : OpenClaim := { program := "ytaceadddggkkmaa", sum := "9e0e41457510cd91f691f0f2df5b31b622ca372ce34ce891cf2cb3e62f64ce4c", func := "loop.example/portmapper/laws.FnExactPortsAt", spec := "fnExactPortsAt", recurses := true, apart := false, narrowed := true }
def FnExactPortsAtUptoSaid : Prop := fnExactPortsAtUptoRow.holds Try.pinned (OpenSpec.upto fnExactPortsAtSpec)

/-- 'laws.FnRecordsBetween', WHERE WHAT IT READS IS OF BULK AT MOST 1048576: true; the input reads as it did. -/
def fnRecordsBetweenUptoRow : OpenClaim := { program := "ytaceadddggkkmaa", sum := "9e0e41457510cd91f691f0f2df5b31b622ca372ce34ce891cf2cb3e62f64ce4c", func := "loop.example/portmapper/laws.FnRecordsBetween", spec := "fnRecordsBetween", unfollowed := true, recurses := true, apart := false, narrowed := true }
def FnRecordsBetweenUptoSaid : Prop := fnRecordsBetweenUptoRow.holds Try.pinned (OpenSpec.upto fnRecordsBetweenSpec)

end Rows
end Go.Proofs.Ytaceadddggkkmaa
