/-
  No cell of these rows narrows 'for every input' (looked for: loops, veiled, ifaces, maps, wideKeys, modest, calm, conditions, laid).
  DERIVED. THE GIVEN ROWS OF THIS SEAT. 13 by the template 'for every input the law returns true; each argument reads behind the call as it read before'; 0 by the template 'total and deterministic' (their statements: YtaneiilbkkfnoaaTotals.lean).
  GIVEN WITH THE SEED: the statements are not yours to turn. If you find one false, say at which input.
  Laid BY PROGRAM, IN A SANDBOX (cutbox-rows.mjs): the forced cells as the released guide's own fill.sh prints them over the translation d63de625fd6924bf… (all of the seat's roots in one cut). By AI agents, Wed Nov 11 2026. No macro, syntax, notation, axiom, sorry.
-/
import Derived.Test.YtaneiilbkkfnoaaChecked
import GoSem.Claim
import GoSem.ClaimJoined
import GoSem.ClaimMapViews
import Derived.JoinedTies
import Derived.KernelRfl
namespace Go.Proofs.Ytaneiilbkkfnoaa
/- THE CELL 'sum', in the pinned program and in every row, IS THE sha256 OF THE DUMP (.gsa) THAT YtaneiilbkkfnoaaProg.lean LOADS. Nothing in Lean hashes anything: it is a label: what it is worth is what the hold of that sum in a sandbox is worth. -/
noncomputable def Try.pinned : Pinned := { name := "ytaneiilbkkfnoaa", sum := "d63de625fd6924bf55cf95c0420029850a12762339c32c81e5e602df4e1717a8", checked := Try.checked }
namespace Rows
def none {H : Type} : Left H := { results := [], args := [] }

/-- 'laws.FnOwnerOfNone': WHATEVER THE INPUT: true; the input reads as it did. -/
def fnOwnerOfNoneSpec : ChangeSpec := { name := "fnOwnerOfNone", fn := fun _ => fun
  | [d] => { results := [.lit (.bool true)], args := [d] }
  | _ => none }
def fnOwnerOfNoneRow : OpenClaim := { program := "ytaneiilbkkfnoaa", sum := "d63de625fd6924bf55cf95c0420029850a12762339c32c81e5e602df4e1717a8", func := "loop.example/portmapper/laws.FnOwnerOfNone", spec := "fnOwnerOfNone", apart := false }
def FnOwnerOfNoneSaid : Prop := fnOwnerOfNoneRow.holds Try.pinned (OpenSpec.ofChange fnOwnerOfNoneSpec)

/-- ITS FALSE NEIGHBOUR: 'it returns false'. Refute it at one input. -/
def fnOwnerOfNoneWrong : ChangeSpec := { name := "fnOwnerOfNone", fn := fun _ => fun
  | [d] => { results := [.lit (.bool false)], args := [d] }
  | _ => none }
def FnOwnerOfNoneWrongFalsely : Prop := fnOwnerOfNoneRow.holds Try.pinned (OpenSpec.ofChange fnOwnerOfNoneWrong)

/-- 'laws.FnBlockOfOwner': WHATEVER THE INPUT: true; the input reads as it did. -/
def fnBlockOfOwnerSpec : ChangeSpec := { name := "fnBlockOfOwner", fn := fun _ => fun
  | [d] => { results := [.lit (.bool true)], args := [d] }
  | _ => none }
def fnBlockOfOwnerRow : OpenClaim := { program := "ytaneiilbkkfnoaa", sum := "d63de625fd6924bf55cf95c0420029850a12762339c32c81e5e602df4e1717a8", func := "loop.example/portmapper/laws.FnBlockOfOwner", spec := "fnBlockOfOwner", apart := false }
def FnBlockOfOwnerSaid : Prop := fnBlockOfOwnerRow.holds Try.pinned (OpenSpec.ofChange fnBlockOfOwnerSpec)

/-- ITS FALSE NEIGHBOUR: 'it returns false'. Refute it at one input. -/
def fnBlockOfOwnerWrong : ChangeSpec := { name := "fnBlockOfOwner", fn := fun _ => fun
  | [d] => { results := [.lit (.bool false)], args := [d] }
  | _ => none }
def FnBlockOfOwnerWrongFalsely : Prop := fnBlockOfOwnerRow.holds Try.pinned (OpenSpec.ofChange fnBlockOfOwnerWrong)

/-- 'laws.FnExactPortInBlock': WHATEVER THE INPUT: true; the input reads as it did. -/
def fnExactPortInBlockSpec : ChangeSpec := { name := "fnExactPortInBlock", fn := fun _ => fun
  | [d1, d2, d3, d4] => { results := [.lit (.bool true)], args := [d1, d2, d3, d4] }
  | _ => none }
def fnExactPortInBlockRow : OpenClaim := { program := "ytaneiilbkkfnoaa", sum := "d63de625fd6924bf55cf95c0420029850a12762339c32c81e5e602df4e1717a8", func := "loop.example/portmapper/laws.FnExactPortInBlock", spec := "fnExactPortInBlock", apart := false }
def FnExactPortInBlockSaid : Prop := fnExactPortInBlockRow.holds Try.pinned (OpenSpec.ofChange fnExactPortInBlockSpec)

/-- ITS FALSE NEIGHBOUR: 'it returns false'. Refute it at one input. -/
def fnExactPortInBlockWrong : ChangeSpec := { name := "fnExactPortInBlock", fn := fun _ => fun
  | [d1, d2, d3, d4] => { results := [.lit (.bool false)], args := [d1, d2, d3, d4] }
  | _ => none }
def FnExactPortInBlockWrongFalsely : Prop := fnExactPortInBlockRow.holds Try.pinned (OpenSpec.ofChange fnExactPortInBlockWrong)

/-- 'laws.FnOwnerOf': WHATEVER THE INPUT: true; the input reads as it did. -/
def fnOwnerOfSpec : ChangeSpec := { name := "fnOwnerOf", fn := fun _ => fun
  | [d] => { results := [.lit (.bool true)], args := [d] }
  | _ => none }
def fnOwnerOfRow : OpenClaim := { program := "ytaneiilbkkfnoaa", sum := "d63de625fd6924bf55cf95c0420029850a12762339c32c81e5e602df4e1717a8", func := "loop.example/portmapper/laws.FnOwnerOf", spec := "fnOwnerOf", apart := false }
def FnOwnerOfSaid : Prop := fnOwnerOfRow.holds Try.pinned (OpenSpec.ofChange fnOwnerOfSpec)

/-- ITS FALSE NEIGHBOUR: 'it returns false'. Refute it at one input. -/
def fnOwnerOfWrong : ChangeSpec := { name := "fnOwnerOf", fn := fun _ => fun
  | [d] => { results := [.lit (.bool false)], args := [d] }
  | _ => none }
def FnOwnerOfWrongFalsely : Prop := fnOwnerOfRow.holds Try.pinned (OpenSpec.ofChange fnOwnerOfWrong)

/-- 'laws.FnBlockOfNext': WHATEVER THE INPUT: true; the input reads as it did. -/
def fnBlockOfNextSpec : ChangeSpec := { name := "fnBlockOfNext", fn := fun _ => fun
  | [d] => { results := [.lit (.bool true)], args := [d] }
  | _ => none }
def fnBlockOfNextRow : OpenClaim := { program := "ytaneiilbkkfnoaa", sum := "d63de625fd6924bf55cf95c0420029850a12762339c32c81e5e602df4e1717a8", func := "loop.example/portmapper/laws.FnBlockOfNext", spec := "fnBlockOfNext", apart := false }
def FnBlockOfNextSaid : Prop := fnBlockOfNextRow.holds Try.pinned (OpenSpec.ofChange fnBlockOfNextSpec)

/-- ITS FALSE NEIGHBOUR: 'it returns false'. Refute it at one input. -/
def fnBlockOfNextWrong : ChangeSpec := { name := "fnBlockOfNext", fn := fun _ => fun
  | [d] => { results := [.lit (.bool false)], args := [d] }
  | _ => none }
def FnBlockOfNextWrongFalsely : Prop := fnBlockOfNextRow.holds Try.pinned (OpenSpec.ofChange fnBlockOfNextWrong)

/-- 'laws.FnExactFreeInBlock': WHATEVER THE INPUT: true; the input reads as it did. -/
def fnExactFreeInBlockSpec : ChangeSpec := { name := "fnExactFreeInBlock", fn := fun _ => fun
  | [d1, d2, d3] => { results := [.lit (.bool true)], args := [d1, d2, d3] }
  | _ => none }
def fnExactFreeInBlockRow : OpenClaim := { program := "ytaneiilbkkfnoaa", sum := "d63de625fd6924bf55cf95c0420029850a12762339c32c81e5e602df4e1717a8", func := "loop.example/portmapper/laws.FnExactFreeInBlock", spec := "fnExactFreeInBlock", apart := false }
def FnExactFreeInBlockSaid : Prop := fnExactFreeInBlockRow.holds Try.pinned (OpenSpec.ofChange fnExactFreeInBlockSpec)

/-- ITS FALSE NEIGHBOUR: 'it returns false'. Refute it at one input. -/
def fnExactFreeInBlockWrong : ChangeSpec := { name := "fnExactFreeInBlock", fn := fun _ => fun
  | [d1, d2, d3] => { results := [.lit (.bool false)], args := [d1, d2, d3] }
  | _ => none }
def FnExactFreeInBlockWrongFalsely : Prop := fnExactFreeInBlockRow.holds Try.pinned (OpenSpec.ofChange fnExactFreeInBlockWrong)

/-- 'laws.FnBlockOf': WHATEVER THE INPUT: true; the input reads as it did. -/
def fnBlockOfSpec : ChangeSpec := { name := "fnBlockOf", fn := fun _ => fun
  | [d] => { results := [.lit (.bool true)], args := [d] }
  | _ => none }
def fnBlockOfRow : OpenClaim := { program := "ytaneiilbkkfnoaa", sum := "d63de625fd6924bf55cf95c0420029850a12762339c32c81e5e602df4e1717a8", func := "loop.example/portmapper/laws.FnBlockOf", spec := "fnBlockOf", apart := false }
def FnBlockOfSaid : Prop := fnBlockOfRow.holds Try.pinned (OpenSpec.ofChange fnBlockOfSpec)

/-- ITS FALSE NEIGHBOUR: 'it returns false'. Refute it at one input. -/
def fnBlockOfWrong : ChangeSpec := { name := "fnBlockOf", fn := fun _ => fun
  | [d] => { results := [.lit (.bool false)], args := [d] }
  | _ => none }
def FnBlockOfWrongFalsely : Prop := fnBlockOfRow.holds Try.pinned (OpenSpec.ofChange fnBlockOfWrong)

/-- 'laws.FnFreeInBlockTwice': WHATEVER THE INPUT: true; the input reads as it did. -/
def fnFreeInBlockTwiceSpec : ChangeSpec := { name := "fnFreeInBlockTwice", fn := fun _ => fun
  | [d] => { results := [.lit (.bool true)], args := [d] }
  | _ => none }
def fnFreeInBlockTwiceRow : OpenClaim := { program := "ytaneiilbkkfnoaa", sum := "d63de625fd6924bf55cf95c0420029850a12762339c32c81e5e602df4e1717a8", func := "loop.example/portmapper/laws.FnFreeInBlockTwice", spec := "fnFreeInBlockTwice", apart := false }
def FnFreeInBlockTwiceSaid : Prop := fnFreeInBlockTwiceRow.holds Try.pinned (OpenSpec.ofChange fnFreeInBlockTwiceSpec)

/-- ITS FALSE NEIGHBOUR: 'it returns false'. Refute it at one input. -/
def fnFreeInBlockTwiceWrong : ChangeSpec := { name := "fnFreeInBlockTwice", fn := fun _ => fun
  | [d] => { results := [.lit (.bool false)], args := [d] }
  | _ => none }
def FnFreeInBlockTwiceWrongFalsely : Prop := fnFreeInBlockTwiceRow.holds Try.pinned (OpenSpec.ofChange fnFreeInBlockTwiceWrong)

/-- 'laws.FnPortInBlockOther': WHATEVER THE INPUT: true; the input reads as it did. -/
def fnPortInBlockOtherSpec : ChangeSpec := { name := "fnPortInBlockOther", fn := fun _ => fun
  | [d] => { results := [.lit (.bool true)], args := [d] }
  | _ => none }
def fnPortInBlockOtherRow : OpenClaim := { program := "ytaneiilbkkfnoaa", sum := "d63de625fd6924bf55cf95c0420029850a12762339c32c81e5e602df4e1717a8", func := "loop.example/portmapper/laws.FnPortInBlockOther", spec := "fnPortInBlockOther", apart := false }
def FnPortInBlockOtherSaid : Prop := fnPortInBlockOtherRow.holds Try.pinned (OpenSpec.ofChange fnPortInBlockOtherSpec)

/-- ITS FALSE NEIGHBOUR: 'it returns false'. Refute it at one input. -/
def fnPortInBlockOtherWrong : ChangeSpec := { name := "fnPortInBlockOther", fn := fun _ => fun
  | [d] => { results := [.lit (.bool false)], args := [d] }
  | _ => none }
def FnPortInBlockOtherWrongFalsely : Prop := fnPortInBlockOtherRow.holds Try.pinned (OpenSpec.ofChange fnPortInBlockOtherWrong)

/-- 'laws.FnPortInBlock': WHATEVER THE INPUT: true; the input reads as it did. -/
def fnPortInBlockSpec : ChangeSpec := { name := "fnPortInBlock", fn := fun _ => fun
  | [d] => { results := [.lit (.bool true)], args := [d] }
  | _ => none }
def fnPortInBlockRow : OpenClaim := { program := "ytaneiilbkkfnoaa", sum := "d63de625fd6924bf55cf95c0420029850a12762339c32c81e5e602df4e1717a8", func := "loop.example/portmapper/laws.FnPortInBlock", spec := "fnPortInBlock", apart := false }
def FnPortInBlockSaid : Prop := fnPortInBlockRow.holds Try.pinned (OpenSpec.ofChange fnPortInBlockSpec)

/-- ITS FALSE NEIGHBOUR: 'it returns false'. Refute it at one input. -/
def fnPortInBlockWrong : ChangeSpec := { name := "fnPortInBlock", fn := fun _ => fun
  | [d] => { results := [.lit (.bool false)], args := [d] }
  | _ => none }
def FnPortInBlockWrongFalsely : Prop := fnPortInBlockRow.holds Try.pinned (OpenSpec.ofChange fnPortInBlockWrong)

/-- 'laws.FnPortInBlockWant': WHATEVER THE INPUT: true; the input reads as it did. -/
def fnPortInBlockWantSpec : ChangeSpec := { name := "fnPortInBlockWant", fn := fun _ => fun
  | [d] => { results := [.lit (.bool true)], args := [d] }
  | _ => none }
def fnPortInBlockWantRow : OpenClaim := { program := "ytaneiilbkkfnoaa", sum := "d63de625fd6924bf55cf95c0420029850a12762339c32c81e5e602df4e1717a8", func := "loop.example/portmapper/laws.FnPortInBlockWant", spec := "fnPortInBlockWant", apart := false }
def FnPortInBlockWantSaid : Prop := fnPortInBlockWantRow.holds Try.pinned (OpenSpec.ofChange fnPortInBlockWantSpec)

/-- ITS FALSE NEIGHBOUR: 'it returns false'. Refute it at one input. -/
def fnPortInBlockWantWrong : ChangeSpec := { name := "fnPortInBlockWant", fn := fun _ => fun
  | [d] => { results := [.lit (.bool false)], args := [d] }
  | _ => none }
def FnPortInBlockWantWrongFalsely : Prop := fnPortInBlockWantRow.holds Try.pinned (OpenSpec.ofChange fnPortInBlockWantWrong)

/-- 'laws.FnFreeInBlock': WHATEVER THE INPUT: true; the input reads as it did. -/
def fnFreeInBlockSpec : ChangeSpec := { name := "fnFreeInBlock", fn := fun _ => fun
  | [d] => { results := [.lit (.bool true)], args := [d] }
  | _ => none }
def fnFreeInBlockRow : OpenClaim := { program := "ytaneiilbkkfnoaa", sum := "d63de625fd6924bf55cf95c0420029850a12762339c32c81e5e602df4e1717a8", func := "loop.example/portmapper/laws.FnFreeInBlock", spec := "fnFreeInBlock", apart := false }
def FnFreeInBlockSaid : Prop := fnFreeInBlockRow.holds Try.pinned (OpenSpec.ofChange fnFreeInBlockSpec)

/-- ITS FALSE NEIGHBOUR: 'it returns false'. Refute it at one input. -/
def fnFreeInBlockWrong : ChangeSpec := { name := "fnFreeInBlock", fn := fun _ => fun
  | [d] => { results := [.lit (.bool false)], args := [d] }
  | _ => none }
def FnFreeInBlockWrongFalsely : Prop := fnFreeInBlockRow.holds Try.pinned (OpenSpec.ofChange fnFreeInBlockWrong)

/-- 'laws.FnPortInBlockNone': WHATEVER THE INPUT: true; the input reads as it did. -/
def fnPortInBlockNoneSpec : ChangeSpec := { name := "fnPortInBlockNone", fn := fun _ => fun
  | [d] => { results := [.lit (.bool true)], args := [d] }
  | _ => none }
def fnPortInBlockNoneRow : OpenClaim := { program := "ytaneiilbkkfnoaa", sum := "d63de625fd6924bf55cf95c0420029850a12762339c32c81e5e602df4e1717a8", func := "loop.example/portmapper/laws.FnPortInBlockNone", spec := "fnPortInBlockNone", apart := false }
def FnPortInBlockNoneSaid : Prop := fnPortInBlockNoneRow.holds Try.pinned (OpenSpec.ofChange fnPortInBlockNoneSpec)

/-- ITS FALSE NEIGHBOUR: 'it returns false'. Refute it at one input. -/
def fnPortInBlockNoneWrong : ChangeSpec := { name := "fnPortInBlockNone", fn := fun _ => fun
  | [d] => { results := [.lit (.bool false)], args := [d] }
  | _ => none }
def FnPortInBlockNoneWrongFalsely : Prop := fnPortInBlockNoneRow.holds Try.pinned (OpenSpec.ofChange fnPortInBlockNoneWrong)

/- THE SECOND FORM. 'bulk': how many values and letters a reading holds, each counted each time it is reached (what is shared counts as often as it is met; a slice's spare places count too). A statement '..UptoSaid' is the law's where the arguments, and the package variables that the reading takes, are together of bulk at most 1048576: NARROWER than '..Said'. Prove '..Said' where nothing that the law and all that it calls make is longer than what came in: it says more and counts as full. Else prove '..UptoSaid'. A law counts once. -/
mutual
def uptoBulk {H : Type} : DataW H → Nat
  | .lit (.string bytes) => bytes.length + 1
  | .lit _ => 1
  | .nil => 1
  | .ptr d => uptoBulk d + 1
  | .slice elems spare => uptoBulkAll elems + uptoBulkAll spare + 1
  | .agg parts => uptoBulkAll parts + 1
  | .iface _ d => uptoBulk d + 1
  | .map entries => uptoBulkEntries entries + 1
  | .held _ => 1
def uptoBulkAll {H : Type} : List (DataW H) → Nat
  | [] => 0
  | d :: r => uptoBulk d + uptoBulkAll r
def uptoBulkEntries {H : Type} : List (Lit × DataW H) → Nat
  | [] => 0
  | x :: r => uptoBulkEntry x + uptoBulkEntries r
def uptoBulkEntry {H : Type} : Lit × DataW H → Nat
  | (.string bytes, d) => bytes.length + uptoBulk d + 1
  | (_, d) => uptoBulk d + 1
 end
def uptoSmall : (H : Type) → List (DataW H) → Bool := fun _ ds => decide (uptoBulkAll ds ≤ 1048576)
def OpenSpec.upto (s : _root_.Go.ChangeSpec) : _root_.Go.OpenSpec := { _root_.Go.OpenSpec.ofChange s with cond := some uptoSmall }

/-- 'laws.FnOwnerOfNone', WHERE WHAT IT READS IS OF BULK AT MOST 1048576: true; the input reads as it did. -/
def fnOwnerOfNoneUptoRow : OpenClaim := { program := "ytaneiilbkkfnoaa", sum := "d63de625fd6924bf55cf95c0420029850a12762339c32c81e5e602df4e1717a8", func := "loop.example/portmapper/laws.FnOwnerOfNone", spec := "fnOwnerOfNone", apart := false, narrowed := true }
def FnOwnerOfNoneUptoSaid : Prop := fnOwnerOfNoneUptoRow.holds Try.pinned (OpenSpec.upto fnOwnerOfNoneSpec)

/-- 'laws.FnBlockOfOwner', WHERE WHAT IT READS IS OF BULK AT MOST 1048576: true; the input reads as it did. -/
def fnBlockOfOwnerUptoRow : OpenClaim := { program := "ytaneiilbkkfnoaa", sum := "d63de625fd6924bf55cf95c0420029850a12762339c32c81e5e602df4e1717a8", func := "loop.example/portmapper/laws.FnBlockOfOwner", spec := "fnBlockOfOwner", apart := false, narrowed := true }
def FnBlockOfOwnerUptoSaid : Prop := fnBlockOfOwnerUptoRow.holds Try.pinned (OpenSpec.upto fnBlockOfOwnerSpec)

/-- 'laws.FnExactPortInBlock', WHERE WHAT IT READS IS OF BULK AT MOST 1048576: true; the input reads as it did. -/
def fnExactPortInBlockUptoRow : OpenClaim := { program := "ytaneiilbkkfnoaa", sum := "d63de625fd6924bf55cf95c0420029850a12762339c32c81e5e602df4e1717a8", func := "loop.example/portmapper/laws.FnExactPortInBlock", spec := "fnExactPortInBlock", apart := false, narrowed := true }
def FnExactPortInBlockUptoSaid : Prop := fnExactPortInBlockUptoRow.holds Try.pinned (OpenSpec.upto fnExactPortInBlockSpec)

/-- 'laws.FnOwnerOf', WHERE WHAT IT READS IS OF BULK AT MOST 1048576: true; the input reads as it did. -/
def fnOwnerOfUptoRow : OpenClaim := { program := "ytaneiilbkkfnoaa", sum := "d63de625fd6924bf55cf95c0420029850a12762339c32c81e5e602df4e1717a8", func := "loop.example/portmapper/laws.FnOwnerOf", spec := "fnOwnerOf", apart := false, narrowed := true }
def FnOwnerOfUptoSaid : Prop := fnOwnerOfUptoRow.holds Try.pinned (OpenSpec.upto fnOwnerOfSpec)

/-- 'laws.FnBlockOfNext', WHERE WHAT IT READS IS OF BULK AT MOST 1048576: true; the input reads as it did. -/
def fnBlockOfNextUptoRow : OpenClaim := { program := "ytaneiilbkkfnoaa", sum := "d63de625fd6924bf55cf95c0420029850a12762339c32c81e5e602df4e1717a8", func := "loop.example/portmapper/laws.FnBlockOfNext", spec := "fnBlockOfNext", apart := false, narrowed := true }
def FnBlockOfNextUptoSaid : Prop := fnBlockOfNextUptoRow.holds Try.pinned (OpenSpec.upto fnBlockOfNextSpec)

/-- 'laws.FnExactFreeInBlock', WHERE WHAT IT READS IS OF BULK AT MOST 1048576: true; the input reads as it did. -/
def fnExactFreeInBlockUptoRow : OpenClaim := { program := "ytaneiilbkkfnoaa", sum := "d63de625fd6924bf55cf95c0420029850a12762339c32c81e5e602df4e1717a8", func := "loop.example/portmapper/laws.FnExactFreeInBlock", spec := "fnExactFreeInBlock", apart := false, narrowed := true }
def FnExactFreeInBlockUptoSaid : Prop := fnExactFreeInBlockUptoRow.holds Try.pinned (OpenSpec.upto fnExactFreeInBlockSpec)

/-- 'laws.FnBlockOf', WHERE WHAT IT READS IS OF BULK AT MOST 1048576: true; the input reads as it did. -/
def fnBlockOfUptoRow : OpenClaim := { program := "ytaneiilbkkfnoaa", sum := "d63de625fd6924bf55cf95c0420029850a12762339c32c81e5e602df4e1717a8", func := "loop.example/portmapper/laws.FnBlockOf", spec := "fnBlockOf", apart := false, narrowed := true }
def FnBlockOfUptoSaid : Prop := fnBlockOfUptoRow.holds Try.pinned (OpenSpec.upto fnBlockOfSpec)

/-- 'laws.FnFreeInBlockTwice', WHERE WHAT IT READS IS OF BULK AT MOST 1048576: true; the input reads as it did. -/
def fnFreeInBlockTwiceUptoRow : OpenClaim := { program := "ytaneiilbkkfnoaa", sum := "d63de625fd6924bf55cf95c0420029850a12762339c32c81e5e602df4e1717a8", func := "loop.example/portmapper/laws.FnFreeInBlockTwice", spec := "fnFreeInBlockTwice", apart := false, narrowed := true }
def FnFreeInBlockTwiceUptoSaid : Prop := fnFreeInBlockTwiceUptoRow.holds Try.pinned (OpenSpec.upto fnFreeInBlockTwiceSpec)

/-- 'laws.FnPortInBlockOther', WHERE WHAT IT READS IS OF BULK AT MOST 1048576: true; the input reads as it did. -/
def fnPortInBlockOtherUptoRow : OpenClaim := { program := "ytaneiilbkkfnoaa", sum := "d63de625fd6924bf55cf95c0420029850a12762339c32c81e5e602df4e1717a8", func := "loop.example/portmapper/laws.FnPortInBlockOther", spec := "fnPortInBlockOther", apart := false, narrowed := true }
def FnPortInBlockOtherUptoSaid : Prop := fnPortInBlockOtherUptoRow.holds Try.pinned (OpenSpec.upto fnPortInBlockOtherSpec)

/-- 'laws.FnPortInBlock', WHERE WHAT IT READS IS OF BULK AT MOST 1048576: true; the input reads as it did. -/
def fnPortInBlockUptoRow : OpenClaim := { program := "ytaneiilbkkfnoaa", sum := "d63de625fd6924bf55cf95c0420029850a12762339c32c81e5e602df4e1717a8", func := "loop.example/portmapper/laws.FnPortInBlock", spec := "fnPortInBlock", apart := false, narrowed := true }
def FnPortInBlockUptoSaid : Prop := fnPortInBlockUptoRow.holds Try.pinned (OpenSpec.upto fnPortInBlockSpec)

/-- 'laws.FnPortInBlockWant', WHERE WHAT IT READS IS OF BULK AT MOST 1048576: true; the input reads as it did. -/
def fnPortInBlockWantUptoRow : OpenClaim := { program := "ytaneiilbkkfnoaa", sum := "d63de625fd6924bf55cf95c0420029850a12762339c32c81e5e602df4e1717a8", func := "loop.example/portmapper/laws.FnPortInBlockWant", spec := "fnPortInBlockWant", apart := false, narrowed := true }
def FnPortInBlockWantUptoSaid : Prop := fnPortInBlockWantUptoRow.holds Try.pinned (OpenSpec.upto fnPortInBlockWantSpec)

/-- 'laws.FnFreeInBlock', WHERE WHAT IT READS IS OF BULK AT MOST 1048576: true; the input reads as it did. -/
def fnFreeInBlockUptoRow : OpenClaim := { program := "ytaneiilbkkfnoaa", sum := "d63de625fd6924bf55cf95c0420029850a12762339c32c81e5e602df4e1717a8", func := "loop.example/portmapper/laws.FnFreeInBlock", spec := "fnFreeInBlock", apart := false, narrowed := true }
def FnFreeInBlockUptoSaid : Prop := fnFreeInBlockUptoRow.holds Try.pinned (OpenSpec.upto fnFreeInBlockSpec)

/-- 'laws.FnPortInBlockNone', WHERE WHAT IT READS IS OF BULK AT MOST 1048576: true; the input reads as it did. -/
def fnPortInBlockNoneUptoRow : OpenClaim := { program := "ytaneiilbkkfnoaa", sum := "d63de625fd6924bf55cf95c0420029850a12762339c32c81e5e602df4e1717a8", func := "loop.example/portmapper/laws.FnPortInBlockNone", spec := "fnPortInBlockNone", apart := false, narrowed := true }
def FnPortInBlockNoneUptoSaid : Prop := fnPortInBlockNoneUptoRow.holds Try.pinned (OpenSpec.upto fnPortInBlockNoneSpec)

end Rows
end Go.Proofs.Ytaneiilbkkfnoaa
