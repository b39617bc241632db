/-
  No cell of these rows narrows 'for every input' (looked for: loops, veiled, ifaces, maps, wideKeys, modest, calm, conditions, laid).
  DERIVED. THE GIVEN ROWS OF THIS SEAT. 13 by the template 'for every input the law returns true; each argument reads behind the call as it read before'; 0 by the template 'total and deterministic' (their statements: YtadkplikobhckaaTotals.lean).
  GIVEN WITH THE SEED: the statements are not yours to turn. If you find one false, say at which input.
  Laid BY PROGRAM, IN A SANDBOX (cutbox-rows.mjs): the forced cells as the released guide's own fill.sh prints them over the translation 9e8422785bb88b74… (all of the seat's roots in one cut). By AI agents, Wed Nov 11 2026. No macro, syntax, notation, axiom, sorry.
-/
import Derived.Test.YtadkplikobhckaaChecked
import GoSem.Claim
import GoSem.ClaimJoined
import GoSem.ClaimMapViews
import Derived.JoinedTies
import Derived.KernelRfl
namespace Go.Proofs.Ytadkplikobhckaa
/- THE CELL 'sum', in the pinned program and in every row, IS THE sha256 OF THE DUMP (.gsa) THAT YtadkplikobhckaaProg.lean LOADS. Nothing in Lean hashes anything: it is a label: what it is worth is what the hold of that sum in a sandbox is worth. -/
noncomputable def Try.pinned : Pinned := { name := "ytadkplikobhckaa", sum := "9e8422785bb88b742913e81285adab411e4b25c25b2ef2672e813e706ef2e44a", checked := Try.checked }
namespace Rows
def none {H : Type} : Left H := { results := [], args := [] }

/-- 'perigeelaw5.CommandReadsMatchSpec': WHATEVER THE INPUT: true; the input reads as it did. -/
def commandReadsMatchSpecSpec : ChangeSpec := { name := "commandReadsMatchSpec", fn := fun _ => fun
  | [d] => { results := [.lit (.bool true)], args := [d] }
  | _ => none }
def commandReadsMatchSpecRow : OpenClaim := { program := "ytadkplikobhckaa", sum := "9e8422785bb88b742913e81285adab411e4b25c25b2ef2672e813e706ef2e44a", func := "perigee/perigeelaw5.CommandReadsMatchSpec", spec := "commandReadsMatchSpec", apart := false }
def CommandReadsMatchSpecSaid : Prop := commandReadsMatchSpecRow.holds Try.pinned (OpenSpec.ofChange commandReadsMatchSpecSpec)

/-- ITS FALSE NEIGHBOUR: 'it returns false'. Refute it at one input. -/
def commandReadsMatchSpecWrong : ChangeSpec := { name := "commandReadsMatchSpec", fn := fun _ => fun
  | [d] => { results := [.lit (.bool false)], args := [d] }
  | _ => none }
def CommandReadsMatchSpecWrongFalsely : Prop := commandReadsMatchSpecRow.holds Try.pinned (OpenSpec.ofChange commandReadsMatchSpecWrong)

/-- 'perigeelaw5.CommandBytesMatchSpec': WHATEVER THE INPUT: true; the input reads as it did. -/
def commandBytesMatchSpecSpec : ChangeSpec := { name := "commandBytesMatchSpec", fn := fun _ => fun
  | [d1, d2] => { results := [.lit (.bool true)], args := [d1, d2] }
  | _ => none }
def commandBytesMatchSpecRow : OpenClaim := { program := "ytadkplikobhckaa", sum := "9e8422785bb88b742913e81285adab411e4b25c25b2ef2672e813e706ef2e44a", func := "perigee/perigeelaw5.CommandBytesMatchSpec", spec := "commandBytesMatchSpec", apart := false }
def CommandBytesMatchSpecSaid : Prop := commandBytesMatchSpecRow.holds Try.pinned (OpenSpec.ofChange commandBytesMatchSpecSpec)

/-- ITS FALSE NEIGHBOUR: 'it returns false'. Refute it at one input. -/
def commandBytesMatchSpecWrong : ChangeSpec := { name := "commandBytesMatchSpec", fn := fun _ => fun
  | [d1, d2] => { results := [.lit (.bool false)], args := [d1, d2] }
  | _ => none }
def CommandBytesMatchSpecWrongFalsely : Prop := commandBytesMatchSpecRow.holds Try.pinned (OpenSpec.ofChange commandBytesMatchSpecWrong)

/-- 'perigeelaw5.CommandTakenOnce': WHATEVER THE INPUT: true; the input reads as it did. -/
def commandTakenOnceSpec : ChangeSpec := { name := "commandTakenOnce", fn := fun _ => fun
  | [d1, d2] => { results := [.lit (.bool true)], args := [d1, d2] }
  | _ => none }
def commandTakenOnceRow : OpenClaim := { program := "ytadkplikobhckaa", sum := "9e8422785bb88b742913e81285adab411e4b25c25b2ef2672e813e706ef2e44a", func := "perigee/perigeelaw5.CommandTakenOnce", spec := "commandTakenOnce", apart := false }
def CommandTakenOnceSaid : Prop := commandTakenOnceRow.holds Try.pinned (OpenSpec.ofChange commandTakenOnceSpec)

/-- ITS FALSE NEIGHBOUR: 'it returns false'. Refute it at one input. -/
def commandTakenOnceWrong : ChangeSpec := { name := "commandTakenOnce", fn := fun _ => fun
  | [d1, d2] => { results := [.lit (.bool false)], args := [d1, d2] }
  | _ => none }
def CommandTakenOnceWrongFalsely : Prop := commandTakenOnceRow.holds Try.pinned (OpenSpec.ofChange commandTakenOnceWrong)

/-- 'perigeelaw5.CommandTakesMatchSpec': WHATEVER THE INPUT: true; the input reads as it did. -/
def commandTakesMatchSpecSpec : ChangeSpec := { name := "commandTakesMatchSpec", fn := fun _ => fun
  | [d1, d2] => { results := [.lit (.bool true)], args := [d1, d2] }
  | _ => none }
def commandTakesMatchSpecRow : OpenClaim := { program := "ytadkplikobhckaa", sum := "9e8422785bb88b742913e81285adab411e4b25c25b2ef2672e813e706ef2e44a", func := "perigee/perigeelaw5.CommandTakesMatchSpec", spec := "commandTakesMatchSpec", apart := false }
def CommandTakesMatchSpecSaid : Prop := commandTakesMatchSpecRow.holds Try.pinned (OpenSpec.ofChange commandTakesMatchSpecSpec)

/-- ITS FALSE NEIGHBOUR: 'it returns false'. Refute it at one input. -/
def commandTakesMatchSpecWrong : ChangeSpec := { name := "commandTakesMatchSpec", fn := fun _ => fun
  | [d1, d2] => { results := [.lit (.bool false)], args := [d1, d2] }
  | _ => none }
def CommandTakesMatchSpecWrongFalsely : Prop := commandTakesMatchSpecRow.holds Try.pinned (OpenSpec.ofChange commandTakesMatchSpecWrong)

/-- 'perigeelaw5.CommandGroundsMatchSpec': WHATEVER THE INPUT: true; the input reads as it did. -/
def commandGroundsMatchSpecSpec : ChangeSpec := { name := "commandGroundsMatchSpec", fn := fun _ => fun
  | [d1, d2, d3] => { results := [.lit (.bool true)], args := [d1, d2, d3] }
  | _ => none }
def commandGroundsMatchSpecRow : OpenClaim := { program := "ytadkplikobhckaa", sum := "9e8422785bb88b742913e81285adab411e4b25c25b2ef2672e813e706ef2e44a", func := "perigee/perigeelaw5.CommandGroundsMatchSpec", spec := "commandGroundsMatchSpec", apart := false }
def CommandGroundsMatchSpecSaid : Prop := commandGroundsMatchSpecRow.holds Try.pinned (OpenSpec.ofChange commandGroundsMatchSpecSpec)

/-- ITS FALSE NEIGHBOUR: 'it returns false'. Refute it at one input. -/
def commandGroundsMatchSpecWrong : ChangeSpec := { name := "commandGroundsMatchSpec", fn := fun _ => fun
  | [d1, d2, d3] => { results := [.lit (.bool false)], args := [d1, d2, d3] }
  | _ => none }
def CommandGroundsMatchSpecWrongFalsely : Prop := commandGroundsMatchSpecRow.holds Try.pinned (OpenSpec.ofChange commandGroundsMatchSpecWrong)

/-- 'perigeelaw5.CommandNeededMatchesSpec': WHATEVER THE INPUT: true; the input reads as it did. -/
def commandNeededMatchesSpecSpec : ChangeSpec := { name := "commandNeededMatchesSpec", fn := fun _ => fun
  | [d1, d2, d3] => { results := [.lit (.bool true)], args := [d1, d2, d3] }
  | _ => none }
def commandNeededMatchesSpecRow : OpenClaim := { program := "ytadkplikobhckaa", sum := "9e8422785bb88b742913e81285adab411e4b25c25b2ef2672e813e706ef2e44a", func := "perigee/perigeelaw5.CommandNeededMatchesSpec", spec := "commandNeededMatchesSpec", apart := false }
def CommandNeededMatchesSpecSaid : Prop := commandNeededMatchesSpecRow.holds Try.pinned (OpenSpec.ofChange commandNeededMatchesSpecSpec)

/-- ITS FALSE NEIGHBOUR: 'it returns false'. Refute it at one input. -/
def commandNeededMatchesSpecWrong : ChangeSpec := { name := "commandNeededMatchesSpec", fn := fun _ => fun
  | [d1, d2, d3] => { results := [.lit (.bool false)], args := [d1, d2, d3] }
  | _ => none }
def CommandNeededMatchesSpecWrongFalsely : Prop := commandNeededMatchesSpecRow.holds Try.pinned (OpenSpec.ofChange commandNeededMatchesSpecWrong)

/-- 'perigeelaw5.CommandRunsMatchSpec': WHATEVER THE INPUT: true; the input reads as it did. -/
def commandRunsMatchSpecSpec : ChangeSpec := { name := "commandRunsMatchSpec", fn := fun _ => fun
  | [d1, d2, d3] => { results := [.lit (.bool true)], args := [d1, d2, d3] }
  | _ => none }
def commandRunsMatchSpecRow : OpenClaim := { program := "ytadkplikobhckaa", sum := "9e8422785bb88b742913e81285adab411e4b25c25b2ef2672e813e706ef2e44a", func := "perigee/perigeelaw5.CommandRunsMatchSpec", spec := "commandRunsMatchSpec", unfollowed := true, recurses := true, apart := false }
def CommandRunsMatchSpecSaid : Prop := commandRunsMatchSpecRow.holds Try.pinned (OpenSpec.ofChange commandRunsMatchSpecSpec)

/-- ITS FALSE NEIGHBOUR: 'it returns false'. Refute it at one input. -/
def commandRunsMatchSpecWrong : ChangeSpec := { name := "commandRunsMatchSpec", fn := fun _ => fun
  | [d1, d2, d3] => { results := [.lit (.bool false)], args := [d1, d2, d3] }
  | _ => none }
def CommandRunsMatchSpecWrongFalsely : Prop := commandRunsMatchSpecRow.holds Try.pinned (OpenSpec.ofChange commandRunsMatchSpecWrong)

/-- 'perigeelaw5.CommandTakenInOrder': WHATEVER THE INPUT: true; the input reads as it did. -/
def commandTakenInOrderSpec : ChangeSpec := { name := "commandTakenInOrder", fn := fun _ => fun
  | [d1, d2, d3, d4, d5] => { results := [.lit (.bool true)], args := [d1, d2, d3, d4, d5] }
  | _ => none }
def commandTakenInOrderRow : OpenClaim := { program := "ytadkplikobhckaa", sum := "9e8422785bb88b742913e81285adab411e4b25c25b2ef2672e813e706ef2e44a", func := "perigee/perigeelaw5.CommandTakenInOrder", spec := "commandTakenInOrder", unfollowed := true, recurses := true, apart := false }
def CommandTakenInOrderSaid : Prop := commandTakenInOrderRow.holds Try.pinned (OpenSpec.ofChange commandTakenInOrderSpec)

/-- ITS FALSE NEIGHBOUR: 'it returns false'. Refute it at one input. -/
def commandTakenInOrderWrong : ChangeSpec := { name := "commandTakenInOrder", fn := fun _ => fun
  | [d1, d2, d3, d4, d5] => { results := [.lit (.bool false)], args := [d1, d2, d3, d4, d5] }
  | _ => none }
def CommandTakenInOrderWrongFalsely : Prop := commandTakenInOrderRow.holds Try.pinned (OpenSpec.ofChange commandTakenInOrderWrong)

/-- 'perigeelaw5.CommandAllIsTaken': WHATEVER THE INPUT: true; the input reads as it did. -/
def commandAllIsTakenSpec : ChangeSpec := { name := "commandAllIsTaken", fn := fun _ => fun
  | [d1, d2, d3, d4] => { results := [.lit (.bool true)], args := [d1, d2, d3, d4] }
  | _ => none }
def commandAllIsTakenRow : OpenClaim := { program := "ytadkplikobhckaa", sum := "9e8422785bb88b742913e81285adab411e4b25c25b2ef2672e813e706ef2e44a", func := "perigee/perigeelaw5.CommandAllIsTaken", spec := "commandAllIsTaken", unfollowed := true, recurses := true, apart := false }
def CommandAllIsTakenSaid : Prop := commandAllIsTakenRow.holds Try.pinned (OpenSpec.ofChange commandAllIsTakenSpec)

/-- ITS FALSE NEIGHBOUR: 'it returns false'. Refute it at one input. -/
def commandAllIsTakenWrong : ChangeSpec := { name := "commandAllIsTaken", fn := fun _ => fun
  | [d1, d2, d3, d4] => { results := [.lit (.bool false)], args := [d1, d2, d3, d4] }
  | _ => none }
def CommandAllIsTakenWrongFalsely : Prop := commandAllIsTakenRow.holds Try.pinned (OpenSpec.ofChange commandAllIsTakenWrong)

/-- 'perigeelaw5.CommandSignedIsOpenedOnce': WHATEVER THE INPUT: true; the input reads as it did. -/
def commandSignedIsOpenedOnceSpec : ChangeSpec := { name := "commandSignedIsOpenedOnce", fn := fun _ => fun
  | [d1, d2, d3] => { results := [.lit (.bool true)], args := [d1, d2, d3] }
  | _ => none }
def commandSignedIsOpenedOnceRow : OpenClaim := { program := "ytadkplikobhckaa", sum := "9e8422785bb88b742913e81285adab411e4b25c25b2ef2672e813e706ef2e44a", func := "perigee/perigeelaw5.CommandSignedIsOpenedOnce", spec := "commandSignedIsOpenedOnce", recurses := true, apart := false }
def CommandSignedIsOpenedOnceSaid : Prop := commandSignedIsOpenedOnceRow.holds Try.pinned (OpenSpec.ofChange commandSignedIsOpenedOnceSpec)

/-- ITS FALSE NEIGHBOUR: 'it returns false'. Refute it at one input. -/
def commandSignedIsOpenedOnceWrong : ChangeSpec := { name := "commandSignedIsOpenedOnce", fn := fun _ => fun
  | [d1, d2, d3] => { results := [.lit (.bool false)], args := [d1, d2, d3] }
  | _ => none }
def CommandSignedIsOpenedOnceWrongFalsely : Prop := commandSignedIsOpenedOnceRow.holds Try.pinned (OpenSpec.ofChange commandSignedIsOpenedOnceWrong)

/-- 'perigeelaw5.CommandNoCounterTwice': WHATEVER THE INPUT: true; the input reads as it did. -/
def commandNoCounterTwiceSpec : ChangeSpec := { name := "commandNoCounterTwice", fn := fun _ => fun
  | [d1, d2] => { results := [.lit (.bool true)], args := [d1, d2] }
  | _ => none }
def commandNoCounterTwiceRow : OpenClaim := { program := "ytadkplikobhckaa", sum := "9e8422785bb88b742913e81285adab411e4b25c25b2ef2672e813e706ef2e44a", func := "perigee/perigeelaw5.CommandNoCounterTwice", spec := "commandNoCounterTwice", recurses := true, apart := false }
def CommandNoCounterTwiceSaid : Prop := commandNoCounterTwiceRow.holds Try.pinned (OpenSpec.ofChange commandNoCounterTwiceSpec)

/-- ITS FALSE NEIGHBOUR: 'it returns false'. Refute it at one input. -/
def commandNoCounterTwiceWrong : ChangeSpec := { name := "commandNoCounterTwice", fn := fun _ => fun
  | [d1, d2] => { results := [.lit (.bool false)], args := [d1, d2] }
  | _ => none }
def CommandNoCounterTwiceWrongFalsely : Prop := commandNoCounterTwiceRow.holds Try.pinned (OpenSpec.ofChange commandNoCounterTwiceWrong)

/-- 'perigeelaw5.CommandOpenedAllMatchesSpec': WHATEVER THE INPUT: true; the input reads as it did. -/
def commandOpenedAllMatchesSpecSpec : ChangeSpec := { name := "commandOpenedAllMatchesSpec", fn := fun _ => fun
  | [d1, d2] => { results := [.lit (.bool true)], args := [d1, d2] }
  | _ => none }
def commandOpenedAllMatchesSpecRow : OpenClaim := { program := "ytadkplikobhckaa", sum := "9e8422785bb88b742913e81285adab411e4b25c25b2ef2672e813e706ef2e44a", func := "perigee/perigeelaw5.CommandOpenedAllMatchesSpec", spec := "commandOpenedAllMatchesSpec", inPlace := ["slices.overlaps[int]"], recurses := true, apart := false }
def CommandOpenedAllMatchesSpecSaid : Prop := commandOpenedAllMatchesSpecRow.holds Try.pinned (OpenSpec.ofChange commandOpenedAllMatchesSpecSpec)

/-- ITS FALSE NEIGHBOUR: 'it returns false'. Refute it at one input. -/
def commandOpenedAllMatchesSpecWrong : ChangeSpec := { name := "commandOpenedAllMatchesSpec", fn := fun _ => fun
  | [d1, d2] => { results := [.lit (.bool false)], args := [d1, d2] }
  | _ => none }
def CommandOpenedAllMatchesSpecWrongFalsely : Prop := commandOpenedAllMatchesSpecRow.holds Try.pinned (OpenSpec.ofChange commandOpenedAllMatchesSpecWrong)

/-- 'perigeelaw5.CommandSignsMatchSpec': WHATEVER THE INPUT: true; the input reads as it did. -/
def commandSignsMatchSpecSpec : ChangeSpec := { name := "commandSignsMatchSpec", fn := fun _ => fun
  | [d1, d2, d3, d4, d5] => { results := [.lit (.bool true)], args := [d1, d2, d3, d4, d5] }
  | _ => none }
def commandSignsMatchSpecRow : OpenClaim := { program := "ytadkplikobhckaa", sum := "9e8422785bb88b742913e81285adab411e4b25c25b2ef2672e813e706ef2e44a", func := "perigee/perigeelaw5.CommandSignsMatchSpec", spec := "commandSignsMatchSpec", inPlace := ["slices.overlaps[int]"], recurses := true, apart := false }
def CommandSignsMatchSpecSaid : Prop := commandSignsMatchSpecRow.holds Try.pinned (OpenSpec.ofChange commandSignsMatchSpecSpec)

/-- ITS FALSE NEIGHBOUR: 'it returns false'. Refute it at one input. -/
def commandSignsMatchSpecWrong : ChangeSpec := { name := "commandSignsMatchSpec", fn := fun _ => fun
  | [d1, d2, d3, d4, d5] => { results := [.lit (.bool false)], args := [d1, d2, d3, d4, d5] }
  | _ => none }
def CommandSignsMatchSpecWrongFalsely : Prop := commandSignsMatchSpecRow.holds Try.pinned (OpenSpec.ofChange commandSignsMatchSpecWrong)

/- THE SECOND FORM. 'bulk': how many values and letters a reading holds, each counted each time it is reached (what is shared counts as often as it is met; a slice's spare places count too). A statement '..UptoSaid' is the law's where the arguments, and the package variables that the reading takes, are together of bulk at most 1048576: NARROWER than '..Said'. Prove '..Said' where nothing that the law and all that it calls make is longer than what came in: it says more and counts as full. Else prove '..UptoSaid'. A law counts once. -/
mutual
def uptoBulk {H : Type} : DataW H → Nat
  | .lit (.string bytes) => bytes.length + 1
  | .lit _ => 1
  | .nil => 1
  | .ptr d => uptoBulk d + 1
  | .slice elems spare => uptoBulkAll elems + uptoBulkAll spare + 1
  | .agg parts => uptoBulkAll parts + 1
  | .iface _ d => uptoBulk d + 1
  | .map entries => uptoBulkEntries entries + 1
  | .held _ => 1
def uptoBulkAll {H : Type} : List (DataW H) → Nat
  | [] => 0
  | d :: r => uptoBulk d + uptoBulkAll r
def uptoBulkEntries {H : Type} : List (Lit × DataW H) → Nat
  | [] => 0
  | x :: r => uptoBulkEntry x + uptoBulkEntries r
def uptoBulkEntry {H : Type} : Lit × DataW H → Nat
  | (.string bytes, d) => bytes.length + uptoBulk d + 1
  | (_, d) => uptoBulk d + 1
 end
def uptoSmall : (H : Type) → List (DataW H) → Bool := fun _ ds => decide (uptoBulkAll ds ≤ 1048576)
def OpenSpec.upto (s : _root_.Go.ChangeSpec) : _root_.Go.OpenSpec := { _root_.Go.OpenSpec.ofChange s with cond := some uptoSmall }

/-- 'perigeelaw5.CommandReadsMatchSpec', WHERE WHAT IT READS IS OF BULK AT MOST 1048576: true; the input reads as it did. -/
def commandReadsMatchSpecUptoRow : OpenClaim := { program := "ytadkplikobhckaa", sum := "9e8422785bb88b742913e81285adab411e4b25c25b2ef2672e813e706ef2e44a", func := "perigee/perigeelaw5.CommandReadsMatchSpec", spec := "commandReadsMatchSpec", apart := false, narrowed := true }
def CommandReadsMatchSpecUptoSaid : Prop := commandReadsMatchSpecUptoRow.holds Try.pinned (OpenSpec.upto commandReadsMatchSpecSpec)

/-- 'perigeelaw5.CommandBytesMatchSpec', WHERE WHAT IT READS IS OF BULK AT MOST 1048576: true; the input reads as it did. -/
def commandBytesMatchSpecUptoRow : OpenClaim := { program := "ytadkplikobhckaa", sum := "9e8422785bb88b742913e81285adab411e4b25c25b2ef2672e813e706ef2e44a", func := "perigee/perigeelaw5.CommandBytesMatchSpec", spec := "commandBytesMatchSpec", apart := false, narrowed := true }
def CommandBytesMatchSpecUptoSaid : Prop := commandBytesMatchSpecUptoRow.holds Try.pinned (OpenSpec.upto commandBytesMatchSpecSpec)

/-- 'perigeelaw5.CommandTakenOnce', WHERE WHAT IT READS IS OF BULK AT MOST 1048576: true; the input reads as it did. -/
def commandTakenOnceUptoRow : OpenClaim := { program := "ytadkplikobhckaa", sum := "9e8422785bb88b742913e81285adab411e4b25c25b2ef2672e813e706ef2e44a", func := "perigee/perigeelaw5.CommandTakenOnce", spec := "commandTakenOnce", apart := false, narrowed := true }
def CommandTakenOnceUptoSaid : Prop := commandTakenOnceUptoRow.holds Try.pinned (OpenSpec.upto commandTakenOnceSpec)

/-- 'perigeelaw5.CommandTakesMatchSpec', WHERE WHAT IT READS IS OF BULK AT MOST 1048576: true; the input reads as it did. -/
def commandTakesMatchSpecUptoRow : OpenClaim := { program := "ytadkplikobhckaa", sum := "9e8422785bb88b742913e81285adab411e4b25c25b2ef2672e813e706ef2e44a", func := "perigee/perigeelaw5.CommandTakesMatchSpec", spec := "commandTakesMatchSpec", apart := false, narrowed := true }
def CommandTakesMatchSpecUptoSaid : Prop := commandTakesMatchSpecUptoRow.holds Try.pinned (OpenSpec.upto commandTakesMatchSpecSpec)

/-- 'perigeelaw5.CommandGroundsMatchSpec', WHERE WHAT IT READS IS OF BULK AT MOST 1048576: true; the input reads as it did. -/
def commandGroundsMatchSpecUptoRow : OpenClaim := { program := "ytadkplikobhckaa", sum := "9e8422785bb88b742913e81285adab411e4b25c25b2ef2672e813e706ef2e44a", func := "perigee/perigeelaw5.CommandGroundsMatchSpec", spec := "commandGroundsMatchSpec", apart := false, narrowed := true }
def CommandGroundsMatchSpecUptoSaid : Prop := commandGroundsMatchSpecUptoRow.holds Try.pinned (OpenSpec.upto commandGroundsMatchSpecSpec)

/-- 'perigeelaw5.CommandNeededMatchesSpec', WHERE WHAT IT READS IS OF BULK AT MOST 1048576: true; the input reads as it did. -/
def commandNeededMatchesSpecUptoRow : OpenClaim := { program := "ytadkplikobhckaa", sum := "9e8422785bb88b742913e81285adab411e4b25c25b2ef2672e813e706ef2e44a", func := "perigee/perigeelaw5.CommandNeededMatchesSpec", spec := "commandNeededMatchesSpec", apart := false, narrowed := true }
def CommandNeededMatchesSpecUptoSaid : Prop := commandNeededMatchesSpecUptoRow.holds Try.pinned (OpenSpec.upto commandNeededMatchesSpecSpec)

/-- 'perigeelaw5.CommandRunsMatchSpec', WHERE WHAT IT READS IS OF BULK AT MOST 1048576: true; the input reads as it did. -/
def commandRunsMatchSpecUptoRow : OpenClaim := { program := "ytadkplikobhckaa", sum := "9e8422785bb88b742913e81285adab411e4b25c25b2ef2672e813e706ef2e44a", func := "perigee/perigeelaw5.CommandRunsMatchSpec", spec := "commandRunsMatchSpec", unfollowed := true, recurses := true, apart := false, narrowed := true }
def CommandRunsMatchSpecUptoSaid : Prop := commandRunsMatchSpecUptoRow.holds Try.pinned (OpenSpec.upto commandRunsMatchSpecSpec)

/-- 'perigeelaw5.CommandTakenInOrder', WHERE WHAT IT READS IS OF BULK AT MOST 1048576: true; the input reads as it did. -/
def commandTakenInOrderUptoRow : OpenClaim := { program := "ytadkplikobhckaa", sum := "9e8422785bb88b742913e81285adab411e4b25c25b2ef2672e813e706ef2e44a", func := "perigee/perigeelaw5.CommandTakenInOrder", spec := "commandTakenInOrder", unfollowed := true, recurses := true, apart := false, narrowed := true }
def CommandTakenInOrderUptoSaid : Prop := commandTakenInOrderUptoRow.holds Try.pinned (OpenSpec.upto commandTakenInOrderSpec)

/-- 'perigeelaw5.CommandAllIsTaken', WHERE WHAT IT READS IS OF BULK AT MOST 1048576: true; the input reads as it did. -/
def commandAllIsTakenUptoRow : OpenClaim := { program := "ytadkplikobhckaa", sum := "9e8422785bb88b742913e81285adab411e4b25c25b2ef2672e813e706ef2e44a", func := "perigee/perigeelaw5.CommandAllIsTaken", spec := "commandAllIsTaken", unfollowed := true, recurses := true, apart := false, narrowed := true }
def CommandAllIsTakenUptoSaid : Prop := commandAllIsTakenUptoRow.holds Try.pinned (OpenSpec.upto commandAllIsTakenSpec)

/-- 'perigeelaw5.CommandSignedIsOpenedOnce', WHERE WHAT IT READS IS OF BULK AT MOST 1048576: true; the input reads as it did. -/
def commandSignedIsOpenedOnceUptoRow : OpenClaim := { program := "ytadkplikobhckaa", sum := "9e8422785bb88b742913e81285adab411e4b25c25b2ef2672e813e706ef2e44a", func := "perigee/perigeelaw5.CommandSignedIsOpenedOnce", spec := "commandSignedIsOpenedOnce", recurses := true, apart := false, narrowed := true }
def CommandSignedIsOpenedOnceUptoSaid : Prop := commandSignedIsOpenedOnceUptoRow.holds Try.pinned (OpenSpec.upto commandSignedIsOpenedOnceSpec)

/-- 'perigeelaw5.CommandNoCounterTwice', WHERE WHAT IT READS IS OF BULK AT MOST 1048576: true; the input reads as it did. -/
def commandNoCounterTwiceUptoRow : OpenClaim := { program := "ytadkplikobhckaa", sum := "9e8422785bb88b742913e81285adab411e4b25c25b2ef2672e813e706ef2e44a", func := "perigee/perigeelaw5.CommandNoCounterTwice", spec := "commandNoCounterTwice", recurses := true, apart := false, narrowed := true }
def CommandNoCounterTwiceUptoSaid : Prop := commandNoCounterTwiceUptoRow.holds Try.pinned (OpenSpec.upto commandNoCounterTwiceSpec)

/-- 'perigeelaw5.CommandOpenedAllMatchesSpec', WHERE WHAT IT READS IS OF BULK AT MOST 1048576: true; the input reads as it did. -/
def commandOpenedAllMatchesSpecUptoRow : OpenClaim := { program := "ytadkplikobhckaa", sum := "9e8422785bb88b742913e81285adab411e4b25c25b2ef2672e813e706ef2e44a", func := "perigee/perigeelaw5.CommandOpenedAllMatchesSpec", spec := "commandOpenedAllMatchesSpec", inPlace := ["slices.overlaps[int]"], recurses := true, apart := false, narrowed := true }
def CommandOpenedAllMatchesSpecUptoSaid : Prop := commandOpenedAllMatchesSpecUptoRow.holds Try.pinned (OpenSpec.upto commandOpenedAllMatchesSpecSpec)

/-- 'perigeelaw5.CommandSignsMatchSpec', WHERE WHAT IT READS IS OF BULK AT MOST 1048576: true; the input reads as it did. -/
def commandSignsMatchSpecUptoRow : OpenClaim := { program := "ytadkplikobhckaa", sum := "9e8422785bb88b742913e81285adab411e4b25c25b2ef2672e813e706ef2e44a", func := "perigee/perigeelaw5.CommandSignsMatchSpec", spec := "commandSignsMatchSpec", inPlace := ["slices.overlaps[int]"], recurses := true, apart := false, narrowed := true }
def CommandSignsMatchSpecUptoSaid : Prop := commandSignsMatchSpecUptoRow.holds Try.pinned (OpenSpec.upto commandSignsMatchSpecSpec)

end Rows
end Go.Proofs.Ytadkplikobhckaa
