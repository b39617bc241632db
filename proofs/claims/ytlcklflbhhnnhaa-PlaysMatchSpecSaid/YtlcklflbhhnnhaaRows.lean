/-
  No cell of these rows narrows 'for every input' (looked for: loops, veiled, ifaces, maps, wideKeys, modest, calm, conditions, laid).
  DERIVED. THE GIVEN ROWS OF THIS SEAT. 15 by the template 'for every input the law returns true; each argument reads behind the call as it read before'; 0 by the template 'total and deterministic' (their statements: YtlcklflbhhnnhaaTotals.lean).
  GIVEN WITH THE SEED: the statements are not yours to turn. If you find one false, say at which input.
  Laid BY PROGRAM, IN A SANDBOX (cutbox-rows.mjs): the forced cells as the released guide's own fill.sh prints them over the translation ed0d4b92f109d7f8… (all of the seat's roots in one cut). By AI agents, Wed Nov 11 2026. No macro, syntax, notation, axiom, sorry.
-/
import Derived.Test.YtlcklflbhhnnhaaChecked
import GoSem.Claim
import GoSem.ClaimJoined
import GoSem.ClaimMapViews
import Derived.JoinedTies
import Derived.KernelRfl
namespace Go.Proofs.Ytlcklflbhhnnhaa
/- THE CELL 'sum', in the pinned program and in every row, IS THE sha256 OF THE DUMP (.gsa) THAT YtlcklflbhhnnhaaProg.lean LOADS. Nothing in Lean hashes anything: it is a label: what it is worth is what the hold of that sum in a sandbox is worth. -/
noncomputable def Try.pinned : Pinned := { name := "ytlcklflbhhnnhaa", sum := "ed0d4b92f109d7f8eb60d5d046f411f6b97278efc15b7130bdc624eae33c35f8", checked := Try.checked }
namespace Rows
def none {H : Type} : Left H := { results := [], args := [] }

/-- 'perigeelaw11.LettersMatchSpec': WHATEVER THE INPUT: true; the input reads as it did. -/
def lettersMatchSpecSpec : ChangeSpec := { name := "lettersMatchSpec", fn := fun _ => fun
  | [d1, d2, d3] => { results := [.lit (.bool true)], args := [d1, d2, d3] }
  | _ => none }
def lettersMatchSpecRow : OpenClaim := { program := "ytlcklflbhhnnhaa", sum := "ed0d4b92f109d7f8eb60d5d046f411f6b97278efc15b7130bdc624eae33c35f8", func := "perigee/perigeelaw11.LettersMatchSpec", spec := "lettersMatchSpec", apart := false }
def LettersMatchSpecSaid : Prop := lettersMatchSpecRow.holds Try.pinned (OpenSpec.ofChange lettersMatchSpecSpec)

/-- ITS FALSE NEIGHBOUR: 'it returns false'. Refute it at one input. -/
def lettersMatchSpecWrong : ChangeSpec := { name := "lettersMatchSpec", fn := fun _ => fun
  | [d1, d2, d3] => { results := [.lit (.bool false)], args := [d1, d2, d3] }
  | _ => none }
def LettersMatchSpecWrongFalsely : Prop := lettersMatchSpecRow.holds Try.pinned (OpenSpec.ofChange lettersMatchSpecWrong)

/-- 'perigeelaw11.SendersMatchSpec': WHATEVER THE INPUT: true; the input reads as it did. -/
def sendersMatchSpecSpec : ChangeSpec := { name := "sendersMatchSpec", fn := fun _ => fun
  | [d1, d2, d3, d4, d5] => { results := [.lit (.bool true)], args := [d1, d2, d3, d4, d5] }
  | _ => none }
def sendersMatchSpecRow : OpenClaim := { program := "ytlcklflbhhnnhaa", sum := "ed0d4b92f109d7f8eb60d5d046f411f6b97278efc15b7130bdc624eae33c35f8", func := "perigee/perigeelaw11.SendersMatchSpec", spec := "sendersMatchSpec", unfollowed := true, recurses := true, apart := false }
def SendersMatchSpecSaid : Prop := sendersMatchSpecRow.holds Try.pinned (OpenSpec.ofChange sendersMatchSpecSpec)

/-- ITS FALSE NEIGHBOUR: 'it returns false'. Refute it at one input. -/
def sendersMatchSpecWrong : ChangeSpec := { name := "sendersMatchSpec", fn := fun _ => fun
  | [d1, d2, d3, d4, d5] => { results := [.lit (.bool false)], args := [d1, d2, d3, d4, d5] }
  | _ => none }
def SendersMatchSpecWrongFalsely : Prop := sendersMatchSpecRow.holds Try.pinned (OpenSpec.ofChange sendersMatchSpecWrong)

/-- 'perigeelaw11.ReceiversTickMatchSpec': WHATEVER THE INPUT: true; the input reads as it did. -/
def receiversTickMatchSpecSpec : ChangeSpec := { name := "receiversTickMatchSpec", fn := fun _ => fun
  | [d1, d2] => { results := [.lit (.bool true)], args := [d1, d2] }
  | _ => none }
def receiversTickMatchSpecRow : OpenClaim := { program := "ytlcklflbhhnnhaa", sum := "ed0d4b92f109d7f8eb60d5d046f411f6b97278efc15b7130bdc624eae33c35f8", func := "perigee/perigeelaw11.ReceiversTickMatchSpec", spec := "receiversTickMatchSpec", unfollowed := true, recurses := true, apart := false }
def ReceiversTickMatchSpecSaid : Prop := receiversTickMatchSpecRow.holds Try.pinned (OpenSpec.ofChange receiversTickMatchSpecSpec)

/-- ITS FALSE NEIGHBOUR: 'it returns false'. Refute it at one input. -/
def receiversTickMatchSpecWrong : ChangeSpec := { name := "receiversTickMatchSpec", fn := fun _ => fun
  | [d1, d2] => { results := [.lit (.bool false)], args := [d1, d2] }
  | _ => none }
def ReceiversTickMatchSpecWrongFalsely : Prop := receiversTickMatchSpecRow.holds Try.pinned (OpenSpec.ofChange receiversTickMatchSpecWrong)

/-- 'perigeelaw11.SpansJoinEven': WHATEVER THE INPUT: true; the input reads as it did. -/
def spansJoinEvenSpec : ChangeSpec := { name := "spansJoinEven", fn := fun _ => fun
  | [d1, d2, d3] => { results := [.lit (.bool true)], args := [d1, d2, d3] }
  | _ => none }
def spansJoinEvenRow : OpenClaim := { program := "ytlcklflbhhnnhaa", sum := "ed0d4b92f109d7f8eb60d5d046f411f6b97278efc15b7130bdc624eae33c35f8", func := "perigee/perigeelaw11.SpansJoinEven", spec := "spansJoinEven", unfollowed := true, recurses := true, apart := false }
def SpansJoinEvenSaid : Prop := spansJoinEvenRow.holds Try.pinned (OpenSpec.ofChange spansJoinEvenSpec)

/-- ITS FALSE NEIGHBOUR: 'it returns false'. Refute it at one input. -/
def spansJoinEvenWrong : ChangeSpec := { name := "spansJoinEven", fn := fun _ => fun
  | [d1, d2, d3] => { results := [.lit (.bool false)], args := [d1, d2, d3] }
  | _ => none }
def SpansJoinEvenWrongFalsely : Prop := spansJoinEvenRow.holds Try.pinned (OpenSpec.ofChange spansJoinEvenWrong)

/-- 'perigeelaw11.SpansMatchSpec': WHATEVER THE INPUT: true; the input reads as it did. -/
def spansMatchSpecSpec : ChangeSpec := { name := "spansMatchSpec", fn := fun _ => fun
  | [d1, d2, d3] => { results := [.lit (.bool true)], args := [d1, d2, d3] }
  | _ => none }
def spansMatchSpecRow : OpenClaim := { program := "ytlcklflbhhnnhaa", sum := "ed0d4b92f109d7f8eb60d5d046f411f6b97278efc15b7130bdc624eae33c35f8", func := "perigee/perigeelaw11.SpansMatchSpec", spec := "spansMatchSpec", unfollowed := true, recurses := true, apart := false }
def SpansMatchSpecSaid : Prop := spansMatchSpecRow.holds Try.pinned (OpenSpec.ofChange spansMatchSpecSpec)

/-- ITS FALSE NEIGHBOUR: 'it returns false'. Refute it at one input. -/
def spansMatchSpecWrong : ChangeSpec := { name := "spansMatchSpec", fn := fun _ => fun
  | [d1, d2, d3] => { results := [.lit (.bool false)], args := [d1, d2, d3] }
  | _ => none }
def SpansMatchSpecWrongFalsely : Prop := spansMatchSpecRow.holds Try.pinned (OpenSpec.ofChange spansMatchSpecWrong)

/-- 'perigeelaw11.SpansAndHoles': WHATEVER THE INPUT: true; the input reads as it did. -/
def spansAndHolesSpec : ChangeSpec := { name := "spansAndHoles", fn := fun _ => fun
  | [d1, d2] => { results := [.lit (.bool true)], args := [d1, d2] }
  | _ => none }
def spansAndHolesRow : OpenClaim := { program := "ytlcklflbhhnnhaa", sum := "ed0d4b92f109d7f8eb60d5d046f411f6b97278efc15b7130bdc624eae33c35f8", func := "perigee/perigeelaw11.SpansAndHoles", spec := "spansAndHoles", unfollowed := true, recurses := true, apart := false }
def SpansAndHolesSaid : Prop := spansAndHolesRow.holds Try.pinned (OpenSpec.ofChange spansAndHolesSpec)

/-- ITS FALSE NEIGHBOUR: 'it returns false'. Refute it at one input. -/
def spansAndHolesWrong : ChangeSpec := { name := "spansAndHoles", fn := fun _ => fun
  | [d1, d2] => { results := [.lit (.bool false)], args := [d1, d2] }
  | _ => none }
def SpansAndHolesWrongFalsely : Prop := spansAndHolesRow.holds Try.pinned (OpenSpec.ofChange spansAndHolesWrong)

/-- 'perigeelaw11.SendersTakeMatchSpec': WHATEVER THE INPUT: true; the input reads as it did. -/
def sendersTakeMatchSpecSpec : ChangeSpec := { name := "sendersTakeMatchSpec", fn := fun _ => fun
  | [d1, d2] => { results := [.lit (.bool true)], args := [d1, d2] }
  | _ => none }
def sendersTakeMatchSpecRow : OpenClaim := { program := "ytlcklflbhhnnhaa", sum := "ed0d4b92f109d7f8eb60d5d046f411f6b97278efc15b7130bdc624eae33c35f8", func := "perigee/perigeelaw11.SendersTakeMatchSpec", spec := "sendersTakeMatchSpec", unfollowed := true, recurses := true, apart := false }
def SendersTakeMatchSpecSaid : Prop := sendersTakeMatchSpecRow.holds Try.pinned (OpenSpec.ofChange sendersTakeMatchSpecSpec)

/-- ITS FALSE NEIGHBOUR: 'it returns false'. Refute it at one input. -/
def sendersTakeMatchSpecWrong : ChangeSpec := { name := "sendersTakeMatchSpec", fn := fun _ => fun
  | [d1, d2] => { results := [.lit (.bool false)], args := [d1, d2] }
  | _ => none }
def SendersTakeMatchSpecWrongFalsely : Prop := sendersTakeMatchSpecRow.holds Try.pinned (OpenSpec.ofChange sendersTakeMatchSpecWrong)

/-- 'perigeelaw11.SendersStayRight': WHATEVER THE INPUT: true; the input reads as it did. -/
def sendersStayRightSpec : ChangeSpec := { name := "sendersStayRight", fn := fun _ => fun
  | [d1, d2, d3] => { results := [.lit (.bool true)], args := [d1, d2, d3] }
  | _ => none }
def sendersStayRightRow : OpenClaim := { program := "ytlcklflbhhnnhaa", sum := "ed0d4b92f109d7f8eb60d5d046f411f6b97278efc15b7130bdc624eae33c35f8", func := "perigee/perigeelaw11.SendersStayRight", spec := "sendersStayRight", unfollowed := true, recurses := true, apart := false }
def SendersStayRightSaid : Prop := sendersStayRightRow.holds Try.pinned (OpenSpec.ofChange sendersStayRightSpec)

/-- ITS FALSE NEIGHBOUR: 'it returns false'. Refute it at one input. -/
def sendersStayRightWrong : ChangeSpec := { name := "sendersStayRight", fn := fun _ => fun
  | [d1, d2, d3] => { results := [.lit (.bool false)], args := [d1, d2, d3] }
  | _ => none }
def SendersStayRightWrongFalsely : Prop := sendersStayRightRow.holds Try.pinned (OpenSpec.ofChange sendersStayRightWrong)

/-- 'perigeelaw11.ReceiversTakeTwice': WHATEVER THE INPUT: true; the input reads as it did. -/
def receiversTakeTwiceSpec : ChangeSpec := { name := "receiversTakeTwice", fn := fun _ => fun
  | [d1, d2, d3] => { results := [.lit (.bool true)], args := [d1, d2, d3] }
  | _ => none }
def receiversTakeTwiceRow : OpenClaim := { program := "ytlcklflbhhnnhaa", sum := "ed0d4b92f109d7f8eb60d5d046f411f6b97278efc15b7130bdc624eae33c35f8", func := "perigee/perigeelaw11.ReceiversTakeTwice", spec := "receiversTakeTwice", inPlace := ["internal/bytealg.MakeNoZero"], unfollowed := true, recurses := true, apart := false }
def ReceiversTakeTwiceSaid : Prop := receiversTakeTwiceRow.holds Try.pinned (OpenSpec.ofChange receiversTakeTwiceSpec)

/-- ITS FALSE NEIGHBOUR: 'it returns false'. Refute it at one input. -/
def receiversTakeTwiceWrong : ChangeSpec := { name := "receiversTakeTwice", fn := fun _ => fun
  | [d1, d2, d3] => { results := [.lit (.bool false)], args := [d1, d2, d3] }
  | _ => none }
def ReceiversTakeTwiceWrongFalsely : Prop := receiversTakeTwiceRow.holds Try.pinned (OpenSpec.ofChange receiversTakeTwiceWrong)

/-- 'perigeelaw11.ReceiversMatchSpec': WHATEVER THE INPUT: true; the input reads as it did. -/
def receiversMatchSpecSpec : ChangeSpec := { name := "receiversMatchSpec", fn := fun _ => fun
  | [d1, d2, d3, d4] => { results := [.lit (.bool true)], args := [d1, d2, d3, d4] }
  | _ => none }
def receiversMatchSpecRow : OpenClaim := { program := "ytlcklflbhhnnhaa", sum := "ed0d4b92f109d7f8eb60d5d046f411f6b97278efc15b7130bdc624eae33c35f8", func := "perigee/perigeelaw11.ReceiversMatchSpec", spec := "receiversMatchSpec", inPlace := ["internal/bytealg.MakeNoZero"], unfollowed := true, recurses := true, apart := false }
def ReceiversMatchSpecSaid : Prop := receiversMatchSpecRow.holds Try.pinned (OpenSpec.ofChange receiversMatchSpecSpec)

/-- ITS FALSE NEIGHBOUR: 'it returns false'. Refute it at one input. -/
def receiversMatchSpecWrong : ChangeSpec := { name := "receiversMatchSpec", fn := fun _ => fun
  | [d1, d2, d3, d4] => { results := [.lit (.bool false)], args := [d1, d2, d3, d4] }
  | _ => none }
def ReceiversMatchSpecWrongFalsely : Prop := receiversMatchSpecRow.holds Try.pinned (OpenSpec.ofChange receiversMatchSpecWrong)

/-- 'perigeelaw11.ReceiversStayRight': WHATEVER THE INPUT: true; the input reads as it did. -/
def receiversStayRightSpec : ChangeSpec := { name := "receiversStayRight", fn := fun _ => fun
  | [d1, d2, d3] => { results := [.lit (.bool true)], args := [d1, d2, d3] }
  | _ => none }
def receiversStayRightRow : OpenClaim := { program := "ytlcklflbhhnnhaa", sum := "ed0d4b92f109d7f8eb60d5d046f411f6b97278efc15b7130bdc624eae33c35f8", func := "perigee/perigeelaw11.ReceiversStayRight", spec := "receiversStayRight", inPlace := ["internal/bytealg.MakeNoZero"], unfollowed := true, recurses := true, apart := false }
def ReceiversStayRightSaid : Prop := receiversStayRightRow.holds Try.pinned (OpenSpec.ofChange receiversStayRightSpec)

/-- ITS FALSE NEIGHBOUR: 'it returns false'. Refute it at one input. -/
def receiversStayRightWrong : ChangeSpec := { name := "receiversStayRight", fn := fun _ => fun
  | [d1, d2, d3] => { results := [.lit (.bool false)], args := [d1, d2, d3] }
  | _ => none }
def ReceiversStayRightWrongFalsely : Prop := receiversStayRightRow.holds Try.pinned (OpenSpec.ofChange receiversStayRightWrong)

/-- 'perigeelaw11.PlaysEndAtLast': WHATEVER THE INPUT: true; the input reads as it did. -/
def playsEndAtLastSpec : ChangeSpec := { name := "playsEndAtLast", fn := fun _ => fun
  | [d1, d2, d3, d4, d5, d6] => { results := [.lit (.bool true)], args := [d1, d2, d3, d4, d5, d6] }
  | _ => none }
def playsEndAtLastRow : OpenClaim := { program := "ytlcklflbhhnnhaa", sum := "ed0d4b92f109d7f8eb60d5d046f411f6b97278efc15b7130bdc624eae33c35f8", func := "perigee/perigeelaw11.PlaysEndAtLast", spec := "playsEndAtLast", inPlace := ["internal/bytealg.MakeNoZero"], unfollowed := true, recurses := true, apart := false }
def PlaysEndAtLastSaid : Prop := playsEndAtLastRow.holds Try.pinned (OpenSpec.ofChange playsEndAtLastSpec)

/-- ITS FALSE NEIGHBOUR: 'it returns false'. Refute it at one input. -/
def playsEndAtLastWrong : ChangeSpec := { name := "playsEndAtLast", fn := fun _ => fun
  | [d1, d2, d3, d4, d5, d6] => { results := [.lit (.bool false)], args := [d1, d2, d3, d4, d5, d6] }
  | _ => none }
def PlaysEndAtLastWrongFalsely : Prop := playsEndAtLastRow.holds Try.pinned (OpenSpec.ofChange playsEndAtLastWrong)

/-- 'perigeelaw11.PlaysEndRight': WHATEVER THE INPUT: true; the input reads as it did. -/
def playsEndRightSpec : ChangeSpec := { name := "playsEndRight", fn := fun _ => fun
  | [d1, d2, d3, d4, d5, d6, d7] => { results := [.lit (.bool true)], args := [d1, d2, d3, d4, d5, d6, d7] }
  | _ => none }
def playsEndRightRow : OpenClaim := { program := "ytlcklflbhhnnhaa", sum := "ed0d4b92f109d7f8eb60d5d046f411f6b97278efc15b7130bdc624eae33c35f8", func := "perigee/perigeelaw11.PlaysEndRight", spec := "playsEndRight", inPlace := ["internal/bytealg.MakeNoZero"], unfollowed := true, recurses := true, apart := false }
def PlaysEndRightSaid : Prop := playsEndRightRow.holds Try.pinned (OpenSpec.ofChange playsEndRightSpec)

/-- ITS FALSE NEIGHBOUR: 'it returns false'. Refute it at one input. -/
def playsEndRightWrong : ChangeSpec := { name := "playsEndRight", fn := fun _ => fun
  | [d1, d2, d3, d4, d5, d6, d7] => { results := [.lit (.bool false)], args := [d1, d2, d3, d4, d5, d6, d7] }
  | _ => none }
def PlaysEndRightWrongFalsely : Prop := playsEndRightRow.holds Try.pinned (OpenSpec.ofChange playsEndRightWrong)

/-- 'perigeelaw11.PlaysLoseNothing': WHATEVER THE INPUT: true; the input reads as it did. -/
def playsLoseNothingSpec : ChangeSpec := { name := "playsLoseNothing", fn := fun _ => fun
  | [d1, d2, d3, d4, d5] => { results := [.lit (.bool true)], args := [d1, d2, d3, d4, d5] }
  | _ => none }
def playsLoseNothingRow : OpenClaim := { program := "ytlcklflbhhnnhaa", sum := "ed0d4b92f109d7f8eb60d5d046f411f6b97278efc15b7130bdc624eae33c35f8", func := "perigee/perigeelaw11.PlaysLoseNothing", spec := "playsLoseNothing", inPlace := ["internal/bytealg.MakeNoZero"], unfollowed := true, recurses := true, apart := false }
def PlaysLoseNothingSaid : Prop := playsLoseNothingRow.holds Try.pinned (OpenSpec.ofChange playsLoseNothingSpec)

/-- ITS FALSE NEIGHBOUR: 'it returns false'. Refute it at one input. -/
def playsLoseNothingWrong : ChangeSpec := { name := "playsLoseNothing", fn := fun _ => fun
  | [d1, d2, d3, d4, d5] => { results := [.lit (.bool false)], args := [d1, d2, d3, d4, d5] }
  | _ => none }
def PlaysLoseNothingWrongFalsely : Prop := playsLoseNothingRow.holds Try.pinned (OpenSpec.ofChange playsLoseNothingWrong)

/-- 'perigeelaw11.PlaysMatchSpec': WHATEVER THE INPUT: true; the input reads as it did. -/
def playsMatchSpecSpec : ChangeSpec := { name := "playsMatchSpec", fn := fun _ => fun
  | [d1, d2, d3, d4, d5, d6, d7] => { results := [.lit (.bool true)], args := [d1, d2, d3, d4, d5, d6, d7] }
  | _ => none }
def playsMatchSpecRow : OpenClaim := { program := "ytlcklflbhhnnhaa", sum := "ed0d4b92f109d7f8eb60d5d046f411f6b97278efc15b7130bdc624eae33c35f8", func := "perigee/perigeelaw11.PlaysMatchSpec", spec := "playsMatchSpec", inPlace := ["internal/bytealg.MakeNoZero"], unfollowed := true, recurses := true, apart := false }
def PlaysMatchSpecSaid : Prop := playsMatchSpecRow.holds Try.pinned (OpenSpec.ofChange playsMatchSpecSpec)

/-- ITS FALSE NEIGHBOUR: 'it returns false'. Refute it at one input. -/
def playsMatchSpecWrong : ChangeSpec := { name := "playsMatchSpec", fn := fun _ => fun
  | [d1, d2, d3, d4, d5, d6, d7] => { results := [.lit (.bool false)], args := [d1, d2, d3, d4, d5, d6, d7] }
  | _ => none }
def PlaysMatchSpecWrongFalsely : Prop := playsMatchSpecRow.holds Try.pinned (OpenSpec.ofChange playsMatchSpecWrong)

/- THE SECOND FORM. 'bulk': how many values and letters a reading holds, each counted each time it is reached (what is shared counts as often as it is met; a slice's spare places count too). A statement '..UptoSaid' is the law's where the arguments, and the package variables that the reading takes, are together of bulk at most 1048576: NARROWER than '..Said'. Prove '..Said' where nothing that the law and all that it calls make is longer than what came in: it says more and counts as full. Else prove '..UptoSaid'. A law counts once. -/
mutual
def uptoBulk {H : Type} : DataW H → Nat
  | .lit (.string bytes) => bytes.length + 1
  | .lit _ => 1
  | .nil => 1
  | .ptr d => uptoBulk d + 1
  | .slice elems spare => uptoBulkAll elems + uptoBulkAll spare + 1
  | .agg parts => uptoBulkAll parts + 1
  | .iface _ d => uptoBulk d + 1
  | .map entries => uptoBulkEntries entries + 1
  | .held _ => 1
def uptoBulkAll {H : Type} : List (DataW H) → Nat
  | [] => 0
  | d :: r => uptoBulk d + uptoBulkAll r
def uptoBulkEntries {H : Type} : List (Lit × DataW H) → Nat
  | [] => 0
  | x :: r => uptoBulkEntry x + uptoBulkEntries r
def uptoBulkEntry {H : Type} : Lit × DataW H → Nat
  | (.string bytes, d) => bytes.length + uptoBulk d + 1
  | (_, d) => uptoBulk d + 1
 end
def uptoSmall : (H : Type) → List (DataW H) → Bool := fun _ ds => decide (uptoBulkAll ds ≤ 1048576)
def OpenSpec.upto (s : _root_.Go.ChangeSpec) : _root_.Go.OpenSpec := { _root_.Go.OpenSpec.ofChange s with cond := some uptoSmall }

/-- 'perigeelaw11.LettersMatchSpec', WHERE WHAT IT READS IS OF BULK AT MOST 1048576: true; the input reads as it did. -/
def lettersMatchSpecUptoRow : OpenClaim := { program := "ytlcklflbhhnnhaa", sum := "ed0d4b92f109d7f8eb60d5d046f411f6b97278efc15b7130bdc624eae33c35f8", func := "perigee/perigeelaw11.LettersMatchSpec", spec := "lettersMatchSpec", apart := false, narrowed := true }
def LettersMatchSpecUptoSaid : Prop := lettersMatchSpecUptoRow.holds Try.pinned (OpenSpec.upto lettersMatchSpecSpec)

/-- 'perigeelaw11.SendersMatchSpec', WHERE WHAT IT READS IS OF BULK AT MOST 1048576: true; the input reads as it did. -/
def sendersMatchSpecUptoRow : OpenClaim := { program := "ytlcklflbhhnnhaa", sum := "ed0d4b92f109d7f8eb60d5d046f411f6b97278efc15b7130bdc624eae33c35f8", func := "perigee/perigeelaw11.SendersMatchSpec", spec := "sendersMatchSpec", unfollowed := true, recurses := true, apart := false, narrowed := true }
def SendersMatchSpecUptoSaid : Prop := sendersMatchSpecUptoRow.holds Try.pinned (OpenSpec.upto sendersMatchSpecSpec)

/-- 'perigeelaw11.ReceiversTickMatchSpec', WHERE WHAT IT READS IS OF BULK AT MOST 1048576: true; the input reads as it did. -/
def receiversTickMatchSpecUptoRow : OpenClaim := { program := "ytlcklflbhhnnhaa", sum := "ed0d4b92f109d7f8eb60d5d046f411f6b97278efc15b7130bdc624eae33c35f8", func := "perigee/perigeelaw11.ReceiversTickMatchSpec", spec := "receiversTickMatchSpec", unfollowed := true, recurses := true, apart := false, narrowed := true }
def ReceiversTickMatchSpecUptoSaid : Prop := receiversTickMatchSpecUptoRow.holds Try.pinned (OpenSpec.upto receiversTickMatchSpecSpec)

/-- 'perigeelaw11.SpansJoinEven', WHERE WHAT IT READS IS OF BULK AT MOST 1048576: true; the input reads as it did. -/
def spansJoinEvenUptoRow : OpenClaim := { program := "ytlcklflbhhnnhaa", sum := "ed0d4b92f109d7f8eb60d5d046f411f6b97278efc15b7130bdc624eae33c35f8", func := "perigee/perigeelaw11.SpansJoinEven", spec := "spansJoinEven", unfollowed := true, recurses := true, apart := false, narrowed := true }
def SpansJoinEvenUptoSaid : Prop := spansJoinEvenUptoRow.holds Try.pinned (OpenSpec.upto spansJoinEvenSpec)

/-- 'perigeelaw11.SpansMatchSpec', WHERE WHAT IT READS IS OF BULK AT MOST 1048576: true; the input reads as it did. -/
def spansMatchSpecUptoRow : OpenClaim := { program := "ytlcklflbhhnnhaa", sum := "ed0d4b92f109d7f8eb60d5d046f411f6b97278efc15b7130bdc624eae33c35f8", func := "perigee/perigeelaw11.SpansMatchSpec", spec := "spansMatchSpec", unfollowed := true, recurses := true, apart := false, narrowed := true }
def SpansMatchSpecUptoSaid : Prop := spansMatchSpecUptoRow.holds Try.pinned (OpenSpec.upto spansMatchSpecSpec)

/-- 'perigeelaw11.SpansAndHoles', WHERE WHAT IT READS IS OF BULK AT MOST 1048576: true; the input reads as it did. -/
def spansAndHolesUptoRow : OpenClaim := { program := "ytlcklflbhhnnhaa", sum := "ed0d4b92f109d7f8eb60d5d046f411f6b97278efc15b7130bdc624eae33c35f8", func := "perigee/perigeelaw11.SpansAndHoles", spec := "spansAndHoles", unfollowed := true, recurses := true, apart := false, narrowed := true }
def SpansAndHolesUptoSaid : Prop := spansAndHolesUptoRow.holds Try.pinned (OpenSpec.upto spansAndHolesSpec)

/-- 'perigeelaw11.SendersTakeMatchSpec', WHERE WHAT IT READS IS OF BULK AT MOST 1048576: true; the input reads as it did. -/
def sendersTakeMatchSpecUptoRow : OpenClaim := { program := "ytlcklflbhhnnhaa", sum := "ed0d4b92f109d7f8eb60d5d046f411f6b97278efc15b7130bdc624eae33c35f8", func := "perigee/perigeelaw11.SendersTakeMatchSpec", spec := "sendersTakeMatchSpec", unfollowed := true, recurses := true, apart := false, narrowed := true }
def SendersTakeMatchSpecUptoSaid : Prop := sendersTakeMatchSpecUptoRow.holds Try.pinned (OpenSpec.upto sendersTakeMatchSpecSpec)

/-- 'perigeelaw11.SendersStayRight', WHERE WHAT IT READS IS OF BULK AT MOST 1048576: true; the input reads as it did. -/
def sendersStayRightUptoRow : OpenClaim := { program := "ytlcklflbhhnnhaa", sum := "ed0d4b92f109d7f8eb60d5d046f411f6b97278efc15b7130bdc624eae33c35f8", func := "perigee/perigeelaw11.SendersStayRight", spec := "sendersStayRight", unfollowed := true, recurses := true, apart := false, narrowed := true }
def SendersStayRightUptoSaid : Prop := sendersStayRightUptoRow.holds Try.pinned (OpenSpec.upto sendersStayRightSpec)

/-- 'perigeelaw11.ReceiversTakeTwice', WHERE WHAT IT READS IS OF BULK AT MOST 1048576: true; the input reads as it did. -/
def receiversTakeTwiceUptoRow : OpenClaim := { program := "ytlcklflbhhnnhaa", sum := "ed0d4b92f109d7f8eb60d5d046f411f6b97278efc15b7130bdc624eae33c35f8", func := "perigee/perigeelaw11.ReceiversTakeTwice", spec := "receiversTakeTwice", inPlace := ["internal/bytealg.MakeNoZero"], unfollowed := true, recurses := true, apart := false, narrowed := true }
def ReceiversTakeTwiceUptoSaid : Prop := receiversTakeTwiceUptoRow.holds Try.pinned (OpenSpec.upto receiversTakeTwiceSpec)

/-- 'perigeelaw11.ReceiversMatchSpec', WHERE WHAT IT READS IS OF BULK AT MOST 1048576: true; the input reads as it did. -/
def receiversMatchSpecUptoRow : OpenClaim := { program := "ytlcklflbhhnnhaa", sum := "ed0d4b92f109d7f8eb60d5d046f411f6b97278efc15b7130bdc624eae33c35f8", func := "perigee/perigeelaw11.ReceiversMatchSpec", spec := "receiversMatchSpec", inPlace := ["internal/bytealg.MakeNoZero"], unfollowed := true, recurses := true, apart := false, narrowed := true }
def ReceiversMatchSpecUptoSaid : Prop := receiversMatchSpecUptoRow.holds Try.pinned (OpenSpec.upto receiversMatchSpecSpec)

/-- 'perigeelaw11.ReceiversStayRight', WHERE WHAT IT READS IS OF BULK AT MOST 1048576: true; the input reads as it did. -/
def receiversStayRightUptoRow : OpenClaim := { program := "ytlcklflbhhnnhaa", sum := "ed0d4b92f109d7f8eb60d5d046f411f6b97278efc15b7130bdc624eae33c35f8", func := "perigee/perigeelaw11.ReceiversStayRight", spec := "receiversStayRight", inPlace := ["internal/bytealg.MakeNoZero"], unfollowed := true, recurses := true, apart := false, narrowed := true }
def ReceiversStayRightUptoSaid : Prop := receiversStayRightUptoRow.holds Try.pinned (OpenSpec.upto receiversStayRightSpec)

/-- 'perigeelaw11.PlaysEndAtLast', WHERE WHAT IT READS IS OF BULK AT MOST 1048576: true; the input reads as it did. -/
def playsEndAtLastUptoRow : OpenClaim := { program := "ytlcklflbhhnnhaa", sum := "ed0d4b92f109d7f8eb60d5d046f411f6b97278efc15b7130bdc624eae33c35f8", func := "perigee/perigeelaw11.PlaysEndAtLast", spec := "playsEndAtLast", inPlace := ["internal/bytealg.MakeNoZero"], unfollowed := true, recurses := true, apart := false, narrowed := true }
def PlaysEndAtLastUptoSaid : Prop := playsEndAtLastUptoRow.holds Try.pinned (OpenSpec.upto playsEndAtLastSpec)

/-- 'perigeelaw11.PlaysEndRight', WHERE WHAT IT READS IS OF BULK AT MOST 1048576: true; the input reads as it did. -/
def playsEndRightUptoRow : OpenClaim := { program := "ytlcklflbhhnnhaa", sum := "ed0d4b92f109d7f8eb60d5d046f411f6b97278efc15b7130bdc624eae33c35f8", func := "perigee/perigeelaw11.PlaysEndRight", spec := "playsEndRight", inPlace := ["internal/bytealg.MakeNoZero"], unfollowed := true, recurses := true, apart := false, narrowed := true }
def PlaysEndRightUptoSaid : Prop := playsEndRightUptoRow.holds Try.pinned (OpenSpec.upto playsEndRightSpec)

/-- 'perigeelaw11.PlaysLoseNothing', WHERE WHAT IT READS IS OF BULK AT MOST 1048576: true; the input reads as it did. -/
def playsLoseNothingUptoRow : OpenClaim := { program := "ytlcklflbhhnnhaa", sum := "ed0d4b92f109d7f8eb60d5d046f411f6b97278efc15b7130bdc624eae33c35f8", func := "perigee/perigeelaw11.PlaysLoseNothing", spec := "playsLoseNothing", inPlace := ["internal/bytealg.MakeNoZero"], unfollowed := true, recurses := true, apart := false, narrowed := true }
def PlaysLoseNothingUptoSaid : Prop := playsLoseNothingUptoRow.holds Try.pinned (OpenSpec.upto playsLoseNothingSpec)

/-- 'perigeelaw11.PlaysMatchSpec', WHERE WHAT IT READS IS OF BULK AT MOST 1048576: true; the input reads as it did. -/
def playsMatchSpecUptoRow : OpenClaim := { program := "ytlcklflbhhnnhaa", sum := "ed0d4b92f109d7f8eb60d5d046f411f6b97278efc15b7130bdc624eae33c35f8", func := "perigee/perigeelaw11.PlaysMatchSpec", spec := "playsMatchSpec", inPlace := ["internal/bytealg.MakeNoZero"], unfollowed := true, recurses := true, apart := false, narrowed := true }
def PlaysMatchSpecUptoSaid : Prop := playsMatchSpecUptoRow.holds Try.pinned (OpenSpec.upto playsMatchSpecSpec)

end Rows
end Go.Proofs.Ytlcklflbhhnnhaa
