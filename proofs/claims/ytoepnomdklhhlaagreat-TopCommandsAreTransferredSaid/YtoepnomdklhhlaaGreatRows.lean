/-
  No cell of these rows narrows 'for every input' (looked for: loops, veiled, ifaces, maps, wideKeys, modest, calm, conditions, laid).
  DERIVED. THE GIVEN ROWS OF THIS SEAT. 3 by the template 'for every input the law returns true; each argument reads behind the call as it read before'; 0 by the template 'total and deterministic' (their statements: YtoepnomdklhhlaaGreatTotals.lean).
  GIVEN WITH THE SEED: the statements are not yours to turn. If you find one false, say at which input.
  Laid BY PROGRAM, IN A SANDBOX (cutbox-rows.mjs): the forced cells as the released guide's own fill.sh prints them over the translation 2d8d6066e343fa23… (all of the seat's roots in one cut). By AI agents, Wed Nov 11 2026. No macro, syntax, notation, axiom, sorry.
-/
import Derived.Test.YtoepnomdklhhlaaGreatChecked
import GoSem.Claim
import GoSem.ClaimJoined
import GoSem.ClaimMapViews
import Derived.JoinedTies
import Derived.KernelRfl
namespace Go.Proofs.YtoepnomdklhhlaaGreat
/- THE CELL 'sum', in the pinned program and in every row, IS THE sha256 OF THE DUMP (.gsa) THAT YtoepnomdklhhlaaGreatProg.lean LOADS. Nothing in Lean hashes anything: it is a label: what it is worth is what the hold of that sum in a sandbox is worth. -/
noncomputable def Tryz.pinned : Pinned := { name := "ytoepnomdklhhlaagreat", sum := "2d8d6066e343fa23a120fc85437eab8b4e34b76420c6c173f74f9cd7c47cd38e", checked := Tryz.checked }
namespace Rows
def none {H : Type} : Left H := { results := [], args := [] }

/-- 'perigeetop.TopFilesComeDown': WHATEVER THE INPUT: true; the input reads as it did. -/
def topFilesComeDownSpec : ChangeSpec := { name := "topFilesComeDown", fn := fun _ => fun
  | [d1, d2, d3, d4, d5, d6] => { results := [.lit (.bool true)], args := [d1, d2, d3, d4, d5, d6] }
  | _ => none }
def topFilesComeDownRow : OpenClaim := { program := "ytoepnomdklhhlaagreat", sum := "2d8d6066e343fa23a120fc85437eab8b4e34b76420c6c173f74f9cd7c47cd38e", func := "perigee/perigeetop.TopFilesComeDown", spec := "topFilesComeDown", inPlace := ["internal/bytealg.MakeNoZero"], unfollowed := true, recurses := true, plainKeys := false, apart := false }
def TopFilesComeDownSaid : Prop := topFilesComeDownRow.holds Tryz.pinned (OpenSpec.ofChange topFilesComeDownSpec)

/-- ITS FALSE NEIGHBOUR: 'it returns false'. Refute it at one input. -/
def topFilesComeDownWrong : ChangeSpec := { name := "topFilesComeDown", fn := fun _ => fun
  | [d1, d2, d3, d4, d5, d6] => { results := [.lit (.bool false)], args := [d1, d2, d3, d4, d5, d6] }
  | _ => none }
def TopFilesComeDownWrongFalsely : Prop := topFilesComeDownRow.holds Tryz.pinned (OpenSpec.ofChange topFilesComeDownWrong)

/-- 'perigeetop.TopCommandsAreTransferred': WHATEVER THE INPUT: true; the input reads as it did. -/
def topCommandsAreTransferredSpec : ChangeSpec := { name := "topCommandsAreTransferred", fn := fun _ => fun
  | [d1, d2, d3, d4, d5] => { results := [.lit (.bool true)], args := [d1, d2, d3, d4, d5] }
  | _ => none }
def topCommandsAreTransferredRow : OpenClaim := { program := "ytoepnomdklhhlaagreat", sum := "2d8d6066e343fa23a120fc85437eab8b4e34b76420c6c173f74f9cd7c47cd38e", func := "perigee/perigeetop.TopCommandsAreTransferred", spec := "topCommandsAreTransferred", inPlace := ["internal/bytealg.MakeNoZero"], unfollowed := true, recurses := true, plainKeys := false, apart := false }
def TopCommandsAreTransferredSaid : Prop := topCommandsAreTransferredRow.holds Tryz.pinned (OpenSpec.ofChange topCommandsAreTransferredSpec)

/-- ITS FALSE NEIGHBOUR: 'it returns false'. Refute it at one input. -/
def topCommandsAreTransferredWrong : ChangeSpec := { name := "topCommandsAreTransferred", fn := fun _ => fun
  | [d1, d2, d3, d4, d5] => { results := [.lit (.bool false)], args := [d1, d2, d3, d4, d5] }
  | _ => none }
def TopCommandsAreTransferredWrongFalsely : Prop := topCommandsAreTransferredRow.holds Tryz.pinned (OpenSpec.ofChange topCommandsAreTransferredWrong)

/-- 'perigeetop.TopMessagesAreFiles': WHATEVER THE INPUT: true; the input reads as it did. -/
def topMessagesAreFilesSpec : ChangeSpec := { name := "topMessagesAreFiles", fn := fun _ => fun
  | [d1, d2, d3, d4] => { results := [.lit (.bool true)], args := [d1, d2, d3, d4] }
  | _ => none }
def topMessagesAreFilesRow : OpenClaim := { program := "ytoepnomdklhhlaagreat", sum := "2d8d6066e343fa23a120fc85437eab8b4e34b76420c6c173f74f9cd7c47cd38e", func := "perigee/perigeetop.TopMessagesAreFiles", spec := "topMessagesAreFiles", unfollowed := true, recurses := true, plainKeys := false, apart := false }
def TopMessagesAreFilesSaid : Prop := topMessagesAreFilesRow.holds Tryz.pinned (OpenSpec.ofChange topMessagesAreFilesSpec)

/-- ITS FALSE NEIGHBOUR: 'it returns false'. Refute it at one input. -/
def topMessagesAreFilesWrong : ChangeSpec := { name := "topMessagesAreFiles", fn := fun _ => fun
  | [d1, d2, d3, d4] => { results := [.lit (.bool false)], args := [d1, d2, d3, d4] }
  | _ => none }
def TopMessagesAreFilesWrongFalsely : Prop := topMessagesAreFilesRow.holds Tryz.pinned (OpenSpec.ofChange topMessagesAreFilesWrong)

/- THE SECOND FORM. 'bulk': how many values and letters a reading holds, each counted each time it is reached (what is shared counts as often as it is met; a slice's spare places count too). A statement '..UptoSaid' is the law's where the arguments, and the package variables that the reading takes, are together of bulk at most 1048576: NARROWER than '..Said'. Prove '..Said' where nothing that the law and all that it calls make is longer than what came in: it says more and counts as full. Else prove '..UptoSaid'. A law counts once. -/
mutual
def uptoBulk {H : Type} : DataW H → Nat
  | .lit (.string bytes) => bytes.length + 1
  | .lit _ => 1
  | .nil => 1
  | .ptr d => uptoBulk d + 1
  | .slice elems spare => uptoBulkAll elems + uptoBulkAll spare + 1
  | .agg parts => uptoBulkAll parts + 1
  | .iface _ d => uptoBulk d + 1
  | .map entries => uptoBulkEntries entries + 1
  | .held _ => 1
def uptoBulkAll {H : Type} : List (DataW H) → Nat
  | [] => 0
  | d :: r => uptoBulk d + uptoBulkAll r
def uptoBulkEntries {H : Type} : List (Lit × DataW H) → Nat
  | [] => 0
  | x :: r => uptoBulkEntry x + uptoBulkEntries r
def uptoBulkEntry {H : Type} : Lit × DataW H → Nat
  | (.string bytes, d) => bytes.length + uptoBulk d + 1
  | (_, d) => uptoBulk d + 1
 end
def uptoSmall : (H : Type) → List (DataW H) → Bool := fun _ ds => decide (uptoBulkAll ds ≤ 1048576)
def OpenSpec.upto (s : _root_.Go.ChangeSpec) : _root_.Go.OpenSpec := { _root_.Go.OpenSpec.ofChange s with cond := some uptoSmall }

/-- 'perigeetop.TopFilesComeDown', WHERE WHAT IT READS IS OF BULK AT MOST 1048576: true; the input reads as it did. -/
def topFilesComeDownUptoRow : OpenClaim := { program := "ytoepnomdklhhlaagreat", sum := "2d8d6066e343fa23a120fc85437eab8b4e34b76420c6c173f74f9cd7c47cd38e", func := "perigee/perigeetop.TopFilesComeDown", spec := "topFilesComeDown", inPlace := ["internal/bytealg.MakeNoZero"], unfollowed := true, recurses := true, plainKeys := false, apart := false, narrowed := true }
def TopFilesComeDownUptoSaid : Prop := topFilesComeDownUptoRow.holds Tryz.pinned (OpenSpec.upto topFilesComeDownSpec)

/-- 'perigeetop.TopCommandsAreTransferred', WHERE WHAT IT READS IS OF BULK AT MOST 1048576: true; the input reads as it did. -/
def topCommandsAreTransferredUptoRow : OpenClaim := { program := "ytoepnomdklhhlaagreat", sum := "2d8d6066e343fa23a120fc85437eab8b4e34b76420c6c173f74f9cd7c47cd38e", func := "perigee/perigeetop.TopCommandsAreTransferred", spec := "topCommandsAreTransferred", inPlace := ["internal/bytealg.MakeNoZero"], unfollowed := true, recurses := true, plainKeys := false, apart := false, narrowed := true }
def TopCommandsAreTransferredUptoSaid : Prop := topCommandsAreTransferredUptoRow.holds Tryz.pinned (OpenSpec.upto topCommandsAreTransferredSpec)

/-- 'perigeetop.TopMessagesAreFiles', WHERE WHAT IT READS IS OF BULK AT MOST 1048576: true; the input reads as it did. -/
def topMessagesAreFilesUptoRow : OpenClaim := { program := "ytoepnomdklhhlaagreat", sum := "2d8d6066e343fa23a120fc85437eab8b4e34b76420c6c173f74f9cd7c47cd38e", func := "perigee/perigeetop.TopMessagesAreFiles", spec := "topMessagesAreFiles", unfollowed := true, recurses := true, plainKeys := false, apart := false, narrowed := true }
def TopMessagesAreFilesUptoSaid : Prop := topMessagesAreFilesUptoRow.holds Tryz.pinned (OpenSpec.upto topMessagesAreFilesSpec)

end Rows
end Go.Proofs.YtoepnomdklhhlaaGreat
