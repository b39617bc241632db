/-
  No cell of these rows narrows 'for every input' (looked for: loops, veiled, ifaces, maps, wideKeys, modest, calm, conditions, laid).
  DERIVED. THE GIVEN ROWS OF THIS SEAT. 16 by the template 'for every input the law returns true; each argument reads behind the call as it read before'; 0 by the template 'total and deterministic' (their statements: YtahdmfboidjkoaaTotals.lean).
  GIVEN WITH THE SEED: the statements are not yours to turn. If you find one false, say at which input.
  Laid BY PROGRAM, IN A SANDBOX (cutbox-rows.mjs): the forced cells as the released guide's own fill.sh prints them over the translation f8c2316c0a83f570… (all of the seat's roots in one cut). By AI agents, Wed Nov 11 2026. No macro, syntax, notation, axiom, sorry.
-/
import Derived.Test.YtahdmfboidjkoaaChecked
import GoSem.Claim
import GoSem.ClaimJoined
import GoSem.ClaimMapViews
import Derived.JoinedTies
import Derived.KernelRfl
namespace Go.Proofs.Ytahdmfboidjkoaa
/- THE CELL 'sum', in the pinned program and in every row, IS THE sha256 OF THE DUMP (.gsa) THAT YtahdmfboidjkoaaProg.lean LOADS. Nothing in Lean hashes anything: it is a label: what it is worth is what the hold of that sum in a sandbox is worth. -/
noncomputable def Try.pinned : Pinned := { name := "ytahdmfboidjkoaa", sum := "f8c2316c0a83f570177cea50d6bdd6c6019b9d809e9ab56d2fb0ebf9e9294549", checked := Try.checked }
namespace Rows
def none {H : Type} : Left H := { results := [], args := [] }

/-- 'perigeelaw1.PacketSumsMatchSpec': WHATEVER THE INPUT: true; the input reads as it did. -/
def packetSumsMatchSpecSpec : ChangeSpec := { name := "packetSumsMatchSpec", fn := fun _ => fun
  | [d] => { results := [.lit (.bool true)], args := [d] }
  | _ => none }
def packetSumsMatchSpecRow : OpenClaim := { program := "ytahdmfboidjkoaa", sum := "f8c2316c0a83f570177cea50d6bdd6c6019b9d809e9ab56d2fb0ebf9e9294549", func := "perigee/perigeelaw1.PacketSumsMatchSpec", spec := "packetSumsMatchSpec", apart := false }
def PacketSumsMatchSpecSaid : Prop := packetSumsMatchSpecRow.holds Try.pinned (OpenSpec.ofChange packetSumsMatchSpecSpec)

/-- ITS FALSE NEIGHBOUR: 'it returns false'. Refute it at one input. -/
def packetSumsMatchSpecWrong : ChangeSpec := { name := "packetSumsMatchSpec", fn := fun _ => fun
  | [d] => { results := [.lit (.bool false)], args := [d] }
  | _ => none }
def PacketSumsMatchSpecWrongFalsely : Prop := packetSumsMatchSpecRow.holds Try.pinned (OpenSpec.ofChange packetSumsMatchSpecWrong)

/-- 'perigeelaw1.PacketReadMatchesSpec': WHATEVER THE INPUT: true; the input reads as it did. -/
def packetReadMatchesSpecSpec : ChangeSpec := { name := "packetReadMatchesSpec", fn := fun _ => fun
  | [d] => { results := [.lit (.bool true)], args := [d] }
  | _ => none }
def packetReadMatchesSpecRow : OpenClaim := { program := "ytahdmfboidjkoaa", sum := "f8c2316c0a83f570177cea50d6bdd6c6019b9d809e9ab56d2fb0ebf9e9294549", func := "perigee/perigeelaw1.PacketReadMatchesSpec", spec := "packetReadMatchesSpec", apart := false }
def PacketReadMatchesSpecSaid : Prop := packetReadMatchesSpecRow.holds Try.pinned (OpenSpec.ofChange packetReadMatchesSpecSpec)

/-- ITS FALSE NEIGHBOUR: 'it returns false'. Refute it at one input. -/
def packetReadMatchesSpecWrong : ChangeSpec := { name := "packetReadMatchesSpec", fn := fun _ => fun
  | [d] => { results := [.lit (.bool false)], args := [d] }
  | _ => none }
def PacketReadMatchesSpecWrongFalsely : Prop := packetReadMatchesSpecRow.holds Try.pinned (OpenSpec.ofChange packetReadMatchesSpecWrong)

/-- 'perigeelaw1.PacketSplitMatchesSpec': WHATEVER THE INPUT: true; the input reads as it did. -/
def packetSplitMatchesSpecSpec : ChangeSpec := { name := "packetSplitMatchesSpec", fn := fun _ => fun
  | [d1, d2, d3, d4, d5] => { results := [.lit (.bool true)], args := [d1, d2, d3, d4, d5] }
  | _ => none }
def packetSplitMatchesSpecRow : OpenClaim := { program := "ytahdmfboidjkoaa", sum := "f8c2316c0a83f570177cea50d6bdd6c6019b9d809e9ab56d2fb0ebf9e9294549", func := "perigee/perigeelaw1.PacketSplitMatchesSpec", spec := "packetSplitMatchesSpec", apart := false }
def PacketSplitMatchesSpecSaid : Prop := packetSplitMatchesSpecRow.holds Try.pinned (OpenSpec.ofChange packetSplitMatchesSpecSpec)

/-- ITS FALSE NEIGHBOUR: 'it returns false'. Refute it at one input. -/
def packetSplitMatchesSpecWrong : ChangeSpec := { name := "packetSplitMatchesSpec", fn := fun _ => fun
  | [d1, d2, d3, d4, d5] => { results := [.lit (.bool false)], args := [d1, d2, d3, d4, d5] }
  | _ => none }
def PacketSplitMatchesSpecWrongFalsely : Prop := packetSplitMatchesSpecRow.holds Try.pinned (OpenSpec.ofChange packetSplitMatchesSpecWrong)

/-- 'perigeelaw1.PacketBytesMatchSpec': WHATEVER THE INPUT: true; the input reads as it did. -/
def packetBytesMatchSpecSpec : ChangeSpec := { name := "packetBytesMatchSpec", fn := fun _ => fun
  | [d] => { results := [.lit (.bool true)], args := [d] }
  | _ => none }
def packetBytesMatchSpecRow : OpenClaim := { program := "ytahdmfboidjkoaa", sum := "f8c2316c0a83f570177cea50d6bdd6c6019b9d809e9ab56d2fb0ebf9e9294549", func := "perigee/perigeelaw1.PacketBytesMatchSpec", spec := "packetBytesMatchSpec", apart := false }
def PacketBytesMatchSpecSaid : Prop := packetBytesMatchSpecRow.holds Try.pinned (OpenSpec.ofChange packetBytesMatchSpecSpec)

/-- ITS FALSE NEIGHBOUR: 'it returns false'. Refute it at one input. -/
def packetBytesMatchSpecWrong : ChangeSpec := { name := "packetBytesMatchSpec", fn := fun _ => fun
  | [d] => { results := [.lit (.bool false)], args := [d] }
  | _ => none }
def PacketBytesMatchSpecWrongFalsely : Prop := packetBytesMatchSpecRow.holds Try.pinned (OpenSpec.ofChange packetBytesMatchSpecWrong)

/-- 'perigeelaw1.PacketFramesMatchSpec': WHATEVER THE INPUT: true; the input reads as it did. -/
def packetFramesMatchSpecSpec : ChangeSpec := { name := "packetFramesMatchSpec", fn := fun _ => fun
  | [d1, d2, d3] => { results := [.lit (.bool true)], args := [d1, d2, d3] }
  | _ => none }
def packetFramesMatchSpecRow : OpenClaim := { program := "ytahdmfboidjkoaa", sum := "f8c2316c0a83f570177cea50d6bdd6c6019b9d809e9ab56d2fb0ebf9e9294549", func := "perigee/perigeelaw1.PacketFramesMatchSpec", spec := "packetFramesMatchSpec", apart := false }
def PacketFramesMatchSpecSaid : Prop := packetFramesMatchSpecRow.holds Try.pinned (OpenSpec.ofChange packetFramesMatchSpecSpec)

/-- ITS FALSE NEIGHBOUR: 'it returns false'. Refute it at one input. -/
def packetFramesMatchSpecWrong : ChangeSpec := { name := "packetFramesMatchSpec", fn := fun _ => fun
  | [d1, d2, d3] => { results := [.lit (.bool false)], args := [d1, d2, d3] }
  | _ => none }
def PacketFramesMatchSpecWrongFalsely : Prop := packetFramesMatchSpecRow.holds Try.pinned (OpenSpec.ofChange packetFramesMatchSpecWrong)

/-- 'perigeelaw1.PacketComesBack': WHATEVER THE INPUT: true; the input reads as it did. -/
def packetComesBackSpec : ChangeSpec := { name := "packetComesBack", fn := fun _ => fun
  | [d1, d2, d3] => { results := [.lit (.bool true)], args := [d1, d2, d3] }
  | _ => none }
def packetComesBackRow : OpenClaim := { program := "ytahdmfboidjkoaa", sum := "f8c2316c0a83f570177cea50d6bdd6c6019b9d809e9ab56d2fb0ebf9e9294549", func := "perigee/perigeelaw1.PacketComesBack", spec := "packetComesBack", apart := false }
def PacketComesBackSaid : Prop := packetComesBackRow.holds Try.pinned (OpenSpec.ofChange packetComesBackSpec)

/-- ITS FALSE NEIGHBOUR: 'it returns false'. Refute it at one input. -/
def packetComesBackWrong : ChangeSpec := { name := "packetComesBack", fn := fun _ => fun
  | [d1, d2, d3] => { results := [.lit (.bool false)], args := [d1, d2, d3] }
  | _ => none }
def PacketComesBackWrongFalsely : Prop := packetComesBackRow.holds Try.pinned (OpenSpec.ofChange packetComesBackWrong)

/-- 'perigeelaw1.PacketFeedMatchesSpec': WHATEVER THE INPUT: true; the input reads as it did. -/
def packetFeedMatchesSpecSpec : ChangeSpec := { name := "packetFeedMatchesSpec", fn := fun _ => fun
  | [d1, d2, d3] => { results := [.lit (.bool true)], args := [d1, d2, d3] }
  | _ => none }
def packetFeedMatchesSpecRow : OpenClaim := { program := "ytahdmfboidjkoaa", sum := "f8c2316c0a83f570177cea50d6bdd6c6019b9d809e9ab56d2fb0ebf9e9294549", func := "perigee/perigeelaw1.PacketFeedMatchesSpec", spec := "packetFeedMatchesSpec", apart := false }
def PacketFeedMatchesSpecSaid : Prop := packetFeedMatchesSpecRow.holds Try.pinned (OpenSpec.ofChange packetFeedMatchesSpecSpec)

/-- ITS FALSE NEIGHBOUR: 'it returns false'. Refute it at one input. -/
def packetFeedMatchesSpecWrong : ChangeSpec := { name := "packetFeedMatchesSpec", fn := fun _ => fun
  | [d1, d2, d3] => { results := [.lit (.bool false)], args := [d1, d2, d3] }
  | _ => none }
def PacketFeedMatchesSpecWrongFalsely : Prop := packetFeedMatchesSpecRow.holds Try.pinned (OpenSpec.ofChange packetFeedMatchesSpecWrong)

/-- 'perigeelaw1.PacketCutAnywhere': WHATEVER THE INPUT: true; the input reads as it did. -/
def packetCutAnywhereSpec : ChangeSpec := { name := "packetCutAnywhere", fn := fun _ => fun
  | [d1, d2, d3] => { results := [.lit (.bool true)], args := [d1, d2, d3] }
  | _ => none }
def packetCutAnywhereRow : OpenClaim := { program := "ytahdmfboidjkoaa", sum := "f8c2316c0a83f570177cea50d6bdd6c6019b9d809e9ab56d2fb0ebf9e9294549", func := "perigee/perigeelaw1.PacketCutAnywhere", spec := "packetCutAnywhere", apart := false }
def PacketCutAnywhereSaid : Prop := packetCutAnywhereRow.holds Try.pinned (OpenSpec.ofChange packetCutAnywhereSpec)

/-- ITS FALSE NEIGHBOUR: 'it returns false'. Refute it at one input. -/
def packetCutAnywhereWrong : ChangeSpec := { name := "packetCutAnywhere", fn := fun _ => fun
  | [d1, d2, d3] => { results := [.lit (.bool false)], args := [d1, d2, d3] }
  | _ => none }
def PacketCutAnywhereWrongFalsely : Prop := packetCutAnywhereRow.holds Try.pinned (OpenSpec.ofChange packetCutAnywhereWrong)

/-- 'perigeelaw1.PacketPackedMatchesSpec': WHATEVER THE INPUT: true; the input reads as it did. -/
def packetPackedMatchesSpecSpec : ChangeSpec := { name := "packetPackedMatchesSpec", fn := fun _ => fun
  | [d1, d2, d3, d4, d5] => { results := [.lit (.bool true)], args := [d1, d2, d3, d4, d5] }
  | _ => none }
def packetPackedMatchesSpecRow : OpenClaim := { program := "ytahdmfboidjkoaa", sum := "f8c2316c0a83f570177cea50d6bdd6c6019b9d809e9ab56d2fb0ebf9e9294549", func := "perigee/perigeelaw1.PacketPackedMatchesSpec", spec := "packetPackedMatchesSpec", apart := false }
def PacketPackedMatchesSpecSaid : Prop := packetPackedMatchesSpecRow.holds Try.pinned (OpenSpec.ofChange packetPackedMatchesSpecSpec)

/-- ITS FALSE NEIGHBOUR: 'it returns false'. Refute it at one input. -/
def packetPackedMatchesSpecWrong : ChangeSpec := { name := "packetPackedMatchesSpec", fn := fun _ => fun
  | [d1, d2, d3, d4, d5] => { results := [.lit (.bool false)], args := [d1, d2, d3, d4, d5] }
  | _ => none }
def PacketPackedMatchesSpecWrongFalsely : Prop := packetPackedMatchesSpecRow.holds Try.pinned (OpenSpec.ofChange packetPackedMatchesSpecWrong)

/-- 'perigeelaw1.PacketUnpackedMatchesSpec': WHATEVER THE INPUT: true; the input reads as it did. -/
def packetUnpackedMatchesSpecSpec : ChangeSpec := { name := "packetUnpackedMatchesSpec", fn := fun _ => fun
  | [d1, d2] => { results := [.lit (.bool true)], args := [d1, d2] }
  | _ => none }
def packetUnpackedMatchesSpecRow : OpenClaim := { program := "ytahdmfboidjkoaa", sum := "f8c2316c0a83f570177cea50d6bdd6c6019b9d809e9ab56d2fb0ebf9e9294549", func := "perigee/perigeelaw1.PacketUnpackedMatchesSpec", spec := "packetUnpackedMatchesSpec", apart := false }
def PacketUnpackedMatchesSpecSaid : Prop := packetUnpackedMatchesSpecRow.holds Try.pinned (OpenSpec.ofChange packetUnpackedMatchesSpecSpec)

/-- ITS FALSE NEIGHBOUR: 'it returns false'. Refute it at one input. -/
def packetUnpackedMatchesSpecWrong : ChangeSpec := { name := "packetUnpackedMatchesSpec", fn := fun _ => fun
  | [d1, d2] => { results := [.lit (.bool false)], args := [d1, d2] }
  | _ => none }
def PacketUnpackedMatchesSpecWrongFalsely : Prop := packetUnpackedMatchesSpecRow.holds Try.pinned (OpenSpec.ofChange packetUnpackedMatchesSpecWrong)

/-- 'perigeelaw1.PacketStreamsMatchSpec': WHATEVER THE INPUT: true; the input reads as it did. -/
def packetStreamsMatchSpecSpec : ChangeSpec := { name := "packetStreamsMatchSpec", fn := fun _ => fun
  | [d1, d2, d3] => { results := [.lit (.bool true)], args := [d1, d2, d3] }
  | _ => none }
def packetStreamsMatchSpecRow : OpenClaim := { program := "ytahdmfboidjkoaa", sum := "f8c2316c0a83f570177cea50d6bdd6c6019b9d809e9ab56d2fb0ebf9e9294549", func := "perigee/perigeelaw1.PacketStreamsMatchSpec", spec := "packetStreamsMatchSpec", apart := false }
def PacketStreamsMatchSpecSaid : Prop := packetStreamsMatchSpecRow.holds Try.pinned (OpenSpec.ofChange packetStreamsMatchSpecSpec)

/-- ITS FALSE NEIGHBOUR: 'it returns false'. Refute it at one input. -/
def packetStreamsMatchSpecWrong : ChangeSpec := { name := "packetStreamsMatchSpec", fn := fun _ => fun
  | [d1, d2, d3] => { results := [.lit (.bool false)], args := [d1, d2, d3] }
  | _ => none }
def PacketStreamsMatchSpecWrongFalsely : Prop := packetStreamsMatchSpecRow.holds Try.pinned (OpenSpec.ofChange packetStreamsMatchSpecWrong)

/-- 'perigeelaw1.PacketPackedComeBack': WHATEVER THE INPUT: true; the input reads as it did. -/
def packetPackedComeBackSpec : ChangeSpec := { name := "packetPackedComeBack", fn := fun _ => fun
  | [d1, d2, d3, d4, d5] => { results := [.lit (.bool true)], args := [d1, d2, d3, d4, d5] }
  | _ => none }
def packetPackedComeBackRow : OpenClaim := { program := "ytahdmfboidjkoaa", sum := "f8c2316c0a83f570177cea50d6bdd6c6019b9d809e9ab56d2fb0ebf9e9294549", func := "perigee/perigeelaw1.PacketPackedComeBack", spec := "packetPackedComeBack", apart := false }
def PacketPackedComeBackSaid : Prop := packetPackedComeBackRow.holds Try.pinned (OpenSpec.ofChange packetPackedComeBackSpec)

/-- ITS FALSE NEIGHBOUR: 'it returns false'. Refute it at one input. -/
def packetPackedComeBackWrong : ChangeSpec := { name := "packetPackedComeBack", fn := fun _ => fun
  | [d1, d2, d3, d4, d5] => { results := [.lit (.bool false)], args := [d1, d2, d3, d4, d5] }
  | _ => none }
def PacketPackedComeBackWrongFalsely : Prop := packetPackedComeBackRow.holds Try.pinned (OpenSpec.ofChange packetPackedComeBackWrong)

/-- 'perigeelaw1.PacketLostFramesLoseNoOthers': WHATEVER THE INPUT: true; the input reads as it did. -/
def packetLostFramesLoseNoOthersSpec : ChangeSpec := { name := "packetLostFramesLoseNoOthers", fn := fun _ => fun
  | [d1, d2, d3, d4, d5, d6] => { results := [.lit (.bool true)], args := [d1, d2, d3, d4, d5, d6] }
  | _ => none }
def packetLostFramesLoseNoOthersRow : OpenClaim := { program := "ytahdmfboidjkoaa", sum := "f8c2316c0a83f570177cea50d6bdd6c6019b9d809e9ab56d2fb0ebf9e9294549", func := "perigee/perigeelaw1.PacketLostFramesLoseNoOthers", spec := "packetLostFramesLoseNoOthers", apart := false }
def PacketLostFramesLoseNoOthersSaid : Prop := packetLostFramesLoseNoOthersRow.holds Try.pinned (OpenSpec.ofChange packetLostFramesLoseNoOthersSpec)

/-- ITS FALSE NEIGHBOUR: 'it returns false'. Refute it at one input. -/
def packetLostFramesLoseNoOthersWrong : ChangeSpec := { name := "packetLostFramesLoseNoOthers", fn := fun _ => fun
  | [d1, d2, d3, d4, d5, d6] => { results := [.lit (.bool false)], args := [d1, d2, d3, d4, d5, d6] }
  | _ => none }
def PacketLostFramesLoseNoOthersWrongFalsely : Prop := packetLostFramesLoseNoOthersRow.holds Try.pinned (OpenSpec.ofChange packetLostFramesLoseNoOthersWrong)

/-- 'perigeelaw1.PacketMessagesOrGivenUp': WHATEVER THE INPUT: true; the input reads as it did. -/
def packetMessagesOrGivenUpSpec : ChangeSpec := { name := "packetMessagesOrGivenUp", fn := fun _ => fun
  | [d] => { results := [.lit (.bool true)], args := [d] }
  | _ => none }
def packetMessagesOrGivenUpRow : OpenClaim := { program := "ytahdmfboidjkoaa", sum := "f8c2316c0a83f570177cea50d6bdd6c6019b9d809e9ab56d2fb0ebf9e9294549", func := "perigee/perigeelaw1.PacketMessagesOrGivenUp", spec := "packetMessagesOrGivenUp", recurses := true, apart := false }
def PacketMessagesOrGivenUpSaid : Prop := packetMessagesOrGivenUpRow.holds Try.pinned (OpenSpec.ofChange packetMessagesOrGivenUpSpec)

/-- ITS FALSE NEIGHBOUR: 'it returns false'. Refute it at one input. -/
def packetMessagesOrGivenUpWrong : ChangeSpec := { name := "packetMessagesOrGivenUp", fn := fun _ => fun
  | [d] => { results := [.lit (.bool false)], args := [d] }
  | _ => none }
def PacketMessagesOrGivenUpWrongFalsely : Prop := packetMessagesOrGivenUpRow.holds Try.pinned (OpenSpec.ofChange packetMessagesOrGivenUpWrong)

/-- 'perigeelaw1.PacketSplitIsJoined': WHATEVER THE INPUT: true; the input reads as it did. -/
def packetSplitIsJoinedSpec : ChangeSpec := { name := "packetSplitIsJoined", fn := fun _ => fun
  | [d1, d2, d3, d4, d5, d6] => { results := [.lit (.bool true)], args := [d1, d2, d3, d4, d5, d6] }
  | _ => none }
def packetSplitIsJoinedRow : OpenClaim := { program := "ytahdmfboidjkoaa", sum := "f8c2316c0a83f570177cea50d6bdd6c6019b9d809e9ab56d2fb0ebf9e9294549", func := "perigee/perigeelaw1.PacketSplitIsJoined", spec := "packetSplitIsJoined", recurses := true, apart := false }
def PacketSplitIsJoinedSaid : Prop := packetSplitIsJoinedRow.holds Try.pinned (OpenSpec.ofChange packetSplitIsJoinedSpec)

/-- ITS FALSE NEIGHBOUR: 'it returns false'. Refute it at one input. -/
def packetSplitIsJoinedWrong : ChangeSpec := { name := "packetSplitIsJoined", fn := fun _ => fun
  | [d1, d2, d3, d4, d5, d6] => { results := [.lit (.bool false)], args := [d1, d2, d3, d4, d5, d6] }
  | _ => none }
def PacketSplitIsJoinedWrongFalsely : Prop := packetSplitIsJoinedRow.holds Try.pinned (OpenSpec.ofChange packetSplitIsJoinedWrong)

/-- 'perigeelaw1.PacketJoinedMatchesSpec': WHATEVER THE INPUT: true; the input reads as it did. -/
def packetJoinedMatchesSpecSpec : ChangeSpec := { name := "packetJoinedMatchesSpec", fn := fun _ => fun
  | [d] => { results := [.lit (.bool true)], args := [d] }
  | _ => none }
def packetJoinedMatchesSpecRow : OpenClaim := { program := "ytahdmfboidjkoaa", sum := "f8c2316c0a83f570177cea50d6bdd6c6019b9d809e9ab56d2fb0ebf9e9294549", func := "perigee/perigeelaw1.PacketJoinedMatchesSpec", spec := "packetJoinedMatchesSpec", inPlace := ["slices.overlaps[perigee/api.Missing]"], unfollowed := true, recurses := true, apart := false }
def PacketJoinedMatchesSpecSaid : Prop := packetJoinedMatchesSpecRow.holds Try.pinned (OpenSpec.ofChange packetJoinedMatchesSpecSpec)

/-- ITS FALSE NEIGHBOUR: 'it returns false'. Refute it at one input. -/
def packetJoinedMatchesSpecWrong : ChangeSpec := { name := "packetJoinedMatchesSpec", fn := fun _ => fun
  | [d] => { results := [.lit (.bool false)], args := [d] }
  | _ => none }
def PacketJoinedMatchesSpecWrongFalsely : Prop := packetJoinedMatchesSpecRow.holds Try.pinned (OpenSpec.ofChange packetJoinedMatchesSpecWrong)

/- THE SECOND FORM. 'bulk': how many values and letters a reading holds, each counted each time it is reached (what is shared counts as often as it is met; a slice's spare places count too). A statement '..UptoSaid' is the law's where the arguments, and the package variables that the reading takes, are together of bulk at most 1048576: NARROWER than '..Said'. Prove '..Said' where nothing that the law and all that it calls make is longer than what came in: it says more and counts as full. Else prove '..UptoSaid'. A law counts once. -/
mutual
def uptoBulk {H : Type} : DataW H → Nat
  | .lit (.string bytes) => bytes.length + 1
  | .lit _ => 1
  | .nil => 1
  | .ptr d => uptoBulk d + 1
  | .slice elems spare => uptoBulkAll elems + uptoBulkAll spare + 1
  | .agg parts => uptoBulkAll parts + 1
  | .iface _ d => uptoBulk d + 1
  | .map entries => uptoBulkEntries entries + 1
  | .held _ => 1
def uptoBulkAll {H : Type} : List (DataW H) → Nat
  | [] => 0
  | d :: r => uptoBulk d + uptoBulkAll r
def uptoBulkEntries {H : Type} : List (Lit × DataW H) → Nat
  | [] => 0
  | x :: r => uptoBulkEntry x + uptoBulkEntries r
def uptoBulkEntry {H : Type} : Lit × DataW H → Nat
  | (.string bytes, d) => bytes.length + uptoBulk d + 1
  | (_, d) => uptoBulk d + 1
 end
def uptoSmall : (H : Type) → List (DataW H) → Bool := fun _ ds => decide (uptoBulkAll ds ≤ 1048576)
def OpenSpec.upto (s : _root_.Go.ChangeSpec) : _root_.Go.OpenSpec := { _root_.Go.OpenSpec.ofChange s with cond := some uptoSmall }

/-- 'perigeelaw1.PacketSumsMatchSpec', WHERE WHAT IT READS IS OF BULK AT MOST 1048576: true; the input reads as it did. -/
def packetSumsMatchSpecUptoRow : OpenClaim := { program := "ytahdmfboidjkoaa", sum := "f8c2316c0a83f570177cea50d6bdd6c6019b9d809e9ab56d2fb0ebf9e9294549", func := "perigee/perigeelaw1.PacketSumsMatchSpec", spec := "packetSumsMatchSpec", apart := false, narrowed := true }
def PacketSumsMatchSpecUptoSaid : Prop := packetSumsMatchSpecUptoRow.holds Try.pinned (OpenSpec.upto packetSumsMatchSpecSpec)

/-- 'perigeelaw1.PacketReadMatchesSpec', WHERE WHAT IT READS IS OF BULK AT MOST 1048576: true; the input reads as it did. -/
def packetReadMatchesSpecUptoRow : OpenClaim := { program := "ytahdmfboidjkoaa", sum := "f8c2316c0a83f570177cea50d6bdd6c6019b9d809e9ab56d2fb0ebf9e9294549", func := "perigee/perigeelaw1.PacketReadMatchesSpec", spec := "packetReadMatchesSpec", apart := false, narrowed := true }
def PacketReadMatchesSpecUptoSaid : Prop := packetReadMatchesSpecUptoRow.holds Try.pinned (OpenSpec.upto packetReadMatchesSpecSpec)

/-- 'perigeelaw1.PacketSplitMatchesSpec', WHERE WHAT IT READS IS OF BULK AT MOST 1048576: true; the input reads as it did. -/
def packetSplitMatchesSpecUptoRow : OpenClaim := { program := "ytahdmfboidjkoaa", sum := "f8c2316c0a83f570177cea50d6bdd6c6019b9d809e9ab56d2fb0ebf9e9294549", func := "perigee/perigeelaw1.PacketSplitMatchesSpec", spec := "packetSplitMatchesSpec", apart := false, narrowed := true }
def PacketSplitMatchesSpecUptoSaid : Prop := packetSplitMatchesSpecUptoRow.holds Try.pinned (OpenSpec.upto packetSplitMatchesSpecSpec)

/-- 'perigeelaw1.PacketBytesMatchSpec', WHERE WHAT IT READS IS OF BULK AT MOST 1048576: true; the input reads as it did. -/
def packetBytesMatchSpecUptoRow : OpenClaim := { program := "ytahdmfboidjkoaa", sum := "f8c2316c0a83f570177cea50d6bdd6c6019b9d809e9ab56d2fb0ebf9e9294549", func := "perigee/perigeelaw1.PacketBytesMatchSpec", spec := "packetBytesMatchSpec", apart := false, narrowed := true }
def PacketBytesMatchSpecUptoSaid : Prop := packetBytesMatchSpecUptoRow.holds Try.pinned (OpenSpec.upto packetBytesMatchSpecSpec)

/-- 'perigeelaw1.PacketFramesMatchSpec', WHERE WHAT IT READS IS OF BULK AT MOST 1048576: true; the input reads as it did. -/
def packetFramesMatchSpecUptoRow : OpenClaim := { program := "ytahdmfboidjkoaa", sum := "f8c2316c0a83f570177cea50d6bdd6c6019b9d809e9ab56d2fb0ebf9e9294549", func := "perigee/perigeelaw1.PacketFramesMatchSpec", spec := "packetFramesMatchSpec", apart := false, narrowed := true }
def PacketFramesMatchSpecUptoSaid : Prop := packetFramesMatchSpecUptoRow.holds Try.pinned (OpenSpec.upto packetFramesMatchSpecSpec)

/-- 'perigeelaw1.PacketComesBack', WHERE WHAT IT READS IS OF BULK AT MOST 1048576: true; the input reads as it did. -/
def packetComesBackUptoRow : OpenClaim := { program := "ytahdmfboidjkoaa", sum := "f8c2316c0a83f570177cea50d6bdd6c6019b9d809e9ab56d2fb0ebf9e9294549", func := "perigee/perigeelaw1.PacketComesBack", spec := "packetComesBack", apart := false, narrowed := true }
def PacketComesBackUptoSaid : Prop := packetComesBackUptoRow.holds Try.pinned (OpenSpec.upto packetComesBackSpec)

/-- 'perigeelaw1.PacketFeedMatchesSpec', WHERE WHAT IT READS IS OF BULK AT MOST 1048576: true; the input reads as it did. -/
def packetFeedMatchesSpecUptoRow : OpenClaim := { program := "ytahdmfboidjkoaa", sum := "f8c2316c0a83f570177cea50d6bdd6c6019b9d809e9ab56d2fb0ebf9e9294549", func := "perigee/perigeelaw1.PacketFeedMatchesSpec", spec := "packetFeedMatchesSpec", apart := false, narrowed := true }
def PacketFeedMatchesSpecUptoSaid : Prop := packetFeedMatchesSpecUptoRow.holds Try.pinned (OpenSpec.upto packetFeedMatchesSpecSpec)

/-- 'perigeelaw1.PacketCutAnywhere', WHERE WHAT IT READS IS OF BULK AT MOST 1048576: true; the input reads as it did. -/
def packetCutAnywhereUptoRow : OpenClaim := { program := "ytahdmfboidjkoaa", sum := "f8c2316c0a83f570177cea50d6bdd6c6019b9d809e9ab56d2fb0ebf9e9294549", func := "perigee/perigeelaw1.PacketCutAnywhere", spec := "packetCutAnywhere", apart := false, narrowed := true }
def PacketCutAnywhereUptoSaid : Prop := packetCutAnywhereUptoRow.holds Try.pinned (OpenSpec.upto packetCutAnywhereSpec)

/-- 'perigeelaw1.PacketPackedMatchesSpec', WHERE WHAT IT READS IS OF BULK AT MOST 1048576: true; the input reads as it did. -/
def packetPackedMatchesSpecUptoRow : OpenClaim := { program := "ytahdmfboidjkoaa", sum := "f8c2316c0a83f570177cea50d6bdd6c6019b9d809e9ab56d2fb0ebf9e9294549", func := "perigee/perigeelaw1.PacketPackedMatchesSpec", spec := "packetPackedMatchesSpec", apart := false, narrowed := true }
def PacketPackedMatchesSpecUptoSaid : Prop := packetPackedMatchesSpecUptoRow.holds Try.pinned (OpenSpec.upto packetPackedMatchesSpecSpec)

/-- 'perigeelaw1.PacketUnpackedMatchesSpec', WHERE WHAT IT READS IS OF BULK AT MOST 1048576: true; the input reads as it did. -/
def packetUnpackedMatchesSpecUptoRow : OpenClaim := { program := "ytahdmfboidjkoaa", sum := "f8c2316c0a83f570177cea50d6bdd6c6019b9d809e9ab56d2fb0ebf9e9294549", func := "perigee/perigeelaw1.PacketUnpackedMatchesSpec", spec := "packetUnpackedMatchesSpec", apart := false, narrowed := true }
def PacketUnpackedMatchesSpecUptoSaid : Prop := packetUnpackedMatchesSpecUptoRow.holds Try.pinned (OpenSpec.upto packetUnpackedMatchesSpecSpec)

/-- 'perigeelaw1.PacketStreamsMatchSpec', WHERE WHAT IT READS IS OF BULK AT MOST 1048576: true; the input reads as it did. -/
def packetStreamsMatchSpecUptoRow : OpenClaim := { program := "ytahdmfboidjkoaa", sum := "f8c2316c0a83f570177cea50d6bdd6c6019b9d809e9ab56d2fb0ebf9e9294549", func := "perigee/perigeelaw1.PacketStreamsMatchSpec", spec := "packetStreamsMatchSpec", apart := false, narrowed := true }
def PacketStreamsMatchSpecUptoSaid : Prop := packetStreamsMatchSpecUptoRow.holds Try.pinned (OpenSpec.upto packetStreamsMatchSpecSpec)

/-- 'perigeelaw1.PacketPackedComeBack', WHERE WHAT IT READS IS OF BULK AT MOST 1048576: true; the input reads as it did. -/
def packetPackedComeBackUptoRow : OpenClaim := { program := "ytahdmfboidjkoaa", sum := "f8c2316c0a83f570177cea50d6bdd6c6019b9d809e9ab56d2fb0ebf9e9294549", func := "perigee/perigeelaw1.PacketPackedComeBack", spec := "packetPackedComeBack", apart := false, narrowed := true }
def PacketPackedComeBackUptoSaid : Prop := packetPackedComeBackUptoRow.holds Try.pinned (OpenSpec.upto packetPackedComeBackSpec)

/-- 'perigeelaw1.PacketLostFramesLoseNoOthers', WHERE WHAT IT READS IS OF BULK AT MOST 1048576: true; the input reads as it did. -/
def packetLostFramesLoseNoOthersUptoRow : OpenClaim := { program := "ytahdmfboidjkoaa", sum := "f8c2316c0a83f570177cea50d6bdd6c6019b9d809e9ab56d2fb0ebf9e9294549", func := "perigee/perigeelaw1.PacketLostFramesLoseNoOthers", spec := "packetLostFramesLoseNoOthers", apart := false, narrowed := true }
def PacketLostFramesLoseNoOthersUptoSaid : Prop := packetLostFramesLoseNoOthersUptoRow.holds Try.pinned (OpenSpec.upto packetLostFramesLoseNoOthersSpec)

/-- 'perigeelaw1.PacketMessagesOrGivenUp', WHERE WHAT IT READS IS OF BULK AT MOST 1048576: true; the input reads as it did. -/
def packetMessagesOrGivenUpUptoRow : OpenClaim := { program := "ytahdmfboidjkoaa", sum := "f8c2316c0a83f570177cea50d6bdd6c6019b9d809e9ab56d2fb0ebf9e9294549", func := "perigee/perigeelaw1.PacketMessagesOrGivenUp", spec := "packetMessagesOrGivenUp", recurses := true, apart := false, narrowed := true }
def PacketMessagesOrGivenUpUptoSaid : Prop := packetMessagesOrGivenUpUptoRow.holds Try.pinned (OpenSpec.upto packetMessagesOrGivenUpSpec)

/-- 'perigeelaw1.PacketSplitIsJoined', WHERE WHAT IT READS IS OF BULK AT MOST 1048576: true; the input reads as it did. -/
def packetSplitIsJoinedUptoRow : OpenClaim := { program := "ytahdmfboidjkoaa", sum := "f8c2316c0a83f570177cea50d6bdd6c6019b9d809e9ab56d2fb0ebf9e9294549", func := "perigee/perigeelaw1.PacketSplitIsJoined", spec := "packetSplitIsJoined", recurses := true, apart := false, narrowed := true }
def PacketSplitIsJoinedUptoSaid : Prop := packetSplitIsJoinedUptoRow.holds Try.pinned (OpenSpec.upto packetSplitIsJoinedSpec)

/-- 'perigeelaw1.PacketJoinedMatchesSpec', WHERE WHAT IT READS IS OF BULK AT MOST 1048576: true; the input reads as it did. -/
def packetJoinedMatchesSpecUptoRow : OpenClaim := { program := "ytahdmfboidjkoaa", sum := "f8c2316c0a83f570177cea50d6bdd6c6019b9d809e9ab56d2fb0ebf9e9294549", func := "perigee/perigeelaw1.PacketJoinedMatchesSpec", spec := "packetJoinedMatchesSpec", inPlace := ["slices.overlaps[perigee/api.Missing]"], unfollowed := true, recurses := true, apart := false, narrowed := true }
def PacketJoinedMatchesSpecUptoSaid : Prop := packetJoinedMatchesSpecUptoRow.holds Try.pinned (OpenSpec.upto packetJoinedMatchesSpecSpec)

end Rows
end Go.Proofs.Ytahdmfboidjkoaa
