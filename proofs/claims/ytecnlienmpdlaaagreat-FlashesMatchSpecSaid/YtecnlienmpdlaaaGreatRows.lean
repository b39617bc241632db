/-
  No cell of these rows narrows 'for every input' (looked for: loops, veiled, ifaces, maps, wideKeys, modest, calm, conditions, laid).
  DERIVED. THE GIVEN ROWS OF THIS SEAT. 8 by the template 'for every input the law returns true; each argument reads behind the call as it read before'; 0 by the template 'total and deterministic' (their statements: YtecnlienmpdlaaaGreatTotals.lean).
  GIVEN WITH THE SEED: the statements are not yours to turn. If you find one false, say at which input.
  Laid BY PROGRAM, IN A SANDBOX (cutbox-rows.mjs): the forced cells as the released guide's own fill.sh prints them over the translation 07dde75a91ca62a6… (all of the seat's roots in one cut). By AI agents, Wed Nov 11 2026. No macro, syntax, notation, axiom, sorry.
-/
import Derived.Test.YtecnlienmpdlaaaGreatChecked
import GoSem.Claim
import GoSem.ClaimJoined
import GoSem.ClaimMapViews
import Derived.JoinedTies
import Derived.KernelRfl
namespace Go.Proofs.YtecnlienmpdlaaaGreat
/- THE CELL 'sum', in the pinned program and in every row, IS THE sha256 OF THE DUMP (.gsa) THAT YtecnlienmpdlaaaGreatProg.lean LOADS. Nothing in Lean hashes anything: it is a label: what it is worth is what the hold of that sum in a sandbox is worth. -/
noncomputable def Tryz.pinned : Pinned := { name := "ytecnlienmpdlaaagreat", sum := "07dde75a91ca62a60a92172d3e880e0a78d9966bef197a91a1fbdc239ed65c2b", checked := Tryz.checked }
namespace Rows
def none {H : Type} : Left H := { results := [], args := [] }

/-- 'perigeelaw4.WritesMatchSpec': WHATEVER THE INPUT: true; the input reads as it did. -/
def writesMatchSpecSpec : ChangeSpec := { name := "writesMatchSpec", fn := fun _ => fun
  | [d1, d2, d3, d4] => { results := [.lit (.bool true)], args := [d1, d2, d3, d4] }
  | _ => none }
def writesMatchSpecRow : OpenClaim := { program := "ytecnlienmpdlaaagreat", sum := "07dde75a91ca62a60a92172d3e880e0a78d9966bef197a91a1fbdc239ed65c2b", func := "perigee/perigeelaw4.WritesMatchSpec", spec := "writesMatchSpec", unfollowed := true, recurses := true, plainKeys := false, apart := false }
def WritesMatchSpecSaid : Prop := writesMatchSpecRow.holds Tryz.pinned (OpenSpec.ofChange writesMatchSpecSpec)

/-- ITS FALSE NEIGHBOUR: 'it returns false'. Refute it at one input. -/
def writesMatchSpecWrong : ChangeSpec := { name := "writesMatchSpec", fn := fun _ => fun
  | [d1, d2, d3, d4] => { results := [.lit (.bool false)], args := [d1, d2, d3, d4] }
  | _ => none }
def WritesMatchSpecWrongFalsely : Prop := writesMatchSpecRow.holds Tryz.pinned (OpenSpec.ofChange writesMatchSpecWrong)

/-- 'perigeelaw4.FlashesMatchSpec': WHATEVER THE INPUT: true; the input reads as it did. -/
def flashesMatchSpecSpec : ChangeSpec := { name := "flashesMatchSpec", fn := fun _ => fun
  | [d] => { results := [.lit (.bool true)], args := [d] }
  | _ => none }
def flashesMatchSpecRow : OpenClaim := { program := "ytecnlienmpdlaaagreat", sum := "07dde75a91ca62a60a92172d3e880e0a78d9966bef197a91a1fbdc239ed65c2b", func := "perigee/perigeelaw4.FlashesMatchSpec", spec := "flashesMatchSpec", unfollowed := true, recurses := true, plainKeys := false, apart := false }
def FlashesMatchSpecSaid : Prop := flashesMatchSpecRow.holds Tryz.pinned (OpenSpec.ofChange flashesMatchSpecSpec)

/-- ITS FALSE NEIGHBOUR: 'it returns false'. Refute it at one input. -/
def flashesMatchSpecWrong : ChangeSpec := { name := "flashesMatchSpec", fn := fun _ => fun
  | [d] => { results := [.lit (.bool false)], args := [d] }
  | _ => none }
def FlashesMatchSpecWrongFalsely : Prop := flashesMatchSpecRow.holds Tryz.pinned (OpenSpec.ofChange flashesMatchSpecWrong)

/-- 'perigeelaw4.FilesMatchSpec': WHATEVER THE INPUT: true; the input reads as it did. -/
def filesMatchSpecSpec : ChangeSpec := { name := "filesMatchSpec", fn := fun _ => fun
  | [d1, d2] => { results := [.lit (.bool true)], args := [d1, d2] }
  | _ => none }
def filesMatchSpecRow : OpenClaim := { program := "ytecnlienmpdlaaagreat", sum := "07dde75a91ca62a60a92172d3e880e0a78d9966bef197a91a1fbdc239ed65c2b", func := "perigee/perigeelaw4.FilesMatchSpec", spec := "filesMatchSpec", unfollowed := true, recurses := true, plainKeys := false, apart := false }
def FilesMatchSpecSaid : Prop := filesMatchSpecRow.holds Tryz.pinned (OpenSpec.ofChange filesMatchSpecSpec)

/-- ITS FALSE NEIGHBOUR: 'it returns false'. Refute it at one input. -/
def filesMatchSpecWrong : ChangeSpec := { name := "filesMatchSpec", fn := fun _ => fun
  | [d1, d2] => { results := [.lit (.bool false)], args := [d1, d2] }
  | _ => none }
def FilesMatchSpecWrongFalsely : Prop := filesMatchSpecRow.holds Tryz.pinned (OpenSpec.ofChange filesMatchSpecWrong)

/-- 'perigeelaw4.CleansMatchSpec': WHATEVER THE INPUT: true; the input reads as it did. -/
def cleansMatchSpecSpec : ChangeSpec := { name := "cleansMatchSpec", fn := fun _ => fun
  | [d1, d2] => { results := [.lit (.bool true)], args := [d1, d2] }
  | _ => none }
def cleansMatchSpecRow : OpenClaim := { program := "ytecnlienmpdlaaagreat", sum := "07dde75a91ca62a60a92172d3e880e0a78d9966bef197a91a1fbdc239ed65c2b", func := "perigee/perigeelaw4.CleansMatchSpec", spec := "cleansMatchSpec", unfollowed := true, recurses := true, plainKeys := false, apart := false }
def CleansMatchSpecSaid : Prop := cleansMatchSpecRow.holds Tryz.pinned (OpenSpec.ofChange cleansMatchSpecSpec)

/-- ITS FALSE NEIGHBOUR: 'it returns false'. Refute it at one input. -/
def cleansMatchSpecWrong : ChangeSpec := { name := "cleansMatchSpec", fn := fun _ => fun
  | [d1, d2] => { results := [.lit (.bool false)], args := [d1, d2] }
  | _ => none }
def CleansMatchSpecWrongFalsely : Prop := cleansMatchSpecRow.holds Tryz.pinned (OpenSpec.ofChange cleansMatchSpecWrong)

/-- 'perigeelaw4.CleansMakeRoom': WHATEVER THE INPUT: true; the input reads as it did. -/
def cleansMakeRoomSpec : ChangeSpec := { name := "cleansMakeRoom", fn := fun _ => fun
  | [d] => { results := [.lit (.bool true)], args := [d] }
  | _ => none }
def cleansMakeRoomRow : OpenClaim := { program := "ytecnlienmpdlaaagreat", sum := "07dde75a91ca62a60a92172d3e880e0a78d9966bef197a91a1fbdc239ed65c2b", func := "perigee/perigeelaw4.CleansMakeRoom", spec := "cleansMakeRoom", unfollowed := true, recurses := true, plainKeys := false, apart := false }
def CleansMakeRoomSaid : Prop := cleansMakeRoomRow.holds Tryz.pinned (OpenSpec.ofChange cleansMakeRoomSpec)

/-- ITS FALSE NEIGHBOUR: 'it returns false'. Refute it at one input. -/
def cleansMakeRoomWrong : ChangeSpec := { name := "cleansMakeRoom", fn := fun _ => fun
  | [d] => { results := [.lit (.bool false)], args := [d] }
  | _ => none }
def CleansMakeRoomWrongFalsely : Prop := cleansMakeRoomRow.holds Tryz.pinned (OpenSpec.ofChange cleansMakeRoomWrong)

/-- 'perigeelaw4.DeletesAreWhole': WHATEVER THE INPUT: true; the input reads as it did. -/
def deletesAreWholeSpec : ChangeSpec := { name := "deletesAreWhole", fn := fun _ => fun
  | [d1, d2, d3] => { results := [.lit (.bool true)], args := [d1, d2, d3] }
  | _ => none }
def deletesAreWholeRow : OpenClaim := { program := "ytecnlienmpdlaaagreat", sum := "07dde75a91ca62a60a92172d3e880e0a78d9966bef197a91a1fbdc239ed65c2b", func := "perigee/perigeelaw4.DeletesAreWhole", spec := "deletesAreWhole", unfollowed := true, recurses := true, plainKeys := false, apart := false }
def DeletesAreWholeSaid : Prop := deletesAreWholeRow.holds Tryz.pinned (OpenSpec.ofChange deletesAreWholeSpec)

/-- ITS FALSE NEIGHBOUR: 'it returns false'. Refute it at one input. -/
def deletesAreWholeWrong : ChangeSpec := { name := "deletesAreWhole", fn := fun _ => fun
  | [d1, d2, d3] => { results := [.lit (.bool false)], args := [d1, d2, d3] }
  | _ => none }
def DeletesAreWholeWrongFalsely : Prop := deletesAreWholeRow.holds Tryz.pinned (OpenSpec.ofChange deletesAreWholeWrong)

/-- 'perigeelaw4.WritesAreWhole': WHATEVER THE INPUT: true; the input reads as it did. -/
def writesAreWholeSpec : ChangeSpec := { name := "writesAreWhole", fn := fun _ => fun
  | [d1, d2, d3, d4] => { results := [.lit (.bool true)], args := [d1, d2, d3, d4] }
  | _ => none }
def writesAreWholeRow : OpenClaim := { program := "ytecnlienmpdlaaagreat", sum := "07dde75a91ca62a60a92172d3e880e0a78d9966bef197a91a1fbdc239ed65c2b", func := "perigee/perigeelaw4.WritesAreWhole", spec := "writesAreWhole", unfollowed := true, recurses := true, plainKeys := false, apart := false }
def WritesAreWholeSaid : Prop := writesAreWholeRow.holds Tryz.pinned (OpenSpec.ofChange writesAreWholeSpec)

/-- ITS FALSE NEIGHBOUR: 'it returns false'. Refute it at one input. -/
def writesAreWholeWrong : ChangeSpec := { name := "writesAreWhole", fn := fun _ => fun
  | [d1, d2, d3, d4] => { results := [.lit (.bool false)], args := [d1, d2, d3, d4] }
  | _ => none }
def WritesAreWholeWrongFalsely : Prop := writesAreWholeRow.holds Tryz.pinned (OpenSpec.ofChange writesAreWholeWrong)

/-- 'perigeelaw4.CleansChangeNoFile': WHATEVER THE INPUT: true; the input reads as it did. -/
def cleansChangeNoFileSpec : ChangeSpec := { name := "cleansChangeNoFile", fn := fun _ => fun
  | [d1, d2] => { results := [.lit (.bool true)], args := [d1, d2] }
  | _ => none }
def cleansChangeNoFileRow : OpenClaim := { program := "ytecnlienmpdlaaagreat", sum := "07dde75a91ca62a60a92172d3e880e0a78d9966bef197a91a1fbdc239ed65c2b", func := "perigee/perigeelaw4.CleansChangeNoFile", spec := "cleansChangeNoFile", unfollowed := true, recurses := true, plainKeys := false, apart := false }
def CleansChangeNoFileSaid : Prop := cleansChangeNoFileRow.holds Tryz.pinned (OpenSpec.ofChange cleansChangeNoFileSpec)

/-- ITS FALSE NEIGHBOUR: 'it returns false'. Refute it at one input. -/
def cleansChangeNoFileWrong : ChangeSpec := { name := "cleansChangeNoFile", fn := fun _ => fun
  | [d1, d2] => { results := [.lit (.bool false)], args := [d1, d2] }
  | _ => none }
def CleansChangeNoFileWrongFalsely : Prop := cleansChangeNoFileRow.holds Tryz.pinned (OpenSpec.ofChange cleansChangeNoFileWrong)

/- THE SECOND FORM. 'bulk': how many values and letters a reading holds, each counted each time it is reached (what is shared counts as often as it is met; a slice's spare places count too). A statement '..UptoSaid' is the law's where the arguments, and the package variables that the reading takes, are together of bulk at most 1048576: NARROWER than '..Said'. Prove '..Said' where nothing that the law and all that it calls make is longer than what came in: it says more and counts as full. Else prove '..UptoSaid'. A law counts once. -/
mutual
def uptoBulk {H : Type} : DataW H → Nat
  | .lit (.string bytes) => bytes.length + 1
  | .lit _ => 1
  | .nil => 1
  | .ptr d => uptoBulk d + 1
  | .slice elems spare => uptoBulkAll elems + uptoBulkAll spare + 1
  | .agg parts => uptoBulkAll parts + 1
  | .iface _ d => uptoBulk d + 1
  | .map entries => uptoBulkEntries entries + 1
  | .held _ => 1
def uptoBulkAll {H : Type} : List (DataW H) → Nat
  | [] => 0
  | d :: r => uptoBulk d + uptoBulkAll r
def uptoBulkEntries {H : Type} : List (Lit × DataW H) → Nat
  | [] => 0
  | x :: r => uptoBulkEntry x + uptoBulkEntries r
def uptoBulkEntry {H : Type} : Lit × DataW H → Nat
  | (.string bytes, d) => bytes.length + uptoBulk d + 1
  | (_, d) => uptoBulk d + 1
 end
def uptoSmall : (H : Type) → List (DataW H) → Bool := fun _ ds => decide (uptoBulkAll ds ≤ 1048576)
def OpenSpec.upto (s : _root_.Go.ChangeSpec) : _root_.Go.OpenSpec := { _root_.Go.OpenSpec.ofChange s with cond := some uptoSmall }

/-- 'perigeelaw4.WritesMatchSpec', WHERE WHAT IT READS IS OF BULK AT MOST 1048576: true; the input reads as it did. -/
def writesMatchSpecUptoRow : OpenClaim := { program := "ytecnlienmpdlaaagreat", sum := "07dde75a91ca62a60a92172d3e880e0a78d9966bef197a91a1fbdc239ed65c2b", func := "perigee/perigeelaw4.WritesMatchSpec", spec := "writesMatchSpec", unfollowed := true, recurses := true, plainKeys := false, apart := false, narrowed := true }
def WritesMatchSpecUptoSaid : Prop := writesMatchSpecUptoRow.holds Tryz.pinned (OpenSpec.upto writesMatchSpecSpec)

/-- 'perigeelaw4.FlashesMatchSpec', WHERE WHAT IT READS IS OF BULK AT MOST 1048576: true; the input reads as it did. -/
def flashesMatchSpecUptoRow : OpenClaim := { program := "ytecnlienmpdlaaagreat", sum := "07dde75a91ca62a60a92172d3e880e0a78d9966bef197a91a1fbdc239ed65c2b", func := "perigee/perigeelaw4.FlashesMatchSpec", spec := "flashesMatchSpec", unfollowed := true, recurses := true, plainKeys := false, apart := false, narrowed := true }
def FlashesMatchSpecUptoSaid : Prop := flashesMatchSpecUptoRow.holds Tryz.pinned (OpenSpec.upto flashesMatchSpecSpec)

/-- 'perigeelaw4.FilesMatchSpec', WHERE WHAT IT READS IS OF BULK AT MOST 1048576: true; the input reads as it did. -/
def filesMatchSpecUptoRow : OpenClaim := { program := "ytecnlienmpdlaaagreat", sum := "07dde75a91ca62a60a92172d3e880e0a78d9966bef197a91a1fbdc239ed65c2b", func := "perigee/perigeelaw4.FilesMatchSpec", spec := "filesMatchSpec", unfollowed := true, recurses := true, plainKeys := false, apart := false, narrowed := true }
def FilesMatchSpecUptoSaid : Prop := filesMatchSpecUptoRow.holds Tryz.pinned (OpenSpec.upto filesMatchSpecSpec)

/-- 'perigeelaw4.CleansMatchSpec', WHERE WHAT IT READS IS OF BULK AT MOST 1048576: true; the input reads as it did. -/
def cleansMatchSpecUptoRow : OpenClaim := { program := "ytecnlienmpdlaaagreat", sum := "07dde75a91ca62a60a92172d3e880e0a78d9966bef197a91a1fbdc239ed65c2b", func := "perigee/perigeelaw4.CleansMatchSpec", spec := "cleansMatchSpec", unfollowed := true, recurses := true, plainKeys := false, apart := false, narrowed := true }
def CleansMatchSpecUptoSaid : Prop := cleansMatchSpecUptoRow.holds Tryz.pinned (OpenSpec.upto cleansMatchSpecSpec)

/-- 'perigeelaw4.CleansMakeRoom', WHERE WHAT IT READS IS OF BULK AT MOST 1048576: true; the input reads as it did. -/
def cleansMakeRoomUptoRow : OpenClaim := { program := "ytecnlienmpdlaaagreat", sum := "07dde75a91ca62a60a92172d3e880e0a78d9966bef197a91a1fbdc239ed65c2b", func := "perigee/perigeelaw4.CleansMakeRoom", spec := "cleansMakeRoom", unfollowed := true, recurses := true, plainKeys := false, apart := false, narrowed := true }
def CleansMakeRoomUptoSaid : Prop := cleansMakeRoomUptoRow.holds Tryz.pinned (OpenSpec.upto cleansMakeRoomSpec)

/-- 'perigeelaw4.DeletesAreWhole', WHERE WHAT IT READS IS OF BULK AT MOST 1048576: true; the input reads as it did. -/
def deletesAreWholeUptoRow : OpenClaim := { program := "ytecnlienmpdlaaagreat", sum := "07dde75a91ca62a60a92172d3e880e0a78d9966bef197a91a1fbdc239ed65c2b", func := "perigee/perigeelaw4.DeletesAreWhole", spec := "deletesAreWhole", unfollowed := true, recurses := true, plainKeys := false, apart := false, narrowed := true }
def DeletesAreWholeUptoSaid : Prop := deletesAreWholeUptoRow.holds Tryz.pinned (OpenSpec.upto deletesAreWholeSpec)

/-- 'perigeelaw4.WritesAreWhole', WHERE WHAT IT READS IS OF BULK AT MOST 1048576: true; the input reads as it did. -/
def writesAreWholeUptoRow : OpenClaim := { program := "ytecnlienmpdlaaagreat", sum := "07dde75a91ca62a60a92172d3e880e0a78d9966bef197a91a1fbdc239ed65c2b", func := "perigee/perigeelaw4.WritesAreWhole", spec := "writesAreWhole", unfollowed := true, recurses := true, plainKeys := false, apart := false, narrowed := true }
def WritesAreWholeUptoSaid : Prop := writesAreWholeUptoRow.holds Tryz.pinned (OpenSpec.upto writesAreWholeSpec)

/-- 'perigeelaw4.CleansChangeNoFile', WHERE WHAT IT READS IS OF BULK AT MOST 1048576: true; the input reads as it did. -/
def cleansChangeNoFileUptoRow : OpenClaim := { program := "ytecnlienmpdlaaagreat", sum := "07dde75a91ca62a60a92172d3e880e0a78d9966bef197a91a1fbdc239ed65c2b", func := "perigee/perigeelaw4.CleansChangeNoFile", spec := "cleansChangeNoFile", unfollowed := true, recurses := true, plainKeys := false, apart := false, narrowed := true }
def CleansChangeNoFileUptoSaid : Prop := cleansChangeNoFileUptoRow.holds Tryz.pinned (OpenSpec.upto cleansChangeNoFileSpec)

end Rows
end Go.Proofs.YtecnlienmpdlaaaGreat
