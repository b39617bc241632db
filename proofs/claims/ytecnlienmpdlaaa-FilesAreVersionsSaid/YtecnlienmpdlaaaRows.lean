/-
  No cell of these rows narrows 'for every input' (looked for: loops, veiled, ifaces, maps, wideKeys, modest, calm, conditions, laid).
  DERIVED. THE GIVEN ROWS OF THIS SEAT. 7 by the template 'for every input the law returns true; each argument reads behind the call as it read before'; 0 by the template 'total and deterministic' (their statements: YtecnlienmpdlaaaTotals.lean).
  GIVEN WITH THE SEED: the statements are not yours to turn. If you find one false, say at which input.
  Laid BY PROGRAM, IN A SANDBOX (cutbox-rows.mjs): the forced cells as the released guide's own fill.sh prints them over the translation df5b614469c70c37… (all of the seat's roots in one cut). By AI agents, Wed Nov 11 2026. No macro, syntax, notation, axiom, sorry.
-/
import Derived.Test.YtecnlienmpdlaaaChecked
import GoSem.Claim
import GoSem.ClaimJoined
import GoSem.ClaimMapViews
import Derived.JoinedTies
import Derived.KernelRfl
namespace Go.Proofs.Ytecnlienmpdlaaa
/- THE CELL 'sum', in the pinned program and in every row, IS THE sha256 OF THE DUMP (.gsa) THAT YtecnlienmpdlaaaProg.lean LOADS. Nothing in Lean hashes anything: it is a label: what it is worth is what the hold of that sum in a sandbox is worth. -/
noncomputable def Try.pinned : Pinned := { name := "ytecnlienmpdlaaa", sum := "df5b614469c70c37ef18b1e88052781da8b391482cf8cbbde797d47c892c24f3", checked := Try.checked }
namespace Rows
def none {H : Type} : Left H := { results := [], args := [] }

/-- 'perigeelaw4.FlipsMatchSpec': WHATEVER THE INPUT: true; the input reads as it did. -/
def flipsMatchSpecSpec : ChangeSpec := { name := "flipsMatchSpec", fn := fun _ => fun
  | [d1, d2] => { results := [.lit (.bool true)], args := [d1, d2] }
  | _ => none }
def flipsMatchSpecRow : OpenClaim := { program := "ytecnlienmpdlaaa", sum := "df5b614469c70c37ef18b1e88052781da8b391482cf8cbbde797d47c892c24f3", func := "perigee/perigeelaw4.FlipsMatchSpec", spec := "flipsMatchSpec", plainKeys := false, apart := false }
def FlipsMatchSpecSaid : Prop := flipsMatchSpecRow.holds Try.pinned (OpenSpec.ofChange flipsMatchSpecSpec)

/-- ITS FALSE NEIGHBOUR: 'it returns false'. Refute it at one input. -/
def flipsMatchSpecWrong : ChangeSpec := { name := "flipsMatchSpec", fn := fun _ => fun
  | [d1, d2] => { results := [.lit (.bool false)], args := [d1, d2] }
  | _ => none }
def FlipsMatchSpecWrongFalsely : Prop := flipsMatchSpecRow.holds Try.pinned (OpenSpec.ofChange flipsMatchSpecWrong)

/-- 'perigeelaw4.FormatsMatchSpec': WHATEVER THE INPUT: true; the input reads as it did. -/
def formatsMatchSpecSpec : ChangeSpec := { name := "formatsMatchSpec", fn := fun _ => fun
  | [d1, d2, d3, d4, d5] => { results := [.lit (.bool true)], args := [d1, d2, d3, d4, d5] }
  | _ => none }
def formatsMatchSpecRow : OpenClaim := { program := "ytecnlienmpdlaaa", sum := "df5b614469c70c37ef18b1e88052781da8b391482cf8cbbde797d47c892c24f3", func := "perigee/perigeelaw4.FormatsMatchSpec", spec := "formatsMatchSpec", plainKeys := false, apart := false }
def FormatsMatchSpecSaid : Prop := formatsMatchSpecRow.holds Try.pinned (OpenSpec.ofChange formatsMatchSpecSpec)

/-- ITS FALSE NEIGHBOUR: 'it returns false'. Refute it at one input. -/
def formatsMatchSpecWrong : ChangeSpec := { name := "formatsMatchSpec", fn := fun _ => fun
  | [d1, d2, d3, d4, d5] => { results := [.lit (.bool false)], args := [d1, d2, d3, d4, d5] }
  | _ => none }
def FormatsMatchSpecWrongFalsely : Prop := formatsMatchSpecRow.holds Try.pinned (OpenSpec.ofChange formatsMatchSpecWrong)

/-- 'perigeelaw4.PagesMatchSpec': WHATEVER THE INPUT: true; the input reads as it did. -/
def pagesMatchSpecSpec : ChangeSpec := { name := "pagesMatchSpec", fn := fun _ => fun
  | [d1, d2, d3] => { results := [.lit (.bool true)], args := [d1, d2, d3] }
  | _ => none }
def pagesMatchSpecRow : OpenClaim := { program := "ytecnlienmpdlaaa", sum := "df5b614469c70c37ef18b1e88052781da8b391482cf8cbbde797d47c892c24f3", func := "perigee/perigeelaw4.PagesMatchSpec", spec := "pagesMatchSpec", unfollowed := true, recurses := true, plainKeys := false, apart := false }
def PagesMatchSpecSaid : Prop := pagesMatchSpecRow.holds Try.pinned (OpenSpec.ofChange pagesMatchSpecSpec)

/-- ITS FALSE NEIGHBOUR: 'it returns false'. Refute it at one input. -/
def pagesMatchSpecWrong : ChangeSpec := { name := "pagesMatchSpec", fn := fun _ => fun
  | [d1, d2, d3] => { results := [.lit (.bool false)], args := [d1, d2, d3] }
  | _ => none }
def PagesMatchSpecWrongFalsely : Prop := pagesMatchSpecRow.holds Try.pinned (OpenSpec.ofChange pagesMatchSpecWrong)

/-- 'perigeelaw4.PagesComeBack': WHATEVER THE INPUT: true; the input reads as it did. -/
def pagesComeBackSpec : ChangeSpec := { name := "pagesComeBack", fn := fun _ => fun
  | [d1, d2, d3] => { results := [.lit (.bool true)], args := [d1, d2, d3] }
  | _ => none }
def pagesComeBackRow : OpenClaim := { program := "ytecnlienmpdlaaa", sum := "df5b614469c70c37ef18b1e88052781da8b391482cf8cbbde797d47c892c24f3", func := "perigee/perigeelaw4.PagesComeBack", spec := "pagesComeBack", unfollowed := true, recurses := true, plainKeys := false, apart := false }
def PagesComeBackSaid : Prop := pagesComeBackRow.holds Try.pinned (OpenSpec.ofChange pagesComeBackSpec)

/-- ITS FALSE NEIGHBOUR: 'it returns false'. Refute it at one input. -/
def pagesComeBackWrong : ChangeSpec := { name := "pagesComeBack", fn := fun _ => fun
  | [d1, d2, d3] => { results := [.lit (.bool false)], args := [d1, d2, d3] }
  | _ => none }
def PagesComeBackWrongFalsely : Prop := pagesComeBackRow.holds Try.pinned (OpenSpec.ofChange pagesComeBackWrong)

/-- 'perigeelaw4.FlashesRoomIsRight': WHATEVER THE INPUT: true; the input reads as it did. -/
def flashesRoomIsRightSpec : ChangeSpec := { name := "flashesRoomIsRight", fn := fun _ => fun
  | [d1, d2, d3] => { results := [.lit (.bool true)], args := [d1, d2, d3] }
  | _ => none }
def flashesRoomIsRightRow : OpenClaim := { program := "ytecnlienmpdlaaa", sum := "df5b614469c70c37ef18b1e88052781da8b391482cf8cbbde797d47c892c24f3", func := "perigee/perigeelaw4.FlashesRoomIsRight", spec := "flashesRoomIsRight", inPlace := ["internal/bytealg.MakeNoZero"], unfollowed := true, recurses := true, plainKeys := false, apart := false }
def FlashesRoomIsRightSaid : Prop := flashesRoomIsRightRow.holds Try.pinned (OpenSpec.ofChange flashesRoomIsRightSpec)

/-- ITS FALSE NEIGHBOUR: 'it returns false'. Refute it at one input. -/
def flashesRoomIsRightWrong : ChangeSpec := { name := "flashesRoomIsRight", fn := fun _ => fun
  | [d1, d2, d3] => { results := [.lit (.bool false)], args := [d1, d2, d3] }
  | _ => none }
def FlashesRoomIsRightWrongFalsely : Prop := flashesRoomIsRightRow.holds Try.pinned (OpenSpec.ofChange flashesRoomIsRightWrong)

/-- 'perigeelaw4.FilesAreVersions': WHATEVER THE INPUT: true; the input reads as it did. -/
def filesAreVersionsSpec : ChangeSpec := { name := "filesAreVersions", fn := fun _ => fun
  | [d1, d2] => { results := [.lit (.bool true)], args := [d1, d2] }
  | _ => none }
def filesAreVersionsRow : OpenClaim := { program := "ytecnlienmpdlaaa", sum := "df5b614469c70c37ef18b1e88052781da8b391482cf8cbbde797d47c892c24f3", func := "perigee/perigeelaw4.FilesAreVersions", spec := "filesAreVersions", unfollowed := true, recurses := true, plainKeys := false, apart := false }
def FilesAreVersionsSaid : Prop := filesAreVersionsRow.holds Try.pinned (OpenSpec.ofChange filesAreVersionsSpec)

/-- ITS FALSE NEIGHBOUR: 'it returns false'. Refute it at one input. -/
def filesAreVersionsWrong : ChangeSpec := { name := "filesAreVersions", fn := fun _ => fun
  | [d1, d2] => { results := [.lit (.bool false)], args := [d1, d2] }
  | _ => none }
def FilesAreVersionsWrongFalsely : Prop := filesAreVersionsRow.holds Try.pinned (OpenSpec.ofChange filesAreVersionsWrong)

/-- 'perigeelaw4.FlipsMakeNoFile': WHATEVER THE INPUT: true; the input reads as it did. -/
def flipsMakeNoFileSpec : ChangeSpec := { name := "flipsMakeNoFile", fn := fun _ => fun
  | [d1, d2] => { results := [.lit (.bool true)], args := [d1, d2] }
  | _ => none }
def flipsMakeNoFileRow : OpenClaim := { program := "ytecnlienmpdlaaa", sum := "df5b614469c70c37ef18b1e88052781da8b391482cf8cbbde797d47c892c24f3", func := "perigee/perigeelaw4.FlipsMakeNoFile", spec := "flipsMakeNoFile", unfollowed := true, recurses := true, plainKeys := false, apart := false }
def FlipsMakeNoFileSaid : Prop := flipsMakeNoFileRow.holds Try.pinned (OpenSpec.ofChange flipsMakeNoFileSpec)

/-- ITS FALSE NEIGHBOUR: 'it returns false'. Refute it at one input. -/
def flipsMakeNoFileWrong : ChangeSpec := { name := "flipsMakeNoFile", fn := fun _ => fun
  | [d1, d2] => { results := [.lit (.bool false)], args := [d1, d2] }
  | _ => none }
def FlipsMakeNoFileWrongFalsely : Prop := flipsMakeNoFileRow.holds Try.pinned (OpenSpec.ofChange flipsMakeNoFileWrong)

/- THE SECOND FORM. 'bulk': how many values and letters a reading holds, each counted each time it is reached (what is shared counts as often as it is met; a slice's spare places count too). A statement '..UptoSaid' is the law's where the arguments, and the package variables that the reading takes, are together of bulk at most 1048576: NARROWER than '..Said'. Prove '..Said' where nothing that the law and all that it calls make is longer than what came in: it says more and counts as full. Else prove '..UptoSaid'. A law counts once. -/
mutual
def uptoBulk {H : Type} : DataW H → Nat
  | .lit (.string bytes) => bytes.length + 1
  | .lit _ => 1
  | .nil => 1
  | .ptr d => uptoBulk d + 1
  | .slice elems spare => uptoBulkAll elems + uptoBulkAll spare + 1
  | .agg parts => uptoBulkAll parts + 1
  | .iface _ d => uptoBulk d + 1
  | .map entries => uptoBulkEntries entries + 1
  | .held _ => 1
def uptoBulkAll {H : Type} : List (DataW H) → Nat
  | [] => 0
  | d :: r => uptoBulk d + uptoBulkAll r
def uptoBulkEntries {H : Type} : List (Lit × DataW H) → Nat
  | [] => 0
  | x :: r => uptoBulkEntry x + uptoBulkEntries r
def uptoBulkEntry {H : Type} : Lit × DataW H → Nat
  | (.string bytes, d) => bytes.length + uptoBulk d + 1
  | (_, d) => uptoBulk d + 1
 end
def uptoSmall : (H : Type) → List (DataW H) → Bool := fun _ ds => decide (uptoBulkAll ds ≤ 1048576)
def OpenSpec.upto (s : _root_.Go.ChangeSpec) : _root_.Go.OpenSpec := { _root_.Go.OpenSpec.ofChange s with cond := some uptoSmall }

/-- 'perigeelaw4.FlipsMatchSpec', WHERE WHAT IT READS IS OF BULK AT MOST 1048576: true; the input reads as it did. -/
def flipsMatchSpecUptoRow : OpenClaim := { program := "ytecnlienmpdlaaa", sum := "df5b614469c70c37ef18b1e88052781da8b391482cf8cbbde797d47c892c24f3", func := "perigee/perigeelaw4.FlipsMatchSpec", spec := "flipsMatchSpec", plainKeys := false, apart := false, narrowed := true }
def FlipsMatchSpecUptoSaid : Prop := flipsMatchSpecUptoRow.holds Try.pinned (OpenSpec.upto flipsMatchSpecSpec)

/-- 'perigeelaw4.FormatsMatchSpec', WHERE WHAT IT READS IS OF BULK AT MOST 1048576: true; the input reads as it did. -/
def formatsMatchSpecUptoRow : OpenClaim := { program := "ytecnlienmpdlaaa", sum := "df5b614469c70c37ef18b1e88052781da8b391482cf8cbbde797d47c892c24f3", func := "perigee/perigeelaw4.FormatsMatchSpec", spec := "formatsMatchSpec", plainKeys := false, apart := false, narrowed := true }
def FormatsMatchSpecUptoSaid : Prop := formatsMatchSpecUptoRow.holds Try.pinned (OpenSpec.upto formatsMatchSpecSpec)

/-- 'perigeelaw4.PagesMatchSpec', WHERE WHAT IT READS IS OF BULK AT MOST 1048576: true; the input reads as it did. -/
def pagesMatchSpecUptoRow : OpenClaim := { program := "ytecnlienmpdlaaa", sum := "df5b614469c70c37ef18b1e88052781da8b391482cf8cbbde797d47c892c24f3", func := "perigee/perigeelaw4.PagesMatchSpec", spec := "pagesMatchSpec", unfollowed := true, recurses := true, plainKeys := false, apart := false, narrowed := true }
def PagesMatchSpecUptoSaid : Prop := pagesMatchSpecUptoRow.holds Try.pinned (OpenSpec.upto pagesMatchSpecSpec)

/-- 'perigeelaw4.PagesComeBack', WHERE WHAT IT READS IS OF BULK AT MOST 1048576: true; the input reads as it did. -/
def pagesComeBackUptoRow : OpenClaim := { program := "ytecnlienmpdlaaa", sum := "df5b614469c70c37ef18b1e88052781da8b391482cf8cbbde797d47c892c24f3", func := "perigee/perigeelaw4.PagesComeBack", spec := "pagesComeBack", unfollowed := true, recurses := true, plainKeys := false, apart := false, narrowed := true }
def PagesComeBackUptoSaid : Prop := pagesComeBackUptoRow.holds Try.pinned (OpenSpec.upto pagesComeBackSpec)

/-- 'perigeelaw4.FlashesRoomIsRight', WHERE WHAT IT READS IS OF BULK AT MOST 1048576: true; the input reads as it did. -/
def flashesRoomIsRightUptoRow : OpenClaim := { program := "ytecnlienmpdlaaa", sum := "df5b614469c70c37ef18b1e88052781da8b391482cf8cbbde797d47c892c24f3", func := "perigee/perigeelaw4.FlashesRoomIsRight", spec := "flashesRoomIsRight", inPlace := ["internal/bytealg.MakeNoZero"], unfollowed := true, recurses := true, plainKeys := false, apart := false, narrowed := true }
def FlashesRoomIsRightUptoSaid : Prop := flashesRoomIsRightUptoRow.holds Try.pinned (OpenSpec.upto flashesRoomIsRightSpec)

/-- 'perigeelaw4.FilesAreVersions', WHERE WHAT IT READS IS OF BULK AT MOST 1048576: true; the input reads as it did. -/
def filesAreVersionsUptoRow : OpenClaim := { program := "ytecnlienmpdlaaa", sum := "df5b614469c70c37ef18b1e88052781da8b391482cf8cbbde797d47c892c24f3", func := "perigee/perigeelaw4.FilesAreVersions", spec := "filesAreVersions", unfollowed := true, recurses := true, plainKeys := false, apart := false, narrowed := true }
def FilesAreVersionsUptoSaid : Prop := filesAreVersionsUptoRow.holds Try.pinned (OpenSpec.upto filesAreVersionsSpec)

/-- 'perigeelaw4.FlipsMakeNoFile', WHERE WHAT IT READS IS OF BULK AT MOST 1048576: true; the input reads as it did. -/
def flipsMakeNoFileUptoRow : OpenClaim := { program := "ytecnlienmpdlaaa", sum := "df5b614469c70c37ef18b1e88052781da8b391482cf8cbbde797d47c892c24f3", func := "perigee/perigeelaw4.FlipsMakeNoFile", spec := "flipsMakeNoFile", unfollowed := true, recurses := true, plainKeys := false, apart := false, narrowed := true }
def FlipsMakeNoFileUptoSaid : Prop := flipsMakeNoFileUptoRow.holds Try.pinned (OpenSpec.upto flipsMakeNoFileSpec)

end Rows
end Go.Proofs.Ytecnlienmpdlaaa
