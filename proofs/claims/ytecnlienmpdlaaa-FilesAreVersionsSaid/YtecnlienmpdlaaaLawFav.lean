/- a name is one of Names just if it can be read, and its newest whole version is not gone. -/
import Derived.Test.YtecnlienmpdlaaaPuFav
import Derived.Test.YtecnlienmpdlaaaPmRow
import Derived.Test.YtecnlienmpdlaaaRows
import Derived.Test.YtecnlienmpdlaaaJfLib
namespace Go.Proofs.Ytecnlienmpdlaaa.PM
open Go
set_option maxRecDepth 100000
theorem jand {a b : Bool} (h1 : a = true) (h2 : b = true) : (a && b) = true := by rw [h1, h2]; rfl
theorem jf0 : (Rows.filesAreVersionsRow.wf (OpenSpec.ofChange Rows.filesAreVersionsSpec)) = true := by kernel_rfl
theorem jf1 : (laidOutB Try.prog) = true := by kernel_rfl
theorem jf2 : (mapsRowed Try.prog) = true := by kernel_rfl
theorem jf3 : (Try.f8.params.all (Try.prog.readableRec ·)) = true := by kernel_rfl
theorem jf4 : (namedTie Try.prog Rows.filesAreVersionsRow.named Rows.filesAreVersionsSpec.vars) = true := by kernel_rfl
theorem jf5 : ((Rows.filesAreVersionsRow.stops == [])) = true := by kernel_rfl
theorem jf6 : ((Try.prog.stops == [])) = true := by kernel_rfl
theorem jf7 : ((Rows.filesAreVersionsRow.knobs == [])) = true := by kernel_rfl
theorem jf8 : ((Try.prog.stopKnobs == [])) = true := by kernel_rfl
theorem jf9 : ((Rows.filesAreVersionsRow.inPlace == Try.prog.inPlace 8)) = true := by kernel_rfl
theorem jf10 : ((Rows.filesAreVersionsRow.unfollowed == Try.prog.unfollowed 8)) = true := by kernel_rfl
theorem jf11 : ((Rows.filesAreVersionsRow.recurses == Try.prog.recurses 8)) = true := by kernel_rfl
theorem jf12 : ((Rows.filesAreVersionsRow.named == Try.prog.varsNamed 8)) = true := by kernel_rfl
theorem jf13 : ((Rows.filesAreVersionsRow.maps == (Try.f8.params.toList ++ Rows.filesAreVersionsSpec.plain.varTypes Try.prog).any (Try.prog.mapsRec ·))) = true := by kernel_rfl
theorem jf14 : ((Rows.filesAreVersionsRow.ifaces == (Try.f8.params.toList ++ Rows.filesAreVersionsSpec.plain.varTypes Try.prog).any (Try.prog.ifacesRec ·))) = true := by kernel_rfl
theorem jf15 : ((Rows.filesAreVersionsRow.mapsOut == Try.prog.mapsAmong Try.f8.resultTypes.toList)) = true := by kernel_rfl
theorem jf16 : ((Rows.filesAreVersionsRow.loops == (Try.f8.params.toList ++ Rows.filesAreVersionsSpec.plain.varTypes Try.prog).any (Try.prog.loopsFrom ·))) = true := by kernel_rfl
theorem jf17 : ((Rows.filesAreVersionsRow.wideKeys == (Try.f8.params.toList ++ Rows.filesAreVersionsSpec.plain.varTypes Try.prog ++ Try.f8.resultTypes.toList).any (Try.prog.wideKeysFrom ·))) = true := by kernel_rfl
theorem jf18 : (Rows.filesAreVersionsSpec.vars.all (Try.prog.varReadable ·)) = true := by kernel_rfl
theorem jf19 : (Try.f8.resultTypes.all (fun t => Try.prog.readableRec t && decide (t < Try.prog.types.size))) = true := by kernel_rfl
theorem jf20 : ((Rows.filesAreVersionsRow.ifacesOut == Try.f8.resultTypes.toList.any (Try.prog.ifacesRec ·))) = true := by kernel_rfl
theorem jf21 : ((Rows.filesAreVersionsRow.loopsOut == Try.f8.resultTypes.toList.any (Try.prog.loopsFrom ·))) = true := by kernel_rfl
theorem jf22 : ((Rows.filesAreVersionsRow.plainKeys == Try.prog.plainKeys)) = true := by kernel_rfl
theorem jf23 : (Rows.filesAreVersionsRow.shortTexts.isNone) = true := by kernel_rfl
theorem jf24 : (Try.prog.stopsHeard) = true := by kernel_rfl
theorem jf25 : (Try.prog.mayEnter) = true := jl25
theorem jf26 : ((Rows.filesAreVersionsRow.lifted == Try.prog.liftsFinal)) = true := jl26
theorem jf27 : ((Try.prog.make == some Rows.filesAreVersionsRow.make)) = true := jl27
theorem jf28 : ((Rows.filesAreVersionsRow.kinds == (if Rows.filesAreVersionsRow.domain.isEmpty then [] else Try.f8.params.toList.map fun t => match Try.prog.underlying t with | some (.int k) => some k | _ => none))) = true := by kernel_rfl
theorem jf29 : ((Rows.filesAreVersionsRow.pinned == Rows.filesAreVersionsRow.pinnedBy)) = true := by kernel_rfl
theorem jf30 : ((Rows.filesAreVersionsRow.veiled == (Try.f8.params.toList ++ Rows.filesAreVersionsSpec.plain.varTypes Try.prog ++ Try.f8.resultTypes.toList).any (Try.prog.veiledRec ·))) = true := by kernel_rfl
theorem jf31 : (Rows.filesAreVersionsRow.veiledFits Try.prog Try.f8.params.toList (Try.f8.params.toList ++ Rows.filesAreVersionsSpec.plain.varTypes Try.prog ++ Try.f8.resultTypes.toList)) = true := by kernel_rfl
theorem jfs : joinedFacts Try.pinned.checked.prog 8 Try.f8 Rows.filesAreVersionsSpec Rows.filesAreVersionsRow = true := (jand (jand (jand (jand (jand (jand (jand (jand (jand (jand (jand (jand (jand (jand (jand (jand (jand (jand (jand (jand (jand (jand (jand (jand (jand (jand (jand (jand (jand (jand (jand jf0 jf1) jf2) jf3) jf4) jf5) jf6) jf7) jf8) jf9) jf10) jf11) jf12) jf13) jf14) jf15) jf16) jf17) jf18) jf19) jf20) jf21) jf22) jf23) jf24) jf25) jf26) jf27) jf28) jf29) jf30) jf31)
theorem lawFacts : LawFacts Try.checked Rows.filesAreVersionsSpec 8 Try.f8 [.prod (.int .i64) (.prod (.int .i64) (.prod (.int .i64) (.prod (.slice (.int .u8)) (.prod (.slice (.int .i64)) (.prod (.slice (.int .i64)) .unit))))), .str] [25, 9] 4 where
  own := by kernel_rfl
  laid := by kernel_rfl
  noInit := by kernel_rfl
  func := by kernel_rfl
  vars := rfl
  params := by kernel_rfl
  opens := by kernel_rfl
  rowed := by kernel_rfl
  res := by kernel_rfl
  bool := by kernel_rfl
  spec := fun H ds h => by
    match ds, h with
    | [d0, d1], _ => rfl
theorem lifted (os : Os) (started : os.Started) (H : Type) (enc : TypeId × Value → H) :
    ReturnsInHanded {} Try.checked os 8 .any (Rows.filesAreVersionsSpec.pre6 enc Try.prog Try.f8 Rows.filesAreVersionsRow.domain false) (Rows.filesAreVersionsSpec.post enc Try.prog Try.f8 false true false false) :=
  lifted_of lawFacts ttok fok pure started
    (ChangeSpec.witness6 (enc := enc) (C := Try.checked) false ⟨#[], #[.agg #[.int .i64 0, .int .i64 0, .int .i64 0, .slice none 0 0, .slice none 0 0, .slice none 0 0], .string ⟨#[]⟩], []⟩ 8 (by kernel_rfl) (by kernel_rfl) (by kernel_rfl) (by kernel_rfl))
theorem over : Rows.filesAreVersionsRow.holds Try.pinned (OpenSpec.ofChange Rows.filesAreVersionsSpec) :=
  OpenClaim.holds_of_wide 8 Try.f8 rfl rfl rfl rfl rfl rfl rfl ⟨rfl, rfl, rfl, rfl, rfl⟩ rfl rfl rfl rfl rfl (by kernel_rfl) Try.func8 jfs
    (of_decide_eq_true (by kernel_rfl)) (by unfold Func.isWrapper; first | (rw [if_pos (by decide +kernel)]; kernel_rfl) | (rw [if_neg (by decide +kernel)]; exact ⟨rfl, rfl⟩))
    (fun os started H enc _ => lifted os started H enc)
end Go.Proofs.Ytecnlienmpdlaaa.PM
namespace Go.Proofs.Ytecnlienmpdlaaa
/-- The row, under a short name, for the claim. -/
theorem filesAreVersions_holds : Rows.FilesAreVersionsSaid := PM.over
#print axioms filesAreVersions_holds
end Go.Proofs.Ytecnlienmpdlaaa
