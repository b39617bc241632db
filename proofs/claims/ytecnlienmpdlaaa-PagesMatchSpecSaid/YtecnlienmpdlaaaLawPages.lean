/- For every page Encode, and Decode for any bytes, are as the reference says, with all faults: PagesMatchSpec returns true and leaves its arguments as they were. No condition. -/
import Derived.Test.YtecnlienmpdlaaaPuPages
import Derived.Test.YtecnlienmpdlaaaPmRow
import Derived.Test.YtecnlienmpdlaaaRows
import Derived.Test.YtecnlienmpdlaaaJfLib
namespace Go.Proofs.Ytecnlienmpdlaaa.PM
open Go
set_option maxRecDepth 100000
theorem jand {a b : Bool} (h1 : a = true) (h2 : b = true) : (a && b) = true := by rw [h1, h2]; rfl
theorem jf0 : (Rows.pagesMatchSpecRow.wf (OpenSpec.ofChange Rows.pagesMatchSpecSpec)) = true := by kernel_rfl
theorem jf1 : (laidOutB Try.prog) = true := by kernel_rfl
theorem jf2 : (mapsRowed Try.prog) = true := by kernel_rfl
theorem jf3 : (Try.f5.params.all (Try.prog.readableRec ·)) = true := by kernel_rfl
theorem jf4 : (namedTie Try.prog Rows.pagesMatchSpecRow.named Rows.pagesMatchSpecSpec.vars) = true := by kernel_rfl
theorem jf5 : ((Rows.pagesMatchSpecRow.stops == [])) = true := by kernel_rfl
theorem jf6 : ((Try.prog.stops == [])) = true := by kernel_rfl
theorem jf7 : ((Rows.pagesMatchSpecRow.knobs == [])) = true := by kernel_rfl
theorem jf8 : ((Try.prog.stopKnobs == [])) = true := by kernel_rfl
theorem jf9 : ((Rows.pagesMatchSpecRow.inPlace == Try.prog.inPlace 5)) = true := by kernel_rfl
theorem jf10 : ((Rows.pagesMatchSpecRow.unfollowed == Try.prog.unfollowed 5)) = true := by kernel_rfl
theorem jf11 : ((Rows.pagesMatchSpecRow.recurses == Try.prog.recurses 5)) = true := by kernel_rfl
theorem jf12 : ((Rows.pagesMatchSpecRow.named == Try.prog.varsNamed 5)) = true := by kernel_rfl
theorem jf13 : ((Rows.pagesMatchSpecRow.maps == (Try.f5.params.toList ++ Rows.pagesMatchSpecSpec.plain.varTypes Try.prog).any (Try.prog.mapsRec ·))) = true := by kernel_rfl
theorem jf14 : ((Rows.pagesMatchSpecRow.ifaces == (Try.f5.params.toList ++ Rows.pagesMatchSpecSpec.plain.varTypes Try.prog).any (Try.prog.ifacesRec ·))) = true := by kernel_rfl
theorem jf15 : ((Rows.pagesMatchSpecRow.mapsOut == Try.prog.mapsAmong Try.f5.resultTypes.toList)) = true := by kernel_rfl
theorem jf16 : ((Rows.pagesMatchSpecRow.loops == (Try.f5.params.toList ++ Rows.pagesMatchSpecSpec.plain.varTypes Try.prog).any (Try.prog.loopsFrom ·))) = true := by kernel_rfl
theorem jf17 : ((Rows.pagesMatchSpecRow.wideKeys == (Try.f5.params.toList ++ Rows.pagesMatchSpecSpec.plain.varTypes Try.prog ++ Try.f5.resultTypes.toList).any (Try.prog.wideKeysFrom ·))) = true := by kernel_rfl
theorem jf18 : (Rows.pagesMatchSpecSpec.vars.all (Try.prog.varReadable ·)) = true := by kernel_rfl
theorem jf19 : (Try.f5.resultTypes.all (fun t => Try.prog.readableRec t && decide (t < Try.prog.types.size))) = true := by kernel_rfl
theorem jf20 : ((Rows.pagesMatchSpecRow.ifacesOut == Try.f5.resultTypes.toList.any (Try.prog.ifacesRec ·))) = true := by kernel_rfl
theorem jf21 : ((Rows.pagesMatchSpecRow.loopsOut == Try.f5.resultTypes.toList.any (Try.prog.loopsFrom ·))) = true := by kernel_rfl
theorem jf22 : ((Rows.pagesMatchSpecRow.plainKeys == Try.prog.plainKeys)) = true := by kernel_rfl
theorem jf23 : (Rows.pagesMatchSpecRow.shortTexts.isNone) = true := by kernel_rfl
theorem jf24 : (Try.prog.stopsHeard) = true := by kernel_rfl
theorem jf25 : (Try.prog.mayEnter) = true := jl25
theorem jf26 : ((Rows.pagesMatchSpecRow.lifted == Try.prog.liftsFinal)) = true := jl26
theorem jf27 : ((Try.prog.make == some Rows.pagesMatchSpecRow.make)) = true := jl27
theorem jf28 : ((Rows.pagesMatchSpecRow.kinds == (if Rows.pagesMatchSpecRow.domain.isEmpty then [] else Try.f5.params.toList.map fun t => match Try.prog.underlying t with | some (.int k) => some k | _ => none))) = true := by kernel_rfl
theorem jf29 : ((Rows.pagesMatchSpecRow.pinned == Rows.pagesMatchSpecRow.pinnedBy)) = true := by kernel_rfl
theorem jf30 : ((Rows.pagesMatchSpecRow.veiled == (Try.f5.params.toList ++ Rows.pagesMatchSpecSpec.plain.varTypes Try.prog ++ Try.f5.resultTypes.toList).any (Try.prog.veiledRec ·))) = true := by kernel_rfl
theorem jf31 : (Rows.pagesMatchSpecRow.veiledFits Try.prog Try.f5.params.toList (Try.f5.params.toList ++ Rows.pagesMatchSpecSpec.plain.varTypes Try.prog ++ Try.f5.resultTypes.toList)) = true := by kernel_rfl
theorem jfs : joinedFacts Try.pinned.checked.prog 5 Try.f5 Rows.pagesMatchSpecSpec Rows.pagesMatchSpecRow = true := (jand (jand (jand (jand (jand (jand (jand (jand (jand (jand (jand (jand (jand (jand (jand (jand (jand (jand (jand (jand (jand (jand (jand (jand (jand (jand (jand (jand (jand (jand (jand jf0 jf1) jf2) jf3) jf4) jf5) jf6) jf7) jf8) jf9) jf10) jf11) jf12) jf13) jf14) jf15) jf16) jf17) jf18) jf19) jf20) jf21) jf22) jf23) jf24) jf25) jf26) jf27) jf28) jf29) jf30) jf31)
theorem lawFacts : LawFacts Try.checked Rows.pagesMatchSpecSpec 5 Try.f5 [.int .i64, .prod (.int .i64) (.prod .bool (.prod .str (.prod (.int .i64) (.prod .bool (.prod (.slice (.int .u8)) .unit))))), .slice (.int .u8)] [3, 37, 22] 4 where
  own := by kernel_rfl
  laid := by kernel_rfl
  noInit := by kernel_rfl
  func := by kernel_rfl
  vars := rfl
  params := by kernel_rfl
  opens := by kernel_rfl
  rowed := by kernel_rfl
  res := by kernel_rfl
  bool := by kernel_rfl
  spec := fun H ds h => by
    match ds, h with
    | [d0, d1, d2], _ => rfl
theorem lifted (os : Os) (started : os.Started) (H : Type) (enc : TypeId × Value → H) :
    ReturnsInHanded {} Try.checked os 5 .any (Rows.pagesMatchSpecSpec.pre6 enc Try.prog Try.f5 Rows.pagesMatchSpecRow.domain false) (Rows.pagesMatchSpecSpec.post enc Try.prog Try.f5 false true false false) :=
  lifted_of lawFacts ttok fok pure started
    (ChangeSpec.witness6 (enc := enc) (C := Try.checked) false ⟨#[], #[.int .i64 0, .agg #[.int .i64 0, .bool false, .string ⟨#[]⟩, .int .i64 0, .bool false, .slice none 0 0], .slice none 0 0], []⟩ 8 (by kernel_rfl) (by kernel_rfl) (by kernel_rfl) (by kernel_rfl))
theorem over : Rows.pagesMatchSpecRow.holds Try.pinned (OpenSpec.ofChange Rows.pagesMatchSpecSpec) :=
  OpenClaim.holds_of_wide 5 Try.f5 rfl rfl rfl rfl rfl rfl rfl ⟨rfl, rfl, rfl, rfl, rfl⟩ rfl rfl rfl rfl rfl (by kernel_rfl) Try.func5 jfs
    (of_decide_eq_true (by kernel_rfl)) (by unfold Func.isWrapper; first | (rw [if_pos (by decide +kernel)]; kernel_rfl) | (rw [if_neg (by decide +kernel)]; exact ⟨rfl, rfl⟩))
    (fun os started H enc _ => lifted os started H enc)
end Go.Proofs.Ytecnlienmpdlaaa.PM
namespace Go.Proofs.Ytecnlienmpdlaaa
/-- The row, under a short name, for the claim. -/
theorem pagesMatchSpec_holds : Rows.PagesMatchSpecSaid := PM.over
#print axioms pagesMatchSpec_holds
end Go.Proofs.Ytecnlienmpdlaaa
