/- For all sizes, all bad blocks and all bytes Format and Sum are as the reference says, with all faults: FormatsMatchSpec returns true and leaves its arguments as they were. No condition. -/
import Derived.Test.YtecnlienmpdlaaaPuFormats
import Derived.Test.YtecnlienmpdlaaaPmRow
import Derived.Test.YtecnlienmpdlaaaRows
import Derived.Test.YtecnlienmpdlaaaJfLib
namespace Go.Proofs.Ytecnlienmpdlaaa.PM
open Go
set_option maxRecDepth 100000
theorem jand {a b : Bool} (h1 : a = true) (h2 : b = true) : (a && b) = true := by rw [h1, h2]; rfl
theorem jf0 : (Rows.formatsMatchSpecRow.wf (OpenSpec.ofChange Rows.formatsMatchSpecSpec)) = true := by kernel_rfl
theorem jf1 : (laidOutB Try.prog) = true := by kernel_rfl
theorem jf2 : (mapsRowed Try.prog) = true := by kernel_rfl
theorem jf3 : (Try.f4.params.all (Try.prog.readableRec ·)) = true := by kernel_rfl
theorem jf4 : (namedTie Try.prog Rows.formatsMatchSpecRow.named Rows.formatsMatchSpecSpec.vars) = true := by kernel_rfl
theorem jf5 : ((Rows.formatsMatchSpecRow.stops == [])) = true := by kernel_rfl
theorem jf6 : ((Try.prog.stops == [])) = true := by kernel_rfl
theorem jf7 : ((Rows.formatsMatchSpecRow.knobs == [])) = true := by kernel_rfl
theorem jf8 : ((Try.prog.stopKnobs == [])) = true := by kernel_rfl
theorem jf9 : ((Rows.formatsMatchSpecRow.inPlace == Try.prog.inPlace 4)) = true := by kernel_rfl
theorem jf10 : ((Rows.formatsMatchSpecRow.unfollowed == Try.prog.unfollowed 4)) = true := by kernel_rfl
theorem jf11 : ((Rows.formatsMatchSpecRow.recurses == Try.prog.recurses 4)) = true := by kernel_rfl
theorem jf12 : ((Rows.formatsMatchSpecRow.named == Try.prog.varsNamed 4)) = true := by kernel_rfl
theorem jf13 : ((Rows.formatsMatchSpecRow.maps == (Try.f4.params.toList ++ Rows.formatsMatchSpecSpec.plain.varTypes Try.prog).any (Try.prog.mapsRec ·))) = true := by kernel_rfl
theorem jf14 : ((Rows.formatsMatchSpecRow.ifaces == (Try.f4.params.toList ++ Rows.formatsMatchSpecSpec.plain.varTypes Try.prog).any (Try.prog.ifacesRec ·))) = true := by kernel_rfl
theorem jf15 : ((Rows.formatsMatchSpecRow.mapsOut == Try.prog.mapsAmong Try.f4.resultTypes.toList)) = true := by kernel_rfl
theorem jf16 : ((Rows.formatsMatchSpecRow.loops == (Try.f4.params.toList ++ Rows.formatsMatchSpecSpec.plain.varTypes Try.prog).any (Try.prog.loopsFrom ·))) = true := by kernel_rfl
theorem jf17 : ((Rows.formatsMatchSpecRow.wideKeys == (Try.f4.params.toList ++ Rows.formatsMatchSpecSpec.plain.varTypes Try.prog ++ Try.f4.resultTypes.toList).any (Try.prog.wideKeysFrom ·))) = true := by kernel_rfl
theorem jf18 : (Rows.formatsMatchSpecSpec.vars.all (Try.prog.varReadable ·)) = true := by kernel_rfl
theorem jf19 : (Try.f4.resultTypes.all (fun t => Try.prog.readableRec t && decide (t < Try.prog.types.size))) = true := by kernel_rfl
theorem jf20 : ((Rows.formatsMatchSpecRow.ifacesOut == Try.f4.resultTypes.toList.any (Try.prog.ifacesRec ·))) = true := by kernel_rfl
theorem jf21 : ((Rows.formatsMatchSpecRow.loopsOut == Try.f4.resultTypes.toList.any (Try.prog.loopsFrom ·))) = true := by kernel_rfl
theorem jf22 : ((Rows.formatsMatchSpecRow.plainKeys == Try.prog.plainKeys)) = true := by kernel_rfl
theorem jf23 : (Rows.formatsMatchSpecRow.shortTexts.isNone) = true := by kernel_rfl
theorem jf24 : (Try.prog.stopsHeard) = true := by kernel_rfl
theorem jf25 : (Try.prog.mayEnter) = true := jl25
theorem jf26 : ((Rows.formatsMatchSpecRow.lifted == Try.prog.liftsFinal)) = true := jl26
theorem jf27 : ((Try.prog.make == some Rows.formatsMatchSpecRow.make)) = true := jl27
theorem jf28 : ((Rows.formatsMatchSpecRow.kinds == (if Rows.formatsMatchSpecRow.domain.isEmpty then [] else Try.f4.params.toList.map fun t => match Try.prog.underlying t with | some (.int k) => some k | _ => none))) = true := by kernel_rfl
theorem jf29 : ((Rows.formatsMatchSpecRow.pinned == Rows.formatsMatchSpecRow.pinnedBy)) = true := by kernel_rfl
theorem jf30 : ((Rows.formatsMatchSpecRow.veiled == (Try.f4.params.toList ++ Rows.formatsMatchSpecSpec.plain.varTypes Try.prog ++ Try.f4.resultTypes.toList).any (Try.prog.veiledRec ·))) = true := by kernel_rfl
theorem jf31 : (Rows.formatsMatchSpecRow.veiledFits Try.prog Try.f4.params.toList (Try.f4.params.toList ++ Rows.formatsMatchSpecSpec.plain.varTypes Try.prog ++ Try.f4.resultTypes.toList)) = true := by kernel_rfl
theorem jfs : joinedFacts Try.pinned.checked.prog 4 Try.f4 Rows.formatsMatchSpecSpec Rows.formatsMatchSpecRow = true := (jand (jand (jand (jand (jand (jand (jand (jand (jand (jand (jand (jand (jand (jand (jand (jand (jand (jand (jand (jand (jand (jand (jand (jand (jand (jand (jand (jand (jand (jand (jand jf0 jf1) jf2) jf3) jf4) jf5) jf6) jf7) jf8) jf9) jf10) jf11) jf12) jf13) jf14) jf15) jf16) jf17) jf18) jf19) jf20) jf21) jf22) jf23) jf24) jf25) jf26) jf27) jf28) jf29) jf30) jf31)
theorem lawFacts : LawFacts Try.checked Rows.formatsMatchSpecSpec 4 Try.f4 [.int .i64, .int .i64, .int .i64, .slice (.int .i64), .slice (.int .u8)] [3, 3, 3, 23, 22] 4 where
  own := by kernel_rfl
  laid := by kernel_rfl
  noInit := by kernel_rfl
  func := by kernel_rfl
  vars := rfl
  params := by kernel_rfl
  opens := by kernel_rfl
  rowed := by kernel_rfl
  res := by kernel_rfl
  bool := by kernel_rfl
  spec := fun H ds h => by
    match ds, h with
    | [d0, d1, d2, d3, d4], _ => rfl
theorem lifted (os : Os) (started : os.Started) (H : Type) (enc : TypeId × Value → H) :
    ReturnsInHanded {} Try.checked os 4 .any (Rows.formatsMatchSpecSpec.pre6 enc Try.prog Try.f4 Rows.formatsMatchSpecRow.domain false) (Rows.formatsMatchSpecSpec.post enc Try.prog Try.f4 false true false false) :=
  lifted_of lawFacts ttok fok pure started
    (ChangeSpec.witness6 (enc := enc) (C := Try.checked) false ⟨#[], #[.int .i64 0, .int .i64 0, .int .i64 0, .slice none 0 0, .slice none 0 0], []⟩ 8 (by kernel_rfl) (by kernel_rfl) (by kernel_rfl) (by kernel_rfl))
theorem over : Rows.formatsMatchSpecRow.holds Try.pinned (OpenSpec.ofChange Rows.formatsMatchSpecSpec) :=
  OpenClaim.holds_of_wide 4 Try.f4 rfl rfl rfl rfl rfl rfl rfl ⟨rfl, rfl, rfl, rfl, rfl⟩ rfl rfl rfl rfl rfl (by kernel_rfl) Try.func4 jfs
    (of_decide_eq_true (by kernel_rfl)) (by unfold Func.isWrapper; first | (rw [if_pos (by decide +kernel)]; kernel_rfl) | (rw [if_neg (by decide +kernel)]; exact ⟨rfl, rfl⟩))
    (fun os started H enc _ => lifted os started H enc)
end Go.Proofs.Ytecnlienmpdlaaa.PM
namespace Go.Proofs.Ytecnlienmpdlaaa
/-- The row, under a short name, for the claim. -/
theorem formatsMatchSpec_holds : Rows.FormatsMatchSpecSaid := PM.over
#print axioms formatsMatchSpec_holds
end Go.Proofs.Ytecnlienmpdlaaa
