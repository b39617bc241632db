/- A signed command is opened, with its body and its counter, if this may come, and never again: CommandSignedIsOpenedOnce returns true and leaves its arguments as they were. No condition. -/
import Derived.Test.YtadkplikobhckaaPuSigned1
import Derived.Test.YtadkplikobhckaaPmRow
import Derived.Test.YtadkplikobhckaaRows
import Derived.Test.YtadkplikobhckaaJfLib
namespace Go.Proofs.Ytadkplikobhckaa.PM
open Go
set_option maxRecDepth 100000
theorem jand {a b : Bool} (h1 : a = true) (h2 : b = true) : (a && b) = true := by rw [h1, h2]; rfl
theorem jf0 : (Rows.commandSignedIsOpenedOnceRow.wf (OpenSpec.ofChange Rows.commandSignedIsOpenedOnceSpec)) = true := by kernel_rfl
theorem jf1 : (laidOutB Try.prog) = true := by kernel_rfl
theorem jf2 : (mapsRowed Try.prog) = true := by kernel_rfl
theorem jf3 : (Try.f12.params.all (Try.prog.readableRec ·)) = true := by kernel_rfl
theorem jf4 : (namedTie Try.prog Rows.commandSignedIsOpenedOnceRow.named Rows.commandSignedIsOpenedOnceSpec.vars) = true := by kernel_rfl
theorem jf5 : ((Rows.commandSignedIsOpenedOnceRow.stops == [])) = true := by kernel_rfl
theorem jf6 : ((Try.prog.stops == [])) = true := by kernel_rfl
theorem jf7 : ((Rows.commandSignedIsOpenedOnceRow.knobs == [])) = true := by kernel_rfl
theorem jf8 : ((Try.prog.stopKnobs == [])) = true := by kernel_rfl
theorem jf9 : ((Rows.commandSignedIsOpenedOnceRow.inPlace == Try.prog.inPlace 12)) = true := by kernel_rfl
theorem jf10 : ((Rows.commandSignedIsOpenedOnceRow.unfollowed == Try.prog.unfollowed 12)) = true := by kernel_rfl
theorem jf11 : ((Rows.commandSignedIsOpenedOnceRow.recurses == Try.prog.recurses 12)) = true := by kernel_rfl
theorem jf12 : ((Rows.commandSignedIsOpenedOnceRow.named == Try.prog.varsNamed 12)) = true := by kernel_rfl
theorem jf13 : ((Rows.commandSignedIsOpenedOnceRow.maps == (Try.f12.params.toList ++ Rows.commandSignedIsOpenedOnceSpec.plain.varTypes Try.prog).any (Try.prog.mapsRec ·))) = true := by kernel_rfl
theorem jf14 : ((Rows.commandSignedIsOpenedOnceRow.ifaces == (Try.f12.params.toList ++ Rows.commandSignedIsOpenedOnceSpec.plain.varTypes Try.prog).any (Try.prog.ifacesRec ·))) = true := by kernel_rfl
theorem jf15 : ((Rows.commandSignedIsOpenedOnceRow.mapsOut == Try.prog.mapsAmong Try.f12.resultTypes.toList)) = true := by kernel_rfl
theorem jf16 : ((Rows.commandSignedIsOpenedOnceRow.loops == (Try.f12.params.toList ++ Rows.commandSignedIsOpenedOnceSpec.plain.varTypes Try.prog).any (Try.prog.loopsFrom ·))) = true := by kernel_rfl
theorem jf17 : ((Rows.commandSignedIsOpenedOnceRow.wideKeys == (Try.f12.params.toList ++ Rows.commandSignedIsOpenedOnceSpec.plain.varTypes Try.prog ++ Try.f12.resultTypes.toList).any (Try.prog.wideKeysFrom ·))) = true := by kernel_rfl
theorem jf18 : (Rows.commandSignedIsOpenedOnceSpec.vars.all (Try.prog.varReadable ·)) = true := by kernel_rfl
theorem jf19 : (Try.f12.resultTypes.all (fun t => Try.prog.readableRec t && decide (t < Try.prog.types.size))) = true := by kernel_rfl
theorem jf20 : ((Rows.commandSignedIsOpenedOnceRow.ifacesOut == Try.f12.resultTypes.toList.any (Try.prog.ifacesRec ·))) = true := by kernel_rfl
theorem jf21 : ((Rows.commandSignedIsOpenedOnceRow.loopsOut == Try.f12.resultTypes.toList.any (Try.prog.loopsFrom ·))) = true := by kernel_rfl
theorem jf22 : ((Rows.commandSignedIsOpenedOnceRow.plainKeys == Try.prog.plainKeys)) = true := by kernel_rfl
theorem jf23 : (Rows.commandSignedIsOpenedOnceRow.shortTexts.isNone) = true := by kernel_rfl
theorem jf24 : (Try.prog.stopsHeard) = true := by kernel_rfl
theorem jf25 : (Try.prog.mayEnter) = true := jl25
theorem jf26 : ((Rows.commandSignedIsOpenedOnceRow.lifted == Try.prog.liftsFinal)) = true := jl26
theorem jf27 : ((Try.prog.make == some Rows.commandSignedIsOpenedOnceRow.make)) = true := jl27
theorem jf28 : ((Rows.commandSignedIsOpenedOnceRow.kinds == (if Rows.commandSignedIsOpenedOnceRow.domain.isEmpty then [] else Try.f12.params.toList.map fun t => match Try.prog.underlying t with | some (.int k) => some k | _ => none))) = true := by kernel_rfl
theorem jf29 : ((Rows.commandSignedIsOpenedOnceRow.pinned == Rows.commandSignedIsOpenedOnceRow.pinnedBy)) = true := by kernel_rfl
theorem jf30 : ((Rows.commandSignedIsOpenedOnceRow.veiled == (Try.f12.params.toList ++ Rows.commandSignedIsOpenedOnceSpec.plain.varTypes Try.prog ++ Try.f12.resultTypes.toList).any (Try.prog.veiledRec ·))) = true := by kernel_rfl
theorem jf31 : (Rows.commandSignedIsOpenedOnceRow.veiledFits Try.prog Try.f12.params.toList (Try.f12.params.toList ++ Rows.commandSignedIsOpenedOnceSpec.plain.varTypes Try.prog ++ Try.f12.resultTypes.toList)) = true := by kernel_rfl
theorem jfs : joinedFacts Try.pinned.checked.prog 12 Try.f12 Rows.commandSignedIsOpenedOnceSpec Rows.commandSignedIsOpenedOnceRow = true := (jand (jand (jand (jand (jand (jand (jand (jand (jand (jand (jand (jand (jand (jand (jand (jand (jand (jand (jand (jand (jand (jand (jand (jand (jand (jand (jand (jand (jand (jand (jand jf0 jf1) jf2) jf3) jf4) jf5) jf6) jf7) jf8) jf9) jf10) jf11) jf12) jf13) jf14) jf15) jf16) jf17) jf18) jf19) jf20) jf21) jf22) jf23) jf24) jf25) jf26) jf27) jf28) jf29) jf30) jf31)
theorem lawFacts : LawFacts Try.checked Rows.commandSignedIsOpenedOnceSpec 12 Try.f12 [.prod (.int .i64) (.prod (.int .i64) (.prod (.slice (.int .i64)) .unit)), .int .i64, .slice (.int .u8)] [75, 3, 22] 4 where
  own := by kernel_rfl
  laid := by kernel_rfl
  noInit := by kernel_rfl
  func := by kernel_rfl
  vars := rfl
  params := by kernel_rfl
  opens := by kernel_rfl
  rowed := by kernel_rfl
  res := by kernel_rfl
  bool := by kernel_rfl
  spec := fun H ds h => by
    match ds, h with
    | [d0, d1, d2], _ => rfl
theorem lifted (os : Os) (started : os.Started) (H : Type) (enc : TypeId × Value → H) :
    ReturnsInHanded {} Try.checked os 12 .any (Rows.commandSignedIsOpenedOnceSpec.pre6 enc Try.prog Try.f12 Rows.commandSignedIsOpenedOnceRow.domain false) (Rows.commandSignedIsOpenedOnceSpec.post enc Try.prog Try.f12 false true false false) :=
  lifted_of lawFacts ttok fok pure started
    (ChangeSpec.witness6 (enc := enc) (C := Try.checked) false ⟨#[], #[.agg #[.int .i64 0, .int .i64 0, .slice none 0 0], .int .i64 0, .slice none 0 0], []⟩ 8 (by kernel_rfl) (by kernel_rfl) (by kernel_rfl) (by kernel_rfl))
theorem over : Rows.commandSignedIsOpenedOnceRow.holds Try.pinned (OpenSpec.ofChange Rows.commandSignedIsOpenedOnceSpec) :=
  OpenClaim.holds_of_wide 12 Try.f12 rfl rfl rfl rfl rfl rfl rfl ⟨rfl, rfl, rfl, rfl, rfl⟩ rfl rfl rfl rfl rfl (by kernel_rfl) Try.func12 jfs
    (of_decide_eq_true (by kernel_rfl)) (by unfold Func.isWrapper; first | (rw [if_pos (by decide +kernel)]; kernel_rfl) | (rw [if_neg (by decide +kernel)]; exact ⟨rfl, rfl⟩))
    (fun os started H enc _ => lifted os started H enc)
end Go.Proofs.Ytadkplikobhckaa.PM
namespace Go.Proofs.Ytadkplikobhckaa
/-- The row, under a short name, for the claim. -/
theorem commandSignedIsOpenedOnce_holds : Rows.CommandSignedIsOpenedOnceSaid := PM.over
#print axioms commandSignedIsOpenedOnce_holds
end Go.Proofs.Ytadkplikobhckaa
