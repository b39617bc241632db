/- With beats enough that lose nothing all is taken, in as many as Needed says: CommandAllIsTaken returns true and leaves its arguments as they were. No condition. -/
import Derived.Test.YtadkplikobhckaaPuAll
import Derived.Test.YtadkplikobhckaaPmRow
import Derived.Test.YtadkplikobhckaaRows
import Derived.Test.YtadkplikobhckaaJfLib
namespace Go.Proofs.Ytadkplikobhckaa.PM
open Go
set_option maxRecDepth 100000
theorem jand {a b : Bool} (h1 : a = true) (h2 : b = true) : (a && b) = true := by rw [h1, h2]; rfl
theorem jf0 : (Rows.commandAllIsTakenRow.wf (OpenSpec.ofChange Rows.commandAllIsTakenSpec)) = true := by kernel_rfl
theorem jf1 : (laidOutB Try.prog) = true := by kernel_rfl
theorem jf2 : (mapsRowed Try.prog) = true := by kernel_rfl
theorem jf3 : (Try.f11.params.all (Try.prog.readableRec ·)) = true := by kernel_rfl
theorem jf4 : (namedTie Try.prog Rows.commandAllIsTakenRow.named Rows.commandAllIsTakenSpec.vars) = true := by kernel_rfl
theorem jf5 : ((Rows.commandAllIsTakenRow.stops == [])) = true := by kernel_rfl
theorem jf6 : ((Try.prog.stops == [])) = true := by kernel_rfl
theorem jf7 : ((Rows.commandAllIsTakenRow.knobs == [])) = true := by kernel_rfl
theorem jf8 : ((Try.prog.stopKnobs == [])) = true := by kernel_rfl
theorem jf9 : ((Rows.commandAllIsTakenRow.inPlace == Try.prog.inPlace 11)) = true := by kernel_rfl
theorem jf10 : ((Rows.commandAllIsTakenRow.unfollowed == Try.prog.unfollowed 11)) = true := by kernel_rfl
theorem jf11 : ((Rows.commandAllIsTakenRow.recurses == Try.prog.recurses 11)) = true := by kernel_rfl
theorem jf12 : ((Rows.commandAllIsTakenRow.named == Try.prog.varsNamed 11)) = true := by kernel_rfl
theorem jf13 : ((Rows.commandAllIsTakenRow.maps == (Try.f11.params.toList ++ Rows.commandAllIsTakenSpec.plain.varTypes Try.prog).any (Try.prog.mapsRec ·))) = true := by kernel_rfl
theorem jf14 : ((Rows.commandAllIsTakenRow.ifaces == (Try.f11.params.toList ++ Rows.commandAllIsTakenSpec.plain.varTypes Try.prog).any (Try.prog.ifacesRec ·))) = true := by kernel_rfl
theorem jf15 : ((Rows.commandAllIsTakenRow.mapsOut == Try.prog.mapsAmong Try.f11.resultTypes.toList)) = true := by kernel_rfl
theorem jf16 : ((Rows.commandAllIsTakenRow.loops == (Try.f11.params.toList ++ Rows.commandAllIsTakenSpec.plain.varTypes Try.prog).any (Try.prog.loopsFrom ·))) = true := by kernel_rfl
theorem jf17 : ((Rows.commandAllIsTakenRow.wideKeys == (Try.f11.params.toList ++ Rows.commandAllIsTakenSpec.plain.varTypes Try.prog ++ Try.f11.resultTypes.toList).any (Try.prog.wideKeysFrom ·))) = true := by kernel_rfl
theorem jf18 : (Rows.commandAllIsTakenSpec.vars.all (Try.prog.varReadable ·)) = true := by kernel_rfl
theorem jf19 : (Try.f11.resultTypes.all (fun t => Try.prog.readableRec t && decide (t < Try.prog.types.size))) = true := by kernel_rfl
theorem jf20 : ((Rows.commandAllIsTakenRow.ifacesOut == Try.f11.resultTypes.toList.any (Try.prog.ifacesRec ·))) = true := by kernel_rfl
theorem jf21 : ((Rows.commandAllIsTakenRow.loopsOut == Try.f11.resultTypes.toList.any (Try.prog.loopsFrom ·))) = true := by kernel_rfl
theorem jf22 : ((Rows.commandAllIsTakenRow.plainKeys == Try.prog.plainKeys)) = true := by kernel_rfl
theorem jf23 : (Rows.commandAllIsTakenRow.shortTexts.isNone) = true := by kernel_rfl
theorem jf24 : (Try.prog.stopsHeard) = true := by kernel_rfl
theorem jf25 : (Try.prog.mayEnter) = true := jl25
theorem jf26 : ((Rows.commandAllIsTakenRow.lifted == Try.prog.liftsFinal)) = true := jl26
theorem jf27 : ((Try.prog.make == some Rows.commandAllIsTakenRow.make)) = true := jl27
theorem jf28 : ((Rows.commandAllIsTakenRow.kinds == (if Rows.commandAllIsTakenRow.domain.isEmpty then [] else Try.f11.params.toList.map fun t => match Try.prog.underlying t with | some (.int k) => some k | _ => none))) = true := by kernel_rfl
theorem jf29 : ((Rows.commandAllIsTakenRow.pinned == Rows.commandAllIsTakenRow.pinnedBy)) = true := by kernel_rfl
theorem jf30 : ((Rows.commandAllIsTakenRow.veiled == (Try.f11.params.toList ++ Rows.commandAllIsTakenSpec.plain.varTypes Try.prog ++ Try.f11.resultTypes.toList).any (Try.prog.veiledRec ·))) = true := by kernel_rfl
theorem jf31 : (Rows.commandAllIsTakenRow.veiledFits Try.prog Try.f11.params.toList (Try.f11.params.toList ++ Rows.commandAllIsTakenSpec.plain.varTypes Try.prog ++ Try.f11.resultTypes.toList)) = true := by kernel_rfl
theorem jfs : joinedFacts Try.pinned.checked.prog 11 Try.f11 Rows.commandAllIsTakenSpec Rows.commandAllIsTakenRow = true := (jand (jand (jand (jand (jand (jand (jand (jand (jand (jand (jand (jand (jand (jand (jand (jand (jand (jand (jand (jand (jand (jand (jand (jand (jand (jand (jand (jand (jand (jand (jand jf0 jf1) jf2) jf3) jf4) jf5) jf6) jf7) jf8) jf9) jf10) jf11) jf12) jf13) jf14) jf15) jf16) jf17) jf18) jf19) jf20) jf21) jf22) jf23) jf24) jf25) jf26) jf27) jf28) jf29) jf30) jf31)
theorem lawFacts : LawFacts Try.checked Rows.commandAllIsTakenSpec 11 Try.f11 [.int .i64, .int .i64, .slice (.slice (.int .u8)), .int .i64] [3, 3, 49, 3] 4 where
  own := by kernel_rfl
  laid := by kernel_rfl
  noInit := by kernel_rfl
  func := by kernel_rfl
  vars := rfl
  params := by kernel_rfl
  opens := by kernel_rfl
  rowed := by kernel_rfl
  res := by kernel_rfl
  bool := by kernel_rfl
  spec := fun H ds h => by
    match ds, h with
    | [d0, d1, d2, d3], _ => rfl
theorem lifted (os : Os) (started : os.Started) (H : Type) (enc : TypeId × Value → H) :
    ReturnsInHanded {} Try.checked os 11 .any (Rows.commandAllIsTakenSpec.pre6 enc Try.prog Try.f11 Rows.commandAllIsTakenRow.domain false) (Rows.commandAllIsTakenSpec.post enc Try.prog Try.f11 false true false false) :=
  lifted_of lawFacts ttok fok pure started
    (ChangeSpec.witness6 (enc := enc) (C := Try.checked) false ⟨#[], #[.int .i64 0, .int .i64 0, .slice none 0 0, .int .i64 0], []⟩ 8 (by kernel_rfl) (by kernel_rfl) (by kernel_rfl) (by kernel_rfl))
theorem over : Rows.commandAllIsTakenRow.holds Try.pinned (OpenSpec.ofChange Rows.commandAllIsTakenSpec) :=
  OpenClaim.holds_of_wide 11 Try.f11 rfl rfl rfl rfl rfl rfl rfl ⟨rfl, rfl, rfl, rfl, rfl⟩ rfl rfl rfl rfl rfl (by kernel_rfl) Try.func11 jfs
    (of_decide_eq_true (by kernel_rfl)) (by unfold Func.isWrapper; first | (rw [if_pos (by decide +kernel)]; kernel_rfl) | (rw [if_neg (by decide +kernel)]; exact ⟨rfl, rfl⟩))
    (fun os started H enc _ => lifted os started H enc)
end Go.Proofs.Ytadkplikobhckaa.PM
namespace Go.Proofs.Ytadkplikobhckaa
/-- The row, under a short name, for the claim. -/
theorem commandAllIsTaken_holds : Rows.CommandAllIsTakenSaid := PM.over
#print axioms commandAllIsTaken_holds
end Go.Proofs.Ytadkplikobhckaa
