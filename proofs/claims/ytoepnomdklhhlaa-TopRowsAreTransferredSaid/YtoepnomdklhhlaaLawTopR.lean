/- A row of values that is squeezed, transferred over a line with losses, and spread, is the row, if the transfer ends well: TopRowsAreTransferred returns true and leaves its arguments as they were. No condition. -/
import Derived.Test.YtoepnomdklhhlaaPuTopR
import Derived.Test.YtoepnomdklhhlaaPmRow
import Derived.Test.YtoepnomdklhhlaaRows
import Derived.Test.YtoepnomdklhhlaaJfLib
namespace Go.Proofs.Ytoepnomdklhhlaa.PM
open Go
set_option maxRecDepth 100000
theorem jand {a b : Bool} (h1 : a = true) (h2 : b = true) : (a && b) = true := by rw [h1, h2]; rfl
theorem jf0 : (Rows.topRowsAreTransferredRow.wf (OpenSpec.ofChange Rows.topRowsAreTransferredSpec)) = true := by kernel_rfl
theorem jf1 : (laidOutB Try.prog) = true := by kernel_rfl
theorem jf2 : (mapsRowed Try.prog) = true := by kernel_rfl
theorem jf3 : (Try.f3.params.all (Try.prog.readableRec ·)) = true := by kernel_rfl
theorem jf4 : (namedTie Try.prog Rows.topRowsAreTransferredRow.named Rows.topRowsAreTransferredSpec.vars) = true := by kernel_rfl
theorem jf5 : ((Rows.topRowsAreTransferredRow.stops == [])) = true := by kernel_rfl
theorem jf6 : ((Try.prog.stops == [])) = true := by kernel_rfl
theorem jf7 : ((Rows.topRowsAreTransferredRow.knobs == [])) = true := by kernel_rfl
theorem jf8 : ((Try.prog.stopKnobs == [])) = true := by kernel_rfl
theorem jf9 : ((Rows.topRowsAreTransferredRow.inPlace == Try.prog.inPlace 3)) = true := by kernel_rfl
theorem jf10 : ((Rows.topRowsAreTransferredRow.unfollowed == Try.prog.unfollowed 3)) = true := by kernel_rfl
theorem jf11 : ((Rows.topRowsAreTransferredRow.recurses == Try.prog.recurses 3)) = true := by kernel_rfl
theorem jf12 : ((Rows.topRowsAreTransferredRow.named == Try.prog.varsNamed 3)) = true := by kernel_rfl
theorem jf13 : ((Rows.topRowsAreTransferredRow.maps == (Try.f3.params.toList ++ Rows.topRowsAreTransferredSpec.plain.varTypes Try.prog).any (Try.prog.mapsRec ·))) = true := by kernel_rfl
theorem jf14 : ((Rows.topRowsAreTransferredRow.ifaces == (Try.f3.params.toList ++ Rows.topRowsAreTransferredSpec.plain.varTypes Try.prog).any (Try.prog.ifacesRec ·))) = true := by kernel_rfl
theorem jf15 : ((Rows.topRowsAreTransferredRow.mapsOut == Try.prog.mapsAmong Try.f3.resultTypes.toList)) = true := by kernel_rfl
theorem jf16 : ((Rows.topRowsAreTransferredRow.loops == (Try.f3.params.toList ++ Rows.topRowsAreTransferredSpec.plain.varTypes Try.prog).any (Try.prog.loopsFrom ·))) = true := by kernel_rfl
theorem jf17 : ((Rows.topRowsAreTransferredRow.wideKeys == (Try.f3.params.toList ++ Rows.topRowsAreTransferredSpec.plain.varTypes Try.prog ++ Try.f3.resultTypes.toList).any (Try.prog.wideKeysFrom ·))) = true := by kernel_rfl
theorem jf18 : (Rows.topRowsAreTransferredSpec.vars.all (Try.prog.varReadable ·)) = true := by kernel_rfl
theorem jf19 : (Try.f3.resultTypes.all (fun t => Try.prog.readableRec t && decide (t < Try.prog.types.size))) = true := by kernel_rfl
theorem jf20 : ((Rows.topRowsAreTransferredRow.ifacesOut == Try.f3.resultTypes.toList.any (Try.prog.ifacesRec ·))) = true := by kernel_rfl
theorem jf21 : ((Rows.topRowsAreTransferredRow.loopsOut == Try.f3.resultTypes.toList.any (Try.prog.loopsFrom ·))) = true := by kernel_rfl
theorem jf22 : ((Rows.topRowsAreTransferredRow.plainKeys == Try.prog.plainKeys)) = true := by kernel_rfl
theorem jf23 : (Rows.topRowsAreTransferredRow.shortTexts.isNone) = true := by kernel_rfl
theorem jf24 : (Try.prog.stopsHeard) = true := by kernel_rfl
theorem jf25 : (Try.prog.mayEnter) = true := jl25
theorem jf26 : ((Rows.topRowsAreTransferredRow.lifted == Try.prog.liftsFinal)) = true := jl26
theorem jf27 : ((Try.prog.make == some Rows.topRowsAreTransferredRow.make)) = true := jl27
theorem jf28 : ((Rows.topRowsAreTransferredRow.kinds == (if Rows.topRowsAreTransferredRow.domain.isEmpty then [] else Try.f3.params.toList.map fun t => match Try.prog.underlying t with | some (.int k) => some k | _ => none))) = true := by kernel_rfl
theorem jf29 : ((Rows.topRowsAreTransferredRow.pinned == Rows.topRowsAreTransferredRow.pinnedBy)) = true := by kernel_rfl
theorem jf30 : ((Rows.topRowsAreTransferredRow.veiled == (Try.f3.params.toList ++ Rows.topRowsAreTransferredSpec.plain.varTypes Try.prog ++ Try.f3.resultTypes.toList).any (Try.prog.veiledRec ·))) = true := by kernel_rfl
theorem jf31 : (Rows.topRowsAreTransferredRow.veiledFits Try.prog Try.f3.params.toList (Try.f3.params.toList ++ Rows.topRowsAreTransferredSpec.plain.varTypes Try.prog ++ Try.f3.resultTypes.toList)) = true := by kernel_rfl
theorem jfs : joinedFacts Try.pinned.checked.prog 3 Try.f3 Rows.topRowsAreTransferredSpec Rows.topRowsAreTransferredRow = true := (jand (jand (jand (jand (jand (jand (jand (jand (jand (jand (jand (jand (jand (jand (jand (jand (jand (jand (jand (jand (jand (jand (jand (jand (jand (jand (jand (jand (jand (jand (jand jf0 jf1) jf2) jf3) jf4) jf5) jf6) jf7) jf8) jf9) jf10) jf11) jf12) jf13) jf14) jf15) jf16) jf17) jf18) jf19) jf20) jf21) jf22) jf23) jf24) jf25) jf26) jf27) jf28) jf29) jf30) jf31)
theorem lawFacts : LawFacts Try.checked Rows.topRowsAreTransferredSpec 3 Try.f3 [.prod (.int .i64) (.prod (.int .i64) (.prod (.int .i64) (.prod (.int .i64) (.prod (.int .i64) .unit)))), .slice (.int .i64), .slice .bool, .slice .bool] [23, 24, 25, 25] 4 where
 own := by kernel_rfl
 laid := by kernel_rfl
 noInit := by kernel_rfl
 func := by kernel_rfl
 vars := rfl
 params := by kernel_rfl
 opens := by kernel_rfl
 rowed := by kernel_rfl
 res := by kernel_rfl
 bool := by kernel_rfl
 spec := fun H ds h => by
  match ds, h with
  | [d0, d1, d2, d3], _ => rfl
theorem lifted (os : Os) (started : os.Started) (H : Type) (enc : TypeId × Value → H) :
  ReturnsInHanded {} Try.checked os 3 .any (Rows.topRowsAreTransferredSpec.pre6 enc Try.prog Try.f3 Rows.topRowsAreTransferredRow.domain false) (Rows.topRowsAreTransferredSpec.post enc Try.prog Try.f3 false true false false) :=
 lifted_of lawFacts ttok fok pure started
  (ChangeSpec.witness6 (enc := enc) (C := Try.checked) false ⟨#[], #[.agg #[.int .i64 0, .int .i64 0, .int .i64 0, .int .i64 0, .int .i64 0], .slice none 0 0, .slice none 0 0, .slice none 0 0], []⟩ 8 (by kernel_rfl) (by kernel_rfl) (by kernel_rfl) (by kernel_rfl))
theorem over : Rows.topRowsAreTransferredRow.holds Try.pinned (OpenSpec.ofChange Rows.topRowsAreTransferredSpec) :=
 OpenClaim.holds_of_wide 3 Try.f3 rfl rfl rfl rfl rfl rfl rfl ⟨rfl, rfl, rfl, rfl, rfl⟩ rfl rfl rfl rfl rfl (by kernel_rfl) Try.func3 jfs
  (of_decide_eq_true (by kernel_rfl)) (by unfold Func.isWrapper; first | (rw [if_pos (by decide +kernel)]; kernel_rfl) | (rw [if_neg (by decide +kernel)]; exact ⟨rfl, rfl⟩))
  (fun os started H enc _ => lifted os started H enc)
end Go.Proofs.Ytoepnomdklhhlaa.PM
namespace Go.Proofs.Ytoepnomdklhhlaa
/-- The row, under a short name, for the claim. -/
theorem topRowsAreTransferred_holds : Rows.TopRowsAreTransferredSaid := PM.over
#print axioms topRowsAreTransferred_holds
end Go.Proofs.Ytoepnomdklhhlaa
