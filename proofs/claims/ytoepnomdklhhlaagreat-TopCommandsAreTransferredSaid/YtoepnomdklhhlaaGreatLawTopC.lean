/- Signed commands, one behind the other in a file that is transferred over a line with losses, are opened once each, if the transfer ends well: TopCommandsAreTransferred returns true and leaves its arguments as they were. No condition. -/
import Derived.Test.YtoepnomdklhhlaaGreatPuTopC
import Derived.Test.YtoepnomdklhhlaaGreatPmRow
import Derived.Test.YtoepnomdklhhlaaGreatRows
import Derived.Test.YtoepnomdklhhlaaGreatJfLib
namespace Go.Proofs.YtoepnomdklhhlaaGreat.PM
open Go
set_option maxRecDepth 100000
theorem jand {a b : Bool} (h1 : a = true) (h2 : b = true) : (a && b) = true := by rw [h1, h2]; rfl
theorem jf0 : (Rows.topCommandsAreTransferredRow.wf (OpenSpec.ofChange Rows.topCommandsAreTransferredSpec)) = true := by kernel_rfl
theorem jf1 : (laidOutB Tryz.prog) = true := by kernel_rfl
theorem jf2 : (mapsRowed Tryz.prog) = true := by kernel_rfl
theorem jf3 : (Tryz.f4.params.all (Tryz.prog.readableRec ·)) = true := by kernel_rfl
theorem jf4 : (namedTie Tryz.prog Rows.topCommandsAreTransferredRow.named Rows.topCommandsAreTransferredSpec.vars) = true := by kernel_rfl
theorem jf5 : ((Rows.topCommandsAreTransferredRow.stops == [])) = true := by kernel_rfl
theorem jf6 : ((Tryz.prog.stops == [])) = true := by kernel_rfl
theorem jf7 : ((Rows.topCommandsAreTransferredRow.knobs == [])) = true := by kernel_rfl
theorem jf8 : ((Tryz.prog.stopKnobs == [])) = true := by kernel_rfl
theorem jf9 : ((Rows.topCommandsAreTransferredRow.inPlace == Tryz.prog.inPlace 4)) = true := by kernel_rfl
theorem jf10 : ((Rows.topCommandsAreTransferredRow.unfollowed == Tryz.prog.unfollowed 4)) = true := by kernel_rfl
theorem jf11 : ((Rows.topCommandsAreTransferredRow.recurses == Tryz.prog.recurses 4)) = true := by kernel_rfl
theorem jf12 : ((Rows.topCommandsAreTransferredRow.named == Tryz.prog.varsNamed 4)) = true := by kernel_rfl
theorem jf13 : ((Rows.topCommandsAreTransferredRow.maps == (Tryz.f4.params.toList ++ Rows.topCommandsAreTransferredSpec.plain.varTypes Tryz.prog).any (Tryz.prog.mapsRec ·))) = true := by kernel_rfl
theorem jf14 : ((Rows.topCommandsAreTransferredRow.ifaces == (Tryz.f4.params.toList ++ Rows.topCommandsAreTransferredSpec.plain.varTypes Tryz.prog).any (Tryz.prog.ifacesRec ·))) = true := by kernel_rfl
theorem jf15 : ((Rows.topCommandsAreTransferredRow.mapsOut == Tryz.prog.mapsAmong Tryz.f4.resultTypes.toList)) = true := by kernel_rfl
theorem jf16 : ((Rows.topCommandsAreTransferredRow.loops == (Tryz.f4.params.toList ++ Rows.topCommandsAreTransferredSpec.plain.varTypes Tryz.prog).any (Tryz.prog.loopsFrom ·))) = true := by kernel_rfl
theorem jf17 : ((Rows.topCommandsAreTransferredRow.wideKeys == (Tryz.f4.params.toList ++ Rows.topCommandsAreTransferredSpec.plain.varTypes Tryz.prog ++ Tryz.f4.resultTypes.toList).any (Tryz.prog.wideKeysFrom ·))) = true := by kernel_rfl
theorem jf18 : (Rows.topCommandsAreTransferredSpec.vars.all (Tryz.prog.varReadable ·)) = true := by kernel_rfl
theorem jf19 : (Tryz.f4.resultTypes.all (fun t => Tryz.prog.readableRec t && decide (t < Tryz.prog.types.size))) = true := by kernel_rfl
theorem jf20 : ((Rows.topCommandsAreTransferredRow.ifacesOut == Tryz.f4.resultTypes.toList.any (Tryz.prog.ifacesRec ·))) = true := by kernel_rfl
theorem jf21 : ((Rows.topCommandsAreTransferredRow.loopsOut == Tryz.f4.resultTypes.toList.any (Tryz.prog.loopsFrom ·))) = true := by kernel_rfl
theorem jf22 : ((Rows.topCommandsAreTransferredRow.plainKeys == Tryz.prog.plainKeys)) = true := by kernel_rfl
theorem jf23 : (Rows.topCommandsAreTransferredRow.shortTexts.isNone) = true := by kernel_rfl
theorem jf24 : (Tryz.prog.stopsHeard) = true := by kernel_rfl
theorem jf25 : (Tryz.prog.mayEnter) = true := jl25
theorem jf26 : ((Rows.topCommandsAreTransferredRow.lifted == Tryz.prog.liftsFinal)) = true := jl26
theorem jf27 : ((Tryz.prog.make == some Rows.topCommandsAreTransferredRow.make)) = true := jl27
theorem jf28 : ((Rows.topCommandsAreTransferredRow.kinds == (if Rows.topCommandsAreTransferredRow.domain.isEmpty then [] else Tryz.f4.params.toList.map fun t => match Tryz.prog.underlying t with | some (.int k) => some k | _ => none))) = true := by kernel_rfl
theorem jf29 : ((Rows.topCommandsAreTransferredRow.pinned == Rows.topCommandsAreTransferredRow.pinnedBy)) = true := by kernel_rfl
theorem jf30 : ((Rows.topCommandsAreTransferredRow.veiled == (Tryz.f4.params.toList ++ Rows.topCommandsAreTransferredSpec.plain.varTypes Tryz.prog ++ Tryz.f4.resultTypes.toList).any (Tryz.prog.veiledRec ·))) = true := by kernel_rfl
theorem jf31 : (Rows.topCommandsAreTransferredRow.veiledFits Tryz.prog Tryz.f4.params.toList (Tryz.f4.params.toList ++ Rows.topCommandsAreTransferredSpec.plain.varTypes Tryz.prog ++ Tryz.f4.resultTypes.toList)) = true := by kernel_rfl
theorem jfs : joinedFacts Tryz.pinned.checked.prog 4 Tryz.f4 Rows.topCommandsAreTransferredSpec Rows.topCommandsAreTransferredRow = true := (jand (jand (jand (jand (jand (jand (jand (jand (jand (jand (jand (jand (jand (jand (jand (jand (jand (jand (jand (jand (jand (jand (jand (jand (jand (jand (jand (jand (jand (jand (jand jf0 jf1) jf2) jf3) jf4) jf5) jf6) jf7) jf8) jf9) jf10) jf11) jf12) jf13) jf14) jf15) jf16) jf17) jf18) jf19) jf20) jf21) jf22) jf23) jf24) jf25) jf26) jf27) jf28) jf29) jf30) jf31)
theorem lawFacts : LawFacts Tryz.checked Rows.topCommandsAreTransferredSpec 4 Tryz.f4 [.prod (.int .i64) (.prod (.int .i64) (.prod (.int .i64) (.prod (.int .i64) (.prod (.int .i64) .unit)))), .int .i64, .slice (.int .i64), .slice .bool, .slice .bool] [27, 3, 23, 28, 28] 4 where
  own := by kernel_rfl
  laid := by kernel_rfl
  noInit := by kernel_rfl
  func := by kernel_rfl
  vars := rfl
  params := by kernel_rfl
  opens := by kernel_rfl
  rowed := by kernel_rfl
  res := by kernel_rfl
  bool := by kernel_rfl
  spec := fun H ds h => by
    match ds, h with
    | [d0, d1, d2, d3, d4], _ => rfl
theorem lifted (os : Os) (started : os.Started) (H : Type) (enc : TypeId × Value → H) :
    ReturnsInHanded {} Tryz.checked os 4 .any (Rows.topCommandsAreTransferredSpec.pre6 enc Tryz.prog Tryz.f4 Rows.topCommandsAreTransferredRow.domain false) (Rows.topCommandsAreTransferredSpec.post enc Tryz.prog Tryz.f4 false true false false) :=
  lifted_of lawFacts ttok fok pure started
    (ChangeSpec.witness6 (enc := enc) (C := Tryz.checked) false ⟨#[], #[.agg #[.int .i64 0, .int .i64 0, .int .i64 0, .int .i64 0, .int .i64 0], .int .i64 0, .slice none 0 0, .slice none 0 0, .slice none 0 0], []⟩ 8 (by kernel_rfl) (by kernel_rfl) (by kernel_rfl) (by kernel_rfl))
theorem over : Rows.topCommandsAreTransferredRow.holds Tryz.pinned (OpenSpec.ofChange Rows.topCommandsAreTransferredSpec) :=
  OpenClaim.holds_of_wide 4 Tryz.f4 rfl rfl rfl rfl rfl rfl rfl ⟨rfl, rfl, rfl, rfl, rfl⟩ rfl rfl rfl rfl rfl (by kernel_rfl) Tryz.func4 jfs
    (of_decide_eq_true (by kernel_rfl)) (by unfold Func.isWrapper; first | (rw [if_pos (by decide +kernel)]; kernel_rfl) | (rw [if_neg (by decide +kernel)]; exact ⟨rfl, rfl⟩))
    (fun os started H enc _ => lifted os started H enc)
end Go.Proofs.YtoepnomdklhhlaaGreat.PM
namespace Go.Proofs.YtoepnomdklhhlaaGreat
/-- The row, under a short name, for the claim. -/
theorem topCommandsAreTransferred_holds : Rows.TopCommandsAreTransferredSaid := PM.over
#print axioms topCommandsAreTransferred_holds
end Go.Proofs.YtoepnomdklhhlaaGreat
