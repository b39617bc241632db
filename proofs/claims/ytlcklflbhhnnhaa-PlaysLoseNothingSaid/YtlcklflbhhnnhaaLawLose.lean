/- Without losses a play is as Least says, if both sides wait long enough and there are ticks enough: PlaysLoseNothing returns true and leaves its arguments as they were. No condition. -/
import Derived.Test.YtlcklflbhhnnhaaPuLose
import Derived.Test.YtlcklflbhhnnhaaPmRow
import Derived.Test.YtlcklflbhhnnhaaRows
import Derived.Test.YtlcklflbhhnnhaaJfLib
namespace Go.Proofs.Ytlcklflbhhnnhaa.PM
open Go
set_option maxRecDepth 100000
theorem jand {a b : Bool} (h1 : a = true) (h2 : b = true) : (a && b) = true := by rw [h1, h2]; rfl
theorem jf0 : (Rows.playsLoseNothingRow.wf (OpenSpec.ofChange Rows.playsLoseNothingSpec)) = true := by kernel_rfl
theorem jf1 : (laidOutB Try.prog) = true := by kernel_rfl
theorem jf2 : (mapsRowed Try.prog) = true := by kernel_rfl
theorem jf3 : (Try.f16.params.all (Try.prog.readableRec ·)) = true := by kernel_rfl
theorem jf4 : (namedTie Try.prog Rows.playsLoseNothingRow.named Rows.playsLoseNothingSpec.vars) = true := by kernel_rfl
theorem jf5 : ((Rows.playsLoseNothingRow.stops == [])) = true := by kernel_rfl
theorem jf6 : ((Try.prog.stops == [])) = true := by kernel_rfl
theorem jf7 : ((Rows.playsLoseNothingRow.knobs == [])) = true := by kernel_rfl
theorem jf8 : ((Try.prog.stopKnobs == [])) = true := by kernel_rfl
theorem jf9 : ((Rows.playsLoseNothingRow.inPlace == Try.prog.inPlace 16)) = true := by kernel_rfl
theorem jf10 : ((Rows.playsLoseNothingRow.unfollowed == Try.prog.unfollowed 16)) = true := by kernel_rfl
theorem jf11 : ((Rows.playsLoseNothingRow.recurses == Try.prog.recurses 16)) = true := by kernel_rfl
theorem jf12 : ((Rows.playsLoseNothingRow.named == Try.prog.varsNamed 16)) = true := by kernel_rfl
theorem jf13 : ((Rows.playsLoseNothingRow.maps == (Try.f16.params.toList ++ Rows.playsLoseNothingSpec.plain.varTypes Try.prog).any (Try.prog.mapsRec ·))) = true := by kernel_rfl
theorem jf14 : ((Rows.playsLoseNothingRow.ifaces == (Try.f16.params.toList ++ Rows.playsLoseNothingSpec.plain.varTypes Try.prog).any (Try.prog.ifacesRec ·))) = true := by kernel_rfl
theorem jf15 : ((Rows.playsLoseNothingRow.mapsOut == Try.prog.mapsAmong Try.f16.resultTypes.toList)) = true := by kernel_rfl
theorem jf16 : ((Rows.playsLoseNothingRow.loops == (Try.f16.params.toList ++ Rows.playsLoseNothingSpec.plain.varTypes Try.prog).any (Try.prog.loopsFrom ·))) = true := by kernel_rfl
theorem jf17 : ((Rows.playsLoseNothingRow.wideKeys == (Try.f16.params.toList ++ Rows.playsLoseNothingSpec.plain.varTypes Try.prog ++ Try.f16.resultTypes.toList).any (Try.prog.wideKeysFrom ·))) = true := by kernel_rfl
theorem jf18 : (Rows.playsLoseNothingSpec.vars.all (Try.prog.varReadable ·)) = true := by kernel_rfl
theorem jf19 : (Try.f16.resultTypes.all (fun t => Try.prog.readableRec t && decide (t < Try.prog.types.size))) = true := by kernel_rfl
theorem jf20 : ((Rows.playsLoseNothingRow.ifacesOut == Try.f16.resultTypes.toList.any (Try.prog.ifacesRec ·))) = true := by kernel_rfl
theorem jf21 : ((Rows.playsLoseNothingRow.loopsOut == Try.f16.resultTypes.toList.any (Try.prog.loopsFrom ·))) = true := by kernel_rfl
theorem jf22 : ((Rows.playsLoseNothingRow.plainKeys == Try.prog.plainKeys)) = true := by kernel_rfl
theorem jf23 : (Rows.playsLoseNothingRow.shortTexts.isNone) = true := by kernel_rfl
theorem jf24 : (Try.prog.stopsHeard) = true := by kernel_rfl
theorem jf25 : (Try.prog.mayEnter) = true := jl25
theorem jf26 : ((Rows.playsLoseNothingRow.lifted == Try.prog.liftsFinal)) = true := jl26
theorem jf27 : ((Try.prog.make == some Rows.playsLoseNothingRow.make)) = true := jl27
theorem jf28 : ((Rows.playsLoseNothingRow.kinds == (if Rows.playsLoseNothingRow.domain.isEmpty then [] else Try.f16.params.toList.map fun t => match Try.prog.underlying t with | some (.int k) => some k | _ => none))) = true := by kernel_rfl
theorem jf29 : ((Rows.playsLoseNothingRow.pinned == Rows.playsLoseNothingRow.pinnedBy)) = true := by kernel_rfl
theorem jf30 : ((Rows.playsLoseNothingRow.veiled == (Try.f16.params.toList ++ Rows.playsLoseNothingSpec.plain.varTypes Try.prog ++ Try.f16.resultTypes.toList).any (Try.prog.veiledRec ·))) = true := by kernel_rfl
theorem jf31 : (Rows.playsLoseNothingRow.veiledFits Try.prog Try.f16.params.toList (Try.f16.params.toList ++ Rows.playsLoseNothingSpec.plain.varTypes Try.prog ++ Try.f16.resultTypes.toList)) = true := by kernel_rfl
theorem jfs : joinedFacts Try.pinned.checked.prog 16 Try.f16 Rows.playsLoseNothingSpec Rows.playsLoseNothingRow = true := (jand (jand (jand (jand (jand (jand (jand (jand (jand (jand (jand (jand (jand (jand (jand (jand (jand (jand (jand (jand (jand (jand (jand (jand (jand (jand (jand (jand (jand (jand (jand jf0 jf1) jf2) jf3) jf4) jf5) jf6) jf7) jf8) jf9) jf10) jf11) jf12) jf13) jf14) jf15) jf16) jf17) jf18) jf19) jf20) jf21) jf22) jf23) jf24) jf25) jf26) jf27) jf28) jf29) jf30) jf31)
theorem lawFacts : LawFacts Try.checked Rows.playsLoseNothingSpec 16 Try.f16 [.prod (.int .i64) (.prod (.int .i64) (.prod (.int .i64) (.prod (.int .i64) (.prod (.int .i64) .unit)))), .int .i64, .str, .slice (.int .u8), .int .i64] [27, 3, 9, 22, 3] 4 where
 own := by kernel_rfl
 laid := by kernel_rfl
 noInit := by kernel_rfl
 func := by kernel_rfl
 vars := rfl
 params := by kernel_rfl
 opens := by kernel_rfl
 rowed := by kernel_rfl
 res := by kernel_rfl
 bool := by kernel_rfl
 spec := fun H ds h => by
  match ds, h with
  | [d0, d1, d2, d3, d4], _ => rfl
theorem lifted (os : Os) (started : os.Started) (H : Type) (enc : TypeId × Value → H) :
  ReturnsInHanded {} Try.checked os 16 .any (Rows.playsLoseNothingSpec.pre6 enc Try.prog Try.f16 Rows.playsLoseNothingRow.domain false) (Rows.playsLoseNothingSpec.post enc Try.prog Try.f16 false true false false) :=
 lifted_of lawFacts ttok fok pure started
  (ChangeSpec.witness6 (enc := enc) (C := Try.checked) false ⟨#[], #[.agg #[.int .i64 0, .int .i64 0, .int .i64 0, .int .i64 0, .int .i64 0], .int .i64 0, .string ⟨#[]⟩, .slice none 0 0, .int .i64 0], []⟩ 8 (by kernel_rfl) (by kernel_rfl) (by kernel_rfl) (by kernel_rfl))
theorem over : Rows.playsLoseNothingRow.holds Try.pinned (OpenSpec.ofChange Rows.playsLoseNothingSpec) :=
 OpenClaim.holds_of_wide 16 Try.f16 rfl rfl rfl rfl rfl rfl rfl ⟨rfl, rfl, rfl, rfl, rfl⟩ rfl rfl rfl rfl rfl (by kernel_rfl) Try.func16 jfs
  (of_decide_eq_true (by kernel_rfl)) (by unfold Func.isWrapper; first | (rw [if_pos (by decide +kernel)]; kernel_rfl) | (rw [if_neg (by decide +kernel)]; exact ⟨rfl, rfl⟩))
  (fun os started H enc _ => lifted os started H enc)
end Go.Proofs.Ytlcklflbhhnnhaa.PM
namespace Go.Proofs.Ytlcklflbhhnnhaa
/-- The row, under a short name, for the claim. -/
theorem playsLoseNothing_holds : Rows.PlaysLoseNothingSaid := PM.over
#print axioms playsLoseNothing_holds
end Go.Proofs.Ytlcklflbhhnnhaa
