/- Whatever is lost, behind ticks enough both sides have ended, or the receiver heard of no end and waits: PlaysEndAtLast returns true and leaves its arguments as they were. No condition. -/
import Derived.Test.YtlcklflbhhnnhaaPuAtLast
import Derived.Test.YtlcklflbhhnnhaaPmRow
import Derived.Test.YtlcklflbhhnnhaaRows
import Derived.Test.YtlcklflbhhnnhaaJfLib
namespace Go.Proofs.Ytlcklflbhhnnhaa.PM
open Go
set_option maxRecDepth 100000
theorem jand {a b : Bool} (h1 : a = true) (h2 : b = true) : (a && b) = true := by rw [h1, h2]; rfl
theorem jf0 : (Rows.playsEndAtLastRow.wf (OpenSpec.ofChange Rows.playsEndAtLastSpec)) = true := by kernel_rfl
theorem jf1 : (laidOutB Try.prog) = true := by kernel_rfl
theorem jf2 : (mapsRowed Try.prog) = true := by kernel_rfl
theorem jf3 : (Try.f14.params.all (Try.prog.readableRec ·)) = true := by kernel_rfl
theorem jf4 : (namedTie Try.prog Rows.playsEndAtLastRow.named Rows.playsEndAtLastSpec.vars) = true := by kernel_rfl
theorem jf5 : ((Rows.playsEndAtLastRow.stops == [])) = true := by kernel_rfl
theorem jf6 : ((Try.prog.stops == [])) = true := by kernel_rfl
theorem jf7 : ((Rows.playsEndAtLastRow.knobs == [])) = true := by kernel_rfl
theorem jf8 : ((Try.prog.stopKnobs == [])) = true := by kernel_rfl
theorem jf9 : ((Rows.playsEndAtLastRow.inPlace == Try.prog.inPlace 14)) = true := by kernel_rfl
theorem jf10 : ((Rows.playsEndAtLastRow.unfollowed == Try.prog.unfollowed 14)) = true := by kernel_rfl
theorem jf11 : ((Rows.playsEndAtLastRow.recurses == Try.prog.recurses 14)) = true := by kernel_rfl
theorem jf12 : ((Rows.playsEndAtLastRow.named == Try.prog.varsNamed 14)) = true := by kernel_rfl
theorem jf13 : ((Rows.playsEndAtLastRow.maps == (Try.f14.params.toList ++ Rows.playsEndAtLastSpec.plain.varTypes Try.prog).any (Try.prog.mapsRec ·))) = true := by kernel_rfl
theorem jf14 : ((Rows.playsEndAtLastRow.ifaces == (Try.f14.params.toList ++ Rows.playsEndAtLastSpec.plain.varTypes Try.prog).any (Try.prog.ifacesRec ·))) = true := by kernel_rfl
theorem jf15 : ((Rows.playsEndAtLastRow.mapsOut == Try.prog.mapsAmong Try.f14.resultTypes.toList)) = true := by kernel_rfl
theorem jf16 : ((Rows.playsEndAtLastRow.loops == (Try.f14.params.toList ++ Rows.playsEndAtLastSpec.plain.varTypes Try.prog).any (Try.prog.loopsFrom ·))) = true := by kernel_rfl
theorem jf17 : ((Rows.playsEndAtLastRow.wideKeys == (Try.f14.params.toList ++ Rows.playsEndAtLastSpec.plain.varTypes Try.prog ++ Try.f14.resultTypes.toList).any (Try.prog.wideKeysFrom ·))) = true := by kernel_rfl
theorem jf18 : (Rows.playsEndAtLastSpec.vars.all (Try.prog.varReadable ·)) = true := by kernel_rfl
theorem jf19 : (Try.f14.resultTypes.all (fun t => Try.prog.readableRec t && decide (t < Try.prog.types.size))) = true := by kernel_rfl
theorem jf20 : ((Rows.playsEndAtLastRow.ifacesOut == Try.f14.resultTypes.toList.any (Try.prog.ifacesRec ·))) = true := by kernel_rfl
theorem jf21 : ((Rows.playsEndAtLastRow.loopsOut == Try.f14.resultTypes.toList.any (Try.prog.loopsFrom ·))) = true := by kernel_rfl
theorem jf22 : ((Rows.playsEndAtLastRow.plainKeys == Try.prog.plainKeys)) = true := by kernel_rfl
theorem jf23 : (Rows.playsEndAtLastRow.shortTexts.isNone) = true := by kernel_rfl
theorem jf24 : (Try.prog.stopsHeard) = true := by kernel_rfl
theorem jf25 : (Try.prog.mayEnter) = true := jl25
theorem jf26 : ((Rows.playsEndAtLastRow.lifted == Try.prog.liftsFinal)) = true := jl26
theorem jf27 : ((Try.prog.make == some Rows.playsEndAtLastRow.make)) = true := jl27
theorem jf28 : ((Rows.playsEndAtLastRow.kinds == (if Rows.playsEndAtLastRow.domain.isEmpty then [] else Try.f14.params.toList.map fun t => match Try.prog.underlying t with | some (.int k) => some k | _ => none))) = true := by kernel_rfl
theorem jf29 : ((Rows.playsEndAtLastRow.pinned == Rows.playsEndAtLastRow.pinnedBy)) = true := by kernel_rfl
theorem jf30 : ((Rows.playsEndAtLastRow.veiled == (Try.f14.params.toList ++ Rows.playsEndAtLastSpec.plain.varTypes Try.prog ++ Try.f14.resultTypes.toList).any (Try.prog.veiledRec ·))) = true := by kernel_rfl
theorem jf31 : (Rows.playsEndAtLastRow.veiledFits Try.prog Try.f14.params.toList (Try.f14.params.toList ++ Rows.playsEndAtLastSpec.plain.varTypes Try.prog ++ Try.f14.resultTypes.toList)) = true := by kernel_rfl
theorem jfs : joinedFacts Try.pinned.checked.prog 14 Try.f14 Rows.playsEndAtLastSpec Rows.playsEndAtLastRow = true := (jand (jand (jand (jand (jand (jand (jand (jand (jand (jand (jand (jand (jand (jand (jand (jand (jand (jand (jand (jand (jand (jand (jand (jand (jand (jand (jand (jand (jand (jand (jand jf0 jf1) jf2) jf3) jf4) jf5) jf6) jf7) jf8) jf9) jf10) jf11) jf12) jf13) jf14) jf15) jf16) jf17) jf18) jf19) jf20) jf21) jf22) jf23) jf24) jf25) jf26) jf27) jf28) jf29) jf30) jf31)
theorem lawFacts : LawFacts Try.checked Rows.playsEndAtLastSpec 14 Try.f14 [.prod (.int .i64) (.prod (.int .i64) (.prod (.int .i64) (.prod (.int .i64) (.prod (.int .i64) .unit)))), .int .i64, .str, .slice (.int .u8), .slice .bool, .slice .bool] [27, 3, 9, 22, 76, 76] 4 where
 own := by kernel_rfl
 laid := by kernel_rfl
 noInit := by kernel_rfl
 func := by kernel_rfl
 vars := rfl
 params := by kernel_rfl
 opens := by kernel_rfl
 rowed := by kernel_rfl
 res := by kernel_rfl
 bool := by kernel_rfl
 spec := fun H ds h => by
  match ds, h with
  | [d0, d1, d2, d3, d4, d5], _ => rfl
theorem lifted (os : Os) (started : os.Started) (H : Type) (enc : TypeId × Value → H) :
  ReturnsInHanded {} Try.checked os 14 .any (Rows.playsEndAtLastSpec.pre6 enc Try.prog Try.f14 Rows.playsEndAtLastRow.domain false) (Rows.playsEndAtLastSpec.post enc Try.prog Try.f14 false true false false) :=
 lifted_of lawFacts ttok fok pure started
  (ChangeSpec.witness6 (enc := enc) (C := Try.checked) false ⟨#[], #[.agg #[.int .i64 0, .int .i64 0, .int .i64 0, .int .i64 0, .int .i64 0], .int .i64 0, .string ⟨#[]⟩, .slice none 0 0, .slice none 0 0, .slice none 0 0], []⟩ 8 (by kernel_rfl) (by kernel_rfl) (by kernel_rfl) (by kernel_rfl))
theorem over : Rows.playsEndAtLastRow.holds Try.pinned (OpenSpec.ofChange Rows.playsEndAtLastSpec) :=
 OpenClaim.holds_of_wide 14 Try.f14 rfl rfl rfl rfl rfl rfl rfl ⟨rfl, rfl, rfl, rfl, rfl⟩ rfl rfl rfl rfl rfl (by kernel_rfl) Try.func14 jfs
  (of_decide_eq_true (by kernel_rfl)) (by unfold Func.isWrapper; first | (rw [if_pos (by decide +kernel)]; kernel_rfl) | (rw [if_neg (by decide +kernel)]; exact ⟨rfl, rfl⟩))
  (fun os started H enc _ => lifted os started H enc)
end Go.Proofs.Ytlcklflbhhnnhaa.PM
namespace Go.Proofs.Ytlcklflbhhnnhaa
/-- The row, under a short name, for the claim. -/
theorem playsEndAtLast_holds : Rows.PlaysEndAtLastSaid := PM.over
#print axioms playsEndAtLast_holds
end Go.Proofs.Ytlcklflbhhnnhaa
