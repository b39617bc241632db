/- Play and Least are as specified, with all errors: PlaysMatchSpec returns true and leaves its arguments as they were. No condition. -/
import Derived.Test.YtlcklflbhhnnhaaPuMatch
import Derived.Test.YtlcklflbhhnnhaaPmRow
import Derived.Test.YtlcklflbhhnnhaaRows
import Derived.Test.YtlcklflbhhnnhaaJfLib
namespace Go.Proofs.Ytlcklflbhhnnhaa.PM
open Go
set_option maxRecDepth 100000
theorem jand {a b : Bool} (h1 : a = true) (h2 : b = true) : (a && b) = true := by rw [h1, h2]; rfl
theorem jf0 : (Rows.playsMatchSpecRow.wf (OpenSpec.ofChange Rows.playsMatchSpecSpec)) = true := by kernel_rfl
theorem jf1 : (laidOutB Try.prog) = true := by kernel_rfl
theorem jf2 : (mapsRowed Try.prog) = true := by kernel_rfl
theorem jf3 : (Try.f17.params.all (Try.prog.readableRec ·)) = true := by kernel_rfl
theorem jf4 : (namedTie Try.prog Rows.playsMatchSpecRow.named Rows.playsMatchSpecSpec.vars) = true := by kernel_rfl
theorem jf5 : ((Rows.playsMatchSpecRow.stops == [])) = true := by kernel_rfl
theorem jf6 : ((Try.prog.stops == [])) = true := by kernel_rfl
theorem jf7 : ((Rows.playsMatchSpecRow.knobs == [])) = true := by kernel_rfl
theorem jf8 : ((Try.prog.stopKnobs == [])) = true := by kernel_rfl
theorem jf9 : ((Rows.playsMatchSpecRow.inPlace == Try.prog.inPlace 17)) = true := by kernel_rfl
theorem jf10 : ((Rows.playsMatchSpecRow.unfollowed == Try.prog.unfollowed 17)) = true := by kernel_rfl
theorem jf11 : ((Rows.playsMatchSpecRow.recurses == Try.prog.recurses 17)) = true := by kernel_rfl
theorem jf12 : ((Rows.playsMatchSpecRow.named == Try.prog.varsNamed 17)) = true := by kernel_rfl
theorem jf13 : ((Rows.playsMatchSpecRow.maps == (Try.f17.params.toList ++ Rows.playsMatchSpecSpec.plain.varTypes Try.prog).any (Try.prog.mapsRec ·))) = true := by kernel_rfl
theorem jf14 : ((Rows.playsMatchSpecRow.ifaces == (Try.f17.params.toList ++ Rows.playsMatchSpecSpec.plain.varTypes Try.prog).any (Try.prog.ifacesRec ·))) = true := by kernel_rfl
theorem jf15 : ((Rows.playsMatchSpecRow.mapsOut == Try.prog.mapsAmong Try.f17.resultTypes.toList)) = true := by kernel_rfl
theorem jf16 : ((Rows.playsMatchSpecRow.loops == (Try.f17.params.toList ++ Rows.playsMatchSpecSpec.plain.varTypes Try.prog).any (Try.prog.loopsFrom ·))) = true := by kernel_rfl
theorem jf17 : ((Rows.playsMatchSpecRow.wideKeys == (Try.f17.params.toList ++ Rows.playsMatchSpecSpec.plain.varTypes Try.prog ++ Try.f17.resultTypes.toList).any (Try.prog.wideKeysFrom ·))) = true := by kernel_rfl
theorem jf18 : (Rows.playsMatchSpecSpec.vars.all (Try.prog.varReadable ·)) = true := by kernel_rfl
theorem jf19 : (Try.f17.resultTypes.all (fun t => Try.prog.readableRec t && decide (t < Try.prog.types.size))) = true := by kernel_rfl
theorem jf20 : ((Rows.playsMatchSpecRow.ifacesOut == Try.f17.resultTypes.toList.any (Try.prog.ifacesRec ·))) = true := by kernel_rfl
theorem jf21 : ((Rows.playsMatchSpecRow.loopsOut == Try.f17.resultTypes.toList.any (Try.prog.loopsFrom ·))) = true := by kernel_rfl
theorem jf22 : ((Rows.playsMatchSpecRow.plainKeys == Try.prog.plainKeys)) = true := by kernel_rfl
theorem jf23 : (Rows.playsMatchSpecRow.shortTexts.isNone) = true := by kernel_rfl
theorem jf24 : (Try.prog.stopsHeard) = true := by kernel_rfl
theorem jf25 : (Try.prog.mayEnter) = true := jl25
theorem jf26 : ((Rows.playsMatchSpecRow.lifted == Try.prog.liftsFinal)) = true := jl26
theorem jf27 : ((Try.prog.make == some Rows.playsMatchSpecRow.make)) = true := jl27
theorem jf28 : ((Rows.playsMatchSpecRow.kinds == (if Rows.playsMatchSpecRow.domain.isEmpty then [] else Try.f17.params.toList.map fun t => match Try.prog.underlying t with | some (.int k) => some k | _ => none))) = true := by kernel_rfl
theorem jf29 : ((Rows.playsMatchSpecRow.pinned == Rows.playsMatchSpecRow.pinnedBy)) = true := by kernel_rfl
theorem jf30 : ((Rows.playsMatchSpecRow.veiled == (Try.f17.params.toList ++ Rows.playsMatchSpecSpec.plain.varTypes Try.prog ++ Try.f17.resultTypes.toList).any (Try.prog.veiledRec ·))) = true := by kernel_rfl
theorem jf31 : (Rows.playsMatchSpecRow.veiledFits Try.prog Try.f17.params.toList (Try.f17.params.toList ++ Rows.playsMatchSpecSpec.plain.varTypes Try.prog ++ Try.f17.resultTypes.toList)) = true := by kernel_rfl
theorem jfs : joinedFacts Try.pinned.checked.prog 17 Try.f17 Rows.playsMatchSpecSpec Rows.playsMatchSpecRow = true := (jand (jand (jand (jand (jand (jand (jand (jand (jand (jand (jand (jand (jand (jand (jand (jand (jand (jand (jand (jand (jand (jand (jand (jand (jand (jand (jand (jand (jand (jand (jand jf0 jf1) jf2) jf3) jf4) jf5) jf6) jf7) jf8) jf9) jf10) jf11) jf12) jf13) jf14) jf15) jf16) jf17) jf18) jf19) jf20) jf21) jf22) jf23) jf24) jf25) jf26) jf27) jf28) jf29) jf30) jf31)
theorem Q16t : LawFacts Try.checked Rows.playsMatchSpecSpec 17 Try.f17 [.prod (.int .i64) (.prod (.int .i64) (.prod (.int .i64) (.prod (.int .i64) (.prod (.int .i64) .unit)))), .int .i64, .str, .slice (.int .u8), .slice .bool, .slice .bool, .int .i64] [27, 3, 9, 22, 76, 76, 3] 4 where
 own := by kernel_rfl
 laid := by kernel_rfl
 noInit := by kernel_rfl
 func := by kernel_rfl
 vars := rfl
 params := by kernel_rfl
 opens := by kernel_rfl
 rowed := by kernel_rfl
 res := by kernel_rfl
 bool := by kernel_rfl
 spec := fun H ds h => by
  match ds, h with
  | [d0, d1, d2, d3, d4, d5, d6], _ => rfl
theorem lifted (os : Os) (started : os.Started) (H : Type) (enc : TypeId × Value → H) :
  ReturnsInHanded {} Try.checked os 17 .any (Rows.playsMatchSpecSpec.pre6 enc Try.prog Try.f17 Rows.playsMatchSpecRow.domain false) (Rows.playsMatchSpecSpec.post enc Try.prog Try.f17 false true false false) :=
 Q12h Q16t ttok fok pure started
  (ChangeSpec.witness6 (enc := enc) (C := Try.checked) false ⟨#[], #[.agg #[.int .i64 0, .int .i64 0, .int .i64 0, .int .i64 0, .int .i64 0], .int .i64 0, .string ⟨#[]⟩, .slice none 0 0, .slice none 0 0, .slice none 0 0, .int .i64 0], []⟩ 8 (by kernel_rfl) (by kernel_rfl) (by kernel_rfl) (by kernel_rfl))
theorem over : Rows.playsMatchSpecRow.holds Try.pinned (OpenSpec.ofChange Rows.playsMatchSpecSpec) :=
 OpenClaim.holds_of_wide 17 Try.f17 rfl rfl rfl rfl rfl rfl rfl ⟨rfl, rfl, rfl, rfl, rfl⟩ rfl rfl rfl rfl rfl (by kernel_rfl) Try.func17 jfs
  (of_decide_eq_true (by kernel_rfl)) (by unfold Func.isWrapper; first | (rw [if_pos (by decide +kernel)]; kernel_rfl) | (rw [if_neg (by decide +kernel)]; exact ⟨rfl, rfl⟩))
  (fun os started H enc _ => lifted os started H enc)
end Go.Proofs.Ytlcklflbhhnnhaa.PM
namespace Go.Proofs.Ytlcklflbhhnnhaa
theorem playsMatchSpec_holds : Rows.PlaysMatchSpecSaid := PM.over
#print axioms playsMatchSpec_holds
end Go.Proofs.Ytlcklflbhhnnhaa
