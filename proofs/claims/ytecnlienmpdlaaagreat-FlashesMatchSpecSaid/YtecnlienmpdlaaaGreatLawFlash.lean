import Derived.Test.YtecnlienmpdlaaaGreatPuFlash
import Derived.Test.YtecnlienmpdlaaaGreatPmRow
import Derived.Test.YtecnlienmpdlaaaGreatRows
import Derived.Test.YtecnlienmpdlaaaGreatJfLib
namespace Go.Proofs.YtecnlienmpdlaaaGreat.PM
open Go
set_option maxRecDepth 100000
theorem jand {a b : Bool} (h1 : a = true) (h2 : b = true) : (a && b) = true := by rw [h1, h2]; rfl
theorem jf0 : (Rows.flashesMatchSpecRow.wf (OpenSpec.ofChange Rows.flashesMatchSpecSpec)) = true := by kernel_rfl
theorem jf1 : (laidOutB Tryz.prog) = true := by kernel_rfl
theorem jf2 : (mapsRowed Tryz.prog) = true := by kernel_rfl
theorem jf3 : (Tryz.f4.params.all (Tryz.prog.readableRec ·)) = true := by kernel_rfl
theorem jf4 : (namedTie Tryz.prog Rows.flashesMatchSpecRow.named Rows.flashesMatchSpecSpec.vars) = true := by kernel_rfl
theorem jf5 : ((Rows.flashesMatchSpecRow.stops == [])) = true := by kernel_rfl
theorem jf6 : ((Tryz.prog.stops == [])) = true := by kernel_rfl
theorem jf7 : ((Rows.flashesMatchSpecRow.knobs == [])) = true := by kernel_rfl
theorem jf8 : ((Tryz.prog.stopKnobs == [])) = true := by kernel_rfl
theorem jf9 : ((Rows.flashesMatchSpecRow.inPlace == Tryz.prog.inPlace 4)) = true := by kernel_rfl
theorem jf10 : ((Rows.flashesMatchSpecRow.unfollowed == Tryz.prog.unfollowed 4)) = true := by kernel_rfl
theorem jf11 : ((Rows.flashesMatchSpecRow.recurses == Tryz.prog.recurses 4)) = true := by kernel_rfl
theorem jf12 : ((Rows.flashesMatchSpecRow.named == Tryz.prog.varsNamed 4)) = true := by kernel_rfl
theorem jf13 : ((Rows.flashesMatchSpecRow.maps == (Tryz.f4.params.toList ++ Rows.flashesMatchSpecSpec.plain.varTypes Tryz.prog).any (Tryz.prog.mapsRec ·))) = true := by kernel_rfl
theorem jf14 : ((Rows.flashesMatchSpecRow.ifaces == (Tryz.f4.params.toList ++ Rows.flashesMatchSpecSpec.plain.varTypes Tryz.prog).any (Tryz.prog.ifacesRec ·))) = true := by kernel_rfl
theorem jf15 : ((Rows.flashesMatchSpecRow.mapsOut == Tryz.prog.mapsAmong Tryz.f4.resultTypes.toList)) = true := by kernel_rfl
theorem jf16 : ((Rows.flashesMatchSpecRow.loops == (Tryz.f4.params.toList ++ Rows.flashesMatchSpecSpec.plain.varTypes Tryz.prog).any (Tryz.prog.loopsFrom ·))) = true := by kernel_rfl
theorem jf17 : ((Rows.flashesMatchSpecRow.wideKeys == (Tryz.f4.params.toList ++ Rows.flashesMatchSpecSpec.plain.varTypes Tryz.prog ++ Tryz.f4.resultTypes.toList).any (Tryz.prog.wideKeysFrom ·))) = true := by kernel_rfl
theorem jf18 : (Rows.flashesMatchSpecSpec.vars.all (Tryz.prog.varReadable ·)) = true := by kernel_rfl
theorem jf19 : (Tryz.f4.resultTypes.all (fun t => Tryz.prog.readableRec t && decide (t < Tryz.prog.types.size))) = true := by kernel_rfl
theorem jf20 : ((Rows.flashesMatchSpecRow.ifacesOut == Tryz.f4.resultTypes.toList.any (Tryz.prog.ifacesRec ·))) = true := by kernel_rfl
theorem jf21 : ((Rows.flashesMatchSpecRow.loopsOut == Tryz.f4.resultTypes.toList.any (Tryz.prog.loopsFrom ·))) = true := by kernel_rfl
theorem jf22 : ((Rows.flashesMatchSpecRow.plainKeys == Tryz.prog.plainKeys)) = true := by kernel_rfl
theorem jf23 : (Rows.flashesMatchSpecRow.shortTexts.isNone) = true := by kernel_rfl
theorem jf24 : (Tryz.prog.stopsHeard) = true := by kernel_rfl
theorem jf25 : (Tryz.prog.mayEnter) = true := jl25
theorem jf26 : ((Rows.flashesMatchSpecRow.lifted == Tryz.prog.liftsFinal)) = true := jl26
theorem jf27 : ((Tryz.prog.make == some Rows.flashesMatchSpecRow.make)) = true := jl27
theorem jf28 : ((Rows.flashesMatchSpecRow.kinds == (if Rows.flashesMatchSpecRow.domain.isEmpty then [] else Tryz.f4.params.toList.map fun t => match Tryz.prog.underlying t with | some (.int k) => some k | _ => none))) = true := by kernel_rfl
theorem jf29 : ((Rows.flashesMatchSpecRow.pinned == Rows.flashesMatchSpecRow.pinnedBy)) = true := by kernel_rfl
theorem jf30 : ((Rows.flashesMatchSpecRow.veiled == (Tryz.f4.params.toList ++ Rows.flashesMatchSpecSpec.plain.varTypes Tryz.prog ++ Tryz.f4.resultTypes.toList).any (Tryz.prog.veiledRec ·))) = true := by kernel_rfl
theorem jf31 : (Rows.flashesMatchSpecRow.veiledFits Tryz.prog Tryz.f4.params.toList (Tryz.f4.params.toList ++ Rows.flashesMatchSpecSpec.plain.varTypes Tryz.prog ++ Tryz.f4.resultTypes.toList)) = true := by kernel_rfl
theorem jfs : joinedFacts Tryz.pinned.checked.prog 4 Tryz.f4 Rows.flashesMatchSpecSpec Rows.flashesMatchSpecRow = true := (jand (jand (jand (jand (jand (jand (jand (jand (jand (jand (jand (jand (jand (jand (jand (jand (jand (jand (jand (jand (jand (jand (jand (jand (jand (jand (jand (jand (jand (jand (jand jf0 jf1) jf2) jf3) jf4) jf5) jf6) jf7) jf8) jf9) jf10) jf11) jf12) jf13) jf14) jf15) jf16) jf17) jf18) jf19) jf20) jf21) jf22) jf23) jf24) jf25) jf26) jf27) jf28) jf29) jf30) jf31)
theorem Q16k : LawFacts Tryz.checked Rows.flashesMatchSpecSpec 4 Tryz.f4 [.prod (.int .i64) (.prod (.int .i64) (.prod (.int .i64) (.prod (.slice (.int .u8)) (.prod (.slice (.int .i64)) (.prod (.slice (.int .i64)) .unit)))))] [25] 4 where
 own := by kernel_rfl
 laid := by kernel_rfl
 noInit := by kernel_rfl
 func := by kernel_rfl
 vars := rfl
 params := by kernel_rfl
 opens := by kernel_rfl
 rowed := by kernel_rfl
 res := by kernel_rfl
 bool := by kernel_rfl
 spec := fun H ds h => by
  match ds, h with
  | [d0], _ => rfl
theorem lifted (os : Os) (started : os.Started) (H : Type) (enc : TypeId × Value → H) :
  ReturnsInHanded {} Tryz.checked os 4 .any (Rows.flashesMatchSpecSpec.pre6 enc Tryz.prog Tryz.f4 Rows.flashesMatchSpecRow.domain false) (Rows.flashesMatchSpecSpec.post enc Tryz.prog Tryz.f4 false true false false) :=
 Q13s Q16k ttok fok pure started
  (ChangeSpec.witness6 (enc := enc) (C := Tryz.checked) false ⟨#[], #[.agg #[.int .i64 0, .int .i64 0, .int .i64 0, .slice none 0 0, .slice none 0 0, .slice none 0 0]], []⟩ 8 (by kernel_rfl) (by kernel_rfl) (by kernel_rfl) (by kernel_rfl))
theorem over : Rows.flashesMatchSpecRow.holds Tryz.pinned (OpenSpec.ofChange Rows.flashesMatchSpecSpec) :=
 OpenClaim.holds_of_wide 4 Tryz.f4 rfl rfl rfl rfl rfl rfl rfl ⟨rfl, rfl, rfl, rfl, rfl⟩ rfl rfl rfl rfl rfl (by kernel_rfl) Tryz.func4 jfs
  (of_decide_eq_true (by kernel_rfl)) (by unfold Func.isWrapper; first | (rw [if_pos (by decide +kernel)]; kernel_rfl) | (rw [if_neg (by decide +kernel)]; exact ⟨rfl, rfl⟩))
  (fun os started H enc _ => lifted os started H enc)
end Go.Proofs.YtecnlienmpdlaaaGreat.PM
namespace Go.Proofs.YtecnlienmpdlaaaGreat
theorem flashesMatchSpec_holds : Rows.FlashesMatchSpecSaid := PM.over
#print axioms flashesMatchSpec_holds
end Go.Proofs.YtecnlienmpdlaaaGreat
