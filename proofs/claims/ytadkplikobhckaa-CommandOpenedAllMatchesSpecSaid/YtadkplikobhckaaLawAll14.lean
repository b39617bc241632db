/- OpenedAll is as specified, with all errors: CommandOpenedAllMatchesSpec returns true and leaves its arguments as they were. No condition. -/
import Derived.Test.YtadkplikobhckaaPuAll14
import Derived.Test.YtadkplikobhckaaPmRow
import Derived.Test.YtadkplikobhckaaRows
import Derived.Test.YtadkplikobhckaaJfLib
namespace Go.Proofs.Ytadkplikobhckaa.PM
open Go
set_option maxRecDepth 100000
theorem jand {a b : Bool} (h1 : a = true) (h2 : b = true) : (a && b) = true := by rw [h1, h2]; rfl
theorem jf0 : (Rows.commandOpenedAllMatchesSpecRow.wf (OpenSpec.ofChange Rows.commandOpenedAllMatchesSpecSpec)) = true := by kernel_rfl
theorem jf1 : (laidOutB Try.prog) = true := by kernel_rfl
theorem jf2 : (mapsRowed Try.prog) = true := by kernel_rfl
theorem jf3 : (Try.f14.params.all (Try.prog.readableRec ·)) = true := by kernel_rfl
theorem jf4 : (namedTie Try.prog Rows.commandOpenedAllMatchesSpecRow.named Rows.commandOpenedAllMatchesSpecSpec.vars) = true := by kernel_rfl
theorem jf5 : ((Rows.commandOpenedAllMatchesSpecRow.stops == [])) = true := by kernel_rfl
theorem jf6 : ((Try.prog.stops == [])) = true := by kernel_rfl
theorem jf7 : ((Rows.commandOpenedAllMatchesSpecRow.knobs == [])) = true := by kernel_rfl
theorem jf8 : ((Try.prog.stopKnobs == [])) = true := by kernel_rfl
theorem jf9 : ((Rows.commandOpenedAllMatchesSpecRow.inPlace == Try.prog.inPlace 14)) = true := by kernel_rfl
theorem jf10 : ((Rows.commandOpenedAllMatchesSpecRow.unfollowed == Try.prog.unfollowed 14)) = true := by kernel_rfl
theorem jf11 : ((Rows.commandOpenedAllMatchesSpecRow.recurses == Try.prog.recurses 14)) = true := by kernel_rfl
theorem jf12 : ((Rows.commandOpenedAllMatchesSpecRow.named == Try.prog.varsNamed 14)) = true := by kernel_rfl
theorem jf13 : ((Rows.commandOpenedAllMatchesSpecRow.maps == (Try.f14.params.toList ++ Rows.commandOpenedAllMatchesSpecSpec.plain.varTypes Try.prog).any (Try.prog.mapsRec ·))) = true := by kernel_rfl
theorem jf14 : ((Rows.commandOpenedAllMatchesSpecRow.ifaces == (Try.f14.params.toList ++ Rows.commandOpenedAllMatchesSpecSpec.plain.varTypes Try.prog).any (Try.prog.ifacesRec ·))) = true := by kernel_rfl
theorem jf15 : ((Rows.commandOpenedAllMatchesSpecRow.mapsOut == Try.prog.mapsAmong Try.f14.resultTypes.toList)) = true := by kernel_rfl
theorem jf16 : ((Rows.commandOpenedAllMatchesSpecRow.loops == (Try.f14.params.toList ++ Rows.commandOpenedAllMatchesSpecSpec.plain.varTypes Try.prog).any (Try.prog.loopsFrom ·))) = true := by kernel_rfl
theorem jf17 : ((Rows.commandOpenedAllMatchesSpecRow.wideKeys == (Try.f14.params.toList ++ Rows.commandOpenedAllMatchesSpecSpec.plain.varTypes Try.prog ++ Try.f14.resultTypes.toList).any (Try.prog.wideKeysFrom ·))) = true := by kernel_rfl
theorem jf18 : (Rows.commandOpenedAllMatchesSpecSpec.vars.all (Try.prog.varReadable ·)) = true := by kernel_rfl
theorem jf19 : (Try.f14.resultTypes.all (fun t => Try.prog.readableRec t && decide (t < Try.prog.types.size))) = true := by kernel_rfl
theorem jf20 : ((Rows.commandOpenedAllMatchesSpecRow.ifacesOut == Try.f14.resultTypes.toList.any (Try.prog.ifacesRec ·))) = true := by kernel_rfl
theorem jf21 : ((Rows.commandOpenedAllMatchesSpecRow.loopsOut == Try.f14.resultTypes.toList.any (Try.prog.loopsFrom ·))) = true := by kernel_rfl
theorem jf22 : ((Rows.commandOpenedAllMatchesSpecRow.plainKeys == Try.prog.plainKeys)) = true := by kernel_rfl
theorem jf23 : (Rows.commandOpenedAllMatchesSpecRow.shortTexts.isNone) = true := by kernel_rfl
theorem jf24 : (Try.prog.stopsHeard) = true := by kernel_rfl
theorem jf25 : (Try.prog.mayEnter) = true := jl25
theorem jf26 : ((Rows.commandOpenedAllMatchesSpecRow.lifted == Try.prog.liftsFinal)) = true := jl26
theorem jf27 : ((Try.prog.make == some Rows.commandOpenedAllMatchesSpecRow.make)) = true := jl27
theorem jf28 : ((Rows.commandOpenedAllMatchesSpecRow.kinds == (if Rows.commandOpenedAllMatchesSpecRow.domain.isEmpty then [] else Try.f14.params.toList.map fun t => match Try.prog.underlying t with | some (.int k) => some k | _ => none))) = true := by kernel_rfl
theorem jf29 : ((Rows.commandOpenedAllMatchesSpecRow.pinned == Rows.commandOpenedAllMatchesSpecRow.pinnedBy)) = true := by kernel_rfl
theorem jf30 : ((Rows.commandOpenedAllMatchesSpecRow.veiled == (Try.f14.params.toList ++ Rows.commandOpenedAllMatchesSpecSpec.plain.varTypes Try.prog ++ Try.f14.resultTypes.toList).any (Try.prog.veiledRec ·))) = true := by kernel_rfl
theorem jf31 : (Rows.commandOpenedAllMatchesSpecRow.veiledFits Try.prog Try.f14.params.toList (Try.f14.params.toList ++ Rows.commandOpenedAllMatchesSpecSpec.plain.varTypes Try.prog ++ Try.f14.resultTypes.toList)) = true := by kernel_rfl
theorem jfs : joinedFacts Try.pinned.checked.prog 14 Try.f14 Rows.commandOpenedAllMatchesSpecSpec Rows.commandOpenedAllMatchesSpecRow = true := (jand (jand (jand (jand (jand (jand (jand (jand (jand (jand (jand (jand (jand (jand (jand (jand (jand (jand (jand (jand (jand (jand (jand (jand (jand (jand (jand (jand (jand (jand (jand jf0 jf1) jf2) jf3) jf4) jf5) jf6) jf7) jf8) jf9) jf10) jf11) jf12) jf13) jf14) jf15) jf16) jf17) jf18) jf19) jf20) jf21) jf22) jf23) jf24) jf25) jf26) jf27) jf28) jf29) jf30) jf31)
theorem lawFacts : LawFacts Try.checked Rows.commandOpenedAllMatchesSpecSpec 14 Try.f14 [.prod (.int .i64) (.prod (.int .i64) (.prod (.slice (.int .i64)) .unit)), .slice (.slice (.int .u8))] [75, 49] 4 where
  own := by kernel_rfl
  laid := by kernel_rfl
  noInit := by kernel_rfl
  func := by kernel_rfl
  vars := rfl
  params := by kernel_rfl
  opens := by kernel_rfl
  rowed := by kernel_rfl
  res := by kernel_rfl
  bool := by kernel_rfl
  spec := fun H ds h => by
    match ds, h with
    | [d0, d1], _ => rfl
theorem lifted (os : Os) (started : os.Started) (H : Type) (enc : TypeId × Value → H) :
    ReturnsInHanded {} Try.checked os 14 .any (Rows.commandOpenedAllMatchesSpecSpec.pre6 enc Try.prog Try.f14 Rows.commandOpenedAllMatchesSpecRow.domain false) (Rows.commandOpenedAllMatchesSpecSpec.post enc Try.prog Try.f14 false true false false) :=
  lifted_of lawFacts ttok fok pure started
    (ChangeSpec.witness6 (enc := enc) (C := Try.checked) false ⟨#[], #[.agg #[.int .i64 0, .int .i64 0, .slice none 0 0], .slice none 0 0], []⟩ 8 (by kernel_rfl) (by kernel_rfl) (by kernel_rfl) (by kernel_rfl))
theorem over : Rows.commandOpenedAllMatchesSpecRow.holds Try.pinned (OpenSpec.ofChange Rows.commandOpenedAllMatchesSpecSpec) :=
  OpenClaim.holds_of_wide 14 Try.f14 rfl rfl rfl rfl rfl rfl rfl ⟨rfl, rfl, rfl, rfl, rfl⟩ rfl rfl rfl rfl rfl (by kernel_rfl) Try.func14 jfs
    (of_decide_eq_true (by kernel_rfl)) (by unfold Func.isWrapper; first | (rw [if_pos (by decide +kernel)]; kernel_rfl) | (rw [if_neg (by decide +kernel)]; exact ⟨rfl, rfl⟩))
    (fun os started H enc _ => lifted os started H enc)
end Go.Proofs.Ytadkplikobhckaa.PM
namespace Go.Proofs.Ytadkplikobhckaa
/-- The row, under a short name, for the claim. -/
theorem commandOpenedAllMatchesSpec_holds : Rows.CommandOpenedAllMatchesSpecSaid := PM.over
#print axioms commandOpenedAllMatchesSpec_holds
end Go.Proofs.Ytadkplikobhckaa
