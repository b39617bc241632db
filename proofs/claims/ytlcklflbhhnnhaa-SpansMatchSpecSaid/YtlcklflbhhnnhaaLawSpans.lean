/- Spans are judged, what they lack and what two lists join to is as the reference has it: SpansMatchSpec returns true and leaves its arguments as they were. No condition. -/
import Derived.Test.YtlcklflbhhnnhaaPuSpans
import Derived.Test.YtlcklflbhhnnhaaPmRow
import Derived.Test.YtlcklflbhhnnhaaRows
import Derived.Test.YtlcklflbhhnnhaaJfLib
namespace Go.Proofs.Ytlcklflbhhnnhaa.PM
open Go
set_option maxRecDepth 100000
theorem jand {a b : Bool} (h1 : a = true) (h2 : b = true) : (a && b) = true := by rw [h1, h2]; rfl
theorem jf0 : (Rows.spansMatchSpecRow.wf (OpenSpec.ofChange Rows.spansMatchSpecSpec)) = true := by kernel_rfl
theorem jf1 : (laidOutB Try.prog) = true := by kernel_rfl
theorem jf2 : (mapsRowed Try.prog) = true := by kernel_rfl
theorem jf3 : (Try.f7.params.all (Try.prog.readableRec ·)) = true := by kernel_rfl
theorem jf4 : (namedTie Try.prog Rows.spansMatchSpecRow.named Rows.spansMatchSpecSpec.vars) = true := by kernel_rfl
theorem jf5 : ((Rows.spansMatchSpecRow.stops == [])) = true := by kernel_rfl
theorem jf6 : ((Try.prog.stops == [])) = true := by kernel_rfl
theorem jf7 : ((Rows.spansMatchSpecRow.knobs == [])) = true := by kernel_rfl
theorem jf8 : ((Try.prog.stopKnobs == [])) = true := by kernel_rfl
theorem jf9 : ((Rows.spansMatchSpecRow.inPlace == Try.prog.inPlace 7)) = true := by kernel_rfl
theorem jf10 : ((Rows.spansMatchSpecRow.unfollowed == Try.prog.unfollowed 7)) = true := by kernel_rfl
theorem jf11 : ((Rows.spansMatchSpecRow.recurses == Try.prog.recurses 7)) = true := by kernel_rfl
theorem jf12 : ((Rows.spansMatchSpecRow.named == Try.prog.varsNamed 7)) = true := by kernel_rfl
theorem jf13 : ((Rows.spansMatchSpecRow.maps == (Try.f7.params.toList ++ Rows.spansMatchSpecSpec.plain.varTypes Try.prog).any (Try.prog.mapsRec ·))) = true := by kernel_rfl
theorem jf14 : ((Rows.spansMatchSpecRow.ifaces == (Try.f7.params.toList ++ Rows.spansMatchSpecSpec.plain.varTypes Try.prog).any (Try.prog.ifacesRec ·))) = true := by kernel_rfl
theorem jf15 : ((Rows.spansMatchSpecRow.mapsOut == Try.prog.mapsAmong Try.f7.resultTypes.toList)) = true := by kernel_rfl
theorem jf16 : ((Rows.spansMatchSpecRow.loops == (Try.f7.params.toList ++ Rows.spansMatchSpecSpec.plain.varTypes Try.prog).any (Try.prog.loopsFrom ·))) = true := by kernel_rfl
theorem jf17 : ((Rows.spansMatchSpecRow.wideKeys == (Try.f7.params.toList ++ Rows.spansMatchSpecSpec.plain.varTypes Try.prog ++ Try.f7.resultTypes.toList).any (Try.prog.wideKeysFrom ·))) = true := by kernel_rfl
theorem jf18 : (Rows.spansMatchSpecSpec.vars.all (Try.prog.varReadable ·)) = true := by kernel_rfl
theorem jf19 : (Try.f7.resultTypes.all (fun t => Try.prog.readableRec t && decide (t < Try.prog.types.size))) = true := by kernel_rfl
theorem jf20 : ((Rows.spansMatchSpecRow.ifacesOut == Try.f7.resultTypes.toList.any (Try.prog.ifacesRec ·))) = true := by kernel_rfl
theorem jf21 : ((Rows.spansMatchSpecRow.loopsOut == Try.f7.resultTypes.toList.any (Try.prog.loopsFrom ·))) = true := by kernel_rfl
theorem jf22 : ((Rows.spansMatchSpecRow.plainKeys == Try.prog.plainKeys)) = true := by kernel_rfl
theorem jf23 : (Rows.spansMatchSpecRow.shortTexts.isNone) = true := by kernel_rfl
theorem jf24 : (Try.prog.stopsHeard) = true := by kernel_rfl
theorem jf25 : (Try.prog.mayEnter) = true := jl25
theorem jf26 : ((Rows.spansMatchSpecRow.lifted == Try.prog.liftsFinal)) = true := jl26
theorem jf27 : ((Try.prog.make == some Rows.spansMatchSpecRow.make)) = true := jl27
theorem jf28 : ((Rows.spansMatchSpecRow.kinds == (if Rows.spansMatchSpecRow.domain.isEmpty then [] else Try.f7.params.toList.map fun t => match Try.prog.underlying t with | some (.int k) => some k | _ => none))) = true := by kernel_rfl
theorem jf29 : ((Rows.spansMatchSpecRow.pinned == Rows.spansMatchSpecRow.pinnedBy)) = true := by kernel_rfl
theorem jf30 : ((Rows.spansMatchSpecRow.veiled == (Try.f7.params.toList ++ Rows.spansMatchSpecSpec.plain.varTypes Try.prog ++ Try.f7.resultTypes.toList).any (Try.prog.veiledRec ·))) = true := by kernel_rfl
theorem jf31 : (Rows.spansMatchSpecRow.veiledFits Try.prog Try.f7.params.toList (Try.f7.params.toList ++ Rows.spansMatchSpecSpec.plain.varTypes Try.prog ++ Try.f7.resultTypes.toList)) = true := by kernel_rfl
theorem jfs : joinedFacts Try.pinned.checked.prog 7 Try.f7 Rows.spansMatchSpecSpec Rows.spansMatchSpecRow = true := (jand (jand (jand (jand (jand (jand (jand (jand (jand (jand (jand (jand (jand (jand (jand (jand (jand (jand (jand (jand (jand (jand (jand (jand (jand (jand (jand (jand (jand (jand (jand jf0 jf1) jf2) jf3) jf4) jf5) jf6) jf7) jf8) jf9) jf10) jf11) jf12) jf13) jf14) jf15) jf16) jf17) jf18) jf19) jf20) jf21) jf22) jf23) jf24) jf25) jf26) jf27) jf28) jf29) jf30) jf31)
theorem lawFacts : LawFacts Try.checked Rows.spansMatchSpecSpec 7 Try.f7 [.slice (.prod (.int .i64) (.prod (.int .i64) .unit)), .slice (.prod (.int .i64) (.prod (.int .i64) .unit)), .int .i64] [23, 23, 3] 4 where
  own := by kernel_rfl
  laid := by kernel_rfl
  noInit := by kernel_rfl
  func := by kernel_rfl
  vars := rfl
  params := by kernel_rfl
  opens := by kernel_rfl
  rowed := by kernel_rfl
  res := by kernel_rfl
  bool := by kernel_rfl
  spec := fun H ds h => by
    match ds, h with
    | [d0, d1, d2], _ => rfl
theorem lifted (os : Os) (started : os.Started) (H : Type) (enc : TypeId × Value → H) :
    ReturnsInHanded {} Try.checked os 7 .any (Rows.spansMatchSpecSpec.pre6 enc Try.prog Try.f7 Rows.spansMatchSpecRow.domain false) (Rows.spansMatchSpecSpec.post enc Try.prog Try.f7 false true false false) :=
  lifted_of lawFacts ttok fok pure started
    (ChangeSpec.witness6 (enc := enc) (C := Try.checked) false ⟨#[], #[.slice none 0 0, .slice none 0 0, .int .i64 0], []⟩ 8 (by kernel_rfl) (by kernel_rfl) (by kernel_rfl) (by kernel_rfl))
theorem over : Rows.spansMatchSpecRow.holds Try.pinned (OpenSpec.ofChange Rows.spansMatchSpecSpec) :=
  OpenClaim.holds_of_wide 7 Try.f7 rfl rfl rfl rfl rfl rfl rfl ⟨rfl, rfl, rfl, rfl, rfl⟩ rfl rfl rfl rfl rfl (by kernel_rfl) Try.func7 jfs
    (of_decide_eq_true (by kernel_rfl)) (by unfold Func.isWrapper; first | (rw [if_pos (by decide +kernel)]; kernel_rfl) | (rw [if_neg (by decide +kernel)]; exact ⟨rfl, rfl⟩))
    (fun os started H enc _ => lifted os started H enc)
end Go.Proofs.Ytlcklflbhhnnhaa.PM
namespace Go.Proofs.Ytlcklflbhhnnhaa
/-- The row, under a short name, for the claim. -/
theorem spansMatchSpec_holds : Rows.SpansMatchSpecSaid := PM.over
#print axioms spansMatchSpec_holds
end Go.Proofs.Ytlcklflbhhnnhaa
