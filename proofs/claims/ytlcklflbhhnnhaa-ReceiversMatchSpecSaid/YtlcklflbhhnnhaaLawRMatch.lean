/- Waiting, CheckReceiving and Take are as specified, with all errors: ReceiversMatchSpec returns true and leaves its arguments as they were. No condition. -/
import Derived.Test.YtlcklflbhhnnhaaPuRMatch
import Derived.Test.YtlcklflbhhnnhaaPmRow
import Derived.Test.YtlcklflbhhnnhaaRows
import Derived.Test.YtlcklflbhhnnhaaJfLib
namespace Go.Proofs.Ytlcklflbhhnnhaa.PM
open Go
set_option maxRecDepth 100000
theorem jand {a b : Bool} (h1 : a = true) (h2 : b = true) : (a && b) = true := by rw [h1, h2]; rfl
theorem jf0 : (Rows.receiversMatchSpecRow.wf (OpenSpec.ofChange Rows.receiversMatchSpecSpec)) = true := by kernel_rfl
theorem jf1 : (laidOutB Try.prog) = true := by kernel_rfl
theorem jf2 : (mapsRowed Try.prog) = true := by kernel_rfl
theorem jf3 : (Try.f12.params.all (Try.prog.readableRec ·)) = true := by kernel_rfl
theorem jf4 : (namedTie Try.prog Rows.receiversMatchSpecRow.named Rows.receiversMatchSpecSpec.vars) = true := by kernel_rfl
theorem jf5 : ((Rows.receiversMatchSpecRow.stops == [])) = true := by kernel_rfl
theorem jf6 : ((Try.prog.stops == [])) = true := by kernel_rfl
theorem jf7 : ((Rows.receiversMatchSpecRow.knobs == [])) = true := by kernel_rfl
theorem jf8 : ((Try.prog.stopKnobs == [])) = true := by kernel_rfl
theorem jf9 : ((Rows.receiversMatchSpecRow.inPlace == Try.prog.inPlace 12)) = true := by kernel_rfl
theorem jf10 : ((Rows.receiversMatchSpecRow.unfollowed == Try.prog.unfollowed 12)) = true := by kernel_rfl
theorem jf11 : ((Rows.receiversMatchSpecRow.recurses == Try.prog.recurses 12)) = true := by kernel_rfl
theorem jf12 : ((Rows.receiversMatchSpecRow.named == Try.prog.varsNamed 12)) = true := by kernel_rfl
theorem jf13 : ((Rows.receiversMatchSpecRow.maps == (Try.f12.params.toList ++ Rows.receiversMatchSpecSpec.plain.varTypes Try.prog).any (Try.prog.mapsRec ·))) = true := by kernel_rfl
theorem jf14 : ((Rows.receiversMatchSpecRow.ifaces == (Try.f12.params.toList ++ Rows.receiversMatchSpecSpec.plain.varTypes Try.prog).any (Try.prog.ifacesRec ·))) = true := by kernel_rfl
theorem jf15 : ((Rows.receiversMatchSpecRow.mapsOut == Try.prog.mapsAmong Try.f12.resultTypes.toList)) = true := by kernel_rfl
theorem jf16 : ((Rows.receiversMatchSpecRow.loops == (Try.f12.params.toList ++ Rows.receiversMatchSpecSpec.plain.varTypes Try.prog).any (Try.prog.loopsFrom ·))) = true := by kernel_rfl
theorem jf17 : ((Rows.receiversMatchSpecRow.wideKeys == (Try.f12.params.toList ++ Rows.receiversMatchSpecSpec.plain.varTypes Try.prog ++ Try.f12.resultTypes.toList).any (Try.prog.wideKeysFrom ·))) = true := by kernel_rfl
theorem jf18 : (Rows.receiversMatchSpecSpec.vars.all (Try.prog.varReadable ·)) = true := by kernel_rfl
theorem jf19 : (Try.f12.resultTypes.all (fun t => Try.prog.readableRec t && decide (t < Try.prog.types.size))) = true := by kernel_rfl
theorem jf20 : ((Rows.receiversMatchSpecRow.ifacesOut == Try.f12.resultTypes.toList.any (Try.prog.ifacesRec ·))) = true := by kernel_rfl
theorem jf21 : ((Rows.receiversMatchSpecRow.loopsOut == Try.f12.resultTypes.toList.any (Try.prog.loopsFrom ·))) = true := by kernel_rfl
theorem jf22 : ((Rows.receiversMatchSpecRow.plainKeys == Try.prog.plainKeys)) = true := by kernel_rfl
theorem jf23 : (Rows.receiversMatchSpecRow.shortTexts.isNone) = true := by kernel_rfl
theorem jf24 : (Try.prog.stopsHeard) = true := by kernel_rfl
theorem jf25 : (Try.prog.mayEnter) = true := jl25
theorem jf26 : ((Rows.receiversMatchSpecRow.lifted == Try.prog.liftsFinal)) = true := jl26
theorem jf27 : ((Try.prog.make == some Rows.receiversMatchSpecRow.make)) = true := jl27
theorem jf28 : ((Rows.receiversMatchSpecRow.kinds == (if Rows.receiversMatchSpecRow.domain.isEmpty then [] else Try.f12.params.toList.map fun t => match Try.prog.underlying t with | some (.int k) => some k | _ => none))) = true := by kernel_rfl
theorem jf29 : ((Rows.receiversMatchSpecRow.pinned == Rows.receiversMatchSpecRow.pinnedBy)) = true := by kernel_rfl
theorem jf30 : ((Rows.receiversMatchSpecRow.veiled == (Try.f12.params.toList ++ Rows.receiversMatchSpecSpec.plain.varTypes Try.prog ++ Try.f12.resultTypes.toList).any (Try.prog.veiledRec ·))) = true := by kernel_rfl
theorem jf31 : (Rows.receiversMatchSpecRow.veiledFits Try.prog Try.f12.params.toList (Try.f12.params.toList ++ Rows.receiversMatchSpecSpec.plain.varTypes Try.prog ++ Try.f12.resultTypes.toList)) = true := by kernel_rfl
theorem jfs : joinedFacts Try.pinned.checked.prog 12 Try.f12 Rows.receiversMatchSpecSpec Rows.receiversMatchSpecRow = true := (jand (jand (jand (jand (jand (jand (jand (jand (jand (jand (jand (jand (jand (jand (jand (jand (jand (jand (jand (jand (jand (jand (jand (jand (jand (jand (jand (jand (jand (jand (jand jf0 jf1) jf2) jf3) jf4) jf5) jf6) jf7) jf8) jf9) jf10) jf11) jf12) jf13) jf14) jf15) jf16) jf17) jf18) jf19) jf20) jf21) jf22) jf23) jf24) jf25) jf26) jf27) jf28) jf29) jf30) jf31)
theorem lawFacts : LawFacts Try.checked Rows.receiversMatchSpecSpec 12 Try.f12 [.int .i64, .prod (.int .i64) (.prod (.int .i64) (.prod (.int .i64) (.prod (.int .i64) (.prod (.int .i64) .unit)))), .prod (.int .i64) (.prod (.int .i64) (.prod .str (.prod (.slice (.int .u8)) (.prod (.slice (.prod (.int .i64) (.prod (.int .i64) .unit))) (.prod (.int .i64) (.prod (.int .i64) (.prod (.int .i64) (.prod (.int .i64) .unit)))))))), .prod (.int .i64) (.prod (.int .i64) (.prod .str (.prod (.int .i64) (.prod (.int .i64) (.prod (.int .i64) (.prod (.slice (.int .u8)) (.prod (.slice (.prod (.int .i64) (.prod (.int .i64) .unit))) (.prod .bool .unit))))))))] [3, 27, 48, 25] 4 where
  own := by kernel_rfl
  laid := by kernel_rfl
  noInit := by kernel_rfl
  func := by kernel_rfl
  vars := rfl
  params := by kernel_rfl
  opens := by kernel_rfl
  rowed := by kernel_rfl
  res := by kernel_rfl
  bool := by kernel_rfl
  spec := fun H ds h => by
    match ds, h with
    | [d0, d1, d2, d3], _ => rfl
theorem lifted (os : Os) (started : os.Started) (H : Type) (enc : TypeId × Value → H) :
    ReturnsInHanded {} Try.checked os 12 .any (Rows.receiversMatchSpecSpec.pre6 enc Try.prog Try.f12 Rows.receiversMatchSpecRow.domain false) (Rows.receiversMatchSpecSpec.post enc Try.prog Try.f12 false true false false) :=
  lifted_of lawFacts ttok fok pure started
    (ChangeSpec.witness6 (enc := enc) (C := Try.checked) false ⟨#[], #[.int .i64 0, .agg #[.int .i64 0, .int .i64 0, .int .i64 0, .int .i64 0, .int .i64 0], .agg #[.int .i64 0, .int .i64 0, .string ⟨#[]⟩, .slice none 0 0, .slice none 0 0, .int .i64 0, .int .i64 0, .int .i64 0, .int .i64 0], .agg #[.int .i64 0, .int .i64 0, .string ⟨#[]⟩, .int .i64 0, .int .i64 0, .int .i64 0, .slice none 0 0, .slice none 0 0, .bool false]], []⟩ 8 (by kernel_rfl) (by kernel_rfl) (by kernel_rfl) (by kernel_rfl))
theorem over : Rows.receiversMatchSpecRow.holds Try.pinned (OpenSpec.ofChange Rows.receiversMatchSpecSpec) :=
  OpenClaim.holds_of_wide 12 Try.f12 rfl rfl rfl rfl rfl rfl rfl ⟨rfl, rfl, rfl, rfl, rfl⟩ rfl rfl rfl rfl rfl (by kernel_rfl) Try.func12 jfs
    (of_decide_eq_true (by kernel_rfl)) (by unfold Func.isWrapper; first | (rw [if_pos (by decide +kernel)]; kernel_rfl) | (rw [if_neg (by decide +kernel)]; exact ⟨rfl, rfl⟩))
    (fun os started H enc _ => lifted os started H enc)
end Go.Proofs.Ytlcklflbhhnnhaa.PM
namespace Go.Proofs.Ytlcklflbhhnnhaa
/-- The row, under a short name, for the claim. -/
theorem receiversMatchSpec_holds : Rows.ReceiversMatchSpecSaid := PM.over
#print axioms receiversMatchSpec_holds
end Go.Proofs.Ytlcklflbhhnnhaa
