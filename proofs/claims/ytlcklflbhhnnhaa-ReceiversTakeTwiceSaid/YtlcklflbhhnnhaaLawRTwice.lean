/- The same data letter a second time changes nothing more: ReceiversTakeTwice returns true and leaves its arguments as they were. No condition. -/
import Derived.Test.YtlcklflbhhnnhaaPuRTwice
import Derived.Test.YtlcklflbhhnnhaaPmRow
import Derived.Test.YtlcklflbhhnnhaaRows
import Derived.Test.YtlcklflbhhnnhaaJfLib
namespace Go.Proofs.Ytlcklflbhhnnhaa.PM
open Go
set_option maxRecDepth 100000
theorem jand {a b : Bool} (h1 : a = true) (h2 : b = true) : (a && b) = true := by rw [h1, h2]; rfl
theorem jf0 : (Rows.receiversTakeTwiceRow.wf (OpenSpec.ofChange Rows.receiversTakeTwiceSpec)) = true := by kernel_rfl
theorem jf1 : (laidOutB Try.prog) = true := by kernel_rfl
theorem jf2 : (mapsRowed Try.prog) = true := by kernel_rfl
theorem jf3 : (Try.f11.params.all (Try.prog.readableRec ·)) = true := by kernel_rfl
theorem jf4 : (namedTie Try.prog Rows.receiversTakeTwiceRow.named Rows.receiversTakeTwiceSpec.vars) = true := by kernel_rfl
theorem jf5 : ((Rows.receiversTakeTwiceRow.stops == [])) = true := by kernel_rfl
theorem jf6 : ((Try.prog.stops == [])) = true := by kernel_rfl
theorem jf7 : ((Rows.receiversTakeTwiceRow.knobs == [])) = true := by kernel_rfl
theorem jf8 : ((Try.prog.stopKnobs == [])) = true := by kernel_rfl
theorem jf9 : ((Rows.receiversTakeTwiceRow.inPlace == Try.prog.inPlace 11)) = true := by kernel_rfl
theorem jf10 : ((Rows.receiversTakeTwiceRow.unfollowed == Try.prog.unfollowed 11)) = true := by kernel_rfl
theorem jf11 : ((Rows.receiversTakeTwiceRow.recurses == Try.prog.recurses 11)) = true := by kernel_rfl
theorem jf12 : ((Rows.receiversTakeTwiceRow.named == Try.prog.varsNamed 11)) = true := by kernel_rfl
theorem jf13 : ((Rows.receiversTakeTwiceRow.maps == (Try.f11.params.toList ++ Rows.receiversTakeTwiceSpec.plain.varTypes Try.prog).any (Try.prog.mapsRec ·))) = true := by kernel_rfl
theorem jf14 : ((Rows.receiversTakeTwiceRow.ifaces == (Try.f11.params.toList ++ Rows.receiversTakeTwiceSpec.plain.varTypes Try.prog).any (Try.prog.ifacesRec ·))) = true := by kernel_rfl
theorem jf15 : ((Rows.receiversTakeTwiceRow.mapsOut == Try.prog.mapsAmong Try.f11.resultTypes.toList)) = true := by kernel_rfl
theorem jf16 : ((Rows.receiversTakeTwiceRow.loops == (Try.f11.params.toList ++ Rows.receiversTakeTwiceSpec.plain.varTypes Try.prog).any (Try.prog.loopsFrom ·))) = true := by kernel_rfl
theorem jf17 : ((Rows.receiversTakeTwiceRow.wideKeys == (Try.f11.params.toList ++ Rows.receiversTakeTwiceSpec.plain.varTypes Try.prog ++ Try.f11.resultTypes.toList).any (Try.prog.wideKeysFrom ·))) = true := by kernel_rfl
theorem jf18 : (Rows.receiversTakeTwiceSpec.vars.all (Try.prog.varReadable ·)) = true := by kernel_rfl
theorem jf19 : (Try.f11.resultTypes.all (fun t => Try.prog.readableRec t && decide (t < Try.prog.types.size))) = true := by kernel_rfl
theorem jf20 : ((Rows.receiversTakeTwiceRow.ifacesOut == Try.f11.resultTypes.toList.any (Try.prog.ifacesRec ·))) = true := by kernel_rfl
theorem jf21 : ((Rows.receiversTakeTwiceRow.loopsOut == Try.f11.resultTypes.toList.any (Try.prog.loopsFrom ·))) = true := by kernel_rfl
theorem jf22 : ((Rows.receiversTakeTwiceRow.plainKeys == Try.prog.plainKeys)) = true := by kernel_rfl
theorem jf23 : (Rows.receiversTakeTwiceRow.shortTexts.isNone) = true := by kernel_rfl
theorem jf24 : (Try.prog.stopsHeard) = true := by kernel_rfl
theorem jf25 : (Try.prog.mayEnter) = true := jl25
theorem jf26 : ((Rows.receiversTakeTwiceRow.lifted == Try.prog.liftsFinal)) = true := jl26
theorem jf27 : ((Try.prog.make == some Rows.receiversTakeTwiceRow.make)) = true := jl27
theorem jf28 : ((Rows.receiversTakeTwiceRow.kinds == (if Rows.receiversTakeTwiceRow.domain.isEmpty then [] else Try.f11.params.toList.map fun t => match Try.prog.underlying t with | some (.int k) => some k | _ => none))) = true := by kernel_rfl
theorem jf29 : ((Rows.receiversTakeTwiceRow.pinned == Rows.receiversTakeTwiceRow.pinnedBy)) = true := by kernel_rfl
theorem jf30 : ((Rows.receiversTakeTwiceRow.veiled == (Try.f11.params.toList ++ Rows.receiversTakeTwiceSpec.plain.varTypes Try.prog ++ Try.f11.resultTypes.toList).any (Try.prog.veiledRec ·))) = true := by kernel_rfl
theorem jf31 : (Rows.receiversTakeTwiceRow.veiledFits Try.prog Try.f11.params.toList (Try.f11.params.toList ++ Rows.receiversTakeTwiceSpec.plain.varTypes Try.prog ++ Try.f11.resultTypes.toList)) = true := by kernel_rfl
theorem jfs : joinedFacts Try.pinned.checked.prog 11 Try.f11 Rows.receiversTakeTwiceSpec Rows.receiversTakeTwiceRow = true := (jand (jand (jand (jand (jand (jand (jand (jand (jand (jand (jand (jand (jand (jand (jand (jand (jand (jand (jand (jand (jand (jand (jand (jand (jand (jand (jand (jand (jand (jand (jand jf0 jf1) jf2) jf3) jf4) jf5) jf6) jf7) jf8) jf9) jf10) jf11) jf12) jf13) jf14) jf15) jf16) jf17) jf18) jf19) jf20) jf21) jf22) jf23) jf24) jf25) jf26) jf27) jf28) jf29) jf30) jf31)
theorem lawFacts : LawFacts Try.checked Rows.receiversTakeTwiceSpec 11 Try.f11 [.prod (.int .i64) (.prod (.int .i64) (.prod (.int .i64) (.prod (.int .i64) (.prod (.int .i64) .unit)))), .prod (.int .i64) (.prod (.int .i64) (.prod .str (.prod (.slice (.int .u8)) (.prod (.slice (.prod (.int .i64) (.prod (.int .i64) .unit))) (.prod (.int .i64) (.prod (.int .i64) (.prod (.int .i64) (.prod (.int .i64) .unit)))))))), .prod (.int .i64) (.prod (.int .i64) (.prod .str (.prod (.int .i64) (.prod (.int .i64) (.prod (.int .i64) (.prod (.slice (.int .u8)) (.prod (.slice (.prod (.int .i64) (.prod (.int .i64) .unit))) (.prod .bool .unit))))))))] [27, 48, 25] 4 where
  own := by kernel_rfl
  laid := by kernel_rfl
  noInit := by kernel_rfl
  func := by kernel_rfl
  vars := rfl
  params := by kernel_rfl
  opens := by kernel_rfl
  rowed := by kernel_rfl
  res := by kernel_rfl
  bool := by kernel_rfl
  spec := fun H ds h => by
    match ds, h with
    | [d0, d1, d2], _ => rfl
theorem lifted (os : Os) (started : os.Started) (H : Type) (enc : TypeId × Value → H) :
    ReturnsInHanded {} Try.checked os 11 .any (Rows.receiversTakeTwiceSpec.pre6 enc Try.prog Try.f11 Rows.receiversTakeTwiceRow.domain false) (Rows.receiversTakeTwiceSpec.post enc Try.prog Try.f11 false true false false) :=
  lifted_of lawFacts ttok fok pure started
    (ChangeSpec.witness6 (enc := enc) (C := Try.checked) false ⟨#[], #[.agg #[.int .i64 0, .int .i64 0, .int .i64 0, .int .i64 0, .int .i64 0], .agg #[.int .i64 0, .int .i64 0, .string ⟨#[]⟩, .slice none 0 0, .slice none 0 0, .int .i64 0, .int .i64 0, .int .i64 0, .int .i64 0], .agg #[.int .i64 0, .int .i64 0, .string ⟨#[]⟩, .int .i64 0, .int .i64 0, .int .i64 0, .slice none 0 0, .slice none 0 0, .bool false]], []⟩ 8 (by kernel_rfl) (by kernel_rfl) (by kernel_rfl) (by kernel_rfl))
theorem over : Rows.receiversTakeTwiceRow.holds Try.pinned (OpenSpec.ofChange Rows.receiversTakeTwiceSpec) :=
  OpenClaim.holds_of_wide 11 Try.f11 rfl rfl rfl rfl rfl rfl rfl ⟨rfl, rfl, rfl, rfl, rfl⟩ rfl rfl rfl rfl rfl (by kernel_rfl) Try.func11 jfs
    (of_decide_eq_true (by kernel_rfl)) (by unfold Func.isWrapper; first | (rw [if_pos (by decide +kernel)]; kernel_rfl) | (rw [if_neg (by decide +kernel)]; exact ⟨rfl, rfl⟩))
    (fun os started H enc _ => lifted os started H enc)
end Go.Proofs.Ytlcklflbhhnnhaa.PM
namespace Go.Proofs.Ytlcklflbhhnnhaa
/-- The row, under a short name, for the claim. -/
theorem receiversTakeTwice_holds : Rows.ReceiversTakeTwiceSaid := PM.over
#print axioms receiversTakeTwice_holds
end Go.Proofs.Ytlcklflbhhnnhaa
