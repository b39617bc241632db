/- What a sender becomes by a tick, a letter or a start is a right sender of the same file, and all its letters are right ones: SendersStayRight returns true and leaves its arguments as they were. No condition. -/
import Derived.Test.YtlcklflbhhnnhaaPuStay
import Derived.Test.YtlcklflbhhnnhaaPmRow
import Derived.Test.YtlcklflbhhnnhaaRows
import Derived.Test.YtlcklflbhhnnhaaJfLib
namespace Go.Proofs.Ytlcklflbhhnnhaa.PM
open Go
set_option maxRecDepth 100000
theorem jand {a b : Bool} (h1 : a = true) (h2 : b = true) : (a && b) = true := by rw [h1, h2]; rfl
theorem jf0 : (Rows.sendersStayRightRow.wf (OpenSpec.ofChange Rows.sendersStayRightSpec)) = true := by kernel_rfl
theorem jf1 : (laidOutB Try.prog) = true := by kernel_rfl
theorem jf2 : (mapsRowed Try.prog) = true := by kernel_rfl
theorem jf3 : (Try.f10.params.all (Try.prog.readableRec ·)) = true := by kernel_rfl
theorem jf4 : (namedTie Try.prog Rows.sendersStayRightRow.named Rows.sendersStayRightSpec.vars) = true := by kernel_rfl
theorem jf5 : ((Rows.sendersStayRightRow.stops == [])) = true := by kernel_rfl
theorem jf6 : ((Try.prog.stops == [])) = true := by kernel_rfl
theorem jf7 : ((Rows.sendersStayRightRow.knobs == [])) = true := by kernel_rfl
theorem jf8 : ((Try.prog.stopKnobs == [])) = true := by kernel_rfl
theorem jf9 : ((Rows.sendersStayRightRow.inPlace == Try.prog.inPlace 10)) = true := by kernel_rfl
theorem jf10 : ((Rows.sendersStayRightRow.unfollowed == Try.prog.unfollowed 10)) = true := by kernel_rfl
theorem jf11 : ((Rows.sendersStayRightRow.recurses == Try.prog.recurses 10)) = true := by kernel_rfl
theorem jf12 : ((Rows.sendersStayRightRow.named == Try.prog.varsNamed 10)) = true := by kernel_rfl
theorem jf13 : ((Rows.sendersStayRightRow.maps == (Try.f10.params.toList ++ Rows.sendersStayRightSpec.plain.varTypes Try.prog).any (Try.prog.mapsRec ·))) = true := by kernel_rfl
theorem jf14 : ((Rows.sendersStayRightRow.ifaces == (Try.f10.params.toList ++ Rows.sendersStayRightSpec.plain.varTypes Try.prog).any (Try.prog.ifacesRec ·))) = true := by kernel_rfl
theorem jf15 : ((Rows.sendersStayRightRow.mapsOut == Try.prog.mapsAmong Try.f10.resultTypes.toList)) = true := by kernel_rfl
theorem jf16 : ((Rows.sendersStayRightRow.loops == (Try.f10.params.toList ++ Rows.sendersStayRightSpec.plain.varTypes Try.prog).any (Try.prog.loopsFrom ·))) = true := by kernel_rfl
theorem jf17 : ((Rows.sendersStayRightRow.wideKeys == (Try.f10.params.toList ++ Rows.sendersStayRightSpec.plain.varTypes Try.prog ++ Try.f10.resultTypes.toList).any (Try.prog.wideKeysFrom ·))) = true := by kernel_rfl
theorem jf18 : (Rows.sendersStayRightSpec.vars.all (Try.prog.varReadable ·)) = true := by kernel_rfl
theorem jf19 : (Try.f10.resultTypes.all (fun t => Try.prog.readableRec t && decide (t < Try.prog.types.size))) = true := by kernel_rfl
theorem jf20 : ((Rows.sendersStayRightRow.ifacesOut == Try.f10.resultTypes.toList.any (Try.prog.ifacesRec ·))) = true := by kernel_rfl
theorem jf21 : ((Rows.sendersStayRightRow.loopsOut == Try.f10.resultTypes.toList.any (Try.prog.loopsFrom ·))) = true := by kernel_rfl
theorem jf22 : ((Rows.sendersStayRightRow.plainKeys == Try.prog.plainKeys)) = true := by kernel_rfl
theorem jf23 : (Rows.sendersStayRightRow.shortTexts.isNone) = true := by kernel_rfl
theorem jf24 : (Try.prog.stopsHeard) = true := by kernel_rfl
theorem jf25 : (Try.prog.mayEnter) = true := jl25
theorem jf26 : ((Rows.sendersStayRightRow.lifted == Try.prog.liftsFinal)) = true := jl26
theorem jf27 : ((Try.prog.make == some Rows.sendersStayRightRow.make)) = true := jl27
theorem jf28 : ((Rows.sendersStayRightRow.kinds == (if Rows.sendersStayRightRow.domain.isEmpty then [] else Try.f10.params.toList.map fun t => match Try.prog.underlying t with | some (.int k) => some k | _ => none))) = true := by kernel_rfl
theorem jf29 : ((Rows.sendersStayRightRow.pinned == Rows.sendersStayRightRow.pinnedBy)) = true := by kernel_rfl
theorem jf30 : ((Rows.sendersStayRightRow.veiled == (Try.f10.params.toList ++ Rows.sendersStayRightSpec.plain.varTypes Try.prog ++ Try.f10.resultTypes.toList).any (Try.prog.veiledRec ·))) = true := by kernel_rfl
theorem jf31 : (Rows.sendersStayRightRow.veiledFits Try.prog Try.f10.params.toList (Try.f10.params.toList ++ Rows.sendersStayRightSpec.plain.varTypes Try.prog ++ Try.f10.resultTypes.toList)) = true := by kernel_rfl
theorem jfs : joinedFacts Try.pinned.checked.prog 10 Try.f10 Rows.sendersStayRightSpec Rows.sendersStayRightRow = true := (jand (jand (jand (jand (jand (jand (jand (jand (jand (jand (jand (jand (jand (jand (jand (jand (jand (jand (jand (jand (jand (jand (jand (jand (jand (jand (jand (jand (jand (jand (jand jf0 jf1) jf2) jf3) jf4) jf5) jf6) jf7) jf8) jf9) jf10) jf11) jf12) jf13) jf14) jf15) jf16) jf17) jf18) jf19) jf20) jf21) jf22) jf23) jf24) jf25) jf26) jf27) jf28) jf29) jf30) jf31)
theorem lawFacts : LawFacts Try.checked Rows.sendersStayRightSpec 10 Try.f10 [.prod (.int .i64) (.prod (.int .i64) (.prod (.int .i64) (.prod (.int .i64) (.prod (.int .i64) .unit)))), .prod (.int .i64) (.prod (.int .i64) (.prod .str (.prod (.slice (.int .u8)) (.prod (.int .i64) (.prod (.slice (.prod (.int .i64) (.prod (.int .i64) .unit))) (.prod (.int .i64) (.prod (.int .i64) .unit))))))), .prod (.int .i64) (.prod (.int .i64) (.prod .str (.prod (.int .i64) (.prod (.int .i64) (.prod (.int .i64) (.prod (.slice (.int .u8)) (.prod (.slice (.prod (.int .i64) (.prod (.int .i64) .unit))) (.prod .bool .unit))))))))] [27, 36, 25] 4 where
  own := by kernel_rfl
  laid := by kernel_rfl
  noInit := by kernel_rfl
  func := by kernel_rfl
  vars := rfl
  params := by kernel_rfl
  opens := by kernel_rfl
  rowed := by kernel_rfl
  res := by kernel_rfl
  bool := by kernel_rfl
  spec := fun H ds h => by
    match ds, h with
    | [d0, d1, d2], _ => rfl
theorem lifted (os : Os) (started : os.Started) (H : Type) (enc : TypeId × Value → H) :
    ReturnsInHanded {} Try.checked os 10 .any (Rows.sendersStayRightSpec.pre6 enc Try.prog Try.f10 Rows.sendersStayRightRow.domain false) (Rows.sendersStayRightSpec.post enc Try.prog Try.f10 false true false false) :=
  lifted_of lawFacts ttok fok pure started
    (ChangeSpec.witness6 (enc := enc) (C := Try.checked) false ⟨#[], #[.agg #[.int .i64 0, .int .i64 0, .int .i64 0, .int .i64 0, .int .i64 0], .agg #[.int .i64 0, .int .i64 0, .string ⟨#[]⟩, .slice none 0 0, .int .i64 0, .slice none 0 0, .int .i64 0, .int .i64 0], .agg #[.int .i64 0, .int .i64 0, .string ⟨#[]⟩, .int .i64 0, .int .i64 0, .int .i64 0, .slice none 0 0, .slice none 0 0, .bool false]], []⟩ 8 (by kernel_rfl) (by kernel_rfl) (by kernel_rfl) (by kernel_rfl))
theorem over : Rows.sendersStayRightRow.holds Try.pinned (OpenSpec.ofChange Rows.sendersStayRightSpec) :=
  OpenClaim.holds_of_wide 10 Try.f10 rfl rfl rfl rfl rfl rfl rfl ⟨rfl, rfl, rfl, rfl, rfl⟩ rfl rfl rfl rfl rfl (by kernel_rfl) Try.func10 jfs
    (of_decide_eq_true (by kernel_rfl)) (by unfold Func.isWrapper; first | (rw [if_pos (by decide +kernel)]; kernel_rfl) | (rw [if_neg (by decide +kernel)]; exact ⟨rfl, rfl⟩))
    (fun os started H enc _ => lifted os started H enc)
end Go.Proofs.Ytlcklflbhhnnhaa.PM
namespace Go.Proofs.Ytlcklflbhhnnhaa
/-- The row, under a short name, for the claim. -/
theorem sendersStayRight_holds : Rows.SendersStayRightSaid := PM.over
#print axioms sendersStayRight_holds
end Go.Proofs.Ytlcklflbhhnnhaa
