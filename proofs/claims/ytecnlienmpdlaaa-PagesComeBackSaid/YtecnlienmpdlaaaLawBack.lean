/- Every page that is encoded is decoded as it was, and with a flipped bit it is neither whole nor free: PagesComeBack returns true and leaves its arguments as they were. No condition. -/
import Derived.Test.YtecnlienmpdlaaaPuBack
import Derived.Test.YtecnlienmpdlaaaPmRow
import Derived.Test.YtecnlienmpdlaaaRows
import Derived.Test.YtecnlienmpdlaaaJfLib
namespace Go.Proofs.Ytecnlienmpdlaaa.PM
open Go
set_option maxRecDepth 100000
theorem jand {a b : Bool} (h1 : a = true) (h2 : b = true) : (a && b) = true := by rw [h1, h2]; rfl
theorem jf0 : (Rows.pagesComeBackRow.wf (OpenSpec.ofChange Rows.pagesComeBackSpec)) = true := by kernel_rfl
theorem jf1 : (laidOutB Try.prog) = true := by kernel_rfl
theorem jf2 : (mapsRowed Try.prog) = true := by kernel_rfl
theorem jf3 : (Try.f6.params.all (Try.prog.readableRec ·)) = true := by kernel_rfl
theorem jf4 : (namedTie Try.prog Rows.pagesComeBackRow.named Rows.pagesComeBackSpec.vars) = true := by kernel_rfl
theorem jf5 : ((Rows.pagesComeBackRow.stops == [])) = true := by kernel_rfl
theorem jf6 : ((Try.prog.stops == [])) = true := by kernel_rfl
theorem jf7 : ((Rows.pagesComeBackRow.knobs == [])) = true := by kernel_rfl
theorem jf8 : ((Try.prog.stopKnobs == [])) = true := by kernel_rfl
theorem jf9 : ((Rows.pagesComeBackRow.inPlace == Try.prog.inPlace 6)) = true := by kernel_rfl
theorem jf10 : ((Rows.pagesComeBackRow.unfollowed == Try.prog.unfollowed 6)) = true := by kernel_rfl
theorem jf11 : ((Rows.pagesComeBackRow.recurses == Try.prog.recurses 6)) = true := by kernel_rfl
theorem jf12 : ((Rows.pagesComeBackRow.named == Try.prog.varsNamed 6)) = true := by kernel_rfl
theorem jf13 : ((Rows.pagesComeBackRow.maps == (Try.f6.params.toList ++ Rows.pagesComeBackSpec.plain.varTypes Try.prog).any (Try.prog.mapsRec ·))) = true := by kernel_rfl
theorem jf14 : ((Rows.pagesComeBackRow.ifaces == (Try.f6.params.toList ++ Rows.pagesComeBackSpec.plain.varTypes Try.prog).any (Try.prog.ifacesRec ·))) = true := by kernel_rfl
theorem jf15 : ((Rows.pagesComeBackRow.mapsOut == Try.prog.mapsAmong Try.f6.resultTypes.toList)) = true := by kernel_rfl
theorem jf16 : ((Rows.pagesComeBackRow.loops == (Try.f6.params.toList ++ Rows.pagesComeBackSpec.plain.varTypes Try.prog).any (Try.prog.loopsFrom ·))) = true := by kernel_rfl
theorem jf17 : ((Rows.pagesComeBackRow.wideKeys == (Try.f6.params.toList ++ Rows.pagesComeBackSpec.plain.varTypes Try.prog ++ Try.f6.resultTypes.toList).any (Try.prog.wideKeysFrom ·))) = true := by kernel_rfl
theorem jf18 : (Rows.pagesComeBackSpec.vars.all (Try.prog.varReadable ·)) = true := by kernel_rfl
theorem jf19 : (Try.f6.resultTypes.all (fun t => Try.prog.readableRec t && decide (t < Try.prog.types.size))) = true := by kernel_rfl
theorem jf20 : ((Rows.pagesComeBackRow.ifacesOut == Try.f6.resultTypes.toList.any (Try.prog.ifacesRec ·))) = true := by kernel_rfl
theorem jf21 : ((Rows.pagesComeBackRow.loopsOut == Try.f6.resultTypes.toList.any (Try.prog.loopsFrom ·))) = true := by kernel_rfl
theorem jf22 : ((Rows.pagesComeBackRow.plainKeys == Try.prog.plainKeys)) = true := by kernel_rfl
theorem jf23 : (Rows.pagesComeBackRow.shortTexts.isNone) = true := by kernel_rfl
theorem jf24 : (Try.prog.stopsHeard) = true := by kernel_rfl
theorem jf25 : (Try.prog.mayEnter) = true := jl25
theorem jf26 : ((Rows.pagesComeBackRow.lifted == Try.prog.liftsFinal)) = true := jl26
theorem jf27 : ((Try.prog.make == some Rows.pagesComeBackRow.make)) = true := jl27
theorem jf28 : ((Rows.pagesComeBackRow.kinds == (if Rows.pagesComeBackRow.domain.isEmpty then [] else Try.f6.params.toList.map fun t => match Try.prog.underlying t with | some (.int k) => some k | _ => none))) = true := by kernel_rfl
theorem jf29 : ((Rows.pagesComeBackRow.pinned == Rows.pagesComeBackRow.pinnedBy)) = true := by kernel_rfl
theorem jf30 : ((Rows.pagesComeBackRow.veiled == (Try.f6.params.toList ++ Rows.pagesComeBackSpec.plain.varTypes Try.prog ++ Try.f6.resultTypes.toList).any (Try.prog.veiledRec ·))) = true := by kernel_rfl
theorem jf31 : (Rows.pagesComeBackRow.veiledFits Try.prog Try.f6.params.toList (Try.f6.params.toList ++ Rows.pagesComeBackSpec.plain.varTypes Try.prog ++ Try.f6.resultTypes.toList)) = true := by kernel_rfl
theorem jfs : joinedFacts Try.pinned.checked.prog 6 Try.f6 Rows.pagesComeBackSpec Rows.pagesComeBackRow = true := (jand (jand (jand (jand (jand (jand (jand (jand (jand (jand (jand (jand (jand (jand (jand (jand (jand (jand (jand (jand (jand (jand (jand (jand (jand (jand (jand (jand (jand (jand (jand jf0 jf1) jf2) jf3) jf4) jf5) jf6) jf7) jf8) jf9) jf10) jf11) jf12) jf13) jf14) jf15) jf16) jf17) jf18) jf19) jf20) jf21) jf22) jf23) jf24) jf25) jf26) jf27) jf28) jf29) jf30) jf31)
theorem lawFacts : LawFacts Try.checked Rows.pagesComeBackSpec 6 Try.f6 [.int .i64, .prod (.int .i64) (.prod .bool (.prod .str (.prod (.int .i64) (.prod .bool (.prod (.slice (.int .u8)) .unit))))), .int .i64] [3, 37, 3] 4 where
  own := by kernel_rfl
  laid := by kernel_rfl
  noInit := by kernel_rfl
  func := by kernel_rfl
  vars := rfl
  params := by kernel_rfl
  opens := by kernel_rfl
  rowed := by kernel_rfl
  res := by kernel_rfl
  bool := by kernel_rfl
  spec := fun H ds h => by
    match ds, h with
    | [d0, d1, d2], _ => rfl
theorem lifted (os : Os) (started : os.Started) (H : Type) (enc : TypeId × Value → H) :
    ReturnsInHanded {} Try.checked os 6 .any (Rows.pagesComeBackSpec.pre6 enc Try.prog Try.f6 Rows.pagesComeBackRow.domain false) (Rows.pagesComeBackSpec.post enc Try.prog Try.f6 false true false false) :=
  lifted_of lawFacts ttok fok pure started
    (ChangeSpec.witness6 (enc := enc) (C := Try.checked) false ⟨#[], #[.int .i64 0, .agg #[.int .i64 0, .bool false, .string ⟨#[]⟩, .int .i64 0, .bool false, .slice none 0 0], .int .i64 0], []⟩ 8 (by kernel_rfl) (by kernel_rfl) (by kernel_rfl) (by kernel_rfl))
theorem over : Rows.pagesComeBackRow.holds Try.pinned (OpenSpec.ofChange Rows.pagesComeBackSpec) :=
  OpenClaim.holds_of_wide 6 Try.f6 rfl rfl rfl rfl rfl rfl rfl ⟨rfl, rfl, rfl, rfl, rfl⟩ rfl rfl rfl rfl rfl (by kernel_rfl) Try.func6 jfs
    (of_decide_eq_true (by kernel_rfl)) (by unfold Func.isWrapper; first | (rw [if_pos (by decide +kernel)]; kernel_rfl) | (rw [if_neg (by decide +kernel)]; exact ⟨rfl, rfl⟩))
    (fun os started H enc _ => lifted os started H enc)
end Go.Proofs.Ytecnlienmpdlaaa.PM
namespace Go.Proofs.Ytecnlienmpdlaaa
/-- The row, under a short name, for the claim. -/
theorem pagesComeBack_holds : Rows.PagesComeBackSaid := PM.over
#print axioms pagesComeBack_holds
end Go.Proofs.Ytecnlienmpdlaaa
