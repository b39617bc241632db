/- It does not matter which list of spans comes first, a list joined with itself is this list, and what is joined has both: SpansJoinEven returns true and leaves its arguments as they were. No condition. -/
import Derived.Test.YtlcklflbhhnnhaaPuEven
import Derived.Test.YtlcklflbhhnnhaaPmRow
import Derived.Test.YtlcklflbhhnnhaaRows
import Derived.Test.YtlcklflbhhnnhaaJfLib
namespace Go.Proofs.Ytlcklflbhhnnhaa.PM
open Go
set_option maxRecDepth 100000
theorem jand {a b : Bool} (h1 : a = true) (h2 : b = true) : (a && b) = true := by rw [h1, h2]; rfl
theorem jf0 : (Rows.spansJoinEvenRow.wf (OpenSpec.ofChange Rows.spansJoinEvenSpec)) = true := by kernel_rfl
theorem jf1 : (laidOutB Try.prog) = true := by kernel_rfl
theorem jf2 : (mapsRowed Try.prog) = true := by kernel_rfl
theorem jf3 : (Try.f6.params.all (Try.prog.readableRec ·)) = true := by kernel_rfl
theorem jf4 : (namedTie Try.prog Rows.spansJoinEvenRow.named Rows.spansJoinEvenSpec.vars) = true := by kernel_rfl
theorem jf5 : ((Rows.spansJoinEvenRow.stops == [])) = true := by kernel_rfl
theorem jf6 : ((Try.prog.stops == [])) = true := by kernel_rfl
theorem jf7 : ((Rows.spansJoinEvenRow.knobs == [])) = true := by kernel_rfl
theorem jf8 : ((Try.prog.stopKnobs == [])) = true := by kernel_rfl
theorem jf9 : ((Rows.spansJoinEvenRow.inPlace == Try.prog.inPlace 6)) = true := by kernel_rfl
theorem jf10 : ((Rows.spansJoinEvenRow.unfollowed == Try.prog.unfollowed 6)) = true := by kernel_rfl
theorem jf11 : ((Rows.spansJoinEvenRow.recurses == Try.prog.recurses 6)) = true := by kernel_rfl
theorem jf12 : ((Rows.spansJoinEvenRow.named == Try.prog.varsNamed 6)) = true := by kernel_rfl
theorem jf13 : ((Rows.spansJoinEvenRow.maps == (Try.f6.params.toList ++ Rows.spansJoinEvenSpec.plain.varTypes Try.prog).any (Try.prog.mapsRec ·))) = true := by kernel_rfl
theorem jf14 : ((Rows.spansJoinEvenRow.ifaces == (Try.f6.params.toList ++ Rows.spansJoinEvenSpec.plain.varTypes Try.prog).any (Try.prog.ifacesRec ·))) = true := by kernel_rfl
theorem jf15 : ((Rows.spansJoinEvenRow.mapsOut == Try.prog.mapsAmong Try.f6.resultTypes.toList)) = true := by kernel_rfl
theorem jf16 : ((Rows.spansJoinEvenRow.loops == (Try.f6.params.toList ++ Rows.spansJoinEvenSpec.plain.varTypes Try.prog).any (Try.prog.loopsFrom ·))) = true := by kernel_rfl
theorem jf17 : ((Rows.spansJoinEvenRow.wideKeys == (Try.f6.params.toList ++ Rows.spansJoinEvenSpec.plain.varTypes Try.prog ++ Try.f6.resultTypes.toList).any (Try.prog.wideKeysFrom ·))) = true := by kernel_rfl
theorem jf18 : (Rows.spansJoinEvenSpec.vars.all (Try.prog.varReadable ·)) = true := by kernel_rfl
theorem jf19 : (Try.f6.resultTypes.all (fun t => Try.prog.readableRec t && decide (t < Try.prog.types.size))) = true := by kernel_rfl
theorem jf20 : ((Rows.spansJoinEvenRow.ifacesOut == Try.f6.resultTypes.toList.any (Try.prog.ifacesRec ·))) = true := by kernel_rfl
theorem jf21 : ((Rows.spansJoinEvenRow.loopsOut == Try.f6.resultTypes.toList.any (Try.prog.loopsFrom ·))) = true := by kernel_rfl
theorem jf22 : ((Rows.spansJoinEvenRow.plainKeys == Try.prog.plainKeys)) = true := by kernel_rfl
theorem jf23 : (Rows.spansJoinEvenRow.shortTexts.isNone) = true := by kernel_rfl
theorem jf24 : (Try.prog.stopsHeard) = true := by kernel_rfl
theorem jf25 : (Try.prog.mayEnter) = true := jl25
theorem jf26 : ((Rows.spansJoinEvenRow.lifted == Try.prog.liftsFinal)) = true := jl26
theorem jf27 : ((Try.prog.make == some Rows.spansJoinEvenRow.make)) = true := jl27
theorem jf28 : ((Rows.spansJoinEvenRow.kinds == (if Rows.spansJoinEvenRow.domain.isEmpty then [] else Try.f6.params.toList.map fun t => match Try.prog.underlying t with | some (.int k) => some k | _ => none))) = true := by kernel_rfl
theorem jf29 : ((Rows.spansJoinEvenRow.pinned == Rows.spansJoinEvenRow.pinnedBy)) = true := by kernel_rfl
theorem jf30 : ((Rows.spansJoinEvenRow.veiled == (Try.f6.params.toList ++ Rows.spansJoinEvenSpec.plain.varTypes Try.prog ++ Try.f6.resultTypes.toList).any (Try.prog.veiledRec ·))) = true := by kernel_rfl
theorem jf31 : (Rows.spansJoinEvenRow.veiledFits Try.prog Try.f6.params.toList (Try.f6.params.toList ++ Rows.spansJoinEvenSpec.plain.varTypes Try.prog ++ Try.f6.resultTypes.toList)) = true := by kernel_rfl
theorem jfs : joinedFacts Try.pinned.checked.prog 6 Try.f6 Rows.spansJoinEvenSpec Rows.spansJoinEvenRow = true := (jand (jand (jand (jand (jand (jand (jand (jand (jand (jand (jand (jand (jand (jand (jand (jand (jand (jand (jand (jand (jand (jand (jand (jand (jand (jand (jand (jand (jand (jand (jand jf0 jf1) jf2) jf3) jf4) jf5) jf6) jf7) jf8) jf9) jf10) jf11) jf12) jf13) jf14) jf15) jf16) jf17) jf18) jf19) jf20) jf21) jf22) jf23) jf24) jf25) jf26) jf27) jf28) jf29) jf30) jf31)
theorem lawFacts : LawFacts Try.checked Rows.spansJoinEvenSpec 6 Try.f6 [.slice (.prod (.int .i64) (.prod (.int .i64) .unit)), .slice (.prod (.int .i64) (.prod (.int .i64) .unit)), .int .i64] [23, 23, 3] 4 where
  own := by kernel_rfl
  laid := by kernel_rfl
  noInit := by kernel_rfl
  func := by kernel_rfl
  vars := rfl
  params := by kernel_rfl
  opens := by kernel_rfl
  rowed := by kernel_rfl
  res := by kernel_rfl
  bool := by kernel_rfl
  spec := fun H ds h => by
    match ds, h with
    | [d0, d1, d2], _ => rfl
theorem lifted (os : Os) (started : os.Started) (H : Type) (enc : TypeId × Value → H) :
    ReturnsInHanded {} Try.checked os 6 .any (Rows.spansJoinEvenSpec.pre6 enc Try.prog Try.f6 Rows.spansJoinEvenRow.domain false) (Rows.spansJoinEvenSpec.post enc Try.prog Try.f6 false true false false) :=
  lifted_of lawFacts ttok fok pure started
    (ChangeSpec.witness6 (enc := enc) (C := Try.checked) false ⟨#[], #[.slice none 0 0, .slice none 0 0, .int .i64 0], []⟩ 8 (by kernel_rfl) (by kernel_rfl) (by kernel_rfl) (by kernel_rfl))
theorem over : Rows.spansJoinEvenRow.holds Try.pinned (OpenSpec.ofChange Rows.spansJoinEvenSpec) :=
  OpenClaim.holds_of_wide 6 Try.f6 rfl rfl rfl rfl rfl rfl rfl ⟨rfl, rfl, rfl, rfl, rfl⟩ rfl rfl rfl rfl rfl (by kernel_rfl) Try.func6 jfs
    (of_decide_eq_true (by kernel_rfl)) (by unfold Func.isWrapper; first | (rw [if_pos (by decide +kernel)]; kernel_rfl) | (rw [if_neg (by decide +kernel)]; exact ⟨rfl, rfl⟩))
    (fun os started H enc _ => lifted os started H enc)
end Go.Proofs.Ytlcklflbhhnnhaa.PM
namespace Go.Proofs.Ytlcklflbhhnnhaa
/-- The row, under a short name, for the claim. -/
theorem spansJoinEven_holds : Rows.SpansJoinEvenSaid := PM.over
#print axioms spansJoinEven_holds
end Go.Proofs.Ytlcklflbhhnnhaa
