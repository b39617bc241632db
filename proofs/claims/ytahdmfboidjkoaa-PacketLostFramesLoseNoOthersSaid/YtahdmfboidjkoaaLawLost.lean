/- If some frames are lost, what comes back is a part of what was packed, in order: PacketLostFramesLoseNoOthers returns true and leaves its arguments as they were. No condition. -/
import Derived.Test.YtahdmfboidjkoaaPuLost
import Derived.Test.YtahdmfboidjkoaaPmRow
import Derived.Test.YtahdmfboidjkoaaRows
import Derived.Test.YtahdmfboidjkoaaJfLib
namespace Go.Proofs.Ytahdmfboidjkoaa.PM
open Go
set_option maxRecDepth 100000
theorem jand {a b : Bool} (h1 : a = true) (h2 : b = true) : (a && b) = true := by rw [h1, h2]; rfl
theorem jf0 : (Rows.packetLostFramesLoseNoOthersRow.wf (OpenSpec.ofChange Rows.packetLostFramesLoseNoOthersSpec)) = true := by kernel_rfl
theorem jf1 : (laidOutB Try.prog) = true := by kernel_rfl
theorem jf2 : (mapsRowed Try.prog) = true := by kernel_rfl
theorem jf3 : (Try.f15.params.all (Try.prog.readableRec ·)) = true := by kernel_rfl
theorem jf4 : (namedTie Try.prog Rows.packetLostFramesLoseNoOthersRow.named Rows.packetLostFramesLoseNoOthersSpec.vars) = true := by kernel_rfl
theorem jf5 : ((Rows.packetLostFramesLoseNoOthersRow.stops == [])) = true := by kernel_rfl
theorem jf6 : ((Try.prog.stops == [])) = true := by kernel_rfl
theorem jf7 : ((Rows.packetLostFramesLoseNoOthersRow.knobs == [])) = true := by kernel_rfl
theorem jf8 : ((Try.prog.stopKnobs == [])) = true := by kernel_rfl
theorem jf9 : ((Rows.packetLostFramesLoseNoOthersRow.inPlace == Try.prog.inPlace 15)) = true := by kernel_rfl
theorem jf10 : ((Rows.packetLostFramesLoseNoOthersRow.unfollowed == Try.prog.unfollowed 15)) = true := by kernel_rfl
theorem jf11 : ((Rows.packetLostFramesLoseNoOthersRow.recurses == Try.prog.recurses 15)) = true := by kernel_rfl
theorem jf12 : ((Rows.packetLostFramesLoseNoOthersRow.named == Try.prog.varsNamed 15)) = true := by kernel_rfl
theorem jf13 : ((Rows.packetLostFramesLoseNoOthersRow.maps == (Try.f15.params.toList ++ Rows.packetLostFramesLoseNoOthersSpec.plain.varTypes Try.prog).any (Try.prog.mapsRec ·))) = true := by kernel_rfl
theorem jf14 : ((Rows.packetLostFramesLoseNoOthersRow.ifaces == (Try.f15.params.toList ++ Rows.packetLostFramesLoseNoOthersSpec.plain.varTypes Try.prog).any (Try.prog.ifacesRec ·))) = true := by kernel_rfl
theorem jf15 : ((Rows.packetLostFramesLoseNoOthersRow.mapsOut == Try.prog.mapsAmong Try.f15.resultTypes.toList)) = true := by kernel_rfl
theorem jf16 : ((Rows.packetLostFramesLoseNoOthersRow.loops == (Try.f15.params.toList ++ Rows.packetLostFramesLoseNoOthersSpec.plain.varTypes Try.prog).any (Try.prog.loopsFrom ·))) = true := by kernel_rfl
theorem jf17 : ((Rows.packetLostFramesLoseNoOthersRow.wideKeys == (Try.f15.params.toList ++ Rows.packetLostFramesLoseNoOthersSpec.plain.varTypes Try.prog ++ Try.f15.resultTypes.toList).any (Try.prog.wideKeysFrom ·))) = true := by kernel_rfl
theorem jf18 : (Rows.packetLostFramesLoseNoOthersSpec.vars.all (Try.prog.varReadable ·)) = true := by kernel_rfl
theorem jf19 : (Try.f15.resultTypes.all (fun t => Try.prog.readableRec t && decide (t < Try.prog.types.size))) = true := by kernel_rfl
theorem jf20 : ((Rows.packetLostFramesLoseNoOthersRow.ifacesOut == Try.f15.resultTypes.toList.any (Try.prog.ifacesRec ·))) = true := by kernel_rfl
theorem jf21 : ((Rows.packetLostFramesLoseNoOthersRow.loopsOut == Try.f15.resultTypes.toList.any (Try.prog.loopsFrom ·))) = true := by kernel_rfl
theorem jf22 : ((Rows.packetLostFramesLoseNoOthersRow.plainKeys == Try.prog.plainKeys)) = true := by kernel_rfl
theorem jf23 : (Rows.packetLostFramesLoseNoOthersRow.shortTexts.isNone) = true := by kernel_rfl
theorem jf24 : (Try.prog.stopsHeard) = true := by kernel_rfl
theorem jf25 : (Try.prog.mayEnter) = true := jl25
theorem jf26 : ((Rows.packetLostFramesLoseNoOthersRow.lifted == Try.prog.liftsFinal)) = true := jl26
theorem jf27 : ((Try.prog.make == some Rows.packetLostFramesLoseNoOthersRow.make)) = true := jl27
theorem jf28 : ((Rows.packetLostFramesLoseNoOthersRow.kinds == (if Rows.packetLostFramesLoseNoOthersRow.domain.isEmpty then [] else Try.f15.params.toList.map fun t => match Try.prog.underlying t with | some (.int k) => some k | _ => none))) = true := by kernel_rfl
theorem jf29 : ((Rows.packetLostFramesLoseNoOthersRow.pinned == Rows.packetLostFramesLoseNoOthersRow.pinnedBy)) = true := by kernel_rfl
theorem jf30 : ((Rows.packetLostFramesLoseNoOthersRow.veiled == (Try.f15.params.toList ++ Rows.packetLostFramesLoseNoOthersSpec.plain.varTypes Try.prog ++ Try.f15.resultTypes.toList).any (Try.prog.veiledRec ·))) = true := by kernel_rfl
theorem jf31 : (Rows.packetLostFramesLoseNoOthersRow.veiledFits Try.prog Try.f15.params.toList (Try.f15.params.toList ++ Rows.packetLostFramesLoseNoOthersSpec.plain.varTypes Try.prog ++ Try.f15.resultTypes.toList)) = true := by kernel_rfl
theorem jfs : joinedFacts Try.pinned.checked.prog 15 Try.f15 Rows.packetLostFramesLoseNoOthersSpec Rows.packetLostFramesLoseNoOthersRow = true := (jand (jand (jand (jand (jand (jand (jand (jand (jand (jand (jand (jand (jand (jand (jand (jand (jand (jand (jand (jand (jand (jand (jand (jand (jand (jand (jand (jand (jand (jand (jand jf0 jf1) jf2) jf3) jf4) jf5) jf6) jf7) jf8) jf9) jf10) jf11) jf12) jf13) jf14) jf15) jf16) jf17) jf18) jf19) jf20) jf21) jf22) jf23) jf24) jf25) jf26) jf27) jf28) jf29) jf30) jf31)
theorem lawFacts : LawFacts Try.checked Rows.packetLostFramesLoseNoOthersSpec 15 Try.f15 [.int .i64, .int .i64, .int .i64, .int .i64, .slice (.prod (.int .i64) (.prod .bool (.prod (.int .i64) (.prod (.int .i64) (.prod (.slice (.int .u8)) .unit))))), .slice .bool] [3, 3, 3, 3, 32, 73] 4 where
  own := by kernel_rfl
  laid := by kernel_rfl
  noInit := by kernel_rfl
  func := by kernel_rfl
  vars := rfl
  params := by kernel_rfl
  opens := by kernel_rfl
  rowed := by kernel_rfl
  res := by kernel_rfl
  bool := by kernel_rfl
  spec := fun H ds h => by
    match ds, h with
    | [d0, d1, d2, d3, d4, d5], _ => rfl
theorem lifted (os : Os) (started : os.Started) (H : Type) (enc : TypeId × Value → H) :
    ReturnsInHanded {} Try.checked os 15 .any (Rows.packetLostFramesLoseNoOthersSpec.pre6 enc Try.prog Try.f15 Rows.packetLostFramesLoseNoOthersRow.domain false) (Rows.packetLostFramesLoseNoOthersSpec.post enc Try.prog Try.f15 false true false false) :=
  lifted_of lawFacts ttok fok pure started
    (ChangeSpec.witness6 (enc := enc) (C := Try.checked) false ⟨#[], #[.int .i64 0, .int .i64 0, .int .i64 0, .int .i64 0, .slice none 0 0, .slice none 0 0], []⟩ 8 (by kernel_rfl) (by kernel_rfl) (by kernel_rfl) (by kernel_rfl))
theorem over : Rows.packetLostFramesLoseNoOthersRow.holds Try.pinned (OpenSpec.ofChange Rows.packetLostFramesLoseNoOthersSpec) :=
  OpenClaim.holds_of_wide 15 Try.f15 rfl rfl rfl rfl rfl rfl rfl ⟨rfl, rfl, rfl, rfl, rfl⟩ rfl rfl rfl rfl rfl (by kernel_rfl) Try.func15 jfs
    (of_decide_eq_true (by kernel_rfl)) (by unfold Func.isWrapper; first | (rw [if_pos (by decide +kernel)]; kernel_rfl) | (rw [if_neg (by decide +kernel)]; exact ⟨rfl, rfl⟩))
    (fun os started H enc _ => lifted os started H enc)
end Go.Proofs.Ytahdmfboidjkoaa.PM
namespace Go.Proofs.Ytahdmfboidjkoaa
/-- The row, under a short name, for the claim. -/
theorem packetLostFramesLoseNoOthers_holds : Rows.PacketLostFramesLoseNoOthersSaid := PM.over
#print axioms packetLostFramesLoseNoOthers_holds
end Go.Proofs.Ytahdmfboidjkoaa
