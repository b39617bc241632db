/- For every stream, number, body and size the packets that a long body is divided into are the reference's, with all faults: PacketSplitMatchesSpec returns true and leaves its arguments as they were. No condition. -/
import Derived.Test.YtahdmfboidjkoaaPuSplit
import Derived.Test.YtahdmfboidjkoaaPmRow
import Derived.Test.YtahdmfboidjkoaaRows
import Derived.Test.YtahdmfboidjkoaaJfLib
namespace Go.Proofs.Ytahdmfboidjkoaa.PM
open Go
set_option maxRecDepth 100000
theorem jand {a b : Bool} (h1 : a = true) (h2 : b = true) : (a && b) = true := by rw [h1, h2]; rfl
theorem jf0 : (Rows.packetSplitMatchesSpecRow.wf (OpenSpec.ofChange Rows.packetSplitMatchesSpecSpec)) = true := by kernel_rfl
theorem jf1 : (laidOutB Try.prog) = true := by kernel_rfl
theorem jf2 : (mapsRowed Try.prog) = true := by kernel_rfl
theorem jf3 : (Try.f5.params.all (Try.prog.readableRec ·)) = true := by kernel_rfl
theorem jf4 : (namedTie Try.prog Rows.packetSplitMatchesSpecRow.named Rows.packetSplitMatchesSpecSpec.vars) = true := by kernel_rfl
theorem jf5 : ((Rows.packetSplitMatchesSpecRow.stops == [])) = true := by kernel_rfl
theorem jf6 : ((Try.prog.stops == [])) = true := by kernel_rfl
theorem jf7 : ((Rows.packetSplitMatchesSpecRow.knobs == [])) = true := by kernel_rfl
theorem jf8 : ((Try.prog.stopKnobs == [])) = true := by kernel_rfl
theorem jf9 : ((Rows.packetSplitMatchesSpecRow.inPlace == Try.prog.inPlace 5)) = true := by kernel_rfl
theorem jf10 : ((Rows.packetSplitMatchesSpecRow.unfollowed == Try.prog.unfollowed 5)) = true := by kernel_rfl
theorem jf11 : ((Rows.packetSplitMatchesSpecRow.recurses == Try.prog.recurses 5)) = true := by kernel_rfl
theorem jf12 : ((Rows.packetSplitMatchesSpecRow.named == Try.prog.varsNamed 5)) = true := by kernel_rfl
theorem jf13 : ((Rows.packetSplitMatchesSpecRow.maps == (Try.f5.params.toList ++ Rows.packetSplitMatchesSpecSpec.plain.varTypes Try.prog).any (Try.prog.mapsRec ·))) = true := by kernel_rfl
theorem jf14 : ((Rows.packetSplitMatchesSpecRow.ifaces == (Try.f5.params.toList ++ Rows.packetSplitMatchesSpecSpec.plain.varTypes Try.prog).any (Try.prog.ifacesRec ·))) = true := by kernel_rfl
theorem jf15 : ((Rows.packetSplitMatchesSpecRow.mapsOut == Try.prog.mapsAmong Try.f5.resultTypes.toList)) = true := by kernel_rfl
theorem jf16 : ((Rows.packetSplitMatchesSpecRow.loops == (Try.f5.params.toList ++ Rows.packetSplitMatchesSpecSpec.plain.varTypes Try.prog).any (Try.prog.loopsFrom ·))) = true := by kernel_rfl
theorem jf17 : ((Rows.packetSplitMatchesSpecRow.wideKeys == (Try.f5.params.toList ++ Rows.packetSplitMatchesSpecSpec.plain.varTypes Try.prog ++ Try.f5.resultTypes.toList).any (Try.prog.wideKeysFrom ·))) = true := by kernel_rfl
theorem jf18 : (Rows.packetSplitMatchesSpecSpec.vars.all (Try.prog.varReadable ·)) = true := by kernel_rfl
theorem jf19 : (Try.f5.resultTypes.all (fun t => Try.prog.readableRec t && decide (t < Try.prog.types.size))) = true := by kernel_rfl
theorem jf20 : ((Rows.packetSplitMatchesSpecRow.ifacesOut == Try.f5.resultTypes.toList.any (Try.prog.ifacesRec ·))) = true := by kernel_rfl
theorem jf21 : ((Rows.packetSplitMatchesSpecRow.loopsOut == Try.f5.resultTypes.toList.any (Try.prog.loopsFrom ·))) = true := by kernel_rfl
theorem jf22 : ((Rows.packetSplitMatchesSpecRow.plainKeys == Try.prog.plainKeys)) = true := by kernel_rfl
theorem jf23 : (Rows.packetSplitMatchesSpecRow.shortTexts.isNone) = true := by kernel_rfl
theorem jf24 : (Try.prog.stopsHeard) = true := by kernel_rfl
theorem jf25 : (Try.prog.mayEnter) = true := jl25
theorem jf26 : ((Rows.packetSplitMatchesSpecRow.lifted == Try.prog.liftsFinal)) = true := jl26
theorem jf27 : ((Try.prog.make == some Rows.packetSplitMatchesSpecRow.make)) = true := jl27
theorem jf28 : ((Rows.packetSplitMatchesSpecRow.kinds == (if Rows.packetSplitMatchesSpecRow.domain.isEmpty then [] else Try.f5.params.toList.map fun t => match Try.prog.underlying t with | some (.int k) => some k | _ => none))) = true := by kernel_rfl
theorem jf29 : ((Rows.packetSplitMatchesSpecRow.pinned == Rows.packetSplitMatchesSpecRow.pinnedBy)) = true := by kernel_rfl
theorem jf30 : ((Rows.packetSplitMatchesSpecRow.veiled == (Try.f5.params.toList ++ Rows.packetSplitMatchesSpecSpec.plain.varTypes Try.prog ++ Try.f5.resultTypes.toList).any (Try.prog.veiledRec ·))) = true := by kernel_rfl
theorem jf31 : (Rows.packetSplitMatchesSpecRow.veiledFits Try.prog Try.f5.params.toList (Try.f5.params.toList ++ Rows.packetSplitMatchesSpecSpec.plain.varTypes Try.prog ++ Try.f5.resultTypes.toList)) = true := by kernel_rfl
theorem jfs : joinedFacts Try.pinned.checked.prog 5 Try.f5 Rows.packetSplitMatchesSpecSpec Rows.packetSplitMatchesSpecRow = true := (jand (jand (jand (jand (jand (jand (jand (jand (jand (jand (jand (jand (jand (jand (jand (jand (jand (jand (jand (jand (jand (jand (jand (jand (jand (jand (jand (jand (jand (jand (jand jf0 jf1) jf2) jf3) jf4) jf5) jf6) jf7) jf8) jf9) jf10) jf11) jf12) jf13) jf14) jf15) jf16) jf17) jf18) jf19) jf20) jf21) jf22) jf23) jf24) jf25) jf26) jf27) jf28) jf29) jf30) jf31)
theorem lawFacts : LawFacts Try.checked Rows.packetSplitMatchesSpecSpec 5 Try.f5 [.int .i64, .bool, .int .i64, .slice (.int .u8), .int .i64] [3, 4, 3, 22, 3] 4 where
  own := by kernel_rfl
  laid := by kernel_rfl
  noInit := by kernel_rfl
  func := by kernel_rfl
  vars := rfl
  params := by kernel_rfl
  opens := by kernel_rfl
  rowed := by kernel_rfl
  res := by kernel_rfl
  bool := by kernel_rfl
  spec := fun H ds h => by
    match ds, h with
    | [d0, d1, d2, d3, d4], _ => rfl
theorem lifted (os : Os) (started : os.Started) (H : Type) (enc : TypeId × Value → H) :
    ReturnsInHanded {} Try.checked os 5 .any (Rows.packetSplitMatchesSpecSpec.pre6 enc Try.prog Try.f5 Rows.packetSplitMatchesSpecRow.domain false) (Rows.packetSplitMatchesSpecSpec.post enc Try.prog Try.f5 false true false false) :=
  lifted_of lawFacts ttok fok pure started
    (ChangeSpec.witness6 (enc := enc) (C := Try.checked) false ⟨#[], #[.int .i64 0, .bool false, .int .i64 0, .slice none 0 0, .int .i64 0], []⟩ 8 (by kernel_rfl) (by kernel_rfl) (by kernel_rfl) (by kernel_rfl))
theorem over : Rows.packetSplitMatchesSpecRow.holds Try.pinned (OpenSpec.ofChange Rows.packetSplitMatchesSpecSpec) :=
  OpenClaim.holds_of_wide 5 Try.f5 rfl rfl rfl rfl rfl rfl rfl ⟨rfl, rfl, rfl, rfl, rfl⟩ rfl rfl rfl rfl rfl (by kernel_rfl) Try.func5 jfs
    (of_decide_eq_true (by kernel_rfl)) (by unfold Func.isWrapper; first | (rw [if_pos (by decide +kernel)]; kernel_rfl) | (rw [if_neg (by decide +kernel)]; exact ⟨rfl, rfl⟩))
    (fun os started H enc _ => lifted os started H enc)
end Go.Proofs.Ytahdmfboidjkoaa.PM
namespace Go.Proofs.Ytahdmfboidjkoaa
/-- The row, under a short name, for the claim. -/
theorem packetSplitMatchesSpec_holds : Rows.PacketSplitMatchesSpecSaid := PM.over
#print axioms packetSplitMatchesSpec_holds
end Go.Proofs.Ytahdmfboidjkoaa
