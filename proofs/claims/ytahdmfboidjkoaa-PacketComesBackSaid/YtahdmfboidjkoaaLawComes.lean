/- Every right packet is read of its bytes, whatever stands behind them, and with one flipped bit behind the first six bytes it is damaged: PacketComesBack returns true and leaves its arguments as they were. No condition. -/
import Derived.Test.YtahdmfboidjkoaaPuComes
import Derived.Test.YtahdmfboidjkoaaPmRow
import Derived.Test.YtahdmfboidjkoaaRows
namespace Go.Proofs.Ytahdmfboidjkoaa.PM
open Go
set_option maxRecDepth 100000
theorem jand {a b : Bool} (h1 : a = true) (h2 : b = true) : (a && b) = true := by rw [h1, h2]; rfl
theorem jf0 : (Rows.packetComesBackRow.wf (OpenSpec.ofChange Rows.packetComesBackSpec)) = true := by kernel_rfl
theorem jf1 : (laidOutB Try.prog) = true := by kernel_rfl
theorem jf2 : (mapsRowed Try.prog) = true := by kernel_rfl
theorem jf3 : (Try.f8.params.all (Try.prog.readableRec ·)) = true := by kernel_rfl
theorem jf4 : (namedTie Try.prog Rows.packetComesBackRow.named Rows.packetComesBackSpec.vars) = true := by kernel_rfl
theorem jf5 : ((Rows.packetComesBackRow.stops == [])) = true := by kernel_rfl
theorem jf6 : ((Try.prog.stops == [])) = true := by kernel_rfl
theorem jf7 : ((Rows.packetComesBackRow.knobs == [])) = true := by kernel_rfl
theorem jf8 : ((Try.prog.stopKnobs == [])) = true := by kernel_rfl
theorem jf9 : ((Rows.packetComesBackRow.inPlace == Try.prog.inPlace 8)) = true := by kernel_rfl
theorem jf10 : ((Rows.packetComesBackRow.unfollowed == Try.prog.unfollowed 8)) = true := by kernel_rfl
theorem jf11 : ((Rows.packetComesBackRow.recurses == Try.prog.recurses 8)) = true := by kernel_rfl
theorem jf12 : ((Rows.packetComesBackRow.named == Try.prog.varsNamed 8)) = true := by kernel_rfl
theorem jf13 : ((Rows.packetComesBackRow.maps == (Try.f8.params.toList ++ Rows.packetComesBackSpec.plain.varTypes Try.prog).any (Try.prog.mapsRec ·))) = true := by kernel_rfl
theorem jf14 : ((Rows.packetComesBackRow.ifaces == (Try.f8.params.toList ++ Rows.packetComesBackSpec.plain.varTypes Try.prog).any (Try.prog.ifacesRec ·))) = true := by kernel_rfl
theorem jf15 : ((Rows.packetComesBackRow.mapsOut == Try.prog.mapsAmong Try.f8.resultTypes.toList)) = true := by kernel_rfl
theorem jf16 : ((Rows.packetComesBackRow.loops == (Try.f8.params.toList ++ Rows.packetComesBackSpec.plain.varTypes Try.prog).any (Try.prog.loopsFrom ·))) = true := by kernel_rfl
theorem jf17 : ((Rows.packetComesBackRow.wideKeys == (Try.f8.params.toList ++ Rows.packetComesBackSpec.plain.varTypes Try.prog ++ Try.f8.resultTypes.toList).any (Try.prog.wideKeysFrom ·))) = true := by kernel_rfl
theorem jf18 : (Rows.packetComesBackSpec.vars.all (Try.prog.varReadable ·)) = true := by kernel_rfl
theorem jf19 : (Try.f8.resultTypes.all (fun t => Try.prog.readableRec t && decide (t < Try.prog.types.size))) = true := by kernel_rfl
theorem jf20 : ((Rows.packetComesBackRow.ifacesOut == Try.f8.resultTypes.toList.any (Try.prog.ifacesRec ·))) = true := by kernel_rfl
theorem jf21 : ((Rows.packetComesBackRow.loopsOut == Try.f8.resultTypes.toList.any (Try.prog.loopsFrom ·))) = true := by kernel_rfl
theorem jf22 : ((Rows.packetComesBackRow.plainKeys == Try.prog.plainKeys)) = true := by kernel_rfl
theorem jf23 : (Rows.packetComesBackRow.shortTexts.isNone) = true := by kernel_rfl
theorem jf24 : (Try.prog.stopsHeard) = true := by kernel_rfl
theorem jf25 : (Try.prog.mayEnter) = true := by kernel_rfl
theorem jf26 : ((Rows.packetComesBackRow.lifted == Try.prog.liftsFinal)) = true := by kernel_rfl
theorem jf27 : ((Try.prog.make == some Rows.packetComesBackRow.make)) = true := by kernel_rfl
theorem jf28 : ((Rows.packetComesBackRow.kinds == (if Rows.packetComesBackRow.domain.isEmpty then [] else Try.f8.params.toList.map fun t => match Try.prog.underlying t with | some (.int k) => some k | _ => none))) = true := by kernel_rfl
theorem jf29 : ((Rows.packetComesBackRow.pinned == Rows.packetComesBackRow.pinnedBy)) = true := by kernel_rfl
theorem jf30 : ((Rows.packetComesBackRow.veiled == (Try.f8.params.toList ++ Rows.packetComesBackSpec.plain.varTypes Try.prog ++ Try.f8.resultTypes.toList).any (Try.prog.veiledRec ·))) = true := by kernel_rfl
theorem jf31 : (Rows.packetComesBackRow.veiledFits Try.prog Try.f8.params.toList (Try.f8.params.toList ++ Rows.packetComesBackSpec.plain.varTypes Try.prog ++ Try.f8.resultTypes.toList)) = true := by kernel_rfl
theorem jfs : joinedFacts Try.pinned.checked.prog 8 Try.f8 Rows.packetComesBackSpec Rows.packetComesBackRow = true := (jand (jand (jand (jand (jand (jand (jand (jand (jand (jand (jand (jand (jand (jand (jand (jand (jand (jand (jand (jand (jand (jand (jand (jand (jand (jand (jand (jand (jand (jand (jand jf0 jf1) jf2) jf3) jf4) jf5) jf6) jf7) jf8) jf9) jf10) jf11) jf12) jf13) jf14) jf15) jf16) jf17) jf18) jf19) jf20) jf21) jf22) jf23) jf24) jf25) jf26) jf27) jf28) jf29) jf30) jf31)
theorem lawFacts : LawFacts Try.checked Rows.packetComesBackSpec 8 Try.f8 [.prod (.int .i64) (.prod .bool (.prod (.int .i64) (.prod (.int .i64) (.prod (.slice (.int .u8)) .unit)))), .slice (.int .u8), .int .i64] [27, 22, 3] 4 where
  own := by kernel_rfl
  laid := by kernel_rfl
  noInit := by kernel_rfl
  func := by kernel_rfl
  vars := rfl
  params := by kernel_rfl
  opens := by kernel_rfl
  rowed := by kernel_rfl
  res := by kernel_rfl
  bool := by kernel_rfl
  spec := fun H ds h => by
    match ds, h with
    | [d0, d1, d2], _ => rfl
theorem lifted (os : Os) (started : os.Started) (H : Type) (enc : TypeId × Value → H) :
    ReturnsInHanded {} Try.checked os 8 .any (Rows.packetComesBackSpec.pre6 enc Try.prog Try.f8 Rows.packetComesBackRow.domain false) (Rows.packetComesBackSpec.post enc Try.prog Try.f8 false true false false) :=
  lifted_of lawFacts ttok fok pure started
    (ChangeSpec.witness6 (enc := enc) (C := Try.checked) false ⟨#[], #[.agg #[.int .i64 0, .bool false, .int .i64 0, .int .i64 0, .slice none 0 0], .slice none 0 0, .int .i64 0], []⟩ 8 (by kernel_rfl) (by kernel_rfl) (by kernel_rfl) (by kernel_rfl))
theorem over : Rows.packetComesBackRow.holds Try.pinned (OpenSpec.ofChange Rows.packetComesBackSpec) :=
  OpenClaim.holds_of_wide 8 Try.f8 rfl rfl rfl rfl rfl rfl rfl ⟨rfl, rfl, rfl, rfl, rfl⟩ rfl rfl rfl rfl rfl (by kernel_rfl) Try.func8 jfs
    (of_decide_eq_true (by kernel_rfl)) (by unfold Func.isWrapper; first | (rw [if_pos (by decide +kernel)]; kernel_rfl) | (rw [if_neg (by decide +kernel)]; exact ⟨rfl, rfl⟩))
    (fun os started H enc _ => lifted os started H enc)
end Go.Proofs.Ytahdmfboidjkoaa.PM
namespace Go.Proofs.Ytahdmfboidjkoaa
/-- The row, under a short name, for the claim. -/
theorem packetComesBack_holds : Rows.PacketComesBackSaid := PM.over
#print axioms packetComesBack_holds
end Go.Proofs.Ytahdmfboidjkoaa
