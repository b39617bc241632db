/- For every frame, every size and all bytes what is wrong, what the bytes are and what is read is as the reference says, and a right frame is read of its bytes: PacketFramesMatchSpec returns true and leaves its arguments as they were. No condition. -/
import Derived.Test.YtahdmfboidjkoaaPuFrames
import Derived.Test.YtahdmfboidjkoaaPmRow
import Derived.Test.YtahdmfboidjkoaaRows
namespace Go.Proofs.Ytahdmfboidjkoaa.PM
open Go
set_option maxRecDepth 100000
theorem jand {a b : Bool} (h1 : a = true) (h2 : b = true) : (a && b) = true := by rw [h1, h2]; rfl
theorem jf0 : (Rows.packetFramesMatchSpecRow.wf (OpenSpec.ofChange Rows.packetFramesMatchSpecSpec)) = true := by kernel_rfl
theorem jf1 : (laidOutB Try.prog) = true := by kernel_rfl
theorem jf2 : (mapsRowed Try.prog) = true := by kernel_rfl
theorem jf3 : (Try.f7.params.all (Try.prog.readableRec ·)) = true := by kernel_rfl
theorem jf4 : (namedTie Try.prog Rows.packetFramesMatchSpecRow.named Rows.packetFramesMatchSpecSpec.vars) = true := by kernel_rfl
theorem jf5 : ((Rows.packetFramesMatchSpecRow.stops == [])) = true := by kernel_rfl
theorem jf6 : ((Try.prog.stops == [])) = true := by kernel_rfl
theorem jf7 : ((Rows.packetFramesMatchSpecRow.knobs == [])) = true := by kernel_rfl
theorem jf8 : ((Try.prog.stopKnobs == [])) = true := by kernel_rfl
theorem jf9 : ((Rows.packetFramesMatchSpecRow.inPlace == Try.prog.inPlace 7)) = true := by kernel_rfl
theorem jf10 : ((Rows.packetFramesMatchSpecRow.unfollowed == Try.prog.unfollowed 7)) = true := by kernel_rfl
theorem jf11 : ((Rows.packetFramesMatchSpecRow.recurses == Try.prog.recurses 7)) = true := by kernel_rfl
theorem jf12 : ((Rows.packetFramesMatchSpecRow.named == Try.prog.varsNamed 7)) = true := by kernel_rfl
theorem jf13 : ((Rows.packetFramesMatchSpecRow.maps == (Try.f7.params.toList ++ Rows.packetFramesMatchSpecSpec.plain.varTypes Try.prog).any (Try.prog.mapsRec ·))) = true := by kernel_rfl
theorem jf14 : ((Rows.packetFramesMatchSpecRow.ifaces == (Try.f7.params.toList ++ Rows.packetFramesMatchSpecSpec.plain.varTypes Try.prog).any (Try.prog.ifacesRec ·))) = true := by kernel_rfl
theorem jf15 : ((Rows.packetFramesMatchSpecRow.mapsOut == Try.prog.mapsAmong Try.f7.resultTypes.toList)) = true := by kernel_rfl
theorem jf16 : ((Rows.packetFramesMatchSpecRow.loops == (Try.f7.params.toList ++ Rows.packetFramesMatchSpecSpec.plain.varTypes Try.prog).any (Try.prog.loopsFrom ·))) = true := by kernel_rfl
theorem jf17 : ((Rows.packetFramesMatchSpecRow.wideKeys == (Try.f7.params.toList ++ Rows.packetFramesMatchSpecSpec.plain.varTypes Try.prog ++ Try.f7.resultTypes.toList).any (Try.prog.wideKeysFrom ·))) = true := by kernel_rfl
theorem jf18 : (Rows.packetFramesMatchSpecSpec.vars.all (Try.prog.varReadable ·)) = true := by kernel_rfl
theorem jf19 : (Try.f7.resultTypes.all (fun t => Try.prog.readableRec t && decide (t < Try.prog.types.size))) = true := by kernel_rfl
theorem jf20 : ((Rows.packetFramesMatchSpecRow.ifacesOut == Try.f7.resultTypes.toList.any (Try.prog.ifacesRec ·))) = true := by kernel_rfl
theorem jf21 : ((Rows.packetFramesMatchSpecRow.loopsOut == Try.f7.resultTypes.toList.any (Try.prog.loopsFrom ·))) = true := by kernel_rfl
theorem jf22 : ((Rows.packetFramesMatchSpecRow.plainKeys == Try.prog.plainKeys)) = true := by kernel_rfl
theorem jf23 : (Rows.packetFramesMatchSpecRow.shortTexts.isNone) = true := by kernel_rfl
theorem jf24 : (Try.prog.stopsHeard) = true := by kernel_rfl
theorem jf25 : (Try.prog.mayEnter) = true := by kernel_rfl
theorem jf26 : ((Rows.packetFramesMatchSpecRow.lifted == Try.prog.liftsFinal)) = true := by kernel_rfl
theorem jf27 : ((Try.prog.make == some Rows.packetFramesMatchSpecRow.make)) = true := by kernel_rfl
theorem jf28 : ((Rows.packetFramesMatchSpecRow.kinds == (if Rows.packetFramesMatchSpecRow.domain.isEmpty then [] else Try.f7.params.toList.map fun t => match Try.prog.underlying t with | some (.int k) => some k | _ => none))) = true := by kernel_rfl
theorem jf29 : ((Rows.packetFramesMatchSpecRow.pinned == Rows.packetFramesMatchSpecRow.pinnedBy)) = true := by kernel_rfl
theorem jf30 : ((Rows.packetFramesMatchSpecRow.veiled == (Try.f7.params.toList ++ Rows.packetFramesMatchSpecSpec.plain.varTypes Try.prog ++ Try.f7.resultTypes.toList).any (Try.prog.veiledRec ·))) = true := by kernel_rfl
theorem jf31 : (Rows.packetFramesMatchSpecRow.veiledFits Try.prog Try.f7.params.toList (Try.f7.params.toList ++ Rows.packetFramesMatchSpecSpec.plain.varTypes Try.prog ++ Try.f7.resultTypes.toList)) = true := by kernel_rfl
theorem jfs : joinedFacts Try.pinned.checked.prog 7 Try.f7 Rows.packetFramesMatchSpecSpec Rows.packetFramesMatchSpecRow = true := (jand (jand (jand (jand (jand (jand (jand (jand (jand (jand (jand (jand (jand (jand (jand (jand (jand (jand (jand (jand (jand (jand (jand (jand (jand (jand (jand (jand (jand (jand (jand jf0 jf1) jf2) jf3) jf4) jf5) jf6) jf7) jf8) jf9) jf10) jf11) jf12) jf13) jf14) jf15) jf16) jf17) jf18) jf19) jf20) jf21) jf22) jf23) jf24) jf25) jf26) jf27) jf28) jf29) jf30) jf31)
theorem lawFacts : LawFacts Try.checked Rows.packetFramesMatchSpecSpec 7 Try.f7 [.prod (.int .i64) (.prod (.int .i64) (.prod (.int .i64) (.prod (.int .i64) (.prod (.slice (.int .u8)) .unit)))), .int .i64, .slice (.int .u8)] [43, 3, 22] 4 where
  own := by kernel_rfl
  laid := by kernel_rfl
  noInit := by kernel_rfl
  func := by kernel_rfl
  vars := rfl
  params := by kernel_rfl
  opens := by kernel_rfl
  rowed := by kernel_rfl
  res := by kernel_rfl
  bool := by kernel_rfl
  spec := fun H ds h => by
    match ds, h with
    | [d0, d1, d2], _ => rfl
theorem lifted (os : Os) (started : os.Started) (H : Type) (enc : TypeId × Value → H) :
    ReturnsInHanded {} Try.checked os 7 .any (Rows.packetFramesMatchSpecSpec.pre6 enc Try.prog Try.f7 Rows.packetFramesMatchSpecRow.domain false) (Rows.packetFramesMatchSpecSpec.post enc Try.prog Try.f7 false true false false) :=
  lifted_of lawFacts ttok fok pure started
    (ChangeSpec.witness6 (enc := enc) (C := Try.checked) false ⟨#[], #[.agg #[.int .i64 0, .int .i64 0, .int .i64 0, .int .i64 0, .slice none 0 0], .int .i64 0, .slice none 0 0], []⟩ 8 (by kernel_rfl) (by kernel_rfl) (by kernel_rfl) (by kernel_rfl))
theorem over : Rows.packetFramesMatchSpecRow.holds Try.pinned (OpenSpec.ofChange Rows.packetFramesMatchSpecSpec) :=
  OpenClaim.holds_of_wide 7 Try.f7 rfl rfl rfl rfl rfl rfl rfl ⟨rfl, rfl, rfl, rfl, rfl⟩ rfl rfl rfl rfl rfl (by kernel_rfl) Try.func7 jfs
    (of_decide_eq_true (by kernel_rfl)) (by unfold Func.isWrapper; first | (rw [if_pos (by decide +kernel)]; kernel_rfl) | (rw [if_neg (by decide +kernel)]; exact ⟨rfl, rfl⟩))
    (fun os started H enc _ => lifted os started H enc)
end Go.Proofs.Ytahdmfboidjkoaa.PM
namespace Go.Proofs.Ytahdmfboidjkoaa
/-- The row, under a short name, for the claim. -/
theorem packetFramesMatchSpec_holds : Rows.PacketFramesMatchSpecSaid := PM.over
#print axioms packetFramesMatchSpec_holds
end Go.Proofs.Ytahdmfboidjkoaa
