/- For every slice of bytes what is read as a packet is what the reference reads, with all faults, and the law's last test holds: PacketReadMatchesSpec returns true and leaves its argument as it was. No condition. -/
import Derived.Test.YtahdmfboidjkoaaPuRead
import Derived.Test.YtahdmfboidjkoaaPmRow
import Derived.Test.YtahdmfboidjkoaaRows
namespace Go.Proofs.Ytahdmfboidjkoaa.PM
open Go
set_option maxRecDepth 100000
theorem jand {a b : Bool} (h1 : a = true) (h2 : b = true) : (a && b) = true := by rw [h1, h2]; rfl
theorem jf0 : (Rows.packetReadMatchesSpecRow.wf (OpenSpec.ofChange Rows.packetReadMatchesSpecSpec)) = true := by kernel_rfl
theorem jf1 : (laidOutB Try.prog) = true := by kernel_rfl
theorem jf2 : (mapsRowed Try.prog) = true := by kernel_rfl
theorem jf3 : (Try.f4.params.all (Try.prog.readableRec ·)) = true := by kernel_rfl
theorem jf4 : (namedTie Try.prog Rows.packetReadMatchesSpecRow.named Rows.packetReadMatchesSpecSpec.vars) = true := by kernel_rfl
theorem jf5 : ((Rows.packetReadMatchesSpecRow.stops == [])) = true := by kernel_rfl
theorem jf6 : ((Try.prog.stops == [])) = true := by kernel_rfl
theorem jf7 : ((Rows.packetReadMatchesSpecRow.knobs == [])) = true := by kernel_rfl
theorem jf8 : ((Try.prog.stopKnobs == [])) = true := by kernel_rfl
theorem jf9 : ((Rows.packetReadMatchesSpecRow.inPlace == Try.prog.inPlace 4)) = true := by kernel_rfl
theorem jf10 : ((Rows.packetReadMatchesSpecRow.unfollowed == Try.prog.unfollowed 4)) = true := by kernel_rfl
theorem jf11 : ((Rows.packetReadMatchesSpecRow.recurses == Try.prog.recurses 4)) = true := by kernel_rfl
theorem jf12 : ((Rows.packetReadMatchesSpecRow.named == Try.prog.varsNamed 4)) = true := by kernel_rfl
theorem jf13 : ((Rows.packetReadMatchesSpecRow.maps == (Try.f4.params.toList ++ Rows.packetReadMatchesSpecSpec.plain.varTypes Try.prog).any (Try.prog.mapsRec ·))) = true := by kernel_rfl
theorem jf14 : ((Rows.packetReadMatchesSpecRow.ifaces == (Try.f4.params.toList ++ Rows.packetReadMatchesSpecSpec.plain.varTypes Try.prog).any (Try.prog.ifacesRec ·))) = true := by kernel_rfl
theorem jf15 : ((Rows.packetReadMatchesSpecRow.mapsOut == Try.prog.mapsAmong Try.f4.resultTypes.toList)) = true := by kernel_rfl
theorem jf16 : ((Rows.packetReadMatchesSpecRow.loops == (Try.f4.params.toList ++ Rows.packetReadMatchesSpecSpec.plain.varTypes Try.prog).any (Try.prog.loopsFrom ·))) = true := by kernel_rfl
theorem jf17 : ((Rows.packetReadMatchesSpecRow.wideKeys == (Try.f4.params.toList ++ Rows.packetReadMatchesSpecSpec.plain.varTypes Try.prog ++ Try.f4.resultTypes.toList).any (Try.prog.wideKeysFrom ·))) = true := by kernel_rfl
theorem jf18 : (Rows.packetReadMatchesSpecSpec.vars.all (Try.prog.varReadable ·)) = true := by kernel_rfl
theorem jf19 : (Try.f4.resultTypes.all (fun t => Try.prog.readableRec t && decide (t < Try.prog.types.size))) = true := by kernel_rfl
theorem jf20 : ((Rows.packetReadMatchesSpecRow.ifacesOut == Try.f4.resultTypes.toList.any (Try.prog.ifacesRec ·))) = true := by kernel_rfl
theorem jf21 : ((Rows.packetReadMatchesSpecRow.loopsOut == Try.f4.resultTypes.toList.any (Try.prog.loopsFrom ·))) = true := by kernel_rfl
theorem jf22 : ((Rows.packetReadMatchesSpecRow.plainKeys == Try.prog.plainKeys)) = true := by kernel_rfl
theorem jf23 : (Rows.packetReadMatchesSpecRow.shortTexts.isNone) = true := by kernel_rfl
theorem jf24 : (Try.prog.stopsHeard) = true := by kernel_rfl
theorem jf25 : (Try.prog.mayEnter) = true := by kernel_rfl
theorem jf26 : ((Rows.packetReadMatchesSpecRow.lifted == Try.prog.liftsFinal)) = true := by kernel_rfl
theorem jf27 : ((Try.prog.make == some Rows.packetReadMatchesSpecRow.make)) = true := by kernel_rfl
theorem jf28 : ((Rows.packetReadMatchesSpecRow.kinds == (if Rows.packetReadMatchesSpecRow.domain.isEmpty then [] else Try.f4.params.toList.map fun t => match Try.prog.underlying t with | some (.int k) => some k | _ => none))) = true := by kernel_rfl
theorem jf29 : ((Rows.packetReadMatchesSpecRow.pinned == Rows.packetReadMatchesSpecRow.pinnedBy)) = true := by kernel_rfl
theorem jf30 : ((Rows.packetReadMatchesSpecRow.veiled == (Try.f4.params.toList ++ Rows.packetReadMatchesSpecSpec.plain.varTypes Try.prog ++ Try.f4.resultTypes.toList).any (Try.prog.veiledRec ·))) = true := by kernel_rfl
theorem jf31 : (Rows.packetReadMatchesSpecRow.veiledFits Try.prog Try.f4.params.toList (Try.f4.params.toList ++ Rows.packetReadMatchesSpecSpec.plain.varTypes Try.prog ++ Try.f4.resultTypes.toList)) = true := by kernel_rfl
theorem jfs : joinedFacts Try.pinned.checked.prog 4 Try.f4 Rows.packetReadMatchesSpecSpec Rows.packetReadMatchesSpecRow = true := (jand (jand (jand (jand (jand (jand (jand (jand (jand (jand (jand (jand (jand (jand (jand (jand (jand (jand (jand (jand (jand (jand (jand (jand (jand (jand (jand (jand (jand (jand (jand jf0 jf1) jf2) jf3) jf4) jf5) jf6) jf7) jf8) jf9) jf10) jf11) jf12) jf13) jf14) jf15) jf16) jf17) jf18) jf19) jf20) jf21) jf22) jf23) jf24) jf25) jf26) jf27) jf28) jf29) jf30) jf31)
theorem lawFacts : LawFacts Try.checked Rows.packetReadMatchesSpecSpec 4 Try.f4 [.slice (.int .u8)] [22] 4 where
  own := by kernel_rfl
  laid := by kernel_rfl
  noInit := by kernel_rfl
  func := by kernel_rfl
  vars := rfl
  params := by kernel_rfl
  opens := by kernel_rfl
  rowed := by kernel_rfl
  res := by kernel_rfl
  bool := by kernel_rfl
  spec := fun H ds h => by
    match ds, h with
    | [d0], _ => rfl
theorem lifted (os : Os) (started : os.Started) (H : Type) (enc : TypeId × Value → H) :
    ReturnsInHanded {} Try.checked os 4 .any (Rows.packetReadMatchesSpecSpec.pre6 enc Try.prog Try.f4 Rows.packetReadMatchesSpecRow.domain false) (Rows.packetReadMatchesSpecSpec.post enc Try.prog Try.f4 false true false false) :=
  lifted_of lawFacts ttok fok pure started
    (ChangeSpec.witness6 (enc := enc) (C := Try.checked) false ⟨#[], #[.slice none 0 0], []⟩ 8 (by kernel_rfl) (by kernel_rfl) (by kernel_rfl) (by kernel_rfl))
theorem over : Rows.packetReadMatchesSpecRow.holds Try.pinned (OpenSpec.ofChange Rows.packetReadMatchesSpecSpec) :=
  OpenClaim.holds_of_wide 4 Try.f4 rfl rfl rfl rfl rfl rfl rfl ⟨rfl, rfl, rfl, rfl, rfl⟩ rfl rfl rfl rfl rfl (by kernel_rfl) Try.func4 jfs
    (of_decide_eq_true (by kernel_rfl)) (by unfold Func.isWrapper; first | (rw [if_pos (by decide +kernel)]; kernel_rfl) | (rw [if_neg (by decide +kernel)]; exact ⟨rfl, rfl⟩))
    (fun os started H enc _ => lifted os started H enc)
end Go.Proofs.Ytahdmfboidjkoaa.PM
namespace Go.Proofs.Ytahdmfboidjkoaa
/-- The row, under a short name, for the claim. -/
theorem packetReadMatchesSpec_holds : Rows.PacketReadMatchesSpecSaid := PM.over
#print axioms packetReadMatchesSpec_holds
end Go.Proofs.Ytahdmfboidjkoaa
