/- The machine's run of PacketStreamsMatchSpec on any frames, any size and any bytes is true. -/
import Derived.Test.YtahdmfboidjkoaaPlStreams
import Derived.Test.YtahdmfboidjkoaaPuLib
namespace Go.Proofs.Ytahdmfboidjkoaa.PM
open Go
set_option maxRecDepth 100000
theorem mem_sum : ∀ (l : List Fr) (y : Fr), y ∈ l → y.2.2.2.2.1.length ≤ (l.map fun z => z.2.2.2.2.1.length).sum
  | [], _, h => by cases h
  | z :: l, y, h => by
    rcases List.mem_cons.1 h with rfl | h
    · simp only [List.map_cons, List.sum_cons]; omega
    · have := mem_sum l y h
      simp only [List.map_cons, List.sum_cons]; omega
theorem pure (x : (prodAll [.slice (.prod (.int .i64) (.prod (.int .i64) (.prod (.int .i64) (.prod (.int .i64) (.prod (.slice (.int .u8)) .unit))))), .int .i64, .slice (.int .u8)]).D) (hw : Wf (prodAll [.slice (.prod (.int .i64) (.prod (.int .i64) (.prod (.int .i64) (.prod (.int .i64) (.prod (.slice (.int .u8)) .unit))))), .int .i64, .slice (.int .u8)]) x) (hs : Szd (prodAll [.slice (.prod (.int .i64) (.prod (.int .i64) (.prod (.int .i64) (.prod (.int .i64) (.prod (.slice (.int .u8)) .unit))))), .int .i64, .slice (.int .u8)]) x) : ∃ k, callC (R := Bool) T F k 13 (argsPV [.slice (.prod (.int .i64) (.prod (.int .i64) (.prod (.int .i64) (.prod (.int .i64) (.prod (.slice (.int .u8)) .unit))))), .int .i64, .slice (.int .u8)] x) [] lawK = some true := by
  obtain ⟨l, n, b, u⟩ := x
  obtain ⟨⟨_, hh⟩, _, ⟨_, hb⟩, _⟩ := hw
  obtain ⟨⟨_, hl⟩, _, ⟨hm, _⟩, _⟩ := hs
  have hlen2 : b.length ≤ 140737488351232 := by
    have : b.length * 1 ≤ 140737488351232 := hm
    omega
  have hy : ∀ y ∈ l, B y.2.2.2.2.1 ∧ y.2.2.2.2.1.length < 4611686018427387904 ∧ y.2.2.2.2.1.length + 64 < (l.map fun z : Fr => z.2.2.2.2.1.length).sum + b.length + 1006000 := fun y hy => by
    obtain ⟨_, _, _, _, ⟨_, g⟩, _⟩ := hh y hy
    obtain ⟨_, _, _, _, ⟨s, _⟩, _⟩ := hl y hy
    have : y.2.2.2.2.1.length * 1 ≤ 140737488351232 := s
    have := mem_sum l y hy
    exact ⟨B_of g, by omega, by omega⟩
  refine ⟨(l.map fun z : Fr => z.2.2.2.2.1.length).sum + b.length + 1006000, ?_⟩
  exact (e13 _ _ _ _ _).trans ((f13_eq (l := l) (b := b) (B_of hb) hlen2 n _ (by omega) hy _).trans rfl)
end Go.Proofs.Ytahdmfboidjkoaa.PM
