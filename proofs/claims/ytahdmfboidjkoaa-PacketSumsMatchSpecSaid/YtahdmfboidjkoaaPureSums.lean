/- The machine's run of PacketSumsMatchSpec on any bytes is true. -/
import Derived.Test.YtahdmfboidjkoaaPlainSums
import Derived.Test.YtahdmfboidjkoaaPmRow
import Derived.Test.YtahdmfboidjkoaaChecked
namespace Go.Proofs.Ytahdmfboidjkoaa.PM
open Go
set_option maxRecDepth 100000

theorem ttok : TTok Try.checked.prog T := by
  unfold T
  refine TTok.cons ⟨?_, ?_, ?_⟩ <| TTok.cons ⟨?_, ?_, ?_⟩ <| TTok.cons ⟨?_, ?_, ?_⟩ <| TTok.cons ⟨?_, ?_, ?_⟩ (TTok.nil _)
  all_goals first | kernel_rfl | (intro ty h; cases h; exact ⟨by kernel_rfl, by kernel_rfl⟩)

theorem Fok_nil (P : Program) : Fok P (findN []) := fun _ _ _ h => by cases h
theorem Fok_cons {P : Program} {l : List (Nat × (Func × Ann))} {g : Nat} {fn : Func} {an : Ann} (h1 : P.funcs[g]? = some fn) (h2 : (fn.name == "runtime.NumGoroutine") = false) (h : Fok P (findN l)) : Fok P (findN ((g, (fn, an)) :: l)) := by
  intro g' fn' an' hf
  simp only [findN] at hf
  by_cases e : g = g'
  · subst e
    simp at hf
    obtain ⟨rfl, rfl⟩ := hf
    exact ⟨h1, by simpa using h2⟩
  · have : (g == g') = false := by simpa using e
    rw [this] at hf
    exact h g' fn' an' hf

theorem fok : Fok Try.checked.prog F := by
  unfold F
  repeat' (first | exact Fok_nil _ | refine Fok_cons (by kernel_rfl) (by kernel_rfl) ?_)

theorem bytesN : ∀ (l : List Int), (∀ x ∈ l, (Lit.int .u8 x).wf = true) → ∃ bs : List Nat, l = bs.map (fun b : Nat => (b : Int)) ∧ ∀ b ∈ bs, b < 256
  | [], _ => ⟨[], rfl, fun _ h => by cases h⟩
  | x :: l, h => by
    obtain ⟨bs, e, hb⟩ := bytesN l fun y hy => h y (List.mem_cons_of_mem _ hy)
    have hx := bounds_u8 (h x List.mem_cons_self)
    refine ⟨x.toNat :: bs, by rw [e]; simp; omega, fun b hb' => ?_⟩
    rcases List.mem_cons.1 hb' with rfl | hb'
    · omega
    · exact hb b hb'

theorem pure (x : (prodAll [.slice (.int .u8)]).D) (hw : Wf (prodAll [.slice (.int .u8)]) x) (hs : Szd (prodAll [.slice (.int .u8)]) x) : ∃ k, callC (R := Bool) T F k 3 (argsPV [.slice (.int .u8)] x) [] lawK = some true := by
  obtain ⟨l, u⟩ := x
  obtain ⟨⟨_, hb⟩, _⟩ := hw
  obtain ⟨⟨hl, _⟩, _⟩ := hs
  obtain ⟨bs, rfl, hbs⟩ := bytesN l hb
  have hlen : bs.length ≤ 140737488351232 := by
    have : (bs.map (fun b : Nat => (b : Int))).length * 1 ≤ 140737488351232 := hl
    simpa using this
  refine ⟨bs.length + 20 + 3, ?_⟩
  have := plain (R := Bool) (bs.length + 20) bs hbs (by omega) (by omega) (by omega) (fun z => lawK [.val [] .bool z] [])
  exact (e3 _ _ _).trans this

end Go.Proofs.Ytahdmfboidjkoaa.PM
