/- Sorting by a key, all keys different: what slices.SortFunc comes to. -/
import Derived.Test.YtecnlienmpdlaaaPmM
set_option linter.unusedSimpArgs false
set_option linter.unusedVariables false
namespace Go.Proofs.Ytecnlienmpdlaaa.PM
open Go
noncomputable def insK {α : Type} (key : α → Int) (x : α) : List α → List α
  | [] => [x]
  | y :: l => bif decide (key x ≤ key y) then x :: y :: l else y :: insK key x l
noncomputable def skL {α : Type} (key : α → Int) (l : List α) : List α := l.foldr (insK key) []
noncomputable def nodupB : List Int → Bool
  | [] => true
  | x :: l => !(l.any fun y => y == x) && nodupB l
noncomputable def skOk {α : Type} (key : α → Int) (l : List α) : Bool := nodupB (l.map key) && decide (l.length < 4611686018427387904)
noncomputable def zeroP (p : Prov) : Bool := p.all fun q => q.1 == 0
noncomputable def skSpec (t : Ty) (c : Nat) (key : t.D → Int) (args : List PV) (rows : List RowS) : Option (List PV × List RowS) := match args, rows with
  | [.rw 1, .fn g []], [⟨n, .arr p t' l⟩] => if h : t' = t then (bif (g == c) && (zeroP p && skOk key (show List t.D from h ▸ l)) then some ([], [⟨0, .arr p t (skL key (show List t.D from h ▸ l))⟩]) else none) else none
  | _, _ => none
theorem sk_call {R : Type} {T : TT} {F : Nat → Option PFn} {k g c : Nat} {m : List Mode} {ty : Ty} {key : ty.D → Int} (p : Prov) (hp : zeroP p = true) (hF : F g = some (.ext m (skSpec ty c key))) (l : List ty.D) (K : List PV → List RowS → Option R) :
    callC T F (k + 1) g [.rw 1, .fn c []] [⟨0, .arr p ty l⟩] K = bif skOk key l then K [] [⟨0, .arr p ty (skL key l)⟩] else none := by
  simp only [callC, hF, skSpec, beq_self_eq_true, Bool.true_and, dite_true, hp]
  cases skOk key l <;> simp
abbrev FoundT : Ty := .prod (.int .i64) (.prod (.prod (.int .i64) (.prod .bool (.prod .str (.prod (.int .i64) (.prod .bool (.prod (.slice (.int .u8)) .unit)))))) .unit)
abbrev VersT : Ty := .prod (.int .i64) (.prod (.int .i64) (.prod .bool (.prod .bool .unit)))
noncomputable def keyIx (x : FoundT.D) : Int := x.2.1.2.2.2.1
noncomputable def keyGen (x : VersT.D) : Int := -(show Int from x.1)
theorem nodupB_iff : ∀ {l : List Int}, nodupB l = true ↔ l.Nodup
  | [] => by simp [nodupB]
  | x :: l => by
    simp only [nodupB, Bool.and_eq_true, Bool.not_eq_true', List.any_eq_false, beq_iff_eq, List.nodup_cons, nodupB_iff (l := l)]
    constructor
    · rintro ⟨h1, h2⟩; exact ⟨fun h => h1 x h rfl, h2⟩
    · rintro ⟨h1, h2⟩; exact ⟨fun y hy e => h1 (e ▸ hy), h2⟩
theorem insK_perm {α : Type} (key : α → Int) (x : α) : ∀ l : List α, (insK key x l).Perm (x :: l)
  | [] => List.Perm.refl _
  | y :: l => by
    simp only [insK]
    cases decide (key x ≤ key y) with
    | true => exact List.Perm.refl _
    | false => exact ((insK_perm key x l).cons y).trans (List.Perm.swap x y l)
theorem skL_perm {α : Type} (key : α → Int) : ∀ l : List α, (skL key l).Perm l
  | [] => List.Perm.refl _
  | x :: l => (insK_perm key x (skL key l)).trans ((skL_perm key l).cons x)
theorem insK_asc {α : Type} (key : α → Int) (x : α) : ∀ {l : List α}, l.Pairwise (fun a b => key a ≤ key b) → (insK key x l).Pairwise fun a b => key a ≤ key b
  | [], _ => List.pairwise_singleton _ _
  | y :: l, h => by
    rw [List.pairwise_cons] at h
    simp only [insK]
    cases hd : decide (key x ≤ key y) with
    | true =>
      have hd := of_decide_eq_true hd
      refine List.pairwise_cons.2 ⟨fun z hz => ?_, List.pairwise_cons.2 h⟩
      rcases List.mem_cons.1 hz with rfl | hz
      · exact hd
      · exact Int.le_trans hd (h.1 z hz)
    | false =>
      have hd := of_decide_eq_false hd
      refine List.pairwise_cons.2 ⟨fun z hz => ?_, insK_asc key x h.2⟩
      rcases List.mem_cons.1 ((insK_perm key x l).mem_iff.1 hz) with rfl | hz
      · omega
      · exact h.1 z hz
theorem skL_asc {α : Type} (key : α → Int) : ∀ l : List α, (skL key l).Pairwise fun a b => key a ≤ key b
  | [] => List.Pairwise.nil
  | x :: l => insK_asc key x (skL_asc key l)
/-- What is in order, all keys different, is in the one order. -/
theorem asc_unique {α : Type} (key : α → Int) : ∀ {l m : List α}, l.Perm m → (l.map key).Nodup → l.Pairwise (fun a b => key a ≤ key b) → m.Pairwise (fun a b => key a ≤ key b) → l = m
  | [], m, hp, _, _, _ => (List.Perm.nil_eq hp)
  | x :: l, [], hp, _, _, _ => by have := hp.length_eq; simp at this
  | x :: l, y :: m, hp, hn, h1, h2 => by
    rw [List.pairwise_cons] at h1 h2
    rw [List.map_cons, List.nodup_cons] at hn
    have e : x = y := by
      have hx := hp.mem_iff.1 (List.mem_cons_self (a := x) (l := l))
      have hy := hp.mem_iff.2 (List.mem_cons_self (a := y) (l := m))
      rcases List.mem_cons.1 hx with h | h
      · exact h
      · rcases List.mem_cons.1 hy with h' | h'
        · exact h'.symm
        · have a1 := h1.1 y h'
          have a2 := h2.1 x h
          have : key x = key y := by omega
          exact absurd (this ▸ List.mem_map.2 ⟨y, h', rfl⟩) hn.1
    subst e
    rw [asc_unique key (List.Perm.cons_inv hp) hn.2 h1.2 h2.2]
end Go.Proofs.Ytecnlienmpdlaaa.PM
