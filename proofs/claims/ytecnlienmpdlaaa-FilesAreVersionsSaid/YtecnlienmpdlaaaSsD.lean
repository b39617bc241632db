/- Sorting strings: what slices.Sort comes to. -/
import Derived.Test.YtecnlienmpdlaaaSkD
set_option linter.unusedSimpArgs false
set_option linter.unusedVariables false
namespace Go.Proofs.Ytecnlienmpdlaaa.PM
open Go
noncomputable def ltS (a b : ByteArray) : Bool := Op.bytesLess a.toList b.toList
noncomputable def insS (x : ByteArray) : List ByteArray → List ByteArray
  | [] => [x]
  | y :: l => bif ltS y x then y :: insS x l else x :: y :: l
noncomputable def ssL (l : List ByteArray) : List ByteArray := l.foldr insS []
noncomputable def ssOk (l : List ByteArray) : Bool := decide (l.length < 4611686018427387904)
noncomputable def castS {t : Ty} (h : t = .str) (l : List t.D) : List ByteArray := match t, h, l with
  | _, rfl, l => l
noncomputable def ssSpec (args : List PV) (rows : List RowS) : Option (List PV × List RowS) := match args, rows with
  | [.rw 1], [⟨n, .arr p t l⟩] => if h : t = .str then (bif zeroP p && ssOk (castS h l) then some ([], [⟨0, .arr p .str (ssL (castS h l))⟩]) else none) else none
  | _, _ => none
theorem ss_call {R : Type} {T : TT} {F : Nat → Option PFn} {k g : Nat} {m : List Mode} (p : Prov) (hp : zeroP p = true) (hF : F g = some (.ext m ssSpec)) (l : List ByteArray) (K : List PV → List RowS → Option R) :
    callC T F (k + 1) g [.rw 1] [⟨0, .arr p .str l⟩] K = bif ssOk l then K [] [⟨0, .arr p .str (ssL l)⟩] else none := by
  simp only [callC, hF, ssSpec, dite_true, hp, Bool.true_and, castS]
  cases ssOk l <;> simp
theorem insS_perm (x : ByteArray) : ∀ l, (insS x l).Perm (x :: l)
  | [] => List.Perm.refl _
  | y :: l => by
    simp only [insS]
    cases ltS y x with
    | true => exact ((insS_perm x l).cons y).trans (List.Perm.swap x y l)
    | false => exact List.Perm.refl _
theorem ssL_perm : ∀ l, (ssL l).Perm l
  | [] => List.Perm.refl _
  | x :: l => (insS_perm x (ssL l)).trans ((ssL_perm l).cons x)
theorem bl_asymm : ∀ {x y : List UInt8}, Op.bytesLess x y = true → Op.bytesLess y x = false
  | x, [], h => by cases x <;> simp [Op.bytesLess] at h
  | [], _ :: _, _ => by simp [Op.bytesLess]
  | a :: x, b :: y, h => by
    simp only [Op.bytesLess, Bool.or_eq_true, Bool.and_eq_true, decide_eq_true_eq, beq_iff_eq, Bool.or_eq_false_iff, Bool.and_eq_false_iff, decide_eq_false_iff_not, UInt8.lt_iff_toNat_lt] at h ⊢
    rcases h with h | ⟨rfl, h⟩
    · refine ⟨by omega, .inl ?_⟩
      rw [beq_eq_false_iff_ne]
      intro e; subst e; omega
    · exact ⟨by omega, .inr (bl_asymm h)⟩
theorem bl_ntrans : ∀ {x y z : List UInt8}, Op.bytesLess x y = false → Op.bytesLess y z = false → Op.bytesLess x z = false
  | x, y, [], _, _ => by cases x <;> simp [Op.bytesLess]
  | x, [], c :: z, _, h => by simp [Op.bytesLess] at h
  | [], b :: y, c :: z, h, _ => by simp [Op.bytesLess] at h
  | a :: x, b :: y, c :: z, h1, h2 => by
    simp only [Op.bytesLess, Bool.or_eq_false_iff, Bool.and_eq_false_iff, decide_eq_false_iff_not, UInt8.lt_iff_toNat_lt, beq_eq_false_iff_ne, ne_eq, ← UInt8.toNat_inj] at h1 h2 ⊢
    obtain ⟨h1, g1⟩ := h1
    obtain ⟨h2, g2⟩ := h2
    refine ⟨by omega, ?_⟩
    by_cases e : a.toNat = c.toNat
    · right
      rcases g1 with g1 | g1
      · exact absurd (show a.toNat = b.toNat by omega) g1
      · rcases g2 with g2 | g2
        · exact absurd (show b.toNat = c.toNat by omega) g2
        · exact bl_ntrans g1 g2
    · exact .inl e
theorem insS_asc (x : ByteArray) : ∀ {l : List ByteArray}, l.Pairwise (fun a b => ltS b a = false) → (insS x l).Pairwise fun a b => ltS b a = false
  | [], _ => List.pairwise_singleton _ _
  | y :: l, h => by
    rw [List.pairwise_cons] at h
    simp only [insS]
    cases hd : ltS y x with
    | true =>
      refine List.pairwise_cons.2 ⟨fun z hz => ?_, insS_asc x h.2⟩
      rcases List.mem_cons.1 ((insS_perm x l).mem_iff.1 hz) with rfl | hz
      · exact bl_asymm hd
      · exact h.1 z hz
    | false =>
      refine List.pairwise_cons.2 ⟨fun z hz => ?_, List.pairwise_cons.2 h⟩
      rcases List.mem_cons.1 hz with rfl | hz
      · exact hd
      · exact bl_ntrans (h.1 z hz) hd
theorem ssL_asc : ∀ l : List ByteArray, (ssL l).Pairwise fun a b => ltS b a = false
  | [] => List.Pairwise.nil
  | x :: l => insS_asc x (ssL_asc l)
end Go.Proofs.Ytecnlienmpdlaaa.PM
