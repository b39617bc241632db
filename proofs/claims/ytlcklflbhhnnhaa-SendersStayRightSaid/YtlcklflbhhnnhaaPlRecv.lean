/- Plain laws of receivers: what lacks, what is judged. -/
import Derived.Test.YtlcklflbhhnnhaaPlSend2
set_option linter.unusedSimpArgs false
set_option linter.unusedVariables false
namespace Go.Proofs.Ytlcklflbhhnnhaa.PM
open Go Go.Proofs.Ytlcklflbhhnnhaa.Bt
variable {R : Type}

/-! what a list lacks -/
def preF : Int → List Rg → List Rg
  | _, [] => []
  | a, x :: l => (if x.1 > a then [(a, (x.1, ()))] else []) ++ preF x.2.1 l
def lastT : Int → List Rg → Int
  | a, [] => a
  | _, x :: l => lastT x.2.1 l
def holesF (l : List Rg) (e : Int) : List Rg := preF 0 l ++ if lastT 0 l < e then [(lastT 0 l, (e, ()))] else []
theorem preF_len : ∀ (a : Int) (l : List Rg), (preF a l).length ≤ l.length
  | _, [] => by simp [preF]
  | a, x :: l => by
    have := preF_len x.2.1 l
    simp only [preF, List.length_append, List.length_cons]
    split <;> simp <;> omega
theorem holesF_len (l : List Rg) (e : Int) : (holesF l e).length ≤ l.length + 1 := by
  have := preF_len 0 l
  unfold holesF
  split <;> simp <;> omega
/-! lists in order -/
def Srt (lim : Int) : Int → List Rg → Prop
  | _, [] => True
  | a, x :: l => a ≤ x.1 ∧ x.1 < x.2.1 ∧ x.2.1 ≤ lim ∧ Srt lim x.2.1 l
theorem rgF_srt {lim : Int} : ∀ {p : Option Int} {l : List Rg}, rgF lim p l = 0 → Srt lim (p.getD 0) l
  | _, [], _ => trivial
  | p, y :: l, h => by
    simp only [rgF] at h
    by_cases q1 : y.1 < 0
    · simp [q1] at h
    by_cases q2 : y.2.1 > lim
    · simp [q1, q2] at h
    by_cases q3 : y.2.1 ≤ y.1
    · simp [q1, q2, q3] at h
    cases p with
    | none => exact ⟨by show (0 : Int) ≤ y.1; omega, by omega, by omega, rgF_srt (p := some y.2.1) (by simpa [q1, q2, q3] using h)⟩
    | some e =>
      by_cases q4 : y.1 ≤ e
      · simp [q1, q2, q3, q4] at h
      · exact ⟨by show e ≤ y.1; omega, by omega, by omega, rgF_srt (p := some y.2.1) (by simpa [q1, q2, q3, q4] using h)⟩
theorem lastT_bounds {lim : Int} : ∀ {a : Int} {l : List Rg}, Srt lim a l → a ≤ lastT a l ∧ (a ≤ lim → lastT a l ≤ lim)
  | a, [], _ => ⟨Int.le_refl _, id⟩
  | a, x :: l, ⟨h1, h2, h3, h4⟩ => by
    have := lastT_bounds h4
    simp only [lastT]
    exact ⟨by omega, fun _ => this.2 h3⟩
theorem srt_low {lim : Int} : ∀ {a : Int} {l : List Rg}, Srt lim a l → ∀ x ∈ l, a ≤ x.1
  | _, [], _, x, hx => by cases hx
  | a, y :: l, ⟨h1, h2, h3, h4⟩, x, hx => by
    rcases List.mem_cons.1 hx with rfl | hx
    · exact h1
    · have := srt_low h4 x hx; omega
def inR (l : List Rg) (j : Int) : Prop := ∃ x ∈ l, x.1 ≤ j ∧ j < x.2.1
theorem preF_mem {lim : Int} : ∀ {a : Int} {l : List Rg}, Srt lim a l → ∀ j, inR (preF a l) j ↔ (a ≤ j ∧ j < lastT a l ∧ ¬ inR l j)
  | a, [], _, j => by
    simp only [preF, lastT, inR]
    constructor
    · rintro ⟨x, hx, _⟩; cases hx
    · rintro ⟨h1, h2, _⟩; omega
  | a, x :: l, ⟨h1, h2, h3, h4⟩, j => by
    have ih := preF_mem h4 j
    have hb := (lastT_bounds h4).1
    have hlow := srt_low h4
    simp only [preF, lastT]
    constructor
    · rintro ⟨y, hy, hj⟩
      rcases List.mem_append.1 hy with hy | hy
      · split at hy
        · rw [List.mem_singleton] at hy
          subst hy
          have hj1 : a ≤ j := hj.1
          have hj2 : j < x.1 := hj.2
          refine ⟨hj1, by omega, ?_⟩
          rintro ⟨z, hz, hz1, hz2⟩
          rcases List.mem_cons.1 hz with rfl | hz
          · omega
          · have := hlow z hz; omega
        · cases hy
      · obtain ⟨g1, g2, g3⟩ := ih.1 ⟨y, hy, hj⟩
        refine ⟨by omega, g2, ?_⟩
        rintro ⟨z, hz, hz1, hz2⟩
        rcases List.mem_cons.1 hz with rfl | hz
        · omega
        · exact g3 ⟨z, hz, hz1, hz2⟩
    · rintro ⟨g1, g2, g3⟩
      by_cases q : j < x.1
      · refine ⟨(a, (x.1, ())), List.mem_append.2 (Or.inl ?_), g1, q⟩
        rw [if_pos (show x.1 > a by omega)]; simp
      · have q2 : x.2.1 ≤ j := by
          by_cases q2 : x.2.1 ≤ j
          · exact q2
          · exact absurd ⟨x, by simp, by omega, by omega⟩ g3
        obtain ⟨y, hy, hj⟩ := ih.2 ⟨q2, g2, fun ⟨z, hz, hz'⟩ => g3 ⟨z, by simp [hz], hz'⟩⟩
        exact ⟨y, List.mem_append.2 (Or.inr hy), hj⟩
theorem preF_rg {lim : Int} : ∀ {a : Int} {l : List Rg}, Srt lim a l → ∀ h ∈ preF a l, a ≤ h.1 ∧ h.1 < h.2.1 ∧ h.2.1 ≤ lastT a l
  | a, [], _, h, hh => by cases hh
  | a, x :: l, ⟨h1, h2, h3, h4⟩, h, hh => by
    have hb := (lastT_bounds h4).1
    simp only [preF] at hh
    simp only [lastT]
    rcases List.mem_append.1 hh with hh | hh
    · split at hh
      · rename_i q
        rw [List.mem_singleton] at hh
        subst hh
        exact ⟨Int.le_refl _, q, by show x.1 ≤ _; omega⟩
      · cases hh
    · have := preF_rg h4 h hh
      omega
theorem holesF_last (l : List Rg) : holesF l (lastT 0 l) = preF 0 l := by simp [holesF]

/-! bytes out of what is had -/
def anyNZ : List Int → Bool
  | [] => false
  | b :: l => decide (b ≠ 0) || anyNZ l
theorem anyNZ_iff : ∀ {l : List Int}, anyNZ l = true ↔ ∃ j, ∃ h : j < l.length, l[j] ≠ 0
  | [] => by simp [anyNZ]
  | b :: l => by
    simp only [anyNZ, Bool.or_eq_true, decide_eq_true_eq, anyNZ_iff (l := l)]
    constructor
    · rintro (h | ⟨j, hj, h⟩)
      · exact ⟨0, by simp, by simpa using h⟩
      · exact ⟨j + 1, by simp; omega, by simpa using h⟩
    · rintro ⟨j, hj, h⟩
      cases j with
      | zero => exact Or.inl (by simpa using h)
      | succ j => exact Or.inr ⟨j, by simp at hj; omega, by simpa using h⟩
theorem anyNZ_sub {l : List Int} {a b : Nat} : anyNZ ((l.take b).drop a) = true ↔ ∃ j, ∃ h : j < l.length, a ≤ j ∧ j < b ∧ l[j] ≠ 0 := by
  rw [anyNZ_iff]
  constructor
  · rintro ⟨j, hj, h⟩
    simp only [List.length_drop, List.length_take] at hj
    refine ⟨a + j, by omega, by omega, by omega, ?_⟩
    simpa using h
  · rintro ⟨j, hj, h1, h2, h⟩
    refine ⟨j - a, by simp only [List.length_drop, List.length_take]; omega, ?_⟩
    have : a + (j - a) = j := by omega
    simp only [List.getElem_drop, List.getElem_take, this]
    exact h
def insB (l : List Rg) (j : Int) : Bool := l.any fun x => decide (x.1 ≤ j) && decide (j < x.2.1)
theorem insB_iff {l : List Rg} {j : Int} : insB l j = true ↔ inR l j := by simp [insB, inR]
def badF (hv : List Rg) : List Int → Nat → Bool
  | [], _ => false
  | b :: l, i => (decide (b ≠ 0) && !insB hv i) || badF hv l (i + 1)
theorem badF_iff {hv : List Rg} : ∀ {l : List Int} {i : Nat}, badF hv l i = true ↔ ∃ j, ∃ h : j < l.length, l[j] ≠ 0 ∧ ¬ inR hv ((i + j : Nat) : Int)
  | [], i => by simp [badF]
  | b :: l, i => by
    have hI : (!insB hv (i : Int)) = true ↔ ¬ inR hv (i : Int) := by rw [← insB_iff]; simp
    simp only [badF, Bool.or_eq_true, Bool.and_eq_true, decide_eq_true_eq, badF_iff (l := l), hI]
    constructor
    · rintro (h | ⟨j, hj, h1, h2⟩)
      · exact ⟨0, by simp, by simpa using h⟩
      · exact ⟨j + 1, by simp; omega, by simpa using h1, by rwa [show i + (j + 1) = i + 1 + j by omega]⟩
    · rintro ⟨j, hj, h1, h2⟩
      cases j with
      | zero => exact Or.inl ⟨by simpa using h1, by simpa using h2⟩
      | succ j => exact Or.inr ⟨j, by simp at hj; omega, by simpa using h1, by rwa [show i + 1 + j = i + (j + 1) by omega]⟩
theorem holes_bad {lim : Int} {hv : List Rg} {dat : List Int} (hs : Srt lim 0 hv) (hl : (dat.length : Int) = lastT 0 hv) :
    (preF 0 hv).any (fun h => anyNZ ((dat.take h.2.1.toNat).drop h.1.toNat)) = badF hv dat 0 := by
  rw [Bool.eq_iff_iff, List.any_eq_true, badF_iff]
  constructor
  · rintro ⟨h, hh, hb⟩
    obtain ⟨j, hj, h1, h2, h3⟩ := anyNZ_sub.1 hb
    obtain ⟨r1, r2, r3⟩ := preF_rg hs h hh
    refine ⟨j, hj, h3, ?_⟩
    rw [Nat.zero_add]
    exact ((preF_mem hs (j : Int)).1 ⟨h, hh, by omega, by omega⟩).2.2
  · rintro ⟨j, hj, h1, h2⟩
    rw [Nat.zero_add] at h2
    obtain ⟨h, hh, q1, q2⟩ := (preF_mem hs (j : Int)).2 ⟨by omega, by omega, h2⟩
    obtain ⟨r1, r2, r3⟩ := preF_rg hs h hh
    exact ⟨h, hh, anyNZ_sub.2 ⟨j, hj, by omega, by omega, h1⟩⟩
end Go.Proofs.Ytlcklflbhhnnhaa.PM
