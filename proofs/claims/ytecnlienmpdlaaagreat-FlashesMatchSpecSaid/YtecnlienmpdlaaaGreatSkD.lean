import Derived.Test.YtecnlienmpdlaaaGreatPmI
set_option linter.unusedSimpArgs false
set_option linter.unusedVariables false
namespace Go.Proofs.YtecnlienmpdlaaaGreat.PM
open Go
theorem dT {p : Prop} [Decidable p] (h : p) : decide p = true := decide_eq_true h
theorem dF {p : Prop} [Decidable p] (h : ¬ p) : decide p = false := decide_eq_false h
theorem wj {n m : Int} (h : -9223372036854775808 ≤ n ∧ n < 9223372036854775808 ∧ n = m) : IntKind.i64.wrap n = m := by rw [IntKind.wrap_i64]; omega
abbrev eF : Foot := ⟨[], []⟩
noncomputable section
def insK {α : Type} (key : α → Int) (x : α) : List α → List α
 | [] => [x]
 | y :: l => bif decide (key x ≤ key y) then x :: y :: l else y :: insK key x l
def skL {α : Type} (key : α → Int) (l : List α) : List α := l.foldr (insK key) []
def nodupB : LI → Bool
 | [] => true
 | x :: l => !(l.any fun y => y == x) && nodupB l
def skOk {α : Type} (key : α → Int) (l : List α) : Bool := nodupB (l.map key) && decide (l.length < 4611686018427387904)
def zeroP (p : Prov) : Bool := p.all fun q => q.1 == 0
def skSpec (t : Ty) (c : Nat) (key : t.D → Int) (args : List PV) (rows : List RowS) : Option (List PV × List RowS) := match args, rows with
 | [.rw 1, .fn g []], [⟨n, .arr p t' l⟩] => if h : t' = t then (bif (g == c) && (zeroP p && skOk key (show List t.D from h ▸ l)) then some ([], [⟨0, .arr p t (skL key (show List t.D from h ▸ l))⟩]) else none) else none
 | _, _ => none
theorem Q14q {R : Type} {T : TT} {F : Nat → Option PFn} {k g c : Nat} {m : List Mode} {ty : Ty} {key : ty.D → Int} (p : Prov) (hp : zeroP p = true) (hF : F g = some (.ext m (skSpec ty c key))) (l : List ty.D) (K : List PV → List RowS → Oq R) :
  callC T F (k + 1) g [.rw 1, .fn c []] [⟨0, .arr p ty l⟩] K = bif skOk key l then K [] [⟨0, .arr p ty (skL key l)⟩] else none := by
 simp only [callC, hF, skSpec, beq_self_eq_true, Bool.true_and, dite_true, hp]
 cases skOk key l <;> simp
abbrev FoundT : Ty := .prod (.int .i64) (.prod (.prod (.int .i64) (.prod .bool (.prod .str (.prod (.int .i64) (.prod .bool (.prod (.slice (.int .u8)) .unit)))))) .unit)
abbrev VersT : Ty := .prod (.int .i64) (.prod (.int .i64) (.prod .bool (.prod .bool .unit)))
def keyIx (x : FoundT.D) : Int := x.2.1.2.2.2.1
def keyGen (x : VersT.D) : Int := -(show Int from x.1)
theorem Q6k : ∀ {l : LI}, nodupB l = true ↔ l.Nodup
 | [] => by simp [nodupB]
 | x :: l => by
   simp only [nodupB, Bool.and_eq_true, Bool.not_eq_true', List.any_eq_false, beq_iff_eq, List.nodup_cons, Q6k (l := l)]
   constructor
   ·rintro ⟨h1, h2⟩; exact ⟨fun h => h1 x h rfl, h2⟩
   ·rintro ⟨h1, h2⟩; exact ⟨fun y hy e => h1 (e ▸ hy), h2⟩
theorem Qcf {α : Type} (key : α → Int) (x : α) : ∀ l : List α, (insK key x l).Perm (x :: l)
 | [] => List.Perm.refl _
 | y :: l => by
   simp only [insK]
   cases decide (key x ≤ key y) with
   | true => exact List.Perm.refl _
   | false => exact ((Qcf key x l).cons y).trans (List.Perm.swap x y l)
theorem Qk {α : Type} (key : α → Int) : ∀ l : List α, (skL key l).Perm l
 | [] => List.Perm.refl _
 | x :: l => (Qcf key x (skL key l)).trans ((Qk key l).cons x)
theorem Qsf {α : Type} (key : α → Int) (x : α) : ∀ {l : List α}, l.Pairwise (fun a b => key a ≤ key b) → (insK key x l).Pairwise fun a b => key a ≤ key b
 | [], _ => List.pairwise_singleton _ _
 | y :: l, h => by
   rw [List.pairwise_cons] at h
   simp only [insK]
   cases hd : decide (key x ≤ key y) with
   | true =>
     have hd := of_decide_eq_true hd
     refine List.pairwise_cons.2 ⟨fun z hz => ?_, List.pairwise_cons.2 h⟩
     rcases List.mem_cons.1 hz with rfl | hz
     ·exact hd
     ·exact Int.le_trans hd (h.1 z hz)
   | false =>
     have hd := of_decide_eq_false hd
     refine List.pairwise_cons.2 ⟨fun z hz => ?_, Qsf key x h.2⟩
     rcases List.mem_cons.1 ((Qcf key x l).mem_iff.1 hz) with rfl | hz
     ·omega
     ·exact h.1 z hz
theorem Q5t {α : Type} (key : α → Int) : ∀ l : List α, (skL key l).Pairwise fun a b => key a ≤ key b
 | [] => List.Pairwise.nil
 | x :: l => Qsf key x (Q5t key l)
theorem Q3i {α : Type} (key : α → Int) : ∀ {l m : List α}, l.Perm m → (l.map key).Nodup → l.Pairwise (fun a b => key a ≤ key b) → m.Pairwise (fun a b => key a ≤ key b) → l = m
 | [], m, hp, _, _, _ => (List.Perm.nil_eq hp)
 | x :: l, [], hp, _, _, _ => by have := hp.length_eq; simp at this
 | x :: l, y :: m, hp, hn, h1, h2 => by
   rw [List.pairwise_cons] at h1 h2
   rw [List.map_cons, List.nodup_cons] at hn
   have e : x = y := by
    have hx := hp.mem_iff.1 (List.mem_cons_self (a := x) (l := l))
    have hy := hp.mem_iff.2 (List.mem_cons_self (a := y) (l := m))
    rcases List.mem_cons.1 hx with h | h
    ·exact h
    ·rcases List.mem_cons.1 hy with h' | h'
     ·exact h'.symm
     ·have a1 := h1.1 y h'
      have a2 := h2.1 x h
      have : key x = key y := by omega
      exact absurd (this ▸ List.mem_map.2 ⟨y, h', rfl⟩) hn.1
   subst e
   rw [Q3i key (List.Perm.cons_inv hp) hn.2 h1.2 h2.2]
def ltS (a b : BA) : Bool := Op.bytesLess a.toList b.toList
def insS (x : BA) : List BA → List BA
 | [] => [x]
 | y :: l => bif ltS y x then y :: insS x l else x :: y :: l
def ssL (l : List BA) : List BA := l.foldr insS []
def ssOk (l : List BA) : Bool := decide (l.length < 4611686018427387904)
def castS {t : Ty} (h : t = .str) (l : List t.D) : List BA := match t, h, l with
 | _, rfl, l => l
def ssSpec (args : List PV) (rows : List RowS) : Option (List PV × List RowS) := match args, rows with
 | [.rw 1], [⟨n, .arr p t l⟩] => if h : t = .str then (bif zeroP p && ssOk (castS h l) then some ([], [⟨0, .arr p .str (ssL (castS h l))⟩]) else none) else none
 | _, _ => none
theorem Q1dx {R : Type} {T : TT} {F : Nat → Option PFn} {k g : Nat} {m : List Mode} (p : Prov) (hp : zeroP p = true) (hF : F g = some (.ext m ssSpec)) (l : List BA) (K : List PV → List RowS → Oq R) :
  callC T F (k + 1) g [.rw 1] [⟨0, .arr p .str l⟩] K = bif ssOk l then K [] [⟨0, .arr p .str (ssL l)⟩] else none := by
 simp only [callC, hF, ssSpec, dite_true, hp, Bool.true_and, castS]
 cases ssOk l <;> simp
theorem Qcg (x : BA) : ∀ l, (insS x l).Perm (x :: l)
 | [] => List.Perm.refl _
 | y :: l => by
   simp only [insS]
   cases ltS y x with
   | true => exact ((Qcg x l).cons y).trans (List.Perm.swap x y l)
   | false => exact List.Perm.refl _
theorem Q8p : ∀ l, (ssL l).Perm l
 | [] => List.Perm.refl _
 | x :: l => (Qcg x (ssL l)).trans ((Q8p l).cons x)
theorem Q6a : ∀ {x y : List UInt8}, Op.bytesLess x y = true → Op.bytesLess y x = false
 | x, [], h => by cases x <;> simp [Op.bytesLess] at h
 | [], _ :: _, _ => by simp [Op.bytesLess]
 | a :: x, b :: y, h => by
   simp only [Op.bytesLess, Bool.or_eq_true, Bool.and_eq_true, decide_eq_true_eq, beq_iff_eq, Bool.or_eq_false_iff, Bool.and_eq_false_iff, decide_eq_false_iff_not, UInt8.lt_iff_toNat_lt] at h ⊢
   rcases h with h | ⟨rfl, h⟩
   ·refine ⟨by omega, .inl ?_⟩
    rw [beq_eq_false_iff_ne]
    intro e; subst e; omega
   ·exact ⟨by omega, .inr (Q6a h)⟩
theorem Qbg : ∀ {x y z : List UInt8}, Op.bytesLess x y = false → Op.bytesLess y z = false → Op.bytesLess x z = false
 | x, y, [], _, _ => by cases x <;> simp [Op.bytesLess]
 | x, [], c :: z, _, h => by simp [Op.bytesLess] at h
 | [], b :: y, c :: z, h, _ => by simp [Op.bytesLess] at h
 | a :: x, b :: y, c :: z, h1, h2 => by
   simp only [Op.bytesLess, Bool.or_eq_false_iff, Bool.and_eq_false_iff, decide_eq_false_iff_not, UInt8.lt_iff_toNat_lt, beq_eq_false_iff_ne, ne_eq, ← UInt8.toNat_inj] at h1 h2 ⊢
   obtain ⟨h1, g1⟩ := h1
   obtain ⟨h2, g2⟩ := h2
   refine ⟨by omega, ?_⟩
   by_cases e : a.toNat = c.toNat
   ·right
    rcases g1 with g1 | g1
    ·exact absurd (show a.toNat = b.toNat by omega) g1
    ·rcases g2 with g2 | g2
     ·exact absurd (show b.toNat = c.toNat by omega) g2
     ·exact Qbg g1 g2
   ·exact .inl e
theorem Qsg (x : BA) : ∀ {l : List BA}, l.Pairwise (fun a b => ltS b a = false) → (insS x l).Pairwise fun a b => ltS b a = false
 | [], _ => List.pairwise_singleton _ _
 | y :: l, h => by
   rw [List.pairwise_cons] at h
   simp only [insS]
   cases hd : ltS y x with
   | true =>
     refine List.pairwise_cons.2 ⟨fun z hz => ?_, Qsg x h.2⟩
     rcases List.mem_cons.1 ((Qcg x l).mem_iff.1 hz) with rfl | hz
     ·exact Q6a hd
     ·exact h.1 z hz
   | false =>
     refine List.pairwise_cons.2 ⟨fun z hz => ?_, List.pairwise_cons.2 h⟩
     rcases List.mem_cons.1 hz with rfl | hz
     ·exact hd
     ·exact Qbg (h.1 z hz) hd
theorem Qp1 : ∀ l : List BA, (ssL l).Pairwise fun a b => ltS b a = false
 | [] => List.Pairwise.nil
 | x :: l => Qsg x (Qp1 l)
def sortI (l : LI) : LI := l.mergeSort fun x y => decide (x ≤ y)
def Q5u (l : LI) : Bool := decide (l.length < 4611686018427387904)
def castI {t : Ty} (h : t = .int .i64) (l : List t.D) : LI := match t, h, l with
 | _, rfl, l => l
def Q3q (args : List PV) (rows : List RowS) : Option (List PV × List RowS) := match args, rows with
 | [.rw 1], [⟨n, .arr [] t l⟩] => if h : t = .int .i64 then (bif Q5u (castI h l) then some ([], [⟨0, .arr [] (.int .i64) (sortI (castI h l))⟩]) else none) else none
 | _, _ => none
theorem Q6r (l : LI) : (sortI l).Perm l := List.mergeSort_perm l _
theorem Qmk (l : LI) : (sortI l).length = l.length := (Q6r l).length_eq
theorem Q14t (l : LI) : (sortI l).Pairwise fun x y => x ≤ y := by
 have h := List.pairwise_mergeSort (le := fun x y : Int => decide (x ≤ y)) (by intro a b c h1 h2; simp at *; omega) (by intro a b; simp; omega) l
 exact h.imp fun h => by simpa using h
theorem Qty {R : Type} {T : TT} {F : Nat → Option PFn} {k g : Nat} {m : List Mode} (hF : F g = some (.ext m Q3q)) (l : LI) (K : List PV → List RowS → Oq R) :
  callC T F (k + 1) g [.rw 1] [⟨0, .arr [] (.int .i64) l⟩] K = bif Q5u l then K [] [⟨0, .arr [] (.int .i64) (sortI l)⟩] else none := by
 simp only [callC, hF, Q3q, dite_true, castI]
 cases Q5u l <;> simp
end
end Go.Proofs.YtecnlienmpdlaaaGreat.PM
