/- slices.SortFunc at spans: what it comes to. -/
import Derived.Shelf.SlSortCmp.WholeK
import Derived.Test.YtoepnomdklhhlaaGreatPmM
set_option linter.unusedSimpArgs false
set_option linter.unusedVariables false
namespace Go.Proofs.YtoepnomdklhhlaaGreat
open Go.Shelf Go.RowKit Go.Lib Go.Sort
/-- A span whose places are no larger than a machine has. -/
abbrev Sp := { x : Int × Int // -4611686018427387904 ≤ x.1 ∧ x.1 < 4611686018427387904 }
instance : Inhabited Sp := ⟨⟨(0, 0), by decide⟩⟩
def encSp (x : Sp) : List Value := [.int .i64 x.1.1, .int .i64 x.1.2]
def cfSp (x y : Sp) : Int := x.1.1 - y.1.1
theorem cfSp_lt (x y : Sp) : ltOf cfSp x y = decide (x.1.1 < y.1.1) := by
 unfold ltOf cfSp
 rw [decide_eq_decide]; omega
theorem swoSp : SWO (ltOf cfSp) where
 irrefl x := by rw [cfSp_lt]; simp
 trans x y z h1 h2 := by rw [cfSp_lt] at *; simp at *; omega
 ntrans x y z h1 h2 := by rw [cfSp_lt] at *; simp at *; omega
noncomputable def srtA (d : Array Sp) : Array Sp := pdq (ltOf cfSp) d 0 d.size (Lib.bitLen d.size) true true
end Go.Proofs.YtoepnomdklhhlaaGreat
namespace Go.Proofs.YtoepnomdklhhlaaGreat.PM
open Go
abbrev SpT : Ty := .prod (.int .i64) (.prod (.int .i64) .unit)
def spOk (x : Int × (Int × Unit)) : Bool := decide (-4611686018427387904 ≤ x.1) && decide (x.1 < 4611686018427387904)
def toSp (x : Int × (Int × Unit)) : Sp := if h : -4611686018427387904 ≤ x.1 ∧ x.1 < 4611686018427387904 then ⟨(x.1, x.2.1), h⟩ else default
def ofSp (s : Sp) : Int × (Int × Unit) := (s.1.1, (s.1.2, ()))
noncomputable def srtL (l : List (Int × (Int × Unit))) : List (Int × (Int × Unit)) := (srtA (l.map toSp).toArray).toList.map ofSp
def sortOk (l : List (Int × (Int × Unit))) : Bool := List.all l spOk && decide (l.length < 4611686018427387904)
def castD {t : Ty} (h : t = SpT) (l : List t.D) : List (Int × (Int × Unit)) := match t, h, l with
 | _, rfl, l => l
noncomputable def sortSpec (c : Nat) (args : List PV) (rows : List RowS) : Option (List PV × List RowS) := match args, rows with
 | [.rw 1, .fn g []], [⟨n, .arr [] t l⟩] => if h : t = SpT then (bif (g == c) && sortOk (castD h l) then some ([], [⟨0, .arr [] SpT (srtL (castD h l))⟩]) else none) else none
 | _, _ => none
theorem enc_toSp {x : Int × (Int × Unit)} (h : spOk x = true) : encSp (toSp x) = [.int .i64 x.1, .int .i64 x.2.1] := by
 simp only [spOk, Bool.and_eq_true, decide_eq_true_eq] at h
 unfold toSp
 rw [dif_pos h]
 rfl
theorem srtA_size (d : Array Sp) : (srtA d).size = d.size := (Go.Sort.pdq_sorts (ltOf cfSp) swoSp d 0 d.size (Lib.bitLen d.size) true true (Nat.zero_le _) (Nat.le_refl _) (Or.inl rfl)).1.1
theorem srtL_len (l : List (Int × (Int × Unit))) : (srtL l).length = l.length := by
 unfold srtL
 rw [List.length_map, Array.length_toList, srtA_size]
 simp
theorem srtL_nil : srtL [] = [] := List.length_eq_zero_iff.1 (srtL_len [])
theorem of_toSp {x : Int × (Int × Unit)} (h : spOk x = true) : ofSp (toSp x) = x := by
 simp only [spOk, Bool.and_eq_true, decide_eq_true_eq] at h
 unfold toSp
 rw [dif_pos h]
 rfl
theorem srtA_perm (d : Array Sp) : (srtA d).toList.Perm d.toList := by
 have hs := Go.Sort.pdq_sorts (ltOf cfSp) swoSp d 0 d.size (Lib.bitLen d.size) true true (Nat.zero_le _) (Nat.le_refl _) (Or.inl rfl)
 obtain ⟨e, he⟩ : ∃ e, e = srtA d := ⟨_, rfl⟩
 have h1 : e.size = d.size := by rw [he]; exact srtA_size d
 have h3 : (e.extract 0 d.size).toList.Perm (d.extract 0 d.size).toList := by rw [he]; exact hs.1.2.2
 rw [← he]
 rw [Array.extract_size] at h3
 rw [← h1, Array.extract_size] at h3
 exact h3
/-- Sorted are the same spans. -/
theorem srtL_perm {l : List (Int × (Int × Unit))} (h : sortOk l = true) : (srtL l).Perm l := by
 simp only [sortOk, Bool.and_eq_true, List.all_eq_true] at h
 have h3 := srtA_perm (l.map toSp).toArray
 have h4 := h3.map ofSp
 have e2 : ((l.map toSp).toArray.toList).map ofSp = l := by
  rw [List.toList_toArray, List.map_map]
  conv => rhs; rw [← List.map_id l]
  exact List.map_congr_left fun x hx => of_toSp (h.1 x hx)
 rw [e2] at h4
 exact h4
/-- They stand in order. -/
theorem srtL_asc (l : List (Int × (Int × Unit))) : (srtL l).Pairwise fun x y => x.1 ≤ y.1 := by
 have hs := Go.Sort.pdq_sorts (ltOf cfSp) swoSp (l.map toSp).toArray 0 (l.map toSp).toArray.size (Lib.bitLen (l.map toSp).toArray.size) true true (Nat.zero_le _) (Nat.le_refl _) (Or.inl rfl)
 have h1 : (srtA (l.map toSp).toArray).size = (l.map toSp).toArray.size := hs.1.1
 rw [List.pairwise_iff_getElem]
 intro i j hi hj hij
 unfold srtL at hi hj ⊢
 rw [List.length_map, Array.length_toList] at hi hj
 have h2 := hs.2 i j (Nat.zero_le _) hij (by rw [← h1]; exact hj)
 rw [cfSp_lt] at h2
 have g1 : (Go.Sort.pdq (ltOf cfSp) (l.map toSp).toArray 0 (l.map toSp).toArray.size (Lib.bitLen (l.map toSp).toArray.size) true true)[i]! = (srtA (l.map toSp).toArray)[i] := getElem!_pos (srtA (l.map toSp).toArray) i hi
 have g2 : (Go.Sort.pdq (ltOf cfSp) (l.map toSp).toArray 0 (l.map toSp).toArray.size (Lib.bitLen (l.map toSp).toArray.size) true true)[j]! = (srtA (l.map toSp).toArray)[j] := getElem!_pos (srtA (l.map toSp).toArray) j hj
 rw [g1, g2, decide_eq_false_iff_not] at h2
 simp only [List.getElem_map, Array.getElem_toList, ofSp]
 omega
theorem sort_call {R : Type} {T : TT} {F : Nat → Option PFn} {k g c : Nat} {m : List Mode} (hF : F g = some (.ext m (sortSpec c))) (l : List (Int × (Int × Unit))) (K : List PV → List RowS → Option R) :
  callC T F (k + 1) g [.rw 1, .fn c []] [⟨0, .arr [] SpT l⟩] K = bif sortOk l then K [] [⟨0, .arr [] SpT (srtL l)⟩] else none := by
 simp only [callC, hF, sortSpec, beq_self_eq_true, Bool.true_and, dite_true, castD]
 cases sortOk l <;> simp
end Go.Proofs.YtoepnomdklhhlaaGreat.PM
