/- A long body divided into packets: the code and the reference answer alike. -/
import Derived.Test.YtahdmfboidjkoaaPlRead
import Derived.Test.YtahdmfboidjkoaaPlBytes
set_option linter.unusedSimpArgs false
set_option linter.unusedVariables false
namespace Go.Proofs.Ytahdmfboidjkoaa.PM
open Go Go.Proofs.Ytahdmfboidjkoaa.Bt Go.Proofs.Ytahdmfboidjkoaa.Crc
variable {R : Type}

abbrev Pkt := Int × (Bool × (Int × (Int × (List Int × Unit))))
theorem LIM56 : 1000000 ≤ LIM 56 := by decide
theorem or01 : bits .or .i64 0 1 = 1 := by decide
theorem or12 : bits .or .i64 1 2 = 3 := by decide
theorem or02 : bits .or .i64 0 2 = 2 := by decide
theorem ad01 : IntKind.i64.wrap (0 + 1) = 1 := by decide
theorem ad12 : IntKind.i64.wrap (1 + 2) = 3 := by decide
theorem ad02 : IntKind.i64.wrap (0 + 2) = 2 := by decide
theorem cond_app {α β : Type} (c : Bool) (f : α → β) (a b : α) : (bif c then f a else f b) = f (bif c then a else b) := by cases c <;> rfl

/-- Piece i of many. -/
def piece (s : Int) (c : Bool) (n : Int) (b : List Int) (m many i : Nat) : Pkt :=
  (s, c, (bif decide (i = 0) then 1 else 0) + (bif decide (i + 1 = many) then 2 else 0), Int.tmod (n + i) 16384, (b.take (min ((i + 1) * m) b.length)).drop (i * m), ())
theorem many_lt {L m i : Nat} (hm : 1 ≤ m) : i < (L + m - 1) / m ↔ i * m < L := by
  have := Nat.le_div_iff_mul_le (x := i + 1) (y := L + m - 1) (k := m) (by omega)
  have e : (i + 1) * m = i * m + m := by rw [Nat.add_mul, Nat.one_mul]
  rw [e] at this
  omega
/-- What is wrong, and the pieces. -/
def splitE (s n : Int) (b : List Int) (m : Int) : Int :=
  if chk s 0 n [0] ≠ 0 then chk s 0 n [0] else if b.length = 0 then 9 else if 60000 < b.length then 2 else if ¬(1 ≤ m ∧ m ≤ 1000) then 1 else if 2000 < (b.length + m.toNat - 1) / m.toNat then 2 else 0
def splitL (s : Int) (c : Bool) (n : Int) (b : List Int) (m : Int) : List Pkt :=
  if splitE s n b m ≠ 0 then [] else (List.range ((b.length + m.toNat - 1) / m.toNat)).map (piece s c n b m.toNat ((b.length + m.toNat - 1) / m.toNat))
theorem divs {L m : Nat} (hL : L ≤ 60000) (hm : 1 ≤ m ∧ m ≤ 1000) : IntKind.i64.wrap (Int.tdiv (IntKind.i64.wrap ((IntKind.i64.wrap ((L : Int) + (m : Int))) - 1)) (m : Int)) = (((L + m - 1) / m : Nat) : Int) := by
  rw [wraps_i64 ((L : Int) + (m : Int)) (by omega) (by omega), wraps_i64 ((L : Int) + (m : Int) - 1) (by omega) (by omega)]
  have e : (L : Int) + (m : Int) - 1 = ((L + m - 1 : Nat) : Int) := by omega
  have h := Nat.div_le_self (L + m - 1) m
  have h2 : ((L + m - 1 : Nat) : Int) / (m : Int) = (((L + m - 1) / m : Nat) : Int) := (Int.natCast_ediv _ _).symm
  rw [e, Int.tdiv_eq_ediv_of_nonneg (by omega), h2]
  generalize (L + m - 1) / m = z at *
  exact wraps_i64 _ (by omega) (by omega)
/-- Equal lists of packets are told equal. -/
theorem same_loop (k : Nat) (K : Bool → Option R) (l : List Pkt) (hl : l.length < 4611686018427387904) (hb : ∀ y ∈ l, y.2.2.2.2.1.length < 4611686018427387904 ∧ y.2.2.2.2.1.length + 3 < k) : ∀ (d f i : Nat), i + d = l.length → d < f →
    f27_0d k K (K true) l l (l.length : Int) f (i : Int) = K true
  | d, 0, i, _, h => absurd h (Nat.not_lt_zero _)
  | 0, f + 1, i, hi, _ => by
    have h1 : decide ((i : Int) < (l.length : Int)) = false := by simp only [decide_eq_false_iff_not]; omega
    simp only [f27_0d, f27_0b, h1, cond_false]
  | d + 1, f + 1, i, hi, hf => by
    have h1 : decide ((i : Int) < (l.length : Int)) = true := by simp only [decide_eq_true_eq]; omega
    have h0 : decide ((0 : Int) ≤ (i : Int)) = true := by simp
    have hli : i < l.length := by omega
    have w2 : IntKind.i64.wrap ((i : Int) + 1) = ((i + 1 : Nat) : Int) := by rw [wraps_i64 _ (by omega) (by omega)]; omega
    have hg : ∀ z : Pkt, l.getD i z = l[i] := fun z => by rw [List.getD_eq_getElem?_getD, List.getElem?_eq_getElem hli]; rfl
    have hh := hb _ (List.getElem_mem hli)
    simp only [f27_0d, f27_0b, h1, h0, cond_true, Bool.and_self, Int.toNat_natCast, hg, w2]
    rw [f24_eq k _ _ _ _ _ _ _ _ _ _ hh.1 hh.2]
    simp only [and_self, decide_true, Bool.not_true, cond_false]
    exact same_loop k K l hl hb d f (i + 1) (by omega) (by omega)
theorem f27_eq (l : List Pkt) (hl : l.length < 4611686018427387904) (k : Nat) (hk : l.length + 1 < k) (hb : ∀ y ∈ l, y.2.2.2.2.1.length < 4611686018427387904 ∧ y.2.2.2.2.1.length + 4 < k) (K : Bool → Option R) : f27 k l l K = K true := by
  rw [f27_def]
  obtain ⟨k, rfl⟩ : ∃ j, k = j + 1 := ⟨k - 1, by omega⟩
  simp only [f27d, bne_self_eq_false, cond_false, f27_0_def]
  exact same_loop k K l hl (fun y hy => ⟨(hb y hy).1, by have := (hb y hy).2; omega⟩) l.length k 0 (by omega) (by omega)
end Go.Proofs.Ytahdmfboidjkoaa.PM
