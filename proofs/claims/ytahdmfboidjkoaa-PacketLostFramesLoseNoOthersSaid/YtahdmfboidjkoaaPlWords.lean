/- Words of two bytes, ranges, and equal lists: what the typed functions answer. -/
import Derived.Test.YtahdmfboidjkoaaPlSums
set_option linter.unusedSimpArgs false
set_option linter.unusedVariables false
namespace Go.Proofs.Ytahdmfboidjkoaa.PM
open Go Go.Proofs.Ytahdmfboidjkoaa.Bt Go.Proofs.Ytahdmfboidjkoaa.Crc
variable {R : Type}

/-- Bytes. -/
def B (l : List Int) : Prop := ∀ x ∈ l, 0 ≤ x ∧ x < 256
theorem B.take {l : List Int} (h : B l) (n : Nat) : B (l.take n) := fun x hx => h x (List.mem_of_mem_take hx)
theorem B.drop {l : List Int} (h : B l) (n : Nat) : B (l.drop n) := fun x hx => h x (List.mem_of_mem_drop hx)
theorem B.app {l m : List Int} (h : B l) (h' : B m) : B (l ++ m) := fun x hx => (List.mem_append.1 hx).elim (h x) (h' x)
theorem B.nil : B [] := fun _ h => by cases h
theorem B.cons {x : Int} {l : List Int} (h0 : 0 ≤ x) (h1 : x < 256) (h : B l) : B (x :: l) := fun y hy => by
  rcases List.mem_cons.1 hy with rfl | hy
  · exact ⟨h0, h1⟩
  · exact h y hy
theorem B.getD {l : List Int} (h : B l) (i : Nat) : 0 ≤ l.getD i 0 ∧ l.getD i 0 < 256 := by
  rw [List.getD_eq_getElem?_getD]
  cases e : l[i]? with
  | none => simp
  | some x => exact h x (List.mem_of_getElem? e)
theorem B.nats {l : List Int} (h : B l) : (l.map Int.toNat).map (fun b : Nat => (b : Int)) = l ∧ ∀ b ∈ l.map Int.toNat, b < 256 := by
  refine ⟨?_, fun b hb => ?_⟩
  · rw [List.map_map]
    conv => rhs; rw [← List.map_id l]
    refine List.map_congr_left fun x hx => ?_
    have := h x hx
    simp only [Function.comp, id]
    omega
  · obtain ⟨x, hx, rfl⟩ := List.mem_map.1 hb
    have := h x hx
    omega

/-- The sum of bytes. -/
def crcI (l : List Int) : Int := (crc 65535 (l.map Int.toNat) : Nat)
theorem crc_lt : ∀ (l : List Nat) (s : Nat), s < 65536 → (∀ b ∈ l, b < 256) → crc s l < 65536
  | [], s, h, _ => h
  | b :: l, s, h, hb => by
    rw [crc_cons]
    refine crc_lt l _ ?_ fun c hc => hb c (List.mem_cons_of_mem _ hc)
    rw [byte_def]
    refine steps_lt 8 _ (Nat.xor_lt_two_pow (n := 16) (by omega) ?_)
    have := hb b List.mem_cons_self
    omega
theorem crcI_bounds {l : List Int} (h : B l) : 0 ≤ crcI l ∧ crcI l < 65536 := by
  have := crc_lt _ 65535 (by omega) h.nats.2
  unfold crcI; omega
theorem f19_eq {l : List Int} (h : B l) (hl : l.length < 4611686018427387904) (k : Nat) (hk : l.length + 9 < k) (K : Int → Option R) : f19 k l K = K (crcI l) := by
  obtain ⟨e, hb⟩ := h.nats
  cases k with
  | zero => omega
  | succ k =>
    have := sumA (R := R) k (l.map Int.toNat) hb (by simpa using hl) (by omega) (by rw [List.length_map]; omega) K
    rw [e] at this
    exact this
theorem f20_eq {l : List Int} (h : B l) (hl : l.length < 4611686018427387904) (k : Nat) (hk : l.length + 9 < k) (K : Int → Option R) : f20 k l K = K (crcI l) := by
  obtain ⟨e, hb⟩ := h.nats
  cases k with
  | zero => omega
  | succ k =>
    have := sumB (R := R) k (l.map Int.toNat) hb (by simpa using hl) (by omega) (by rw [List.length_map]; omega) K
    rw [e] at this
    exact this
theorem f21_eq (k : Nat) (hk : 11 < k) (K : Bool → Option R) : f21 k K = K true := by
  obtain ⟨k, rfl⟩ : ∃ j, k = j + 2 := ⟨k - 2, by omega⟩
  exact awakeT k (by omega) K

/-- The word of the first two bytes. -/
def w16 (l : List Int) : Int := l.getD 0 0 * 256 + l.getD 1 0
theorem w16_bounds {l : List Int} (h : B l) : 0 ≤ w16 l ∧ w16 l < 65536 := by
  have h0 := h.getD 0
  have h1 := h.getD 1
  unfold w16; omega
theorem w16_take {l : List Int} {n : Nat} (h : 2 ≤ n) : w16 (l.take n) = w16 l := by
  unfold w16
  simp only [List.getD_eq_getElem?_getD, List.getElem?_take]
  rw [if_pos (by omega), if_pos (by omega)]
theorem word_add {a b : Int} (ha : 0 ≤ a ∧ a < 256) (hb : 0 ≤ b ∧ b < 256) : IntKind.i64.wrap ((IntKind.i64.wrap (IntKind.i64.wrap a * 2 ^ 8)) + IntKind.i64.wrap b) = a * 256 + b := by
  rw [wraps_i64 a (by omega) (by omega), wraps_i64 b (by omega) (by omega), wraps_i64 (a * 2 ^ 8) (by omega) (by omega), wraps_i64 _ (by omega) (by omega)]
  omega
theorem word_or {a b : Int} (ha : 0 ≤ a ∧ a < 256) (hb : 0 ≤ b ∧ b < 256) : bits .or .i64 (IntKind.i64.wrap (IntKind.i64.wrap a * 2 ^ 8)) (IntKind.i64.wrap b) = a * 256 + b := by
  rw [wraps_i64 a (by omega) (by omega), wraps_i64 b (by omega) (by omega), wraps_i64 (a * 2 ^ 8) (by omega) (by omega)]
  have := or_i64 (a.toNat * 256) b.toNat (by omega) (by omega)
  have e1 : ((a.toNat * 256 : Nat) : Int) = a * 2 ^ 8 := by rw [Int.natCast_mul, Int.toNat_of_nonneg ha.1]; rfl
  have e2 : ((b.toNat : Nat) : Int) = b := by omega
  rw [e1, e2] at this
  rw [this]
  have : a.toNat * 256 ||| b.toNat = a.toNat * 256 + b.toNat := by
    have := Nat.two_pow_add_eq_or_of_lt (i := 8) (b := b.toNat) (by omega) a.toNat
    rw [Nat.mul_comm] at this
    exact this.symm
  rw [this, Int.natCast_add, Int.natCast_mul, Int.toNat_of_nonneg ha.1, Int.toNat_of_nonneg hb.1]
  rfl
theorem f65_eq {l : List Int} (h : B l) (hl : 2 ≤ l.length) (k : Nat) (hk : 0 < k) (K : Int → Option R) : f65 k l K = K (w16 l) := by
  rw [f65_def]
  obtain ⟨k, rfl⟩ : ∃ j, k = j + 1 := ⟨k - 1, by omega⟩
  have h0 : decide ((0 : Int) < (l.length : Int)) = true := by simp; omega
  have h1 : decide ((1 : Int) < (l.length : Int)) = true := by simp; omega
  simp only [f65d, h0, h1, cond_true, word_or (h.getD 0) (h.getD 1), w16]
theorem f68_eq {l : List Int} (h : B l) (hl : 2 ≤ l.length) (k : Nat) (hk : 0 < k) (K : Int → Option R) : f68 k l K = K (w16 l) := by
  rw [f68_def]
  obtain ⟨k, rfl⟩ : ∃ j, k = j + 1 := ⟨k - 1, by omega⟩
  have h0 : decide ((0 : Int) < (l.length : Int)) = true := by simp; omega
  have h1 : decide ((1 : Int) < (l.length : Int)) = true := by simp; omega
  simp only [f68d, h0, h1, cond_true, word_add (h.getD 0) (h.getD 1), w16]

theorem f66_eq (k : Nat) (hk : 0 < k) (a b c : Int) (K : Bool → Option R) : f66 k a b c K = K (decide (b ≤ a) && decide (a ≤ c)) := by
  rw [f66_def]
  obtain ⟨k, rfl⟩ : ∃ j, k = j + 1 := ⟨k - 1, by omega⟩
  by_cases h : b ≤ a <;> simp [f66d, h]
theorem f69_eq (k : Nat) (hk : 0 < k) (a b c : Int) (K : Bool → Option R) : f69 k a b c K = K (decide (b ≤ a) && decide (a ≤ c)) := by
  rw [f69_def]
  obtain ⟨k, rfl⟩ : ∃ j, k = j + 1 := ⟨k - 1, by omega⟩
  by_cases h : b ≤ a <;> simp [f69d, h]

theorem eq_loop (k : Nat) (K : Bool → Option R) (l m : List Int) (e : l.length = m.length) (hl : l.length < 4611686018427387904) : ∀ (d n i : Nat), i + d = l.length → d < n →
    f32_0d k K (K true) l m (l.length : Int) n (i : Int) = K (decide (l.drop i = m.drop i))
  | d, 0, i, _, h => absurd h (Nat.not_lt_zero _)
  | 0, n + 1, i, hi, _ => by
    have h1 : decide ((i : Int) < (l.length : Int)) = false := by simp; omega
    simp only [f32_0d, f32_0b, h1, cond_false]
    rw [List.drop_eq_nil_of_le (by omega), List.drop_eq_nil_of_le (by omega)]
    simp
  | d + 1, n + 1, i, hi, hn => by
    have h1 : decide ((i : Int) < (l.length : Int)) = true := by simp; omega
    have h0 : decide ((0 : Int) ≤ (i : Int)) = true := by simp
    have h2 : decide ((i : Int) < (m.length : Int)) = true := by simp; omega
    have hw : IntKind.i64.wrap ((i : Int) + 1) = ((i + 1 : Nat) : Int) := by rw [wraps_i64 _ (by omega) (by omega)]; omega
    have hli : i < l.length := by omega
    have hmi : i < m.length := by omega
    simp only [f32_0d, f32_0b, h1, h0, h2, cond_true, Bool.and_self, Int.toNat_natCast, hw]
    rw [List.getD_eq_getElem?_getD, List.getElem?_eq_getElem hli, List.getD_eq_getElem?_getD, List.getElem?_eq_getElem hmi, List.drop_eq_getElem_cons hli, List.drop_eq_getElem_cons hmi]
    simp only [Option.getD_some]
    by_cases hx : l[i] = m[i]
    · have : (l[i] != m[i]) = false := by simp [hx]
      rw [this, cond_false, eq_loop k K l m e hl d n (i + 1) (by omega) (by omega)]
      simp only [List.cons.injEq, hx, true_and]
    · have : (l[i] != m[i]) = true := by simp [hx]
      rw [this, cond_true]
      simp only [List.cons.injEq, hx, false_and, decide_false]
theorem f32_eq (l m : List Int) (hl : l.length < 4611686018427387904) (k : Nat) (hk : l.length + 1 < k) (K : Bool → Option R) : f32 k l m K = K (decide (l = m)) := by
  rw [f32_def]
  obtain ⟨k, rfl⟩ : ∃ j, k = j + 1 := ⟨k - 1, by omega⟩
  by_cases e : l.length = m.length
  · have h1 : ((l.length : Int) != (m.length : Int)) = false := by simp [e]
    simp only [f32d, h1, cond_false, f32_0_def]
    have := eq_loop k K l m e hl l.length k 0 (by omega) (by omega)
    simpa using this
  · have h1 : ((l.length : Int) != (m.length : Int)) = true := by simp; omega
    have h2 : ¬ l = m := fun h => e (by rw [h])
    simp only [f32d, h1, cond_true]
    simp [h2]
theorem f41_eq (l : List Int) (hl : l.length ≤ 140737488355328) (k : Nat) (hk : 0 < k) (K : List Int → Option R) : f41 k l K = K l := by
  rw [f41_def]
  obtain ⟨k, rfl⟩ : ∃ j, k = j + 1 := ⟨k - 1, by omega⟩
  have : decide (l.length ≤ LIM 1) = true := by
    have : LIM 1 = 140737488355328 := by decide
    rw [this]; simpa using hl
  simp only [f41d, this, cond_true]
end Go.Proofs.Ytahdmfboidjkoaa.PM
