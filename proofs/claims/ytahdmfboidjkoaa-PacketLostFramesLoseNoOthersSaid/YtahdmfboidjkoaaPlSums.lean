/- The sums of the packets: both are the CRC. -/
import Derived.Test.YtahdmfboidjkoaaPT
import Derived.Test.YtahdmfboidjkoaaCrc
set_option linter.unusedSimpArgs false
set_option linter.unusedVariables false
namespace Go.Proofs.Ytahdmfboidjkoaa.PM
open Go Go.Proofs.Ytahdmfboidjkoaa.Bt Go.Proofs.Ytahdmfboidjkoaa.Crc
variable {R : Type}

theorem inA (k : Nat) (x : Int → Option R) (a : List Int) (b c : Int) : ∀ (d m s j : Nat), j + d = 8 → d < m → s < 65536 → f19_2d k x a b c m (s : Int) (j : Int) = x (steps d s : Nat)
  | d, 0, s, j, _, h, _ => by omega
  | 0, m + 1, s, j, hj, _, hs => by
    have : decide ((j : Int) < 8) = false := by simp; omega
    simp only [f19_2d, f19_2b, f19_1000010_def, f19_1000010d, this, cond_false, steps_zero]
  | d + 1, m + 1, s, j, hj, hm, hs => by
    have h1 : decide ((j : Int) < 8) = true := by simp; omega
    have hw : IntKind.i64.wrap ((j : Int) + 1) = ((j + 1 : Nat) : Int) := by rw [wraps_i64 _ (by omega) (by omega)]; omega
    obtain ⟨e1, e2, e3⟩ := stepA s hs
    simp only [f19_2d, f19_2b, f19_1000010_def, f19_1000010d, h1, cond_true, e1, hw, steps_succ]
    by_cases h : 32768 ≤ s
    · simp only [h, decide_true, cond_true, e2 h]
      exact inA k x a b c d m _ _ (by omega) (by omega) (step_lt s hs)
    · simp only [h, decide_false, cond_false, e3 (by omega)]
      exact inA k x a b c d m _ _ (by omega) (by omega) (step_lt s hs)
theorem inB (k : Nat) (x : Int → Option R) (a : List Int) (b c : Int) : ∀ (d m s j : Nat), j + d = 8 → d < m → s < 65536 → f20_2d k x a b c m (s : Int) (j : Int) = x (steps d s : Nat)
  | d, 0, s, j, _, h, _ => by omega
  | 0, m + 1, s, j, hj, _, hs => by
    have : decide ((j : Int) < 8) = false := by simp; omega
    simp only [f20_2d, f20_2b, f20_1000011_def, f20_1000011d, this, cond_false, steps_zero]
  | d + 1, m + 1, s, j, hj, hm, hs => by
    have h1 : decide ((j : Int) < 8) = true := by simp; omega
    have hw : IntKind.i64.wrap ((j : Int) + 1) = ((j + 1 : Nat) : Int) := by rw [wraps_i64 _ (by omega) (by omega)]; omega
    obtain ⟨e1, e2, e3⟩ := stepB s hs
    simp only [f20_2d, f20_2b, f20_1000011_def, f20_1000011d, h1, cond_true, e1, hw, steps_succ]
    by_cases h : 32768 ≤ s
    · simp only [h, decide_true, cond_true, e2 h]
      exact inB k x a b c d m _ _ (by omega) (by omega) (step_lt s hs)
    · simp only [h, decide_false, cond_false, e3 (by omega)]
      exact inB k x a b c d m _ _ (by omega) (by omega) (step_lt s hs)

theorem byteX (s b : Nat) (hs : s < 65536) (hb : b < 256) : bits .xor .i64 (s : Int) (IntKind.i64.wrap (IntKind.i64.wrap (b : Int) * 2 ^ 8)) = ((s ^^^ b * 256 : Nat) : Int) ∧ s ^^^ b * 256 < 65536 := by
  have h1 : IntKind.i64.wrap (b : Int) = b := wraps_i64 _ (by omega) (by omega)
  have h2 : IntKind.i64.wrap ((b : Int) * 2 ^ 8) = ((b * 256 : Nat) : Int) := by rw [wraps_i64 _ (by omega) (by omega)]; omega
  rw [h1, h2, xor_i64 s (b * 256) (by omega) (by omega)]
  exact ⟨rfl, Nat.xor_lt_two_pow (n := 16) (by omega) (by omega)⟩

theorem outA (k : Nat) (hk : 8 < k) (x : Int → Option R) (l : List Int) (hl : l.length < 4611686018427387904) : ∀ (rest : List Nat) (m s i : Nat), (∀ b ∈ rest, b < 256) → l.drop i = rest.map (fun b : Nat => (b : Int)) → i + rest.length = l.length → rest.length < m → s < 65536 →
    f19_0d k x l (l.length : Int) m (s : Int) (i : Int) = x (crc s rest : Nat) := by
  intro rest
  induction rest with
  | nil =>
    intro m s i _ _ hi hm hs
    cases m with
    | zero => exact absurd hm (Nat.not_lt_zero _)
    | succ m =>
      simp only [List.length_nil, Nat.add_zero] at hi
      have hlt : decide ((i : Int) < (l.length : Int)) = false := by rw [hi]; simp
      unfold f19_0d f19_0b
      rw [hlt]
      simp only [cond_false, crc_nil]
  | cons b rest ih =>
    intro m s i hb hd hi hm hs
    cases m with
    | zero => exact absurd hm (Nat.not_lt_zero _)
    | succ m =>
      simp only [List.length_cons] at hi hm
      have h1 : decide ((i : Int) < (l.length : Int)) = true := by simp; omega
      have h0 : decide ((0 : Int) ≤ (i : Int)) = true := by simp
      have hg : l.getD (Int.toNat (i : Int)) 0 = (b : Int) := by
        have : l[i]? = some (b : Int) := by
          have := congrArg (fun q => q[0]?) hd
          simpa using this
        rw [Int.toNat_natCast, List.getD_eq_getElem?_getD, this]; rfl
      have hw : IntKind.i64.wrap ((i : Int) + 1) = ((i + 1 : Nat) : Int) := by rw [wraps_i64 _ (by omega) (by omega)]; omega
      obtain ⟨x1, x2⟩ := byteX s b hs (hb b List.mem_cons_self)
      unfold f19_0d f19_0b
      rw [h1, h0, hg, x1, hw]
      simp only [cond_true, Bool.and_self, f19_2_def, f20_2_def]
      rw [crc_cons, byte_def]
      have := inA k (fun y => f19_0d k x l (l.length : Int) m y ((i + 1 : Nat) : Int)) l (l.length : Int) (i : Int) 8 k (s ^^^ b * 256) 0 rfl hk x2
      refine Eq.trans this ?_
      refine ih m (steps 8 (s ^^^ b * 256)) (i + 1) (fun c hc => hb c (List.mem_cons_of_mem _ hc)) ?_ (by omega) (by omega) (steps_lt 8 _ x2)
      have := congrArg List.tail hd
      simpa using this
theorem outB (k : Nat) (hk : 8 < k) (x : Int → Option R) (l : List Int) (hl : l.length < 4611686018427387904) : ∀ (rest : List Nat) (m s i : Nat), (∀ b ∈ rest, b < 256) → l.drop i = rest.map (fun b : Nat => (b : Int)) → i + rest.length = l.length → rest.length < m → s < 65536 →
    f20_0d k x l (l.length : Int) m (s : Int) (i : Int) = x (crc s rest : Nat) := by
  intro rest
  induction rest with
  | nil =>
    intro m s i _ _ hi hm hs
    cases m with
    | zero => exact absurd hm (Nat.not_lt_zero _)
    | succ m =>
      simp only [List.length_nil, Nat.add_zero] at hi
      have hlt : decide ((i : Int) < (l.length : Int)) = false := by rw [hi]; simp
      unfold f20_0d f20_0b
      rw [hlt]
      simp only [cond_false, crc_nil]
  | cons b rest ih =>
    intro m s i hb hd hi hm hs
    cases m with
    | zero => exact absurd hm (Nat.not_lt_zero _)
    | succ m =>
      simp only [List.length_cons] at hi hm
      have h1 : decide ((i : Int) < (l.length : Int)) = true := by simp; omega
      have h0 : decide ((0 : Int) ≤ (i : Int)) = true := by simp
      have hg : l.getD (Int.toNat (i : Int)) 0 = (b : Int) := by
        have : l[i]? = some (b : Int) := by
          have := congrArg (fun q => q[0]?) hd
          simpa using this
        rw [Int.toNat_natCast, List.getD_eq_getElem?_getD, this]; rfl
      have hw : IntKind.i64.wrap ((i : Int) + 1) = ((i + 1 : Nat) : Int) := by rw [wraps_i64 _ (by omega) (by omega)]; omega
      obtain ⟨x1, x2⟩ := byteX s b hs (hb b List.mem_cons_self)
      unfold f20_0d f20_0b
      rw [h1, h0, hg, x1, hw]
      simp only [cond_true, Bool.and_self, f19_2_def, f20_2_def]
      rw [crc_cons, byte_def]
      have := inB k (fun y => f20_0d k x l (l.length : Int) m y ((i + 1 : Nat) : Int)) l (l.length : Int) (i : Int) 8 k (s ^^^ b * 256) 0 rfl hk x2
      refine Eq.trans this ?_
      refine ih m (steps 8 (s ^^^ b * 256)) (i + 1) (fun c hc => hb c (List.mem_cons_of_mem _ hc)) ?_ (by omega) (by omega) (steps_lt 8 _ x2)
      have := congrArg List.tail hd
      simpa using this

theorem sumA (k : Nat) (bs : List Nat) (hb : ∀ b ∈ bs, b < 256) (hl : bs.length < 4611686018427387904) (h8 : 8 < k) (hk : bs.length < k) (K : Int → Option R) : f19 (k + 1) (bs.map (fun b : Nat => (b : Int))) K = K (crc 65535 bs : Nat) := by
  rw [f19_def]
  show f19_0 k (fun y => K y) (bs.map (fun b : Nat => (b : Int))) ((bs.map (fun b : Nat => (b : Int))).length : Int) k ((65535 : Nat) : Int) ((0 : Nat) : Int) = _
  rw [f19_0_def]
  exact outA k h8 _ _ (by simpa using hl) bs k 65535 0 hb rfl (by simp) hk (by omega)
theorem sumB (k : Nat) (bs : List Nat) (hb : ∀ b ∈ bs, b < 256) (hl : bs.length < 4611686018427387904) (h8 : 8 < k) (hk : bs.length < k) (K : Int → Option R) : f20 (k + 1) (bs.map (fun b : Nat => (b : Int))) K = K (crc 65535 bs : Nat) := by
  rw [f20_def]
  show f20_0 k (fun y => K y) (bs.map (fun b : Nat => (b : Int))) ((bs.map (fun b : Nat => (b : Int))).length : Int) k ((65535 : Nat) : Int) ((0 : Nat) : Int) = _
  rw [f20_0_def]
  exact outB k h8 _ _ (by simpa using hl) bs k 65535 0 hb rfl (by simp) hk (by omega)

theorem crc_known : crc 65535 [49, 50, 51, 52, 53, 54, 55, 56, 57] = 10673 := by decide +kernel

theorem awakeT (k : Nat) (hk : 9 < k) (K : Bool → Option R) : f21 (k + 2) K = K true := by
  have h := sumA (R := R) k [49, 50, 51, 52, 53, 54, 55, 56, 57] (by decide) (by simp) (by omega) (by simpa using hk) (fun r => K (r == 10673))
  rw [crc_known] at h
  rw [f21_def]
  exact h

end Go.Proofs.Ytahdmfboidjkoaa.PM
