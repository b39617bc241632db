/- Plain laws of signed commands: the opening. -/
import Derived.Test.YtadkplikobhckaaPlKeys
set_option linter.unusedSimpArgs false
set_option linter.unusedVariables false
namespace Go.Proofs.Ytadkplikobhckaa.PM
open Go Go.Proofs.Ytadkplikobhckaa.Bt
variable {R : Type}
structure Opened where
  key : Int
  least : Int
  got : Int
  code : Int
  taken : List Int
  body : List Int
def Opened.on (o : Opened) (K : Int → Int → Int → Int → List Int → List Int → Option R) : Option R := K o.key o.least o.got o.code o.taken o.body
def notOpen (c : Int) : Opened := ⟨0, 0, 0, c, [], []⟩
theorem numF_range : ∀ (l : List Int) (a : Int), B l → 0 ≤ a → a < 2 ^ 64 → 0 ≤ numF l a ∧ numF l a < 2 ^ 64
  | [], a, _, h0, h1 => ⟨h0, h1⟩
  | b :: l, a, hB, h0, h1 => by
    have hb := hB b (List.mem_cons_self ..)
    have e : IntKind.u64.wrap (a * 256) = a * 256 % 2 ^ 64 := IntKind.wrap_u64 _
    exact numF_range l _ (fun x hx => hB x (List.mem_cons_of_mem _ hx)) (by rw [e]; omega) (by rw [e]; omega)
noncomputable def openF (c n : Int) (l b : List Int) : Opened :=
  if b.length ≤ 16 then notOpen 9 else if 216 < b.length then notOpen 2 else
  if sgn c (b.take (b.length - 8)) ≠ numF ((b.drop (b.length - 8)).take 8) 0 then notOpen 15 else
  if 1000000000 < numF (b.take 8) 0 then notOpen 1 else
  if numF (b.take 8) 0 < n then notOpen 7 else
  if l.contains (numF (b.take 8) 0) then notOpen 7 else
  if n + 64 < numF (b.take 8) 0 then notOpen 11 else
  ⟨c, (runF n (sortI (l ++ [numF (b.take 8) 0]))).1, numF (b.take 8) 0, 0, (runF n (sortI (l ++ [numF (b.take 8) 0]))).2, (b.take (b.length - 8)).drop 8⟩
theorem f84_eq {k : Nat} (c n : Int) (l b : List Int) (hl : l.length ≤ 64) (h0 : 0 ≤ n) (h1 : n ≤ 1000000001) (hB : B b) (hk : 1000 < k) (K : Int → Int → Int → Int → List Int → List Int → Option R) : f84 k c n l b K = (openF c n l b).on K := by
  obtain ⟨j, rfl⟩ := succ_of (show 0 < k by omega)
  rw [f84_def]
  simp only [f84d]
  by_cases a1 : b.length ≤ 16
  · have e1 : decide ((b.length : Int) ≤ 16) = true := by rw [decide_eq_true_eq]; omega
    simp only [e1, cond_true, openF, if_pos a1]
    rfl
  have e1 : decide ((b.length : Int) ≤ 16) = false := by rw [decide_eq_false_iff_not]; omega
  by_cases a2 : 216 < b.length
  · have e2 : decide ((b.length : Int) > 216) = true := by rw [decide_eq_true_eq]; omega
    simp only [e1, e2, cond_true, cond_false, openF, if_neg a1, if_pos a2]
    rfl
  have e2 : decide ((b.length : Int) > 216) = false := by rw [decide_eq_false_iff_not]; omega
  have w : IntKind.i64.wrap ((b.length : Int) - 8) = ((b.length - 8 : Nat) : Int) := by rw [wi (by omega) (by omega)]; omega
  have e3 : decide ((0 : Int) ≤ ((b.length - 8 : Nat) : Int)) = true := by rw [decide_eq_true_eq]; omega
  have e4 : decide (((b.length - 8 : Nat) : Int) ≤ (b.length : Int)) = true := by rw [decide_eq_true_eq]; omega
  have e5 : decide ((8 : Int) ≤ ((b.length - 8 : Nat) : Int)) = true := by rw [decide_eq_true_eq]; omega
  have ht : (b.take (b.length - 8)).length = b.length - 8 := by rw [List.length_take]; omega
  have hd : (b.drop (b.length - 8)).length = 8 := by rw [List.length_drop]; omega
  have hv := numF_range (b.take 8) 0 (fun x hx => hB x (List.mem_of_mem_take hx)) (by decide) (by decide)
  simp only [e1, e2, cond_false, w, e3, e4, e5, Bool.and_self, cond_true, Int.toNat_natCast]
  rw [f83_eq c _ (by omega) (by omega), f97_eq (by omega) _ (by omega) (fun x hx => hB x (List.mem_of_mem_drop hx))]
  unfold openF
  rw [if_neg a1, if_neg a2]
  by_cases a3 : sgn c (b.take (b.length - 8)) = numF ((b.drop (b.length - 8)).take 8) 0
  · rw [if_neg (fun h => h a3)]
    have f1 : (sgn c (b.take (b.length - 8)) != numF ((b.drop (b.length - 8)).take 8) 0) = false := by rw [bne_dec]; simp [a3]
    simp only [f1, cond_false]
    rw [f97_eq (by omega) b (by omega) hB]
    generalize numF (b.take 8) 0 = v at hv ⊢
    by_cases a4 : 1000000000 < v
    · simp only [show decide (v > 1000000000) = true from decide_eq_true a4, cond_true, if_pos a4]; rfl
    have w2 : IntKind.i64.wrap v = v := wi (by omega) (by omega)
    have w3 : IntKind.i64.wrap (n + 64) = n + 64 := wi (by omega) (by omega)
    simp only [show decide (v > 1000000000) = false from decide_eq_false a4, cond_false, if_neg a4, w2, w3]
    by_cases a5 : v < n
    · simp only [show decide (v < n) = true from decide_eq_true a5, if_pos a5]; rfl
    simp only [show decide (v < n) = false from decide_eq_false a5, if_neg a5, beq_self_eq_true, cond_true]
    rw [f51_eq l (by omega) (by omega)]
    cases a6 : l.contains v with
    | true => simp only [cond_true, if_pos]; rfl
    | false =>
      by_cases a7 : n + 64 < v
      · simp only [show decide (v > n + 64) = true from decide_eq_true a7, cond_true, cond_false, if_pos a7]; rfl
      simp only [show decide (v > n + 64) = false from decide_eq_false a7, cond_false, if_neg a7]
      rw [f98_eq c n l v (by omega) (by omega), f59_eq (by omega) _ (by rw [List.length_drop, ht]; omega)]
      rfl
  · rw [if_pos a3]
    have f1 : (sgn c (b.take (b.length - 8)) != numF ((b.drop (b.length - 8)).take 8) 0) = true := by rw [bne_dec]; simp [a3]
    simp only [f1, cond_true]
    rfl
end Go.Proofs.Ytadkplikobhckaa.PM
