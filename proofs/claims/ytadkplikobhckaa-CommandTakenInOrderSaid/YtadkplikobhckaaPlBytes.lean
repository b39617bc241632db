/- Plain laws of commands: what is written is read. -/
import Derived.Test.YtadkplikobhckaaPlB
set_option linter.unusedSimpArgs false
set_option linter.unusedVariables false
namespace Go.Proofs.Ytadkplikobhckaa.PM
open Go Go.Proofs.Ytadkplikobhckaa.Bt
variable {R : Type}

theorem inB_iff {a lo hi : Int} : inB a lo hi = true ↔ lo ≤ a ∧ a ≤ hi := by simp [inB]
theorem wrap_u8 {a : Int} (h0 : 0 ≤ a) (h1 : a ≤ 255) : IntKind.u8.wrap a = a := by
  simp [IntKind.wrap, IntKind.bits, IntKind.signed]; omega
theorem chkOrder_ok {a b : Int} {n : Nat} (h : chkOrder a b n = 0) : (1 ≤ a ∧ a ≤ 5) ∧ (0 ≤ b ∧ b ≤ 255) := by
  unfold chkOrder at h
  cases hi : inB a 1 5
  · simp [hi] at h
  · cases hj : inB b 0 255
    · simp [hi, hj] at h
    · exact ⟨inB_iff.1 hi, inB_iff.1 hj⟩
theorem readOrder_bytes {a b : Int} {l : List Int} (h : chkOrder a b l.length = 0) : readOrder (IntKind.u8.wrap a :: IntKind.u8.wrap b :: l) = (a, b, 0, l) := by
  obtain ⟨⟨h1, h2⟩, h3, h4⟩ := chkOrder_ok h
  have ea : IntKind.u8.wrap a = a := wrap_u8 (by omega) (by omega)
  have eb : IntKind.u8.wrap b = b := wrap_u8 (by omega) (by omega)
  have ea' : IntKind.i64.wrap a = a := wraps_i64 _ (by omega) (by omega)
  have eb' : IntKind.i64.wrap b = b := wraps_i64 _ (by omega) (by omega)
  simp [readOrder, ea, eb, ea', eb', h]
theorem f4_eq {k : Nat} (a b : Int) {l : List Int} (c : Int) (x y z : Bool) (hk : l.length + 20 < k) (hl : l.length ≤ 140737488351232) (K : Bool → Option R) : f4 k a b l c x y z K = K true := by
  rw [f4_def]
  obtain ⟨k, rfl⟩ := succ_of (show 0 < k by omega)
  simp only [f4d, f22_eq (show 2 < k by omega) _ _ (l := l) (by omega), f23_eq (show 2 < k by omega) _ _ (l := l) (by omega), bne_dec, f4_1000006_def, f4_1000006d]
  have hlen : (if chkOrder a b l.length = 0 then IntKind.u8.wrap a :: IntKind.u8.wrap b :: l else []).length ≤ l.length + 2 := by split <;> simp
  simp only [decide_true, Bool.not_true, BEq.rfl, cond_true]
  rw [f24_eq _ (by omega) (by omega)]
  simp only [decide_true, Bool.not_true, BEq.rfl, cond_true, cond_false, f21_eq (show 6 < k by omega)]
  have rest : (f25 k c x y z (fun r20481_0 r20481_1 => (f26 k c x y z (fun r22529_0 r22529_1 => (bif ((!decide (r20481_0 = r22529_0)) == false) then (f24 k r20481_1 r22529_1 (fun r24582_0 => (bif (!r24582_0) then (K false) else (bif (!decide (r20481_0 = (0 : Int))) then (K true) else (f19 k r20481_1 (fun r32769_0 r32769_1 r32769_2 r32769_3 r32769_4 => (bif ((r32769_4 == (0 : Int)) == true) then (K (((c, (x, (y, (z, ())))).1 == (r32769_0, (r32769_1, (r32769_2, (r32769_3, ())))).1) && ((((c, (x, (y, (z, ())))).2).1 == ((r32769_0, (r32769_1, (r32769_2, (r32769_3, ())))).2).1) && (((((c, (x, (y, (z, ())))).2).2).1 == (((r32769_0, (r32769_1, (r32769_2, (r32769_3, ())))).2).2).1) && ((((((c, (x, (y, (z, ())))).2).2).2).1 == ((((r32769_0, (r32769_1, (r32769_2, (r32769_3, ())))).2).2).2).1) && true))))) else (K false)))))))) else (K false)))))) = K true := by
    simp only [f25_eq (show 5 < k by omega), f26_eq (show 1 < k by omega)]
    have hal : (ackBytes c x y z).2.length ≤ 2 := by unfold ackBytes; split <;> simp
    simp only [decide_true, Bool.not_true, BEq.rfl, cond_true]
    rw [f24_eq _ (by omega) (by omega)]
    simp only [decide_true, Bool.not_true, BEq.rfl, cond_true, cond_false, f19_eq (show 0 < k by omega)]
    cases hi : inB c 0 255
    · simp [ackBytes, hi]
    · obtain ⟨g0, g1⟩ := inB_iff.1 hi
      have ec : IntKind.u8.wrap c = c := wrap_u8 g0 g1
      have ec' : IntKind.i64.wrap c = c := wraps_i64 _ (by omega) (by omega)
      cases x <;> cases y <;> cases z <;> simp [ackBytes, hi, readAck, flag, ec, ec', bits, IntKind.wrap, IntKind.bits, IntKind.signed] <;> rw [if_neg (by omega), show c % 256 % 18446744073709551616 = c by omega] <;> simp
  rw [rest]
  by_cases h : chkOrder a b l.length = 0
  · simp only [h, if_true, BEq.rfl, cond_true]
    rw [f16_eq (show 2 < k by omega) _ (by simp; omega), readOrder_bytes h]
    simp only [decide_true, Bool.not_true, BEq.rfl, cond_true]
    rw [f18_eq _ _ _ _ _ (by omega) (by omega)]
    simp
  · have e : (chkOrder a b l.length == 0) = false := by simpa using h
    simp only [e, cond_false]
end Go.Proofs.Ytadkplikobhckaa.PM
