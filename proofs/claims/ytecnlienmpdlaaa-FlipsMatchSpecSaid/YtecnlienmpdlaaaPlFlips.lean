/- Plain laws of flash memories: one bit is changed. -/
import Derived.Test.YtecnlienmpdlaaaPlFl
set_option linter.unusedSimpArgs false
set_option linter.unusedVariables false
namespace Go.Proofs.Ytecnlienmpdlaaa.PM
open Go Go.Proofs.Ytecnlienmpdlaaa.Bt
variable {R : Type}

noncomputable def flipD (d : List Int) (bit : Int) : List Int := d.set (bit / 8).toNat (bits .xor .u8 (d.getD (bit / 8).toNat 0) (Int.fdiv 128 (2 ^ min (bit % 8).toNat 8)))
noncomputable def flipErr (b p s : Int) (d w x : List Int) (bit : Int) : Int := if chkFlash b p s d w x ≠ 0 then chkFlash b p s d w x else if inB bit 0 (8 * (d.length : Int) - 1) then 0 else 1
theorem f39_eq {k : Nat} (hk : 1 < k) (b p s : Int) (d w x : List Int) (hd : d.length ≤ 140737488355328) (hw : w.length ≤ 17592186044416) (hx : x.length ≤ 17592186044416) (K : Int → Int → Int → List Int → List Int → List Int → Option R) : f39 k b p s d w x K = K b p s d w x := by
  rw [f39_def]
  obtain ⟨k, rfl⟩ := succ_of (show 0 < k by omega)
  simp only [f39d, f72_eq (show 0 < k by omega) d hd, f44_eq (show 0 < k by omega) w hw, f44_eq (show 0 < k by omega) x hx]
theorem f10_eq {k : Nat} (b p s : Int) (d w x : List Int) (bit : Int) (hk : w.length + x.length + 20 < k) (hd : d.length ≤ 140737488355328) (hw : w.length ≤ 17592186044416) (hx : x.length ≤ 17592186044416) (K : Int → Int → Int → Int → List Int → List Int → List Int → Option R) :
    f10 k b p s d w x bit K = if flipErr b p s d w x bit = 0 then K b p s 0 (flipD d bit) w x else K 0 0 0 (flipErr b p s d w x bit) [] [] [] := by
  rw [f10_def]
  obtain ⟨k, rfl⟩ := succ_of (show 0 < k by omega)
  simp only [f10d, f37_eq b p s d w x (show _ < k by omega) (by omega) (by omega), f38_eq (show 1 < k by omega), f39_eq (show 1 < k by omega) b p s d w x hd hw hx]
  rw [wi (n := 8 * (d.length : Int)) (by omega) (by omega), wi (n := 8 * (d.length : Int) - 1) (by omega) (by omega), f36_eq (by simp; omega) (by simp)]
  simp only [firstF, bne_dec]
  by_cases h : chkFlash b p s d w x = 0
  · cases hi : inB bit 0 (8 * (d.length : Int) - 1)
    · have e : flipErr b p s d w x bit = 1 := by simp [flipErr, h, hi]
      rw [e]
      simp [h]
    · have e : flipErr b p s d w x bit = 0 := by simp [flipErr, h, hi]
      rw [e]
      obtain ⟨b0, b1⟩ := inB_iff.1 hi
      have h8 : IntKind.i64.wrap (Int.tdiv bit 8) = bit / 8 := by rw [tdiv_nn b0, wi (by omega) (by omega)]
      have m8 : Int.tmod bit 8 = bit % 8 := tmod_nn b0
      have c1 : decide (0 ≤ bit / 8) = true := by simp only [decide_eq_true_eq]; omega
      have c2 : decide (bit / 8 < (d.length : Int)) = true := by simp only [decide_eq_true_eq]; omega
      have c3 : decide (0 ≤ bit % 8) = true := by simp only [decide_eq_true_eq]; omega
      simp only [h, if_true, decide_true, Bool.not_true, cond_false, h8, m8, c1, c2, c3, Bool.and_self, cond_true, flipD]
  · have e : flipErr b p s d w x bit = chkFlash b p s d w x := by simp [flipErr, h]
    rw [e, if_neg h]
    simp [h]
theorem wrap_u64s {n : Int} (h0 : 0 ≤ n) (h1 : n < 256) : IntKind.u64.wrap n = n := wraps_u64 n h0 (by omega)
theorem f11_eq {k : Nat} (b p s : Int) (d w x : List Int) (bit : Int) (hk : w.length + x.length + 20 < k) (hd : d.length ≤ 140737488355328) (hw : w.length ≤ 17592186044416) (hx : x.length ≤ 17592186044416) (K : Int → Int → Int → List Int → Int → List Int → List Int → Option R) :
    f11 k b p s d w x bit K = if flipErr b p s d w x bit = 0 then K b p s x 0 (flipD d bit) w else K 0 0 0 [] (flipErr b p s d w x bit) [] [] := by
  rw [f11_def]
  obtain ⟨k, rfl⟩ := succ_of (show 0 < k by omega)
  have h42 : ∀ K : Int → Int → Int → List Int → Int → Bool → List Int → List Int → Option R, f42 k b p s d w x (-1) K = K b p s x (-1) false d w := fun K => by
    rw [f42_def]
    obtain ⟨k, rfl⟩ := succ_of (show 0 < k by omega)
    simp only [f42d, LIM1, LIM8, hd, hw, decide_true, cond_true]
  simp only [f11d, f40_eq b p s d w x (show _ < k by omega) (by omega) (by omega), f41_eq (show 0 < k by omega), h42]
  rw [wi (n := 8 * (d.length : Int)) (by omega) (by omega), wi (n := 8 * (d.length : Int) - 1) (by omega) (by omega)]
  simp only [bne_dec]
  by_cases h : chkFlash b p s d w x = 0
  · cases hi : inB bit 0 (8 * (d.length : Int) - 1)
    · have e : flipErr b p s d w x bit = 1 := by simp [flipErr, h, hi]
      rw [e]
      simp [h]
    · have e : flipErr b p s d w x bit = 0 := by simp [flipErr, h, hi]
      rw [e]
      obtain ⟨b0, b1⟩ := inB_iff.1 hi
      have h8 : IntKind.i64.wrap (Int.tdiv bit 8) = bit / 8 := by rw [tdiv_nn b0, wi (by omega) (by omega)]
      have m8 : IntKind.u64.wrap (Int.tmod bit 8) = bit % 8 := by rw [tmod_nn b0, wrap_u64s (by omega) (by omega)]
      have c1 : decide (0 ≤ bit / 8) = true := by simp only [decide_eq_true_eq]; omega
      have c2 : decide (bit / 8 < (d.length : Int)) = true := by simp only [decide_eq_true_eq]; omega
      have c3 : decide (0 ≤ bit % 8) = true := by simp only [decide_eq_true_eq]; omega
      simp only [h, if_true, decide_true, Bool.not_true, cond_false, h8, m8, c1, c2, c3, Bool.and_self, cond_true, flipD]
  · have e : flipErr b p s d w x bit = chkFlash b p s d w x := by simp [flipErr, h]
    rw [e, if_neg h]
    simp [h]
theorem mask_nat {t : Nat} (h : t < 8) : ∃ c : Nat, c < 256 ∧ Int.fdiv 128 (2 ^ min t 8) = (c : Int) := by
  rcases (show t = 0 ∨ t = 1 ∨ t = 2 ∨ t = 3 ∨ t = 4 ∨ t = 5 ∨ t = 6 ∨ t = 7 by omega) with h | h | h | h | h | h | h | h <;> subst h
  · exact ⟨128, by decide, by decide⟩
  · exact ⟨64, by decide, by decide⟩
  · exact ⟨32, by decide, by decide⟩
  · exact ⟨16, by decide, by decide⟩
  · exact ⟨8, by decide, by decide⟩
  · exact ⟨4, by decide, by decide⟩
  · exact ⟨2, by decide, by decide⟩
  · exact ⟨1, by decide, by decide⟩
theorem wrap_u8 {a : Int} (h0 : 0 ≤ a) (h1 : a < 256) : IntKind.u8.wrap a = a := by
  simp [IntKind.wrap, IntKind.bits, IntKind.signed]; omega
theorem xor_u8 (a c : Nat) (ha : a < 256) (hc : c < 256) : bits .xor .u8 (a : Int) (c : Int) = ((a ^^^ c : Nat) : Int) := xor_nat .u8 8 (by decide) (fun n h0 h1 => wrap_u8 h0 (by omega)) a c ha hc
theorem flip_twice {d : List Int} (hB : ∀ x ∈ d, 0 ≤ x ∧ x < 256) {bit : Int} (h0 : 0 ≤ bit) (h1 : bit < 8 * (d.length : Int)) : flipD (flipD d bit) bit = d := by
  obtain ⟨c, hc, ec⟩ := mask_nat (t := (bit % 8).toNat) (by omega)
  have hi : (bit / 8).toNat < d.length := by omega
  have hv := hB _ (List.getElem_mem hi)
  obtain ⟨a, ea⟩ : ∃ a : Nat, d[(bit / 8).toNat] = (a : Int) := ⟨d[(bit / 8).toNat].toNat, by omega⟩
  have ha : a < 256 := by omega
  have hx : a ^^^ c < 256 := Nat.xor_lt_two_pow (n := 8) ha hc
  have e1 : flipD d bit = d.set (bit / 8).toNat ((a ^^^ c : Nat) : Int) := by
    unfold flipD
    rw [getD_in hi, ea, ec, xor_u8 a c ha hc]
  have hg : (d.set (bit / 8).toNat ((a ^^^ c : Nat) : Int)).getD (bit / 8).toNat 0 = ((a ^^^ c : Nat) : Int) := by
    rw [getD_in (by simpa using hi), List.getElem_set_self]
  rw [e1]
  unfold flipD
  rw [hg, ec, xor_u8 _ c hx hc, List.set_set, Nat.xor_assoc, Nat.xor_self, Nat.xor_zero, ← ea, List.set_getElem_self]
theorem flip_len (d : List Int) (bit : Int) : (flipD d bit).length = d.length := by unfold flipD; simp
theorem flipErr_len {b p s : Int} {d d' w x : List Int} (h : d'.length = d.length) (bit : Int) : flipErr b p s d' w x bit = flipErr b p s d w x bit := by
  unfold flipErr chkFlash
  rw [h]
theorem f3_eq {k : Nat} (b p s : Int) (d w x : List Int) (bit : Int) (hk : w.length + x.length + 100 < k) (hd : d.length ≤ 140737488355328) (hw : w.length ≤ 17592186044416) (hx : x.length ≤ 17592186044416) (hB : ∀ x ∈ d, 0 ≤ x ∧ x < 256) (K : Bool → Option R) : f3 k b p s d w x bit K = K true := by
  rw [f3_def]
  obtain ⟨k, rfl⟩ := succ_of (show 0 < k by omega)
  simp only [f3d]
  rw [f10_eq b p s d w x bit (by omega) hd hw hx]
  by_cases h : flipErr b p s d w x bit = 0
  · rw [if_pos h, f11_eq b p s d w x bit (by omega) hd hw hx, if_pos h, f12_same _ _ _ _ _ _ (by omega) (by omega) (by omega)]
    simp only [Bool.not_true, BEq.rfl, cond_true, bne_self_eq_false, cond_false]
    rw [f10_eq b p s (flipD d bit) w x bit (by omega) (by rw [flip_len]; exact hd) hw hx, flipErr_len (flip_len d bit), if_pos h]
    have hb : 0 ≤ bit ∧ bit < 8 * (d.length : Int) := by
      unfold flipErr at h
      split at h
      · rename_i h'; exact absurd h h'
      · split at h
        · rename_i h'; have := inB_iff.1 h'; omega
        · cases h
    rw [flip_twice hB hb.1 hb.2]
    simp only [BEq.rfl, cond_true]
    rw [f12_same _ _ _ _ _ _ (by omega) (by omega) (by omega), f13_eq (by omega)]
    simp
  · rw [if_neg h, f11_eq b p s d w x bit (by omega) hd hw hx, if_neg h, f12_same _ _ _ _ _ _ (by simp; omega) (by simp) (by simp)]
    have h' : (flipErr b p s d w x bit != 0) = true := by simpa using h
    simp only [Bool.not_true, BEq.rfl, cond_true, bne_self_eq_false, cond_false, h', f13_eq (show 30 < k by omega)]
end Go.Proofs.Ytecnlienmpdlaaa.PM
