/- Pages come back; a flipped bit is told. -/
import Derived.Test.YtecnlienmpdlaaaPlPages
import Derived.Test.YtecnlienmpdlaaaCrc
set_option linter.unusedSimpArgs false
set_option linter.unusedVariables false
namespace Go.Proofs.Ytecnlienmpdlaaa.PM
open Go Go.Proofs.Ytecnlienmpdlaaa.Bt Go.Proofs.Ytecnlienmpdlaaa.Crc
variable {R : Type}

theorem xor_cancel {a b c : Nat} (h : a ^^^ c = b ^^^ c) : a = b := by
  have := congrArg (fun x => x ^^^ c) h
  simpa [Nat.xor_assoc] using this
theorem step_inj {s t : Nat} (hs : s < 65536) (ht : t < 65536) (h : Crc.step s = Crc.step t) : s = t := by
  have odd : ∀ x, ((2 * x) ^^^ 4129) % 2 = 1 := fun x => by
    have := Nat.xor_mod_two_pow (a := 2 * x) (b := 4129) (n := 1)
    rw [show (2 : Nat) ^ 1 = 2 from rfl] at this
    rw [this, show 2 * x % 2 = 0 by omega]
    rfl
  unfold Crc.step at h
  by_cases h1 : 32768 ≤ s <;> by_cases h2 : 32768 ≤ t
  · rw [if_pos h1, if_pos h2] at h
    have := xor_cancel h
    omega
  · rw [if_pos h1, if_neg h2] at h
    have := odd (s - 32768)
    rw [show 2 * (s - 32768) = 2 * s - 65536 by omega, h] at this
    omega
  · rw [if_neg h1, if_pos h2] at h
    have := odd (t - 32768)
    rw [show 2 * (t - 32768) = 2 * t - 65536 by omega, ← h] at this
    omega
  · rw [if_neg h1, if_neg h2] at h
    omega
theorem steps_inj : ∀ (n : Nat) {s t : Nat}, s < 65536 → t < 65536 → Crc.steps n s = Crc.steps n t → s = t
  | 0, s, t, _, _, h => by rwa [steps_zero, steps_zero] at h
  | n + 1, s, t, hs, ht, h => by
    rw [steps_succ, steps_succ] at h
    exact step_inj hs ht (steps_inj n (step_lt s hs) (step_lt t ht) h)
theorem put_lt {s b : Nat} (hs : s < 65536) (hb : b < 256) : s ^^^ b * 256 < 65536 := Nat.xor_lt_two_pow (n := 16) (by omega) (by omega)
theorem crc_inj : ∀ (l : List Nat) {s t : Nat}, (∀ b ∈ l, b < 256) → s < 65536 → t < 65536 → crc s l = crc t l → s = t
  | [], s, t, _, _, _, h => h
  | b :: l, s, t, hb, hs, ht, h => by
    have b1 := hb b List.mem_cons_self
    rw [crc_cons, crc_cons, byte_def, byte_def] at h
    have := crc_inj l (fun c hc => hb c (List.mem_cons_of_mem _ hc)) (steps_lt 8 _ (put_lt hs b1)) (steps_lt 8 _ (put_lt ht b1)) h
    exact xor_cancel (steps_inj 8 (put_lt hs b1) (put_lt ht b1) this)
theorem crc_app : ∀ (l m : List Nat) (s : Nat), crc s (l ++ m) = crc (crc s l) m
  | [], m, s => rfl
  | b :: l, m, s => by rw [List.cons_append, crc_cons, crc_cons, crc_app l m]
theorem crc_lt' : ∀ (l : List Nat) (s : Nat), s < 65536 → (∀ b ∈ l, b < 256) → crc s l < 65536
  | [], s, hs, _ => hs
  | b :: l, s, hs, hb => by
    rw [crc_cons, byte_def]
    exact crc_lt' l _ (steps_lt 8 _ (put_lt hs (hb b List.mem_cons_self))) (fun c hc => hb c (List.mem_cons_of_mem _ hc))
theorem crc_byte {l m : List Nat} {b c s : Nat} (hl : ∀ x ∈ l, x < 256) (hm : ∀ x ∈ m, x < 256) (hb : b < 256) (hc : c < 256) (hs : s < 65536) (h : crc s (l ++ b :: m) = crc s (l ++ c :: m)) : b = c := by
  have h1 := crc_lt' l s hs hl
  rw [crc_app, crc_app, crc_cons, crc_cons, byte_def, byte_def] at h
  have := crc_inj m hm (steps_lt 8 _ (put_lt h1 hb)) (steps_lt 8 _ (put_lt h1 hc)) h
  have := steps_inj 8 (put_lt h1 hb) (put_lt h1 hc) this
  rw [Nat.xor_comm, Nat.xor_comm (crc s l)] at this
  have := xor_cancel this
  omega
theorem bitS_step {s : Nat} (hs : s < 65536) : bitS (s : Int) = ((Crc.step s : Nat) : Int) := by
  unfold bitS Crc.step
  have w : IntKind.i64.wrap ((s : Int) * 2) = ((2 * s : Nat) : Int) := by rw [wi (by omega) (by omega)]; omega
  have t : Int.tmod ((2 * s : Nat) : Int) 65536 = ((2 * s % 65536 : Nat) : Int) := by rw [tmod_nn (by omega)]; omega
  rw [w, t]
  by_cases h : 32768 ≤ s
  · have d : decide ((s : Int) ≥ 32768) = true := by simp only [decide_eq_true_eq]; omega
    rw [d, cond_true, if_pos h, show 2 * s % 65536 = 2 * s - 65536 by omega]
    exact xor_i64 (2 * s - 65536) 4129 (by omega) (by decide)
  · have d : decide ((s : Int) ≥ 32768) = false := by simp only [decide_eq_false_iff_not]; omega
    rw [d, cond_false, if_neg h, show 2 * s % 65536 = 2 * s by omega]
theorem bitsS_steps : ∀ (n : Nat) {s : Nat}, s < 65536 → bitsS n (s : Int) = ((Crc.steps n s : Nat) : Int)
  | 0, s, _ => by simp only [bitsS, steps_zero]
  | n + 1, s, hs => by
    simp only [bitsS]
    rw [bitS_step hs, bitsS_steps n (step_lt s hs), steps_succ]
theorem sumS_crc : ∀ (l : List Nat) {s : Nat}, (∀ b ∈ l, b < 256) → s < 65536 → sumS (l.map fun b : Nat => (b : Int)) (s : Int) = ((crc s l : Nat) : Int)
  | [], s, _, _ => rfl
  | b :: l, s, hb, hs => by
    have b1 := hb b List.mem_cons_self
    simp only [List.map_cons, sumS]
    have w : IntKind.i64.wrap (IntKind.i64.wrap (b : Int) * 256) = ((b * 256 : Nat) : Int) := by rw [wi (n := (b : Int)) (by omega) (by omega), wi (by omega) (by omega)]; omega
    rw [w, xor_i64 s (b * 256) (by omega) (by omega), bitsS_steps 8 (put_lt hs b1), sumS_crc l (fun c hc => hb c (List.mem_cons_of_mem _ hc)) (steps_lt 8 _ (put_lt hs b1)), crc_cons, byte_def]
theorem B.nats {l : List Int} (h : B l) : (l.map Int.toNat).map (fun b : Nat => (b : Int)) = l ∧ ∀ b ∈ l.map Int.toNat, b < 256 := by
  refine ⟨?_, fun b hb => ?_⟩
  · rw [List.map_map]
    conv => rhs; rw [← List.map_id l]
    refine List.map_congr_left fun x hx => ?_
    have := (h x hx).1
    show ((x.toNat : Nat) : Int) = x
    omega
  · obtain ⟨x, hx, rfl⟩ := List.mem_map.1 hb
    have := h x hx
    omega
theorem sumS_eq {l : List Int} (h : B l) : sumS l 65535 = ((crc 65535 (l.map Int.toNat) : Nat) : Int) := by
  have := sumS_crc (l.map Int.toNat) (s := 65535) h.nats.2 (by decide)
  rw [h.nats.1] at this
  exact this
theorem sumS_bounds {l : List Int} (h : B l) : 0 ≤ sumS l 65535 ∧ sumS l 65535 < 65536 := by
  rw [sumS_eq h]
  have := crc_lt' _ 65535 (by decide) h.nats.2
  omega
theorem B.take {l : List Int} (h : B l) (n : Nat) : B (l.take n) := fun x hx => h x (List.mem_of_mem_take hx)
theorem B.drop {l : List Int} (h : B l) (n : Nat) : B (l.drop n) := fun x hx => h x (List.mem_of_mem_drop hx)
theorem B.set {l : List Int} (h : B l) (i : Nat) {x : Int} (h0 : 0 ≤ x) (h1 : x < 256) : B (l.set i x) := fun y hy => by
  rcases List.mem_or_eq_of_mem_set hy with hy | rfl
  · exact h y hy
  · exact ⟨h0, h1⟩
theorem sumS_set {l : List Int} (hB : B l) {i : Nat} (hi : i < l.length) {x : Int} (h0 : 0 ≤ x) (h1 : x < 256) (hx : x ≠ l[i]) : sumS (l.set i x) 65535 ≠ sumS l 65535 := by
  intro h
  rw [sumS_eq hB, sumS_eq (hB.set i h0 h1)] at h
  have e1 : l = l.take i ++ l[i] :: l.drop (i + 1) := by rw [List.getElem_cons_drop, List.take_append_drop]
  have e2 : l.set i x = l.take i ++ x :: l.drop (i + 1) := by rw [List.set_eq_take_append_cons_drop, if_pos hi]
  rw [e2] at h
  conv at h => rhs; rw [e1]
  simp only [List.map_append, List.map_cons] at h
  have hb := hB _ (List.getElem_mem hi)
  have := crc_byte (hB.take i).nats.2 (hB.drop (i + 1)).nats.2 (by omega) (by omega) (by omega) (Int.natCast_inj.1 h)
  omega

/-! the end of a page -/
noncomputable def tl (l : List Int) : List Int := [IntKind.u8.wrap (Int.fdiv (sumS l 65535) (2 ^ 8)), IntKind.u8.wrap (sumS l 65535), 165]
theorem wrap_u8_eq (n : Int) : IntKind.u8.wrap n = n % 256 := by rw [IntKind.wrap_u8]
theorem tl_inj {l m : List Int} (hl : B l) (hm : B m) (h : tl l = tl m) : sumS l 65535 = sumS m 65535 := by
  obtain ⟨a0, a1⟩ := sumS_bounds hl
  obtain ⟨b0, b1⟩ := sumS_bounds hm
  unfold tl at h
  simp only [List.cons.injEq, wrap_u8_eq, and_true] at h
  obtain ⟨h1, h2⟩ := h
  rw [Int.fdiv_eq_ediv_of_nonneg _ (by decide), Int.fdiv_eq_ediv_of_nonneg _ (by decide)] at h1
  omega
/-- A page with another byte is no page. -/
theorem no_page {X Y : List Int} (hX : B X) (hY : B Y) {i : Nat} (hi : i < X.length + 3) {x : Int} (h0 : 0 ≤ x) (h1 : x < 256) (hx : x ≠ (X ++ tl X).getD i 0) : (X ++ tl X).set i x ≠ Y ++ tl Y := by
  intro h
  have hlen := congrArg List.length h
  simp only [List.length_set, List.length_append, tl, List.length_cons, List.length_nil] at hlen
  by_cases c : i < X.length
  · rw [List.set_append_left _ _ c] at h
    obtain ⟨e1, e2⟩ := List.append_inj h (by rw [List.length_set]; omega)
    have hg : (X ++ tl X).getD i 0 = X[i] := by rw [List.getD_eq_getElem?_getD, List.getElem?_append_left c, List.getElem?_eq_getElem c]; rfl
    rw [hg] at hx
    have := sumS_set hX c h0 h1 hx
    rw [e1] at this
    exact this (tl_inj hX hY e2).symm
  · rw [List.set_append_right _ _ (by omega)] at h
    obtain ⟨e1, e2⟩ := List.append_inj h (by omega)
    rw [← e1] at e2
    have hlt : i - X.length < (tl X).length := by simp [tl]; omega
    have hg : (X ++ tl X).getD i 0 = (tl X)[i - X.length] := by rw [List.getD_eq_getElem?_getD, List.getElem?_append_right (by omega), List.getElem?_eq_getElem hlt]; rfl
    have h2 := congrArg (fun l => l[i - X.length]?) e2
    simp only [List.getElem?_set_self hlt, List.getElem?_eq_getElem hlt, Option.some.injEq] at h2
    rw [hg] at hx
    exact hx h2
theorem encAll_eq (ps gen : Int) (gone : Bool) (name : ByteArray) (index : Int) (last : Bool) (bytes : List Int) : encAll ps gen gone name index last bytes = encB ps gen gone name index last bytes ++ tl (encB ps gen gone name index last bytes) := rfl
theorem encB_B (ps gen : Int) (gone : Bool) (name : ByteArray) (index : Int) (last : Bool) {bytes : List Int} (h : B bytes) : B (encB ps gen gone name index last bytes) := fun x hx => enc_B ps gen gone name index last h x (by unfold encAll; exact List.mem_append.2 (Or.inl hx))
theorem decF_whole {l : List Int} (h : (decF l).1 = 4) : l = decAll l := by
  unfold decF at h
  split at h
  · cases h
  · split at h
    · cases h
    · split at h
      · cases h
      · split at h
        · rename_i q; exact q.2
        · cases h
theorem decF_free {l : List Int} (h : (decF l).1 = 1) : all255 l = true := by
  unfold decF at h
  split at h
  · rename_i q; exact q
  · split at h
    · cases h
    · split at h
      · cases h
      · split at h
        · cases h
        · cases h
end Go.Proofs.Ytecnlienmpdlaaa.PM
