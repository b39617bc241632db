/- A packet is read of its bytes, whatever stands behind them; with one flipped bit it is damaged. -/
import Derived.Test.YtahdmfboidjkoaaPlFrames
set_option linter.unusedSimpArgs false
set_option linter.unusedVariables false
namespace Go.Proofs.Ytahdmfboidjkoaa.PM
open Go Go.Proofs.Ytahdmfboidjkoaa.Bt Go.Proofs.Ytahdmfboidjkoaa.Crc
variable {R : Type}

/-! the sum tells one flipped byte -/
theorem xor_cancel {a b c : Nat} (h : a ^^^ c = b ^^^ c) : a = b := by
  have := congrArg (fun x => x ^^^ c) h
  simpa [Nat.xor_assoc] using this
theorem step_inj {s t : Nat} (hs : s < 65536) (ht : t < 65536) (h : Crc.step s = Crc.step t) : s = t := by
  have odd : ∀ x, ((2 * x) ^^^ 4129) % 2 = 1 := fun x => by
    have := Nat.xor_mod_two_pow (a := 2 * x) (b := 4129) (n := 1)
    rw [show (2 : Nat) ^ 1 = 2 from rfl] at this
    rw [this, show 2 * x % 2 = 0 by omega]
    rfl
  unfold Crc.step at h
  by_cases h1 : 32768 ≤ s <;> by_cases h2 : 32768 ≤ t
  · rw [if_pos h1, if_pos h2] at h
    have := xor_cancel h
    omega
  · rw [if_pos h1, if_neg h2] at h
    have := odd (s - 32768)
    rw [show 2 * (s - 32768) = 2 * s - 65536 by omega, h] at this
    omega
  · rw [if_neg h1, if_pos h2] at h
    have := odd (t - 32768)
    rw [show 2 * (t - 32768) = 2 * t - 65536 by omega, ← h] at this
    omega
  · rw [if_neg h1, if_neg h2] at h
    omega
theorem steps_inj : ∀ (n : Nat) {s t : Nat}, s < 65536 → t < 65536 → Crc.steps n s = Crc.steps n t → s = t
  | 0, s, t, _, _, h => by rwa [steps_zero, steps_zero] at h
  | n + 1, s, t, hs, ht, h => by
    rw [steps_succ, steps_succ] at h
    exact step_inj hs ht (steps_inj n (step_lt s hs) (step_lt t ht) h)
theorem put_lt {s b : Nat} (hs : s < 65536) (hb : b < 256) : s ^^^ b * 256 < 65536 := Nat.xor_lt_two_pow (n := 16) (by omega) (by omega)
theorem crc_inj : ∀ (l : List Nat) {s t : Nat}, (∀ b ∈ l, b < 256) → s < 65536 → t < 65536 → crc s l = crc t l → s = t
  | [], s, t, _, _, _, h => h
  | b :: l, s, t, hb, hs, ht, h => by
    have b1 := hb b List.mem_cons_self
    rw [crc_cons, crc_cons, byte_def, byte_def] at h
    have := crc_inj l (fun c hc => hb c (List.mem_cons_of_mem _ hc)) (steps_lt 8 _ (put_lt hs b1)) (steps_lt 8 _ (put_lt ht b1)) h
    exact xor_cancel (steps_inj 8 (put_lt hs b1) (put_lt ht b1) this)
theorem crc_app : ∀ (l m : List Nat) (s : Nat), crc s (l ++ m) = crc (crc s l) m
  | [], m, s => rfl
  | b :: l, m, s => by rw [List.cons_append, crc_cons, crc_cons, crc_app l m]
theorem crc_byte {l m : List Nat} {b c s : Nat} (hl : ∀ x ∈ l, x < 256) (hm : ∀ x ∈ m, x < 256) (hb : b < 256) (hc : c < 256) (hs : s < 65536) (h : crc s (l ++ b :: m) = crc s (l ++ c :: m)) : b = c := by
  have h1 := crc_lt l s hs hl
  rw [crc_app, crc_app, crc_cons, crc_cons, byte_def, byte_def] at h
  have := crc_inj m hm (steps_lt 8 _ (put_lt h1 hb)) (steps_lt 8 _ (put_lt h1 hc)) h
  have := steps_inj 8 (put_lt h1 hb) (put_lt h1 hc) this
  rw [Nat.xor_comm, Nat.xor_comm (crc s l)] at this
  have := xor_cancel this
  omega
/-- One byte of another worth gives another sum. -/
theorem crcI_set {l : List Int} (hB : B l) {i : Nat} (hi : i < l.length) {x : Int} (h0 : 0 ≤ x) (h1 : x < 256) (hx : x ≠ l[i]) : crcI (l.set i x) ≠ crcI l := by
  intro h
  unfold crcI at h
  have e1 : l = l.take i ++ l[i] :: l.drop (i + 1) := by rw [List.getElem_cons_drop, List.take_append_drop]
  have e2 : l.set i x = l.take i ++ x :: l.drop (i + 1) := by rw [List.set_eq_take_append_cons_drop, if_pos hi]
  rw [e2] at h
  conv at h => rhs; rw [e1]
  simp only [List.map_append, List.map_cons] at h
  have hb := hB _ (List.getElem_mem hi)
  have := crc_byte (hB.take i).nats.2 (hB.drop (i + 1)).nats.2 (by omega) (by omega) (by omega) (Int.natCast_inj.1 h)
  omega

/-! the first word -/
theorem heads : ∀ s : Nat, s < 2048 → bits .andNot .i64 (s : Int) 6143 = 0 ∧ bits .andNot .i64 ((s + 4096 : Nat) : Int) 6143 = 0 ∧ bits .and .i64 (s : Int) 2047 = s ∧ bits .and .i64 ((s + 4096 : Nat) : Int) 2047 = s ∧ bits .and .i64 (s : Int) 4096 = 0 ∧ bits .and .i64 ((s + 4096 : Nat) : Int) 4096 = 4096 := by decide +kernel
def first (s : Int) (c : Bool) : Int := if c then s + 4096 else s
theorem first_ok {s : Int} (h : 0 ≤ s ∧ s ≤ 2047) (c : Bool) : bits .andNot .i64 (first s c) 6143 = 0 ∧ bits .and .i64 (first s c) 2047 = s ∧ (bits .and .i64 (first s c) 4096 != 0) = c := by
  obtain ⟨m, rfl⟩ := Int.eq_ofNat_of_zero_le h.1
  obtain ⟨h1, h2, h3, h4, h5, h6⟩ := heads m (by omega)
  cases c
  · have e : first (m : Int) false = (m : Int) := rfl
    rw [e, h1, h3, h5]; exact ⟨rfl, rfl, rfl⟩
  · have e : first (m : Int) true = ((m + 4096 : Nat) : Int) := by simp [first]
    rw [e, h2, h4, h6]; exact ⟨rfl, rfl, rfl⟩
theorem first_bounds {s : Int} (h : 0 ≤ s ∧ s ≤ 2047) (c : Bool) : 0 ≤ first s c ∧ first s c < 65536 := by
  unfold first; split <;> omega

/-- A head of six bytes, told by its words. -/
theorem readR_head {l : List Int} {s p n : Int} {c : Bool} {m : Nat} (hs : 0 ≤ s ∧ s ≤ 2047) (hp : 0 ≤ p ∧ p ≤ 3) (hn : 0 ≤ n ∧ n ≤ 16383) (h0 : 0 < m) (h1 : m ≤ 1000) (hl : m + 8 ≤ l.length)
    (w0 : w16 l = first s c) (w2 : w16 (l.drop 2) = p * 16384 + n) (w4 : w16 (l.drop 4) = (m : Int) + 1) :
    readR l = if crcI (l.take (m + 6)) ≠ w16 (l.drop (m + 6)) then Rd.bad 15 else ⟨s, c, p, n, (m : Int) + 8, 0, (l.take (m + 6)).drop 6⟩ := by
  obtain ⟨f1, f2, f3⟩ := first_ok hs c
  unfold readR
  rw [w0, w2, w4, if_neg (by omega), if_neg (not_not_intro f1), if_neg (not_not_intro ⟨by omega, by omega⟩), if_neg (by omega)]
  have e : ((m : Int) + 1 + 5).toNat = m + 6 := by omega
  have e2 : (m : Int) + 1 + 7 = (m : Int) + 8 := by omega
  have e3 : (p * 16384 + n) / 16384 = p := by omega
  have e4 : (p * 16384 + n) % 16384 = n := by omega
  rw [e, e2, e3, e4, f2, f3]
theorem raw_words {s p n : Int} {b : List Int} (hr : Right s p n b) (c : Bool) (more : List Int) :
    w16 (raw s c p n b ++ more) = first s c ∧ w16 ((raw s c p n b ++ more).drop 2) = p * 16384 + n ∧ w16 ((raw s c p n b ++ more).drop 4) = (b.length : Int) + 1 := by
  obtain ⟨h1, h2, h3, h4, h5⟩ := hr
  have fb := first_bounds h1 c
  have e : raw s c p n b ++ more = put16 (first s c) ++ (put16 (p * 16384 + n) ++ (put16 ((b.length : Int) + 1) ++ (b ++ (put16 (crcI (rawHead s c p n b)) ++ more)))) := by simp [raw, rawHead, first]
  rw [e]
  refine ⟨w16_put fb.1 fb.2 _, ?_, ?_⟩
  · exact w16_put (by omega) (by omega) _
  · exact w16_put (by omega) (by omega) _
theorem readR_raw {s p n : Int} {b : List Int} (hr : Right s p n b) (hB : B b) (c : Bool) (more : List Int) : readR (raw s c p n b ++ more) = ⟨s, c, p, n, (b.length : Int) + 8, 0, b⟩ := by
  obtain ⟨w0, w2, w4⟩ := raw_words hr c more
  obtain ⟨h1, h2, h3, h4, h5⟩ := hr
  rw [readR_head (m := b.length) h1 h2 h3 h4 h5 (by rw [List.length_append, raw_len]; omega) w0 w2 w4]
  have hh := rawHead_len s c p n b
  have e : raw s c p n b ++ more = rawHead s c p n b ++ (put16 (crcI (rawHead s c p n b)) ++ more) := by simp [raw]
  have t1 : (raw s c p n b ++ more).take (b.length + 6) = rawHead s c p n b := by rw [e, ← hh]; exact List.take_left' rfl
  have t2 : (raw s c p n b ++ more).drop (b.length + 6) = put16 (crcI (rawHead s c p n b)) ++ more := by rw [e, ← hh]; exact List.drop_left' rfl
  have hc := crcI_bounds (rawHead_B s c p n hB)
  rw [t1, t2, w16_put hc.1 hc.2, if_neg (not_not_intro rfl)]
  have : (rawHead s c p n b).drop 6 = b := by simp [rawHead, put16]
  rw [this]
theorem w16_set {l : List Int} {i : Nat} {x : Int} (h : 2 ≤ i) : w16 (l.set i x) = w16 l := by
  unfold w16
  simp only [List.getD_eq_getElem?_getD]
  rw [List.getElem?_set_ne (by omega), List.getElem?_set_ne (by omega)]
theorem readR_flip {s p n : Int} {b : List Int} (hr : Right s p n b) (hB : B b) (c : Bool) {i : Nat} (hi : 6 ≤ i) (hi2 : i < b.length + 8) {x : Int} (h0 : 0 ≤ x) (hx1 : x < 256) (hx : x ≠ (raw s c p n b).getD i 0) : readR ((raw s c p n b).set i x) = Rd.bad 15 := by
  obtain ⟨w0, w2, w4⟩ := raw_words hr c []
  rw [List.append_nil] at w0 w2 w4
  obtain ⟨h1, h2, h3, h4, h5⟩ := hr
  have hL := raw_len s c p n b
  have hh := rawHead_len s c p n b
  have hg : (raw s c p n b).getD i 0 = (raw s c p n b)[i]'(by omega) := by
    rw [List.getD_eq_getElem?_getD, List.getElem?_eq_getElem (by omega)]; rfl
  rw [hg] at hx
  rw [readR_head (m := b.length) h1 h2 h3 h4 h5 (by rw [List.length_set]; omega) (by rw [w16_set (by omega)]; exact w0)
    (by rw [List.drop_set, if_neg (by omega), w16_set (by omega)]; exact w2) (by rw [List.drop_set, if_neg (by omega), w16_set (by omega)]; exact w4)]
  have hHB := rawHead_B s c p n hB
  have hc := crcI_bounds hHB
  have t1 : (raw s c p n b).take (b.length + 6) = rawHead s c p n b := by rw [← hh]; exact List.take_left' rfl
  have t2 : (raw s c p n b).drop (b.length + 6) = put16 (crcI (rawHead s c p n b)) := by rw [← hh]; exact List.drop_left' rfl
  have wc : w16 (put16 (crcI (rawHead s c p n b))) = crcI (rawHead s c p n b) := by
    have := w16_put hc.1 hc.2 []
    rwa [List.append_nil] at this
  refine if_pos ?_
  rw [List.take_set, List.drop_set, t1, t2]
  by_cases hb : i < b.length + 6
  · rw [if_pos hb, wc]
    refine crcI_set hHB (by omega) h0 hx1 ?_
    intro h
    refine hx (h.trans ?_)
    have : (rawHead s c p n b)[i]'(by omega) = ((raw s c p n b).take (b.length + 6))[i]'(by rw [List.length_take]; omega) := by simp only [t1]
    rw [this, List.getElem_take]
  · rw [if_neg hb, List.set_eq_of_length_le (by omega)]
    intro h
    have hx' : x ≠ (put16 (crcI (rawHead s c p n b))).getD (i - (b.length + 6)) 0 := by
      rw [← t2, List.getD_eq_getElem?_getD, List.getElem?_drop, show b.length + 6 + (i - (b.length + 6)) = i by omega, List.getElem?_eq_getElem (by omega)]
      exact hx
    have hi3 : i - (b.length + 6) = 0 ∨ i - (b.length + 6) = 1 := by omega
    have p0 := u8_bounds (Int.fdiv (crcI (rawHead s c p n b)) (2 ^ 8))
    have p1 := u8_bounds (crcI (rawHead s c p n b))
    have h := wc.trans h
    generalize crcI (rawHead s c p n b) = z at *
    rcases hi3 with e | e <;> rw [e] at h hx'
    · have a1 : w16 ((put16 z).set 0 x) = x * 256 + IntKind.u8.wrap z := rfl
      have a2 : w16 (put16 z) = IntKind.u8.wrap (Int.fdiv z (2 ^ 8)) * 256 + IntKind.u8.wrap z := rfl
      have a3 : (put16 z).getD 0 0 = IntKind.u8.wrap (Int.fdiv z (2 ^ 8)) := rfl
      rw [a1, a2] at h
      rw [a3] at hx'
      omega
    · have a1 : w16 ((put16 z).set 1 x) = IntKind.u8.wrap (Int.fdiv z (2 ^ 8)) * 256 + x := rfl
      have a2 : w16 (put16 z) = IntKind.u8.wrap (Int.fdiv z (2 ^ 8)) * 256 + IntKind.u8.wrap z := rfl
      have a3 : (put16 z).getD 1 0 = IntKind.u8.wrap z := rfl
      rw [a1, a2] at h
      rw [a3] at hx'
      omega
end Go.Proofs.Ytahdmfboidjkoaa.PM
