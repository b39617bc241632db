/- Merged plain texts: P5A, P5B, P5Bytes, P5Takes, P5Grounds, P5Sign, P5Keys, P5Open, P5OnceS, P5Twice, PlWorks, PlTopC, PlTopC2. -/
import Derived.Test.YtoepnomdklhhlaaGreatPlC
/- Plain laws of commands: orders and reports. -/
set_option linter.unusedSimpArgs false
set_option linter.unusedVariables false
namespace Go.Proofs.YtoepnomdklhhlaaGreat.PM.P5
open Go Go.Proofs.YtoepnomdklhhlaaGreat.PM Go.Proofs.YtoepnomdklhhlaaGreat.Bt
variable {R : Type}

theorem succ_of {k n : Nat} (h : n < k) : ∃ j, k = j + 1 := ⟨k - 1, by omega⟩

theorem beq_dec (a b : Int) : (a == b) = decide (a = b) := rfl
theorem bne_dec (a b : Int) : (a != b) = !decide (a = b) := rfl
def inB (a lo hi : Int) : Bool := decide (lo ≤ a) && decide (a ≤ hi)
theorem f26_eq {k : Nat} (hk : 0 < k) (a lo hi : Int) (K : Bool → Option R) : f26 k a lo hi K = K (inB a lo hi) := by
  rw [f26_def]
  obtain ⟨k, rfl⟩ := succ_of hk
  simp only [f26d, inB]
  cases decide (lo ≤ a) <;> rfl
def chkBody (n : Nat) : Int := if n = 0 then 9 else if 200 < n then 2 else 0
theorem f33_eq {k : Nat} (hk : 0 < k) (b : List Int) (K : Int → Option R) : f33 k b K = K (chkBody b.length) := by
  rw [f33_def]
  obtain ⟨k, rfl⟩ := succ_of hk
  simp only [f33d, chkBody, Bool.cond_eq_ite, beq_iff_eq, decide_eq_true_eq]
  repeat' split
  all_goals first | rfl | omega
def chkOrder (kind num : Int) (n : Nat) : Int :=
  if inB kind 1 5 = false then 4 else if inB num 0 255 = false then 1 else if num ≠ 0 ∧ kind ≠ 1 ∧ kind ≠ 4 then 1
  else if kind = 1 ∨ kind = 2 then chkBody n else if 0 < n then 3 else 0
end Go.Proofs.YtoepnomdklhhlaaGreat.PM.P5
/- Plain laws of commands: the bytes of orders and reports. -/
set_option linter.unusedSimpArgs false
set_option linter.unusedVariables false
namespace Go.Proofs.YtoepnomdklhhlaaGreat.PM.P5
open Go Go.Proofs.YtoepnomdklhhlaaGreat.PM Go.Proofs.YtoepnomdklhhlaaGreat.Bt
variable {R : Type}

theorem LIM1 : LIM 1 = 140737488355328 := by simp [LIM]
theorem f43_eq {k : Nat} (hk : 0 < k) (l : List Int) (hl : l.length ≤ 140737488355328) (K : List Int → Option R) : f43 k l K = K l := by
  rw [f43_def]
  obtain ⟨k, rfl⟩ := succ_of hk
  simp only [f43d, LIM1, hl, decide_true, cond_true]

def readOrder (l : List Int) : Int × Int × Int × List Int :=
  if l.length < 2 then (0, 0, 3, []) else
  if chkOrder (IntKind.i64.wrap (l.getD 0 0)) (IntKind.i64.wrap (l.getD 1 0)) (l.length - 2) ≠ 0 then (0, 0, chkOrder (IntKind.i64.wrap (l.getD 0 0)) (IntKind.i64.wrap (l.getD 1 0)) (l.length - 2), [])
  else (IntKind.i64.wrap (l.getD 0 0), IntKind.i64.wrap (l.getD 1 0), 0, l.drop 2)
theorem readOrder_len (l : List Int) : (readOrder l).2.2.2.length ≤ l.length := by
  unfold readOrder
  split
  · simp
  · split <;> simp

/-! slices.Equal -/
def readAck (l : List Int) : Int × Bool × Bool × Bool × Int :=
  if l.length = 2 then (if l.getD 1 0 > 7 then (0, false, false, false, 3) else
    (IntKind.i64.wrap (l.getD 0 0), bits .and .u8 (l.getD 1 0) 1 != 0, bits .and .u8 (l.getD 1 0) 2 != 0, bits .and .u8 (l.getD 1 0) 4 != 0, 0)) else (0, false, false, false, 3)
def flag (b : Bool) (n : Int) : Int := if b then n else 0
def ackBytes (a : Int) (l r w : Bool) : Int × List Int := if inB a 0 255 then (0, [IntKind.u8.wrap a, flag l 1 + flag r 2 + flag w 4]) else (1, [])
end Go.Proofs.YtoepnomdklhhlaaGreat.PM.P5
/- Plain laws of commands: what is written is read. -/
set_option linter.unusedSimpArgs false
set_option linter.unusedVariables false
namespace Go.Proofs.YtoepnomdklhhlaaGreat.PM.P5
open Go Go.Proofs.YtoepnomdklhhlaaGreat.PM Go.Proofs.YtoepnomdklhhlaaGreat.Bt
variable {R : Type}

theorem inB_iff {a lo hi : Int} : inB a lo hi = true ↔ lo ≤ a ∧ a ≤ hi := by simp [inB]
theorem wrap_u8 {a : Int} (h0 : 0 ≤ a) (h1 : a ≤ 255) : IntKind.u8.wrap a = a := by
  simp [IntKind.wrap, IntKind.bits, IntKind.signed]; omega
theorem chkOrder_ok {a b : Int} {n : Nat} (h : chkOrder a b n = 0) : (1 ≤ a ∧ a ≤ 5) ∧ (0 ≤ b ∧ b ≤ 255) := by
  unfold chkOrder at h
  cases hi : inB a 1 5
  · simp [hi] at h
  · cases hj : inB b 0 255
    · simp [hi, hj] at h
    · exact ⟨inB_iff.1 hi, inB_iff.1 hj⟩
theorem readOrder_bytes {a b : Int} {l : List Int} (h : chkOrder a b l.length = 0) : readOrder (IntKind.u8.wrap a :: IntKind.u8.wrap b :: l) = (a, b, 0, l) := by
  obtain ⟨⟨h1, h2⟩, h3, h4⟩ := chkOrder_ok h
  have ea : IntKind.u8.wrap a = a := wrap_u8 (by omega) (by omega)
  have eb : IntKind.u8.wrap b = b := wrap_u8 (by omega) (by omega)
  have ea' : IntKind.i64.wrap a = a := wraps_i64 _ (by omega) (by omega)
  have eb' : IntKind.i64.wrap b = b := wraps_i64 _ (by omega) (by omega)
  simp [readOrder, ea, eb, ea', eb', h]
end Go.Proofs.YtoepnomdklhhlaaGreat.PM.P5
/- Plain laws of commands: what the board does. -/
set_option linter.unusedSimpArgs false
set_option linter.unusedVariables false
namespace Go.Proofs.YtoepnomdklhhlaaGreat.PM.P5
open Go Go.Proofs.YtoepnomdklhhlaaGreat.PM Go.Proofs.YtoepnomdklhhlaaGreat.Bt
variable {R : Type}

theorem wi {n : Int} (h0 : -9223372036854775808 ≤ n) (h1 : n < 9223372036854775808) : IntKind.i64.wrap n = n := by rw [IntKind.wrap_i64]; omega
theorem tmod_nn {a b : Int} (h : 0 ≤ a) : Int.tmod a b = a % b := Int.tmod_eq_emod_of_nonneg h
theorem tdiv_nn {a b : Int} (h : 0 ≤ a) : Int.tdiv a b = a / b := Int.tdiv_eq_ediv_of_nonneg h
theorem tmod_256 (x : Int) : x % 256 - 256 ≤ Int.tmod x 256 ∧ Int.tmod x 256 ≤ x % 256 ∧ Int.tmod x 256 % 256 = x % 256 := by
  have h : Int.tmod x 256 = x % 256 - ((if 0 ≤ x ∨ (256 : Int) ∣ x then 0 else 256 : Nat) : Int) := Int.tmod_eq_emod
  split at h <;> omega

structure Bd where
  n : Int
  w : Int
  L : Bool
  Rt : Bool
  W : Bool
  t : Int
def zB : Bd := ⟨0, 0, false, false, false, 0⟩
def chkBoard (b : Bd) : Int := if inB b.n 0 255 && decide (Int.tmod b.w 2 = 0) && inB b.w 2 254 && inB b.t 0 1000000 then 0 else 1
theorem chkBoard_ok {b : Bd} (h : chkBoard b = 0) : (0 ≤ b.n ∧ b.n ≤ 255) ∧ (2 ≤ b.w ∧ b.w ≤ 254 ∧ b.w % 2 = 0) ∧ (0 ≤ b.t ∧ b.t ≤ 1000000) := by
  unfold chkBoard at h
  split at h
  · rename_i h'
    simp only [Bool.and_eq_true, decide_eq_true_eq, inB_iff] at h'
    obtain ⟨⟨⟨h1, h2⟩, h3⟩, h4⟩ := h'
    rw [tmod_nn (by omega)] at h2
    exact ⟨h1, ⟨h3.1, h3.2, h2⟩, h4⟩
  · cases h

/-! kit.First -/
def firstF : List Int → Int
  | [] => 0
  | x :: l => if x = 0 then firstF l else x
theorem first_loop (k : Nat) (K : Int → Option R) (l : List Int) (hl : l.length < 4611686018427387904) : ∀ (d f i : Nat), i + d = l.length → d < f →
    f31_0d k K (K 0) l (l.length : Int) f (i : Int) = K (firstF (l.drop i))
  | d, 0, i, _, h => absurd h (Nat.not_lt_zero _)
  | 0, f + 1, i, hi, _ => by
    have h1 : decide ((i : Int) < (l.length : Int)) = false := by simp only [decide_eq_false_iff_not]; omega
    simp only [f31_0d, f31_0b, h1, cond_false]
    rw [List.drop_of_length_le (by omega)]
    rfl
  | d + 1, f + 1, i, hi, hf => by
    have h1 : decide ((i : Int) < (l.length : Int)) = true := by simp only [decide_eq_true_eq]; omega
    have h0 : decide ((0 : Int) ≤ (i : Int)) = true := by simp
    have hw : IntKind.i64.wrap ((i : Int) + 1) = ((i + 1 : Nat) : Int) := by rw [wraps_i64 _ (by omega) (by omega)]; omega
    have hli : i < l.length := by omega
    simp only [f31_0d, f31_0b, h1, h0, cond_true, Bool.and_self, Int.toNat_natCast, hw]
    have g1 : l.getD i 0 = l[i] := by rw [List.getD_eq_getElem?_getD, List.getElem?_eq_getElem hli]; rfl
    rw [g1, List.drop_eq_getElem_cons hli, bne_dec]
    by_cases e : l[i] = 0
    · simp only [e, decide_true, Bool.not_true, cond_false, firstF, if_true]
      exact first_loop k K l hl d f (i + 1) (by omega) (by omega)
    · simp only [e, decide_false, Bool.not_false, cond_true, firstF, if_false]
theorem f31_eq {k : Nat} {l : List Int} (hk : l.length + 1 < k) (hl : l.length < 4611686018427387904) (K : Int → Option R) : f31 k l K = K (firstF l) := by
  rw [f31_def]
  obtain ⟨k, rfl⟩ := succ_of hk
  simp only [f31d, f31_0_def]
  exact (first_loop k K l hl l.length k 0 (by omega) (by omega)).trans (by simp)

/-! a command with a number -/
def plainS (b : Bd) (num : Int) : Bd × Int :=
  if b.L then (b, 5) else if num = b.n then (if b.W then ({ b with Rt := true }, 6) else ({ b with n := (b.n + 1) % 256, Rt := false, t := b.t + 1 }, 1))
  else if (num - b.n) % 256 < b.w / 2 then ({ b with Rt := true }, 2) else if (b.n - num) % 256 ≤ b.w / 2 then (b, 3) else ({ b with L := true }, 4)
def takeS (b : Bd) (kind num : Int) : Bd × Int :=
  if kind = 1 then plainS b num else if kind = 2 then ({ b with t := b.t + 1 }, 1) else if kind = 3 then ({ b with L := false, Rt := false, W := false }, 7)
  else if kind = 4 then (if b.L then (b, 5) else ({ b with n := num, Rt := false }, 7)) else ({ b with W := true }, 7)
def ap7 (K : Int → Int → Bool → Bool → Bool → Int → Int → Option R) (x : Bd × Int) : Option R := K x.1.n x.1.w x.1.L x.1.Rt x.1.W x.1.t x.2
def ap8 (K : Int → Int → Bool → Bool → Bool → Int → Int → Int → Option R) (x : Bd × Int) (f : Int) : Option R := K x.1.n x.1.w x.1.L x.1.Rt x.1.W x.1.t x.2 f
/-- What a board becomes, what became of the order, and what is wrong. -/
def takeF (b : Bd) (kind num : Int) (n : Nat) : (Bd × Int) × Int :=
  if chkBoard b ≠ 0 then ((zB, 0), chkBoard b) else if chkOrder kind num n ≠ 0 then ((zB, 0), chkOrder kind num n)
  else if (takeS b kind num).1.t > 1000000 then ((zB, 0), 16) else (takeS b kind num, 0)
/-! what the board tells -/
def repF (b : Bd) : Int × Bool × Bool × Bool × Int := if chkBoard b ≠ 0 then (0, false, false, false, chkBoard b) else (b.n, b.L, b.Rt, b.W, 0)
end Go.Proofs.YtoepnomdklhhlaaGreat.PM.P5
/- Plain laws of commands: what the ground does. -/
set_option linter.unusedSimpArgs false
set_option linter.unusedVariables false
namespace Go.Proofs.YtoepnomdklhhlaaGreat.PM.P5
open Go Go.Proofs.YtoepnomdklhhlaaGreat.PM Go.Proofs.YtoepnomdklhhlaaGreat.Bt
variable {R : Type}

structure Gd where
  a : Int
  s : Int
  q : List (List Int)
  w : Int
  st : Bool
def zG : Gd := ⟨0, 0, [], 0, false⟩
theorem f32_eq {k : Nat} (hk : 1 < k) (a lo hi : Int) (K : Int → Option R) : f32 k a lo hi K = K (if inB a lo hi then 0 else 1) := by
  rw [f32_def]
  obtain ⟨k, rfl⟩ := succ_of hk
  simp only [f32d, f26_eq (show 0 < k by omega)]
  cases inB a lo hi <;> rfl
def firstBad : List (List Int) → Int
  | [] => 0
  | b :: l => if chkBody b.length = 0 then firstBad l else chkBody b.length
def mn (g : Gd) : Int := if (g.q.length : Int) < g.w then (g.q.length : Int) else g.w
def chkGround (g : Gd) : Int :=
  if inB g.a 0 255 = false then 1 else if inB g.w 1 127 = false then 1 else if 500 < g.q.length then 2 else if firstBad g.q ≠ 0 then firstBad g.q
  else if inB g.s 0 (mn g) then 0 else 1
theorem firstBad_ok : ∀ {l : List (List Int)}, firstBad l = 0 → ∀ b ∈ l, 1 ≤ b.length ∧ b.length ≤ 200
  | [], _, _, h => by cases h
  | c :: l, h, b, hb => by
    simp only [firstBad] at h
    split at h
    · rename_i hc
      rcases List.mem_cons.1 hb with rfl | hb
      · unfold chkBody at hc
        split at hc
        · cases hc
        · split at hc
          · cases hc
          · omega
      · exact firstBad_ok h b hb
    · rename_i hc; exact absurd h hc
structure GOk (g : Gd) : Prop where
  a : 0 ≤ g.a ∧ g.a ≤ 255
  w : 1 ≤ g.w ∧ g.w ≤ 127
  q : g.q.length ≤ 500
  b : ∀ b ∈ g.q, 1 ≤ b.length ∧ b.length ≤ 200
  s : 0 ≤ g.s ∧ g.s ≤ (g.q.length : Int) ∧ g.s ≤ g.w
theorem chkGround_ok {g : Gd} (h : chkGround g = 0) : GOk g := by
  unfold chkGround at h
  cases ha : inB g.a 0 255
  · simp [ha] at h
  · cases hw : inB g.w 1 127
    · simp [ha, hw] at h
    · by_cases h5 : 500 < g.q.length
      · simp [ha, hw, h5] at h
      · by_cases hb : firstBad g.q = 0
        · cases hs : inB g.s 0 (mn g)
          · simp [ha, hw, h5, hb, hs] at h
          · have := inB_iff.1 hs
            refine ⟨inB_iff.1 ha, inB_iff.1 hw, by omega, firstBad_ok hb, ?_⟩
            unfold mn at this
            split at this <;> omega
        · simp [ha, hw, h5, hb] at h

theorem LIM24 : LIM 24 = 5864062014805 := by simp [LIM]
/-! Queue -/
def queueF (g : Gd) (body : List Int) : Gd × Int :=
  if chkGround g ≠ 0 then (zG, chkGround g) else if g.q.length = 500 then (zG, 16) else if chkBody body.length ≠ 0 then (zG, chkBody body.length) else ({ g with q := g.q ++ [body] }, 0)
theorem chkBody_ok {n : Nat} (h : chkBody n = 0) : 1 ≤ n ∧ n ≤ 200 := by
  unfold chkBody at h
  split at h
  · cases h
  · split at h
    · cases h
    · omega
/-! Next -/
def nextS (g : Gd) : Gd × Int × Int × Bool × List Int :=
  if g.st = false ∧ g.s < mn g then ({ g with s := g.s + 1 }, 1, (g.a + g.s) % 256, true, g.q.getD g.s.toNat []) else (g, 0, 0, false, [])
def ap9 (K : Int → Int → List (List Int) → Int → Bool → Int → Int → Bool → List Int → Option R) (x : Gd × Int × Int × Bool × List Int) : Option R := K x.1.a x.1.s x.1.q x.1.w x.1.st x.2.1 x.2.2.1 x.2.2.2.1 x.2.2.2.2
theorem getD_mem {l : List (List Int)} {i : Nat} (h : i < l.length) : l.getD i [] ∈ l := by
  rw [List.getD_eq_getElem?_getD, List.getElem?_eq_getElem h]; exact List.getElem_mem h
def nextF (g : Gd) : (Gd × Int × Int × Bool × List Int) × Int := if chkGround g ≠ 0 then ((zG, 0, 0, false, []), chkGround g) else (nextS g, 0)
def ap10 (K : Int → Int → List (List Int) → Int → Bool → Int → Int → Bool → Int → List Int → Option R) (x : Gd × Int × Int × Bool × List Int) (f : Int) : Option R := K x.1.a x.1.s x.1.q x.1.w x.1.st x.2.1 x.2.2.1 x.2.2.2.1 f x.2.2.2.2
/-! Heard -/
def heardS (g : Gd) (n : Int) (L Rt : Bool) : Gd :=
  if L then { g with st := true } else
  if (n - g.a) % 256 ≤ g.s then { g with a := n, s := if Rt then 0 else g.s - (n - g.a) % 256, q := g.q.drop ((n - g.a) % 256).toNat }
  else { g with st := true, s := if Rt then 0 else g.s }
def ap5 (K : Int → Int → List (List Int) → Int → Bool → Option R) (x : Gd) : Option R := K x.a x.s x.q x.w x.st
theorem heardS_ok {g : Gd} (G : GOk g) {n : Int} (hn : 0 ≤ n ∧ n ≤ 255) (L Rt : Bool) : GOk (heardS g n L Rt) := by
  obtain ⟨s1, s2, s3⟩ := G.s
  have ha := G.a
  unfold heardS
  split
  · exact ⟨G.a, G.w, G.q, G.b, G.s⟩
  · split
    · refine ⟨hn, G.w, by simp only [List.length_drop]; have := G.q; omega, fun b hb => G.b b (List.mem_of_mem_drop hb), ?_⟩
      simp only [List.length_drop]
      have := G.w
      split <;> omega
    · refine ⟨G.a, G.w, G.q, G.b, ?_⟩
      have := G.w
      simp only
      split <;> omega
def heardF (g : Gd) (n : Int) (L Rt : Bool) : Gd × Int := if chkGround g ≠ 0 then (zG, chkGround g) else if inB n 0 255 = false then (zG, 1) else (heardS g n L Rt, 0)
/-! what they give is not too long -/
def Small (g : Gd) : Prop := g.q.length ≤ 501 ∧ ∀ b ∈ g.q, b.length ≤ 200
theorem GOk.small {g : Gd} (G : GOk g) : Small g := ⟨by have := G.q; omega, fun b h => (G.b b h).2⟩
theorem zG_small : Small zG := ⟨by simp [zG], fun b h => by simp [zG] at h⟩
theorem queueF_small (g : Gd) (body : List Int) : Small (queueF g body).1 := by
  unfold queueF
  split
  · exact zG_small
  · rename_i hg
    split
    · exact zG_small
    · split
      · exact zG_small
      · rename_i hb
        have G := chkGround_ok (Decidable.not_not.1 hg)
        have hbb := chkBody_ok (Decidable.not_not.1 hb)
        refine ⟨by simp; have := G.q; omega, fun b h => ?_⟩
        simp only [List.mem_append, List.mem_singleton] at h
        rcases h with h | rfl
        · exact (G.b b h).2
        · exact hbb.2
theorem nextF_small (g : Gd) : Small (nextF g).1.1 ∧ (nextF g).1.2.2.2.2.length ≤ 200 := by
  unfold nextF
  split
  · exact ⟨zG_small, by simp⟩
  · rename_i hg
    have G := chkGround_ok (Decidable.not_not.1 hg)
    unfold nextS
    split
    · rename_i h
      refine ⟨⟨by have := G.q; simp only; omega, fun b h => (G.b b h).2⟩, ?_⟩
      refine (G.b _ (getD_mem ?_)).2
      have hm := h.2
      have hs := G.s
      unfold mn at hm
      split at hm <;> omega
    · exact ⟨G.small, by simp⟩
theorem heardF_small (g : Gd) (n : Int) (L Rt : Bool) : Small (heardF g n L Rt).1 := by
  unfold heardF
  split
  · exact zG_small
  · rename_i hg
    split
    · exact zG_small
    · rename_i hi
      exact (heardS_ok (chkGround_ok (Decidable.not_not.1 hg)) (inB_iff.1 (by simpa using hi)) L Rt).small
end Go.Proofs.YtoepnomdklhhlaaGreat.PM.P5
/- Plain laws of signed commands: numbers as bytes, signs. -/
set_option linter.unusedSimpArgs false
set_option linter.unusedVariables false
namespace Go.Proofs.YtoepnomdklhhlaaGreat.PM.P5
open Go Go.Proofs.YtoepnomdklhhlaaGreat.PM Go.Proofs.YtoepnomdklhhlaaGreat.Bt
variable {R : Type}

theorem getD_in {α : Type} {l : List α} {i : Nat} {d : α} (h : i < l.length) : l.getD i d = l[i] := by rw [List.getD_eq_getElem?_getD, List.getElem?_eq_getElem h]; rfl
def B (l : List Int) : Prop := ∀ x ∈ l, 0 ≤ x ∧ x < 256
theorem wrap_u8_eq (n : Int) : IntKind.u8.wrap n = n % 256 := by rw [IntKind.wrap_u8]
/-- The last d bytes of a number, the highest one first. -/
def eightF : Nat → Int → List Int
  | 0, _ => []
  | d + 1, n => (n / 2 ^ (8 * d) % 256) :: eightF d n
theorem eightF_B : ∀ (d : Nat) (n : Int), B (eightF d n)
  | 0, _ => fun x hx => by cases hx
  | d + 1, n => fun x hx => by
    simp only [eightF, List.mem_cons] at hx
    rcases hx with rfl | hx
    · omega
    · exact eightF_B d n x hx
theorem eightF_len : ∀ (d : Nat) (n : Int), (eightF d n).length = d
  | 0, _ => rfl
  | d + 1, n => by simp [eightF, eightF_len d n]
theorem f34_loop (k : Nat) (x0 : List Int → Option R) (n : Int) : ∀ (d f : Nat) (acc : List Int), d < f → acc.length + d ≤ 8 → f34_0d k x0 n f (8 * (d : Int) - 8) acc = x0 (acc ++ eightF d n) := by
  intro d
  induction d with
  | zero =>
    intro f acc hf ha
    obtain ⟨f, rfl⟩ := succ_of hf
    have h : decide (8 * ((0 : Nat) : Int) - 8 ≥ 0) = false := by decide
    simp only [f34_0d, f34_0b, h, cond_false, eightF, List.append_nil]
  | succ d ih =>
    intro f acc hf ha
    obtain ⟨f, rfl⟩ := succ_of hf
    have h1 : decide (8 * ((d + 1 : Nat) : Int) - 8 ≥ 0) = true := by simp only [decide_eq_true_eq]; omega
    have h2 : decide (0 ≤ 8 * ((d + 1 : Nat) : Int) - 8) = true := by simp only [decide_eq_true_eq]; omega
    have hv : (8 * ((d + 1 : Nat) : Int) - 8).toNat = 8 * d := by omega
    have hm : min (8 * d) 64 = 8 * d := by omega
    have hw : IntKind.i64.wrap (8 * ((d + 1 : Nat) : Int) - 8 - 8) = 8 * (d : Int) - 8 := by rw [wi (by omega) (by omega)]; omega
    have hd : d ≤ 7 := by omega
    have hL : ∀ x : Int, decide (acc.length + ([x] : List Int).length ≤ LIM 1) = true := fun x => by rw [LIM1]; simp only [decide_eq_true_eq, List.length_singleton]; omega
    have hp : (0 : Int) ≤ 2 ^ (8 * d) := Int.pow_nonneg (by decide)
    simp only [f34_0d, f34_0b, h1, h2, cond_true, hv, hm, hw, hL, wrap_u8_eq, Int.fdiv_eq_ediv_of_nonneg _ hp]
    rw [ih f (acc ++ [n / 2 ^ (8 * d) % 256]) (by omega) (by rw [List.length_append, List.length_singleton]; omega), List.append_assoc]
    rfl
/-- f34 writes a number as eight bytes, the highest one first. -/
theorem f34_eq {k : Nat} (hk : 9 < k) (n : Int) (K : List Int → Option R) : f34 k n K = K (eightF 8 n) := by
  obtain ⟨j, rfl⟩ := succ_of (show 0 < k by omega)
  have h := f34_loop (R := R) j (fun y => K y) n 8 j [] (by omega) (by decide)
  rw [f34_def]
  simp only [f34d]
  rw [f34_0_def]
  exact h
/-- The sum that f35 draws from the bytes, one after another. -/
def fnv : List Int → Int → Int
  | [], a => a
  | b :: l, a => fnv l (IntKind.u64.wrap (bits .xor .u64 a (IntKind.u64.wrap b) * 1099511628211))
theorem f35_loop (k : Nat) (x0 : Int → Option R) (l : List Int) (hl : l.length < 2 ^ 40) : ∀ (d i f : Nat) (a : Int), i + d = l.length → d < f → f35_0d k x0 (l.length : Int) l f a (i : Int) = x0 (fnv (l.drop i) a) := by
  intro d
  induction d with
  | zero =>
    intro i f a hi hf
    obtain ⟨f, rfl⟩ := succ_of hf
    have h : decide ((i : Int) < (l.length : Int)) = false := by simp only [decide_eq_false_iff_not]; omega
    have hd : l.drop i = [] := List.drop_eq_nil_of_le (by omega)
    simp only [f35_0d, f35_0b, h, cond_false, hd, fnv]
  | succ d ih =>
    intro i f a hi hf
    obtain ⟨f, rfl⟩ := succ_of (show 0 < f by omega)
    have h1 : decide ((i : Int) < (l.length : Int)) = true := by simp only [decide_eq_true_eq]; omega
    have h2 : decide ((0 : Int) ≤ (i : Int)) = true := by simp only [decide_eq_true_eq]; omega
    have hlt : i < l.length := by omega
    have hw : IntKind.i64.wrap ((i : Int) + 1) = ((i + 1 : Nat) : Int) := by rw [wi (by omega) (by omega)]; rfl
    have hd : l.drop i = l[i] :: l.drop (i + 1) := List.drop_eq_getElem_cons hlt
    simp only [f35_0d, f35_0b, h1, h2, Bool.and_self, cond_true, Int.toNat_natCast, getD_in hlt, hw]
    rw [ih (i + 1) f _ (by omega) (by omega), hd]
    rfl
theorem cat_len (k : Nat) (x : Int → Option R) (ll : List (List Int)) (hn : ll.length < 4611686018427387904) (hf : ll.flatten.length ≤ 140737488355328) : ∀ (d m i : Nat), i + d = ll.length → d < m →
    f70_0d k x ll ll (ll.length : Int) m (((ll.take i).flatten.length : Nat) : Int) (i : Int) = x (ll.flatten.length : Nat)
  | d, 0, i, _, h => absurd h (Nat.not_lt_zero _)
  | 0, m + 1, i, hi, _ => by
    have h1 : decide ((i : Int) < (ll.length : Int)) = false := by simp; omega
    simp only [f70_0d, f70_0b, h1, cond_false]
    rw [List.take_of_length_le (by omega)]
  | d + 1, m + 1, i, hi, hm => by
    have h1 : decide ((i : Int) < (ll.length : Int)) = true := by simp; omega
    have h0 : decide ((0 : Int) ≤ (i : Int)) = true := by simp
    have hli : i < ll.length := by omega
    have hw : IntKind.i64.wrap ((i : Int) + 1) = ((i + 1 : Nat) : Int) := by rw [wi (by omega) (by omega)]; omega
    have hg : ll.getD (Int.toNat (i : Int)) [] = ll[i] := by rw [Int.toNat_natCast, List.getD_eq_getElem?_getD, List.getElem?_eq_getElem hli]; rfl
    have ht : (ll.take (i + 1)).flatten.length = (ll.take i).flatten.length + ll[i].length := by
      rw [List.take_succ_eq_append_getElem hli, List.flatten_append, List.length_append]; simp
    have hle : (ll.take (i + 1)).flatten.length ≤ ll.flatten.length := by
      conv => rhs; rw [← List.take_append_drop (i + 1) ll, List.flatten_append, List.length_append]
      omega
    have hs : IntKind.i64.wrap ((((ll.take i).flatten.length : Nat) : Int) + (ll[i].length : Int)) = (((ll.take (i + 1)).flatten.length : Nat) : Int) := by
      rw [wi (by omega) (by omega)]; omega
    have hneg : decide ((((ll.take (i + 1)).flatten.length : Nat) : Int) < 0) = false := by simp only [decide_eq_false_iff_not]; omega
    simp only [f70_0d, f70_0b, h1, h0, cond_true, Bool.and_self, hg, hs, hw, f70_1000007_def, f70_1000007d, hneg, cond_false]
    exact cat_len k x ll hn hf d m (i + 1) (by omega) (by omega)
theorem cat_all (k : Nat) (x : List Int → Option R) (ll : List (List Int)) (hn : ll.length < 4611686018427387904) (hf : ll.flatten.length ≤ 140737488355328) : ∀ (d m i : Nat), i + d = ll.length → d < m →
    f70_2d k x ll (ll.length : Int) m (i : Int) (ll.take i).flatten = x ll.flatten
  | d, 0, i, _, h => absurd h (Nat.not_lt_zero _)
  | 0, m + 1, i, hi, _ => by
    have h1 : decide ((i : Int) < (ll.length : Int)) = false := by simp; omega
    simp only [f70_2d, f70_2b, h1, cond_false]
    rw [List.take_of_length_le (by omega)]
  | d + 1, m + 1, i, hi, hm => by
    have h1 : decide ((i : Int) < (ll.length : Int)) = true := by simp; omega
    have h0 : decide ((0 : Int) ≤ (i : Int)) = true := by simp
    have hli : i < ll.length := by omega
    have hw : IntKind.i64.wrap ((i : Int) + 1) = ((i + 1 : Nat) : Int) := by rw [wi (by omega) (by omega)]; omega
    have hg : ll.getD (Int.toNat (i : Int)) [] = ll[i] := by rw [Int.toNat_natCast, List.getD_eq_getElem?_getD, List.getElem?_eq_getElem hli]; rfl
    have ht : (ll.take (i + 1)).flatten = (ll.take i).flatten ++ ll[i] := by
      rw [List.take_succ_eq_append_getElem hli, List.flatten_append]; simp
    have hle : (ll.take (i + 1)).flatten.length ≤ ll.flatten.length := by
      conv => rhs; rw [← List.take_append_drop (i + 1) ll, List.flatten_append, List.length_append]
      omega
    rw [ht, List.length_append] at hle
    have hL : decide ((ll.take i).flatten.length + ll[i].length ≤ LIM 1) = true := by rw [LIM1]; simp only [decide_eq_true_eq]; omega
    simp only [f70_2d, f70_2b, h1, h0, cond_true, Bool.and_self, hg, hw, hL]
    rw [← ht]
    exact cat_all k x ll hn hf d m (i + 1) (by omega) (by omega)
theorem f106_eq (k : Nat) (hk : 0 < k) (n : Nat) (hn : n ≤ 140737488355328) (K : List Int → Option R) : f106 k (n : Int) K = K [] := by
  rw [f106_def]
  obtain ⟨k, rfl⟩ : ∃ j, k = j + 1 := ⟨k - 1, by omega⟩
  have h1 : decide ((n : Int) < 0) = false := by simp only [decide_eq_false_iff_not]; omega
  have hw : IntKind.i64.wrap ((n : Int) - 0) = n := by rw [wi (by omega) (by omega)]; omega
  simp only [f106d, f106_1000002_def, f106_1000002d, h1, cond_false, f106_1000005_def, f106_1000005d, hw]
  by_cases h : 0 < n
  · have h2 : decide ((n : Int) > 0) = true := by simp; omega
    have h3 : decide ((0 : Int) ≤ (n : Int)) = true := by simp
    have h4 : decide ((List.replicate (Int.toNat (n : Int)) (0 : Int)).length ≤ LIM 1) = true := by rw [LIM1]; simp; omega
    have h5 : decide ((0 : Int) ≤ ((List.replicate (Int.toNat (n : Int)) (0 : Int)).length : Int)) = true := by simp
    simp only [h2, h3, h4, h5, cond_true, Bool.and_self, List.take_zero]
  · have h2 : decide ((n : Int) > 0) = false := by simp; omega
    simp only [h2, cond_false]
theorem f70_eq (ll : List (List Int)) (hn : ll.length < 4611686018427387904) (hf : ll.flatten.length ≤ 140737488355328) (k : Nat) (hk : ll.length + 2 < k) (K : List Int → Option R) : f70 k ll K = K ll.flatten := by
  rw [f70_def]
  obtain ⟨k, rfl⟩ : ∃ j, k = j + 1 := ⟨k - 1, by omega⟩
  simp only [f70d, f70_0_def, f70_2_def]
  have h1 := cat_len (R := R) k (fun y0_0_1 => f106 k y0_0_1 fun r20481_0 => f70_2d k (fun y2_2_0 => K y2_2_0) ll (ll.length : Int) k 0 r20481_0) ll hn hf ll.length k 0 (by omega) (by omega)
  refine Eq.trans h1 ?_
  rw [f106_eq k (by omega) _ hf]
  exact cat_all k K ll hn hf ll.length k 0 (by omega) (by omega)
/-- The sign over the bytes l with the key c. -/
def sgn (c : Int) (l : List Int) : Int := fnv (eightF 8 (IntKind.u64.wrap c) ++ (l ++ eightF 8 (IntKind.u64.wrap c))) 14695981039346656037
theorem f35_eq {k : Nat} (c : Int) (l : List Int) (hl : l.length ≤ 1000) (hk : l.length + 30 < k) (K : Int → Option R) : f35 k c l K = K (sgn c l) := by
  obtain ⟨j, rfl⟩ := succ_of (show 0 < k by omega)
  have e8 := eightF_len 8 (IntKind.u64.wrap c)
  have hfl : ([eightF 8 (IntKind.u64.wrap c), l, eightF 8 (IntKind.u64.wrap c)] : List (List Int)).flatten = eightF 8 (IntKind.u64.wrap c) ++ (l ++ eightF 8 (IntKind.u64.wrap c)) := by simp
  have hle : (eightF 8 (IntKind.u64.wrap c) ++ (l ++ eightF 8 (IntKind.u64.wrap c))).length = l.length + 16 := by simp only [List.length_append, e8]; omega
  rw [f35_def]
  simp only [f35d]
  rw [f34_eq (by omega), f70_eq _ (by simp) (by rw [hfl, hle]; omega) j (by simp only [List.length_cons, List.length_nil]; omega), hfl, f35_0_def]
  have h := f35_loop (R := R) j (fun y => K y) (eightF 8 (IntKind.u64.wrap c) ++ (l ++ eightF 8 (IntKind.u64.wrap c))) (by rw [hle]; omega) (l.length + 16) 0 j 14695981039346656037 (by omega) (by omega)
  exact h
theorem or_byte (a b : Nat) (hb : b < 256) : a * 256 ||| b = a * 256 + b := by
  have h := Nat.two_pow_add_eq_or_of_lt (i := 8) (b := b) (by omega) a
  rw [show a * 256 = 2 ^ 8 * a by omega]
  exact h.symm
theorem or_step (a b : Int) (ha : 0 ≤ a) (hb0 : 0 ≤ b) (hb : b < 256) : bits .or .u64 (IntKind.u64.wrap (a * 2 ^ 8)) (IntKind.u64.wrap b) = IntKind.u64.wrap (a * 256) + b := by
  have hx : IntKind.u64.wrap (a * 2 ^ 8) = (((a % 2 ^ 56).toNat * 256 : Nat) : Int) := by rw [IntKind.wrap_u64]; omega
  have hx' : IntKind.u64.wrap (a * 256) = (((a % 2 ^ 56).toNat * 256 : Nat) : Int) := by rw [IntKind.wrap_u64]; omega
  have hy : IntKind.u64.wrap b = ((b.toNat : Nat) : Int) := by rw [wraps_u64 _ hb0 (by omega)]; omega
  rw [hx', hx, hy, (bits_nat .u64 64 (by decide) wraps_u64 _ _ (by omega) (by omega)).2, or_byte _ _ (by omega)]
  omega
/-- The number that bytes tell, the highest one first, from a on. -/
def numF : List Int → Int → Int
  | [], a => a
  | b :: l, a => numF l (IntKind.u64.wrap (a * 256) + b)
theorem f76_loop (k : Nat) (x0 : Int → Option R) (l : List Int) (hl : l.length < 2 ^ 40) (hB : B l) : ∀ (d i f : Nat) (a : Int), 0 ≤ a → i + d = l.length → d < f → f76_0d k x0 l (l.length : Int) f a (i : Int) = x0 (numF (l.drop i) a) := by
  intro d
  induction d with
  | zero =>
    intro i f a h0 hi hf
    obtain ⟨f, rfl⟩ := succ_of hf
    have h : decide ((i : Int) < (l.length : Int)) = false := by simp only [decide_eq_false_iff_not]; omega
    have hd : l.drop i = [] := List.drop_eq_nil_of_le (by omega)
    simp only [f76_0d, f76_0b, h, cond_false, hd, numF]
  | succ d ih =>
    intro i f a h0 hi hf
    obtain ⟨f, rfl⟩ := succ_of (show 0 < f by omega)
    have h1 : decide ((i : Int) < (l.length : Int)) = true := by simp only [decide_eq_true_eq]; omega
    have h2 : decide ((0 : Int) ≤ (i : Int)) = true := by simp only [decide_eq_true_eq]; omega
    have hlt : i < l.length := by omega
    have hb := hB _ (List.getElem_mem hlt)
    have hw : IntKind.i64.wrap ((i : Int) + 1) = ((i + 1 : Nat) : Int) := by rw [wi (by omega) (by omega)]; rfl
    have hd : l.drop i = l[i] :: l.drop (i + 1) := List.drop_eq_getElem_cons hlt
    have hu : (0 : Int) ≤ IntKind.u64.wrap (a * 256) := by rw [IntKind.wrap_u64]; omega
    simp only [f76_0d, f76_0b, h1, h2, Bool.and_self, cond_true, Int.toNat_natCast, getD_in hlt, hw, or_step a l[i] h0 hb.1 hb.2]
    rw [ih (i + 1) f _ (by omega) (by omega) (by omega), hd]
    rfl
/-- f76 reads the first eight bytes as a number. -/
theorem f76_eq {k : Nat} (hk : 9 < k) (l : List Int) (h8 : 8 ≤ l.length) (hB : B l) (K : Int → Option R) : f76 k l K = K (numF (l.take 8) 0) := by
  obtain ⟨j, rfl⟩ := succ_of (show 0 < k by omega)
  have h1 : decide ((8 : Int) ≤ (l.length : Int)) = true := by simp only [decide_eq_true_eq]; omega
  have ht : (l.take 8).length = 8 := by rw [List.length_take]; omega
  rw [f76_def]
  simp only [f76d, h1, cond_true]
  rw [f76_0_def]
  exact f76_loop j (fun y => K y) (l.take 8) (by omega) (fun x hx => hB x (List.mem_of_mem_take hx)) 8 0 j 0 (by decide) (by omega) (by omega)
theorem num_eight (n : Int) (h0 : 0 ≤ n) (h1 : n < 2 ^ 64) : numF (eightF 8 n) 0 = n := by
  simp only [eightF, numF, IntKind.wrap_u64]
  omega
theorem f85_loop (k : Nat) (K : Int → Option R) (x0 : Option R) (l : List Int) (v : Int) (hl : l.length < 2 ^ 40) (P : Bool → Option R) (hK : ∀ i : Int, 0 ≤ i → K i = P true) (hx : x0 = P false) : ∀ (d i f : Nat), i + d = l.length → d < f → f85_0d k K x0 l v (l.length : Int) f (i : Int) = P ((l.drop i).contains v) := by
  intro d
  induction d with
  | zero =>
    intro i f hi hf
    obtain ⟨f, rfl⟩ := succ_of hf
    have h : decide ((i : Int) < (l.length : Int)) = false := by simp only [decide_eq_false_iff_not]; omega
    have hd : l.drop i = [] := List.drop_eq_nil_of_le (by omega)
    simp only [f85_0d, f85_0b, h, cond_false, hd, hx, List.contains_nil]
  | succ d ih =>
    intro i f hi hf
    obtain ⟨f, rfl⟩ := succ_of (show 0 < f by omega)
    have h1 : decide ((i : Int) < (l.length : Int)) = true := by simp only [decide_eq_true_eq]; omega
    have h2 : decide ((0 : Int) ≤ (i : Int)) = true := by simp only [decide_eq_true_eq]; omega
    have hlt : i < l.length := by omega
    have hw : IntKind.i64.wrap ((i : Int) + 1) = ((i + 1 : Nat) : Int) := by rw [wi (by omega) (by omega)]; rfl
    have hd : l.drop i = l[i] :: l.drop (i + 1) := List.drop_eq_getElem_cons hlt
    simp only [f85_0d, f85_0b, h1, h2, Bool.and_self, cond_true, Int.toNat_natCast, getD_in hlt, hw]
    rw [ih (i + 1) f (by omega) (by omega), hd, List.contains_cons]
    cases hv : (v == l[i]) with
    | true => simp only [cond_true, Bool.true_or]; exact hK _ (by omega)
    | false => simp only [cond_false, Bool.false_or]
theorem f52_eq {k : Nat} (l : List Int) (hl : l.length < 2 ^ 40) (hk : l.length + 3 < k) (v : Int) (K : Bool → Option R) : f52 k l v K = K (l.contains v) := by
  obtain ⟨j, rfl⟩ := succ_of (show 0 < k by omega)
  obtain ⟨m, rfl⟩ := succ_of (show 0 < j by omega)
  rw [f52_def]
  simp only [f52d]
  rw [f85_def]
  simp only [f85d]
  rw [f85_0_def]
  exact f85_loop m _ _ l v hl K (fun i h => by simp only [ge_iff_le, h, decide_true]) (by rfl) l.length 0 m (by omega) (by omega)
/-- Drop the head while it is the least one not yet seen. -/
def runF : Int → List Int → Int × List Int
  | n, [] => (n, [])
  | n, x :: l => bif x == n then runF (IntKind.i64.wrap (n + 1)) l else (n, x :: l)
theorem f77_loop (k : Nat) (x0 : Int → List Int → Option R) (a : Int) (b : List Int) (c e : Int) : ∀ (l : List Int) (f : Nat) (n : Int), l.length < f → f77_0d k x0 a b c e f n l = x0 (runF n l).1 (runF n l).2 := by
  intro l
  induction l with
  | nil =>
    intro f n hf
    obtain ⟨f, rfl⟩ := succ_of hf
    rfl
  | cons x l ih =>
    intro f n hf
    obtain ⟨f, rfl⟩ := succ_of hf
    have hl : (x :: l).length = l.length + 1 := rfl
    have h1 : (decide (((x :: l).length : Int) > (0 : Int)) == true) = true := by rw [hl]; simp only [beq_iff_eq, decide_eq_true_eq]; omega
    have h2 : decide ((0 : Int) < ((x :: l).length : Int)) = true := by rw [hl]; simp only [decide_eq_true_eq]; omega
    have h3 : decide ((1 : Int) ≤ ((x :: l).length : Int)) = true := by rw [hl]; simp only [decide_eq_true_eq]; omega
    have h4 : (x :: l).getD 0 (0 : Int) = x := rfl
    have h5 : ((x :: l).drop 1).take ((x :: l).length - 1) = l := by rw [hl]; simp
    simp only [f77_0d, f77_0b, h1, h2, h3, h4, h5, cond_true, runF]
    cases hx : (x == n) with
    | true => simp only [cond_true]; exact ih f _ (by omega)
    | false => simp only [cond_false]; try rfl
theorem runF_len : ∀ (l : List Int) (n : Int), (runF n l).2.length ≤ l.length
  | [], _ => Nat.le_refl _
  | x :: l, n => by
    have h := runF_len l (IntKind.i64.wrap (n + 1))
    simp only [runF]
    cases x == n with
    | true => simp only [cond_true, List.length_cons]; omega
    | false => simp only [cond_false]; exact Nat.le_refl _
theorem f40_eq {k : Nat} (hk : 0 < k) (l : List Int) (hl : l.length < 1000000) (K : List Int → Option R) : f40 k l K = K l := by
  obtain ⟨j, rfl⟩ := succ_of hk
  have h : decide (l.length ≤ LIM 8) = true := by rw [decide_eq_true_eq, show LIM 8 = 17592186044416 by decide]; omega
  rw [f40_def]
  simp only [f40d, h, cond_true]
theorem f77_eq {k : Nat} (a n : Int) (l : List Int) (v : Int) (hl : l.length < 100000) (hk : l.length + 4 < k) (K : Int → Int → List Int → Option R) : f77 k a n l v K = K a (runF n (sortI (l ++ [v]))).1 (runF n (sortI (l ++ [v]))).2 := by
  obtain ⟨j, rfl⟩ := succ_of (show 0 < k by omega)
  obtain ⟨m, rfl⟩ := succ_of (show 0 < j by omega)
  have hlen : (l ++ [v]).length = l.length + 1 := by simp
  have hs : (sortI (l ++ [v])).length = l.length + 1 := by rw [sortI_len, hlen]
  have h1 : decide (l.length + ([v] : List Int).length ≤ LIM 8) = true := by rw [decide_eq_true_eq, show LIM 8 = 17592186044416 by decide, List.length_singleton]; omega
  have h2 : sortIOk (l ++ [v]) = true := by simp only [sortIOk, hlen, decide_eq_true_eq]; omega
  have h3 : decide ((sortI (l ++ [v])).length = (l ++ [v]).length) = true := by rw [hs, hlen]; simp
  have hr := runF_len (sortI (l ++ [v])) n
  rw [f77_def]
  simp only [f77d]
  rw [f40_eq (by omega) l (by omega)]
  simp only [h1, cond_true]
  rw [f49_def]
  simp only [f49d, h2, cond_true, h3, Bool.and_true]
  rw [f77_0_def, f77_loop _ _ _ _ _ _ _ _ _ (by rw [hs]; omega), f40_eq (by omega) _ (by omega)]
end Go.Proofs.YtoepnomdklhhlaaGreat.PM.P5
/- Plain laws of signed commands: the check of keys. -/
set_option linter.unusedSimpArgs false
set_option linter.unusedVariables false
namespace Go.Proofs.YtoepnomdklhhlaaGreat.PM.P5
open Go Go.Proofs.YtoepnomdklhhlaaGreat.PM Go.Proofs.YtoepnomdklhhlaaGreat.Bt
variable {R : Type}
theorem f62k {k : Nat} (hk : 0 < k) (a lo hi : Int) (K : Bool → Option R) : f26 k a lo hi K = K (inB a lo hi) := by
  obtain ⟨j, rfl⟩ := succ_of hk
  rw [f26_def]
  simp only [f26d, inB]
  cases decide (lo ≤ a) <;> rfl
/-- The answer of the walk over the counters taken, from one on, p the one before. -/
def keyF (lo hi : Int) : Option Int → List Int → Int
  | _, [] => 0
  | p, x :: l => bif !inB x lo hi then 1 else bif (match p with | none => false | some y => decide (x ≤ y)) then 8 else keyF lo hi (some x) l
theorem f39_loop (k : Nat) (hk : 0 < k) (K : Int → Option R) (x1 : Option R) (hx : x1 = K 0) (l : List Int) (a b : Int) (hl : l.length < 2 ^ 40) (hb0 : 0 ≤ b) (hb : b ≤ 1000000001) : ∀ (d i f : Nat), i + d = l.length → d < f → f39_1d k K x1 l (l.length : Int) a b l f (i : Int) = K (keyF (b + 1) (if 1000000000 < b + 64 then 1000000000 else b + 64) (if i = 0 then none else some (l.getD (i - 1) 0)) (l.drop i)) := by
  intro d
  have w1 : IntKind.i64.wrap (b + 1) = b + 1 := wi (by omega) (by omega)
  have w2 : IntKind.i64.wrap (b + 64) = b + 64 := wi (by omega) (by omega)
  induction d with
  | zero =>
    intro i f hi hf
    obtain ⟨f, rfl⟩ := succ_of hf
    have h : decide ((i : Int) < (l.length : Int)) = false := by simp only [decide_eq_false_iff_not]; omega
    have hd : l.drop i = [] := List.drop_eq_nil_of_le (by omega)
    simp only [f39_1d, f39_1b, h, cond_false, hd, hx, keyF]
  | succ d ih =>
    intro i f hi hf
    obtain ⟨f, rfl⟩ := succ_of (show 0 < f by omega)
    have h1 : decide ((i : Int) < (l.length : Int)) = true := by simp only [decide_eq_true_eq]; omega
    have h2 : decide ((0 : Int) ≤ (i : Int)) = true := by simp only [decide_eq_true_eq]; omega
    have hlt : i < l.length := by omega
    have hw : IntKind.i64.wrap ((i : Int) + 1) = ((i + 1 : Nat) : Int) := by rw [wi (by omega) (by omega)]; rfl
    have hd : l.drop i = l[i] :: l.drop (i + 1) := List.drop_eq_getElem_cons hlt
    have hn := ih (i + 1) f (by omega) (by omega)
    rw [if_neg (Nat.succ_ne_zero i), Nat.add_sub_cancel, getD_in hlt] at hn
    simp only [f39_1d, f39_1b, h1, h2, Bool.and_self, cond_true, Int.toNat_natCast, getD_in hlt, hw, w1, w2, f62k hk, hd, keyF]
    cases inB l[i] (b + 1) (if 1000000000 < b + 64 then 1000000000 else b + 64) with
    | false => simp only [Bool.not_false, cond_true]
    | true =>
      simp only [Bool.not_true, cond_false]
      cases i with
      | zero => exact hn
      | succ i =>
        have g1 : (decide (((i + 1 : Nat) : Int) > 0) == true) = true := by simp only [beq_iff_eq, decide_eq_true_eq]; omega
        have g2 : IntKind.i64.wrap (((i + 1 : Nat) : Int) - 1) = (i : Int) := by rw [wi (by omega) (by omega)]; omega
        have g3 : decide ((0 : Int) ≤ (i : Int)) = true := by simp only [decide_eq_true_eq]; omega
        have g4 : decide ((i : Int) < (l.length : Int)) = true := by simp only [decide_eq_true_eq]; omega
        rw [if_neg (Nat.succ_ne_zero i), Nat.add_sub_cancel]
        simp only [g1, g2, g3, g4, Bool.and_self, cond_true, Int.toNat_natCast, hn]
        cases decide (l[i + 1] ≤ l.getD i 0) <;> rfl
/-- What the check of a key, a least counter and the counters taken answers. -/
def keysF (c n : Int) (l : List Int) : Int :=
  bif !inB c 0 1000000000000000 then 1 else bif !inB n 0 1000000001 then 1 else bif decide (64 < l.length) then 2 else keyF (n + 1) (if 1000000000 < n + 64 then 1000000000 else n + 64) none l
theorem f39_eq {k : Nat} (hk : 70 < k) (c n : Int) (l : List Int) (K : Int → Option R) : f39 k c n l K = K (keysF c n l) := by
  obtain ⟨j, rfl⟩ := succ_of (show 0 < k by omega)
  rw [f39_def]
  simp only [f39d, f62k (show 0 < j by omega), keysF]
  cases inB c 0 1000000000000000 with
  | false => rfl
  | true =>
    cases hn : inB n 0 1000000001 with
    | false => rfl
    | true =>
      have hb := inB_iff.1 hn
      by_cases h : 64 < l.length
      · have h1 : decide ((l.length : Int) > 64) = true := by simp only [decide_eq_true_eq]; omega
        have h2 : decide (64 < l.length) = true := by simp only [decide_eq_true_eq]; omega
        simp only [h1, h2, Bool.not_true, cond_false, cond_true]
        rfl
      · have h1 : decide ((l.length : Int) > 64) = false := by simp only [decide_eq_false_iff_not]; omega
        have h2 : decide (64 < l.length) = false := by simp only [decide_eq_false_iff_not]; omega
        simp only [h1, h2, Bool.not_true, cond_false]
        have e := f39_loop (R := R) j (by omega) K (K 0) rfl l c n (by omega) hb.1 hb.2 l.length 0 j (by omega) (by omega)
        rw [f39_1_def]
        exact e
end Go.Proofs.YtoepnomdklhhlaaGreat.PM.P5
/- Plain laws of signed commands: the opening. -/
set_option linter.unusedSimpArgs false
set_option linter.unusedVariables false
namespace Go.Proofs.YtoepnomdklhhlaaGreat.PM.P5
open Go Go.Proofs.YtoepnomdklhhlaaGreat.PM Go.Proofs.YtoepnomdklhhlaaGreat.Bt
variable {R : Type}
structure Opened where
  key : Int
  least : Int
  got : Int
  code : Int
  taken : List Int
  body : List Int
def Opened.on (o : Opened) (K : Int → Int → Int → Int → List Int → List Int → Option R) : Option R := K o.key o.least o.got o.code o.taken o.body
def notOpen (c : Int) : Opened := ⟨0, 0, 0, c, [], []⟩
theorem numF_range : ∀ (l : List Int) (a : Int), B l → 0 ≤ a → a < 2 ^ 64 → 0 ≤ numF l a ∧ numF l a < 2 ^ 64
  | [], a, _, h0, h1 => ⟨h0, h1⟩
  | b :: l, a, hB, h0, h1 => by
    have hb := hB b (List.mem_cons_self ..)
    have e : IntKind.u64.wrap (a * 256) = a * 256 % 2 ^ 64 := IntKind.wrap_u64 _
    exact numF_range l _ (fun x hx => hB x (List.mem_cons_of_mem _ hx)) (by rw [e]; omega) (by rw [e]; omega)
noncomputable def openF (c n : Int) (l b : List Int) : Opened :=
  if b.length ≤ 16 then notOpen 9 else if 216 < b.length then notOpen 2 else
  if sgn c (b.take (b.length - 8)) ≠ numF ((b.drop (b.length - 8)).take 8) 0 then notOpen 15 else
  if 1000000000 < numF (b.take 8) 0 then notOpen 1 else
  if numF (b.take 8) 0 < n then notOpen 7 else
  if l.contains (numF (b.take 8) 0) then notOpen 7 else
  if n + 64 < numF (b.take 8) 0 then notOpen 11 else
  ⟨c, (runF n (sortI (l ++ [numF (b.take 8) 0]))).1, numF (b.take 8) 0, 0, (runF n (sortI (l ++ [numF (b.take 8) 0]))).2, (b.take (b.length - 8)).drop 8⟩
theorem f41_eq {k : Nat} (c n : Int) (l b : List Int) (hl : l.length ≤ 64) (h0 : 0 ≤ n) (h1 : n ≤ 1000000001) (hB : B b) (hk : 1000 < k) (K : Int → Int → Int → Int → List Int → List Int → Option R) : f41 k c n l b K = (openF c n l b).on K := by
  obtain ⟨j, rfl⟩ := succ_of (show 0 < k by omega)
  rw [f41_def]
  simp only [f41d]
  by_cases a1 : b.length ≤ 16
  · have e1 : decide ((b.length : Int) ≤ 16) = true := by rw [decide_eq_true_eq]; omega
    simp only [e1, cond_true, openF, if_pos a1]
    rfl
  have e1 : decide ((b.length : Int) ≤ 16) = false := by rw [decide_eq_false_iff_not]; omega
  by_cases a2 : 216 < b.length
  · have e2 : decide ((b.length : Int) > 216) = true := by rw [decide_eq_true_eq]; omega
    simp only [e1, e2, cond_true, cond_false, openF, if_neg a1, if_pos a2]
    rfl
  have e2 : decide ((b.length : Int) > 216) = false := by rw [decide_eq_false_iff_not]; omega
  have w : IntKind.i64.wrap ((b.length : Int) - 8) = ((b.length - 8 : Nat) : Int) := by rw [wi (by omega) (by omega)]; omega
  have e3 : decide ((0 : Int) ≤ ((b.length - 8 : Nat) : Int)) = true := by rw [decide_eq_true_eq]; omega
  have e4 : decide (((b.length - 8 : Nat) : Int) ≤ (b.length : Int)) = true := by rw [decide_eq_true_eq]; omega
  have e5 : decide ((8 : Int) ≤ ((b.length - 8 : Nat) : Int)) = true := by rw [decide_eq_true_eq]; omega
  have ht : (b.take (b.length - 8)).length = b.length - 8 := by rw [List.length_take]; omega
  have hd : (b.drop (b.length - 8)).length = 8 := by rw [List.length_drop]; omega
  have hv := numF_range (b.take 8) 0 (fun x hx => hB x (List.mem_of_mem_take hx)) (by decide) (by decide)
  simp only [e1, e2, cond_false, w, e3, e4, e5, Bool.and_self, cond_true, Int.toNat_natCast]
  rw [f35_eq c _ (by omega) (by omega), f76_eq (by omega) _ (by omega) (fun x hx => hB x (List.mem_of_mem_drop hx))]
  unfold openF
  rw [if_neg a1, if_neg a2]
  by_cases a3 : sgn c (b.take (b.length - 8)) = numF ((b.drop (b.length - 8)).take 8) 0
  · rw [if_neg (fun h => h a3)]
    have fX1 : (sgn c (b.take (b.length - 8)) != numF ((b.drop (b.length - 8)).take 8) 0) = false := by rw [bne_dec]; simp [a3]
    simp only [fX1, cond_false]
    rw [f76_eq (by omega) b (by omega) hB]
    generalize numF (b.take 8) 0 = v at hv ⊢
    by_cases a4 : 1000000000 < v
    · simp only [show decide (v > 1000000000) = true from decide_eq_true a4, cond_true, if_pos a4]; rfl
    have w2 : IntKind.i64.wrap v = v := wi (by omega) (by omega)
    have w3 : IntKind.i64.wrap (n + 64) = n + 64 := wi (by omega) (by omega)
    simp only [show decide (v > 1000000000) = false from decide_eq_false a4, cond_false, if_neg a4, w2, w3]
    by_cases a5 : v < n
    · simp only [show decide (v < n) = true from decide_eq_true a5, if_pos a5]; rfl
    simp only [show decide (v < n) = false from decide_eq_false a5, if_neg a5, beq_self_eq_true, cond_true]
    rw [f52_eq l (by omega) (by omega)]
    cases a6 : l.contains v with
    | true => simp only [cond_true, if_pos]; rfl
    | false =>
      by_cases a7 : n + 64 < v
      · simp only [show decide (v > n + 64) = true from decide_eq_true a7, cond_true, cond_false, if_pos a7]; rfl
      simp only [show decide (v > n + 64) = false from decide_eq_false a7, cond_false, if_neg a7]
      rw [f77_eq c n l v (by omega) (by omega), f43_eq (by omega) _ (by rw [List.length_drop, ht]; omega)]
      rfl
  · rw [if_pos a3]
    have fX1 : (sgn c (b.take (b.length - 8)) != numF ((b.drop (b.length - 8)).take 8) 0) = true := by rw [bne_dec]; simp [a3]
    simp only [fX1, cond_true]
    rfl
end Go.Proofs.YtoepnomdklhhlaaGreat.PM.P5
/- Plain laws of signed commands: what is signed is opened, once. -/
set_option linter.unusedSimpArgs false
set_option linter.unusedVariables false
namespace Go.Proofs.YtoepnomdklhhlaaGreat.PM.P5
open Go Go.Proofs.YtoepnomdklhhlaaGreat.PM Go.Proofs.YtoepnomdklhhlaaGreat.Bt
variable {R : Type}
/-- What is wrong with a key, a counter and a body, or 0. -/
def signErr (c v : Int) (b : List Int) : Int := firstF [if inB c 0 1000000000000000 then 0 else 1, if inB v 0 1000000000 then 0 else 1, chkBody b.length]
def signB (c v : Int) (b : List Int) : List Int := (eightF 8 v ++ b) ++ eightF 8 (sgn c (eightF 8 v ++ b))
def signF (c v : Int) (b : List Int) : Int × List Int := if signErr c v b = 0 then (0, signB c v b) else (signErr c v b, [])
theorem signErr_ok {c v : Int} {b : List Int} (h : signErr c v b = 0) : (0 ≤ c ∧ c ≤ 1000000000000000) ∧ (0 ≤ v ∧ v ≤ 1000000000) ∧ 0 < b.length ∧ b.length ≤ 200 := by
  unfold signErr at h
  cases h1 : inB c 0 1000000000000000 with
  | false => simp [h1, firstF] at h
  | true =>
    cases h2 : inB v 0 1000000000 with
    | false => simp [h1, h2, firstF] at h
    | true =>
      simp only [h1, h2, if_true, firstF] at h
      refine ⟨inB_iff.1 h1, inB_iff.1 h2, ?_⟩
      by_cases h3 : chkBody b.length = 0
      · unfold chkBody at h3
        split at h3
        · cases h3
        · split at h3
          · cases h3
          · omega
      · rw [if_neg h3] at h; exact absurd h h3
theorem f12_eq {k : Nat} (hk : 300 < k) (c v : Int) (b : List Int) (K : Int → List Int → Option R) : f12 k c v b K = K (signF c v b).1 (signF c v b).2 := by
  obtain ⟨j, rfl⟩ := succ_of (show 0 < k by omega)
  rw [f12_def]
  simp only [f12d]
  rw [f32_eq (by omega), f32_eq (by omega), f33_eq (by omega), f31_eq (by simp; omega) (by simp)]
  change (bif (signErr c v b != 0) then K (signErr c v b) [] else _) = _
  by_cases h : signErr c v b = 0
  · obtain ⟨h1, h2, h3, h4⟩ := signErr_ok h
    have hw : IntKind.u64.wrap v = v := by rw [IntKind.wrap_u64]; omega
    have e1 : decide ((eightF 8 v).length + b.length ≤ LIM 1) = true := by rw [LIM1, eightF_len]; simp only [decide_eq_true_eq]; omega
    have e2 : ∀ x, decide ((eightF 8 v ++ b).length + (eightF 8 x).length ≤ LIM 1) = true := fun x => by rw [LIM1, List.length_append, eightF_len, eightF_len]; simp only [decide_eq_true_eq]; omega
    have e3 : (eightF 8 v ++ b).length = 8 + b.length := by rw [List.length_append, eightF_len]
    simp only [signF, h, if_true, bne_self_eq_false, cond_false, hw]
    rw [f34_eq (by omega)]
    simp only [e1, cond_true]
    rw [f35_eq c _ (by omega) (by omega), f34_eq (by omega)]
    simp only [e2, cond_true]
    rfl
  · have e : (signErr c v b != 0) = true := by simp [h]
    simp only [signF, if_neg h, e, cond_true]
theorem fnv_range : ∀ (l : List Int) (a : Int), 0 ≤ a → a < 2 ^ 64 → 0 ≤ fnv l a ∧ fnv l a < 2 ^ 64
  | [], a, h0, h1 => ⟨h0, h1⟩
  | b :: l, a, h0, h1 => by
    simp only [fnv]
    exact fnv_range l _ (by rw [IntKind.wrap_u64]; omega) (by rw [IntKind.wrap_u64]; omega)
theorem sgn_range (c : Int) (l : List Int) : 0 ≤ sgn c l ∧ sgn c l < 2 ^ 64 := fnv_range _ _ (by decide) (by decide)
theorem signB_len (c v : Int) (b : List Int) : (signB c v b).length = b.length + 16 := by
  simp only [signB, List.length_append, eightF_len]; omega
theorem signB_B (c v : Int) {b : List Int} (h : B b) : B (signB c v b) := by
  intro x hx
  simp only [signB, List.mem_append] at hx
  rcases hx with (hx | hx) | hx
  · exact eightF_B _ _ x hx
  · exact h x hx
  · exact eightF_B _ _ x hx
theorem signB_take (c v : Int) (b : List Int) : (signB c v b).take ((signB c v b).length - 8) = eightF 8 v ++ b := by
  rw [signB_len, signB, List.take_append_of_le_length (by simp only [List.length_append, eightF_len]; omega), List.take_of_length_le (by simp only [List.length_append, eightF_len]; omega)]
theorem signB_drop (c v : Int) (b : List Int) : (signB c v b).drop ((signB c v b).length - 8) = eightF 8 (sgn c (eightF 8 v ++ b)) := by
  rw [signB_len, signB]
  exact List.drop_left' (by simp only [List.length_append, eightF_len]; omega)
theorem signB_num (c v : Int) (b : List Int) (h0 : 0 ≤ v) (h1 : v ≤ 1000000000) : numF ((signB c v b).take 8) 0 = v := by
  rw [signB, List.append_assoc, List.take_append_of_le_length (by rw [eightF_len]; omega), List.take_of_length_le (by rw [eightF_len]; omega)]
  exact num_eight v h0 (by omega)
/-- What was signed is opened as its counter says. -/
theorem open_signed (c n v : Int) (l b : List Int) (h : signErr c v b = 0) : openF c n l (signB c v b) =
    if v < n then notOpen 7 else if l.contains v then notOpen 7 else if n + 64 < v then notOpen 11 else ⟨c, (runF n (sortI (l ++ [v]))).1, v, 0, (runF n (sortI (l ++ [v]))).2, b⟩ := by
  obtain ⟨h1, h2, h3, h4⟩ := signErr_ok h
  have hl := signB_len c v b
  have hs := sgn_range c (eightF 8 v ++ b)
  have e8 : (eightF 8 (sgn c (eightF 8 v ++ b))).take 8 = eightF 8 (sgn c (eightF 8 v ++ b)) := List.take_of_length_le (by rw [eightF_len]; omega)
  have ed : (eightF 8 v ++ b).drop 8 = b := List.drop_left' (eightF_len 8 v)
  unfold openF
  rw [if_neg (by omega), if_neg (by omega), signB_num c v b h2.1 h2.2, signB_take, signB_drop, e8, num_eight _ hs.1 hs.2, if_neg (fun h => h rfl), if_neg (by omega), ed]
/-! what keys become -/
def topC (n : Int) : Int := if 1000000000 < n + 64 then 1000000000 else n + 64
theorem topC_or (n : Int) : (topC n = 1000000000 ∧ 1000000000 < n + 64) ∨ (topC n = n + 64 ∧ n + 64 ≤ 1000000000) := by
  unfold topC
  split
  · exact .inl ⟨rfl, by assumption⟩
  · exact .inr ⟨rfl, by omega⟩
structure KeysOk (n : Int) (l : List Int) : Prop where
  lo : 0 ≤ n
  hi : n ≤ 1000000001
  len : l.length ≤ 64
  asc : l.Pairwise (· < ·)
  inn : ∀ x ∈ l, n + 1 ≤ x ∧ x ≤ topC n
theorem keyF_iff (lo hi : Int) : ∀ (l : List Int) (p : Option Int), keyF lo hi p l = 0 ↔ (∀ x ∈ l, lo ≤ x ∧ x ≤ hi) ∧ l.Pairwise (· < ·) ∧ ∀ y, p = some y → ∀ x ∈ l.head?, y < x
  | [], p => by simp [keyF]
  | x :: l, p => by
    have ih := keyF_iff lo hi l (some x)
    simp only [keyF]
    cases hi' : inB x lo hi with
    | false =>
      have : ¬ (lo ≤ x ∧ x ≤ hi) := fun h => by rw [← inB_iff] at h; rw [hi'] at h; cases h
      constructor
      · intro h; simp at h
      · intro h; exact absurd (h.1 x (List.mem_cons_self ..)) this
    | true =>
      have hx := inB_iff.1 hi'
      have key : (l.Pairwise (· < ·) ∧ ∀ y, some x = some y → ∀ z ∈ l.head?, y < z) ↔ (x :: l).Pairwise (· < ·) := by
        constructor
        · rintro ⟨h1, h2⟩
          refine List.pairwise_cons.2 ⟨fun z hz => ?_, h1⟩
          cases l with
          | nil => cases hz
          | cons w l =>
            have hw : x < w := h2 x rfl w (by simp)
            rcases List.mem_cons.1 hz with rfl | hz
            · exact hw
            · have := (List.pairwise_cons.1 h1).1 z hz; omega
        · intro h
          refine ⟨(List.pairwise_cons.1 h).2, fun y hy z hz => ?_⟩
          cases hy
          exact (List.pairwise_cons.1 h).1 z (List.mem_of_mem_head? hz)
      cases p with
      | none =>
        simp only [Bool.not_true, cond_false, ih]
        rw [key]
        constructor
        · rintro ⟨h1, h2⟩
          exact ⟨fun z hz => (List.mem_cons.1 hz).elim (fun e => e ▸ hx) (h1 z), h2, fun y hy => by cases hy⟩
        · rintro ⟨h1, h2, _⟩
          exact ⟨fun z hz => h1 z (List.mem_cons_of_mem _ hz), h2⟩
      | some y =>
        by_cases hy : x ≤ y
        · have e : decide (x ≤ y) = true := decide_eq_true hy
          simp only [Bool.not_true, cond_false, e, cond_true]
          constructor
          · intro h; cases h
          · rintro ⟨_, _, h⟩
            have := h y rfl x (by simp)
            omega
        · have e : decide (x ≤ y) = false := decide_eq_false hy
          simp only [Bool.not_true, cond_false, e, ih]
          rw [key]
          constructor
          · rintro ⟨h1, h2⟩
            exact ⟨fun z hz => (List.mem_cons.1 hz).elim (fun e => e ▸ hx) (h1 z), h2, fun y' hy' z hz => by cases hy'; simp at hz; subst hz; omega⟩
          · rintro ⟨h1, h2, _⟩
            exact ⟨fun z hz => h1 z (List.mem_cons_of_mem _ hz), h2⟩
theorem keysF_iff (c n : Int) (l : List Int) : keysF c n l = 0 ↔ (0 ≤ c ∧ c ≤ 1000000000000000) ∧ KeysOk n l := by
  unfold keysF
  cases h1 : inB c 0 1000000000000000 with
  | false =>
    constructor
    · intro h; simp at h
    · rintro ⟨h, _⟩; rw [inB_iff.2 h] at h1; cases h1
  | true =>
    cases h2 : inB n 0 1000000001 with
    | false =>
      constructor
      · intro h; simp at h
      · rintro ⟨_, h⟩; rw [inB_iff.2 ⟨h.lo, h.hi⟩] at h2; cases h2
    | true =>
      by_cases h3 : 64 < l.length
      · have e : decide (64 < l.length) = true := decide_eq_true h3
        simp only [Bool.not_true, cond_false, e, cond_true]
        constructor
        · intro h; cases h
        · rintro ⟨_, h⟩; have := h.len; omega
      · have e : decide (64 < l.length) = false := decide_eq_false h3
        simp only [Bool.not_true, cond_false, e]
        rw [keyF_iff]
        constructor
        · rintro ⟨g1, g2, _⟩
          exact ⟨inB_iff.1 h1, (inB_iff.1 h2).1, (inB_iff.1 h2).2, by omega, g2, g1⟩
        · rintro ⟨_, h⟩
          exact ⟨h.inn, h.asc, fun y hy => by cases hy⟩
theorem asc_len : ∀ (l : List Int) (a b : Int), a ≤ b + 1 → l.Pairwise (· < ·) → (∀ x ∈ l, a ≤ x ∧ x ≤ b) → (l.length : Int) ≤ b - a + 1
  | [], a, b, h, _, _ => by simp only [List.length_nil]; omega
  | x :: l, a, b, h, hp, hb => by
    have hx := hb x (List.mem_cons_self ..)
    have := asc_len l (x + 1) b (by omega) (List.pairwise_cons.1 hp).2 (fun y hy => ⟨by have := (List.pairwise_cons.1 hp).1 y hy; omega, (hb y (List.mem_cons_of_mem _ hy)).2⟩)
    simp only [List.length_cons]
    omega
theorem runF_spec : ∀ (s : List Int) (n H : Int), 0 ≤ n → H ≤ 1000000000 → n ≤ H + 1 → s.Pairwise (· < ·) → (∀ x ∈ s, n ≤ x ∧ x ≤ H) →
    n ≤ (runF n s).1 ∧ (runF n s).1 ≤ H + 1 ∧ (runF n s).2.Pairwise (· < ·) ∧ (∀ x ∈ (runF n s).2, (runF n s).1 + 1 ≤ x ∧ x ≤ H) ∧ (∀ x ∈ s, x < (runF n s).1 ∨ x ∈ (runF n s).2) ∧ (∀ x ∈ (runF n s).2, x ∈ s)
  | [], n, H, h0, hH, hn, hp, hb => by simp [runF]; omega
  | x :: s, n, H, h0, hH, hn, hp, hb => by
    have hx := hb x (List.mem_cons_self ..)
    have hp' := List.pairwise_cons.1 hp
    simp only [runF]
    cases e : (x == n) with
    | true =>
      have e : x = n := by simpa using e
      subst e
      have hw : IntKind.i64.wrap (x + 1) = x + 1 := wi (by omega) (by omega)
      simp only [cond_true, hw]
      obtain ⟨g1, g2, g3, g4, g5, g6⟩ := runF_spec s (x + 1) H (by omega) hH (by omega) hp'.2 (fun y hy => ⟨by have := hp'.1 y hy; omega, (hb y (List.mem_cons_of_mem _ hy)).2⟩)
      refine ⟨by omega, g2, g3, g4, fun y hy => ?_, fun y hy => List.mem_cons_of_mem _ (g6 y hy)⟩
      rcases List.mem_cons.1 hy with rfl | hy
      · left; omega
      · exact g5 y hy
    | false =>
      have e : ¬ x = n := by simpa using e
      simp only [cond_false]
      refine ⟨Int.le_refl _, hn, hp, fun y hy => ?_, fun y hy => .inr hy, fun y hy => hy⟩
      rcases List.mem_cons.1 hy with rfl | hy
      · omega
      · have := hp'.1 y hy; have := hb y (List.mem_cons_of_mem _ hy); omega
theorem sort_asc {l : List Int} {v : Int} (h : l.Pairwise (· < ·)) (hv : v ∉ l) : (sortI (l ++ [v])).Pairwise (· < ·) := by
  have hn : (sortI (l ++ [v])).Nodup := by
    rw [(sortI_perm _).nodup_iff]
    refine List.nodup_append.2 ⟨h.imp fun h => by omega, by simp, fun a ha b hb => ?_⟩
    simp at hb
    subst hb
    exact fun e => hv (e ▸ ha)
  have h2 := sortI_asc (l ++ [v])
  exact (List.pairwise_and_iff.2 ⟨h2, hn⟩).imp fun h => by omega
theorem see_ok {n v : Int} {l : List Int} (h : KeysOk n l) (hv : v ∉ l) (h0 : n ≤ v) (h1 : v ≤ n + 64) (h2 : v ≤ 1000000000) :
    KeysOk (runF n (sortI (l ++ [v]))).1 (runF n (sortI (l ++ [v]))).2 ∧ (∀ x, (x < n ∨ x ∈ l ∨ x = v) → x < (runF n (sortI (l ++ [v]))).1 ∨ x ∈ (runF n (sortI (l ++ [v]))).2) := by
  have ht := topC_or n
  have hm : ∀ x, x ∈ sortI (l ++ [v]) ↔ x ∈ l ∨ x = v := fun x => by rw [(sortI_perm _).mem_iff]; simp
  obtain ⟨g1, g2, g3, g4, g5, g6⟩ := runF_spec (sortI (l ++ [v])) n (topC n) h.lo (by omega) (by omega) (sort_asc h.asc hv) (fun x hx => by
    rcases (hm x).1 hx with hx | rfl
    · have := h.inn x hx; omega
    · omega)
  have hlo := h.lo
  refine ⟨⟨by omega, by omega, ?_, g3, fun x hx => ?_⟩, fun x hx => ?_⟩
  · rcases hr : (runF n (sortI (l ++ [v]))).2 with _ | ⟨y, r⟩
    · simp
    · rw [hr] at g3 g4
      have hy := g4 y (List.mem_cons_self ..)
      have := asc_len _ ((runF n (sortI (l ++ [v]))).1 + 1) (topC n) (by omega) g3 g4
      omega
  · have := g4 x hx
    have ht2 := topC_or (runF n (sortI (l ++ [v]))).1
    exact ⟨this.1, by omega⟩
  · rcases hx with hx | hx
    · left; omega
    · exact g5 x ((hm x).2 hx)
theorem contains_iff (l : List Int) (v : Int) : l.contains v = true ↔ v ∈ l := by simp
end Go.Proofs.YtoepnomdklhhlaaGreat.PM.P5
/- Plain laws of signed commands: no counter is opened twice. -/
set_option linter.unusedSimpArgs false
set_option linter.unusedVariables false
namespace Go.Proofs.YtoepnomdklhhlaaGreat.PM.P5
open Go Go.Proofs.YtoepnomdklhhlaaGreat.PM Go.Proofs.YtoepnomdklhhlaaGreat.Bt
variable {R : Type}
/-- What opens keys right leaves them right. -/
theorem openF_ok {c n : Int} {l b : List Int} (h : KeysOk n l) (ho : (openF c n l b).code = 0) : (openF c n l b).key = c ∧ KeysOk (openF c n l b).least (openF c n l b).taken := by
  unfold openF at ho ⊢
  split at ho
  · simp [notOpen] at ho
  split at ho
  · simp [notOpen] at ho
  split at ho
  · simp [notOpen] at ho
  split at ho
  · simp [notOpen] at ho
  split at ho
  · simp [notOpen] at ho
  split at ho
  · simp [notOpen] at ho
  split at ho
  · simp [notOpen] at ho
  rename_i h1 h2 h3 h4 h5 h6 h7
  rw [if_neg h1, if_neg h2, if_neg h3, if_neg h4, if_neg h5, if_neg h6, if_neg h7]
  exact ⟨rfl, (see_ok h (fun hm => h6 ((contains_iff _ _).2 hm)) (by omega) (by omega) (by omega)).1⟩
structure AllS where
  key : Int
  least : Int
  taken : List Int
  bodies : List (List Int)
  codes : List Int
noncomputable def allS : Int → Int → List Int → List (List Int) → List Int → List (List Int) → AllS
  | c, n, l, bs, cs, [] => ⟨c, n, l, bs, cs⟩
  | c, n, l, bs, cs, b :: r =>
    if (openF c n l b).code = 0 then allS (openF c n l b).key (openF c n l b).least (openF c n l b).taken (bs ++ [(openF c n l b).body]) (cs ++ [(openF c n l b).code]) r
    else allS c n l bs (cs ++ [(openF c n l b).code]) r
theorem f15_loop (k : Nat) (hk : 1000 < k) (x0 : Int → Int → List Int → List (List Int) → List Int → Option R) (L : List (List Int)) (w6 w7 : Int) (hL : L.length ≤ 100000) (hB : ∀ b ∈ L, B b) :
    ∀ (d i f : Nat) (c n : Int) (l : List Int) (bs : List (List Int)) (cs : List Int), KeysOk n l → bs.length ≤ i → cs.length ≤ i → i + d = L.length → d < f →
      f15_0d k x0 L (L.length : Int) w6 w7 f (i : Int) c n l bs cs = (fun s : AllS => x0 s.key s.least s.taken s.bodies s.codes) (allS c n l bs cs (L.drop i)) := by
  intro d
  induction d with
  | zero =>
    intro i f c n l bs cs hO h1 h2 hi hf
    obtain ⟨f, rfl⟩ := succ_of hf
    have h : decide ((i : Int) < (L.length : Int)) = false := by simp only [decide_eq_false_iff_not]; omega
    have hd : L.drop i = [] := List.drop_eq_nil_of_le (by omega)
    simp only [f15_0d, f15_0b, h, cond_false, hd, allS]
  | succ d ih =>
    intro i f c n l bs cs hO hb1 hb2 hi hf
    obtain ⟨f, rfl⟩ := succ_of (show 0 < f by omega)
    have h1 : decide ((i : Int) < (L.length : Int)) = true := by simp only [decide_eq_true_eq]; omega
    have h2 : decide ((0 : Int) ≤ (i : Int)) = true := by simp only [decide_eq_true_eq]; omega
    have hlt : i < L.length := by omega
    have hw : IntKind.i64.wrap ((i : Int) + 1) = ((i + 1 : Nat) : Int) := by rw [wi (by omega) (by omega)]; rfl
    have hd : L.drop i = L[i] :: L.drop (i + 1) := List.drop_eq_getElem_cons hlt
    have hbi := hB L[i] (List.getElem_mem hlt)
    simp only [f15_0d, f15_0b, h1, h2, Bool.and_self, cond_true, Int.toNat_natCast, getD_in hlt, hw]
    rw [f41_eq c n l L[i] hO.len hO.lo hO.hi hbi (by omega)]
    have hc8 : ∀ z : Int, decide (cs.length + ([z] : List Int).length ≤ LIM 8) = true := fun z => by rw [decide_eq_true_eq, show LIM 8 = 17592186044416 by decide, List.length_singleton]; omega
    have hb24 : ∀ z : List Int, decide (bs.length + ([z] : List (List Int)).length ≤ LIM 24) = true := fun z => by rw [decide_eq_true_eq, show LIM 24 = 5864062014805 by decide, List.length_singleton]; omega
    simp only [Opened.on, f15_1000014_def, f15_1000014d, hc8, hb24, cond_true, hd, allS]
    by_cases ho : (openF c n l L[i]).code = 0
    · have e : ((openF c n l L[i]).code == 0) = true := by simp [ho]
      simp only [e, cond_true, if_pos ho]
      exact ih (i + 1) f _ _ _ _ _ (openF_ok hO ho).2 (by simp; omega) (by simp; omega) (by omega) (by omega)
    · have e : ((openF c n l L[i]).code == 0) = false := by simp [ho]
      simp only [e, cond_false, if_neg ho]
      exact ih (i + 1) f _ _ _ _ _ hO (by omega) (by simp; omega) (by omega) (by omega)
structure All6 where
  key : Int
  least : Int
  code : Int
  taken : List Int
  bodies : List (List Int)
  codes : List Int
noncomputable def allF (c n : Int) (l : List Int) (L : List (List Int)) : All6 :=
  if keysF c n l ≠ 0 then ⟨0, 0, keysF c n l, [], [], []⟩ else if 2000 < L.length then ⟨0, 0, 2, [], [], []⟩
  else ⟨(allS c n l [] [] L).key, (allS c n l [] [] L).least, 0, (allS c n l [] [] L).taken, (allS c n l [] [] L).bodies, (allS c n l [] [] L).codes⟩
theorem f15_eq {k : Nat} (hk : 3000 < k) (c n : Int) (l : List Int) (L : List (List Int)) (hB : ∀ b ∈ L, B b) (hL : L.length < 2 ^ 60) (K : Int → Int → Int → List Int → List (List Int) → List Int → Option R) :
    f15 k c n l L K = (fun s : All6 => K s.key s.least s.code s.taken s.bodies s.codes) (allF c n l L) := by
  obtain ⟨j, rfl⟩ := succ_of (show 0 < k by omega)
  rw [f15_def]
  simp only [f15d]
  rw [f39_eq (by omega)]
  by_cases hK : keysF c n l = 0
  · obtain ⟨_, hO⟩ := (keysF_iff c n l).1 hK
    have h64 := hO.len
    simp only [hK, bne_self_eq_false, cond_false, allF, ne_eq, not_true_eq_false, if_false]
    by_cases h2 : 2000 < L.length
    · have e : decide ((L.length : Int) > 2000) = true := by rw [decide_eq_true_eq]; omega
      simp only [e, cond_true, if_pos h2]
    · have e : decide ((L.length : Int) > 2000) = false := by rw [decide_eq_false_iff_not]; omega
      simp only [e, cond_false, if_neg h2]
      rw [f40_eq (by omega) l (by omega), f15_0_def]
      exact f15_loop j (by omega) (fun y0 y1 y2 y5 y6 => K y0 y1 0 y2 y5 y6) L 0 0 (by omega) hB L.length 0 j c n l [] [] hO (by simp) (by simp) (by omega) (by omega)
  · have e : (keysF c n l != 0) = true := by simp [hK]
    simp only [e, cond_true, allF, ne_eq, hK, not_false_eq_true, if_true]
/-! counters that are signed one after another -/
def body2 (v : Int) : List Int := [1, IntKind.u8.wrap v]
def sg (c v : Int) : List Int := signB c v (body2 v)
theorem body2_B (v : Int) : B (body2 v) := fun x hx => by
  simp only [body2, List.mem_cons, List.not_mem_nil, or_false] at hx
  rcases hx with rfl | rfl
  · omega
  · rw [wrap_u8_eq]; omega
def ownF (c n : Int) : List Int → List Int
  | [] => []
  | x :: l => if signErr c (n + x % 128) (body2 (n + x % 128)) = 0 then (n + x % 128) :: ownF c n l else ownF c n l
theorem ownF_ok (c n : Int) : ∀ (l : List Int), ∀ v ∈ ownF c n l, signErr c v (body2 v) = 0
  | [], v, h => by cases h
  | x :: l, v, h => by
    simp only [ownF] at h
    split at h
    · rename_i h1
      rcases List.mem_cons.1 h with rfl | h
      · exact h1
      · exact ownF_ok c n l v h
    · exact ownF_ok c n l v h
theorem ownF_len (c n : Int) : ∀ (l : List Int), (ownF c n l).length ≤ l.length
  | [] => Nat.le_refl _
  | x :: l => by
    have := ownF_len c n l
    simp only [ownF]
    split <;> simp only [List.length_cons] <;> omega
/-! what becomes of them -/
noncomputable def walkC (c : Int) : Int → List Int → List Int → List Int
  | _, _, [] => []
  | n, l, v :: r => if (openF c n l (sg c v)).code = 0 then 0 :: walkC c (openF c n l (sg c v)).least (openF c n l (sg c v)).taken r else (openF c n l (sg c v)).code :: walkC c n l r
theorem walkC_len (c : Int) : ∀ (r : List Int) (n : Int) (l : List Int), (walkC c n l r).length = r.length
  | [], _, _ => rfl
  | v :: r, n, l => by simp only [walkC]; split <;> simp [walkC_len c r]
theorem allS_walk (c : Int) : ∀ (r : List Int) (n : Int) (l : List Int) (bs : List (List Int)) (cs : List Int), KeysOk n l →
    (allS c n l bs cs (r.map (sg c))).codes = cs ++ walkC c n l r ∧ (allS c n l bs cs (r.map (sg c))).bodies.length = bs.length + (walkC c n l r).count 0
  | [], n, l, bs, cs, h => by simp [allS, walkC]
  | v :: r, n, l, bs, cs, h => by
    simp only [List.map_cons, allS, walkC]
    by_cases ho : (openF c n l (sg c v)).code = 0
    · obtain ⟨h1, h2⟩ := openF_ok h ho
      simp only [if_pos ho, h1]
      obtain ⟨g1, g2⟩ := allS_walk c r _ _ (bs ++ [(openF c n l (sg c v)).body]) (cs ++ [(openF c n l (sg c v)).code]) h2
      rw [g1, g2, ho]
      refine ⟨by simp, ?_⟩
      rw [List.length_append, List.length_singleton, List.count_cons]
      simp
      omega
    · simp only [if_neg ho]
      obtain ⟨g1, g2⟩ := allS_walk c r n l bs (cs ++ [(openF c n l (sg c v)).code]) h
      rw [g1, g2]
      refine ⟨by simp, ?_⟩
      rw [List.count_cons]
      have e : ((openF c n l (sg c v)).code == 0) = false := by simp [ho]
      simp [e]
/-- The walk over what came: those that are opened so far; none if one is opened that was. -/
def chkF (S : List Int) : List Int → List Int → List Int → Option (List Int)
  | v :: vs, e :: es, op => if e = 0 then (if op.contains v then none else if S.contains v then none else chkF S vs es (op ++ [v])) else chkF S vs es op
  | _, _, op => some op
theorem chkF_walk (c : Int) (S : List Int) : ∀ (r : List Int) (n : Int) (l op : List Int), KeysOk n l → (∀ v ∈ r, signErr c v (body2 v) = 0) → (∀ x, x ∈ op ∨ x ∈ S → x < n ∨ x ∈ l) →
    ∃ q, chkF S r (walkC c n l r) op = some q ∧ q.length = op.length + (walkC c n l r).count 0
  | [], n, l, op, h, hv, hs => ⟨op, by simp [chkF, walkC], by simp [walkC]⟩
  | v :: r, n, l, op, h, hv, hs => by
    have hS := hv v (List.mem_cons_self ..)
    obtain ⟨_, hv1, _⟩ := signErr_ok hS
    have ho := open_signed c n v l (body2 v) hS
    change openF c n l (sg c v) = _ at ho
    have hr : ∀ w ∈ r, signErr c w (body2 w) = 0 := fun w hw => hv w (List.mem_cons_of_mem _ hw)
    simp only [walkC]
    by_cases a1 : v < n
    · rw [if_pos a1] at ho
      rw [ho]
      obtain ⟨q, g1, g2⟩ := chkF_walk c S r n l op h hr hs
      refine ⟨q, ?_, ?_⟩
      · simpa [chkF, notOpen] using g1
      · simpa [notOpen, List.count_cons] using g2
    rw [if_neg a1] at ho
    cases a2 : l.contains v with
    | true =>
      rw [a2, if_pos rfl] at ho
      rw [ho]
      obtain ⟨q, g1, g2⟩ := chkF_walk c S r n l op h hr hs
      refine ⟨q, ?_, ?_⟩
      · simpa [chkF, notOpen] using g1
      · simpa [notOpen, List.count_cons] using g2
    | false =>
      rw [a2, if_neg (by simp)] at ho
      by_cases a3 : n + 64 < v
      · rw [if_pos a3] at ho
        rw [ho]
        obtain ⟨q, g1, g2⟩ := chkF_walk c S r n l op h hr hs
        refine ⟨q, ?_, ?_⟩
        · simpa [chkF, notOpen] using g1
        · simpa [notOpen, List.count_cons] using g2
      · rw [if_neg a3] at ho
        have hvl : v ∉ l := fun hm => by rw [(contains_iff l v).2 hm] at a2; cases a2
        obtain ⟨g1, g2⟩ := see_ok h hvl (by omega) (by omega) hv1.2
        rw [ho]
        have hnot : ∀ x, x ∈ op ∨ x ∈ S → x ≠ v := fun x hx e => by
          subst e
          rcases hs x hx with hx | hx
          · exact a1 hx
          · exact hvl hx
        have n1 : op.contains v = false := by
          rw [Bool.eq_false_iff]; intro h'; exact hnot v (.inl ((contains_iff _ _).1 h')) rfl
        have n2 : S.contains v = false := by
          rw [Bool.eq_false_iff]; intro h'; exact hnot v (.inr ((contains_iff _ _).1 h')) rfl
        obtain ⟨q, q1, q2⟩ := chkF_walk c S r _ _ (op ++ [v]) g1 hr (fun x hx => by
          refine g2 x ?_
          rcases hx with hx | hx
          · rw [List.mem_append] at hx
            rcases hx with hx | hx
            · rcases hs x (.inl hx) with h | h
              · exact .inl h
              · exact .inr (.inl h)
            · exact .inr (.inr (by simpa using hx))
          · rcases hs x (.inr hx) with h | h
            · exact .inl h
            · exact .inr (.inl h))
        refine ⟨q, ?_, ?_⟩
        · simp only [if_true, chkF, n1, n2, Bool.false_eq_true, if_false]
          exact q1
        · simp only [if_true, List.count_cons, q2, List.length_append, List.length_singleton, BEq.rfl]
          omega
end Go.Proofs.YtoepnomdklhhlaaGreat.PM.P5
/- Plain laws: the packages do what their chapters say of one simple thing. -/
set_option linter.unusedSimpArgs false
set_option linter.unusedVariables false
namespace Go.Proofs.YtoepnomdklhhlaaGreat.PM
open Go Go.Proofs.YtoepnomdklhhlaaGreat.Bt
variable {R : Type}
/-! store.Sum -/
def pSi : Nat → Int → Int → Option Int
  | 0, _, _ => none
  | d + 1, s, j => if j < 8 then pSi d (if s ≥ 32768 then bits .xor .i64 (Int.tmod (IntKind.i64.wrap (s * 2)) 65536) 4129 else Int.tmod (IntKind.i64.wrap (s * 2)) 65536) (IntKind.i64.wrap (j + 1)) else some s
def pS (l : List Int) : Nat → Int → Int → Option Int
  | 0, _, _ => none
  | d + 1, s, i => if i < (l.length : Int) then (if 0 ≤ i then match pSi 9 (bits .xor .i64 s (IntKind.i64.wrap ((IntKind.i64.wrap (l.getD (Int.toNat i) 0)) * 256))) 0 with
    | some s' => pS l d s' (IntKind.i64.wrap (i + 1))
    | none => none else none) else some s
theorem f75_in {k : Nat} {x2 : Int → Option R} {a : List Int} {b c : Int} : ∀ {d f : Nat} {s j r : Int}, pSi d s j = some r → d ≤ f → f75_2d k x2 a b c f s j = x2 r
  | 0, f, s, j, r, h, _ => by cases h
  | d + 1, 0, s, j, r, h, hf => by omega
  | d + 1, f + 1, s, j, r, h, hf => by
    simp only [pSi] at h
    simp only [f75_2d, f75_2b]
    by_cases q : j < 8
    · rw [if_pos q] at h
      have e : decide (j < 8) = true := by simpa using q
      rw [e, cond_true, f75_1000011_def]
      simp only [f75_1000011d]
      by_cases p : s ≥ 32768
      · rw [if_pos p] at h
        have e2 : decide (s ≥ 32768) = true := by simpa using p
        rw [e2, cond_true]
        exact f75_in h (by omega)
      · rw [if_neg p] at h
        have e2 : decide (s ≥ 32768) = false := by simpa using p
        rw [e2, cond_false]
        exact f75_in h (by omega)
    · rw [if_neg q] at h
      have e : decide (j < 8) = false := by simpa using q
      rw [e, cond_false]
      cases h; rfl
theorem f75_out {k : Nat} (hk : 9 ≤ k) {x0 : Int → Option R} {l : List Int} : ∀ {d f : Nat} {s i r : Int}, pS l d s i = some r → d ≤ f → f75_0d k x0 l (l.length : Int) f s i = x0 r
  | 0, f, s, j, r, h, _ => by cases h
  | d + 1, 0, s, j, r, h, hf => by omega
  | d + 1, f + 1, s, i, r, h, hf => by
    simp only [pS] at h
    simp only [f75_0d, f75_0b]
    by_cases q : i < (l.length : Int)
    · rw [if_pos q] at h
      have e : decide (i < (l.length : Int)) = true := by simpa using q
      by_cases p : 0 ≤ i
      · rw [if_pos p] at h
        have e2 : decide (0 ≤ i) = true := by simpa using p
        rw [e, e2]
        simp only [cond_true, Bool.and_self]
        split at h
        · rename_i s' hs
          rw [f75_2_def, f75_in hs hk]
          exact f75_out hk h (by omega)
        · cases h
      · rw [if_neg p] at h; cases h
    · rw [if_neg q] at h
      have e : decide (i < (l.length : Int)) = false := by simpa using q
      rw [e, cond_false]
      cases h; rfl
/-! packet.Sum -/
def pPi : Nat → Int → Int → Option Int
  | 0, _, _ => none
  | d + 1, s, j => if j < 8 then pPi d (if (bits .and .i64 (IntKind.i64.wrap (s * 2 ^ 1)) 65536 != 0) = true then bits .xor .i64 (IntKind.i64.wrap (s * 2 ^ 1)) 69665 else IntKind.i64.wrap (s * 2 ^ 1)) (IntKind.i64.wrap (j + 1)) else some s
def pP (l : List Int) : Nat → Int → Int → Option Int
  | 0, _, _ => none
  | d + 1, s, i => if i < (l.length : Int) then (if 0 ≤ i then match pPi 9 (bits .xor .i64 s (IntKind.i64.wrap ((IntKind.i64.wrap (l.getD (Int.toNat i) 0)) * 2 ^ 8))) 0 with
    | some s' => pP l d s' (IntKind.i64.wrap (i + 1))
    | none => none else none) else some s
theorem f38_in {k : Nat} {x2 : Int → Option R} {a : List Int} {b c : Int} : ∀ {d f : Nat} {s j r : Int}, pPi d s j = some r → d ≤ f → f38_2d k x2 a b c f s j = x2 r
  | 0, f, s, j, r, h, _ => by cases h
  | d + 1, 0, s, j, r, h, hf => by omega
  | d + 1, f + 1, s, j, r, h, hf => by
    simp only [pPi] at h
    simp only [f38_2d, f38_2b]
    by_cases q : j < 8
    · rw [if_pos q] at h
      have e : decide (j < 8) = true := by simpa using q
      rw [e, cond_true, f38_1000010_def]
      simp only [f38_1000010d]
      by_cases p : (bits .and .i64 (IntKind.i64.wrap (s * 2 ^ 1)) 65536 != 0) = true
      · rw [if_pos p] at h
        rw [p, cond_true]
        exact f38_in h (by omega)
      · rw [if_neg p] at h
        rw [Bool.not_eq_true] at p
        rw [p, cond_false]
        exact f38_in h (by omega)
    · rw [if_neg q] at h
      have e : decide (j < 8) = false := by simpa using q
      rw [e, cond_false]
      cases h; rfl
theorem f38_out {k : Nat} (hk : 9 ≤ k) {x0 : Int → Option R} {l : List Int} : ∀ {d f : Nat} {s i r : Int}, pP l d s i = some r → d ≤ f → f38_0d k x0 l (l.length : Int) f s i = x0 r
  | 0, f, s, j, r, h, _ => by cases h
  | d + 1, 0, s, j, r, h, hf => by omega
  | d + 1, f + 1, s, i, r, h, hf => by
    simp only [pP] at h
    simp only [f38_0d, f38_0b]
    by_cases q : i < (l.length : Int)
    · rw [if_pos q] at h
      have e : decide (i < (l.length : Int)) = true := by simpa using q
      by_cases p : 0 ≤ i
      · rw [if_pos p] at h
        have e2 : decide (0 ≤ i) = true := by simpa using p
        rw [e, e2]
        simp only [cond_true, Bool.and_self]
        split at h
        · rename_i s' hs
          rw [f38_2_def, f38_in hs hk]
          exact f38_out hk h (by omega)
        · cases h
      · rw [if_neg p] at h; cases h
    · rw [if_neg q] at h
      have e : decide (i < (l.length : Int)) = false := by simpa using q
      rw [e, cond_false]
      cases h; rfl
/-! memory.Coded -/
def ckV (a : Int) : Bool := bif ((bits .and .i64 a (IntKind.i64.wrap (a - 1)) == 0) == false) then (a == 22) else true
def btV (a : Int) : Int := IntKind.i64.wrap (1 * 2 ^ min (Int.toNat (IntKind.i64.wrap (a - 1))) 64)
theorem f71_eq {k : Nat} (hk : 0 < k) (a : Int) (K : Bool → Option R) : f71 k a K = K (ckV a) := by
  obtain ⟨k, rfl⟩ := succ_of hk
  rw [f71_def]
  simp only [f71d, ckV]
  cases ((bits .and .i64 a (IntKind.i64.wrap (a - 1)) == 0) == false) <;> rfl
theorem f72_eq {k : Nat} (hk : 0 < k) (a : Int) (ha : 0 ≤ IntKind.i64.wrap (a - 1)) (K : Int → Option R) : f72 k a K = K (btV a) := by
  obtain ⟨k, rfl⟩ := succ_of hk
  rw [f72_def]
  have e : decide (0 ≤ IntKind.i64.wrap (a - 1)) = true := by simpa using ha
  simp only [f72d, btV, e, cond_true]
def pM (w : Int) : Nat → Int → Int → Option Int
  | 0, _, _ => none
  | d + 1, n, i => if i < 22 then (if 0 ≤ IntKind.i64.wrap (i - 1) then pM w d (bif bits .and .i64 w (btV i) != 0 then bits .xor .i64 n i else n) (IntKind.i64.wrap (i + 1)) else none) else some n
theorem f73_loop {k : Nat} (hk : 0 < k) {x0 : Int → Option R} {w : Int} : ∀ {d f : Nat} {n i r : Int}, pM w d n i = some r → d ≤ f → f73_0d k x0 w f n i = x0 r
  | 0, f, n, i, r, h, _ => by cases h
  | d + 1, 0, n, i, r, h, hf => by omega
  | d + 1, f + 1, n, i, r, h, hf => by
    simp only [pM] at h
    simp only [f73_0d, f73_0b]
    by_cases q : i < 22
    · rw [if_pos q] at h
      have e : decide (i < 22) = true := by simpa using q
      by_cases p : 0 ≤ IntKind.i64.wrap (i - 1)
      · rw [if_pos p] at h
        rw [e, cond_true, f72_eq hk i p, f73_1000006_def]
        simp only [f73_1000006d]
        cases hb : (bits .and .i64 w (btV i) != 0) with
        | true => rw [hb, cond_true] at h; rw [cond_true]; exact f73_loop hk h (by omega)
        | false => rw [hb, cond_false] at h; rw [cond_false]; exact f73_loop hk h (by omega)
      · rw [if_neg p] at h; cases h
    · rw [if_neg q] at h
      have e : decide (i < 22) = false := by simpa using q
      rw [e, cond_false]
      cases h; rfl
def pC : Nat → Int → Int → Int → Option Int
  | 0, _, _, _ => none
  | d + 1, w, c, i => if i < 22 then (if 0 ≤ IntKind.i64.wrap (i - 1) then bif !(ckV i) then pC d (Int.fdiv w (2 ^ 1)) (bif bits .and .i64 w 1 != 0 then bits .or .i64 c (btV i) else c) (IntKind.i64.wrap (i + 1)) else pC d w c (IntKind.i64.wrap (i + 1)) else none) else some c
theorem f36_loop {k : Nat} (hk : 0 < k) {x0 : Int → Option R} : ∀ {d f : Nat} {w c i r : Int}, pC d w c i = some r → d ≤ f → f36_0d k x0 f w c i = x0 r
  | 0, f, w, c, i, r, h, _ => by cases h
  | d + 1, 0, w, c, i, r, h, hf => by omega
  | d + 1, f + 1, w, c, i, r, h, hf => by
    simp only [pC] at h
    simp only [f36_0d, f36_0b]
    by_cases q : i < 22
    · rw [if_pos q] at h
      have e : decide (i < 22) = true := by simpa using q
      by_cases p : 0 ≤ IntKind.i64.wrap (i - 1)
      · rw [if_pos p] at h
        rw [e, cond_true, f71_eq hk, f36_1000008_def]
        simp only [f36_1000008d, f36_1000009_def, f36_1000009d, f72_eq hk i p]
        cases hc : (!(ckV i)) with
        | true =>
          rw [hc, cond_true] at h
          rw [cond_true]
          cases hb : (bits .and .i64 w 1 != 0) with
          | true => rw [hb, cond_true] at h; rw [cond_true]; exact f36_loop hk h (by omega)
          | false => rw [hb, cond_false] at h; rw [cond_false]; exact f36_loop hk h (by omega)
        | false =>
          rw [hc, cond_false] at h
          rw [cond_false]; exact f36_loop hk h (by omega)
      · rw [if_neg p] at h; cases h
    · rw [if_neg q] at h
      have e : decide (i < 22) = false := by simpa using q
      rw [e, cond_false]
      cases h; rfl
def pD (m : Int) : Nat → Int → Int → Option Int
  | 0, _, _ => none
  | d + 1, c, i => if i < 22 then (if 0 ≤ IntKind.i64.wrap (i - 1) then pD m d (bif bits .and .i64 m i != 0 then bits .or .i64 c (btV i) else c) (IntKind.i64.wrap (i * 2)) else none) else some c
theorem f36_loop2 {k : Nat} (hk : 0 < k) {x2 : Int → Option R} {m : Int} : ∀ {d f : Nat} {c i r : Int}, pD m d c i = some r → d ≤ f → f36_2d k x2 m f c i = x2 r
  | 0, f, c, i, r, h, _ => by cases h
  | d + 1, 0, c, i, r, h, hf => by omega
  | d + 1, f + 1, c, i, r, h, hf => by
    simp only [pD] at h
    simp only [f36_2d, f36_2b]
    by_cases q : i < 22
    · rw [if_pos q] at h
      have e : decide (i < 22) = true := by simpa using q
      by_cases p : 0 ≤ IntKind.i64.wrap (i - 1)
      · rw [if_pos p] at h
        rw [e, cond_true, f36_1000016_def]
        simp only [f36_1000016d, f72_eq hk i p]
        cases hb : (bits .and .i64 m i != 0) with
        | true => rw [hb, cond_true] at h; rw [cond_true]; exact f36_loop2 hk h (by omega)
        | false => rw [hb, cond_false] at h; rw [cond_false]; exact f36_loop2 hk h (by omega)
      · rw [if_neg p] at h; cases h
    · rw [if_neg q] at h
      have e : decide (i < 22) = false := by simpa using q
      rw [e, cond_false]
      cases h; rfl
theorem f74_odd {k : Nat} (hk : 2 < k) (a : Int) (v : Int) (h : ∀ (k : Nat) (K : Int → Option R), f137d (k + 1) (IntKind.u64.wrap a) K = K v) (K : Bool → Option R) : f74 k a K = K (Int.tmod v 2 == 1) := by
  obtain ⟨k, rfl⟩ := succ_of (show 0 < k by omega)
  obtain ⟨k, rfl⟩ := succ_of (show 0 < k by omega)
  obtain ⟨k, rfl⟩ := succ_of (show 0 < k by omega)
  rw [f74_def]
  simp only [f74d]
  rw [f107_def]
  simp only [f107d]
  rw [f137_def]
  exact h _ _
def nine : List Int := [49, 50, 51, 52, 53, 54, 55, 56, 57]
theorem pS_nine : pS nine 10 65535 0 = some 10673 := by decide +kernel
theorem pP_nine : pP nine 10 65535 0 = some 10673 := by decide +kernel
theorem pC_one : pC 22 1 0 1 = some 4 := by decide +kernel
theorem pM_one : pM 4 22 0 1 = some 3 := by decide +kernel
theorem pD_one : pD 3 6 4 1 = some 7 := by decide +kernel
theorem f13_eq {k : Nat} (hk : 40 < k) (K : Bool → Option R) : f13 k K = K true := by
  obtain ⟨k, rfl⟩ := succ_of (show 0 < k by omega)
  obtain ⟨k, rfl⟩ := succ_of (show 0 < k by omega)
  obtain ⟨k, rfl⟩ := succ_of (show 0 < k by omega)
  have e12 : ∀ (K' : Int → Int → Option R), f37 (k + 1 + 1) nine K' = K' 10673 0 := fun K' => by
    rw [f37_def]
    simp only [f37d]
    have : decide ((nine.length : Int) > 262144) = false := by decide
    rw [this, cond_false, f75_def]
    simp only [f75d]
    rw [f75_0_def]
    exact f75_out (by omega) pS_nine (by omega)
  have e13 : ∀ (K' : Int → Option R), f38 (k + 1 + 1) nine K' = K' 10673 := fun K' => by
    rw [f38_def]
    simp only [f38d]
    rw [f38_0_def]
    exact f38_out (by omega) pP_nine (by omega)
  have e11 : ∀ (K' : Int → Int → Option R), f36 (k + 1 + 1) 1 K' = K' 2097159 0 := fun K' => by
    rw [f36_def]
    simp only [f36d]
    rw [f26_eq (by omega), f36_0_def, f36_2_def]
    have : inB 1 0 65535 = true := by decide
    rw [this]
    simp only [Bool.not_true, cond_false]
    rw [f36_loop (by omega) pC_one (by omega), f73_def]
    simp only [f73d]
    rw [f73_0_def, f73_loop (by omega) pM_one (by omega), f36_loop2 (by omega) pD_one (by omega)]
    rw [f74_odd (by omega) 7 3 (fun k K => by rfl)]
    have : (Int.tmod 3 2 == 1) = true := by decide
    rw [this, f36_1000018_def]
    simp only [f36_1000018d, cond_true]
    rw [f72_eq (by omega) 22 (by decide)]
    have : bits .or .i64 7 (btV 22) = 2097159 := by decide +kernel
    rw [this]
  rw [f13_def]
  simp only [f13d]
  rw [e11]
  have hl : decide (0 < ([49, 50, 51, 52, 53, 54, 55, 56, 57] : List Int).length) = true := by decide
  rw [hl]
  simp only [cond_true]
  refine (e12 _).trans ?_
  have h0 : ((0 : Int) == 0) = true := by decide
  have h1 : ((2097159 : Int) == 2097159) = true := by decide
  simp only [h0, h1, BEq.rfl, cond_true]
  refine (e13 _).trans ?_
  have h2 : ((10673 : Int) == 10673) = true := by decide
  rw [h2]
end Go.Proofs.YtoepnomdklhhlaaGreat.PM
/- Plain laws: signed commands are transferred, and opened once each. -/
set_option linter.unusedSimpArgs false
set_option linter.unusedVariables false
namespace Go.Proofs.YtoepnomdklhhlaaGreat.PM
open Go Go.Proofs.YtoepnomdklhhlaaGreat.Bt
variable {R : Type}
/-! opened once each -/
def msg (c : Int) (p : Int × List Int) : List Int := P5.signB c p.1 p.2
def Seen (n : Int) (l : List Int) (v : Int) : Prop := v < n ∨ v ∈ l
theorem pass1 (c : Int) : ∀ (r : List (Int × List Int)) (n : Int) (l : List Int) (bs : List (List Int)) (cs : List Int), P5.KeysOk n l → (∀ p ∈ r, P5.signErr c p.1 p.2 = 0 ∧ p.1 ≤ 39) →
    (P5.allS c n l bs cs (r.map (msg c))).key = c ∧ P5.KeysOk (P5.allS c n l bs cs (r.map (msg c))).least (P5.allS c n l bs cs (r.map (msg c))).taken ∧
    (∀ x, Seen n l x → Seen (P5.allS c n l bs cs (r.map (msg c))).least (P5.allS c n l bs cs (r.map (msg c))).taken x) ∧
    (∀ p ∈ r, Seen (P5.allS c n l bs cs (r.map (msg c))).least (P5.allS c n l bs cs (r.map (msg c))).taken p.1) ∧
    (P5.allS c n l bs cs (r.map (msg c))).codes.length = cs.length + r.length ∧ (P5.allS c n l bs cs (r.map (msg c))).bodies.length ≤ bs.length + r.length
  | [], n, l, bs, cs, h, _ => ⟨rfl, h, fun x q => q, fun p hp => (by cases hp), rfl, Nat.le_refl _⟩
  | p :: r, n, l, bs, cs, h, hp => by
    obtain ⟨e1, e2⟩ := hp p List.mem_cons_self
    have hop := P5.open_signed c n p.1 l p.2 e1
    have hr := fun q hq => hp q (List.mem_cons_of_mem _ hq)
    obtain ⟨_, v1, _⟩ := P5.signErr_ok e1
    have h0 := h.lo
    simp only [List.map_cons, P5.allS]
    by_cases ho : (P5.openF c n l (msg c p)).code = 0
    · simp only [if_pos ho]
      have ns : ¬ Seen n l p.1 := fun w => by
        have : (P5.openF c n l (msg c p)).code = 7 := by
          show (P5.openF c n l (P5.signB c p.1 p.2)).code = 7
          rw [hop]
          by_cases q : p.1 < n
          · rw [if_pos q]; rfl
          · rw [if_neg q, if_pos ((P5.contains_iff _ _).2 (w.resolve_left q))]; rfl
        rw [this] at ho; cases ho
      have q1 : ¬ p.1 < n := fun w => ns (.inl w)
      have q2 : p.1 ∉ l := fun w => ns (.inr w)
      have q3 : ¬ l.contains p.1 = true := fun w => q2 ((P5.contains_iff _ _).1 w)
      obtain ⟨s1, s2⟩ := P5.see_ok h q2 (by omega) (by omega) v1.2
      have eo : P5.openF c n l (msg c p) = ⟨c, (P5.runF n (sortI (l ++ [p.1]))).1, p.1, 0, (P5.runF n (sortI (l ++ [p.1]))).2, p.2⟩ := by
        show P5.openF c n l (P5.signB c p.1 p.2) = _
        rw [hop, if_neg q1, if_neg q3, if_neg (by omega)]
      rw [eo]
      obtain ⟨i1, i2, i3, i4, i5, i6⟩ := pass1 c r _ _ (bs ++ [p.2]) (cs ++ [0]) s1 hr
      refine ⟨i1, i2, fun x w => i3 x (s2 x (by rcases w with w | w; exact .inl w; exact .inr (.inl w))), fun q hq => ?_, by rw [i5]; simp; omega, by simp at i6 ⊢; omega⟩
      rcases List.mem_cons.1 hq with rfl | hq
      · exact i3 _ (s2 _ (.inr (.inr rfl)))
      · exact i4 q hq
    · simp only [if_neg ho]
      have ns : Seen n l p.1 := Classical.not_not.1 fun w => ho (by
        show (P5.openF c n l (P5.signB c p.1 p.2)).code = 0
        rw [hop, if_neg (fun q => w (.inl q)), if_neg (fun q => w (.inr ((P5.contains_iff _ _).1 q))), if_neg (by omega)])
      obtain ⟨i1, i2, i3, i4, i5, i6⟩ := pass1 c r n l bs (cs ++ [(P5.openF c n l (msg c p)).code]) h hr
      refine ⟨i1, i2, i3, fun q hq => ?_, by rw [i5]; simp; omega, by simp at i6 ⊢; omega⟩
      rcases List.mem_cons.1 hq with rfl | hq
      · exact i3 _ ns
      · exact i4 q hq
theorem pass2 (c : Int) : ∀ (r : List (Int × List Int)) (n : Int) (l : List Int) (bs : List (List Int)) (cs : List Int), (∀ p ∈ r, P5.signErr c p.1 p.2 = 0 ∧ Seen n l p.1) →
    (P5.allS c n l bs cs (r.map (msg c))).least = n ∧ (P5.allS c n l bs cs (r.map (msg c))).bodies = bs
  | [], n, l, bs, cs, _ => ⟨rfl, rfl⟩
  | p :: r, n, l, bs, cs, hp => by
    obtain ⟨e1, e2⟩ := hp p List.mem_cons_self
    have hop := P5.open_signed c n p.1 l p.2 e1
    have ho : ¬ (P5.openF c n l (msg c p)).code = 0 := fun ho => by
      have : (P5.openF c n l (msg c p)).code = 7 := by
        show (P5.openF c n l (P5.signB c p.1 p.2)).code = 7
        rw [hop]
        by_cases q : p.1 < n
        · rw [if_pos q]; rfl
        · rw [if_neg q, if_pos ((P5.contains_iff _ _).2 (e2.resolve_left q))]; rfl
      rw [this] at ho; cases ho
    simp only [List.map_cons, P5.allS, if_neg ho]
    exact pass2 c r n l bs _ fun q hq => hp q (List.mem_cons_of_mem _ hq)
/-! the file -/
theorem f11_eq {k : Nat} (hk : 0 < k) (a m : Int) (hm : 0 < m) (hm2 : m ≤ 2000000000000000) (ha : -9223372036854775808 ≤ a ∧ a < 9223372036854775808) (K : Int → Option R) : f11 k a m K = K (a % m) := by
  obtain ⟨j, rfl⟩ := succ_of hk
  rw [f11_def]
  have h : (!(m == 0)) = true := by simp; omega
  have ht : Int.tmod a m = a % m - ((if 0 ≤ a ∨ m ∣ a then 0 else m.natAbs : Nat) : Int) := Int.tmod_eq_emod
  have hr := Int.emod_nonneg a (show m ≠ 0 by omega)
  have hr2 := Int.emod_lt_of_pos a hm
  simp only [f11d, h, cond_true, f11_1000003_def, f11_1000003d]
  by_cases hn : Int.tmod a m < 0
  · have e : decide (Int.tmod a m < 0) = true := decide_eq_true hn
    have hw : IntKind.i64.wrap (Int.tmod a m + m) = a % m := by
      split at ht
      · omega
      · rw [wi (by omega) (by omega)]; omega
    simp only [e, cond_true, hw]
  · have e : decide (Int.tmod a m < 0) = false := decide_eq_false hn
    have hw : Int.tmod a m = a % m := by split at ht <;> omega
    simp only [e, cond_false]
    rw [hw]
def item (a : List Int) (i : Nat) : Int × List Int := (a.getD i 0 % 40, [1, (i : Int)])
def items (a : List Int) (m : Nat) : List (Int × List Int) := (List.range m).map (item a)
theorem item_ok {c : Int} (hc : 0 ≤ c ∧ c ≤ 1000000000000000) (a : List Int) (i : Nat) : P5.signErr c (item a i).1 (item a i).2 = 0 ∧ (item a i).1 ≤ 39 := by
  have h1 := Int.emod_nonneg (a.getD i 0) (show (40 : Int) ≠ 0 by decide)
  have h2 := Int.emod_lt_of_pos (a.getD i 0) (show (0 : Int) < 40 by decide)
  refine ⟨?_, by show a.getD i 0 % 40 ≤ 39; omega⟩
  have e1 : P5.inB c 0 1000000000000000 = true := P5.inB_iff.2 hc
  have e2 : P5.inB (a.getD i 0 % 40) 0 1000000000 = true := P5.inB_iff.2 ⟨h1, by omega⟩
  unfold P5.signErr item
  rw [e1, e2]
  rfl
theorem file_succ (c : Int) (a : List Int) (i : Nat) : ((items a (i + 1)).map (msg c)).flatten = ((items a i).map (msg c)).flatten ++ P5.signB c (a.getD i 0 % 40) [1, (i : Int)] := by
  unfold items
  rw [List.range_succ, List.map_append, List.map_append, List.flatten_append]
  simp [msg, item]
theorem msg_len (c : Int) (a : List Int) (i : Nat) : (msg c (item a i)).length = 18 := P5.signB_len c _ _
theorem file_len (c : Int) (a : List Int) : ∀ m, ((items a m).map (msg c)).flatten.length = 18 * m
  | 0 => rfl
  | m + 1 => by
    rw [file_succ, List.length_append, file_len c a m, P5.signB_len]
    simp; omega
theorem f4_loop (k : Nat) (hk : 400 < k) (x0 : Int → List Int → Option R) (c : Int) (hc : 0 ≤ c ∧ c ≤ 1000000000000000) (l1 l2 : List Bool) (a : List Int) (g7 g8 g9 g10 g11 : Int) (ha : a.length < 4611686018427387904) (hv : ∀ v ∈ a, -9223372036854775808 ≤ v ∧ v < 9223372036854775808) : ∀ (d i f : Nat), i + d = min 20 a.length → d < f →
    f4_0d k x0 c l1 l2 a (a.length : Int) g7 g8 g9 g10 g11 f (i : Int) (i : Int) ((items a i).map (msg c)).flatten = x0 ((min 20 a.length : Nat) : Int) ((items a (min 20 a.length)).map (msg c)).flatten
  | d, i, 0, _, h => by omega
  | 0, i, f + 1, h, hf => by
    have hi : i = min 20 a.length := by omega
    subst hi
    by_cases q : a.length ≤ 20
    · have e : decide (((min 20 a.length : Nat) : Int) < (a.length : Int)) = false := by rw [decide_eq_false_iff_not]; omega
      simp only [f4_0d, f4_0b, e, cond_false]
    · have e : decide (((min 20 a.length : Nat) : Int) < (a.length : Int)) = true := by rw [decide_eq_true_eq]; omega
      have e0 : decide ((0 : Int) ≤ ((min 20 a.length : Nat) : Int)) = true := by rw [decide_eq_true_eq]; omega
      have e2 : decide (((min 20 a.length : Nat) : Int) ≥ 20) = true := by rw [decide_eq_true_eq]; omega
      simp only [f4_0d, f4_0b, e, e0, e2, Bool.and_self, cond_true]
  | d + 1, i, f + 1, h, hf => by
    have hlt : i < a.length := by omega
    have e : decide ((i : Int) < (a.length : Int)) = true := by rw [decide_eq_true_eq]; omega
    have e0 : decide ((0 : Int) ≤ (i : Int)) = true := by rw [decide_eq_true_eq]; omega
    have e2 : decide ((i : Int) ≥ 20) = false := by rw [decide_eq_false_iff_not]; omega
    have w : IntKind.i64.wrap ((i : Int) + 1) = ((i + 1 : Nat) : Int) := by rw [wi (by omega) (by omega)]; rfl
    have wu : IntKind.u8.wrap (i : Int) = (i : Int) := by
      simp only [IntKind.wrap, IntKind.bits, IntKind.signed]
      simp
      omega
    have hg : a[i] = a.getD i 0 := (getD_in hlt).symm
    have hs := (item_ok hc a i).1
    have hs' : P5.signErr c (a.getD i 0 % 40) [1, (i : Int)] = 0 := hs
    simp only [f4_0d, f4_0b, e, e0, e2, Bool.and_self, cond_true, cond_false, Int.toNat_natCast, w, wu]
    rw [f11_eq (by omega) _ 40 (by decide) (by decide) (by rw [← hg]; exact hv _ (List.getElem_mem hlt)), P5.f12_eq (by omega)]
    have hF : P5.signF c (a.getD i 0 % 40) [1, (i : Int)] = (0, P5.signB c (a.getD i 0 % 40) [1, (i : Int)]) := if_pos hs'
    rw [hF]
    have hl := file_len c a i
    have hb := P5.signB_len c (a.getD i 0 % 40) [1, (i : Int)]
    have h1 : decide (((items a i).map (msg c)).flatten.length + (P5.signB c (a.getD i 0 % 40) [1, (i : Int)]).length ≤ LIM 1) = true := by
      rw [decide_eq_true_eq, hl, hb, show LIM 1 = 140737488355328 by decide]; simp; omega
    simp only [f4_1000010_def, f4_1000010d, BEq.rfl, cond_true, h1, w]
    rw [← file_succ]
    exact f4_loop k hk x0 c hc l1 l2 a g7 g8 g9 g10 g11 ha hv d (i + 1) f (by omega) (by omega)
theorem piece (c : Int) (a : List Int) : ∀ (m i : Nat), i < m → ((((items a m).map (msg c)).flatten.take (18 * i + 18)).drop (18 * i)) = msg c (item a i)
  | 0, i, h => by omega
  | m + 1, i, h => by
    have hl := file_len c a m
    rw [file_succ]
    by_cases q : i < m
    · rw [List.take_append_of_le_length (by omega)]
      exact piece c a m i q
    · have : i = m := by omega
      subst this
      have hb := P5.signB_len c (a.getD i 0 % 40) [1, (i : Int)]
      rw [List.take_of_length_le (by simp only [List.length_append, hl, hb]; simp), ← hl, List.drop_left]
      rfl
theorem f4_split (k : Nat) (x2 : List (List Int) → Option R) (c : Int) (a : List Int) (m : Nat) (hm : m ≤ 20) (c0 c1 c3 c4 : Int) (c5 : ByteArray) (c7 : List Rg) (c8 c9 c10 c11 : Int) : ∀ (d i f : Nat), i + d = m → d < f →
    f4_2d k x2 c0 c1 c3 c4 c5 ((items a m).map (msg c)).flatten c7 c8 c9 c10 c11 f ((18 * i : Nat) : Int) ((items a i).map (msg c)) = x2 ((items a m).map (msg c))
  | d, i, 0, _, h => by omega
  | 0, i, f + 1, h, hf => by
    have hl := file_len c a m
    have hi : i = m := by omega
    subst hi
    have e : decide (((18 * i : Nat) : Int) < (((items a i).map (msg c)).flatten.length : Int)) = false := by rw [decide_eq_false_iff_not, hl]; omega
    simp only [f4_2d, f4_2b, e, cond_false]
  | d + 1, i, f + 1, h, hf => by
    have hl := file_len c a m
    have e : decide (((18 * i : Nat) : Int) < (((items a m).map (msg c)).flatten.length : Int)) = true := by rw [decide_eq_true_eq, hl]; omega
    have w : IntKind.i64.wrap (((18 * i : Nat) : Int) + 18) = ((18 * i + 18 : Nat) : Int) := by rw [wi (by omega) (by omega)]; rfl
    have e1 : (decide ((0 : Int) ≤ ((18 * i : Nat) : Int)) && (decide (((18 * i : Nat) : Int) ≤ ((18 * i + 18 : Nat) : Int)) && decide (((18 * i + 18 : Nat) : Int) ≤ (((items a m).map (msg c)).flatten.length : Int)))) = true := by
      rw [decide_eq_true (show (0 : Int) ≤ ((18 * i : Nat) : Int) by omega), decide_eq_true (show ((18 * i : Nat) : Int) ≤ ((18 * i + 18 : Nat) : Int) by omega), decide_eq_true (show ((18 * i + 18 : Nat) : Int) ≤ (((items a m).map (msg c)).flatten.length : Int) by rw [hl]; omega)]
      rfl
    have e2 : decide (((items a i).map (msg c)).length + 1 ≤ LIM 24) = true := by
      rw [decide_eq_true_eq, show LIM 24 = 5864062014805 by decide]; unfold items; simp; omega
    have hs : (items a i).map (msg c) ++ [msg c (item a i)] = (items a (i + 1)).map (msg c) := by
      unfold items; rw [List.range_succ]; simp
    simp only [f4_2d, f4_2b, e, w, e1, cond_true, List.length_cons, List.length_nil, Nat.zero_add, e2, Int.toNat_natCast]
    rw [piece c a m i (by omega), hs]
    exact f4_split k x2 c a m hm c0 c1 c3 c4 c5 c7 c8 c9 c10 c11 d (i + 1) f (by omega) (by omega)
theorem f14_loop (k : Nat) (K : Bool → Option R) (x0 : Option R) (l : List Int) (hl : l.length < 4611686018427387904) : ∀ (d f i : Nat), i + d = l.length → d < f →
    f14_0d k K x0 l l (l.length : Int) f (i : Int) = x0
  | d, 0, i, _, h => absurd h (Nat.not_lt_zero _)
  | 0, f + 1, i, hi, _ => by
    have h1 : decide ((i : Int) < (l.length : Int)) = false := by simp only [decide_eq_false_iff_not]; omega
    simp only [f14_0d, f14_0b, h1, cond_false]
  | d + 1, f + 1, i, hi, hf => by
    have h1 : decide ((i : Int) < (l.length : Int)) = true := by simp only [decide_eq_true_eq]; omega
    have h0 : decide ((0 : Int) ≤ (i : Int)) = true := by simp
    have hw : IntKind.i64.wrap ((i : Int) + 1) = ((i + 1 : Nat) : Int) := by rw [wi (by omega) (by omega)]; omega
    simp only [f14_0d, f14_0b, h1, h0, cond_true, Bool.and_self, hw, bne_self_eq_false, cond_false]
    exact f14_loop k K x0 l hl d f (i + 1) (by omega) (by omega)
theorem f14_refl {k : Nat} {l : List Int} (hk : l.length + 1 < k) (hl : l.length < 4611686018427387904) (K : Bool → Option R) : f14 k l l K = K true := by
  rw [f14_def]
  obtain ⟨k, rfl⟩ := succ_of hk
  have : ((l.length : Int) != (l.length : Int)) = false := by rw [bne_dec]; simp
  simp only [f14d, f14_0_def, this, cond_false]
  exact f14_loop k K _ l hl l.length k 0 (by omega) (by omega)
end Go.Proofs.YtoepnomdklhhlaaGreat.PM
/- Plain laws: signed commands are transferred, and opened once each: the whole. -/
set_option linter.unusedSimpArgs false
set_option linter.unusedVariables false
namespace Go.Proofs.YtoepnomdklhhlaaGreat.PM
open Go Go.Proofs.YtoepnomdklhhlaaGreat.Bt
variable {R : Type}
theorem items_mem {c : Int} (hc : 0 ≤ c ∧ c ≤ 1000000000000000) {a : List Int} {m : Nat} : ∀ p ∈ items a m, P5.signErr c p.1 p.2 = 0 ∧ p.1 ≤ 39 := fun p hp => by
  obtain ⟨i, _, rfl⟩ := List.mem_map.1 hp
  exact item_ok hc a i
theorem msg_B {c : Int} {a : List Int} {m : Nat} (hm : m ≤ 20) : ∀ b ∈ (items a m).map (msg c), P5.B b := fun b hb => by
  obtain ⟨p, hp, rfl⟩ := List.mem_map.1 hb
  obtain ⟨i, hi, rfl⟩ := List.mem_map.1 hp
  have := List.mem_range.1 hi
  refine P5.signB_B c _ fun x hx => ?_
  simp only [item, List.mem_cons, List.not_mem_nil, or_false] at hx
  rcases hx with rfl | rfl <;> omega
theorem k00 : P5.KeysOk 0 [] := ⟨by decide, by decide, by decide, .nil, fun x h => (by cases h)⟩
theorem allF_ok {c n : Int} {l : List Int} {L : List (List Int)} (hc : 0 ≤ c ∧ c ≤ 1000000000000000) (h : P5.KeysOk n l) (hL : L.length ≤ 2000) :
    P5.allF c n l L = ⟨(P5.allS c n l [] [] L).key, (P5.allS c n l [] [] L).least, 0, (P5.allS c n l [] [] L).taken, (P5.allS c n l [] [] L).bodies, (P5.allS c n l [] [] L).codes⟩ := by
  have e : P5.keysF c n l = 0 := (P5.keysF_iff c n l).2 ⟨hc, h⟩
  unfold P5.allF
  rw [if_neg (by simp [e]), if_neg (by omega)]
theorem f4_eq {k : Nat} (a b c d e key : Int) (cnt : List Int) (l1 l2 : List Bool) (hk : 1500000 < k) (hl : (cnt.length : Int) ≤ 140737488355328) (hkey : -9223372036854775808 ≤ key ∧ key < 9223372036854775808)
    (hv : ∀ v ∈ cnt, -9223372036854775808 ≤ v ∧ v < 9223372036854775808) (K : Bool → Option R) : f4 k a b c d e key cnt l1 l2 K = K true := by
  obtain ⟨j, rfl⟩ := succ_of (show 0 < k by omega)
  rw [f4_def]
  simp only [f4d]
  rw [f11_eq (by omega) key 1000000000000001 (by decide) (by decide) hkey]
  have hc : 0 ≤ key % 1000000000000001 ∧ key % 1000000000000001 ≤ 1000000000000000 := by omega
  generalize key % 1000000000000001 = g at hc
  rw [f4_0_def]
  refine (f4_loop j (by omega) _ g hc l1 l2 cnt a b c d e (by omega) hv (min 20 cnt.length) 0 j (by omega) (by omega)).trans ?_
  have hm : min 20 cnt.length ≤ 20 := by omega
  generalize min 20 cnt.length = m at hm
  try dsimp only
  have hF := file_len g cnt m
  have hB := msg_B (c := g) (a := cnt) hm
  have hU : U8 ((items cnt m).map (msg g)).flatten := fun x hx => by
    obtain ⟨l, h1, h2⟩ := List.mem_flatten.1 hx
    have := hB l h1 x h2; exact ⟨this.1, by omega⟩
  have hL : ((items cnt m).map (msg g)).length = m := by simp [items]
  have hsp := fun x2 : List (List Int) → Option R => f4_split j x2 g cnt m hm
  generalize hF0 : ((items cnt m).map (msg g)).flatten = F at hF hU hsp ⊢
  rw [f8_eq a b c d e 3 ⟨#[99, 111, 109, 109, 97, 110, 100, 115]⟩ F l1 l2 3000 (by show 1400000 + 8 < j; omega) (by show 8 < _; decide) hU]
  have main : (playF a b c d e 3 ⟨#[99, 111, 109, 109, 97, 110, 100, 115]⟩ F l1 l2 3000).1 = 0 → GB F ⟨#[99, 111, 109, 109, 97, 110, 100, 115]⟩ 3 (playF a b c d e 3 ⟨#[99, 111, 109, 109, 97, 110, 100, 115]⟩ F l1 l2 3000).2 ∧ InvB (playF a b c d e 3 ⟨#[99, 111, 109, 109, 97, 110, 100, 115]⟩ F l1 l2 3000).2 := fun h => by
    unfold playF at h ⊢
    by_cases h1 : chkFig a b c d e = 0
    · rw [if_neg (by simp [h1])] at h ⊢
      by_cases h2 : chkFile 3 ⟨#[99, 111, 109, 109, 97, 110, 100, 115]⟩ F.length = 0
      · rw [if_neg (by simp [h2])] at h ⊢
        by_cases h3 : 20000 < l1.length ∨ 20000 < l2.length
        · rw [if_pos h3] at h; cases h
        · rw [if_neg h3] at h ⊢
          by_cases h4 : inB 3000 0 1000000 = false
          · rw [if_pos h4] at h; cases h
          · rw [if_neg h4] at h ⊢
            obtain ⟨r1, r2, r3⟩ := playB_gb (F := F) (N := ⟨#[99, 111, 109, 109, 97, 110, 100, 115]⟩) (I := 3) (3000 : Int).toNat 0 (startB a b c d e 3 ⟨#[99, 111, 109, 109, 97, 110, 100, 115]⟩ F l1 l2) (Int.le_refl 0) (start_inv h1 h2 hU) start_gb (fun e => by cases e) h
            exact ⟨r2, r1⟩
      · rw [if_pos h2] at h; exact absurd h h2
    · rw [if_pos h1] at h; exact absurd h h1
  generalize playF a b c d e 3 ⟨#[99, 111, 109, 109, 97, 110, 100, 115]⟩ F l1 l2 3000 = q at *
  unfold outQ
  by_cases h : q.1 = 0
  · obtain ⟨gb, hi⟩ := main h
    rw [bne0 h, cond_false]
    by_cases s3 : q.2.s.st = 3
    · have r3 := gb.s3 s3
      obtain ⟨d1, d2⟩ := gb.gr.done hi.rf r3
      have hne : (q.2.s.st != 3) = false := by simp [s3]
      have hne2 : (q.2.r.st != 3) = false := by simp [r3]
      simp only [hne, hne2, bne_self_eq_false, BEq.rfl, cond_true, cond_false, d1]
      rw [f14_refl (by omega) (by omega)]
      simp only [Bool.not_true, BEq.rfl, cond_true, f4_2_def]
      refine (hsp _ _ _ _ _ _ _ _ _ _ _ m 0 j (by omega) (by omega)).trans ?_
      try dsimp only
      rw [P5.f15_eq (by omega) g 0 [] _ hB (by omega), allF_ok hc k00 (by omega)]
      obtain ⟨p1, p2, p3, p4, p5, p6⟩ := pass1 g (items cnt m) 0 [] [] [] k00 (items_mem hc)
      have hlen : (items cnt m).length = m := by simp [items]
      try dsimp only
      generalize P5.allS g 0 [] [] [] ((items cnt m).map (msg g)) = S at *
      rw [P5.f15_eq (by omega) _ _ _ _ hB (by omega), p1, allF_ok hc p2 (by omega)]
      obtain ⟨w1, w2⟩ := pass2 g (items cnt m) S.least S.taken [] [] (fun p hp => ⟨(items_mem hc p hp).1, p4 p hp⟩)
      try dsimp only
      rw [w1, w2]
      have e1 : ((S.codes.length : Int) != (m : Int)) = false := by rw [bne_dec]; simp at p5; simp; omega
      have e2 : decide ((S.bodies.length : Int) ≤ (m : Int)) = true := by rw [decide_eq_true_eq]; simp at p6; omega
      simp only [e1, e2, bne_self_eq_false, BEq.rfl, beq_self_eq_true, cond_true, cond_false, List.length_nil, Int.ofNat_zero]
      exact f13_eq (by omega) K
    · have hne : (q.2.s.st != 3) = true := by simpa using s3
      have hen : decide (q.2.en < 0) = true := by
        rw [decide_eq_true_eq]
        exact Int.not_le.1 fun w => s3 (gb.en1 w)
      have e3 : (([q.2.n1, q.2.n2, q.2.en].length : Int) == 3) = true := rfl
      have e4 : decide ((2 : Int) < ([q.2.n1, q.2.n2, q.2.en].length : Int)) = true := rfl
      have e5 : [q.2.n1, q.2.n2, q.2.en].getD 2 0 = q.2.en := rfl
      simp only [hne, e3, e4, e5, hen, bne_self_eq_false, BEq.rfl, cond_true]
      exact f13_eq (by omega) K
  · rw [bne1 h, cond_true]
    unfold flt
    have hne : (q.1 != 0) = true := bne1 h
    simp only [hne, Bool.true_beq, Bool.not_true, cond_false]
    exact f13_eq (by omega) K
end Go.Proofs.YtoepnomdklhhlaaGreat.PM
