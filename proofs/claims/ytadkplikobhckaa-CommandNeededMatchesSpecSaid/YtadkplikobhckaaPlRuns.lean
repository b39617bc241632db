/- Plain laws of commands: both sides of the line, beat by beat. -/
import Derived.Test.YtadkplikobhckaaPlGrounds
import Derived.Test.YtadkplikobhckaaPlOnce
set_option linter.unusedSimpArgs false
set_option linter.unusedVariables false
namespace Go.Proofs.Ytadkplikobhckaa.PM
open Go Go.Proofs.Ytadkplikobhckaa.Bt
variable {R : Type}

abbrev Be := Bool × (Bool × (Bool × (Bool × (Int × Unit))))
structure Sta where
  b : Bd
  g : Gd
  o : List (List Int)
def sendS (e : Be) (x : Sta) : Int × Sta :=
  if e.1 = true then
    (if (nextS x.g).2.2.2.1 = true ∧ e.2.1 = false then
      (if (takeF x.b (nextS x.g).2.1 (nextS x.g).2.2.1 (nextS x.g).2.2.2.2.length).2 ≠ 0 then ((takeF x.b (nextS x.g).2.1 (nextS x.g).2.2.1 (nextS x.g).2.2.2.2.length).2, ⟨x.b, (nextS x.g).1, x.o⟩)
      else (0, ⟨(takeF x.b (nextS x.g).2.1 (nextS x.g).2.2.1 (nextS x.g).2.2.2.2.length).1.1, (nextS x.g).1, if (takeF x.b (nextS x.g).2.1 (nextS x.g).2.2.1 (nextS x.g).2.2.2.2.length).1.2 = 1 then x.o ++ [(nextS x.g).2.2.2.2] else x.o⟩))
    else (0, ⟨x.b, (nextS x.g).1, x.o⟩))
  else (0, x)
def roomS (e : Be) (b : Bd) : Bd := if 0 < e.2.2.2.2.1 then { b with W := decide (e.2.2.2.2.1 = 2) } else b
def repS (e : Be) (b : Bd) (g : Gd) : Gd := if e.2.2.1 = true ∧ e.2.2.2.1 = false then heardS g b.n b.L b.Rt else g
def beatS (e : Be) (x : Sta) : Int × Sta :=
  if (sendS e x).1 ≠ 0 then sendS e x else (0, ⟨roomS e (sendS e x).2.b, repS e (roomS e (sendS e x).2.b) (sendS e x).2.g, (sendS e x).2.o⟩)
structure SOk (x : Sta) : Prop where
  b : chkBoard x.b = 0
  g : GOk x.g

theorem chkBoard_of {b : Bd} (h : chkBoard b = 0) {n t : Int} (hn : 0 ≤ n ∧ n ≤ 255) (ht : 0 ≤ t ∧ t ≤ 1000000) (L Rt W : Bool) : chkBoard ⟨n, b.w, L, Rt, W, t⟩ = 0 := by
  unfold chkBoard at h ⊢
  split at h
  · rename_i h'
    simp only [Bool.and_eq_true, decide_eq_true_eq] at h' ⊢
    rw [if_pos ⟨⟨⟨inB_iff.2 hn, h'.1.1.2⟩, h'.1.2⟩, inB_iff.2 ht⟩]
  · cases h
theorem plainS_ok {b : Bd} (h : chkBoard b = 0) {num : Int} (hn : 0 ≤ num ∧ num ≤ 255) (ht : (plainS b num).1.t ≤ 1000000) : chkBoard (plainS b num).1 = 0 := by
  obtain ⟨h1, h2, h3⟩ := chkBoard_ok h
  unfold plainS at ht ⊢
  split
  · exact h
  · split
    · split
      · exact chkBoard_of h h1 h3 _ _ _
      · rename_i e1 e2 e3
        rw [if_neg e1, if_pos e2, if_neg e3] at ht
        have ht' : b.t + 1 ≤ 1000000 := ht
        exact chkBoard_of h (by omega) ⟨by omega, ht'⟩ _ _ _
    · split
      · exact chkBoard_of h h1 h3 _ _ _
      · split
        · exact h
        · exact chkBoard_of h h1 h3 _ _ _
theorem takeF_board {b : Bd} {num : Int} {n : Nat} (h : (takeF b 1 num n).2 = 0) : chkBoard (takeF b 1 num n).1.1 = 0 := by
  obtain ⟨hb, ho, e⟩ := takeF_ok h
  obtain ⟨_, hn⟩ := chkOrder_ok ho
  have ht : ¬ (takeS b 1 num).1.t > 1000000 := by
    intro h'
    unfold takeF at h
    simp [hb, ho, h'] at h
  rw [e]
  have e1 : takeS b 1 num = plainS b num := by simp [takeS]
  rw [e1] at ht ⊢
  exact plainS_ok hb hn (by omega)
theorem nextS_ok {g : Gd} (G : GOk g) : GOk (nextS g).1 ∧ ((nextS g).2.2.2.1 = true → (nextS g).2.1 = 1 ∧ (0 ≤ (nextS g).2.2.1 ∧ (nextS g).2.2.1 ≤ 255) ∧ 1 ≤ (nextS g).2.2.2.2.length ∧ (nextS g).2.2.2.2.length ≤ 200) := by
  unfold nextS
  split
  · rename_i h
    have hm := h.2
    have hs := G.s
    unfold mn at hm
    have hi : g.s.toNat < g.q.length := by split at hm <;> omega
    refine ⟨⟨G.a, G.w, G.q, G.b, by simp only; split at hm <;> omega⟩, fun _ => ⟨rfl, by simp only; omega, G.b _ (getD_mem hi)⟩⟩
  · exact ⟨G, fun h => by cases h⟩
theorem sendS_ok {e : Be} {x : Sta} (H : SOk x) (h : (sendS e x).1 = 0) : SOk (sendS e x).2 ∧ (sendS e x).2.o.length ≤ x.o.length + 1 := by
  obtain ⟨n1, n2⟩ := nextS_ok H.g
  unfold sendS at h ⊢
  split at h
  · rename_i h1
    rw [if_pos h1]
    split at h
    · rename_i h2
      rw [if_pos h2]
      split at h
      · rename_i h3; exact absurd h h3
      · rename_i h3
        rw [if_neg h3]
        obtain ⟨k1, _⟩ := n2 h2.1
        rw [k1] at h3 ⊢
        exact ⟨⟨takeF_board (Decidable.not_not.1 h3), n1⟩, by simp only; split <;> simp⟩
    · rename_i h2
      rw [if_neg h2]
      exact ⟨⟨H.b, n1⟩, by simp⟩
  · rename_i h1
    rw [if_neg h1]
    exact ⟨H, by simp⟩
theorem roomS_ok {e : Be} {b : Bd} (h : chkBoard b = 0) : chkBoard (roomS e b) = 0 := by
  obtain ⟨h1, h2, h3⟩ := chkBoard_ok h
  unfold roomS
  split
  · exact chkBoard_of h h1 h3 _ _ _
  · exact h
theorem repS_ok {e : Be} {b : Bd} {g : Gd} (h : chkBoard b = 0) (G : GOk g) : GOk (repS e b g) := by
  unfold repS
  split
  · exact heardS_ok G (chkBoard_ok h).1 _ _
  · exact G
theorem beatS_ok {e : Be} {x : Sta} (H : SOk x) (h : (beatS e x).1 = 0) : SOk (beatS e x).2 ∧ (beatS e x).2.o.length ≤ x.o.length + 1 := by
  unfold beatS at h ⊢
  split at h
  · rename_i h1; exact absurd h h1
  · rename_i h1
    rw [if_neg h1]
    obtain ⟨q, ql⟩ := sendS_ok H (Decidable.not_not.1 h1)
    exact ⟨⟨roomS_ok q.b, repS_ok (roomS_ok q.b) q.g⟩, ql⟩

def apB (K : Int → Int → Int → Bool → Bool → Bool → Int → Int → Int → List (List Int) → Int → Bool → List (List Int) → Option R) (f : Int) (x : Sta) : Option R :=
  K f x.b.n x.b.w x.b.L x.b.Rt x.b.W x.b.t x.g.a x.g.s x.g.q x.g.w x.g.st x.o
theorem f79_eq {k : Nat} (hk : 20 < k) (e : Be) {x : Sta} (H : SOk x) (ho : x.o.length ≤ 100000) (K : Int → Int → Int → Bool → Bool → Bool → Int → Int → Int → List (List Int) → Int → Bool → List (List Int) → Option R) :
    f79 k e.1 e.2.1 e.2.2.1 e.2.2.2.1 e.2.2.2.2.1 x.b.n x.b.w x.b.L x.b.Rt x.b.W x.b.t x.g.a x.g.s x.g.q x.g.w x.g.st x.o K = apB K (beatS e x).1 (beatS e x).2 := by
  rw [f79_def]
  obtain ⟨k, rfl⟩ := succ_of (show 0 < k by omega)
  -- what comes behind the sending
  have tail : ∀ (y : Sta), SOk y → (f79_1000012 k (fun y12_N_4 => (bif (e.2.2.1 == true) then (f79_1000014 k (fun y14_N_6 y14_N_7 y14_N_8 y14_N_9 y14_N_10 => (K (0 : Int) y.b.n y.b.w y.b.L y.b.Rt y12_N_4 y.b.t y14_N_6 y14_N_7 y14_N_8 y14_N_9 y14_N_10 y.o)) (!e.2.2.2.1) y.b.n y.b.w y.b.L y.b.Rt y12_N_4 y.b.t y.g.a y.g.s y.g.q y.g.w y.g.st y.o) else (f79_1000014 k (fun y14_N_6 y14_N_7 y14_N_8 y14_N_9 y14_N_10 => (K (0 : Int) y.b.n y.b.w y.b.L y.b.Rt y12_N_4 y.b.t y14_N_6 y14_N_7 y14_N_8 y14_N_9 y14_N_10 y.o)) false y.b.n y.b.w y.b.L y.b.Rt y12_N_4 y.b.t y.g.a y.g.s y.g.q y.g.w y.g.st y.o))) (decide (e.2.2.2.2.1 > (0 : Int))) y.b.n y.b.w y.b.L y.b.Rt y.b.W y.b.t y.g.a y.g.s y.g.q y.g.w y.g.st y.o e.1 e.2.1 e.2.2.1 e.2.2.2.1 e.2.2.2.2.1)
      = apB K 0 ⟨roomS e y.b, repS e (roomS e y.b) y.g, y.o⟩ := by
    intro y hy
    have room : ∀ (W : Bool), (bif (e.2.2.1 == true) then (f79_1000014 k (fun y14_N_6 y14_N_7 y14_N_8 y14_N_9 y14_N_10 => (K (0 : Int) y.b.n y.b.w y.b.L y.b.Rt W y.b.t y14_N_6 y14_N_7 y14_N_8 y14_N_9 y14_N_10 y.o)) (!e.2.2.2.1) y.b.n y.b.w y.b.L y.b.Rt W y.b.t y.g.a y.g.s y.g.q y.g.w y.g.st y.o) else (f79_1000014 k (fun y14_N_6 y14_N_7 y14_N_8 y14_N_9 y14_N_10 => (K (0 : Int) y.b.n y.b.w y.b.L y.b.Rt W y.b.t y14_N_6 y14_N_7 y14_N_8 y14_N_9 y14_N_10 y.o)) false y.b.n y.b.w y.b.L y.b.Rt W y.b.t y.g.a y.g.s y.g.q y.g.w y.g.st y.o))
        = apB K 0 ⟨{ y.b with W := W }, repS e { y.b with W := W } y.g, y.o⟩ := by
      intro W
      have h68 := fun (K : Int → Bool → Bool → Bool → Option R) => f68_eq (k := k) (by omega) { y.b with W := W } K
      simp only at h68
      simp only [f79_1000014_def, f79_1000014d, h68, f77_eq (show 2 < k by omega) hy.g (chkBoard_ok hy.b).1, ap5, apB, repS]
      cases e.2.2.1 <;> cases e.2.2.2.1 <;> simp
    simp only [f79_1000012_def, f79_1000012d]
    by_cases hr : e.2.2.2.2.1 > 0
    · simp only [hr, decide_true, cond_true]
      rw [room]
      have : roomS e y.b = { y.b with W := e.2.2.2.2.1 == 2 } := by
        unfold roomS
        rw [if_pos (by omega)]
        rfl
      rw [this]
    · simp only [hr, decide_false, cond_false]
      rw [room]
      have : roomS e y.b = y.b := by
        unfold roomS
        rw [if_neg (by omega)]
      rw [this]
  obtain ⟨n1, n2⟩ := nextS_ok H.g
  simp only [f79d, f79_1000002_def, f79_1000002d]
  cases hs : e.1
  · have h0 : sendS e x = (0, x) := by simp [sendS, hs]
    have := tail x H
    simp only [hs] at this
    simp only [cond_false, beatS, h0, ne_eq, not_true_eq_false, if_false]
    exact this
  · simp only [cond_true, f75_eq (show 2 < k by omega) H.g, ap9]
    by_cases hn : (nextS x.g).2.2.2.1 = true
    · simp only [hn, BEq.rfl, cond_true, f79_1000005_def, f79_1000005d]
      cases hl : e.2.1
      · simp only [Bool.not_false, cond_true, f27_eq (show 5 < k by omega), ap8, bne_dec]
        have LIM24' : x.o.length + ([(nextS x.g).2.2.2.2] : List (List Int)).length ≤ LIM 24 := by rw [LIM24]; simp; omega
        by_cases hf : (takeF x.b (nextS x.g).2.1 (nextS x.g).2.2.1 (nextS x.g).2.2.2.2.length).2 = 0
        · have h0 : sendS e x = (0, ⟨(takeF x.b (nextS x.g).2.1 (nextS x.g).2.2.1 (nextS x.g).2.2.2.2.length).1.1, (nextS x.g).1, if (takeF x.b (nextS x.g).2.1 (nextS x.g).2.2.1 (nextS x.g).2.2.2.2.length).1.2 = 1 then x.o ++ [(nextS x.g).2.2.2.2] else x.o⟩) := by
            simp only [sendS, hs, hn, hl, hf, and_self, if_true, ne_eq, not_true_eq_false, if_false]
          have hq := (sendS_ok (e := e) H (by rw [h0])).1
          have := tail _ hq
          rw [h0] at this
          simp only [hs, hl] at this
          simp only [hf, decide_true, Bool.not_true, cond_false, f79_1000010_def, f79_1000010d, beq_dec, beatS, h0, ne_eq, not_true_eq_false, if_false, LIM24', cond_true]
          by_cases hw : (takeF x.b (nextS x.g).2.1 (nextS x.g).2.2.1 (nextS x.g).2.2.2.2.length).1.2 = 1
          · simp only [hw, if_true] at this ⊢
            simpa using this
          · simp only [hw, if_false] at this ⊢
            simpa using this
        · have h0 : sendS e x = ((takeF x.b (nextS x.g).2.1 (nextS x.g).2.2.1 (nextS x.g).2.2.2.2.length).2, ⟨x.b, (nextS x.g).1, x.o⟩) := by
            simp only [sendS, hs, hn, hl, and_self, if_true, ne_eq, hf, not_false_eq_true]
          simp only [hf, decide_false, Bool.not_false, cond_true, beatS, h0, ne_eq, not_false_eq_true, if_true, apB]
      · have h0 : sendS e x = (0, ⟨x.b, (nextS x.g).1, x.o⟩) := by simp [sendS, hs, hl]
        have := tail _ (sendS_ok (e := e) H (by rw [h0])).1
        rw [h0] at this
        simp only [hs, hl] at this
        simp only [Bool.not_true, cond_false, beatS, h0, ne_eq, not_true_eq_false, if_false]
        exact this
    · have hn' : (nextS x.g).2.2.2.1 = false := by simpa using hn
      have h0 : sendS e x = (0, ⟨x.b, (nextS x.g).1, x.o⟩) := by simp [sendS, hs, hn']
      have := tail _ (sendS_ok (e := e) H (by rw [h0])).1
      rw [h0] at this
      simp only [hs] at this
      simp only [hn', f79_1000005_def, f79_1000005d, beatS, h0, ne_eq, not_true_eq_false, if_false]
      simpa using this

/-! many beats -/
def runS : List Be → Sta → Int × Sta
  | [], x => (0, x)
  | e :: l, x => if (beatS e x).1 ≠ 0 then beatS e x else runS l (beatS e x).2
theorem runS_ok : ∀ (l : List Be) {x : Sta}, SOk x → (runS l x).1 = 0 → SOk (runS l x).2 ∧ (runS l x).2.o.length ≤ x.o.length + l.length
  | [], x, H, _ => ⟨H, by simp [runS]⟩
  | e :: l, x, H, h => by
    simp only [runS] at h ⊢
    split at h
    · rename_i h1; exact absurd h h1
    · rename_i h1
      rw [if_neg h1]
      obtain ⟨q, ql⟩ := beatS_ok H (Decidable.not_not.1 h1)
      obtain ⟨r, rl⟩ := runS_ok l q h
      exact ⟨r, by simp; omega⟩
abbrev Cont (R : Type) := Int → Int → Int → Bool → Bool → Bool → Int → Int → Int → List (List Int) → Int → Bool → List (List Int) → Option R
theorem run_loop (k : Nat) (hk : 30 < k) (x0 : Cont R) (l : List Be) (hl : l.length ≤ 50000) (c1 c2 : Int) (c3 c4 c5 : Bool) (c6 c7 c8 c9 : Int) (c10 : Bool) : ∀ (d f i : Nat) {x : Sta}, i + d = l.length → d + 1 < f → SOk x → x.o.length ≤ i →
    f44_0d k x0 l c1 c2 c3 c4 c5 c6 c7 c8 c9 c10 f 0 (i : Int) x.b.n x.b.w x.b.L x.b.Rt x.b.W x.b.t x.g.a x.g.s x.g.q x.g.w x.g.st x.o = apB x0 (runS (l.drop i) x).1 (runS (l.drop i) x).2
  | d, 0, i, _, _, h, _, _ => absurd h (Nat.not_lt_zero _)
  | 0, f + 1, i, x, hi, _, H, ho => by
    have h1 : decide ((i : Int) < (l.length : Int)) = false := by simp only [decide_eq_false_iff_not]; omega
    simp only [f44_0d, f44_0b, h1, show (false == true) = false from rfl, cond_false]
    rw [List.drop_of_length_le (by omega)]
    rfl
  | d + 1, f + 1, i, x, hi, hf, H, ho => by
    have h1 : decide ((i : Int) < (l.length : Int)) = true := by simp only [decide_eq_true_eq]; omega
    have h0 : decide ((0 : Int) ≤ (i : Int)) = true := by simp
    have hw : IntKind.i64.wrap ((i : Int) + 1) = ((i + 1 : Nat) : Int) := by rw [wraps_i64 _ (by omega) (by omega)]; omega
    have hli : i < l.length := by omega
    have g1 : ∀ z, l.getD i z = l[i] := fun z => by rw [List.getD_eq_getElem?_getD, List.getElem?_eq_getElem hli]; rfl
    simp only [f44_0d, f44_0b, h1, h0, BEq.rfl, cond_true, Bool.and_self, Int.toNat_natCast, hw, g1]
    rw [f79_eq (by omega) l[i] H (by omega), List.drop_eq_getElem_cons hli]
    simp only [runS]
    by_cases hb : (beatS l[i] x).1 = 0
    · obtain ⟨q, ql⟩ := beatS_ok H hb
      rw [if_neg (by simpa using hb)]
      simp only [apB, hb]
      exact run_loop k hk x0 l hl c1 c2 c3 c4 c5 c6 c7 c8 c9 c10 d f (i + 1) (by omega) (by omega) q (by omega)
    · rw [if_pos hb]
      simp only [apB]
      obtain ⟨f, rfl⟩ : ∃ f', f = f' + 1 := ⟨f - 1, by omega⟩
      have hb' : ((beatS l[i] x).1 == 0) = false := by simpa using hb
      simp only [f44_0d, f44_0b, hb', cond_false]
      cases decide (((i + 1 : Nat) : Int) < (l.length : Int)) == true <;> rfl
def badRoom (e : Be) : Bool := !inB e.2.2.2.2.1 0 2
theorem bad_loop (k : Nat) (hk : 2 < k) (K : Int → Option R) (x0 : Option R) (l : List Be) (hl : l.length < 4611686018427387904) : ∀ (d f i : Nat), i + d = l.length → d < f → (∀ n : Int, 0 ≤ n → K n = K 0) →
    f95_0d k K x0 l (l.length : Int) f (i : Int) = if (l.drop i).any badRoom then K 0 else x0
  | d, 0, i, _, h, _ => absurd h (Nat.not_lt_zero _)
  | 0, f + 1, i, hi, _, _ => by
    have h1 : decide ((i : Int) < (l.length : Int)) = false := by simp only [decide_eq_false_iff_not]; omega
    simp only [f95_0d, f95_0b, h1, cond_false]
    rw [List.drop_of_length_le (by omega)]
    rfl
  | d + 1, f + 1, i, hi, hf, hK => by
    have h1 : decide ((i : Int) < (l.length : Int)) = true := by simp only [decide_eq_true_eq]; omega
    have h0 : decide ((0 : Int) ≤ (i : Int)) = true := by simp
    have hw : IntKind.i64.wrap ((i : Int) + 1) = ((i + 1 : Nat) : Int) := by rw [wraps_i64 _ (by omega) (by omega)]; omega
    have hli : i < l.length := by omega
    have g1 : ∀ z, l.getD i z = l[i] := fun z => by rw [List.getD_eq_getElem?_getD, List.getElem?_eq_getElem hli]; rfl
    simp only [f95_0d, f95_0b, h1, h0, cond_true, Bool.and_self, Int.toNat_natCast, hw, g1, f81_def]
    obtain ⟨k, rfl⟩ := succ_of (show 0 < k by omega)
    simp only [f81d, f62_eq (show 0 < k by omega)]
    rw [List.drop_eq_getElem_cons hli, List.any_cons]
    have ih := bad_loop (k + 1) hk K x0 l hl d f (i + 1) (by omega) (by omega) hK
    cases hb : inB l[i].2.2.2.2.1 0 2
    · simp only [badRoom, hb, Bool.not_false, cond_true, Bool.true_or, if_true]
      exact hK _ (by omega)
    · simp only [badRoom, hb, Bool.not_true, cond_false, Bool.false_or]
      exact ih
theorem f80_eq {k : Nat} (l : List Be) (hk : l.length + 10 < k) (hl : l.length < 4611686018427387904) (K : Bool → Option R) : f80 k l K = K (l.any badRoom) := by
  rw [f80_def]
  obtain ⟨k, rfl⟩ := succ_of (show 0 < k by omega)
  simp only [f80d, f95_def]
  obtain ⟨k, rfl⟩ := succ_of (show 0 < k by omega)
  simp only [f95d, f95_0_def]
  refine (bad_loop k (by omega) _ _ l hl l.length k 0 (by omega) (by omega) fun n hn => ?_).trans ?_
  · have : decide (n ≥ 0) = true := by simpa using hn
    simp [this]
  · rw [List.drop_zero]
    cases l.any badRoom <;> simp
def z0 : Sta := ⟨zB, zG, []⟩
def runF (b : Bd) (g : Gd) (l : List Be) : Int × Sta :=
  if chkBoard b ≠ 0 then (chkBoard b, z0) else if chkGround g ≠ 0 then (chkGround g, z0) else if 2000 < l.length then (2, z0) else if l.any badRoom then (1, z0)
  else if (runS l ⟨b, g, []⟩).1 ≠ 0 then ((runS l ⟨b, g, []⟩).1, z0) else runS l ⟨b, g, []⟩
abbrev K44 (R : Type) := Int → Int → Bool → Bool → Bool → Int → Int → Int → Int → Bool → Int → List (List Int) → List (List Int) → Option R
def ap44 (K : K44 R) (r : Int × Sta) : Option R := K r.2.b.n r.2.b.w r.2.b.L r.2.b.Rt r.2.b.W r.2.b.t r.2.g.a r.2.g.s r.2.g.w r.2.g.st r.1 r.2.g.q r.2.o
theorem f44_eq {k : Nat} (b : Bd) (g : Gd) (l : List Be) (hk : g.q.length + l.length + 2000 < k) (hl : l.length < 4611686018427387904) (hq : g.q.length ≤ 5864062014805) (hb : ∀ b ∈ g.q, b.length ≤ 140737488355328) (K : K44 R) :
    f44 k b.n b.w b.L b.Rt b.W b.t g.a g.s g.q g.w g.st l K = ap44 K (runF b g l) := by
  rw [f44_def]
  obtain ⟨k, rfl⟩ := succ_of (show 0 < k by omega)
  -- behind the tests
  have tail : ∀ (f : Int), (f = 0 → chkBoard b = 0 ∧ chkGround g = 0 ∧ l.length ≤ 2000) → (f71 k g.a g.s g.q g.w g.st (fun r14338_0 r14338_1 r14338_2 r14338_3 r14338_4 => (f44_0 k (fun y0_0_0 y0_0_11 y0_0_12 y0_0_13 y0_0_14 y0_0_15 y0_0_16 y0_0_17 y0_0_18 y0_0_19 y0_0_20 y0_0_21 y0_0_22 => (bif (y0_0_0 != (0 : Int)) then (K (0 : Int) (0 : Int) false false false (0 : Int) (0 : Int) (0 : Int) (0 : Int) false y0_0_0 ([] : List (List Int)) ([] : List (List Int))) else (f71 k y0_0_17 y0_0_18 y0_0_19 y0_0_20 y0_0_21 (fun r28680_0 r28680_1 r28680_2 r28680_3 r28680_4 => (K y0_0_11 y0_0_12 y0_0_13 y0_0_14 y0_0_15 y0_0_16 r28680_0 r28680_1 r28680_2 r28680_3 (0 : Int) r28680_4 y0_0_22))))) l (0 : Int) (0 : Int) false false false (0 : Int) (0 : Int) (0 : Int) (0 : Int) false k f (0 : Int) b.n b.w b.L b.Rt b.W b.t r14338_0 r14338_1 r14338_4 r14338_2 r14338_3 ([] : List (List Int)))))
      = ap44 K (if f ≠ 0 then (f, z0) else if (runS l ⟨b, g, []⟩).1 ≠ 0 then ((runS l ⟨b, g, []⟩).1, z0) else runS l ⟨b, g, []⟩) := by
    intro f hf
    rw [f71_eq g (by omega) hq hb, f44_0_def]
    by_cases h : f = 0
    · subst h
      obtain ⟨h1, h2, h3⟩ := hf rfl
      have H : SOk ⟨b, g, []⟩ := ⟨h1, chkGround_ok h2⟩
      have := run_loop k (by omega) (fun y0_0_0 y0_0_11 y0_0_12 y0_0_13 y0_0_14 y0_0_15 y0_0_16 y0_0_17 y0_0_18 y0_0_19 y0_0_20 y0_0_21 y0_0_22 => (bif (y0_0_0 != (0 : Int)) then (K (0 : Int) (0 : Int) false false false (0 : Int) (0 : Int) (0 : Int) (0 : Int) false y0_0_0 ([] : List (List Int)) ([] : List (List Int))) else (f71 k y0_0_17 y0_0_18 y0_0_19 y0_0_20 y0_0_21 (fun r28680_0 r28680_1 r28680_2 r28680_3 r28680_4 => (K y0_0_11 y0_0_12 y0_0_13 y0_0_14 y0_0_15 y0_0_16 r28680_0 r28680_1 r28680_2 r28680_3 (0 : Int) r28680_4 y0_0_22))))) l (by omega) 0 0 false false false 0 0 0 0 false l.length k 0 (by omega) (by omega) H (by simp)
      refine this.trans ?_
      rw [List.drop_zero]
      simp only [apB, bne_dec]
      by_cases hr : (runS l ⟨b, g, []⟩).1 = 0
      · have G := (runS_ok l H hr).1.g
        have hq' := G.q
        have hb' := G.b
        simp only [hr, decide_true, Bool.not_true, cond_false, ne_eq, not_true_eq_false, if_false]
        rw [f71_eq (runS l ⟨b, g, []⟩).2.g (by omega) (by omega) (fun b h => by have := (hb' b h).2; omega)]
        simp only [ap44, hr]
      · simp [hr, ap44, z0, zB, zG]
    · obtain ⟨k, rfl⟩ := succ_of (show 0 < k by omega)
      have h' : (f == 0) = false := by simpa using h
      simp only [f44_0d, f44_0b, h', cond_false, bne_dec, h, decide_false, Bool.not_false, cond_true, ne_eq, not_false_eq_true, if_true]
      cases decide ((0 : Int) < (l.length : Int)) == true <;> rfl
  simp only [f44d, f29_eq (show 1 < k by omega), f35_eq g (show _ < k by omega) (by omega), f44_1000003_def, f44_1000003d, f44_1000005_def, f44_1000005d, f80_eq l (show _ < k by omega) hl, runF]
  rw [f65_eq (by simp; omega) (by simp)]
  simp only [firstF]
  by_cases h1 : chkBoard b = 0
  · by_cases h2 : chkGround g = 0
    · by_cases h3 : 2000 < l.length
      · have e3 : decide ((l.length : Int) > 2000) = true := by simp only [decide_eq_true_eq]; omega
        simp only [h1, h2, if_true, BEq.rfl, e3, cond_true, ne_eq, not_true_eq_false, if_false, h3]
        exact (tail 2 (fun h => by cases h)).trans (by simp)
      · have e3 : decide ((l.length : Int) > 2000) = false := by simp only [decide_eq_false_iff_not]; omega
        simp only [h1, h2, if_true, BEq.rfl, e3, cond_false, cond_true, ne_eq, not_true_eq_false, if_false, h3]
        cases ha : l.any badRoom
        · simp only [cond_false, Bool.false_eq_true, if_false]
          exact (tail 0 (fun _ => ⟨h1, h2, by omega⟩)).trans (by simp)
        · simp only [cond_true, if_true]
          exact (tail 1 (fun h => by cases h)).trans (by simp)
    · have h2' : (chkGround g == 0) = false := by simpa using h2
      simp only [h1, if_true, h2, if_false, h2', ne_eq, not_true_eq_false, not_false_eq_true, show (false == true) = false from rfl, cond_false]
      exact (tail (chkGround g) (fun h => absurd h h2)).trans (by simp [h2])
  · have h1' : (chkBoard b == 0) = false := by simpa using h1
    simp only [h1, if_false, h1', ne_eq, not_false_eq_true, if_true, show (false == true) = false from rfl, cond_false]
    exact (tail (chkBoard b) (fun h => absurd h h1)).trans (by simp [h1])
end Go.Proofs.Ytadkplikobhckaa.PM
