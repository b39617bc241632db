/- Merged plain texts: PlRows, PlWorks, PlSq, PlSp, PlTopR. -/
import Derived.Test.YtoepnomdklhhlaaPlD
/- Plain laws of rows: what is squeezed is spread again. -/
set_option linter.unusedSimpArgs false
set_option linter.unusedVariables false
namespace Go.Proofs.Ytoepnomdklhhlaa.PM
open Go
/-- A number in groups of seven bits. -/
def grp : Nat → Nat → List Int
 | 0, z => [(z : Int)]
 | d + 1, z => if z ≤ 127 then [(z : Int)] else ((z % 128 + 128 : Nat) : Int) :: grp d (z / 128)
def num : Nat → List Int → Option (Nat × List Int)
 | 0, _ => none
 | _ + 1, [] => none
 | d + 1, c :: b => if c < 128 then some (c.toNat, b) else match num d b with
   | some (z, r) => some (c.toNat % 128 + 128 * z, r)
   | none => none
theorem num_grp : ∀ (d z : Nat) (r : List Int), z < 128 ^ (d + 1) → ∀ e, d + 1 ≤ e → num e (grp d z ++ r) = some (z, r)
 | 0, z, r, h, e, he => by
   obtain ⟨e, rfl⟩ : ∃ n, e = n + 1 := ⟨e - 1, by omega⟩
   have : (z : Int) < 128 := by omega
   simp only [grp, List.cons_append, List.nil_append, num, if_pos this, Int.toNat_natCast]
 | d + 1, z, r, h, e, he => by
   obtain ⟨e, rfl⟩ : ∃ n, e = n + 1 := ⟨e - 1, by omega⟩
   simp only [grp]
   split
   ·rename_i q
    have : (z : Int) < 128 := by omega
    simp only [List.cons_append, List.nil_append, num, if_pos this, Int.toNat_natCast]
   ·rename_i q
    have h1 : ¬ ((z % 128 + 128 : Nat) : Int) < 128 := by omega
    have h2 : z / 128 < 128 ^ (d + 1) := by
     rw [Nat.div_lt_iff_lt_mul (by decide), ← Nat.pow_succ]; exact h
    simp only [List.cons_append, num, if_neg h1, num_grp d (z / 128) r h2 e (by omega), Int.toNat_natCast]
    congr 2
    omega
theorem grp_u8 : ∀ (d z : Nat), z < 128 ^ (d + 1) → ∀ x ∈ grp d z, 0 ≤ x ∧ x ≤ 255
 | 0, z, h, x, hx => by
   simp only [grp, List.mem_singleton] at hx
   omega
 | d + 1, z, h, x, hx => by
   simp only [grp] at hx
   split at hx
   ·simp only [List.mem_singleton] at hx; omega
   ·rcases List.mem_cons.1 hx with rfl | hx
    ·omega
    ·exact grp_u8 d (z / 128) (by rw [Nat.div_lt_iff_lt_mul (by decide), ← Nat.pow_succ]; exact h) x hx
theorem grp_len : ∀ (d z : Nat), 1 ≤ (grp d z).length ∧ (grp d z).length ≤ d + 1
 | 0, z => by simp [grp]
 | d + 1, z => by
   have := grp_len d (z / 128)
   simp only [grp]
   split
   ·simp
   ·simp; omega
/-- What begins with 128 goes on, and not with 0. -/
theorem grp_head : ∀ (d z : Nat) (r : List Int), z < 128 ^ (d + 1) → 1 ≤ z → (grp d z ++ r).head? ≠ some 0
 | 0, z, r, h, h1 => by simp [grp]; omega
 | d + 1, z, r, h, h1 => by
   simp only [grp]
   split
   ·simp; omega
   ·simp; omega
theorem grp_no : ∀ (d z : Nat) (r : List Int), z < 128 ^ (d + 1) → (grp d z ++ r).take 2 ≠ [128, 0]
 | 0, z, r, h => by
   simp [grp]; omega
 | d + 1, z, r, h => by
   simp only [grp]
   split
   ·simp; omega
   ·rename_i q
    intro e
    rw [List.cons_append, List.take_succ_cons] at e
    have e1 := (List.cons.inj e).2
    have h2 : z / 128 < 128 ^ (d + 1) := by
     rw [Nat.div_lt_iff_lt_mul (by decide), ← Nat.pow_succ]; exact h
    have h3 := grp_head d (z / 128) r h2 (by omega)
    cases hl : grp d (z / 128) ++ r with
    | nil => rw [hl] at e1; cases e1
    | cons y m =>
      rw [hl] at e1 h3
      have := (List.cons.inj e1).1
      exact h3 (by rw [this]; rfl)
def zz (d : Int) : Nat := if 2 * d < 0 then (-(2 * d) - 1).toNat else (2 * d).toNat
def unz (last : Int) (z : Nat) : Int := if z % 2 = 1 then last - ((z : Int) + 1) / 2 else last + (z : Int) / 2
theorem unz_zz (a v : Int) : unz a (zz (v - a)) = v := by
 unfold unz zz
 split <;> split <;> omega
def runLen (last : Int) : List Int → Nat
 | [] => 0
 | v :: l => if v = last then runLen last l + 1 else 0
theorem run_take (last : Int) : ∀ l : List Int, l.take (runLen last l) = List.replicate (runLen last l) last ∧ runLen last l ≤ l.length
 | [] => ⟨rfl, Nat.le_refl _⟩
 | v :: l => by
   obtain ⟨i1, i2⟩ := run_take last l
   simp only [runLen]
   split
   ·rename_i e
    refine ⟨?_, by simp; omega⟩
    rw [List.take_succ_cons, i1, e, List.replicate_succ]
   ·exact ⟨rfl, Nat.zero_le _⟩
def sq : Nat → Int → List Int → List Int
 | 0, _, _ => []
 | _ + 1, _, [] => []
 | f + 1, last, v :: l =>
   if 3 ≤ runLen last (v :: l) then 128 :: 0 :: (grp 5 (runLen last (v :: l)) ++ sq f last ((v :: l).drop (runLen last (v :: l))))
   else if 0 < runLen last (v :: l) then List.replicate (runLen last (v :: l)) 0 ++ sq f last ((v :: l).drop (runLen last (v :: l)))
   else grp 5 (zz (v - last)) ++ sq f v l
def MM : Int := 1000000000
def sp : Nat → Nat → List Int → Int → List Int → Option (List Int)
 | 0, _, _, _, _ => none
 | f + 1, many, out, last, b =>
   if b.length = 0 then some out
   else if b.take 2 = [128, 0] then match num 6 (b.drop 2) with
    | some (z, r) => if (z : Int) > (many : Int) - out.length then none else if many < (out ++ List.replicate z last).length ∨ ¬ (-MM ≤ last ∧ last ≤ MM) then none else sp f many (out ++ List.replicate z last) last r
    | none => none
   else match num 6 b with
    | some (z, r) => if many < (out ++ [unz last z]).length ∨ ¬ (-MM ≤ unz last z ∧ unz last z ≤ MM) then none else sp f many (out ++ [unz last z]) (unz last z) r
    | none => none
theorem sp_zero : ∀ (n f many : Nat) (out : List Int) (last : Int) (r : List Int), n < f → out.length + n ≤ many → -MM ≤ last ∧ last ≤ MM → sp f many out last (List.replicate n 0 ++ r) = sp (f - n) many (out ++ List.replicate n last) last r
 | 0, f, many, out, last, r, _, _, _ => by simp
 | n + 1, f, many, out, last, r, h, ho, hl => by
   obtain ⟨f, rfl⟩ : ∃ m, f = m + 1 := ⟨f - 1, by omega⟩
   have e1 : ¬ (List.replicate (n + 1) 0 ++ r : List Int).length = 0 := by simp
   have e2 : ¬ (List.replicate (n + 1) 0 ++ r : List Int).take 2 = [128, 0] := by simp [List.replicate_succ]
   have e3 : num 6 (List.replicate (n + 1) 0 ++ r : List Int) = some (0, List.replicate n 0 ++ r) := by simp [List.replicate_succ, num]
   have e4 : unz last 0 = last := by simp [unz]
   simp only [sp, if_neg e1, if_neg e2, e3, e4]
   rw [if_neg (by simp; omega)]
   rw [sp_zero n f many (out ++ [last]) last r (by omega) (by simp; omega) hl]
   rw [show f + 1 - (n + 1) = f - n by omega, List.append_assoc, List.singleton_append, ← List.replicate_succ]
theorem sp_sq : ∀ (f1 : Nat) (l : List Int) (last : Int) (out : List Int) (many f2 : Nat), l.length ≤ f1 → (∀ v ∈ l, -MM ≤ v ∧ v ≤ MM) → -MM ≤ last ∧ last ≤ MM → out.length + l.length ≤ many → many ≤ 5000 → (sq f1 last l).length < f2 → sp f2 many out last (sq f1 last l) = some (out ++ l)
 | 0, l, last, out, many, f2, h, _, _, _, _, hf => by
   have : l = [] := List.length_eq_zero_iff.1 (by omega)
   subst this
   obtain ⟨f2, rfl⟩ : ∃ m, f2 = m + 1 := ⟨f2 - 1, by omega⟩
   simp [sq, sp]
 | f1 + 1, [], last, out, many, f2, h, _, _, _, _, hf => by
   obtain ⟨f2, rfl⟩ : ∃ m, f2 = m + 1 := ⟨f2 - 1, by omega⟩
   simp [sq, sp]
 | f1 + 1, v :: l, last, out, many, f2, h, hv, hl, ho, hm, hf => by
   have hr := run_take last (v :: l)
   obtain ⟨f2, rfl⟩ : ∃ m, f2 = m + 1 := ⟨f2 - 1, by omega⟩
   simp only [List.length_cons] at h ho
   simp only [sq] at hf ⊢
   generalize hn : runLen last (v :: l) = n at *
   have hlen : n ≤ l.length + 1 := by simpa using hr.2
   have hdrop : ((v :: l).drop n).length = l.length + 1 - n := by simp
   have hvd : ∀ w ∈ (v :: l).drop n, -MM ≤ w ∧ w ≤ MM := fun w hw => hv w (List.mem_of_mem_drop hw)
   have hback : out ++ List.replicate n last ++ (v :: l).drop n = out ++ v :: l := by
    rw [← hr.1, List.append_assoc, List.take_append_drop]
   by_cases c3 : 3 ≤ n
   ·rw [if_pos c3] at hf ⊢
    have e2 : (128 :: 0 :: (grp 5 n ++ sq f1 last ((v :: l).drop n)) : List Int).take 2 = [128, 0] := rfl
    have p6 : (128 : Nat) ^ (5 + 1) = 4398046511104 := by decide
    have e3 : num 6 ((128 :: 0 :: (grp 5 n ++ sq f1 last ((v :: l).drop n)) : List Int).drop 2) = some (n, sq f1 last ((v :: l).drop n)) := num_grp 5 n _ (by omega) 6 (by omega)
    simp only [sp, e2, e3, if_true]
    rw [if_neg (by simp), if_neg (by omega), if_neg (by simp; omega)]
    rw [sp_sq f1 ((v :: l).drop n) last (out ++ List.replicate n last) many f2 (by omega) hvd hl (by simp; omega) hm (by simp at hf ⊢; omega), hback]
   ·rw [if_neg c3] at hf ⊢
    by_cases c0 : 0 < n
    ·rw [if_pos c0] at hf ⊢
     have hf' : n + (sq f1 last ((v :: l).drop n)).length < f2 + 1 := by simpa using hf
     rw [sp_zero n (f2 + 1) many out last _ (by omega) (by omega) hl]
     rw [sp_sq f1 ((v :: l).drop n) last (out ++ List.replicate n last) many (f2 + 1 - n) (by omega) hvd hl (by simp; omega) hm (by omega), hback]
    ·rw [if_neg c0] at hf ⊢
     have hv1 := hv v List.mem_cons_self
     have hz : zz (v - last) < 128 ^ (5 + 1) := by
      have : (128 : Nat) ^ (5 + 1) = 4398046511104 := by decide
      unfold zz MM at *
      split <;> omega
     have hg := grp_len 5 (zz (v - last))
     have e1 : ¬ (grp 5 (zz (v - last)) ++ sq f1 v l).length = 0 := by simp; intro q; rw [q] at hg; simp at hg
     have e2 := grp_no 5 (zz (v - last)) (sq f1 v l) hz
     have e3 := num_grp 5 (zz (v - last)) (sq f1 v l) hz 6 (by omega)
     simp only [sp, if_neg e1, if_neg e2, e3, unz_zz]
     rw [if_neg (by simp; omega)]
     rw [sp_sq f1 l v (out ++ [v]) many f2 (by omega) (fun w hw => hv w (List.mem_cons_of_mem _ hw)) hv1 (by simp; omega) hm (by simp at hf; omega)]
     simp
theorem sq_u8 : ∀ (f : Nat) (last : Int) (l : List Int), (∀ v ∈ l, -MM ≤ v ∧ v ≤ MM) → -MM ≤ last ∧ last ≤ MM → l.length ≤ 5000 → (∀ x ∈ sq f last l, 0 ≤ x ∧ x ≤ 255) ∧ (sq f last l).length ≤ 6 * l.length
 | 0, last, l, _, _, _ => ⟨fun x hx => (by cases hx), Nat.zero_le _⟩
 | f + 1, last, [], _, _, _ => ⟨fun x hx => (by cases hx), Nat.zero_le _⟩
 | f + 1, last, v :: l, hv, hl, h5 => by
   have hr := run_take last (v :: l)
   simp only [sq]
   simp only [List.length_cons] at h5 ⊢
   generalize hn : runLen last (v :: l) = n at *
   have hlen : n ≤ l.length + 1 := by simpa using hr.2
   have hvd : ∀ w ∈ (v :: l).drop n, -MM ≤ w ∧ w ≤ MM := fun w hw => hv w (List.mem_of_mem_drop hw)
   have hdl : ((v :: l).drop n).length = l.length + 1 - n := by simp
   have p6 : (128 : Nat) ^ (5 + 1) = 4398046511104 := by decide
   split
   ·rename_i c
    obtain ⟨i1, i2⟩ := sq_u8 f last ((v :: l).drop n) hvd hl (by omega)
    have g := grp_u8 5 n (by omega)
    have gl := grp_len 5 n
    refine ⟨fun x hx => ?_, by simp only [List.length_cons, List.length_append]; omega⟩
    rcases List.mem_cons.1 hx with rfl | hx
    ·omega
    rcases List.mem_cons.1 hx with rfl | hx
    ·omega
    rcases List.mem_append.1 hx with hx | hx
    ·exact g x hx
    ·exact i1 x hx
   ·split
    ·obtain ⟨i1, i2⟩ := sq_u8 f last ((v :: l).drop n) hvd hl (by omega)
     refine ⟨fun x hx => ?_, by simp only [List.length_append, List.length_replicate]; omega⟩
     rcases List.mem_append.1 hx with hx | hx
     ·rw [(List.mem_replicate.1 hx).2]; omega
     ·exact i1 x hx
    ·obtain ⟨i1, i2⟩ := sq_u8 f v l (fun w hw => hv w (List.mem_cons_of_mem _ hw)) (hv v List.mem_cons_self) (by omega)
     have hv1 := hv v List.mem_cons_self
     have hz : zz (v - last) < 128 ^ (5 + 1) := by
      unfold zz MM at *
      split <;> omega
     have g := grp_u8 5 (zz (v - last)) hz
     have gl := grp_len 5 (zz (v - last))
     refine ⟨fun x hx => ?_, by simp only [List.length_append]; omega⟩
     rcases List.mem_append.1 hx with hx | hx
     ·exact g x hx
     ·exact i1 x hx
end Go.Proofs.Ytoepnomdklhhlaa.PM
/- Plain laws: the packages do what their chapters say of one simple thing. -/
set_option linter.unusedSimpArgs false
set_option linter.unusedVariables false
namespace Go.Proofs.Ytoepnomdklhhlaa.PM
open Go Go.Proofs.Ytoepnomdklhhlaa.Bt
variable {R : Type}
/-! store.Sum -/
def pSi : Nat → Int → Int → Option Int
 | 0, _, _ => none
 | d + 1, s, j => if j < 8 then pSi d (if s ≥ 32768 then bits .xor .i64 (Int.tmod (IntKind.i64.wrap (s * 2)) 65536) 4129 else Int.tmod (IntKind.i64.wrap (s * 2)) 65536) (IntKind.i64.wrap (j + 1)) else some s
def pS (l : List Int) : Nat → Int → Int → Option Int
 | 0, _, _ => none
 | d + 1, s, i => if i < (l.length : Int) then (if 0 ≤ i then match pSi 9 (bits .xor .i64 s (IntKind.i64.wrap ((IntKind.i64.wrap (l.getD (Int.toNat i) 0)) * 256))) 0 with
   | some s' => pS l d s' (IntKind.i64.wrap (i + 1))
   | none => none else none) else some s
theorem f25_in {k : Nat} {x2 : Int → Option R} {a : List Int} {b c : Int} : ∀ {d f : Nat} {s j r : Int}, pSi d s j = some r → d ≤ f → f25_2d k x2 a b c f s j = x2 r
 | 0, f, s, j, r, h, _ => by cases h
 | d + 1, 0, s, j, r, h, hf => by omega
 | d + 1, f + 1, s, j, r, h, hf => by
   simp only [pSi] at h
   simp only [f25_2d, f25_2b]
   by_cases q : j < 8
   ·rw [if_pos q] at h
    have e : decide (j < 8) = true := by simpa using q
    rw [e, cond_true, f25_1000011_def]
    simp only [f25_1000011d]
    by_cases p : s ≥ 32768
    ·rw [if_pos p] at h
     have e2 : decide (s ≥ 32768) = true := by simpa using p
     rw [e2, cond_true]
     exact f25_in h (by omega)
    ·rw [if_neg p] at h
     have e2 : decide (s ≥ 32768) = false := by simpa using p
     rw [e2, cond_false]
     exact f25_in h (by omega)
   ·rw [if_neg q] at h
    have e : decide (j < 8) = false := by simpa using q
    rw [e, cond_false]
    cases h; rfl
theorem f25_out {k : Nat} (hk : 9 ≤ k) {x0 : Int → Option R} {l : List Int} : ∀ {d f : Nat} {s i r : Int}, pS l d s i = some r → d ≤ f → f25_0d k x0 l (l.length : Int) f s i = x0 r
 | 0, f, s, j, r, h, _ => by cases h
 | d + 1, 0, s, j, r, h, hf => by omega
 | d + 1, f + 1, s, i, r, h, hf => by
   simp only [pS] at h
   simp only [f25_0d, f25_0b]
   by_cases q : i < (l.length : Int)
   ·rw [if_pos q] at h
    have e : decide (i < (l.length : Int)) = true := by simpa using q
    by_cases p : 0 ≤ i
    ·rw [if_pos p] at h
     have e2 : decide (0 ≤ i) = true := by simpa using p
     rw [e, e2]
     simp only [cond_true, Bool.and_self]
     split at h
     ·rename_i s' hs
      rw [f25_2_def, f25_in hs hk]
      exact f25_out hk h (by omega)
     ·cases h
    ·rw [if_neg p] at h; cases h
   ·rw [if_neg q] at h
    have e : decide (i < (l.length : Int)) = false := by simpa using q
    rw [e, cond_false]
    cases h; rfl
/-! packet.Sum -/
def pPi : Nat → Int → Int → Option Int
 | 0, _, _ => none
 | d + 1, s, j => if j < 8 then pPi d (if (bits .and .i64 (IntKind.i64.wrap (s * 2 ^ 1)) 65536 != 0) = true then bits .xor .i64 (IntKind.i64.wrap (s * 2 ^ 1)) 69665 else IntKind.i64.wrap (s * 2 ^ 1)) (IntKind.i64.wrap (j + 1)) else some s
def pP (l : List Int) : Nat → Int → Int → Option Int
 | 0, _, _ => none
 | d + 1, s, i => if i < (l.length : Int) then (if 0 ≤ i then match pPi 9 (bits .xor .i64 s (IntKind.i64.wrap ((IntKind.i64.wrap (l.getD (Int.toNat i) 0)) * 2 ^ 8))) 0 with
   | some s' => pP l d s' (IntKind.i64.wrap (i + 1))
   | none => none else none) else some s
theorem f13_in {k : Nat} {x2 : Int → Option R} {a : List Int} {b c : Int} : ∀ {d f : Nat} {s j r : Int}, pPi d s j = some r → d ≤ f → f13_2d k x2 a b c f s j = x2 r
 | 0, f, s, j, r, h, _ => by cases h
 | d + 1, 0, s, j, r, h, hf => by omega
 | d + 1, f + 1, s, j, r, h, hf => by
   simp only [pPi] at h
   simp only [f13_2d, f13_2b]
   by_cases q : j < 8
   ·rw [if_pos q] at h
    have e : decide (j < 8) = true := by simpa using q
    rw [e, cond_true, f13_1000010_def]
    simp only [f13_1000010d]
    by_cases p : (bits .and .i64 (IntKind.i64.wrap (s * 2 ^ 1)) 65536 != 0) = true
    ·rw [if_pos p] at h
     rw [p, cond_true]
     exact f13_in h (by omega)
    ·rw [if_neg p] at h
     rw [Bool.not_eq_true] at p
     rw [p, cond_false]
     exact f13_in h (by omega)
   ·rw [if_neg q] at h
    have e : decide (j < 8) = false := by simpa using q
    rw [e, cond_false]
    cases h; rfl
theorem f13_out {k : Nat} (hk : 9 ≤ k) {x0 : Int → Option R} {l : List Int} : ∀ {d f : Nat} {s i r : Int}, pP l d s i = some r → d ≤ f → f13_0d k x0 l (l.length : Int) f s i = x0 r
 | 0, f, s, j, r, h, _ => by cases h
 | d + 1, 0, s, j, r, h, hf => by omega
 | d + 1, f + 1, s, i, r, h, hf => by
   simp only [pP] at h
   simp only [f13_0d, f13_0b]
   by_cases q : i < (l.length : Int)
   ·rw [if_pos q] at h
    have e : decide (i < (l.length : Int)) = true := by simpa using q
    by_cases p : 0 ≤ i
    ·rw [if_pos p] at h
     have e2 : decide (0 ≤ i) = true := by simpa using p
     rw [e, e2]
     simp only [cond_true, Bool.and_self]
     split at h
     ·rename_i s' hs
      rw [f13_2_def, f13_in hs hk]
      exact f13_out hk h (by omega)
     ·cases h
    ·rw [if_neg p] at h; cases h
   ·rw [if_neg q] at h
    have e : decide (i < (l.length : Int)) = false := by simpa using q
    rw [e, cond_false]
    cases h; rfl
/-! memory.Coded -/
def ckV (a : Int) : Bool := bif ((bits .and .i64 a (IntKind.i64.wrap (a - 1)) == 0) == false) then (a == 22) else true
def btV (a : Int) : Int := IntKind.i64.wrap (1 * 2 ^ min (Int.toNat (IntKind.i64.wrap (a - 1))) 64)
theorem f21_eq {k : Nat} (hk : 0 < k) (a : Int) (K : Bool → Option R) : f21 k a K = K (ckV a) := by
 obtain ⟨k, rfl⟩ := succ_of hk
 rw [f21_def]
 simp only [f21d, ckV]
 cases ((bits .and .i64 a (IntKind.i64.wrap (a - 1)) == 0) == false) <;> rfl
theorem f22_eq {k : Nat} (hk : 0 < k) (a : Int) (ha : 0 ≤ IntKind.i64.wrap (a - 1)) (K : Int → Option R) : f22 k a K = K (btV a) := by
 obtain ⟨k, rfl⟩ := succ_of hk
 rw [f22_def]
 have e : decide (0 ≤ IntKind.i64.wrap (a - 1)) = true := by simpa using ha
 simp only [f22d, btV, e, cond_true]
def pM (w : Int) : Nat → Int → Int → Option Int
 | 0, _, _ => none
 | d + 1, n, i => if i < 22 then (if 0 ≤ IntKind.i64.wrap (i - 1) then pM w d (bif bits .and .i64 w (btV i) != 0 then bits .xor .i64 n i else n) (IntKind.i64.wrap (i + 1)) else none) else some n
theorem f23_loop {k : Nat} (hk : 0 < k) {x0 : Int → Option R} {w : Int} : ∀ {d f : Nat} {n i r : Int}, pM w d n i = some r → d ≤ f → f23_0d k x0 w f n i = x0 r
 | 0, f, n, i, r, h, _ => by cases h
 | d + 1, 0, n, i, r, h, hf => by omega
 | d + 1, f + 1, n, i, r, h, hf => by
   simp only [pM] at h
   simp only [f23_0d, f23_0b]
   by_cases q : i < 22
   ·rw [if_pos q] at h
    have e : decide (i < 22) = true := by simpa using q
    by_cases p : 0 ≤ IntKind.i64.wrap (i - 1)
    ·rw [if_pos p] at h
     rw [e, cond_true, f22_eq hk i p, f23_1000006_def]
     simp only [f23_1000006d]
     cases hb : (bits .and .i64 w (btV i) != 0) with
     | true => rw [hb, cond_true] at h; rw [cond_true]; exact f23_loop hk h (by omega)
     | false => rw [hb, cond_false] at h; rw [cond_false]; exact f23_loop hk h (by omega)
    ·rw [if_neg p] at h; cases h
   ·rw [if_neg q] at h
    have e : decide (i < 22) = false := by simpa using q
    rw [e, cond_false]
    cases h; rfl
def pC : Nat → Int → Int → Int → Option Int
 | 0, _, _, _ => none
 | d + 1, w, c, i => if i < 22 then (if 0 ≤ IntKind.i64.wrap (i - 1) then bif !(ckV i) then pC d (Int.fdiv w (2 ^ 1)) (bif bits .and .i64 w 1 != 0 then bits .or .i64 c (btV i) else c) (IntKind.i64.wrap (i + 1)) else pC d w c (IntKind.i64.wrap (i + 1)) else none) else some c
theorem f11_loop {k : Nat} (hk : 0 < k) {x0 : Int → Option R} : ∀ {d f : Nat} {w c i r : Int}, pC d w c i = some r → d ≤ f → f11_0d k x0 f w c i = x0 r
 | 0, f, w, c, i, r, h, _ => by cases h
 | d + 1, 0, w, c, i, r, h, hf => by omega
 | d + 1, f + 1, w, c, i, r, h, hf => by
   simp only [pC] at h
   simp only [f11_0d, f11_0b]
   by_cases q : i < 22
   ·rw [if_pos q] at h
    have e : decide (i < 22) = true := by simpa using q
    by_cases p : 0 ≤ IntKind.i64.wrap (i - 1)
    ·rw [if_pos p] at h
     rw [e, cond_true, f21_eq hk, f11_1000008_def]
     simp only [f11_1000008d, f11_1000009_def, f11_1000009d, f22_eq hk i p]
     cases hc : (!(ckV i)) with
     | true =>
       rw [hc, cond_true] at h
       rw [cond_true]
       cases hb : (bits .and .i64 w 1 != 0) with
       | true => rw [hb, cond_true] at h; rw [cond_true]; exact f11_loop hk h (by omega)
       | false => rw [hb, cond_false] at h; rw [cond_false]; exact f11_loop hk h (by omega)
     | false =>
       rw [hc, cond_false] at h
       rw [cond_false]; exact f11_loop hk h (by omega)
    ·rw [if_neg p] at h; cases h
   ·rw [if_neg q] at h
    have e : decide (i < 22) = false := by simpa using q
    rw [e, cond_false]
    cases h; rfl
def pD (m : Int) : Nat → Int → Int → Option Int
 | 0, _, _ => none
 | d + 1, c, i => if i < 22 then (if 0 ≤ IntKind.i64.wrap (i - 1) then pD m d (bif bits .and .i64 m i != 0 then bits .or .i64 c (btV i) else c) (IntKind.i64.wrap (i * 2)) else none) else some c
theorem f11_loop2 {k : Nat} (hk : 0 < k) {x2 : Int → Option R} {m : Int} : ∀ {d f : Nat} {c i r : Int}, pD m d c i = some r → d ≤ f → f11_2d k x2 m f c i = x2 r
 | 0, f, c, i, r, h, _ => by cases h
 | d + 1, 0, c, i, r, h, hf => by omega
 | d + 1, f + 1, c, i, r, h, hf => by
   simp only [pD] at h
   simp only [f11_2d, f11_2b]
   by_cases q : i < 22
   ·rw [if_pos q] at h
    have e : decide (i < 22) = true := by simpa using q
    by_cases p : 0 ≤ IntKind.i64.wrap (i - 1)
    ·rw [if_pos p] at h
     rw [e, cond_true, f11_1000016_def]
     simp only [f11_1000016d, f22_eq hk i p]
     cases hb : (bits .and .i64 m i != 0) with
     | true => rw [hb, cond_true] at h; rw [cond_true]; exact f11_loop2 hk h (by omega)
     | false => rw [hb, cond_false] at h; rw [cond_false]; exact f11_loop2 hk h (by omega)
    ·rw [if_neg p] at h; cases h
   ·rw [if_neg q] at h
    have e : decide (i < 22) = false := by simpa using q
    rw [e, cond_false]
    cases h; rfl
theorem f24_odd {k : Nat} (hk : 2 < k) (a : Int) (v : Int) (h : ∀ (k : Nat) (K : Int → Option R), f47d (k + 1) (IntKind.u64.wrap a) K = K v) (K : Bool → Option R) : f24 k a K = K (Int.tmod v 2 == 1) := by
 obtain ⟨k, rfl⟩ := succ_of (show 0 < k by omega)
 obtain ⟨k, rfl⟩ := succ_of (show 0 < k by omega)
 obtain ⟨k, rfl⟩ := succ_of (show 0 < k by omega)
 rw [f24_def]
 simp only [f24d]
 rw [f36_def]
 simp only [f36d]
 rw [f47_def]
 exact h _ _
def nine : List Int := [49, 50, 51, 52, 53, 54, 55, 56, 57]
theorem pS_nine : pS nine 10 65535 0 = some 10673 := by decide +kernel
theorem pP_nine : pP nine 10 65535 0 = some 10673 := by decide +kernel
theorem pC_one : pC 22 1 0 1 = some 4 := by decide +kernel
theorem pM_one : pM 4 22 0 1 = some 3 := by decide +kernel
theorem pD_one : pD 3 6 4 1 = some 7 := by decide +kernel
theorem f5_eq {k : Nat} (hk : 40 < k) (K : Bool → Option R) : f5 k K = K true := by
 obtain ⟨k, rfl⟩ := succ_of (show 0 < k by omega)
 obtain ⟨k, rfl⟩ := succ_of (show 0 < k by omega)
 obtain ⟨k, rfl⟩ := succ_of (show 0 < k by omega)
 have e12 : ∀ (K' : Int → Int → Option R), f12 (k + 1 + 1) nine K' = K' 10673 0 := fun K' => by
  rw [f12_def]
  simp only [f12d]
  have : decide ((nine.length : Int) > 262144) = false := by decide
  rw [this, cond_false, f25_def]
  simp only [f25d]
  rw [f25_0_def]
  exact f25_out (by omega) pS_nine (by omega)
 have e13 : ∀ (K' : Int → Option R), f13 (k + 1 + 1) nine K' = K' 10673 := fun K' => by
  rw [f13_def]
  simp only [f13d]
  rw [f13_0_def]
  exact f13_out (by omega) pP_nine (by omega)
 have e11 : ∀ (K' : Int → Int → Option R), f11 (k + 1 + 1) 1 K' = K' 2097159 0 := fun K' => by
  rw [f11_def]
  simp only [f11d]
  rw [f9_eq (by omega), f11_0_def, f11_2_def]
  have : inB 1 0 65535 = true := by decide
  rw [this]
  simp only [Bool.not_true, cond_false]
  rw [f11_loop (by omega) pC_one (by omega), f23_def]
  simp only [f23d]
  rw [f23_0_def, f23_loop (by omega) pM_one (by omega), f11_loop2 (by omega) pD_one (by omega)]
  rw [f24_odd (by omega) 7 3 (fun k K => by rfl)]
  have : (Int.tmod 3 2 == 1) = true := by decide
  rw [this, f11_1000018_def]
  simp only [f11_1000018d, cond_true]
  rw [f22_eq (by omega) 22 (by decide)]
  have : bits .or .i64 7 (btV 22) = 2097159 := by decide +kernel
  rw [this]
 rw [f5_def]
 simp only [f5d]
 rw [e11]
 have hl : decide (0 < ([49, 50, 51, 52, 53, 54, 55, 56, 57] : List Int).length) = true := by decide
 rw [hl]
 simp only [cond_true]
 refine (e12 _).trans ?_
 have h0 : ((0 : Int) == 0) = true := by decide
 have h1 : ((2097159 : Int) == 2097159) = true := by decide
 simp only [h0, h1, BEq.rfl, cond_true]
 refine (e13 _).trans ?_
 have h2 : ((10673 : Int) == 10673) = true := by decide
 rw [h2]
end Go.Proofs.Ytoepnomdklhhlaa.PM
/- Plain laws of rows: what the program writes, and what it reads. -/
set_option linter.unusedSimpArgs false
set_option linter.unusedVariables false
namespace Go.Proofs.Ytoepnomdklhhlaa.PM
open Go Go.Proofs.Ytoepnomdklhhlaa.Bt
variable {R : Type}
theorem wu8 {n : Int} (h0 : 0 ≤ n) (h1 : n ≤ 255) : IntKind.u8.wrap n = n := by
 simp only [IntKind.wrap, IntKind.bits, IntKind.signed]
 simp
 omega
theorem lim1 {n : Nat} (h : n ≤ 1000000000) : decide (n ≤ LIM 1) = true := by rw [decide_eq_true_eq]; simp [LIM]; omega
theorem lim8 {n : Nat} (h : n ≤ 1000000000) : decide (n ≤ LIM 8) = true := by rw [decide_eq_true_eq]; simp [LIM]; omega
theorem f20_loop (k : Nat) (K : List Int → Option R) : ∀ (d f z : Nat) (b : List Int), z < 128 ^ (d + 1) → (z : Int) ≤ 4398046511104 → d < f → b.length + d ≤ 100000000 →
  f20_0d k (fun y0 y1 => bif decide (y1.length + ([IntKind.u8.wrap y0] : List Int).length ≤ LIM 1) then K (y1 ++ [IntKind.u8.wrap y0]) else none) f (z : Int) b = K (b ++ grp d z)
 | d, 0, z, b, _, _, h, _ => by omega
 | 0, f + 1, z, b, hz, _, hf, hb => by
   have e : decide ((z : Int) > 127) = false := by rw [decide_eq_false_iff_not]; omega
   simp only [f20_0d, f20_0b, e, cond_false, List.length_cons, List.length_nil, Nat.zero_add]
   rw [lim1 (by omega), cond_true, wu8 (by omega) (by omega)]
   rfl
 | d + 1, f + 1, z, b, hz, hz2, hf, hb => by
   simp only [grp]
   by_cases q : z ≤ 127
   ·have e : decide ((z : Int) > 127) = false := by rw [decide_eq_false_iff_not]; omega
    simp only [f20_0d, f20_0b, e, cond_false, List.length_cons, List.length_nil, Nat.zero_add]
    rw [lim1 (by omega), cond_true, wu8 (by omega) (by omega), if_pos q]
   ·have e : decide ((z : Int) > 127) = true := by rw [decide_eq_true_eq]; omega
    have w1 : IntKind.i64.wrap ((Int.tmod (z : Int) 128) + 128) = ((z % 128 + 128 : Nat) : Int) := by
     rw [tmod_nn (by omega), wi (by omega) (by omega)]; omega
    have w2 : IntKind.i64.wrap (Int.tdiv (z : Int) 128) = ((z / 128 : Nat) : Int) := by
     rw [tdiv_nn (by omega), wi (by omega) (by omega)]; omega
    have hm := Nat.mod_lt z (show 0 < 128 by decide)
    simp only [f20_0d, f20_0b, e, cond_true, List.length_cons, List.length_nil, Nat.zero_add, w1, w2]
    rw [wu8 (n := ((z % 128 + 128 : Nat) : Int)) (by omega) (by omega), lim1 (by omega), cond_true, if_neg q]
    have h2 : z / 128 < 128 ^ (d + 1) := by
     rw [Nat.div_lt_iff_lt_mul (by decide), ← Nat.pow_succ]; exact hz
    have := f20_loop k K d f (z / 128) (b ++ [((z % 128 + 128 : Nat) : Int)]) h2 (by omega) (by omega) (by simp; omega)
    refine this.trans ?_
    rw [List.append_assoc, List.singleton_append]
theorem f20_eq {k : Nat} (hk : 8 < k) {z : Nat} (hz : z < 4398046511104) (b : List Int) (hb : b.length ≤ 10000000) (K : List Int → Option R) : f20 k (z : Int) b K = K (b ++ grp 5 z) := by
 obtain ⟨k, rfl⟩ := succ_of (show 0 < k by omega)
 rw [f20_def]
 simp only [f20d, f20_0_def]
 exact f20_loop k K 5 k z b (by have : (128 : Nat) ^ (5 + 1) = 4398046511104 := by decide
                                omega) (by omega) (by omega) (by omega)
theorem f10_run (k : Nat) (x2 : Int → Option R) (l : List Int) (last : Int) (i : Nat) (b : List Int) (hl : l.length ≤ 10000000) : ∀ (d f n : Nat), i + n + d = l.length → d < f → n + d ≤ 10000000 →
  f10_2d k x2 l last (i : Int) b f (n : Int) = x2 ((n + runLen last (l.drop (i + n)) : Nat) : Int)
 | d, 0, n, _, h, _ => by omega
 | 0, f + 1, n, h, hf, hn => by
   have w1 : IntKind.i64.wrap ((i : Int) + (n : Int)) = ((i + n : Nat) : Int) := by rw [wi (by omega) (by omega)]; omega
   have e : decide (((i + n : Nat) : Int) < (l.length : Int)) = false := by rw [decide_eq_false_iff_not]; omega
   have h2 : l.drop (i + n) = [] := List.drop_eq_nil_of_le (by omega)
   simp only [f10_2d, f10_2b, w1, e, h2, runLen, Nat.add_zero]
   rfl
 | d + 1, f + 1, n, h, hf, hn => by
   have w1 : IntKind.i64.wrap ((i : Int) + (n : Int)) = ((i + n : Nat) : Int) := by rw [wi (by omega) (by omega)]; omega
   have hlt : i + n < l.length := by omega
   have e : decide (((i + n : Nat) : Int) < (l.length : Int)) = true := by rw [decide_eq_true_eq]; omega
   have e2 : decide ((0 : Int) ≤ ((i + n : Nat) : Int)) = true := by rw [decide_eq_true_eq]; omega
   have w2 : IntKind.i64.wrap ((n : Int) + 1) = ((n + 1 : Nat) : Int) := by rw [wi (by omega) (by omega)]; rfl
   rw [List.drop_eq_getElem_cons hlt]
   simp only [f10_2d, f10_2b, w1, e, e2, w2, BEq.rfl, Bool.and_self, cond_true, Int.toNat_natCast, getD_in hlt, runLen]
   by_cases q : l[i + n] = last
   ·have e3 : (l[i + n] == last) = true := by simpa using q
    rw [e3, cond_true, if_pos q, f10_run k x2 l last i b hl d f (n + 1) (by omega) (by omega) (by omega)]
    congr 1
    rw [show i + (n + 1) = i + n + 1 by omega]
    omega
   ·have e3 : (l[i + n] == last) = false := by simpa using q
    rw [e3, cond_false, if_neg q, Nat.add_zero]
theorem f10_zero (k : Nat) (x5 : List Int → Option R) (l : List Int) (c1 c2 c3 : Int) (n : Nat) (hn : n ≤ 10000000) : ∀ (d f j : Nat) (b : List Int), j + d = n → d < f → b.length + d ≤ 100000000 →
  f10_5d k x5 l c1 c2 c3 (n : Int) f (j : Int) b = x5 (b ++ List.replicate d 0)
 | d, 0, j, b, _, h, _ => by omega
 | 0, f + 1, j, b, h, hf, hb => by
   have e : decide ((j : Int) < (n : Int)) = false := by rw [decide_eq_false_iff_not]; omega
   simp only [f10_5d, f10_5b, e, cond_false, List.replicate_zero, List.append_nil]
 | d + 1, f + 1, j, b, h, hf, hb => by
   have e : decide ((j : Int) < (n : Int)) = true := by rw [decide_eq_true_eq]; omega
   have w2 : IntKind.i64.wrap ((j : Int) + 1) = ((j + 1 : Nat) : Int) := by rw [wi (by omega) (by omega)]; rfl
   simp only [f10_5d, f10_5b, e, cond_true, List.length_cons, List.length_nil, Nat.zero_add, w2]
   rw [lim1 (by omega), cond_true, f10_zero k x5 l c1 c2 c3 n hn d f (j + 1) (b ++ [0]) (by omega) (by omega) (by simp; omega), List.append_assoc, List.singleton_append, ← List.replicate_succ]
theorem f10_loop (k : Nat) (hk : 10000 < k) (x0 : List Int → Option R) (l : List Int) (hl : l.length ≤ 5000) (hv : ∀ v ∈ l, -MM ≤ v ∧ v ≤ MM) : ∀ (d f i : Nat) (last : Int) (b : List Int), l.length ≤ i + d → d < f → i ≤ l.length → -MM ≤ last ∧ last ≤ MM → b.length ≤ 6 * i + 2 →
  f10_0d k x0 l f last (i : Int) b = x0 (b ++ sq d last (l.drop i))
 | d, 0, i, last, b, _, h, _, _, _ => by omega
 | 0, f + 1, i, last, b, h, hf, hi, hla, hb => by
   have e : decide ((i : Int) < (l.length : Int)) = false := by rw [decide_eq_false_iff_not]; omega
   simp only [f10_0d, f10_0b, e, cond_false, sq, List.append_nil]
 | d + 1, f + 1, i, last, b, h, hf, hi, hla, hb => by
   by_cases c : i < l.length
   ·have e : decide ((i : Int) < (l.length : Int)) = true := by rw [decide_eq_true_eq]; omega
    have e0 : decide ((0 : Int) ≤ (i : Int)) = true := by simp
    simp only [f10_0d, f10_0b, e, cond_true, f10_2_def]
    have hrun := fun x2 : Int → Option R => f10_run k x2 l last i b (by omega) (l.length - i) k 0 (by omega) (by omega) (by omega)
    simp only [Nat.add_zero, Nat.zero_add] at hrun
    refine (hrun _).trans ?_
    have hr := run_take last (l.drop i)
    have hrl : runLen last (l.drop i) ≤ l.length - i := by have := hr.2; simp at this; omega
    have hsq : sq (d + 1) last (l.drop i) = (if 3 ≤ runLen last (l.drop i) then 128 :: 0 :: (grp 5 (runLen last (l.drop i)) ++ sq d last ((l.drop i).drop (runLen last (l.drop i)))) else if 0 < runLen last (l.drop i) then List.replicate (runLen last (l.drop i)) 0 ++ sq d last ((l.drop i).drop (runLen last (l.drop i))) else grp 5 (zz (l[i] - last)) ++ sq d l[i] (l.drop (i + 1))) := by
     rw [List.drop_eq_getElem_cons c]; rfl
    rw [hsq]
    generalize runLen last (l.drop i) = n at *
    simp only [f10_1000015_def, f10_1000015d]
    rw [List.drop_drop]
    by_cases c3 : 3 ≤ n
    ·have d3 : decide ((n : Int) ≥ 3) = true := by rw [decide_eq_true_eq]; omega
     have w : IntKind.i64.wrap ((i : Int) + (n : Int)) = ((i + n : Nat) : Int) := by rw [wi (by omega) (by omega)]; omega
     rw [d3, cond_true]
     simp only [List.length_cons, List.length_nil, Nat.zero_add]
     rw [lim1 (by omega), cond_true, f20_eq (by omega) (by omega) _ (by simp; omega), w, if_pos c3]
     have hg := grp_len 5 n
     rw [f10_loop k hk x0 l hl hv d f (i + n) last _ (by omega) (by omega) (by omega) hla (by simp; omega)]
     simp
    ·have d3 : decide ((n : Int) ≥ 3) = false := by rw [decide_eq_false_iff_not]; omega
     rw [d3, cond_false, if_neg c3]
     simp only [f10_1000018_def, f10_1000018d]
     by_cases c0 : 0 < n
     ·have d0 : decide ((n : Int) > 0) = true := by rw [decide_eq_true_eq]; omega
      have w : IntKind.i64.wrap ((i : Int) + (n : Int)) = ((i + n : Nat) : Int) := by rw [wi (by omega) (by omega)]; omega
      rw [d0, cond_true, f10_5_def, if_pos c0]
      have hz := fun x5 : List Int → Option R => f10_zero k x5 l last (i : Int) (n : Int) n (by omega) n k 0 b (by omega) (by omega) (by omega)
      refine (hz _).trans ?_
      rw [w, f10_loop k hk x0 l hl hv d f (i + n) last _ (by omega) (by omega) (by omega) hla (by simp; omega)]
      simp
     ·have d0 : decide ((n : Int) > 0) = false := by rw [decide_eq_false_iff_not]; omega
      have hvi := hv l[i] (List.getElem_mem c)
      unfold MM at hvi hla
      have w1 : IntKind.i64.wrap (l[i] - last) = l[i] - last := wi (by omega) (by omega)
      have w2 : IntKind.i64.wrap (2 * (l[i] - last)) = 2 * (l[i] - last) := wi (by omega) (by omega)
      have w3 : IntKind.i64.wrap ((i : Int) + 1) = ((i + 1 : Nat) : Int) := by rw [wi (by omega) (by omega)]; rfl
      have w4 : IntKind.i64.wrap (IntKind.i64.wrap (0 - 2 * (l[i] - last)) - 1) = -(2 * (l[i] - last)) - 1 := by
       rw [wi (n := 0 - 2 * (l[i] - last)) (by omega) (by omega), wi (by omega) (by omega)]; omega
      rw [d0, cond_false, if_neg c0]
      simp only [e, e0, Bool.and_self, cond_true, Int.toNat_natCast, getD_in c, w1, w2, w3, f10_1000010_def, f10_1000010d, w4]
      have hzz : zz (l[i] - last) < 4398046511104 := by unfold zz; split <;> omega
      have hg := grp_len 5 (zz (l[i] - last))
      have fin : ∀ y : Int, y = (zz (l[i] - last) : Int) → f20 k y b (fun r => f10_0d k x0 l f l[i] ((i + 1 : Nat) : Int) r) = x0 (b ++ (grp 5 (zz (l[i] - last)) ++ sq d l[i] (l.drop (i + 1)))) := fun y hy => by
       rw [hy, f20_eq (by omega) hzz _ (by omega)]
       rw [f10_loop k hk x0 l hl hv d f (i + 1) l[i] _ (by omega) (by omega) (by omega) (hv l[i] (List.getElem_mem c)) (by simp; omega)]
       simp
      by_cases q : 2 * (l[i] - last) < 0
      ·have dq : decide (2 * (l[i] - last) < 0) = true := by simpa using q
       rw [dq, cond_true]
       exact fin _ (by unfold zz; rw [if_pos q]; omega)
      ·have dq : decide (2 * (l[i] - last) < 0) = false := by simpa using q
       rw [dq, cond_false]
       exact fin _ (by unfold zz; rw [if_neg q]; omega)
   ·have e : decide ((i : Int) < (l.length : Int)) = false := by rw [decide_eq_false_iff_not]; omega
    have h2 : l.drop i = [] := List.drop_eq_nil_of_le (by omega)
    simp only [f10_0d, f10_0b, e, cond_false, h2, sq, List.append_nil]
def sqz (l : List Int) : List Int := [((l.length / 256 : Nat) : Int), ((l.length % 256 : Nat) : Int)] ++ sq l.length 0 l
theorem f10_eq {k : Nat} (hk : 10010 < k) (l : List Int) (hl : l.length ≤ 5000) (hv : ∀ v ∈ l, -MM ≤ v ∧ v ≤ MM) (K : List Int → Option R) : f10 k l K = K (sqz l) := by
 obtain ⟨k, rfl⟩ := succ_of (show 0 < k by omega)
 rw [f10_def]
 simp only [f10d, f10_0_def]
 have w1 : IntKind.u8.wrap (IntKind.i64.wrap (Int.tdiv (l.length : Int) 256)) = ((l.length / 256 : Nat) : Int) := by
  rw [tdiv_nn (by omega), wi (by omega) (by omega), wu8 (by omega) (by omega)]; omega
 have w2 : IntKind.u8.wrap (l.length : Int) = ((l.length % 256 : Nat) : Int) := by
  simp only [IntKind.wrap, IntKind.bits, IntKind.signed]
  simp
 rw [w1, w2]
 exact f10_loop k (by omega) K l hl hv l.length k 0 0 _ (by omega) (by omega) (by omega) (by unfold MM; omega) (by simp)
def okV (l : List Int) : Bool := l.all fun v => inB v (-1000000000) 1000000000
theorem f4_loop (k : Nat) (hk : 0 < k) (K : Int → List Int → Option R) (x0 : Option R) (a l : List Int) (hl : l.length ≤ 10000000) : ∀ (d f i : Nat), i + d = l.length → d < f →
  f4_0d k K x0 a l (l.length : Int) f (i : Int) = bif okV (l.drop i) then x0 else K 1 []
 | d, 0, i, _, h => by omega
 | 0, f + 1, i, h, hf => by
   have e : decide ((i : Int) < (l.length : Int)) = false := by rw [decide_eq_false_iff_not]; omega
   have h2 : l.drop i = [] := List.drop_eq_nil_of_le (by omega)
   simp only [f4_0d, f4_0b, e, cond_false, h2, okV, List.all_nil, cond_true]
 | d + 1, f + 1, i, h, hf => by
   have hlt : i < l.length := by omega
   have e : decide ((i : Int) < (l.length : Int)) = true := by rw [decide_eq_true_eq]; omega
   have e0 : decide ((0 : Int) ≤ (i : Int)) = true := by simp
   have w : IntKind.i64.wrap ((i : Int) + 1) = ((i + 1 : Nat) : Int) := by rw [wi (by omega) (by omega)]; rfl
   have ih := f4_loop k hk K x0 a l hl d f (i + 1) (by omega) (by omega)
   rw [List.drop_eq_getElem_cons hlt]
   simp only [f4_0d, f4_0b, e, e0, Bool.and_self, cond_true, Int.toNat_natCast, getD_in hlt, w, f9_eq hk, ih, okV, List.all_cons]
   cases inB l[i] (-1000000000) 1000000000 with
   | true => simp
   | false => simp
theorem f4_eq {k : Nat} (hk : 10020 < k) (l : List Int) (hl : (l.length : Int) ≤ 140737488355328) (K : Int → List Int → Option R) : f4 k l K = if 5000 < l.length then K 2 [] else bif okV l then K 0 (sqz l) else K 1 [] := by
 obtain ⟨k, rfl⟩ := succ_of (show 0 < k by omega)
 rw [f4_def]
 simp only [f4d, f4_0_def]
 by_cases c : 5000 < l.length
 ·have e : decide ((l.length : Int) > 5000) = true := by rw [decide_eq_true_eq]; omega
  rw [e, cond_true, if_pos c]
 ·have e : decide ((l.length : Int) > 5000) = false := by rw [decide_eq_false_iff_not]; omega
  rw [e, cond_false, if_neg c]
  refine (f4_loop k (by omega) K _ l l (by omega) l.length k 0 (by omega) (by omega)).trans ?_
  rw [List.drop_zero]
  cases h : okV l with
  | false => rfl
  | true =>
    rw [cond_true, cond_true]
    refine f10_eq (by omega) l (by omega) (fun v hv => ?_) _
    have := List.all_eq_true.1 h v hv
    exact inB_iff.1 this
end Go.Proofs.Ytoepnomdklhhlaa.PM
/- Plain laws of rows: what is read of what was written. -/
set_option linter.unusedSimpArgs false
set_option linter.unusedVariables false
namespace Go.Proofs.Ytoepnomdklhhlaa.PM
open Go Go.Proofs.Ytoepnomdklhhlaa.Bt
variable {R : Type}
theorem str_inj {l m : List Int} (hl : U8 l) (hm : U8 m) : ((strOf l).toList == (strOf m).toList) = decide (l = m) := by
 have inj : ∀ {l m : List Int}, U8 l → U8 m → l.map (fun n => UInt8.ofNat n.toNat) = m.map (fun n => UInt8.ofNat n.toNat) → l = m := by
  intro l
  induction l with
  | nil => intro m _ _ h; cases m with
    | nil => rfl
    | cons => cases h
  | cons x l ih =>
    intro m hl hm h
    cases m with
    | nil => cases h
    | cons y m =>
      simp only [List.map_cons, List.cons.injEq] at h
      have hx := hl x List.mem_cons_self
      have hy := hm y List.mem_cons_self
      have h1 := congrArg UInt8.toNat h.1
      simp only [UInt8.toNat_ofNat'] at h1
      have : x = y := by omega
      rw [this, ih (fun z hz => hl z (List.mem_cons_of_mem _ hz)) (fun z hz => hm z (List.mem_cons_of_mem _ hz)) h.2]
 rw [ByteArray.toList_eq, ByteArray.toList_eq]
 by_cases h : l = m
 ·rw [h]; simp
 ·simp only [h, decide_false]
  refine beq_eq_false_iff_ne.2 fun e => h (inj hl hm ?_)
  simpa [strOf] using e
theorem f34_eq {k : Nat} (hk : 1 < k) (a : List Int) (hu : U8 a) (K : Bool → Option R) : f34 k a [128, 0] K = K (decide (a.take 2 = [128, 0])) := by
 obtain ⟨k, rfl⟩ := succ_of (show 0 < k by omega)
 obtain ⟨k, rfl⟩ := succ_of (show 0 < k by omega)
 rw [f34_def]
 simp only [f34d, List.length_cons, List.length_nil, Nat.zero_add]
 by_cases c : 2 ≤ a.length
 ·have e : decide ((a.length : Int) ≥ ((2 : Nat) : Int)) = true := by rw [decide_eq_true_eq]; omega
  have e1 : decide ((0 : Int) ≤ ((2 : Nat) : Int)) = true := by decide
  have e3 : decide (((2 : Nat) : Int) ≤ (a.length : Int)) = true := by rw [decide_eq_true_eq]; omega
  have e2 : Int.toNat ((2 : Nat) : Int) = 2 := rfl
  rw [show (1 + 1 : Nat) = 2 from rfl]
  simp only [e, e1, e2, e3, BEq.rfl, Bool.and_self, cond_true]
  rw [f19_def]
  simp only [f19d]
  rw [str_inj (fun x hx => hu x (List.mem_of_mem_take hx)) (fun x hx => by simp at hx; omega)]
 ·have e : decide ((a.length : Int) ≥ ((2 : Nat) : Int)) = false := by rw [decide_eq_false_iff_not]; omega
  rw [show (1 + 1 : Nat) = 2 from rfl, e]
  have : ¬ a.take 2 = [128, 0] := fun w => by
   have := congrArg List.length w
   simp at this
   omega
  rw [decide_eq_false this]
  rfl
theorem num_len : ∀ {d : Nat} {b : List Int} {z : Nat} {r : List Int}, num d b = some (z, r) → r.length < b.length ∧ r = b.drop (b.length - r.length)
 | 0, b, z, r, h => by cases h
 | d + 1, [], z, r, h => by cases h
 | d + 1, c :: b, z, r, h => by
   simp only [num] at h
   split at h
   ·cases h
    refine ⟨by simp, ?_⟩
    rw [show (c :: b).length - b.length = 1 by simp]
    rfl
   ·split at h
    ·rename_i z' r' hn
     cases h
     obtain ⟨i1, i2⟩ := num_len hn
     refine ⟨by simp; omega, ?_⟩
     rw [show (c :: b).length - r.length = (b.length - r.length) + 1 by simp; omega, List.drop_succ_cons]
     exact i2
    ·cases h
theorem num_lt : ∀ {d : Nat} {b : List Int} {z : Nat} {r : List Int}, num d b = some (z, r) → z < 128 ^ d
 | 0, b, z, r, h => by cases h
 | d + 1, [], z, r, h => by cases h
 | d + 1, c :: b, z, r, h => by
   have hp : 0 < 128 ^ d := Nat.pow_pos (by decide)
   simp only [num] at h
   rw [Nat.pow_succ]
   split at h
   ·cases h; omega
   ·split at h
    ·rename_i z' r' hn
     cases h
     have := num_lt hn
     omega
    ·cases h
theorem f35_loop (k : Nat) (K : Int → Int → Option R) (x0 : Option R) (b : List Int) (hu : U8 b) (hb : b.length ≤ 10000000) : ∀ (d f n z : Nat), n + d = 6 → d < f → z < 128 ^ n →
  f35_0d k K x0 b f (z : Int) (n : Int) ((128 ^ n : Nat) : Int) = match num d (b.drop n) with
   | some (z', r) => K ((z + z' * 128 ^ n : Nat) : Int) ((b.length - r.length : Nat) : Int)
   | none => x0
 | d, 0, n, z, _, h, _ => by omega
 | 0, f + 1, n, z, h, hf, hz => by
   have e2 : decide ((n : Int) < 6) = false := by rw [decide_eq_false_iff_not]; omega
   simp only [f35_0d, f35_0b, e2, cond_false, num]
   cases (decide ((n : Int) < (b.length : Int)) == true) <;> rfl
 | d + 1, f + 1, n, z, h, hf, hz => by
   by_cases c : n < b.length
   ·have e : decide ((n : Int) < (b.length : Int)) = true := by rw [decide_eq_true_eq]; omega
    have e0 : decide ((0 : Int) ≤ (n : Int)) = true := by rw [decide_eq_true_eq]; omega
    have e2 : decide ((n : Int) < 6) = true := by rw [decide_eq_true_eq]; omega
    have w1 : IntKind.i64.wrap ((n : Int) + 1) = ((n + 1 : Nat) : Int) := by rw [wi (by omega) (by omega)]; rfl
    have w2 : IntKind.i64.wrap (((n + 1 : Nat) : Int) - 1) = (n : Int) := by rw [wi (by omega) (by omega)]; omega
    have hc := hu b[n] (List.getElem_mem c)
    obtain ⟨C, hC⟩ := Int.eq_ofNat_of_zero_le hc.1
    have hP : 128 ^ n ≤ 34359738368 := by
     have : 128 ^ n ≤ 128 ^ 5 := Nat.pow_le_pow_right (by decide) (by omega)
     simpa using this
    have hPs : 128 ^ (n + 1) = 128 ^ n * 128 := by rw [Nat.pow_succ]
    rw [List.drop_eq_getElem_cons c]
    simp only [f35_0d, f35_0b, e, e0, e2, BEq.rfl, Bool.and_self, cond_true, w1, w2, Int.toNat_natCast, getD_in c, num]
    rw [hC] at hc ⊢
    generalize 128 ^ n = P at *
    have hm : (C % 128) * P ≤ 127 * P := Nat.mul_le_mul_right P (by omega)
    have w3 : IntKind.i64.wrap (Int.tmod (C : Int) 128) = ((C % 128 : Nat) : Int) := by
     rw [tmod_nn (by omega), wi (by omega) (by omega)]; omega
    have w4 : IntKind.i64.wrap (((C % 128 : Nat) : Int) * (P : Int)) = (((C % 128) * P : Nat) : Int) := by
     rw [← Int.natCast_mul, wi (by omega) (by omega)]
    have w5 : IntKind.i64.wrap ((z : Int) + (((C % 128) * P : Nat) : Int)) = ((z + (C % 128) * P : Nat) : Int) := by
     rw [wi (by omega) (by omega)]; omega
    have w6 : IntKind.i64.wrap ((P : Int) * 128) = ((P * 128 : Nat) : Int) := by rw [wi (by omega) (by omega)]; omega
    rw [w3, w4, w5, w6]
    by_cases q : C < 128
    ·have d1 : decide ((C : Int) < 128) = true := by rw [decide_eq_true_eq]; omega
     rw [d1, cond_true, if_pos (show (C : Int) < 128 by omega)]
     have : b.length - (b.drop (n + 1)).length = n + 1 := by simp; omega
     simp only [this, Int.toNat_natCast, Nat.mod_eq_of_lt q]
    ·have d1 : decide ((C : Int) < 128) = false := by rw [decide_eq_false_iff_not]; omega
     rw [d1, cond_false, if_neg (show ¬ (C : Int) < 128 by omega)]
     have ih := f35_loop k K x0 b hu hb d f (n + 1) (z + (C % 128) * P) (by omega) (by omega) (by rw [hPs]; omega)
     rw [hPs] at ih
     rw [ih]
     cases num d (b.drop (n + 1)) with
     | none => rfl
     | some y =>
       obtain ⟨z', r⟩ := y
       simp only [Int.toNat_natCast]
       have : z + C % 128 * P + z' * (P * 128) = z + (C % 128 + 128 * z') * P := by
        rw [Nat.add_mul, Nat.mul_comm P 128, ← Nat.mul_assoc, Nat.mul_comm z' 128, Nat.add_assoc]
       rw [this]
   ·have e : decide ((n : Int) < (b.length : Int)) = false := by rw [decide_eq_false_iff_not]; omega
    have h2 : b.drop n = [] := List.drop_eq_nil_of_le (by omega)
    simp only [f35_0d, f35_0b, e, h2, num]
    rfl
theorem f35_eq {k : Nat} (hk : 8 < k) (b : List Int) (hu : U8 b) (hb : b.length ≤ 10000000) (K : Int → Int → Option R) : f35 k b K = match num 6 b with
   | some (z, r) => K (z : Int) ((b.length - r.length : Nat) : Int)
   | none => K 0 0 := by
 obtain ⟨k, rfl⟩ := succ_of (show 0 < k by omega)
 rw [f35_def]
 simp only [f35d, f35_0_def]
 have := f35_loop k K (K 0 0) b hu hb 6 k 0 0 rfl (by omega) (by decide)
 simp only [List.drop_zero, Nat.pow_zero, Nat.mul_one, Nat.zero_add] at this
 exact this
theorem f18_rep (k : Nat) (x3 : List Int → Option R) (b : List Int) (c1 last : Int) (n : Nat) (hn : n ≤ 10000000) : ∀ (d f j : Nat) (out : List Int), j + d = n → d < f → out.length + d ≤ 100000000 →
  f18_3d k x3 b c1 last (n : Int) f (j : Int) out = x3 (out ++ List.replicate d last)
 | d, 0, j, out, _, h, _ => by omega
 | 0, f + 1, j, out, h, hf, hb => by
   have e : decide ((j : Int) < (n : Int)) = false := by rw [decide_eq_false_iff_not]; omega
   simp only [f18_3d, f18_3b, e, cond_false, List.replicate_zero, List.append_nil]
 | d + 1, f + 1, j, out, h, hf, hb => by
   have e : decide ((j : Int) < (n : Int)) = true := by rw [decide_eq_true_eq]; omega
   have w2 : IntKind.i64.wrap ((j : Int) + 1) = ((j + 1 : Nat) : Int) := by rw [wi (by omega) (by omega)]; rfl
   simp only [f18_3d, f18_3b, e, cond_true, List.length_cons, List.length_nil, Nat.zero_add, w2]
   rw [lim8 (by omega), cond_true, f18_rep k x3 b c1 last n hn d f (j + 1) (out ++ [last]) (by omega) (by omega) (by simp; omega), List.append_assoc, List.singleton_append, ← List.replicate_succ]
theorem f18_loop (k : Nat) (hk : 70000 < k) (K : Bool → List Int → Option R) (x0 : List Int → Option R) (many : Nat) (hm : many ≤ 65535) : ∀ {d f : Nat} {out : List Int} {last : Int} {b o : List Int}, sp d many out last b = some o → d ≤ f → U8 b → out.length ≤ many → -MM ≤ last ∧ last ≤ MM → b.length ≤ 1000000 →
  f18_0d k K x0 (many : Int) f b last out = x0 o
 | 0, f, out, last, b, o, h, _, _, _, _, _ => by cases h
 | d + 1, 0, out, last, b, o, h, hf, _, _, _, _ => by omega
 | d + 1, f + 1, out, last, b, o, h, hf, hu, ho, hl, hb => by
   simp only [sp] at h
   simp only [f18_0d, f18_0b]
   by_cases c : b.length = 0
   ·rw [if_pos c] at h
    cases h
    have e : decide ((b.length : Int) > 0) = false := by rw [decide_eq_false_iff_not]; omega
    rw [e, cond_false]
   ·rw [if_neg c] at h
    have e : decide ((b.length : Int) > 0) = true := by rw [decide_eq_true_eq]; omega
    rw [e, cond_true, f34_eq (by omega) b hu]
    by_cases row : b.take 2 = [128, 0]
    ·rw [if_pos row] at h
     have hlen : 2 ≤ b.length := by
      have := congrArg List.length row
      simp at this
      omega
     have d2 : decide (2 ≤ (b.length : Int)) = true := by rw [decide_eq_true_eq]; omega
     rw [decide_eq_true row, f18_1000010_def]
     simp only [f18_1000010d, d2, cond_true]
     have hud : U8 (b.drop 2) := fun x hx => hu x (List.mem_of_mem_drop hx)
     rw [f35_eq (by omega) _ hud (by simp; omega)]
     split at h
     ·rename_i z r hn
      obtain ⟨n1, n2⟩ := num_len hn
      have hz := num_lt hn
      have p6 : (128 : Nat) ^ 6 = 4398046511104 := by decide
      try rw [hn]
      split at h
      ·cases h
      ·rename_i q1
       split at h
       ·cases h
       ·rename_i q2
        have q2' := not_or.1 q2
        simp only [List.length_append, List.length_replicate] at q2'
        have g0 : (((b.drop 2).length - r.length : Nat) : Int) ≠ 0 := by omega
        have g1 : ((((b.drop 2).length - r.length : Nat) : Int) == 0) = false := by simpa using g0
        have g2 : (decide ((0 : Int) ≤ (((b.drop 2).length - r.length : Nat) : Int)) && decide ((((b.drop 2).length - r.length : Nat) : Int) ≤ ((b.drop 2).length : Int))) = true := by simp
        have wm : IntKind.i64.wrap ((many : Int) - (out.length : Int)) = (many : Int) - out.length := wi (by omega) (by omega)
        have g3 : decide ((z : Int) > (many : Int) - out.length) = false := by rw [decide_eq_false_iff_not]; exact q1
        try dsimp only
        rw [g1, g2, wm, g3]
        simp only [BEq.rfl, cond_true, cond_false, f18_1000022_def, f18_1000022d, f18_3_def, Int.toNat_natCast]
        rw [← n2]
        have hz5 : z ≤ 65535 := by omega
        refine (f18_rep k _ r (many : Int) last z (by omega) z k 0 out (by omega) (by omega) (by omega)).trans ?_
        have g4 : decide (((out ++ List.replicate z last).length : Int) > (many : Int)) = false := by rw [decide_eq_false_iff_not]; simp; omega
        have g5 : inB last (-1000000000) 1000000000 = true := inB_iff.2 (by have := Classical.not_not.1 q2'.2; unfold MM at this; exact this)
        rw [g4, f9_eq (by omega), g5]
        simp only [BEq.rfl, cond_true, Bool.not_true, cond_false]
        exact f18_loop k hk K x0 many hm h (by omega) (fun x hx => hud x (by rw [n2] at hx; exact List.mem_of_mem_drop hx)) (by simp; omega) hl (by simp at n1; omega)
     ·cases h
    ·rw [if_neg row] at h
     rw [decide_eq_false row, f18_1000010_def]
     simp only [f18_1000010d, cond_false]
     rw [f35_eq (by omega) _ hu (by omega)]
     split at h
     ·rename_i z r hn
      obtain ⟨n1, n2⟩ := num_len hn
      have hz := num_lt hn
      have p6 : (128 : Nat) ^ 6 = 4398046511104 := by decide
      try rw [hn]
      split at h
      ·cases h
      ·rename_i q2
       have q2' := not_or.1 q2
       simp only [List.length_append, List.length_cons, List.length_nil, Nat.zero_add] at q2'
       have g0 : ((b.length - r.length : Nat) : Int) ≠ 0 := by omega
       have g1 : (((b.length - r.length : Nat) : Int) == 0) = false := by simpa using g0
       have g2 : (decide ((0 : Int) ≤ ((b.length - r.length : Nat) : Int)) && decide (((b.length - r.length : Nat) : Int) ≤ (b.length : Int))) = true := by simp
       unfold MM at hl
       have w1 : IntKind.i64.wrap ((z : Int) + 1) = (z : Int) + 1 := wi (by omega) (by omega)
       have w2 : IntKind.i64.wrap (Int.tdiv ((z : Int) + 1) 2) = ((z : Int) + 1) / 2 := by rw [tdiv_nn (by omega), wi (by omega) (by omega)]
       have w3 : IntKind.i64.wrap (Int.tdiv (z : Int) 2) = (z : Int) / 2 := by rw [tdiv_nn (by omega), wi (by omega) (by omega)]
       have w4 : IntKind.i64.wrap (last - ((z : Int) + 1) / 2) = last - ((z : Int) + 1) / 2 := wi (by omega) (by omega)
       have w5 : IntKind.i64.wrap (last + (z : Int) / 2) = last + (z : Int) / 2 := wi (by omega) (by omega)
       have w6 : (Int.tmod (z : Int) 2 == 1) = decide (z % 2 = 1) := by
        rw [tmod_nn (by omega), beq_dec, decide_eq_decide]; omega
       have g5 : inB (unz last z) (-1000000000) 1000000000 = true := inB_iff.2 (by have := Classical.not_not.1 q2'.2; unfold MM at this; exact this)
       have g4 : decide (((out ++ [unz last z]).length : Int) > (many : Int)) = false := by rw [decide_eq_false_iff_not]; simp; omega
       try dsimp only
       rw [g1, g2]
       simp only [Bool.false_eq_true, Bool.false_beq, Bool.not_true, cond_true, cond_false, f18_1000022_def, f18_1000022d, f18_1000016_def, f18_1000016d, Int.toNat_natCast, w1, w2, w3, w4, w5, w6]
       rw [← n2]
       have fin : ∀ y : Int, y = unz last z → (bif decide (out.length + ([y] : List Int).length ≤ LIM 8) then (bif (decide (((out ++ [y]).length : Int) > (many : Int)) == false) then f9 k y (-1000000000) 1000000000 (fun r_1 => bif !r_1 then K false [] else f18_0d k K x0 (many : Int) f r y (out ++ [y])) else K false []) else none) = x0 o := fun y hy => by
        subst hy
        simp only [List.length_cons, List.length_nil, Nat.zero_add]
        rw [lim8 (by omega), cond_true, g4, f9_eq (by omega), g5]
        simp only [BEq.rfl, cond_true, Bool.not_true, cond_false]
        exact f18_loop k hk K x0 many hm h (by omega) (fun x hx => hu x (by rw [n2] at hx; exact List.mem_of_mem_drop hx)) (by simp; omega) (Classical.not_not.1 q2'.2) (by omega)
       by_cases p : z % 2 = 1
       ·rw [decide_eq_true p]
        simp only [cond_true]
        exact fin _ (by unfold unz; rw [if_pos p])
       ·rw [decide_eq_false p]
        simp only [cond_false]
        exact fin _ (by unfold unz; rw [if_neg p])
     ·cases h
end Go.Proofs.Ytoepnomdklhhlaa.PM
/- Plain laws: a row is transferred. -/
set_option linter.unusedSimpArgs false
set_option linter.unusedVariables false
namespace Go.Proofs.Ytoepnomdklhhlaa.PM
open Go Go.Proofs.Ytoepnomdklhhlaa.Bt
variable {R : Type}
theorem grp_len2 : ∀ (d e z : Nat), z < 128 ^ (e + 1) → (grp d z).length ≤ e + 1
 | 0, e, z, h => by simp [grp]
 | d + 1, 0, z, h => by
   simp only [grp]
   rw [if_pos (by omega)]
   simp
 | d + 1, e + 1, z, h => by
   simp only [grp]
   split
   ·simp
   ·have := grp_len2 d e (z / 128) (by rw [Nat.div_lt_iff_lt_mul (by decide), ← Nat.pow_succ]; exact h)
    simp; omega
theorem sq_len5 : ∀ (f : Nat) (last : Int) (l : List Int), (∀ v ∈ l, -MM ≤ v ∧ v ≤ MM) → -MM ≤ last ∧ last ≤ MM → l.length ≤ 5000 → (sq f last l).length ≤ 5 * l.length
 | 0, last, l, _, _, _ => Nat.zero_le _
 | f + 1, last, [], _, _, _ => Nat.zero_le _
 | f + 1, last, v :: l, hv, hl, h5 => by
   have hr := run_take last (v :: l)
   simp only [sq]
   simp only [List.length_cons] at h5 ⊢
   generalize hn : runLen last (v :: l) = n at *
   have hlen : n ≤ l.length + 1 := by simpa using hr.2
   have hvd : ∀ w ∈ (v :: l).drop n, -MM ≤ w ∧ w ≤ MM := fun w hw => hv w (List.mem_of_mem_drop hw)
   have hdl : ((v :: l).drop n).length = l.length + 1 - n := by simp
   split
   ·rename_i c
    have i2 := sq_len5 f last ((v :: l).drop n) hvd hl (by omega)
    have gl := grp_len2 5 1 n (by have : (128 : Nat) ^ (1 + 1) = 16384 := by decide
                                  omega)
    simp only [List.length_cons, List.length_append]; omega
   ·split
    ·have i2 := sq_len5 f last ((v :: l).drop n) hvd hl (by omega)
     simp only [List.length_append, List.length_replicate]; omega
    ·have i2 := sq_len5 f v l (fun w hw => hv w (List.mem_cons_of_mem _ hw)) (hv v List.mem_cons_self) (by omega)
     have hv1 := hv v List.mem_cons_self
     have p5 : (128 : Nat) ^ (4 + 1) = 34359738368 := by decide
     have gl := grp_len2 5 4 (zz (v - last)) (by unfold zz MM at *; split <;> omega)
     simp only [List.length_append]; omega
theorem okV_mm {l : List Int} (h : okV l = true) : ∀ v ∈ l, -MM ≤ v ∧ v ≤ MM := fun v hv => inB_iff.1 (List.all_eq_true.1 h v hv)
theorem mm0 : -MM ≤ (0 : Int) ∧ (0 : Int) ≤ MM := by unfold MM; omega
theorem sqz_u8 {l : List Int} (h : okV l = true) (h5 : l.length ≤ 5000) : U8 (sqz l) ∧ (sqz l).length ≤ 2 + 5 * l.length := by
 have hu := (sq_u8 l.length 0 l (okV_mm h) mm0 h5).1
 have hl := sq_len5 l.length 0 l (okV_mm h) mm0 h5
 refine ⟨fun x hx => ?_, by unfold sqz; simp; omega⟩
 unfold sqz at hx
 rcases List.mem_append.1 hx with hx | hx
 ·simp at hx; omega
 ·exact hu x hx
theorem f18_eq {k : Nat} (hk : 100000 < k) {l : List Int} (h : okV l = true) (h5 : l.length ≤ 5000) (K : Bool → List Int → Option R) : f18 k (sqz l) K = K true l := by
 obtain ⟨k, rfl⟩ := succ_of (show 0 < k by omega)
 obtain ⟨u1, u2⟩ := sqz_u8 h h5
 have hs := sq_len5 l.length 0 l (okV_mm h) mm0 h5
 have hlen : (sqz l).length = 2 + (sq l.length 0 l).length := by unfold sqz; simp; omega
 have e0 : (sqz l).getD 0 0 = ((l.length / 256 : Nat) : Int) := rfl
 have e1 : (sqz l).getD 1 0 = ((l.length % 256 : Nat) : Int) := rfl
 have e2 : (sqz l).drop 2 = sq l.length 0 l := rfl
 have w : IntKind.i64.wrap ((IntKind.i64.wrap ((IntKind.i64.wrap ((l.length / 256 : Nat) : Int)) * 256)) + (IntKind.i64.wrap ((l.length % 256 : Nat) : Int))) = (l.length : Int) := by
  rw [wi (n := ((l.length / 256 : Nat) : Int)) (by omega) (by omega), wi (n := ((l.length % 256 : Nat) : Int)) (by omega) (by omega), wi (n := ((l.length / 256 : Nat) : Int) * 256) (by omega) (by omega), wi (by omega) (by omega)]
  omega
 have d0 : decide (((sqz l).length : Int) < 2) = false := by rw [decide_eq_false_iff_not]; omega
 have d1 : decide ((0 : Int) < ((sqz l).length : Int)) = true := by rw [decide_eq_true_eq]; omega
 have d2 : decide ((1 : Int) < ((sqz l).length : Int)) = true := by rw [decide_eq_true_eq]; omega
 have d3 : decide ((2 : Int) ≤ ((sqz l).length : Int)) = true := by rw [decide_eq_true_eq]; omega
 rw [f18_def]
 simp only [f18d, d0, d1, d2, d3, e0, e1, e2, w, cond_true, cond_false, f18_0_def]
 have hsp := sp_sq l.length l 0 [] l.length ((sq l.length 0 l).length + 1) (Nat.le_refl _) (okV_mm h) mm0 (by simp) h5 (Nat.lt_succ_self _)
 rw [List.nil_append] at hsp
 have := fun x0 : List Int → Option R => f18_loop k (by omega) K x0 l.length (by omega) (f := k) hsp (by omega) (fun x hx => u1 x (by rw [← e2] at hx; exact List.mem_of_mem_drop hx)) (by simp) mm0 (by omega)
 refine (this _).trans ?_
 have d4 : decide ((l.length : Int) ≤ 5000) = true := by rw [decide_eq_true_eq]; omega
 simp only [beq_self_eq_true, BEq.rfl, cond_true, d4]
theorem f7_eq {k : Nat} (hk : 100010 < k) {l : List Int} (h : okV l = true) (h5 : l.length ≤ 5000) (K : Int → List Int → Option R) : f7 k (sqz l) K = K 0 l := by
 obtain ⟨k, rfl⟩ := succ_of (show 0 < k by omega)
 obtain ⟨u1, u2⟩ := sqz_u8 h h5
 have d0 : decide (((sqz l).length : Int) > 30000) = false := by rw [decide_eq_false_iff_not]; omega
 rw [f7_def]
 simp only [f7d, d0, cond_false]
 rw [f18_eq (by omega) h h5]
 simp only [Bool.not_true, BEq.rfl, cond_true]
 rw [f10_eq (by omega) l h5 (okV_mm h), f19_refl (by omega)]
 rfl
theorem f8_loop (k : Nat) (K : Bool → Option R) (x0 : Option R) (l : List Int) (hl : l.length < 4611686018427387904) : ∀ (d f i : Nat), i + d = l.length → d < f →
  f8_0d k K x0 l l (l.length : Int) f (i : Int) = x0
 | d, 0, i, _, h => absurd h (Nat.not_lt_zero _)
 | 0, f + 1, i, hi, _ => by
   have h1 : decide ((i : Int) < (l.length : Int)) = false := by simp only [decide_eq_false_iff_not]; omega
   simp only [f8_0d, f8_0b, h1, cond_false]
 | d + 1, f + 1, i, hi, hf => by
   have h1 : decide ((i : Int) < (l.length : Int)) = true := by simp only [decide_eq_true_eq]; omega
   have h0 : decide ((0 : Int) ≤ (i : Int)) = true := by simp
   have hw : IntKind.i64.wrap ((i : Int) + 1) = ((i + 1 : Nat) : Int) := by rw [wi (by omega) (by omega)]; omega
   simp only [f8_0d, f8_0b, h1, h0, cond_true, Bool.and_self, hw, bne_self_eq_false, cond_false]
   exact f8_loop k K x0 l hl d f (i + 1) (by omega) (by omega)
theorem f8_refl {k : Nat} {l : List Int} (hk : l.length + 1 < k) (hl : l.length < 4611686018427387904) (K : Bool → Option R) : f8 k l l K = K true := by
 rw [f8_def]
 obtain ⟨k, rfl⟩ := succ_of hk
 have : ((l.length : Int) != (l.length : Int)) = false := by rw [bne_dec]; simp
 simp only [f8d, f8_0_def, this, cond_false]
 exact f8_loop k K _ l hl l.length k 0 (by omega) (by omega)
theorem f3_eq {k : Nat} (a b c d e : Int) (l : List Int) (l1 l2 : List Bool) (hk : 1500000 < k) (hl : (l.length : Int) ≤ 140737488355328) (K : Bool → Option R) :
  f3 k a b c d e l l1 l2 K = K true := by
 obtain ⟨j, rfl⟩ := succ_of (show 0 < k by omega)
 rw [f3_def]
 simp only [f3d]
 rw [f4_eq (by omega) l hl]
 by_cases h5 : 5000 < l.length
 ·rw [if_pos h5]
  simp [f5_eq (show 40 < j by omega)]
 ·rw [if_neg h5]
  cases hv : okV l with
  | false => simp [f5_eq (show 40 < j by omega)]
  | true =>
    simp only [cond_true, bne_self_eq_false, cond_false]
    obtain ⟨u1, u2⟩ := sqz_u8 hv (by omega)
    rw [f6_eq a b c d e 9 ⟨#[114, 111, 119]⟩ (sqz l) l1 l2 3000 (by show 1400000 + 3 < j; omega) (by show 3 < _; decide) u1]
    have main : (playF a b c d e 9 ⟨#[114, 111, 119]⟩ (sqz l) l1 l2 3000).1 = 0 → GB (sqz l) ⟨#[114, 111, 119]⟩ 9 (playF a b c d e 9 ⟨#[114, 111, 119]⟩ (sqz l) l1 l2 3000).2 ∧ InvB (playF a b c d e 9 ⟨#[114, 111, 119]⟩ (sqz l) l1 l2 3000).2 := fun h => by
     unfold playF at h ⊢
     by_cases h1 : chkFig a b c d e = 0
     ·rw [if_neg (by simp [h1])] at h ⊢
      by_cases h2 : chkFile 9 ⟨#[114, 111, 119]⟩ (sqz l).length = 0
      ·rw [if_neg (by simp [h2])] at h ⊢
       by_cases h3 : 20000 < l1.length ∨ 20000 < l2.length
       ·rw [if_pos h3] at h; cases h
       ·rw [if_neg h3] at h ⊢
        by_cases h4 : inB 3000 0 1000000 = false
        ·rw [if_pos h4] at h; cases h
        ·rw [if_neg h4] at h ⊢
         obtain ⟨r1, r2, r3⟩ := playB_gb (F := sqz l) (N := ⟨#[114, 111, 119]⟩) (I := 9) (3000 : Int).toNat 0 (startB a b c d e 9 ⟨#[114, 111, 119]⟩ (sqz l) l1 l2) (Int.le_refl 0) (start_inv h1 h2 u1) start_gb (fun e => by cases e) h
         exact ⟨r2, r1⟩
      ·rw [if_pos h2] at h; exact absurd h h2
     ·rw [if_pos h1] at h; exact absurd h h1
    generalize playF a b c d e 9 ⟨#[114, 111, 119]⟩ (sqz l) l1 l2 3000 = q at *
    unfold outQ
    by_cases h : q.1 = 0
    ·obtain ⟨g, hi⟩ := main h
     rw [bne0 h, cond_false]
     by_cases s3 : q.2.s.st = 3
     ·have r3 := g.s3 s3
      obtain ⟨d1, d2⟩ := g.gr.done hi.rf r3
      have hne : (q.2.s.st != 3) = false := by simp [s3]
      simp only [hne, bne_self_eq_false, BEq.rfl, cond_true, cond_false, d1]
      rw [f7_eq (by omega) hv (by omega)]
      simp only [BEq.rfl, beq_self_eq_true, cond_true]
      rw [f8_refl (by omega) (by omega)]
      simp only [BEq.rfl, cond_true]
      exact f5_eq (by omega) K
     ·have hne : (q.2.s.st != 3) = true := by simpa using s3
      simp only [hne, bne_self_eq_false, BEq.rfl, cond_true]
      exact f5_eq (by omega) K
    ·rw [bne1 h, cond_true]
     unfold flt
     have hne : (q.1 != 0) = true := bne1 h
     simp only [hne, Bool.true_beq, Bool.not_true, cond_false]
     exact f5_eq (by omega) K
end Go.Proofs.Ytoepnomdklhhlaa.PM
