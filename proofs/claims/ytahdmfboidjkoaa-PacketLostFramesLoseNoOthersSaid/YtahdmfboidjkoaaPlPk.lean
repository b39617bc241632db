/- Packets put into frames: the code and the reference answer alike.  -/
import Derived.Test.YtahdmfboidjkoaaPlFrames
import Derived.Test.YtahdmfboidjkoaaPlSplit
set_option linter.unusedSimpArgs false
set_option linter.unusedVariables false
namespace Go.Proofs.Ytahdmfboidjkoaa.PM
open Go Go.Proofs.Ytahdmfboidjkoaa.Bt Go.Proofs.Ytahdmfboidjkoaa.Crc
variable {R : Type}
abbrev Fr := Int × (Int × (Int × (Int × (List Int × Unit))))
theorem lim56 : 1000000 ≤ LIM 56 := by decide
theorem lim8 : 1000000 ≤ LIM 8 := by decide

def pkE (y : Pkt) : Int := chk y.1 y.2.2.1 y.2.2.2.1 y.2.2.2.2.1
def pkB (y : Pkt) : List Int := raw y.1 y.2.1 y.2.2.1 y.2.2.2.1 y.2.2.2.2.1
/-- The first fault of a list of packets. -/
def pkErrs : List Pkt → Int
  | [] => 0
  | y :: l => if pkE y = 0 then pkErrs l else pkE y
theorem allA (k : Nat) (hk : 2 < k) (K : Int → Option R) (x : Option R) (l : List Pkt) (hl : l.length ≤ 2000) : ∀ (d m i : Nat), i + d = l.length → d < m →
    f83_0d k K x l (l.length : Int) m (i : Int) = if pkErrs (l.drop i) = 0 then x else K (pkErrs (l.drop i))
  | d, 0, i, _, h => absurd h (Nat.not_lt_zero _)
  | 0, m + 1, i, hi, _ => by
    have h1 : decide ((i : Int) < (l.length : Int)) = false := by simp only [decide_eq_false_iff_not]; omega
    simp only [f83_0d, f83_0b, h1, cond_false]
    rw [List.drop_eq_nil_of_le (by omega)]
    simp [pkErrs]
  | d + 1, m + 1, i, hi, hm => by
    have h1 : decide ((i : Int) < (l.length : Int)) = true := by simp only [decide_eq_true_eq]; omega
    have h0 : decide ((0 : Int) ≤ (i : Int)) = true := by simp
    have hli : i < l.length := by omega
    have w2 : IntKind.i64.wrap ((i : Int) + 1) = ((i + 1 : Nat) : Int) := by rw [wraps_i64 _ (by omega) (by omega)]; omega
    have hg : ∀ z : Pkt, l.getD i z = l[i] := fun z => by rw [List.getD_eq_getElem?_getD, List.getElem?_eq_getElem hli]; rfl
    simp only [f83_0d, f83_0b, h1, h0, cond_true, Bool.and_self, Int.toNat_natCast, hg, w2]
    rw [f30_eq k hk, List.drop_eq_getElem_cons hli]
    show (bif pkE l[i] != 0 then _ else _) = _
    by_cases he : pkE l[i] = 0
    · have e : (pkE l[i] != 0) = false := by rw [he]; rfl
      rw [e, cond_false, allA k hk K x l hl d m (i + 1) (by omega) (by omega)]
      simp only [pkErrs, he, if_true]
    · have e : (pkE l[i] != 0) = true := bne_iff_ne.2 he
      rw [e, cond_true]
      simp only [pkErrs, he, if_false]
      rfl
def allE (l : List Pkt) : Int := if 2000 < l.length then 2 else pkErrs l
theorem f83_eq (l : List Pkt) (k : Nat) (hk : 2010 < k) (K : Int → Option R) : f83 k l K = K (allE l) := by
  rw [f83_def]
  obtain ⟨k, rfl⟩ : ∃ j, k = j + 1 := ⟨k - 1, by omega⟩
  simp only [f83d, allE]
  by_cases h2 : 2000 < l.length
  · have c : decide ((l.length : Int) > 2000) = true := by simp only [decide_eq_true_eq]; omega
    rw [c, cond_true, if_pos h2]
  · have c : decide ((l.length : Int) > 2000) = false := by simp only [decide_eq_false_iff_not]; omega
    rw [c, cond_false, f83_0_def, if_neg h2]
    refine Eq.trans (allA k (by omega) K _ l (by omega) l.length k 0 (by omega) (by omega)) ?_
    rw [List.drop_zero]
    by_cases h3 : pkErrs l = 0 <;> simp [h3]
/-- All bytes of packets. -/
def pkAll : List Pkt → List Int
  | [] => []
  | y :: l => pkB y ++ pkAll l
/-- Where they begin, from a place on. -/
def pkSt : Nat → List Pkt → List Int
  | _, [] => []
  | at0, y :: l => (at0 : Int) :: pkSt (at0 + (pkB y).length) l
theorem putA (k : Nat) (hk : 1040 < k) (x : List Int → List Int → Option R) (a b c n : Int) (l : List Pkt) (hl : l.length ≤ 2000) (hb : ∀ y ∈ l, B y.2.2.2.2.1) : ∀ (d m i : Nat) (acc st : List Int), i + d = l.length → d < m → acc.length ≤ i * 1008 → st.length ≤ i → pkErrs (l.drop i) = 0 →
    f48_0d k x a b c n l (l.length : Int) m (i : Int) acc st = x (acc ++ pkAll (l.drop i)) (st ++ pkSt acc.length (l.drop i))
  | d, 0, i, acc, st, _, h, _, _, _ => absurd h (Nat.not_lt_zero _)
  | 0, m + 1, i, acc, st, hi, _, _, _, _ => by
    have h1 : decide ((i : Int) < (l.length : Int)) = false := by simp only [decide_eq_false_iff_not]; omega
    simp only [f48_0d, f48_0b, h1, cond_false]
    rw [List.drop_eq_nil_of_le (by omega)]
    simp [pkAll, pkSt]
  | d + 1, m + 1, i, acc, st, hi, hm, ha, hst, herr => by
    have h1 : decide ((i : Int) < (l.length : Int)) = true := by simp only [decide_eq_true_eq]; omega
    have h0 : decide ((0 : Int) ≤ (i : Int)) = true := by simp
    have hli : i < l.length := by omega
    have w2 : IntKind.i64.wrap ((i : Int) + 1) = ((i + 1 : Nat) : Int) := by rw [wraps_i64 _ (by omega) (by omega)]; omega
    have hg : ∀ z : Pkt, l.getD i z = l[i] := fun z => by rw [List.getD_eq_getElem?_getD, List.getElem?_eq_getElem hli]; rfl
    have hh := hb _ (List.getElem_mem hli)
    rw [List.drop_eq_getElem_cons hli] at herr
    have he : pkE l[i] = 0 := by
      simp only [pkErrs] at herr
      split at herr
      · assumption
      · exact herr
    simp only [pkErrs, he, if_true] at herr
    have hr := chk_right he
    have hr5 := hr.2.2.2
    have hpl : (pkB l[i]).length ≤ 1008 := by unfold pkB; rw [raw_len]; omega
    have l8 := lim8
    simp only [f48_0d, f48_0b, h1, h0, cond_true, Bool.and_self, Int.toNat_natCast, hg, w2]
    rw [bif_le (by simp only [List.length_cons, List.length_nil]; omega), f70_eq hr hh _ k (by omega)]
    show (bif decide (acc.length + (pkB l[i]).length ≤ LIM 1) then f48_0d k x a b c n l (l.length : Int) m ((i + 1 : Nat) : Int) (acc ++ pkB l[i]) (st ++ [(acc.length : Int)]) else none) = _
    rw [bif_le (by rw [LIM1]; omega), putA k hk x a b c n l hl hb d m (i + 1) _ _ (by omega) (by omega) (by rw [List.length_append]; omega) (by simp; omega) herr, List.drop_eq_getElem_cons hli]
    simp only [pkAll, pkSt, List.append_assoc, List.length_append, List.cons_append, List.nil_append]
/-! where the first packet of a frame begins -/
def fst2 (lo hi : Int) : List Int → Int
  | [] => 2047
  | s :: _ => if s < hi then s - lo else 2047
def inn (lo hi s : Int) : Bool := decide (lo ≤ s ∧ s < hi)
def fstI (lo hi : Int) (S : List Int) : Int := match S.find? (inn lo hi) with
  | some s => s - lo
  | none => 2047
def below (hi s : Int) : Bool := decide (s < hi)
theorem find_skip (lo hi : Int) : ∀ S : List Int, S.find? (inn lo hi) = (S.dropWhile (below lo)).find? (inn lo hi)
  | [] => rfl
  | s :: S => by
    by_cases h : s < lo
    · have h1 : below lo s = true := by simp [below, h]
      have h2 : inn lo hi s = false := by simp [inn]; omega
      rw [List.find?_cons, h2, List.dropWhile_cons, h1]
      exact find_skip lo hi S
    · have h1 : below lo s = false := by simp [below]; omega
      rw [List.dropWhile_cons, h1]
      rfl
/-- Not falling. -/
def Asc : List Int → Prop
  | [] => True
  | s :: S => (∀ t ∈ S, s ≤ t) ∧ Asc S
theorem Asc.drop {S : List Int} {p : Int → Bool} : Asc S → Asc (S.dropWhile p) := by
  induction S with
  | nil => intro _; trivial
  | cons s S ih =>
    intro h
    rw [List.dropWhile_cons]
    split
    · exact ih h.2
    · exact h
theorem drop_ge (lo : Int) : ∀ {S : List Int}, Asc S → ∀ t ∈ S.dropWhile (below lo), lo ≤ t
  | [], _, t, ht => by cases ht
  | s :: S, h, t, ht => by
    rw [List.dropWhile_cons] at ht
    split at ht
    · exact drop_ge lo h.2 t ht
    · rename_i hb
      have : lo ≤ s := by simp [below] at hb; omega
      rcases List.mem_cons.1 ht with rfl | ht
      · exact this
      · have := h.1 t ht; omega
theorem fst_eq (lo hi : Int) {S : List Int} (h : Asc S) : fstI lo hi S = fst2 lo hi (S.dropWhile (below lo)) := by
  unfold fstI
  rw [find_skip lo hi S]
  have hge := drop_ge lo h
  have ha := h.drop (p := below lo)
  generalize S.dropWhile (below lo) = Q at *
  cases Q with
  | nil => rfl
  | cons s Q =>
    have h1 := hge s List.mem_cons_self
    show _ = if s < hi then s - lo else 2047
    by_cases h2 : s < hi
    · have : inn lo hi s = true := by simp [inn, h1, h2]
      rw [List.find?_cons, this, if_pos h2]
    · rw [if_neg h2]
      have : (s :: Q).find? (inn lo hi) = none := by
        rw [List.find?_eq_none]
        intro t ht
        have : s ≤ t := by
          rcases List.mem_cons.1 ht with rfl | ht
          · omega
          · exact ha.1 t ht
        simp [inn]; omega
      rw [this]
theorem drop_drop (lo hi : Int) (hlh : lo ≤ hi) : ∀ S : List Int, (S.dropWhile (below lo)).dropWhile (below hi) = S.dropWhile (below hi)
  | [] => rfl
  | s :: S => by
    by_cases h : s < lo
    · have h1 : below lo s = true := by simp [below, h]
      have h2 : below hi s = true := by simp [below]; omega
      rw [List.dropWhile_cons, h1, List.dropWhile_cons, h2]
      exact drop_drop lo hi hlh S
    · have h1 : below lo s = false := by simp [below]; omega
      have e : (s :: S).dropWhile (below lo) = s :: S := by rw [List.dropWhile_cons, h1]; rfl
      rw [e]
theorem starts_ge : ∀ (l : List Pkt) (a : Nat), ∀ t ∈ pkSt a l, (a : Int) ≤ t
  | [], _, t, h => by cases h
  | y :: l, a, t, h => by
    rcases List.mem_cons.1 h with rfl | h
    · omega
    · have := starts_ge l _ t h
      omega
theorem starts_asc : ∀ (l : List Pkt) (a : Nat), Asc (pkSt a l)
  | [], _ => trivial
  | y :: l, a => ⟨fun t ht => by have := starts_ge l _ t ht; omega, starts_asc l _⟩
theorem starts_lt : ∀ (l : List Pkt) (a : Nat), ∀ t ∈ pkSt a l, t ≤ (a + (pkAll l).length : Nat)
  | [], _, t, h => by cases h
  | y :: l, a, t, h => by
    simp only [pkAll, List.length_append]
    rcases List.mem_cons.1 h with rfl | h
    · omega
    · have := starts_lt l _ t h
      omega
theorem asc_app : ∀ {S : List Int} {t : Int}, Asc S → (∀ s ∈ S, s ≤ t) → Asc (S ++ [t])
  | [], t, _, _ => ⟨fun _ h => (by cases h), trivial⟩
  | s :: S, t, h, hs => ⟨fun u hu => by
      rcases List.mem_append.1 hu with hu | hu
      · exact h.1 u hu
      · rcases List.mem_singleton.1 hu with rfl
        exact hs s List.mem_cons_self, asc_app h.2 fun u hu => hs u (List.mem_cons_of_mem _ hu)⟩

theorem firstA (k : Nat) (x4 : List Int → Int → Option R) (a b c : Int) (D i : Nat) (many j : Int) (all : List Int) (fr : List Fr) (e f g : Int) (dt : List Int) (hD : D ≤ 992) (hi : i ≤ 1000) : ∀ (m : Nat) (S : List Int) (v : Int), S.length < m → (∀ s ∈ S, ((i * D : Nat) : Int) ≤ s ∧ s < 4611686018427387904) →
    f48_4d k x4 a b c (D : Int) (i : Int) many j all fr e f g dt m S v = x4 (S.dropWhile (below (((i + 1) * D : Nat) : Int))) (if v = 2047 then fst2 ((i * D : Nat) : Int) (((i + 1) * D : Nat) : Int) S else v)
  | 0, S, v, h, _ => absurd h (Nat.not_lt_zero _)
  | m + 1, [], v, _, _ => by
    have h1 : (decide (((([] : List Int).length : Nat) : Int) > 0) == true) = false := by decide
    simp only [f48_4d, f48_4b, h1, cond_false, List.dropWhile_nil, fst2]
    split
    · rename_i h; rw [h]
    · rfl
  | m + 1, s :: S, v, hm, hS => by
    have hs := hS s List.mem_cons_self
    have h1 : (decide ((((s :: S).length : Nat) : Int) > 0) == true) = true := by simp
    have h2 : decide ((0 : Int) < (((s :: S).length : Nat) : Int)) = true := by simp only [List.length_cons, decide_eq_true_eq]; omega
    have h3 : decide ((1 : Int) ≤ (((s :: S).length : Nat) : Int)) = true := by simp only [List.length_cons, decide_eq_true_eq]; omega
    have e0 : (i + 1) * D = i * D + D := by rw [Nat.add_mul, Nat.one_mul]
    have hb : i * D ≤ 1000 * 992 := Nat.mul_le_mul hi hD
    have w1 : IntKind.i64.wrap ((i : Int) + 1) = ((i + 1 : Nat) : Int) := by rw [wraps_i64 _ (by omega) (by omega)]; omega
    have w2 : IntKind.i64.wrap (((i + 1 : Nat) : Int) * (D : Int)) = (((i + 1) * D : Nat) : Int) := by rw [← Int.natCast_mul, wraps_i64 _ (by omega) (by omega)]
    have w3 : IntKind.i64.wrap ((i : Int) * (D : Int)) = ((i * D : Nat) : Int) := by rw [← Int.natCast_mul, wraps_i64 _ (by omega) (by omega)]
    have w4 : IntKind.i64.wrap (s - ((i * D : Nat) : Int)) = s - ((i * D : Nat) : Int) := wraps_i64 _ (by omega) (by omega)
    have g0 : (s :: S).getD 0 0 = s := rfl
    have t1 : ((s :: S).drop 1).take ((s :: S).length - 1) = S := by simp
    simp only [f48_4d, f48_4b, h1, h2, h3, beq_self_eq_true, cond_true, w1, w2, g0, f48_1000035_def, f48_1000035d, w3, w4, t1]
    by_cases h : s < (((i + 1) * D : Nat) : Int)
    · have c1 : decide (s < (((i + 1) * D : Nat) : Int)) = true := by simpa using h
      have c2 : below (((i + 1) * D : Nat) : Int) s = true := c1
      rw [c1, cond_true, List.dropWhile_cons, c2]
      simp only [if_true, fst2, h]
      by_cases hv : v = 2047
      · have c3 : (v == 2047) = true := by simp [hv]
        rw [c3, cond_true, firstA k x4 a b c D i many j all fr e f g dt hD hi m S _ (by simp at hm; omega) (fun t ht => hS t (List.mem_cons_of_mem _ ht))]
        rw [if_pos hv, if_neg (by omega)]
      · have c3 : (v == 2047) = false := by simp [hv]
        rw [c3, cond_false, firstA k x4 a b c D i many j all fr e f g dt hD hi m S _ (by simp at hm; omega) (fun t ht => hS t (List.mem_cons_of_mem _ ht))]
        rw [if_neg hv, if_neg hv]
    · have c1 : decide (s < (((i + 1) * D : Nat) : Int)) = false := by simpa using h
      have c2 : below (((i + 1) * D : Nat) : Int) s = false := c1
      rw [c1, cond_false, List.dropWhile_cons, c2]
      simp only [Bool.false_eq_true, if_false, fst2, h]
      split
      · rename_i hv; rw [hv]
      · rfl
/-- Frame i of all bytes. -/
def frP (a b n : Int) (D : Nat) (all S : List Int) (i : Nat) : Fr := (a, b, Int.tmod (n + i) 256, fstI ((i * D : Nat) : Int) (((i + 1) * D : Nat) : Int) S, (all.drop (i * D)).take D, ())
theorem framesA (k : Nat) (x : List Fr → Option R) (a b n : Int) (D many : Nat) (all S : List Int) (hD : 16 ≤ D ∧ D ≤ 992) (hn : 0 ≤ n ∧ n ≤ 255) (hmany : many ≤ 1000) (hall : all.length = many * D) (hA : Asc S) (hS : ∀ s ∈ S, 0 ≤ s ∧ s < 4611686018427387904) (hk : S.length + 1 < k) : ∀ (d m i : Nat), i + d = many → d < m →
    f48_2d k x a b n (D : Int) (many : Int) all m (i : Int) (S.dropWhile (below ((i * D : Nat) : Int))) ((List.range i).map (frP a b n D all S)) = x ((List.range many).map (frP a b n D all S))
  | d, 0, i, _, h => absurd h (Nat.not_lt_zero _)
  | 0, m + 1, i, hi, _ => by
    have h1 : decide ((i : Int) < (many : Int)) = false := by simp only [decide_eq_false_iff_not]; omega
    simp only [f48_2d, f48_2b, h1, cond_false]
    rw [show i = many by omega]
  | d + 1, m + 1, i, hi, hm => by
    have h1 : decide ((i : Int) < (many : Int)) = true := by simp only [decide_eq_true_eq]; omega
    have e0 : (i + 1) * D = i * D + D := by rw [Nat.add_mul, Nat.one_mul]
    have hb : i * D ≤ 1000 * 992 := Nat.mul_le_mul (by omega) hD.2
    have hle : (i + 1) * D ≤ many * D := Nat.mul_le_mul_right D (by omega)
    have w0 : IntKind.i64.wrap ((i : Int) * (D : Int)) = ((i * D : Nat) : Int) := by rw [← Int.natCast_mul, wraps_i64 _ (by omega) (by omega)]
    have w1 : IntKind.i64.wrap ((i : Int) + 1) = ((i + 1 : Nat) : Int) := by rw [wraps_i64 _ (by omega) (by omega)]; omega
    have w2 : IntKind.i64.wrap (((i + 1 : Nat) : Int) * (D : Int)) = (((i + 1) * D : Nat) : Int) := by rw [← Int.natCast_mul, wraps_i64 _ (by omega) (by omega)]
    have w3 : IntKind.i64.wrap (n + (i : Int)) = n + i := wraps_i64 _ (by omega) (by omega)
    have c1 : decide ((0 : Int) ≤ ((i * D : Nat) : Int)) = true := by simp only [decide_eq_true_eq]; omega
    have c2 : decide (((i * D : Nat) : Int) ≤ (((i + 1) * D : Nat) : Int)) = true := by simp only [decide_eq_true_eq]; omega
    have c3 : decide ((((i + 1) * D : Nat) : Int) ≤ (all.length : Int)) = true := by simp only [decide_eq_true_eq]; omega
    have e1 : (i + 1) * D - i * D = D := by omega
    simp only [f48_2d, f48_2b, h1, w0, w1, w2, w3, c1, c2, c3, Bool.and_self, cond_true, Int.toNat_natCast, e1]
    rw [f41_eq _ (by rw [List.length_take]; omega) k (by omega), f48_4_def]
    have hdl : (S.dropWhile (below ((i * D : Nat) : Int))).length ≤ S.length := (List.dropWhile_sublist _).length_le
    rw [firstA k _ a b n D i (many : Int) (i : Int) all _ a b _ _ hD.2 (by omega) k _ 2047 (by omega) (fun s hs => ⟨drop_ge _ hA s hs, (hS s ((List.dropWhile_sublist _).subset hs)).2⟩)]
    simp only [if_true]
    have l56 := lim56
    rw [bif_le (by simp only [List.length_map, List.length_range, List.length_cons, List.length_nil]; omega), drop_drop _ _ (by omega), ← fst_eq _ _ hA]
    have hs : (List.range i).map (frP a b n D all S) ++ [frP a b n D all S i] = (List.range (i + 1)).map (frP a b n D all S) := by
      rw [List.range_succ, List.map_append]; rfl
    refine Eq.trans ?_ (framesA k x a b n D many all S hD hn hmany hall hA hS hk d m (i + 1) (by omega) (by omega))
    rw [← hs]
    rfl
theorem pkAll_len {l : List Pkt} (h : pkErrs l = 0) : (pkAll l).length ≤ l.length * 1008 := by
  induction l with
  | nil => simp [pkAll]
  | cons y l ih =>
    have he : pkE y = 0 := by
      simp only [pkErrs] at h
      split at h
      · assumption
      · exact h
    simp only [pkErrs, he, if_true] at h
    have hr5 := (chk_right he).2.2.2
    have := ih h
    have hpl : (pkB y).length ≤ 1008 := by unfold pkB; rw [raw_len]; omega
    simp only [pkAll, List.length_append, List.length_cons]
    omega
theorem pkSt_len : ∀ (l : List Pkt) (a : Nat), (pkSt a l).length = l.length
  | [], _ => rfl
  | y :: l, a => by simp [pkSt, pkSt_len l]
/-- How much is filled up. -/
def free (L D : Nat) : Nat := if (D - L % D) % D = 0 then 0 else if (D - L % D) % D < 9 then (D - L % D) % D + D else (D - L % D) % D
theorem free_mod {L D : Nat} (hD : 0 < D) : (L + free L D) % D = 0 := by
  have h1 := Nat.mod_lt L hD
  have h2 := Nat.div_add_mod L D
  have key : (L + (D - L % D)) % D = 0 := by
    have : L + (D - L % D) = D * (L / D) + D := by omega
    rw [this, Nat.mul_add_mod, Nat.mod_self]
  have k2 : (L + (D - L % D) % D) % D = 0 := by
    rw [Nat.add_mod, Nat.mod_mod, ← Nat.add_mod]; exact key
  unfold free
  split
  · rename_i h; rw [h] at k2; simpa using k2
  · split
    · rw [← Nat.add_assoc, Nat.add_mod_right]; exact k2
    · exact k2
def zeros (n : Nat) : List Int := List.replicate n 0
theorem zeros_B (n : Nat) : B (zeros n) := fun x hx => by
  have := List.eq_of_mem_replicate hx
  omega
/-- An idle packet that fills so much. -/
def idle (f : Nat) : List Int := raw 2047 false 3 0 (zeros (f - 8))
def padB (l : List Int) (D : Nat) : List Int := if free l.length D = 0 then l else l ++ idle (free l.length D)
def padS (S : List Int) (l : List Int) (D : Nat) : List Int := if free l.length D = 0 then S else S ++ [(l.length : Int)]
theorem free_bounds {L D : Nat} (hD : 16 ≤ D ∧ D ≤ 992) (h : free L D ≠ 0) : 9 ≤ free L D ∧ free L D ≤ 1000 := by
  have h1 := Nat.mod_lt (D - L % D) (show 0 < D by omega)
  unfold free at h ⊢
  split
  · rename_i g; rw [if_pos g] at h; exact absurd rfl h
  · split <;> omega
theorem padB_len {l : List Int} {D : Nat} (hD : 16 ≤ D ∧ D ≤ 992) : (padB l D).length = l.length + free l.length D := by
  unfold padB
  split
  · rename_i h; omega
  · rename_i h
    have := free_bounds hD h
    rw [List.length_append, idle, raw_len, zeros, List.length_replicate]
    omega
theorem freeI {L D : Nat} (hD : 16 ≤ D ∧ D ≤ 992) (hL : L ≤ 3000000) : Int.tmod (IntKind.i64.wrap ((D : Int) - (Int.tmod (L : Int) (D : Int)))) (D : Int) = (((D - L % D) % D : Nat) : Int) := by
  have h1 := Nat.mod_lt L (show 0 < D by omega)
  have e0 : Int.tmod (L : Int) (D : Int) = ((L % D : Nat) : Int) := by rw [Int.tmod_eq_emod_of_nonneg (a := (L : Int)) (by omega)]; exact (Int.natCast_emod L D).symm
  rw [e0]
  have e : (D : Int) - ((L % D : Nat) : Int) = ((D - L % D : Nat) : Int) := by omega
  rw [e, wraps_i64 ((D - L % D : Nat) : Int) (by omega) (by omega), Int.tmod_eq_emod_of_nonneg (a := ((D - L % D : Nat) : Int)) (by omega)]
  exact (Int.natCast_emod _ D).symm
theorem idleRight {f : Nat} (h : 9 ≤ f ∧ f ≤ 1000) : Right 2047 3 0 (zeros (f - 8)) := by
  unfold Right zeros
  rw [List.length_replicate]
  omega
theorem padA (k : Nat) (hk : 1100 < k) (x : List Int → List Int → Option R) (a b n : Int) (D : Nat) (l S : List Int) (hD : 16 ≤ D ∧ D ≤ 992) (hl : l.length ≤ 3000000) (hS : S.length ≤ 2000) :
    f48_1000021 k x a b n (D : Int) (((D - l.length % D) % D : Nat) : Int) (decide ((((D - l.length % D) % D : Nat) : Int) > 0)) l S = x (padB l D) (padS S l D) := by
  have l8 := lim8
  have hm := Nat.mod_lt (D - l.length % D) (show 0 < D by omega)
  simp only [f48_1000021_def, f48_1000021d, f48_1000022_def, f48_1000022d, padB, padS]
  by_cases h : (D - l.length % D) % D = 0
  · have hf : free l.length D = 0 := by unfold free; rw [if_pos h]
    rw [h, hf]; rfl
  · have c1 : decide ((((D - l.length % D) % D : Nat) : Int) > 0) = true := by simp only [decide_eq_true_eq]; omega
    have hf0 : free l.length D ≠ 0 := by unfold free; rw [if_neg h]; split <;> omega
    have hb := free_bounds hD hf0
    have hfin : ∀ z : Int, z = (free l.length D : Int) → (bif decide (S.length + ([(l.length : Int)] : List Int).length ≤ LIM 8) then (bif (decide ((0 : Int) ≤ IntKind.i64.wrap ((IntKind.i64.wrap (z - (9 : Int))) + (1 : Int))) && (decide (IntKind.i64.wrap ((IntKind.i64.wrap (z - (9 : Int))) + (1 : Int)) ≤ IntKind.i64.wrap ((IntKind.i64.wrap (z - (9 : Int))) + (1 : Int))) && decide (IntKind.i64.wrap ((IntKind.i64.wrap (z - (9 : Int))) + (1 : Int)) ≤ (LIM 1 : Int)))) then (f70 k (2047 : Int) false (3 : Int) (0 : Int) (List.replicate (Int.toNat (IntKind.i64.wrap ((IntKind.i64.wrap (z - (9 : Int))) + (1 : Int)))) (0 : Int)) (fun r51206_0 => (bif decide (l.length + r51206_0.length ≤ LIM 1) then (x (l ++ r51206_0) (S ++ ([(l.length : Int)] : List Int))) else none))) else none) else none) = x (l ++ idle (free l.length D)) (S ++ [(l.length : Int)]) := by
      intro z hz
      subst hz
      generalize free l.length D = q at *
      have w1 : IntKind.i64.wrap ((q : Int) - 9) = (q : Int) - 9 := wraps_i64 _ (by omega) (by omega)
      have w2 : IntKind.i64.wrap ((q : Int) - 9 + 1) = ((q - 8 : Nat) : Int) := by rw [wraps_i64 _ (by omega) (by omega)]; omega
      have c2 : decide ((0 : Int) ≤ ((q - 8 : Nat) : Int)) = true := by simp only [decide_eq_true_eq]; omega
      have c3 : decide (((q - 8 : Nat) : Int) ≤ ((q - 8 : Nat) : Int)) = true := by simp
      have c4 : decide (((q - 8 : Nat) : Int) ≤ (LIM 1 : Int)) = true := by rw [LIM1]; simp only [decide_eq_true_eq]; omega
      rw [bif_le (by simp only [List.length_cons, List.length_nil]; omega), w1, w2, c2, c3, c4]
      simp only [Bool.and_self, cond_true, Int.toNat_natCast]
      rw [show List.replicate (q - 8) (0 : Int) = zeros (q - 8) from rfl, f70_eq (idleRight hb) (zeros_B _) false k (by rw [zeros, List.length_replicate]; omega)]
      show (bif decide (l.length + (idle q).length ≤ LIM 1) then _ else none) = _
      have : (idle q).length ≤ 1008 := by rw [idle, raw_len, zeros, List.length_replicate]; omega
      rw [bif_le (by rw [LIM1]; omega)]
      rfl
    rw [c1, cond_true, if_neg hf0, if_neg hf0]
    by_cases h9 : (D - l.length % D) % D < 9
    · have c5 : decide ((((D - l.length % D) % D : Nat) : Int) < 9) = true := by simp only [decide_eq_true_eq]; omega
      rw [c5, cond_true]
      exact hfin _ (by rw [wraps_i64 _ (by omega) (by omega)]; unfold free; rw [if_neg h, if_pos h9]; omega)
    · have c5 : decide ((((D - l.length % D) % D : Nat) : Int) < 9) = false := by simp only [decide_eq_false_iff_not]; omega
      rw [c5, cond_false]
      exact hfin _ (by unfold free; rw [if_neg h, if_neg h9])
def packE (a b n size : Int) (l : List Pkt) : Int :=
  if ¬(24 ≤ size ∧ size ≤ 1000) then 1 else if ¬((0 ≤ a ∧ a ≤ 65535) ∧ (0 ≤ b ∧ b ≤ 7) ∧ (0 ≤ n ∧ n ≤ 255)) then 1 else if allE l ≠ 0 then allE l
  else if 1000 < (padB (pkAll l) (size - 8).toNat).length / (size - 8).toNat then 2 else 0
def packL (a b n size : Int) (l : List Pkt) : List Fr := if packE a b n size l = 0 then
  (List.range ((padB (pkAll l) (size - 8).toNat).length / (size - 8).toNat)).map (frP a b n (size - 8).toNat (padB (pkAll l) (size - 8).toNat) (padS (pkSt 0 l) (pkAll l) (size - 8).toNat)) else []
theorem chkF_pack {a b n size : Int} (h : 24 ≤ size ∧ size ≤ 1000) : chkF a b n 0 (zeros (size - 8).toNat) size = if (0 ≤ a ∧ a ≤ 65535) ∧ (0 ≤ b ∧ b ≤ 7) ∧ (0 ≤ n ∧ n ≤ 255) then 0 else 1 := by
  have hl : ((zeros (size - 8).toNat).length : Int) = size - 8 := by rw [zeros, List.length_replicate]; omega
  unfold chkF
  rw [hl, if_neg (not_not_intro h)]
  by_cases h1 : 0 ≤ a ∧ a ≤ 65535
  · rw [if_neg (not_not_intro h1)]
    by_cases h2 : 0 ≤ b ∧ b ≤ 7
    · rw [if_neg (not_not_intro h2)]
      by_cases h3 : 0 ≤ n ∧ n ≤ 255
      · rw [if_neg (not_not_intro h3), if_neg (not_not_intro rfl), if_neg (by decide), if_neg (not_not_intro ⟨by omega, by omega⟩), if_pos ⟨h1, h2, h3⟩]
      · rw [if_pos h3, if_neg (fun h => h3 h.2.2)]
    · rw [if_pos h2, if_neg (fun h => h2 h.2.1)]
  · rw [if_pos h1, if_neg (fun h => h1 h.1)]
theorem allE_zero {l : List Pkt} (h : allE l = 0) : l.length ≤ 2000 ∧ pkErrs l = 0 := by
  unfold allE at h
  split at h
  · cases h
  · exact ⟨by omega, h⟩
theorem padS_ok {l : List Pkt} (h : allE l = 0) (D : Nat) : Asc (padS (pkSt 0 l) (pkAll l) D) ∧ (∀ s ∈ padS (pkSt 0 l) (pkAll l) D, 0 ≤ s ∧ s < 4611686018427387904) ∧ (padS (pkSt 0 l) (pkAll l) D).length ≤ 2001 := by
  obtain ⟨h1, h2⟩ := allE_zero h
  have hl := pkAll_len h2
  have lt : ∀ t ∈ pkSt 0 l, t ≤ ((pkAll l).length : Int) := fun t ht => by have := starts_lt l 0 t ht; omega
  have ge : ∀ t ∈ pkSt 0 l, 0 ≤ t := fun t ht => by have := starts_ge l 0 t ht; omega
  have ln := pkSt_len l 0
  unfold padS
  split
  · exact ⟨starts_asc l 0, fun s hs => ⟨ge s hs, by have := lt s hs; omega⟩, by omega⟩
  · refine ⟨asc_app (starts_asc l 0) lt, fun s hs => ?_, by simp; omega⟩
    rcases List.mem_append.1 hs with hs | hs
    · exact ⟨ge s hs, by have := lt s hs; omega⟩
    · rcases List.mem_singleton.1 hs with rfl
      omega

theorem f48_eq {l : List Pkt} (hb : ∀ y ∈ l, B y.2.2.2.2.1) (a b n size : Int) (k : Nat) (hk : 4000 < k) (K : Int → List Fr → Option R) : f48 k a b n size l K = K (packE a b n size l) (packL a b n size l) := by
  rw [f48_def]
  obtain ⟨k, rfl⟩ : ∃ j, k = j + 1 := ⟨k - 1, by omega⟩
  simp only [f48d, f75_eq k (show 2 < k by omega), chkN]
  by_cases h1 : 24 ≤ size ∧ size ≤ 1000
  · have w : IntKind.i64.wrap (size - 8) = ((size - 8).toNat : Int) := by rw [wraps_i64 _ (by omega) (by omega)]; omega
    have hc := chkF_pack (a := a) (b := b) (n := n) h1
    simp only [h1, and_self, if_true, bne_self_eq_false, cond_false, w]
    unfold packL packE
    rw [if_neg (not_not_intro h1)]
    have hD : 16 ≤ (size - 8).toNat ∧ (size - 8).toNat ≤ 992 := by omega
    generalize (size - 8).toNat = D at *
    have c2 : decide ((0 : Int) ≤ (D : Int)) = true := by simp
    have c3 : decide ((D : Int) ≤ (D : Int)) = true := by simp
    have c4 : decide ((D : Int) ≤ (LIM 1 : Int)) = true := by rw [LIM1]; simp only [decide_eq_true_eq]; omega
    simp only [c2, c3, c4, Bool.and_self, cond_true, Int.toNat_natCast]
    rw [show List.replicate D (0 : Int) = zeros D from rfl, f35_eq k (by omega) _ _ _ _ _ _ (by rw [zeros, List.length_replicate]; omega), hc]
    by_cases h2 : (0 ≤ a ∧ a ≤ 65535) ∧ (0 ≤ b ∧ b ≤ 7) ∧ (0 ≤ n ∧ n ≤ 255)
    · rw [if_pos h2, if_neg (not_not_intro h2)]
      simp only [bne_self_eq_false, cond_false]
      rw [f83_eq l k (by omega)]
      by_cases h3 : allE l = 0
      · obtain ⟨hl, he⟩ := allE_zero h3
        have hal := pkAll_len he
        obtain ⟨hA, hS, hSl⟩ := padS_ok h3 D
        have hz : (!((D : Int) == 0)) = true := by
          have : ((D : Int) == 0) = false := beq_eq_false_iff_ne.2 (by omega)
          rw [this]; rfl
        have e3 : (allE l != 0) = false := by rw [h3]; rfl
        rw [e3, cond_false, if_neg (not_not_intro h3), f48_0_def]
        refine Eq.trans (putA k (by omega) _ a b n size l hl hb l.length k 0 [] [] (by omega) (by omega) (by simp) (by simp) (by rw [List.drop_zero]; exact he)) ?_
        simp only [List.drop_zero, List.nil_append, List.length_nil, hz, cond_true]
        have ln := pkSt_len l 0
        rw [freeI hD (by omega), padA k (by omega) _ a b n D (pkAll l) (pkSt 0 l) hD (by omega) (by omega)]
        have hpl := padB_len (l := pkAll l) hD
        have hmod : (padB (pkAll l) D).length % D = 0 := by rw [hpl]; exact free_mod (by omega)
        have hfb : free (pkAll l).length D ≤ 1000 := by
          by_cases hf : free (pkAll l).length D = 0
          · omega
          · exact (free_bounds hD hf).2
        have hdv : IntKind.i64.wrap (Int.tdiv ((padB (pkAll l) D).length : Int) (D : Int)) = (((padB (pkAll l) D).length / D : Nat) : Int) := by
          have h0 := Nat.div_le_self (padB (pkAll l) D).length D
          rw [Int.tdiv_eq_ediv_of_nonneg (by omega), show ((padB (pkAll l) D).length : Int) / (D : Int) = (((padB (pkAll l) D).length / D : Nat) : Int) from (Int.natCast_ediv _ _).symm]
          generalize (padB (pkAll l) D).length / D = z at *
          exact wraps_i64 _ (by omega) (by omega)
        have hml : (padB (pkAll l) D).length = (padB (pkAll l) D).length / D * D := by
          have := Nat.div_add_mod (padB (pkAll l) D).length D
          rw [Nat.mul_comm] at this
          omega
        simp only [hz, cond_true, hdv]
        by_cases h4 : 1000 < (padB (pkAll l) D).length / D
        · have c5 : decide ((((padB (pkAll l) D).length / D : Nat) : Int) > 1000) = true := by simp only [decide_eq_true_eq]; omega
          rw [c5, cond_true, if_pos h4]
          rfl
        · have c5 : decide ((((padB (pkAll l) D).length / D : Nat) : Int) > 1000) = false := by simp only [decide_eq_false_iff_not]; omega
          rw [c5, cond_false, if_neg h4, if_pos rfl, f48_2_def]
          have hfr := framesA k (fun y => K 0 y) a b n D ((padB (pkAll l) D).length / D) (padB (pkAll l) D) (padS (pkSt 0 l) (pkAll l) D) hD h2.2.2 (by omega) hml hA hS (by omega) ((padB (pkAll l) D).length / D) k 0 (by omega) (by omega)
          refine Eq.trans ?_ hfr
          have hdrop : (padS (pkSt 0 l) (pkAll l) D).dropWhile (below ((0 * D : Nat) : Int)) = padS (pkSt 0 l) (pkAll l) D := by
            cases hq : padS (pkSt 0 l) (pkAll l) D with
            | nil => rfl
            | cons s S =>
              have := (hS s (by rw [hq]; exact List.mem_cons_self)).1
              have hb0 : below ((0 * D : Nat) : Int) s = false := by simp only [below, Nat.zero_mul, decide_eq_false_iff_not]; omega
              rw [List.dropWhile_cons, hb0]; rfl
          rw [hdrop]
          rfl
      · have e3 : (allE l != 0) = true := bne_iff_ne.2 h3
        rw [e3, cond_true, if_pos h3, if_neg h3]
    · rw [if_neg h2, if_pos h2]
      rfl
  · simp only [h1, if_false, packL, packE, not_false_eq_true, if_true]; rfl
theorem packL_ok (a b n size : Int) (l : List Pkt) : (packL a b n size l).length ≤ 1000 ∧ ∀ y ∈ packL a b n size l, y.2.2.2.2.1.length ≤ 1000 := by
  unfold packL
  split
  · rename_i h
    unfold packE at h
    split at h
    · cases h
    · rename_i h1
      split at h
      · cases h
      · split at h
        · rename_i h3; exact absurd h h3
        · split at h
          · cases h
          · refine ⟨by rw [List.length_map, List.length_range]; omega, fun y hy => ?_⟩
            obtain ⟨i, _, rfl⟩ := List.mem_map.1 hy
            simp only [frP, List.length_take]
            omega
  · exact ⟨by simp, fun y hy => by cases hy⟩
end Go.Proofs.Ytahdmfboidjkoaa.PM
