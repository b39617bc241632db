/- Plain laws of signed commands: no counter is opened twice. -/
import Derived.Test.YtadkplikobhckaaPlOnceS
set_option linter.unusedSimpArgs false
set_option linter.unusedVariables false
namespace Go.Proofs.Ytadkplikobhckaa.PM
open Go Go.Proofs.Ytadkplikobhckaa.Bt
variable {R : Type}
/-- What opens keys right leaves them right. -/
theorem openF_ok {c n : Int} {l b : List Int} (h : KeysOk n l) (ho : (openF c n l b).code = 0) : (openF c n l b).key = c ∧ KeysOk (openF c n l b).least (openF c n l b).taken := by
  unfold openF at ho ⊢
  split at ho
  · simp [notOpen] at ho
  split at ho
  · simp [notOpen] at ho
  split at ho
  · simp [notOpen] at ho
  split at ho
  · simp [notOpen] at ho
  split at ho
  · simp [notOpen] at ho
  split at ho
  · simp [notOpen] at ho
  split at ho
  · simp [notOpen] at ho
  rename_i h1 h2 h3 h4 h5 h6 h7
  rw [if_neg h1, if_neg h2, if_neg h3, if_neg h4, if_neg h5, if_neg h6, if_neg h7]
  exact ⟨rfl, (see_ok h (fun hm => h6 ((contains_iff _ _).2 hm)) (by omega) (by omega) (by omega)).1⟩
structure AllS where
  key : Int
  least : Int
  taken : List Int
  bodies : List (List Int)
  codes : List Int
noncomputable def allS : Int → Int → List Int → List (List Int) → List Int → List (List Int) → AllS
  | c, n, l, bs, cs, [] => ⟨c, n, l, bs, cs⟩
  | c, n, l, bs, cs, b :: r =>
    if (openF c n l b).code = 0 then allS (openF c n l b).key (openF c n l b).least (openF c n l b).taken (bs ++ [(openF c n l b).body]) (cs ++ [(openF c n l b).code]) r
    else allS c n l bs (cs ++ [(openF c n l b).code]) r
theorem f52_loop (k : Nat) (hk : 1000 < k) (x0 : Int → Int → List Int → List (List Int) → List Int → Option R) (L : List (List Int)) (w6 w7 : Int) (hL : L.length ≤ 100000) (hB : ∀ b ∈ L, B b) :
    ∀ (d i f : Nat) (c n : Int) (l : List Int) (bs : List (List Int)) (cs : List Int), KeysOk n l → bs.length ≤ i → cs.length ≤ i → i + d = L.length → d < f →
      f52_0d k x0 L (L.length : Int) w6 w7 f (i : Int) c n l bs cs = (fun s : AllS => x0 s.key s.least s.taken s.bodies s.codes) (allS c n l bs cs (L.drop i)) := by
  intro d
  induction d with
  | zero =>
    intro i f c n l bs cs hO h1 h2 hi hf
    obtain ⟨f, rfl⟩ := succ_of hf
    have h : decide ((i : Int) < (L.length : Int)) = false := by simp only [decide_eq_false_iff_not]; omega
    have hd : L.drop i = [] := List.drop_eq_nil_of_le (by omega)
    simp only [f52_0d, f52_0b, h, cond_false, hd, allS]
  | succ d ih =>
    intro i f c n l bs cs hO hb1 hb2 hi hf
    obtain ⟨f, rfl⟩ := succ_of (show 0 < f by omega)
    have h1 : decide ((i : Int) < (L.length : Int)) = true := by simp only [decide_eq_true_eq]; omega
    have h2 : decide ((0 : Int) ≤ (i : Int)) = true := by simp only [decide_eq_true_eq]; omega
    have hlt : i < L.length := by omega
    have hw : IntKind.i64.wrap ((i : Int) + 1) = ((i + 1 : Nat) : Int) := by rw [wi (by omega) (by omega)]; rfl
    have hd : L.drop i = L[i] :: L.drop (i + 1) := List.drop_eq_getElem_cons hlt
    have hbi := hB L[i] (List.getElem_mem hlt)
    simp only [f52_0d, f52_0b, h1, h2, Bool.and_self, cond_true, Int.toNat_natCast, getD_in hlt, hw]
    rw [f84_eq c n l L[i] hO.len hO.lo hO.hi hbi (by omega)]
    have hc8 : ∀ z : Int, decide (cs.length + ([z] : List Int).length ≤ LIM 8) = true := fun z => by rw [decide_eq_true_eq, show LIM 8 = 17592186044416 by decide, List.length_singleton]; omega
    have hb24 : ∀ z : List Int, decide (bs.length + ([z] : List (List Int)).length ≤ LIM 24) = true := fun z => by rw [decide_eq_true_eq, show LIM 24 = 5864062014805 by decide, List.length_singleton]; omega
    simp only [Opened.on, f52_1000014_def, f52_1000014d, hc8, hb24, cond_true, hd, allS]
    by_cases ho : (openF c n l L[i]).code = 0
    · have e : ((openF c n l L[i]).code == 0) = true := by simp [ho]
      simp only [e, cond_true, if_pos ho]
      exact ih (i + 1) f _ _ _ _ _ (openF_ok hO ho).2 (by simp; omega) (by simp; omega) (by omega) (by omega)
    · have e : ((openF c n l L[i]).code == 0) = false := by simp [ho]
      simp only [e, cond_false, if_neg ho]
      exact ih (i + 1) f _ _ _ _ _ hO (by omega) (by simp; omega) (by omega) (by omega)
structure All6 where
  key : Int
  least : Int
  code : Int
  taken : List Int
  bodies : List (List Int)
  codes : List Int
noncomputable def allF (c n : Int) (l : List Int) (L : List (List Int)) : All6 :=
  if keysF c n l ≠ 0 then ⟨0, 0, keysF c n l, [], [], []⟩ else if 2000 < L.length then ⟨0, 0, 2, [], [], []⟩
  else ⟨(allS c n l [] [] L).key, (allS c n l [] [] L).least, 0, (allS c n l [] [] L).taken, (allS c n l [] [] L).bodies, (allS c n l [] [] L).codes⟩
theorem f52_eq {k : Nat} (hk : 3000 < k) (c n : Int) (l : List Int) (L : List (List Int)) (hB : ∀ b ∈ L, B b) (hL : L.length < 2 ^ 60) (K : Int → Int → Int → List Int → List (List Int) → List Int → Option R) :
    f52 k c n l L K = (fun s : All6 => K s.key s.least s.code s.taken s.bodies s.codes) (allF c n l L) := by
  obtain ⟨j, rfl⟩ := succ_of (show 0 < k by omega)
  rw [f52_def]
  simp only [f52d]
  rw [f48_eq (by omega)]
  by_cases hK : keysF c n l = 0
  · obtain ⟨_, hO⟩ := (keysF_iff c n l).1 hK
    have h64 := hO.len
    simp only [hK, bne_self_eq_false, cond_false, allF, ne_eq, not_true_eq_false, if_false]
    by_cases h2 : 2000 < L.length
    · have e : decide ((L.length : Int) > 2000) = true := by rw [decide_eq_true_eq]; omega
      simp only [e, cond_true, if_pos h2]
    · have e : decide ((L.length : Int) > 2000) = false := by rw [decide_eq_false_iff_not]; omega
      simp only [e, cond_false, if_neg h2]
      rw [f86_eq (by omega) l (by omega), f52_0_def]
      exact f52_loop j (by omega) (fun y0 y1 y2 y5 y6 => K y0 y1 0 y2 y5 y6) L 0 0 (by omega) hB L.length 0 j c n l [] [] hO (by simp) (by simp) (by omega) (by omega)
  · have e : (keysF c n l != 0) = true := by simp [hK]
    simp only [e, cond_true, allF, ne_eq, hK, not_false_eq_true, if_true]
/-! counters that are signed one after another -/
def body2 (v : Int) : List Int := [1, IntKind.u8.wrap v]
def sg (c v : Int) : List Int := signB c v (body2 v)
theorem body2_B (v : Int) : B (body2 v) := fun x hx => by
  simp only [body2, List.mem_cons, List.not_mem_nil, or_false] at hx
  rcases hx with rfl | rfl
  · omega
  · rw [wrap_u8_eq]; omega
theorem f47_eq {k : Nat} (hk : 0 < k) (a : Int) (K : Int → Option R) : f47 k a 128 K = K (a % 128) := by
  obtain ⟨j, rfl⟩ := succ_of hk
  rw [f47_def]
  have h : (!((128 : Int) == 0)) = true := by decide
  have ht : Int.tmod a 128 = a % 128 - ((if 0 ≤ a ∨ (128 : Int) ∣ a then 0 else 128 : Nat) : Int) := Int.tmod_eq_emod
  simp only [f47d, h, cond_true, f47_1000003_def, f47_1000003d]
  by_cases hn : Int.tmod a 128 < 0
  · have e : decide (Int.tmod a 128 < 0) = true := decide_eq_true hn
    have hw : IntKind.i64.wrap (Int.tmod a 128 + 128) = a % 128 := by
      split at ht
      · omega
      · rw [wi (by omega) (by omega)]; omega
    simp only [e, cond_true, hw]
  · have e : decide (Int.tmod a 128 < 0) = false := decide_eq_false hn
    have hw : Int.tmod a 128 = a % 128 := by split at ht <;> omega
    simp only [e, cond_false]
    rw [hw]
def ownF (c n : Int) : List Int → List Int
  | [] => []
  | x :: l => if signErr c (n + x % 128) (body2 (n + x % 128)) = 0 then (n + x % 128) :: ownF c n l else ownF c n l
theorem ownF_ok (c n : Int) : ∀ (l : List Int), ∀ v ∈ ownF c n l, signErr c v (body2 v) = 0
  | [], v, h => by cases h
  | x :: l, v, h => by
    simp only [ownF] at h
    split at h
    · rename_i h1
      rcases List.mem_cons.1 h with rfl | h
      · exact h1
      · exact ownF_ok c n l v h
    · exact ownF_ok c n l v h
theorem ownF_len (c n : Int) : ∀ (l : List Int), (ownF c n l).length ≤ l.length
  | [] => Nat.le_refl _
  | x :: l => by
    have := ownF_len c n l
    simp only [ownF]
    split <;> simp only [List.length_cons] <;> omega
theorem f13_loop (k : Nat) (hk : 300 < k) (x0 : List (List Int) → List Int → Option R) (A : List Int) (c n : Int) (l : List Int) (hA : A.length < 2 ^ 61) (h0 : 0 ≤ n) (h1 : n ≤ 1000000001) :
    ∀ (d i f : Nat) (own : List Int), own.length ≤ i → i ≤ 100 → i + d = A.length → min d (100 - i) < f →
      f13_0d k x0 A (A.length : Int) c n l f (i : Int) (own.map (sg c)) own = (fun o : List Int => x0 (o.map (sg c)) o) (own ++ ownF c n ((A.drop i).take (100 - i))) := by
  intro d
  induction d with
  | zero =>
    intro i f own ho hi' hi hf
    obtain ⟨f, rfl⟩ := succ_of (show 0 < f by omega)
    have h : decide ((i : Int) < (A.length : Int)) = false := by simp only [decide_eq_false_iff_not]; omega
    have hd : A.drop i = [] := List.drop_eq_nil_of_le (by omega)
    simp only [f13_0d, f13_0b, h, cond_false, hd, List.take_nil, ownF, List.append_nil]
  | succ d ih =>
    intro i f own ho hi' hi hf
    obtain ⟨f, rfl⟩ := succ_of (show 0 < f by omega)
    have e1 : decide ((i : Int) < (A.length : Int)) = true := by simp only [decide_eq_true_eq]; omega
    have e2 : decide ((0 : Int) ≤ (i : Int)) = true := by simp only [decide_eq_true_eq]; omega
    have hlt : i < A.length := by omega
    have hw : IntKind.i64.wrap ((i : Int) + 1) = ((i + 1 : Nat) : Int) := by rw [wi (by omega) (by omega)]; rfl
    by_cases h100 : i = 100
    · have e3 : decide ((i : Int) ≥ 100) = true := by rw [decide_eq_true_eq]; omega
      subst h100
      simp only [f13_0d, f13_0b, e1, e2, e3, cond_true, Bool.and_self, Nat.sub_self, List.take_zero, ownF, List.append_nil]
    · have e3 : decide ((i : Int) ≥ 100) = false := by rw [decide_eq_false_iff_not]; omega
      have hd : (A.drop i).take (100 - i) = A[i] :: (A.drop (i + 1)).take (100 - (i + 1)) := by
        rw [List.drop_eq_getElem_cons hlt, show 100 - i = (100 - (i + 1)) + 1 by omega, List.take_succ_cons]
      have hw2 : IntKind.i64.wrap (n + A[i] % 128) = n + A[i] % 128 := wi (by omega) (by omega)
      simp only [f13_0d, f13_0b, e1, e2, e3, cond_true, cond_false, Bool.and_self, Int.toNat_natCast, getD_in hlt, hw, f47_eq (show 0 < k by omega), hw2]
      have e0 : ∀ v : Int, ([1, IntKind.u8.wrap v] : List Int) = body2 v := fun _ => rfl
      simp only [e0]
      rw [f49_eq (by omega), hd]
      simp only [f13_1000012_def, f13_1000012d, ownF]
      by_cases hS : signErr c (n + A[i] % 128) (body2 (n + A[i] % 128)) = 0
      · have l24 : decide ((own.map (sg c)).length + ([signB c (n + A[i] % 128) (body2 (n + A[i] % 128))] : List (List Int)).length ≤ LIM 24) = true := by rw [decide_eq_true_eq, show LIM 24 = 5864062014805 by decide, List.length_singleton, List.length_map]; omega
        have l8 : decide (own.length + ([n + A[i] % 128] : List Int).length ≤ LIM 8) = true := by rw [decide_eq_true_eq, show LIM 8 = 17592186044416 by decide, List.length_singleton]; omega
        simp only [signF, if_pos hS, BEq.rfl, cond_true, l24, l8]
        have := ih (i + 1) f (own ++ [n + A[i] % 128]) (by simp; omega) (by omega) (by omega) (by omega)
        rw [List.map_append, List.append_assoc] at this
        exact this
      · have e : (signErr c (n + A[i] % 128) (body2 (n + A[i] % 128)) == 0) = false := by simp [hS]
        simp only [signF, if_neg hS, e, cond_false]
        exact ih (i + 1) f own (by omega) (by omega) (by omega) (by omega)
/-! what becomes of them -/
noncomputable def walkC (c : Int) : Int → List Int → List Int → List Int
  | _, _, [] => []
  | n, l, v :: r => if (openF c n l (sg c v)).code = 0 then 0 :: walkC c (openF c n l (sg c v)).least (openF c n l (sg c v)).taken r else (openF c n l (sg c v)).code :: walkC c n l r
theorem walkC_len (c : Int) : ∀ (r : List Int) (n : Int) (l : List Int), (walkC c n l r).length = r.length
  | [], _, _ => rfl
  | v :: r, n, l => by simp only [walkC]; split <;> simp [walkC_len c r]
theorem allS_walk (c : Int) : ∀ (r : List Int) (n : Int) (l : List Int) (bs : List (List Int)) (cs : List Int), KeysOk n l →
    (allS c n l bs cs (r.map (sg c))).codes = cs ++ walkC c n l r ∧ (allS c n l bs cs (r.map (sg c))).bodies.length = bs.length + (walkC c n l r).count 0
  | [], n, l, bs, cs, h => by simp [allS, walkC]
  | v :: r, n, l, bs, cs, h => by
    simp only [List.map_cons, allS, walkC]
    by_cases ho : (openF c n l (sg c v)).code = 0
    · obtain ⟨h1, h2⟩ := openF_ok h ho
      simp only [if_pos ho, h1]
      obtain ⟨g1, g2⟩ := allS_walk c r _ _ (bs ++ [(openF c n l (sg c v)).body]) (cs ++ [(openF c n l (sg c v)).code]) h2
      rw [g1, g2, ho]
      refine ⟨by simp, ?_⟩
      rw [List.length_append, List.length_singleton, List.count_cons]
      simp
      omega
    · simp only [if_neg ho]
      obtain ⟨g1, g2⟩ := allS_walk c r n l bs (cs ++ [(openF c n l (sg c v)).code]) h
      rw [g1, g2]
      refine ⟨by simp, ?_⟩
      rw [List.count_cons]
      have e : ((openF c n l (sg c v)).code == 0) = false := by simp [ho]
      simp [e]
/-- The walk over what came: those that are opened so far; none if one is opened that was. -/
def chkF (S : List Int) : List Int → List Int → List Int → Option (List Int)
  | v :: vs, e :: es, op => if e = 0 then (if op.contains v then none else if S.contains v then none else chkF S vs es (op ++ [v])) else chkF S vs es op
  | _, _, op => some op
theorem chkF_walk (c : Int) (S : List Int) : ∀ (r : List Int) (n : Int) (l op : List Int), KeysOk n l → (∀ v ∈ r, signErr c v (body2 v) = 0) → (∀ x, x ∈ op ∨ x ∈ S → x < n ∨ x ∈ l) →
    ∃ q, chkF S r (walkC c n l r) op = some q ∧ q.length = op.length + (walkC c n l r).count 0
  | [], n, l, op, h, hv, hs => ⟨op, by simp [chkF, walkC], by simp [walkC]⟩
  | v :: r, n, l, op, h, hv, hs => by
    have hS := hv v (List.mem_cons_self ..)
    obtain ⟨_, hv1, _⟩ := signErr_ok hS
    have ho := open_signed c n v l (body2 v) hS
    change openF c n l (sg c v) = _ at ho
    have hr : ∀ w ∈ r, signErr c w (body2 w) = 0 := fun w hw => hv w (List.mem_cons_of_mem _ hw)
    simp only [walkC]
    by_cases a1 : v < n
    · rw [if_pos a1] at ho
      rw [ho]
      obtain ⟨q, g1, g2⟩ := chkF_walk c S r n l op h hr hs
      refine ⟨q, ?_, ?_⟩
      · simpa [chkF, notOpen] using g1
      · simpa [notOpen, List.count_cons] using g2
    rw [if_neg a1] at ho
    cases a2 : l.contains v with
    | true =>
      rw [a2, if_pos rfl] at ho
      rw [ho]
      obtain ⟨q, g1, g2⟩ := chkF_walk c S r n l op h hr hs
      refine ⟨q, ?_, ?_⟩
      · simpa [chkF, notOpen] using g1
      · simpa [notOpen, List.count_cons] using g2
    | false =>
      rw [a2, if_neg (by simp)] at ho
      by_cases a3 : n + 64 < v
      · rw [if_pos a3] at ho
        rw [ho]
        obtain ⟨q, g1, g2⟩ := chkF_walk c S r n l op h hr hs
        refine ⟨q, ?_, ?_⟩
        · simpa [chkF, notOpen] using g1
        · simpa [notOpen, List.count_cons] using g2
      · rw [if_neg a3] at ho
        have hvl : v ∉ l := fun hm => by rw [(contains_iff l v).2 hm] at a2; cases a2
        obtain ⟨g1, g2⟩ := see_ok h hvl (by omega) (by omega) hv1.2
        rw [ho]
        have hnot : ∀ x, x ∈ op ∨ x ∈ S → x ≠ v := fun x hx e => by
          subst e
          rcases hs x hx with hx | hx
          · exact a1 hx
          · exact hvl hx
        have n1 : op.contains v = false := by
          rw [Bool.eq_false_iff]; intro h'; exact hnot v (.inl ((contains_iff _ _).1 h')) rfl
        have n2 : S.contains v = false := by
          rw [Bool.eq_false_iff]; intro h'; exact hnot v (.inr ((contains_iff _ _).1 h')) rfl
        obtain ⟨q, q1, q2⟩ := chkF_walk c S r _ _ (op ++ [v]) g1 hr (fun x hx => by
          refine g2 x ?_
          rcases hx with hx | hx
          · rw [List.mem_append] at hx
            rcases hx with hx | hx
            · rcases hs x (.inl hx) with h | h
              · exact .inl h
              · exact .inr (.inl h)
            · exact .inr (.inr (by simpa using hx))
          · rcases hs x (.inr hx) with h | h
            · exact .inl h
            · exact .inr (.inl h))
        refine ⟨q, ?_, ?_⟩
        · simp only [if_true, chkF, n1, n2, Bool.false_eq_true, if_false]
          exact q1
        · simp only [if_true, List.count_cons, q2, List.length_append, List.length_singleton, BEq.rfl]
          omega
theorem f13_2_loop (k : Nat) (K : Bool → Option R) (x2 : List Int → Option R) (own S cs : List Int) (bs : List (List Int)) (w2 w3 : Int) (hl : cs.length = own.length) (hc : own.length ≤ 100) (hS : S.length ≤ 64) (hk : 300 < k) :
    ∀ (d i f : Nat) (op : List Int), op.length ≤ i → i + d = own.length → d < f →
      f13_2d k K x2 (cs.length : Int) w2 w3 S own bs cs f (i : Int) op = (match chkF S (own.drop i) (cs.drop i) op with | none => K false | some q => x2 q) := by
  intro d
  induction d with
  | zero =>
    intro i f op ho hi hf
    obtain ⟨f, rfl⟩ := succ_of hf
    have h : decide ((i : Int) < (cs.length : Int)) = false := by simp only [decide_eq_false_iff_not]; omega
    have hd : own.drop i = [] := List.drop_eq_nil_of_le (by omega)
    simp only [f13_2d, f13_2b, h, cond_false, hd, chkF]
  | succ d ih =>
    intro i f op ho hi hf
    obtain ⟨f, rfl⟩ := succ_of (show 0 < f by omega)
    have h1 : decide ((i : Int) < (cs.length : Int)) = true := by simp only [decide_eq_true_eq]; omega
    have h2 : decide ((0 : Int) ≤ (i : Int)) = true := by simp only [decide_eq_true_eq]; omega
    have h3 : decide ((i : Int) < (own.length : Int)) = true := by simp only [decide_eq_true_eq]; omega
    have hlt : i < cs.length := by omega
    have hlo : i < own.length := by omega
    have hw : IntKind.i64.wrap ((i : Int) + 1) = ((i + 1 : Nat) : Int) := by rw [wi (by omega) (by omega)]; rfl
    have l8 : decide (op.length + ([own[i]] : List Int).length ≤ LIM 8) = true := by rw [decide_eq_true_eq, show LIM 8 = 17592186044416 by decide, List.length_singleton]; omega
    rw [List.drop_eq_getElem_cons hlt, List.drop_eq_getElem_cons hlo]
    simp only [f13_2d, f13_2b, f13_3_def, f13_3d, h1, h2, h3, Bool.and_self, cond_true, Int.toNat_natCast, getD_in hlt, getD_in hlo, hw, chkF, l8]
    by_cases e : cs[i] = 0
    · have e' : (cs[i] != 0) = false := by simp [e]
      simp only [e', cond_false, if_pos e]
      rw [f51_eq op (by omega) (by omega)]
      cases op.contains own[i] with
      | true => rfl
      | false =>
        simp only [BEq.rfl, cond_true, Bool.false_eq_true, if_false]
        rw [f51_eq S (by omega) (by omega)]
        cases S.contains own[i] with
        | true => rfl
        | false =>
          simp only [cond_false, Bool.false_eq_true, if_false]
          exact ih (i + 1) f (op ++ [own[i]]) (by simp; omega) (by omega) (by omega)
    · have e' : (cs[i] != 0) = true := by simp [e]
      simp only [e', cond_true, if_neg e]
      exact ih (i + 1) f op (by omega) (by omega) (by omega)
theorem f13_eq {k : Nat} (c n : Int) (l A : List Int) (hA : A.length < 2 ^ 61) (hk : 4000 < k) (K : Bool → Option R) : f13 k c n l A K = K true := by
  obtain ⟨j, rfl⟩ := succ_of (show 0 < k by omega)
  rw [f13_def]
  simp only [f13d]
  rw [f48_eq (by omega)]
  by_cases hK : keysF c n l = 0
  · obtain ⟨hc, hO⟩ := (keysF_iff c n l).1 hK
    simp only [hK, bne_self_eq_false, cond_false]
    rw [f13_0_def]
    have hloop := f13_loop (R := R) j (by omega) (fun y0_0_3 y0_0_4 => (f52 j c n l y0_0_3 (fun r30722_0 r30722_1 r30722_2 r30722_3 r30722_4 r30722_5 => (bif ((r30722_2 != 0) == false) then (bif ((r30722_5.length : Int) != (y0_0_3.length : Int)) then (K false) else (f13_2 j K (fun y2_2_1 => (bif (((r30722_4.length : Int) == (y2_2_1.length : Int)) == true) then (f21 j (fun r55302_0 => (K r55302_0))) else (K false))) (r30722_5.length : Int) c n l y0_0_4 r30722_4 r30722_5 j 0 ([] : List Int))) else (K false))))) A c n l hA hO.lo hO.hi A.length 0 j [] (by simp) (by omega) (by omega) (by omega)
    refine hloop.trans ?_
    simp only [List.nil_append, Nat.sub_zero, List.drop_zero]
    have hown := ownF_ok c n (A.take 100)
    have hlen : (ownF c n (A.take 100)).length ≤ 100 := Nat.le_trans (ownF_len c n _) (by rw [List.length_take]; omega)
    generalize ownF c n (A.take 100) = own at hown hlen ⊢
    have hBs : ∀ b ∈ own.map (sg c), B b := fun b hb => by
      obtain ⟨v, _, rfl⟩ := List.mem_map.1 hb
      exact signB_B c v (body2_B v)
    rw [f52_eq (by omega) c n l _ hBs (by rw [List.length_map]; omega)]
    obtain ⟨g1, g2⟩ := allS_walk c own n l [] [] hO
    have hall : allF c n l (own.map (sg c)) = ⟨(allS c n l [] [] (own.map (sg c))).key, (allS c n l [] [] (own.map (sg c))).least, 0, (allS c n l [] [] (own.map (sg c))).taken, (allS c n l [] [] (own.map (sg c))).bodies, (allS c n l [] [] (own.map (sg c))).codes⟩ := by
      unfold allF
      rw [if_neg (by simp [hK]), if_neg (by rw [List.length_map]; omega)]
    rw [hall]
    simp only [g1, List.nil_append, bne_self_eq_false, BEq.rfl, cond_true]
    have hwl := walkC_len c own n l
    have e1 : (((walkC c n l own).length : Int) != ((own.map (sg c)).length : Int)) = false := by rw [hwl, List.length_map]; simp
    simp only [e1, cond_false]
    rw [f13_2_def]
    have h2 := f13_2_loop (R := R) j K (fun y2_2_1 => (bif ((((allS c n l [] [] (own.map (sg c))).bodies.length : Int) == (y2_2_1.length : Int)) == true) then (f21 j (fun r55302_0 => (K r55302_0))) else (K false))) own l (walkC c n l own) (allS c n l [] [] (own.map (sg c))).bodies c n hwl hlen hO.len (by omega) own.length 0 j [] (by simp) (by omega) (by omega)
    refine h2.trans ?_
    obtain ⟨q, q1, q2⟩ := chkF_walk c l own n l [] hO hown (fun x hx => by rcases hx with hx | hx; cases hx; exact .inr hx)
    simp only [List.drop_zero, q1]
    have e2 : (((allS c n l [] [] (own.map (sg c))).bodies.length : Int) == (q.length : Int)) = true := by
      rw [g2, q2]; simp
    simp only [e2, BEq.rfl, cond_true, f21_eq (show 6 < j by omega)]
  · have e : (keysF c n l != 0) = true := by simp [hK]
    simp only [e, cond_true, f21_eq (show 6 < j by omega)]
end Go.Proofs.Ytadkplikobhckaa.PM
