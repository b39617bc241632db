import Derived.Test.YtecnlienmpdlaaaGreatPlC
set_option linter.unusedSimpArgs false
set_option linter.unusedVariables false
namespace Go.Proofs.YtecnlienmpdlaaaGreat.PM
open Go Go.Proofs.YtecnlienmpdlaaaGreat.Bt
noncomputable section
variable {R : Type}
def gtV (a c : Ver) : Prop := c.1 < a.1
theorem Q1ca (a : Ver) : ¬ gtV a a := fun h => by
 have h : (show Int from a.1) < (show Int from a.1) := h
 omega
theorem Q13c (a c : Ver) : gtV a c → ¬ gtV c a := fun h h' => by
 have h : (show Int from c.1) < (show Int from a.1) := h
 have h' : (show Int from a.1) < (show Int from c.1) := h'
 omega
theorem Q13d {a c e : Ver} (h : gtV a c) (h' : gtV c e) : gtV a e := by
 have h : (show Int from c.1) < (show Int from a.1) := h
 have h' : (show Int from e.1) < (show Int from c.1) := h'
 show (show Int from e.1) < (show Int from a.1)
 omega
theorem Q1a7 (k : Nat) (P : List Fnd) (nm : BA) (y1 : Int) (g : Int) (out : List Ver) (ho : out.length ≤ 4096) : ∀ (i f : Nat), i ≤ out.length → i < f →
  ∃ j, j ≤ i ∧ (∀ z ∈ (out.take i).drop j, (show Int from z.1) < g) ∧ (∀ z, (out.take j).getLast? = some z → ¬ (show Int from z.1) < g) ∧ ∀ x2 : Int → Oq R, Q6w k x2 P nm y1 g out f (i : Int) = x2 (j : Int)
 | i, 0, _, h => absurd h (Nat.not_lt_zero _)
 | 0, f + 1, _, _ => by
   have d0 : decide (((0 : Nat) : Int) > 0) = false := by decide
   refine ⟨0, Nat.le_refl _, fun z hz => by simp at hz, fun z hz => by simp at hz, fun x2 => ?_⟩
   simp only [Q6w, Q12i, d0]
   rfl
 | i + 1, f + 1, hi, hf => by
   have hil : i < out.length := by omega
   have d0 : decide (((i + 1 : Nat) : Int) > 0) = true := dT (by omega)
   have w1 : IntKind.i64.wrap (((i + 1 : Nat) : Int) - 1) = (i : Int) := wj (by omega)
   have d1 : decide ((0 : Int) ≤ (i : Int)) = true := by simp
   have d2 : decide ((i : Int) < (out.length : Int)) = true := dT (by omega)
   have st : ∀ x2 : Int → Oq R, Q6w k x2 P nm y1 g out (f + 1) ((i + 1 : Nat) : Int) = bif decide ((show Int from out[i].1) < g) then Q6w k x2 P nm y1 g out f (i : Int) else x2 ((i + 1 : Nat) : Int) := fun x2 => by
    simp only [Q6w, Q12i, d0, w1, d1, d2, cond_true, Bool.and_self, beq_self_eq_true, Int.toNat_natCast, Qiq hil]
   have etk : out.take (i + 1) = out.take i ++ [out[i]] := List.take_succ_eq_append_getElem hil
   by_cases hc : (show Int from out[i].1) < g
   ·rw [show decide ((show Int from out[i].1) < g) = true from decide_eq_true hc] at st
    obtain ⟨j, h1, h2, h3, h4⟩ := Q1a7 k P nm y1 g out ho i f (by omega) (by omega)
    refine ⟨j, by omega, fun z hz => ?_, h3, fun x2 => (st x2).trans (h4 x2)⟩
    rw [etk, List.drop_append_of_le_length (by rw [List.length_take]; omega)] at hz
    rcases List.mem_append.1 hz with hz | hz
    ·exact h2 z hz
    ·rw [List.mem_singleton] at hz; rw [hz]; exact hc
   ·rw [show decide ((show Int from out[i].1) < g) = false from decide_eq_false hc] at st
    refine ⟨i + 1, Nat.le_refl _, fun z hz => ?_, fun z hz => ?_, fun x2 => st x2⟩
    ·rw [List.drop_of_length_le (by rw [List.length_take]; omega)] at hz; cases hz
    ·rw [etk, List.getLast?_append] at hz
     simp at hz
     subst hz
     exact hc
theorem Qp2 {T U : List Ver} {y : Ver} (hso : (T ++ U).Pairwise gtV) (h2 : ∀ z ∈ U, gtV y z) (h3 : ∀ z, T.getLast? = some z → gtV z y) : (T ++ y :: U).Pairwise gtV := by
 have hso' := List.pairwise_append.1 hso
 refine List.pairwise_append.2 ⟨hso'.1, List.pairwise_cons.2 ⟨h2, hso'.2.1⟩, fun u hu v hv => ?_⟩
 rcases List.mem_cons.1 hv with rfl | hv
 ·rcases List.eq_nil_or_concat T with rfl | ⟨T0, z, rfl⟩
  ·cases hu
  ·simp only [List.concat_eq_append] at *
   have hz := h3 z (by simp)
   rcases List.mem_append.1 hu with hu | hu
   ·exact Q13d ((List.pairwise_append.1 hso'.1).2.2 u hu z (by simp)) hz
   ·rw [List.mem_singleton] at hu; rw [hu]; exact hz
 ·exact hso'.2.2 u hu v hv
theorem Q1bo {k : Nat} (hk : 7000 < k) {ps : List Fnd} (h : VOk ps) (g : Int) : ∃ v : Int, ∀ (Q : Int → Bool → Oq R), f110 k ps 0 (fun _ gn _ _ _ _ _ => f109 k ps (fun e => Q e gn)) = Q v (descF g ps).2.2.2.1 ∧ decide (v > 0) = (descF g ps).2.2.1 := by
 obtain ⟨v, hv, e⟩ := Q1bv (R := R) (k := k) (by omega) h
 refine ⟨v, fun Q => ⟨?_, hv⟩⟩
 rw [Q10j (by omega) h.len]
 have hg := Q1c8 h
 show _ = Q v (Q3n (skL keyIx ps))
 rw [← hg]
 cases ps.find? fun y => Fnd.ix y == 0 with
 | none => simp only [atK]; exact e _
 | some y => simp only [atK]; exact e _
theorem Q155 (k : Nat) (hk : 8000 < k) {P : List Fnd} (hP : PgsOk P) (nm : BA) (n : Nat) (hn : n < P.length) (out : List Ver) (ho : out.length ≤ n) (hso : out.Pairwise gtV) (hin : ∀ z ∈ out, ∃ g, z = descF g (grp P nm g)) :
  ∃ out', out'.Pairwise gtV ∧ (∀ z, z ∈ out' ↔ z ∈ out ∨ ((Fnd.name P[n]).toList == nm.toList) = true ∧ z = descF (Fnd.base P[n]) (grp P nm (Fnd.base P[n]))) ∧ out'.length ≤ n + 1 ∧ ∀ x1 : List Ver → Oq R, f71_1 k x1 P nm (n : Int) out = x1 out' := by
 have hl := hP.len
 have c0 : decide ((0 : Int) ≤ (n : Int)) = true := by simp
 have c1 : decide ((n : Int) < (P.length : Int)) = true := dT (by omega)
 have hx := hP.ok P[n] (List.getElem_mem hn)
 obtain ⟨g, hg⟩ : ∃ g, g = Fnd.base P[n] := ⟨_, rfl⟩
 have eb : IntKind.i64.wrap (P[n].2.1.1 - P[n].2.1.2.2.2.1) = g := by rw [hg]; exact Qbe hx
 have e0 : (P.getD n zF) = P[n] := Q3g hn
 cases hnm : (Fnd.name P[n]).toList == nm.toList with
 | false =>
   refine ⟨out, hso, fun z => by simp, by omega, fun x1 => ?_⟩
   rw [Q86]
   simp only [Ql4, c0, c1, Bool.and_self, cond_true, Int.toNat_natCast, e0]
   have e9 : (P[n].2.1.2.2.1.toList == nm.toList) = false := hnm
   rw [e9]; rfl
 | true =>
   have e9 : (P[n].2.1.2.2.1.toList == nm.toList) = true := hnm
   obtain ⟨j, p1, p2, p3, p4⟩ := Q1a7 (R := R) k P nm (n : Int) g out (by omega) out.length k (Nat.le_refl _) (by omega)
   rw [List.take_length] at p2
   have hvok := Q1c9 hP nm g
   obtain ⟨v, hv⟩ := Q1bo (R := R) (k := k) (by omega) hvok g
   obtain ⟨V, hV⟩ : ∃ V, V = descF g (grp P nm g) := ⟨_, rfl⟩
   have q1 : decide ((0 : Int) ≤ (j : Int)) = true := by simp
   have q2 : decide ((j : Int) ≤ (out.length : Int)) = true := dT (by omega)
   have q3 : decide (((out.drop 0).take j).length ≤ LIM 24) = true := by rw [LIM24, decide_eq_true_eq, List.drop_zero, List.length_take]; omega
   have q4 : ∀ y : Ver, decide (((out.drop 0).take j).length + ([y] : List Ver).length ≤ LIM 24) = true := fun y => by rw [LIM24, decide_eq_true_eq, List.drop_zero, List.length_take]; simp; omega
   have q5 : ∀ y : Ver, decide ((((out.drop 0).take j) ++ ([y] : List Ver)).length + ((out.drop j).take (out.length - j)).length ≤ LIM 24) = true := fun y => by rw [LIM24, decide_eq_true_eq, List.drop_zero, List.length_append, List.length_take, List.length_take, List.length_drop]; simp; omega
   have e2 : ∀ y : Ver, ((out.drop 0).take j ++ [y]) ++ (out.drop j).take (out.length - j) = out.take j ++ y :: out.drop j := fun y => by
    rw [List.drop_zero, List.take_of_length_le (show (out.drop j).length ≤ out.length - j by rw [List.length_drop]; omega)]; simp
   have ins : ∀ x1 : List Ver → Oq R, f108 k P nm g (fun r => f110 k r 0 (fun _ gn _ _ _ _ _ => (bif (decide ((0 : Int) ≤ (j : Int)) && decide ((j : Int) ≤ (out.length : Int))) then (bif decide (((out.drop 0).take j).length ≤ LIM 24) then (f109 k r (fun e => (bif decide (((out.drop 0).take j).length + ([(g, ((r.length : Int), (decide (e > 0), (gn, ()))))] : List Ver).length ≤ LIM 24) then (bif (decide ((0 : Int) ≤ (j : Int)) && decide ((j : Int) ≤ (out.length : Int))) then (bif decide ((((out.drop 0).take j) ++ ([(g, ((r.length : Int), (decide (e > 0), (gn, ()))))] : List Ver)).length + ((out.drop j).take (out.length - j)).length ≤ LIM 24) then (x1 ((((out.drop 0).take j) ++ ([(g, ((r.length : Int), (decide (e > 0), (gn, ()))))] : List Ver)) ++ ((out.drop j).take (out.length - j)))) else none) else none) else none))) else none) else none))) = x1 (out.take j ++ V :: out.drop j) := fun x1 => by
    rw [Q10e (by omega) hP]
    simp only [q1, q2, q3, q4, q5, e2, Bool.and_self, cond_true]
    refine (hv fun e gn => x1 (out.take j ++ (g, (((grp P nm g).length : Int), (decide (e > 0), (gn, ())))) :: out.drop j)).1.trans ?_
    rw [(hv fun _ _ => none).2, hV]
    rfl
   have eo : out.take j ++ out.drop j = out := List.take_append_drop j out
   have hVg : V.1 = g := by rw [hV]; rfl
   have insP : (∀ z, (out.take j).getLast? = some z → (show Int from z.1) ≠ g) → ((out.take j ++ V :: out.drop j).Pairwise gtV ∧ (∀ z, z ∈ out.take j ++ V :: out.drop j ↔ z ∈ out ∨ (true = true ∧ z = descF (Fnd.base P[n]) (grp P nm (Fnd.base P[n])))) ∧ (out.take j ++ V :: out.drop j).length ≤ n + 1) := fun hne => by
    have hperm : (out.take j ++ V :: out.drop j).Perm (V :: out) := by
     refine List.perm_middle.trans ?_
     rw [eo]
    refine ⟨Qp2 (eo.symm ▸ hso) (fun z hz => ?_) fun z hz => ?_, fun z => ?_, by rw [hperm.length_eq, List.length_cons]; omega⟩
    ·have := p2 z hz
     show (show Int from z.1) < (show Int from V.1)
     rw [hVg]; exact this
    ·have h1 := p3 z hz
     have h2 := hne z hz
     have h3 : g < (show Int from z.1) := (show ∀ q : Int, ¬ q < g → q ≠ g → g < q from fun q a c => by omega) _ h1 h2
     show (show Int from V.1) < (show Int from z.1)
     rw [hVg]; exact h3
    ·rw [hperm.mem_iff, List.mem_cons, hV, hg]
     constructor
     ·rintro (h | h)
      ·exact .inr ⟨rfl, h⟩
      ·exact .inl h
     ·rintro (h | ⟨_, h⟩)
      ·exact .inr h
      ·exact .inl h
   by_cases hj : j = 0
   ·subst hj
    obtain ⟨i1, i2, i3⟩ := insP fun z hz => by simp at hz
    refine ⟨_, i1, i2, i3, fun x1 => ?_⟩
    rw [Q86]
    simp only [Ql4, c0, c1, Bool.and_self, cond_true, Qc2, Int.toNat_natCast, e0, e9, Bool.not_true, cond_false, eb]
    refine (p4 _).trans ?_
    have d0 : decide (((0 : Nat) : Int) > 0) = false := by decide
    simp only [d0, show (false == true) = false from rfl, cond_false, Int.toNat_natCast]
    exact ins x1
   ·have hjl : j - 1 < out.length := by omega
    have e1 : (out.take j).getLast? = some out[j - 1] := by
     rw [List.getLast?_eq_getElem?, List.length_take, Nat.min_eq_left p1, List.getElem?_take_of_lt (by omega), List.getElem?_eq_getElem hjl]
    have d0 : decide ((j : Int) > 0) = true := dT (by omega)
    have w1 : IntKind.i64.wrap ((j : Int) - 1) = ((j - 1 : Nat) : Int) := wj (by omega)
    have d1 : decide ((0 : Int) ≤ ((j - 1 : Nat) : Int)) = true := dT (by omega)
    have d2 : decide (((j - 1 : Nat) : Int) < (out.length : Int)) = true := dT (by omega)
    have st : ∀ x1 : List Ver → Oq R, f71_1 k x1 P nm (n : Int) out = bif ((show Int from out[j - 1].1) == g) then x1 out else x1 (out.take j ++ V :: out.drop j) := fun x1 => by
     rw [Q86]
     simp only [Ql4, c0, c1, Bool.and_self, cond_true, Qc2, Int.toNat_natCast, e0, e9, Bool.not_true, cond_false, eb]
     refine (p4 _).trans ?_
     simp only [d0, w1, d1, d2, beq_self_eq_true, Bool.and_self, cond_true, Int.toNat_natCast, Qiq hjl]
     show (bif ((show Int from out[j - 1].1) == g) then _ else _) = _
     cases (show Int from out[j - 1].1) == g with
     | true => rfl
     | false => exact ins x1
    by_cases hc : (show Int from out[j - 1].1) = g
    ·have hb : ((show Int from out[j - 1].1) == g) = true := by simpa using hc
     refine ⟨out, hso, fun z => ⟨.inl, fun h => ?_⟩, by omega, fun x1 => by rw [st, hb]; rfl⟩
     rcases h with h | ⟨_, h⟩
     ·exact h
     ·obtain ⟨g', e⟩ := hin _ (List.getElem_mem hjl)
      have : (show Int from out[j - 1].1) = g' := by rw [e]; rfl
      rw [h, ← hg, ← hc, this, ← e]
      exact List.getElem_mem hjl
    ·have hb : ((show Int from out[j - 1].1) == g) = false := by simpa using hc
     obtain ⟨i1, i2, i3⟩ := insP fun z hz e => by
      rw [e1] at hz
      cases hz
      exact hc e
     exact ⟨_, i1, i2, i3, fun x1 => by rw [st, hb]; rfl⟩
theorem Qmy (P : List Fnd) (nm : BA) : (versF P nm).Pairwise gtV := by
 have h1 := Q5t keyGen ((tblF P nm).map dscE)
 have h2 : ((versF P nm).map keyGen).Nodup := ((Qk keyGen _).map keyGen).nodup_iff.2 (Qqv P nm)
 unfold List.Nodup at h2
 rw [List.pairwise_map] at h2
 unfold versF at h2 ⊢
 exact (h1.and h2).imp fun {a c} hh => by
  have hh1 : -(show Int from a.1) ≤ -(show Int from c.1) := hh.1
  have hh2 : -(show Int from a.1) ≠ -(show Int from c.1) := hh.2
  show (show Int from c.1) < (show Int from a.1)
  omega
theorem Q154 {P : List Fnd} {nm : BA} {z : Ver} : z ∈ versF P nm ↔ ∃ y ∈ P, ((Fnd.name y).toList == nm.toList) = true ∧ z = descF (Fnd.base y) (grp P nm (Fnd.base y)) := by
 unfold versF
 rw [(Qk _ _).mem_iff, List.mem_map]
 constructor
 ·rintro ⟨e, he, rfl⟩
  obtain ⟨h1, h2⟩ := Qt1 he
  rw [h1] at h2
  obtain ⟨y, hy⟩ := List.exists_mem_of_ne_nil _ h2
  have hy' := List.mem_filter.1 hy
  rw [Bool.and_eq_true] at hy'
  have hb := beq_iff_eq.1 hy'.2.2
  refine ⟨y, hy'.1, hy'.2.1, ?_⟩
  unfold dscE
  rw [hb, ← h1]
 ·rintro ⟨y, hy, hn, rfl⟩
  have hm : y ∈ grp P nm (Fnd.base y) := List.mem_filter.2 ⟨hy, by rw [hn]; simp⟩
  have hg := (Qjg P nm).get (Fnd.base y)
  rw [if_neg (List.ne_nil_of_mem hm)] at hg
  unfold tget mget at hg
  rw [Option.map_eq_some_iff] at hg
  obtain ⟨e, he1, he2⟩ := hg
  have hk := List.find?_some he1
  have hk := (Q16 (kt := .int .i64) rfl).1 hk
  refine ⟨e, List.mem_of_find?_eq_some he1, ?_⟩
  unfold dscE
  rw [he2, ← hk]
theorem Qg7 (k : Nat) (hk : 8000 < k) (x0 : List Ver → Oq R) {P : List Fnd} (hP : PgsOk P) (nm : BA) : ∀ (m f n : Nat) (out : List Ver), n + m = P.length → m < f → out.length ≤ n → out.Pairwise gtV → (∀ z, z ∈ out ↔ ∃ y ∈ P.take n, ((Fnd.name y).toList == nm.toList) = true ∧ z = descF (Fnd.base y) (grp P nm (Fnd.base y))) →
  Qah k x0 P nm f (n : Int) out = x0 (versF P nm)
 | m, 0, n, _, _, h, _, _, _ => absurd h (Nat.not_lt_zero _)
 | 0, f + 1, n, out, hn, _, _, hso, hm => by
   have d0 : decide ((n : Int) < (P.length : Int)) = false := dF (by omega)
   simp only [Qah, Q12h, d0, cond_false]
   rw [Q6q Q1ca Q13c hso (Qmy P nm) fun z => by
    rw [hm z, Q154, List.take_of_length_le (by omega)]]
 | m + 1, f + 1, n, out, hn, hf, ho, hso, hm => by
   have hl := hP.len
   have d0 : decide ((n : Int) < (P.length : Int)) = true := dT (by omega)
   have w1 : IntKind.i64.wrap ((n : Int) + 1) = ((n + 1 : Nat) : Int) := wj (by omega)
   obtain ⟨out', o1, o2, o3, o4⟩ := Q155 (R := R) k hk hP nm n (by omega) out ho hso (fun z hz => by
    obtain ⟨y, _, _, e⟩ := (hm z).1 hz
    exact ⟨_, e⟩)
   simp only [Qah, Q12h, d0, cond_true, w1, o4]
   refine Qg7 k hk x0 hP nm m f (n + 1) out' (by omega) (by omega) o3 o1 fun z => ?_
   rw [o2, hm, List.take_succ_eq_append_getElem (show n < P.length by omega)]
   constructor
   ·rintro (⟨y, hy, e⟩ | e)
    ·exact ⟨y, List.mem_append_left _ hy, e⟩
    ·exact ⟨_, List.mem_append_right _ (List.mem_singleton.2 rfl), e⟩
   ·rintro ⟨y, hy, e⟩
    rcases List.mem_append.1 hy with hy | hy
    ·exact .inl ⟨y, hy, e⟩
    ·rw [List.mem_singleton] at hy; subst hy; exact .inr e
theorem Q1a0 {k : Nat} (hk : 9000 < k) {P : List Fnd} (hP : PgsOk P) (nm : BA) (K : List Ver → Oq R) : f71 k P nm K = K (versF P nm) := by
 have hl := hP.len
 rw [Q12j]
 obtain ⟨k, rfl⟩ := Q9 (show 0 < k by omega)
 simp only [f71d, Ql3]
 exact Qg7 k (by omega) (fun y => K y) hP nm P.length k 0 [] (by omega) (by omega) (Nat.le_refl _) List.Pairwise.nil fun z => by simp
def newRK (K : Int → Int → Bool → Bool → Bool → Oq R) : Option Ver → Oq R
 | none => K 0 0 false false false
 | some v => K v.1 v.2.1 v.2.2.1 v.2.2.2.1 true
theorem Qly (k : Nat) (K : Int → Int → Bool → Bool → Bool → Oq R) (V : List Ver) (hV : V.length ≤ 4096) (y1 y2 : Int) (t1 t2 : Bool) : ∀ (m f i : Nat), i + m = V.length → m < f →
  Qak k K (K 0 0 false false false) y1 y2 t1 t2 V f (i : Int) = newRK K ((V.drop i).find? Ver.whole)
 | m, 0, i, _, h => absurd h (Nat.not_lt_zero _)
 | 0, f + 1, i, hi, _ => by
   have h1 : decide ((i : Int) < (V.length : Int)) = false := dF (by omega)
   simp only [Qak, Q12t, h1, cond_false]
   rw [List.drop_of_length_le (by omega)]
   rfl
 | m + 1, f + 1, i, hi, hf => by
   have h1 : decide ((i : Int) < (V.length : Int)) = true := dT (by omega)
   have h0 : decide ((0 : Int) ≤ (i : Int)) = true := by simp
   have hw : IntKind.i64.wrap ((i : Int) + 1) = ((i + 1 : Nat) : Int) := wj (by omega)
   have hil : i < V.length := by omega
   simp only [Qak, Q12t, h1, h0, cond_true, Bool.and_self, Int.toNat_natCast, hw, Qiq hil]
   rw [List.drop_eq_getElem_cons hil, List.find?_cons]
   have ew : V[i].2.2.1 = Ver.whole V[i] := rfl
   rw [ew]
   cases hwh : Ver.whole V[i] with
   | true => simp only [cond_true, newRK, ew, hwh]
   | false =>
     simp only [cond_false]
     exact Qly k K V hV y1 y2 t1 t2 m f (i + 1) (by omega) (by omega)
theorem Q1gb {k : Nat} (hk : 10000 < k) {P : List Fnd} (hP : PgsOk P) (nm : BA) (K : Int → Int → Bool → Bool → Bool → Oq R) : f77 k P nm K = newRK K (newV P nm) := by
 rw [Q12u]
 obtain ⟨k, rfl⟩ := Q9 (show 0 < k by omega)
 have := Qmx hP nm
 simp only [f77d, Q1a0 (show 9000 < k by omega) hP, Qla]
 exact Qly k K (versF P nm) this 0 0 false false (versF P nm).length k 0 (by omega) (by omega)
variable {R : Type} {b p s nx : Int} {d w x st : LI} {P : LFd}
abbrev Fnd.num (y : Fnd) : Int := y.1
structure NumOk (P : List Fnd) (n : Nat) : Prop where
 asc : P.Pairwise fun a c => Fnd.num a < Fnd.num c
 lo : ∀ y ∈ P, 0 ≤ Fnd.num y
 hi : ∀ y ∈ P, Fnd.num y < n
theorem Q16r (p s : Int) (d x : LI) (n : Nat) (A : Lk) (h : NumOk A.pages n) : NumOk (lkStep p s d x n A).pages (n + 1) := by
 have mono : NumOk A.pages (n + 1) := ⟨h.asc, h.lo, fun y hy => by have := h.hi y hy; omega⟩
 unfold lkStep
 split
 ·exact mono
 ·show NumOk (addF _ _ _) _
  unfold addF
  split
  ·refine ⟨List.pairwise_append.2 ⟨h.asc, List.pairwise_singleton _ _, fun a ha c hc => ?_⟩, fun y hy => ?_, fun y hy => ?_⟩
   ·rw [List.mem_singleton] at hc; subst hc; exact h.hi a ha
   ·rcases List.mem_append.1 hy with hy | hy
    ·exact h.lo y hy
    ·rw [List.mem_singleton] at hy; subst hy; exact Int.natCast_nonneg n
   ·rcases List.mem_append.1 hy with hy | hy
    ·exact mono.hi y hy
    ·rw [List.mem_singleton] at hy; subst hy
     show (n : Int) < _
     omega
  ·exact mono
theorem Qsq (p s : Int) (d x : LI) : ∀ (m n : Nat) (A : Lk), NumOk A.pages n → NumOk (lkFrom p s d x m n A).pages (n + m)
 | 0, n, A, h => h
 | m + 1, n, A, h => by
   have := Qsq p s d x m (n + 1) (lkStep p s d x n A) (Q16r p s d x n A h)
   rw [show n + 1 + m = n + (m + 1) by omega] at this
   exact this
theorem Q16q (b p s : Int) (d x : LI) : NumOk (lookF b p s d x).pages (b * p).toNat := by
 have := Qsq p s d x (b * p).toNat 0 ⟨1, [], []⟩ ⟨List.Pairwise.nil, fun y hy => (by cases hy), fun y hy => (by cases hy)⟩
 rw [Nat.zero_add] at this
 exact this
def liveP (P : List Fnd) (nm : BA) : List Fnd := match newV P nm with
 | none => []
 | some v => if Ver.gone v = true ∧ (versF P nm).length < 2 then [] else grp P nm v.1
def LiveS (P : List Fnd) (n : Int) : Prop := ∃ nm ∈ namesF P, ∃ y ∈ liveP P nm, Fnd.num y = n
theorem Q8e {nm : BA} {y : Fnd} (h : y ∈ liveP P nm) : y ∈ P ∧ Fnd.name y = nm := by
 unfold liveP at h
 split at h
 ·cases h
 ·split at h
  ·cases h
  ·have h' := List.mem_filter.1 h
   rw [Bool.and_eq_true, Q2d] at h'
   exact ⟨h'.1, h'.2.1⟩
theorem Qam (P : List Fnd) (nm : BA) : ∃ q : Fnd → Bool, liveP P nm = P.filter q := by
 unfold liveP
 split
 ·exact ⟨fun _ => false, by simp⟩
 ·split
  ·exact ⟨fun _ => false, by simp⟩
  ·exact ⟨_, rfl⟩
theorem Q13x (P : List Fnd) (nm : BA) : (liveP P nm).length ≤ P.length := by
 obtain ⟨q, e⟩ := Qam P nm
 rw [e]; exact List.length_filter_le _ _
theorem Qmu (P : List Fnd) (nm : BA) : (tblF P nm).length = (versF P nm).length := by
 unfold versF
 rw [Q35, List.length_map]
theorem Qpm (k : Nat) (x2 : LI → Oq R) (y1 y2 y4 : Int) (NS : List BA) (pg : List Fnd) (hpg : pg.length ≤ 4096) (y3 : Int) (hy3 : y3 = (pg.length : Int)) : ∀ (m f i : Nat) (c : LI), i + m = pg.length → m < f → c.length + m ≤ 100000000 →
  Qad k x2 y1 y2 y3 b p s d w x st P y4 NS pg f (i : Int) c = x2 (c ++ (pg.drop i).map Fnd.num)
 | m, 0, i, _, _, h, _ => absurd h (Nat.not_lt_zero _)
 | 0, f + 1, i, c, hi, _, _ => by
   have d0 : decide ((i : Int) < y3) = false := by rw [hy3]; simp only [decide_eq_false_iff_not]; omega
   simp only [Qad, Q128, d0, cond_false]
   rw [List.drop_of_length_le (by omega)]
   simp
 | m + 1, f + 1, i, c, hi, hf, hc => by
   have hil : i < pg.length := by omega
   have d0 : decide ((i : Int) < y3) = true := by rw [hy3]; simp only [decide_eq_true_eq]; omega
   have d1 : decide ((0 : Int) ≤ (i : Int)) = true := by simp
   have d2 : decide ((i : Int) < (pg.length : Int)) = true := dT (by omega)
   have w1 : IntKind.i64.wrap ((i : Int) + 1) = ((i + 1 : Nat) : Int) := wj (by omega)
   have d3 : ∀ y : Int, decide (c.length + ([y] : LI).length ≤ LIM 8) = true := fun y => by rw [LIM8, decide_eq_true_eq]; simp; omega
   simp only [Qad, Q128, d0, d1, d2, w1, d3, Bool.and_self, cond_true, Int.toNat_natCast, Q3g hil]
   refine (Qpm k x2 y1 y2 y4 NS pg hpg y3 hy3 m f (i + 1) _ (by omega) (by omega) (by simp; omega)).trans ?_
   have em : (pg.drop i).map Fnd.num = Fnd.num pg[i] :: (pg.drop (i + 1)).map Fnd.num := by rw [List.drop_eq_getElem_cons hil]; rfl
   rw [em, List.append_assoc]
   rfl
def numsOf (P : List Fnd) (nm : BA) : LI := (skL keyIx (liveP P nm)).map Fnd.num
theorem Qfm (P : List Fnd) (nm : BA) : (numsOf P nm).length ≤ P.length := by
 unfold numsOf
 rw [List.length_map, Q35]
 exact Q13x P nm
theorem Q13y (k : Nat) (hk : 20000 < k) (hP : PgsOk P) (NS : List BA) (hNS : NS.length ≤ 4096) (y1 : Int) (i : Nat) (hi : i < NS.length) (c : LI) (hc : c.length ≤ 4096 * i) (x1 : LI → Oq R) :
  f68_1 k x1 y1 (i : Int) b p s d w x st P nx c NS = x1 (c ++ numsOf P NS[i]) := by
 have hl := hP.len
 have d1 : decide ((0 : Int) ≤ (i : Int)) = true := by simp
 have d2 : decide ((i : Int) < (NS.length : Int)) = true := dT (by omega)
 rw [Qkw]
 simp only [Q127, d1, d2, Bool.and_self, cond_true, Int.toNat_natCast, Q3f hi, Q1bu NS[i] (show 7000 < k by omega) hP, Qnx NS[i] (show P.length + 10 < k by omega) hP, Qkx]
 unfold numsOf liveP
 cases hn : newV P NS[i] with
 | none =>
   simp only [newK, show ((!false) == false) = false from rfl, cond_false]
   simp [skL]
 | some v =>
   have hpg : (skL keyIx (Q95 P NS[i] v.1)).length ≤ 4096 := by rw [Q35, Q3p]; exact Qcd hP _ _
   have ap := Qpm (R := R) (P := P) (b := b) (p := p) (s := s) (d := d) (w := w) (x := x) (st := st) k (fun y => x1 y) y1 (i : Int) nx NS (skL keyIx (Q95 P NS[i] v.1)) hpg _ rfl (skL keyIx (Q95 P NS[i] v.1)).length k 0 c (by omega) (by omega) (by omega)
   simp only [List.drop_zero, Int.natCast_zero] at ap
   have hvs : 0 < (versF P NS[i]).length := List.length_pos_iff.2 (List.ne_nil_of_mem (List.mem_of_find?_eq_some hn))
   have eg : v.2.2.2.1 = Ver.gone v := rfl
   simp only [newK, show ((!true) == false) = true from rfl, cond_true, eg, Qmu]
   cases hgn : Ver.gone v with
   | false =>
     simp only [show (false == true) = false from rfl, cond_false, Bool.false_eq_true, false_and, if_false]
     rw [ap, Q3p]
   | true =>
     simp only [beq_self_eq_true, cond_true, true_and]
     by_cases h1 : (versF P NS[i]).length = 1
     ·have e1 : (((versF P NS[i]).length : Int) == 1) = true := by rw [h1]; rfl
      rw [e1, if_pos (by omega)]
      simp [skL]
     ·have e1 : (((versF P NS[i]).length : Int) == 1) = false := by rw [beq_eq_false_iff_ne]; omega
      rw [e1, if_neg (by omega)]
      simp only [cond_false]
      rw [ap, Q3p]
theorem Qlp (k : Nat) (hk : 20000 < k) (hP : PgsOk P) (NS : List BA) (hNS : NS.length ≤ 4096) (x0 : LI → Oq R) : ∀ (m f i : Nat) (c : LI), i + m = NS.length → m < f → c.length ≤ 4096 * i →
  Qac k x0 (NS.length : Int) b p s d w x st P nx NS f (i : Int) c = x0 (c ++ (NS.drop i).flatMap (numsOf P))
 | m, 0, i, _, _, h, _ => absurd h (Nat.not_lt_zero _)
 | 0, f + 1, i, c, hi, _, _ => by
   have d0 : decide ((i : Int) < (NS.length : Int)) = false := dF (by omega)
   simp only [Qac, Q126, d0, cond_false]
   rw [List.drop_of_length_le (by omega)]
   simp
 | m + 1, f + 1, i, c, hi, hf, hc => by
   have hil : i < NS.length := by omega
   have d0 : decide ((i : Int) < (NS.length : Int)) = true := dT (by omega)
   have w1 : IntKind.i64.wrap ((i : Int) + 1) = ((i + 1 : Nat) : Int) := wj (by omega)
   have hl := hP.len
   have hnl := Qfm P NS[i]
   simp only [Qac, Q126, d0, cond_true, w1, Q13y k hk hP NS hNS _ i hil c hc]
   refine (Qlp k hk hP NS hNS x0 m f (i + 1) _ (by omega) (by omega) (by rw [List.length_append]; omega)).trans ?_
   rw [List.drop_eq_getElem_cons hil, List.flatMap_cons, List.append_assoc]
def liveC (P : List Fnd) : LI := (namesF P).flatMap (numsOf P)
theorem Q13u {n : Int} : n ∈ liveC P ↔ LiveS P n := by
 unfold liveC LiveS numsOf
 rw [List.mem_flatMap]
 constructor
 ·rintro ⟨nm, h1, h2⟩
  obtain ⟨y, hy, e⟩ := List.mem_map.1 h2
  exact ⟨nm, h1, y, ((Qk _ _).mem_iff.1 hy), e⟩
 ·rintro ⟨nm, h1, y, hy, e⟩
  exact ⟨nm, h1, List.mem_map.2 ⟨y, (Qk _ _).mem_iff.2 hy, e⟩⟩
theorem Q1cw {n : Nat} (hN : NumOk P n) : ∀ a ∈ P, ∀ c ∈ P, Fnd.num a = Fnd.num c → a = c := by
 intro a ha c hc e
 obtain ⟨i, hi, rfl⟩ := List.getElem_of_mem ha
 obtain ⟨j, hj, rfl⟩ := List.getElem_of_mem hc
 rcases Nat.lt_trichotomy i j with h | h | h
 ·have := List.pairwise_iff_getElem.1 hN.asc i j hi hj h; omega
 ·subst h; rfl
 ·have := List.pairwise_iff_getElem.1 hN.asc j i hj hi h; omega
theorem Qm0 {n : Nat} (hN : NumOk P n) (nm : BA) : (numsOf P nm).Nodup := by
 unfold numsOf
 refine (((Qk keyIx (liveP P nm)).map Fnd.num).nodup_iff).2 ?_
 obtain ⟨q, e⟩ := Qam P nm
 rw [e]
 unfold List.Nodup
 rw [List.pairwise_map]
 exact (hN.asc.sublist List.filter_sublist).imp fun {a c} h => by omega
theorem Qos {n : Nat} (hN : NumOk P n) : (liveC P).Nodup := by
 have gen : ∀ NS : List BA, NS.Pairwise ltN → (NS.flatMap (numsOf P)).Nodup := by
  intro NS
  induction NS with
  | nil => intro _; simp
  | cons nm NS ih =>
    intro h
    rw [List.pairwise_cons] at h
    rw [List.flatMap_cons, List.nodup_append]
    refine ⟨Qm0 hN nm, ih h.2, fun a ha c hc e => ?_⟩
    subst e
    unfold numsOf at ha hc
    obtain ⟨y, hy, e1⟩ := List.mem_map.1 ha
    obtain ⟨nm2, hn2, hc⟩ := List.mem_flatMap.1 hc
    obtain ⟨z, hz, e2⟩ := List.mem_map.1 hc
    have hy' := Q8e ((Qk _ _).mem_iff.1 hy)
    have hz' := Q8e ((Qk _ _).mem_iff.1 hz)
    have e3 := Q1cw hN y hy'.1 z hz'.1 (e1.trans e2.symm)
    have := h.1 nm2 hn2
    rw [← hy'.2, ← hz'.2, e3] at this
    exact Q141 _ this
 exact gen _ (Q8g P)
def liveF (P : List Fnd) : LI := sortI (liveC P)
theorem Qlo (hP : PgsOk P) : (liveC P).length ≤ 16777216 := by
 have hl := hP.len
 have gen : ∀ NS : List BA, (NS.flatMap (numsOf P)).length ≤ NS.length * 4096 := by
  intro NS
  induction NS with
  | nil => simp
  | cons nm NS ih =>
    rw [List.flatMap_cons, List.length_append, List.length_cons]
    have := Qfm P nm
    omega
 have h1 := gen (namesF P)
 have h2 := Q94 P
 unfold liveC
 omega
theorem Q1g5 {k : Nat} (hk : 30000 < k) (hP : PgsOk P) (K : LI → Oq R) : f68 k b p s d w x st P nx K = K (liveF P) := by
 have hl := hP.len
 have hnl := Q94 P
 rw [Q129]
 obtain ⟨k, rfl⟩ := Q9 (show 0 < k by omega)
 simp only [f68d, Q1g9 (show P.length + 10 < k by omega) hl, Qkv]
 refine (Qlp k (by omega) hP (namesF P) (by omega) _ (namesF P).length k 0 [] (by omega) (by omega) (Nat.le_refl _)).trans ?_
 rw [List.drop_zero, List.nil_append]
 show f117 k (liveC P) _ = _
 have hcl := Qlo hP
 rw [Qrd]
 obtain ⟨k, rfl⟩ := Q9 (show 0 < k by omega)
 have hso : Q5u (liveC P) = true := by unfold Q5u; rw [decide_eq_true_eq]; omega
 simp only [f117d, hso, cond_true]
 have d1 : decide ((sortI (liveC P)).length = (liveC P).length) = true := by simpa using Qmk _
 have d1' : decide ((sortI (liveC P)).length = ((namesF P).flatMap (numsOf P)).length) = true := d1
 simp only [d1, d1', Bool.and_self, cond_true]
 rfl
theorem Q13v {n : Nat} (hN : NumOk P n) : (liveF P).Pairwise (· < ·) := by
 have h1 := Q14t (liveC P)
 have h2 : (liveF P).Nodup := (Q6r (liveC P)).nodup_iff.2 (Qos hN)
 exact (h1.and h2).imp fun {a c} h => by
  have := h.1
  have := h.2
  omega
theorem Q13w {n : Int} : n ∈ liveF P ↔ LiveS P n := by
 unfold liveF
 rw [(Q6r _).mem_iff, Q13u]
theorem Q1fv {k : Nat} (h : FlashIn b p s d w x) (hk : w.length + x.length + 60000 < k) (K : Int → LI → Oq R) :
  f24 k b p s d w x K = if Qi b p s d w x ≠ 0 then K (Qi b p s d w x) [] else K 0 (liveF (lookF b p s d x).pages) := by
 have hw := h.w
 have hx := h.x
 rw [Q11h]
 obtain ⟨k, rfl⟩ := Q9 (show 0 < k by omega)
 simp only [f24d, Qs3 b p s d w x (show _ < k by omega) (by omega) (by omega), Q1g]
 by_cases hc : Qi b p s d w x = 0
 ·have g := h.good hc
  rw [if_neg (by simpa using hc)]
  simp only [hc, decide_true, Bool.not_true, cond_false, Q11m (show x.length + 8000 < k by omega) (by omega) g.dB g.hb g.hp g.hs g.hd]
  rw [Q1g5 (by omega) g.look]
 ·rw [if_pos hc]
  simp only [hc, decide_false, Bool.not_false, cond_true]
theorem Qb4 {l : List Bool} {i : Nat} (h : i < l.length) : l.getD i false = l[i] := by rw [List.getD_eq_getElem?_getD, List.getElem?_eq_getElem h]; rfl
def marks (pg : List Fnd) (c : List Bool) : List Bool := pg.foldl (fun c y => c.set (Fnd.num y).toNat true) c
theorem Q8f : ∀ (pg : List Fnd) (c : List Bool), (marks pg c).length = c.length
 | [], _ => rfl
 | y :: pg, c => by
   show (marks pg (c.set _ true)).length = _
   rw [Q8f pg, List.length_set]
theorem Qlw : ∀ (pg : List Fnd) (c : List Bool) (i : Nat), (∀ y ∈ pg, 0 ≤ Fnd.num y) → i < c.length → ((marks pg c).getD i false = true ↔ c.getD i false = true ∨ ∃ y ∈ pg, Fnd.num y = (i : Int))
 | [], c, i, _, _ => by simp [marks]
 | y :: pg, c, i, h0, hi => by
   have hy := h0 y (List.mem_cons_self ..)
   have ih := Qlw pg (c.set (Fnd.num y).toNat true) i (fun z hz => h0 z (List.mem_cons_of_mem _ hz)) (by rw [List.length_set]; exact hi)
   show ((marks pg (c.set _ true)).getD i false = true ↔ _)
   rw [ih]
   have e : (c.set (Fnd.num y).toNat true).getD i false = true ↔ c.getD i false = true ∨ Fnd.num y = (i : Int) := by
    rw [Qb4 (by rw [List.length_set]; exact hi), Qb4 hi, List.getElem_set]
    by_cases hq : (Fnd.num y).toNat = i
    ·rw [if_pos hq]
     constructor
     ·intro _; right; omega
     ·intro _; rfl
    ·rw [if_neg hq]
     constructor
     ·intro h; exact .inl h
     ·rintro (h | h)
      ·exact h
      ·exact absurd (by omega) hq
   rw [e]
   constructor
   ·rintro ((h | h) | ⟨z, hz, e⟩)
    ·exact .inl h
    ·exact .inr ⟨y, List.mem_cons_self .., h⟩
    ·exact .inr ⟨z, List.mem_cons_of_mem _ hz, e⟩
   ·rintro (h | ⟨z, hz, ez⟩)
    ·exact .inl (.inl h)
    ·rcases List.mem_cons.1 hz with rfl | hz
     ·exact .inl (.inr ez)
     ·exact .inr ⟨z, hz, ez⟩
theorem Qlv (k : Nat) (x2 : List Bool → Oq R) (y1 : Int) (NS : List BA) (pg : List Fnd) (hpg : pg.length ≤ 4096) : ∀ (m f i : Nat) (c : List Bool), i + m = pg.length → m < f → (∀ y ∈ pg, 0 ≤ Fnd.num y ∧ Fnd.num y < (c.length : Int)) →
  Q85 k x2 y1 P NS pg f (i : Int) c = x2 (marks (pg.drop i) c)
 | m, 0, i, _, _, h, _ => absurd h (Nat.not_lt_zero _)
 | 0, f + 1, i, c, hi, _, _ => by
   have d0 : decide ((i : Int) < (pg.length : Int)) = false := dF (by omega)
   simp only [Q85, Q12c, d0, cond_false]
   rw [List.drop_of_length_le (by omega)]
   rfl
 | m + 1, f + 1, i, c, hi, hf, hc => by
   have hil : i < pg.length := by omega
   have d0 : decide ((i : Int) < (pg.length : Int)) = true := dT (by omega)
   have d1 : decide ((0 : Int) ≤ (i : Int)) = true := by simp
   have w1 : IntKind.i64.wrap ((i : Int) + 1) = ((i + 1 : Nat) : Int) := wj (by omega)
   have hy := hc pg[i] (List.getElem_mem hil)
   have d2 : decide (0 ≤ Fnd.num pg[i]) = true := by simpa using hy.1
   have d3 : decide (Fnd.num pg[i] < (c.length : Int)) = true := by simpa using hy.2
   simp only [Q85, Q12c, d0, d1, w1, Bool.and_self, cond_true, Int.toNat_natCast, Q3g hil]
   show (bif (decide (0 ≤ Fnd.num pg[i]) && decide (Fnd.num pg[i] < (c.length : Int))) then Q85 k x2 y1 P NS pg f ((i + 1 : Nat) : Int) (c.set (Fnd.num pg[i]).toNat true) else none) = _
   rw [d2, d3]
   simp only [Bool.and_self, cond_true]
   refine (Qlv k x2 y1 NS pg hpg m f (i + 1) _ (by omega) (by omega) (fun y hy => by rw [List.length_set]; exact hc y hy)).trans ?_
   rw [List.drop_eq_getElem_cons hil]
   rfl
theorem Qto (k : Nat) (hk : 20000 < k) (hP : PgsOk P) {N : Nat} (hN : NumOk P N) (NS : List BA) (hNS : NS.length ≤ 4096) (i : Nat) (hi : i < NS.length) (c : List Bool) (hc : c.length = N) (x1 : List Bool → Oq R) :
  f69_1 k x1 (i : Int) P NS c = x1 (marks (liveP P NS[i]) c) := by
 have hl := hP.len
 have d1 : decide ((0 : Int) ≤ (i : Int)) = true := by simp
 have d2 : decide ((i : Int) < (NS.length : Int)) = true := dT (by omega)
 rw [Qkz]
 simp only [Q12b, d1, d2, Bool.and_self, cond_true, Int.toNat_natCast, Q3f hi, Q1gb (show 10000 < k by omega) hP, Q1a0 (show 9000 < k by omega) hP, Ql0]
 unfold liveP
 cases hn : newV P NS[i] with
 | none => rfl
 | some v =>
   have hpg : (grp P NS[i] v.1).length ≤ 4096 := Qcd hP _ _
   have ap := Qlv (R := R) (P := P) k (fun y => x1 y) (i : Int) NS (grp P NS[i] v.1) hpg (grp P NS[i] v.1).length k 0 c (by omega) (by omega) (fun y hy => by
    have hm := (List.mem_filter.1 hy).1
    exact ⟨hN.lo y hm, by rw [hc]; exact hN.hi y hm⟩)
   simp only [List.drop_zero, Int.natCast_zero] at ap
   have eg : v.2.2.2.1 = Ver.gone v := rfl
   simp only [newRK, show ((!true) == false) = true from rfl, cond_true, eg, Q10e (show 5000 < k by omega) hP]
   cases hgn : Ver.gone v with
   | false =>
     simp only [show (false == true) = false from rfl, cond_false, Bool.false_eq_true, false_and, if_false]
     exact ap
   | true =>
     simp only [beq_self_eq_true, cond_true, true_and]
     by_cases h1 : (versF P NS[i]).length < 2
     ·have e1 : decide (((versF P NS[i]).length : Int) < 2) = true := dT (by omega)
      rw [e1, if_pos h1]
      rfl
     ·have e1 : decide (((versF P NS[i]).length : Int) < 2) = false := dF (by omega)
      rw [e1, if_neg h1]
      simp only [cond_false]
      exact ap
theorem Qfg (k : Nat) (hk : 20000 < k) (hP : PgsOk P) {N : Nat} (hN : NumOk P N) (NS : List BA) (hNS : NS.length ≤ 4096) (x0 : List Bool → Oq R) : ∀ (m f i : Nat) (c : List Bool), i + m = NS.length → m < f → c.length = N →
  Qae k x0 P NS f (i : Int) c = x0 ((NS.drop i).foldl (fun c nm => marks (liveP P nm) c) c)
 | m, 0, i, _, _, h, _ => absurd h (Nat.not_lt_zero _)
 | 0, f + 1, i, c, hi, _, _ => by
   have d0 : decide ((i : Int) < (NS.length : Int)) = false := dF (by omega)
   simp only [Qae, Q12a, d0, cond_false]
   rw [List.drop_of_length_le (by omega)]
   rfl
 | m + 1, f + 1, i, c, hi, hf, hc => by
   have hil : i < NS.length := by omega
   have d0 : decide ((i : Int) < (NS.length : Int)) = true := dT (by omega)
   have w1 : IntKind.i64.wrap ((i : Int) + 1) = ((i + 1 : Nat) : Int) := wj (by omega)
   simp only [Qae, Q12a, d0, cond_true, w1, Qto k hk hP hN NS hNS i hil c hc]
   refine (Qfg k hk hP hN NS hNS x0 m f (i + 1) _ (by omega) (by omega) (by rw [Q8f]; exact hc)).trans ?_
   rw [List.drop_eq_getElem_cons hil]
   rfl
theorem Qc9 {N : Nat} (hP : NumOk P N) : ∀ (NS : List BA) (c : List Bool) (i : Nat), i < c.length → ((NS.foldl (fun c nm => marks (liveP P nm) c) c).getD i false = true ↔ c.getD i false = true ∨ ∃ nm ∈ NS, ∃ y ∈ liveP P nm, Fnd.num y = (i : Int))
 | [], c, i, _ => by simp
 | nm :: NS, c, i, hi => by
   rw [List.foldl_cons, Qc9 hP NS _ i (by rw [Q8f]; exact hi), Qlw _ _ _ (fun y hy => hP.lo y (Q8e hy).1) hi]
   constructor
   ·rintro ((h | ⟨y, hy, e⟩) | ⟨m, hm, h⟩)
    ·exact .inl h
    ·exact .inr ⟨nm, List.mem_cons_self .., y, hy, e⟩
    ·exact .inr ⟨m, List.mem_cons_of_mem _ hm, h⟩
   ·rintro (h | ⟨m, hm, y, hy, e⟩)
    ·exact .inl (.inl h)
    ·rcases List.mem_cons.1 hm with rfl | hm
     ·exact .inl (.inr ⟨y, hy, e⟩)
     ·exact .inr ⟨m, hm, y, hy, e⟩
theorem Qlf : ∀ (NS : List BA) (c : List Bool), (NS.foldl (fun c nm => marks (liveP P nm) c) c).length = c.length
 | [], c => rfl
 | nm :: NS, c => by rw [List.foldl_cons, Qlf NS, Q8f]
def trueAt : Nat → List Bool → LI
 | _, [] => []
 | i, z :: l => if z then (i : Int) :: trueAt (i + 1) l else trueAt (i + 1) l
theorem Qdu : ∀ (l : List Bool) (i : Nat) (n : Int), n ∈ trueAt i l ↔ ∃ j, j < l.length ∧ n = ((i + j : Nat) : Int) ∧ l.getD j false = true
 | [], _, _ => by simp [trueAt]
 | z :: l, i, n => by
   have ih := Qdu l (i + 1) n
   have h1 : (∃ j, j < (z :: l).length ∧ n = ((i + j : Nat) : Int) ∧ (z :: l).getD j false = true) ↔ ((z = true ∧ n = (i : Int)) ∨ ∃ j, j < l.length ∧ n = ((i + 1 + j : Nat) : Int) ∧ l.getD j false = true) := by
    constructor
    ·rintro ⟨j, h1, h2, h3⟩
     cases j with
     | zero => exact .inl ⟨h3, by simpa using h2⟩
     | succ j => exact .inr ⟨j, by simpa using h1, by rw [h2]; omega, h3⟩
    ·rintro (⟨h1, h2⟩ | ⟨j, h1, h2, h3⟩)
     ·exact ⟨0, by simp, by simpa using h2, h1⟩
     ·exact ⟨j + 1, by simpa using h1, by rw [h2]; omega, h3⟩
   rw [h1, ← ih]
   simp only [trueAt]
   cases z <;> simp
theorem Q9m : ∀ (l : List Bool) (i : Nat), (trueAt i l).Pairwise (· < ·)
 | [], _ => List.Pairwise.nil
 | z :: l, i => by
   simp only [trueAt]
   cases z with
   | false => exact Q9m l (i + 1)
   | true =>
     refine List.pairwise_cons.2 ⟨fun n hn => ?_, Q9m l (i + 1)⟩
     obtain ⟨j, _, e, _⟩ := (Qdu l (i + 1) n).1 hn
     omega
theorem Qdv (k : Nat) (x4 : LI → Oq R) (l : List Bool) (hl : l.length ≤ 4096) : ∀ (m f i : Nat) (c : LI), i + m = l.length → m < f → c.length ≤ i → Qaf k x4 l f (i : Int) c = x4 (c ++ trueAt i (l.drop i))
 | m, 0, i, _, _, h, _ => absurd h (Nat.not_lt_zero _)
 | 0, f + 1, i, c, hi, _, _ => by
   have d0 : decide ((i : Int) < (l.length : Int)) = false := dF (by omega)
   simp only [Qaf, Q12d, d0, cond_false]
   rw [List.drop_of_length_le (by omega)]
   simp [trueAt]
 | m + 1, f + 1, i, c, hi, hf, hc => by
   have hil : i < l.length := by omega
   have d0 : decide ((i : Int) < (l.length : Int)) = true := dT (by omega)
   have d1 : decide ((0 : Int) ≤ (i : Int)) = true := by simp
   have w1 : IntKind.i64.wrap ((i : Int) + 1) = ((i + 1 : Nat) : Int) := wj (by omega)
   have d2 : ∀ y : Int, decide (c.length + ([y] : LI).length ≤ LIM 8) = true := fun y => by rw [LIM8, decide_eq_true_eq]; simp; omega
   simp only [Qaf, Q12d, d0, d1, w1, d2, Bool.and_self, cond_true, Int.toNat_natCast, Qb4 hil, Qc1, Qil]
   rw [List.drop_eq_getElem_cons hil]
   simp only [trueAt]
   cases l[i] with
   | true =>
     simp only [cond_true, if_true]
     refine (Qdv k x4 l hl m f (i + 1) _ (by omega) (by omega) (by simp; omega)).trans ?_
     simp
   | false =>
     simp only [cond_false, Bool.false_eq_true, if_false]
     exact Qdv k x4 l hl m f (i + 1) c (by omega) (by omega) (by omega)
theorem Q1g6 {k : Nat} (h : FlashOk b p s d w x) (hk : x.length + 40000 < k) (K : LI → Oq R) : f69 k b p s d w x K = K (liveF (lookF b p s d x).pages) := by
 obtain ⟨N, hN, _, hN2⟩ := h.N
 have hP := h.look
 have hl := hP.len
 have hnl := Q94 (lookF b p s d x).pages
 have hNum := Q16q b p s d x
 rw [hN, Int.toNat_natCast] at hNum
 rw [Q12e]
 obtain ⟨k, rfl⟩ := Q9 (show 0 < k by omega)
 have d0 : decide ((0 : Int) ≤ (N : Int)) = true := by simp
 have d1 : decide ((N : Int) ≤ (N : Int)) = true := by simp
 have d2 : decide ((N : Int) ≤ (LIM 1 : Int)) = true := by rw [LIM1, decide_eq_true_eq]; omega
 simp only [f69d, Q1g8 h (show x.length + 20000 < k by omega), Q1ga (show 6000 < k by omega) hl, Qbz h (show 0 < k by omega), hN, d0, d1, d2, Bool.and_self, cond_true, Int.toNat_natCast, Qky]
 refine (Qfg k (by omega) hP hNum (namesF (lookF b p s d x).pages) (by omega) _ (namesF (lookF b p s d x).pages).length k 0 (List.replicate N false) (by omega) (by omega) (by simp)).trans ?_
 rw [List.drop_zero, Ql1]
 obtain ⟨c, hc⟩ : ∃ c, c = (namesF (lookF b p s d x).pages).foldl (fun c nm => marks (liveP (lookF b p s d x).pages nm) c) (List.replicate N false) := ⟨_, rfl⟩
 rw [← hc]
 have hcl : c.length = N := by rw [hc, Qlf]; simp
 refine (Qdv k _ c (by omega) c.length k 0 [] (by omega) (by omega) (Nat.le_refl _)).trans ?_
 rw [List.drop_zero, List.nil_append]
 have e : trueAt 0 c = liveF (lookF b p s d x).pages := by
  refine Q6q (lt := (· < ·)) (fun x => Int.lt_irrefl x) (fun x y h h' => by omega) (Q9m c 0) (Q13v hNum) fun n => ?_
  rw [Qdu, Q13w]
  unfold LiveS
  constructor
  ·rintro ⟨j, h1, h2, h3⟩
   rw [hc, Qc9 hNum _ _ _ (by simp; omega)] at h3
   rcases h3 with h3 | ⟨nm, hm, y, hy, e⟩
   ·rw [Qb4 (by simp; omega)] at h3
    simp at h3
   ·exact ⟨nm, hm, y, hy, by rw [e, h2]; omega⟩
  ·rintro ⟨nm, hm, y, hy, e⟩
   have hyP := (Q8e hy).1
   have h0 := hNum.lo y hyP
   have h1 := hNum.hi y hyP
   refine ⟨(Fnd.num y).toNat, by omega, by omega, ?_⟩
   rw [hc, Qc9 hNum _ _ _ (by simp; omega)]
   exact .inr ⟨nm, hm, y, hy, by omega⟩
 rw [e]
theorem Q1fw {k : Nat} (h : FlashIn b p s d w x) (hk : w.length + x.length + 60000 < k) (K : Int → LI → Oq R) :
  f25 k b p s d w x K = if Qi b p s d w x ≠ 0 then K (Qi b p s d w x) [] else K 0 (liveF (lookF b p s d x).pages) := by
 have hw := h.w
 have hx := h.x
 rw [Q11i]
 obtain ⟨k, rfl⟩ := Q9 (show 0 < k by omega)
 simp only [f25d, Qs5 b p s d w x (show _ < k by omega) (by omega) (by omega), Q1g]
 by_cases hc : Qi b p s d w x = 0
 ·have g := h.good hc
  rw [if_neg (by simpa using hc)]
  simp only [hc, decide_true, Bool.not_true, cond_false]
  exact Q1g6 g (by omega) _
 ·rw [if_pos hc]
  simp only [hc, decide_false, Bool.not_false, cond_true]
theorem Qmh (k : Nat) (K : Bool → Oq R) (x0 : Oq R) (l : LI) (hl : l.length < 4611686018427387904) : ∀ (m f i : Nat), i + m = l.length → m < f → Qa6 k K x0 l l (l.length : Int) f (i : Int) = x0
 | m, 0, i, _, h => absurd h (Nat.not_lt_zero _)
 | 0, f + 1, i, hi, _ => by
   have d0 : decide ((i : Int) < (l.length : Int)) = false := dF (by omega)
   simp only [Qa6, Q11d, d0, cond_false]
 | m + 1, f + 1, i, hi, hf => by
   have d0 : decide ((i : Int) < (l.length : Int)) = true := dT (by omega)
   have d1 : decide ((0 : Int) ≤ (i : Int)) = true := by simp
   have w1 : IntKind.i64.wrap ((i : Int) + 1) = ((i + 1 : Nat) : Int) := wj (by omega)
   simp only [Qa6, Q11d, d0, d1, w1, Bool.and_self, cond_true, bne_self_eq_false, cond_false]
   exact Qmh k K x0 l hl m f (i + 1) (by omega) (by omega)
theorem Qb0 {k : Nat} {l : LI} (hk : l.length + 3 < k) (hl : l.length < 4611686018427387904) (K : Bool → Oq R) : f21 k l l K = K true := by
 rw [Q11e]
 obtain ⟨k, rfl⟩ := Q9 (show 0 < k by omega)
 simp only [f21d, bne_self_eq_false, cond_false, Qkm]
 exact Qmh k K _ l hl l.length k 0 (by omega) (by omega)
theorem f4_eq {k : Nat} (h : FlashIn b p s d w x) (hk : w.length + x.length + 20000000 < k) (K : Bool → Oq R) : f4 k b p s d w x K = K true := by
 have hw := h.w
 have hx := h.x
 rw [Q19y]
 obtain ⟨k, rfl⟩ := Q9 (show 0 < k by omega)
 simp only [f4d, Q1fs h (show _ < k by omega), Q1ft h (show _ < k by omega), Qs3 b p s d w x (show _ < k by omega) (by omega) (by omega), Qs5 b p s d w x (show _ < k by omega) (by omega) (by omega), Q1fu h (show _ < k by omega), Q1c5 h (show _ < k by omega), Q1fv h (show _ < k by omega), Q1fw h (show _ < k by omega), bne_self_eq_false, beq_self_eq_true, cond_true, Q1fr (show 30 < k by omega)]
 by_cases hc : Qi b p s d w x = 0
 ·have g := h.good hc
  obtain ⟨N, hN, _, hN2⟩ := g.N
  have l1 : (Qu p s d x 0 (b * p).toNat).length ≤ 4096 := by rw [Q7k, hN]; omega
  have l2 : (freeF w p (Qu p s d x 0 (b * p).toNat)).length ≤ 4096 := by
   unfold freeF
   rw [Q35]
   have := Qoi (Qu p s d x 0 (b * p).toNat) 0
   omega
  have l3 : (liveF (lookF b p s d x).pages).length ≤ 16777216 := by
   unfold liveF
   rw [Qmk]
   exact Qlo g.look
  simp only [hc, ne_eq, not_true, if_false]
  simp only [Qb0 (show _ < k by omega) (show (Qu p s d x 0 (b * p).toNat).length < 4611686018427387904 by omega), Qb0 (show (freeF w p (Qu p s d x 0 (b * p).toNat)).length + 3 < k by omega) (by omega), Qb0 (show (liveF (lookF b p s d x).pages).length + 3 < k by omega) (by omega), Bool.not_true, beq_self_eq_true, cond_true, bne_self_eq_false, cond_false]
 ·simp only [hc, ne_eq, not_false_iff, if_true]
  simp only [Qb0 (show ([] : LI).length + 3 < k by simp; omega) (by simp), Bool.not_true, beq_self_eq_true, cond_true, bne_self_eq_false, cond_false]
end
end Go.Proofs.YtecnlienmpdlaaaGreat.PM
