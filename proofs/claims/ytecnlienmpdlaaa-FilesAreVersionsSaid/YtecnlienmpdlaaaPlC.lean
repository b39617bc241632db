/- Merged plain texts: PlVers, PlVers2, PlVers3, PlDel, PlFiles. -/
import Derived.Test.YtecnlienmpdlaaaPlB
/- Plain laws of flash memories: versions. -/
set_option linter.unusedSimpArgs false
set_option linter.unusedVariables false
namespace Go.Proofs.Ytecnlienmpdlaaa.PM
open Go Go.Proofs.Ytecnlienmpdlaaa.Bt
variable {R : Type}

/-- The page number at which a version begins. -/
def Fnd.base (x : Fnd) : Int := x.gen - x.ix
abbrev Tbl := List (Int × List Fnd)
noncomputable def tget (g : Int) (T : Tbl) : Option (List Fnd) := mget (.int .i64) g T
noncomputable def tblStep (nm : ByteArray) (T : Tbl) (x : Fnd) : Tbl := bif x.name.toList == nm.toList then mdel (.int .i64) x.base (mdel (.int .i64) x.base T) ++ [(x.base, (tget x.base T).getD [] ++ [x])] else T
noncomputable def tblF (P : List Fnd) (nm : ByteArray) : Tbl := P.foldl (tblStep nm) []
noncomputable def grp (P : List Fnd) (nm : ByteArray) (g : Int) : List Fnd := P.filter fun x => x.name.toList == nm.toList && x.base == g
structure TblOk (P : List Fnd) (nm : ByteArray) (T : Tbl) : Prop where
  keys : (T.map (·.1)).Nodup
  get : ∀ g, tget g T = if grp P nm g = [] then none else some (grp P nm g)
theorem tbl_step {P : List Fnd} {nm : ByteArray} {T : Tbl} (h : TblOk P nm T) (x : Fnd) : TblOk (P ++ [x]) nm (tblStep nm T x) := by
  have hg : ∀ g, grp (P ++ [x]) nm g = grp P nm g ++ (if x.name.toList == nm.toList && x.base == g then [x] else []) := fun g => by
    unfold grp
    rw [List.filter_append]
    congr 1
    rw [List.filter_cons]
    simp
  unfold tblStep
  cases hn : x.name.toList == nm.toList with
  | false =>
    refine ⟨h.keys, fun g => ?_⟩
    rw [hg g]
    simp only [hn, Bool.false_and, Bool.false_eq_true, if_false, List.append_nil, cond_false]
    exact h.get g
  | true =>
    simp only [cond_true]
    refine ⟨put_nodup (kt := .int .i64) rfl _ _ (List.Nodup.sublist (List.Sublist.map _ List.filter_sublist) h.keys), fun g => ?_⟩
    show mget (.int .i64) g _ = _
    rw [mget_put (kt := .int .i64) rfl g x.base _, mget_del (kt := .int .i64) rfl g x.base, hg g]
    by_cases e : g = x.base
    · subst e
      rw [if_pos rfl]
      have : (tget x.base T).getD [] = grp P nm x.base := by
        rw [h.get]
        split
        · rename_i h0; rw [h0]; rfl
        · rfl
      simp [hn, this]
    · rw [if_neg e]
      have e' : (x.base == g) = false := by simpa using fun h => e h.symm
      have hh := h.get g
      unfold tget at hh
      simp [hn, e', e, hh]
theorem tblF_ok (P : List Fnd) (nm : ByteArray) : TblOk P nm (tblF P nm) := by
  have gen : ∀ (Q P : List Fnd) (T : Tbl), TblOk P nm T → TblOk (P ++ Q) nm (Q.foldl (tblStep nm) T) := by
    intro Q
    induction Q with
    | nil => intro P T h; simpa using h
    | cons x Q ih =>
      intro P T h
      have := ih (P ++ [x]) _ (tbl_step h x)
      rw [List.append_assoc] at this
      exact this
  have := gen P [] [] ⟨List.nodup_nil, fun g => rfl⟩
  rwa [List.nil_append] at this
/-- What is known of a list of pages. -/
structure PgsOk (P : List Fnd) : Prop where
  len : P.length ≤ 4096
  ok : ∀ x ∈ P, x.Ok
  keys : (P.map Fnd.key).Nodup
theorem grp_len {P : List Fnd} (h : PgsOk P) (nm : ByteArray) (g : Int) : (grp P nm g).length ≤ 4096 := Nat.le_trans (List.length_filter_le _ _) h.len
theorem base_wrap {x : Fnd} (h : x.Ok) : IntKind.i64.wrap (x.gen - x.ix) = x.base := by
  have := h.gen
  have := h.ix
  exact wi (by omega) (by omega)
theorem f106_eq {k : Nat} (hk : 0 < k) {x : Fnd} (h : x.Ok) (K : Int → Option R) : f106 k x.1 x.gen x.gone x.name x.ix x.last x.raw K = K x.base := by
  rw [f106_def]
  obtain ⟨k, rfl⟩ := succ_of hk
  simp only [f106d, base_wrap h]
theorem tget_len {P : List Fnd} (hP : PgsOk P) {nm : ByteArray} {T : Tbl} (h : TblOk P nm T) (g : Int) : ((tget g T).getD []).length ≤ P.length := by
  rw [h.get]
  split
  · exact Nat.zero_le _
  · exact List.length_filter_le _ _
abbrev zF : Fnd := (0, ((0, (false, ((⟨#[]⟩ : ByteArray), (0, (false, (([] : List Int), ())))))), ()))
theorem getF_in {l : List Fnd} {i : Nat} (h : i < l.length) : l.getD i zF = l[i] := by rw [List.getD_eq_getElem?_getD, List.getElem?_eq_getElem h]; rfl
theorem of_loop (k : Nat) (hk : 0 < k) (x0 : Tbl → Option R) (nm : ByteArray) (P : List Fnd) (hP : PgsOk P) : ∀ (d f i : Nat) (T : Tbl), i + d = P.length → d < f → TblOk (P.take i) nm T →
    f91_0d k x0 nm P (P.length : Int) f (i : Int) T = x0 ((P.drop i).foldl (tblStep nm) T)
  | d, 0, i, _, _, h, _ => absurd h (Nat.not_lt_zero _)
  | 0, f + 1, i, T, hi, _, _ => by
    have h1 : decide ((i : Int) < (P.length : Int)) = false := by simp only [decide_eq_false_iff_not]; omega
    simp only [f91_0d, f91_0b, h1, cond_false]
    rw [List.drop_of_length_le (by omega)]
    rfl
  | d + 1, f + 1, i, T, hi, hf, hT => by
    have hlen := hP.len
    have h1 : decide ((i : Int) < (P.length : Int)) = true := by simp only [decide_eq_true_eq]; omega
    have h0 : decide ((0 : Int) ≤ (i : Int)) = true := by simp
    have hw : IntKind.i64.wrap ((i : Int) + 1) = ((i + 1 : Nat) : Int) := by rw [wi (by omega) (by omega)]; omega
    have hil : i < P.length := by omega
    have hx := hP.ok P[i] (List.getElem_mem hil)
    have hPt : PgsOk (P.take i) := ⟨by rw [List.length_take]; omega, fun x hx => hP.ok x (List.mem_of_mem_take hx), List.Nodup.sublist (List.Sublist.map _ (List.take_sublist _ _)) hP.keys⟩
    have hd : ∀ y : Fnd, decide (((tget P[i].base T).getD []).length + ([y] : List Fnd).length ≤ LIM 80) = true := fun y => by
      have := tget_len hPt hT P[i].base
      rw [List.length_take] at this
      rw [LIM80, decide_eq_true_eq]; simp; omega
    have ih := of_loop k hk x0 nm P hP d f (i + 1) (tblStep nm T P[i]) (by omega) (by omega) (by
      rw [List.take_succ_eq_append_getElem hil]; exact tbl_step hT _)
    rw [List.drop_eq_getElem_cons hil, List.foldl_cons, ← ih]
    simp only [f91_0d, f91_0b, h1, h0, cond_true, Bool.and_self, Int.toNat_natCast, hw, getF_in hil]
    rw [f91_1000006_def]
    show f91_1000006d k _ (P[i].name.toList == nm.toList) T P[i].1 P[i].gen P[i].gone P[i].name P[i].ix P[i].last P[i].raw = _
    unfold tblStep
    cases hn : P[i].name.toList == nm.toList with
    | false => simp only [f91_1000006d, cond_false]
    | true =>
      simp only [f91_1000006d, cond_true, f106_eq hk hx]
      have hd' := hd P[i]
      unfold tget at hd'
      rw [show decide (((mget (.int .i64) P[i].base T).getD []).length + ([(P[i].1, ((P[i].gen, (P[i].gone, (P[i].name, (P[i].ix, (P[i].last, (P[i].raw, ())))))), ()))] : List Fnd).length ≤ LIM 80) = true from hd']
      simp only [cond_true, beq_self_eq_true]
      rfl
theorem f91_eq {k : Nat} {b p s : Int} {d w x st : List Int} {nx : Int} {P : List Fnd} (nm : ByteArray) (hk : P.length + 10 < k) (hP : PgsOk P) (K : Tbl → Option R) : f91 k b p s d w x st P nx nm K = K (tblF P nm) := by
  rw [f91_def]
  obtain ⟨k, rfl⟩ := succ_of (show 0 < k by omega)
  simp only [f91d, f91_0_def]
  exact of_loop k (by omega) _ nm P hP P.length k 0 [] (by omega) (by omega) ⟨List.nodup_nil, fun g => by simp [tget, mget, grp]⟩
/-! ### a version of its pages -/
theorem nodup_via {α β γ : Type} (f : α → β) (g : α → γ) : ∀ {l : List α}, (l.map f).Nodup → (∀ x ∈ l, ∀ y ∈ l, g x = g y → f x = f y) → (l.map g).Nodup
  | [], _, _ => List.nodup_nil
  | x :: l, h, hi => by
    rw [List.map_cons, List.nodup_cons] at h ⊢
    refine ⟨fun hm => ?_, nodup_via f g h.2 fun a ha b hb => hi a (List.mem_cons_of_mem _ ha) b (List.mem_cons_of_mem _ hb)⟩
    obtain ⟨y, hy, e⟩ := List.mem_map.1 hm
    exact h.1 (List.mem_map.2 ⟨y, hy, hi y (List.mem_cons_of_mem _ hy) x (List.mem_cons_self ..) e⟩)
theorem toList_inj {a b : ByteArray} (h : a.toList = b.toList) : a = b := by
  rw [ByteArray.toList_eq, ByteArray.toList_eq] at h
  obtain ⟨⟨a⟩⟩ := a
  obtain ⟨⟨b⟩⟩ := b
  simpa using h
theorem toList_beq {a b : ByteArray} : (a.toList == b.toList) = true ↔ a = b := by
  rw [beq_iff_eq]
  exact ⟨toList_inj, fun h => by rw [h]⟩
theorem grp_keys {P : List Fnd} (hP : PgsOk P) (nm : ByteArray) (g : Int) : ((grp P nm g).map keyIx).Nodup := by
  refine nodup_via Fnd.key keyIx (List.Nodup.sublist (List.Sublist.map _ List.filter_sublist) hP.keys) fun x hx y hy e => ?_
  have gx := (List.mem_filter.1 hx).2
  have gy := (List.mem_filter.1 hy).2
  rw [Bool.and_eq_true, toList_beq, beq_iff_eq] at gx gy
  have e' : x.ix = y.ix := e
  have hb : x.gen - x.ix = y.gen - y.ix := gx.2.trans gy.2.symm
  unfold Fnd.key
  rw [show x.gen = y.gen by omega, gx.1, gy.1]
theorem f104_eq {k : Nat} (hk : 0 < k) {l : List Fnd} (h1 : (l.map keyIx).Nodup) (h2 : l.length ≤ 4096) (K : List Fnd → Option R) : f104 k l K = K (skL keyIx l) := by
  rw [f104_def]
  obtain ⟨k, rfl⟩ := succ_of hk
  have : skOk keyIx l = true := by
    unfold skOk
    rw [Bool.and_eq_true]
    exact ⟨nodupB_iff.2 h1, by rw [decide_eq_true_eq]; omega⟩
  simp only [f104d, this, cond_true]
end Go.Proofs.Ytecnlienmpdlaaa.PM
/- Plain laws of flash memories: versions in order, the newest, files. -/
set_option linter.unusedSimpArgs false
set_option linter.unusedVariables false
namespace Go.Proofs.Ytecnlienmpdlaaa.PM
open Go Go.Proofs.Ytecnlienmpdlaaa.Bt
variable {R : Type}

abbrev Ver := Int × (Int × (Bool × (Bool × Unit)))
/-- How many last pages, and whether the last of them stands where it should. -/
def lastsF : Nat → Int → Bool → List Fnd → Int × Bool
  | _, n, e, [] => (n, e)
  | i, n, e, x :: l => bif x.last then lastsF (i + 1) (n + 1) (x.ix == (i : Int)) l else lastsF (i + 1) n e l
noncomputable def firstGone : List Fnd → Bool
  | [] => false
  | x :: _ => bif x.ix == 0 then x.gone else false
noncomputable def wholeF (l : List Fnd) : Bool := (lastsF 0 0 false l).2 && ((lastsF 0 0 false l).1 == 1)
noncomputable def descF (g : Int) (ps : List Fnd) : Ver := (g, ((ps.length : Int), (wholeF (skL keyIx ps), (firstGone (skL keyIx ps), ()))))
theorem desc_loop (k : Nat) (x0 : Int → Bool → Option R) (l : List Fnd) (hl : l.length ≤ 4096) (y1 y2 y5 y6 : Int) (y3 y4 y7 : Bool) : ∀ (d f i : Nat) (n : Int) (e : Bool), i + d = l.length → d < f → 0 ≤ n → n ≤ i →
    f92_0d k x0 (l.length : Int) l y1 y2 y3 y4 y5 y6 y7 f n (i : Int) e = x0 (lastsF i n e (l.drop i)).1 (lastsF i n e (l.drop i)).2
  | d, 0, i, _, _, _, h, _, _ => absurd h (Nat.not_lt_zero _)
  | 0, f + 1, i, n, e, hi, _, _, _ => by
    have h1 : decide ((i : Int) < (l.length : Int)) = false := by simp only [decide_eq_false_iff_not]; omega
    simp only [f92_0d, f92_0b, h1, cond_false]
    rw [List.drop_of_length_le (by omega)]
    rfl
  | d + 1, f + 1, i, n, e, hi, hf, hn0, hn1 => by
    have h1 : decide ((i : Int) < (l.length : Int)) = true := by simp only [decide_eq_true_eq]; omega
    have h0 : decide ((0 : Int) ≤ (i : Int)) = true := by simp
    have hw : IntKind.i64.wrap ((i : Int) + 1) = ((i + 1 : Nat) : Int) := by rw [wi (by omega) (by omega)]; omega
    have hwn : IntKind.i64.wrap (n + 1) = n + 1 := wi (by omega) (by omega)
    have hil : i < l.length := by omega
    simp only [f92_0d, f92_0b, h1, h0, cond_true, Bool.and_self, Int.toNat_natCast, hw, getF_in hil]
    rw [f92_1000008_def]
    show f92_1000008d k _ n (i : Int) l[i].last e l[i].ix = _
    rw [List.drop_eq_getElem_cons hil]
    simp only [lastsF]
    cases hla : l[i].last with
    | true =>
      simp only [f92_1000008d, cond_true, hwn]
      exact desc_loop k x0 l hl y1 y2 y5 y6 y3 y4 y7 d f (i + 1) (n + 1) _ (by omega) (by omega) (by omega) (by omega)
    | false =>
      simp only [f92_1000008d, cond_false]
      exact desc_loop k x0 l hl y1 y2 y5 y6 y3 y4 y7 d f (i + 1) n e (by omega) (by omega) hn0 (by omega)
theorem skL_len {α : Type} (key : α → Int) (l : List α) : (skL key l).length = l.length := (skL_perm key l).length_eq
theorem f92_eq {k : Nat} (g : Int) {ps : List Fnd} (hk : ps.length + 10 < k) (h0 : ps ≠ []) (h1 : (ps.map keyIx).Nodup) (h2 : ps.length ≤ 4096) (K : Int → Int → Bool → Bool → List Fnd → Option R) :
    f92 k g ps K = K g (ps.length : Int) (descF g ps).2.2.1 (descF g ps).2.2.2.1 (skL keyIx ps) := by
  rw [f92_def]
  obtain ⟨k, rfl⟩ := succ_of (show 0 < k by omega)
  have hlen := skL_len keyIx ps
  have hpos : 0 < ps.length := List.length_pos_iff.2 h0
  obtain ⟨r, hr⟩ : ∃ r : List Fnd, r = skL keyIx ps := ⟨_, rfl⟩
  have hd : descF g ps = (g, ((ps.length : Int), (wholeF r, (firstGone r, ())))) := by unfold descF; rw [hr]
  rw [hd]
  simp only [f92d, f104_eq (show 0 < k by omega) h1 h2, ← hr]
  rw [← hr] at hlen
  have d1 : decide (r.length = ps.length) = true := by simpa using hlen
  have d2 : decide (0 < (r.length : Int)) = true := by simp only [decide_eq_true_eq]; omega
  have hl := fun y1 y2 y5 y6 y3 y4 y7 (x0 : Int → Bool → Option R) => desc_loop k x0 r (by omega) y1 y2 y5 y6 y3 y4 y7 r.length k 0 0 false (by omega) (by omega) (Int.le_refl _) (Int.le_refl _)
  simp only [List.drop_zero, Int.natCast_zero] at hl
  simp only [d1, d2, Bool.and_self, cond_true, f92_0_def]
  have hf : firstGone r = bif Fnd.ix (r.getD 0 zF) == 0 then Fnd.gone (r.getD 0 zF) else false := by
    cases r with
    | nil => simp at d2
    | cons x l => rfl
  have hll : (r.length : Int) = (ps.length : Int) := by omega
  have hb : ((((((((r.getD 0 (0, ((0, (false, ((⟨#[]⟩ : ByteArray), (0, (false, (([] : List Int), ())))))), ()))).2).1).2).2).2).1 == 0) == true) = (Fnd.ix (r.getD 0 zF) == 0) := by
    rw [beq_true]; rfl
  rw [hb]
  unfold wholeF
  cases hz : Fnd.ix (r.getD 0 zF) == 0 with
  | true =>
    rw [hz, cond_true] at hf
    rw [cond_true, hf]
    refine (hl _ _ _ _ _ _ _ _).trans ?_
    rw [hll]
    cases (lastsF 0 0 false r).2 <;> rfl
  | false =>
    rw [hz, cond_false] at hf
    rw [cond_false, hf]
    refine (hl _ _ _ _ _ _ _ _).trans ?_
    rw [hll]
    cases (lastsF 0 0 false r).2 <;> rfl
end Go.Proofs.Ytecnlienmpdlaaa.PM
/- Plain laws of flash memories: all versions, the newest whole one, its file. -/
set_option linter.unusedSimpArgs false
set_option linter.unusedVariables false
namespace Go.Proofs.Ytecnlienmpdlaaa.PM
open Go Go.Proofs.Ytecnlienmpdlaaa.Bt
variable {R : Type}

theorem allOf_same {m : Nat} {f : Nat → Option R} {v : Option R} (h : ∀ i, i ≤ m → f i = v) : allOf m f = v := by
  cases v with
  | some r => exact allOf_iff.2 h
  | none =>
    cases hc : allOf m f with
    | none => rfl
    | some r => exact absurd (allOf_iff.1 hc 0 (Nat.zero_le _)) (by rw [h 0 (Nat.zero_le _)]; exact fun h => nomatch h)
noncomputable def dscE (e : Int × List Fnd) : Ver := descF e.1 e.2
/-- What is known of a table's entries. -/
def TOk (T : Tbl) : Prop := ∀ e ∈ T, e.2 ≠ [] ∧ (e.2.map keyIx).Nodup ∧ e.2.length ≤ 4096
theorem vers_loop (k : Nat) (hk : 5000 < k) (x0 : List Ver → Option R) (v : Option R) : ∀ (d f : Nat) (out : List Ver) (T : Tbl), T.length = d → d < f → TOk T → out.length + T.length ≤ 4096 →
    (∀ o : List Ver, o.Perm (out ++ T.map dscE) → x0 o = v) → f69_0d k x0 f out T = v
  | d, 0, _, _, _, h, _, _, _ => absurd h (Nat.not_lt_zero _)
  | 0, f + 1, out, T, hT, _, _, _, h => by
    have hT := List.length_eq_zero_iff.1 hT
    subst hT
    simp only [f69_0d, f69_0b]
    refine allOf_same fun i _ => ?_
    simp only [List.isEmpty_nil, Bool.not_true, cond_false]
    exact h _ (by simp)
  | d + 1, f + 1, out, T, hT, hf, hok, hl, h => by
    simp only [f69_0d, f69_0b]
    refine allOf_same fun i _ => ?_
    have e1 : List.isEmpty T = false := by cases T with | nil => simp at hT | cons _ _ => rfl
    obtain ⟨c, rest, hbr⟩ : ∃ c rest, bring i T = c :: rest := by
      have := (bring_perm i T).length_eq
      cases hb : bring i T with
      | nil => rw [hb] at this; simp at this; omega
      | cons c rest => exact ⟨c, rest, rfl⟩
    have hp : (c :: rest).Perm T := hbr ▸ bring_perm i T
    have hc := hok c (hp.mem_iff.1 (List.mem_cons_self ..))
    have hlr : rest.length + 1 = T.length := by simpa using hp.length_eq
    obtain ⟨g, ps⟩ := c
    simp only [hbr, e1, List.isEmpty_cons, Bool.not_false, cond_true, List.head?_cons, Option.map_some, Option.getD_some, List.tail_cons]
    rw [f92_eq g (by have := hc.2.2; omega) hc.1 hc.2.1 hc.2.2]
    have d1 : decide ((skL keyIx ps).length = ps.length) = true := by simpa using skL_len keyIx ps
    have d2 : ∀ y : Ver, decide (out.length + ([y] : List Ver).length ≤ LIM 24) = true := fun y => by rw [LIM24, decide_eq_true_eq]; simp; omega
    simp only [d1, d2, Bool.and_self, cond_true]
    refine vers_loop k hk x0 v d f _ rest (by omega) (by omega) (fun e he => hok e (hp.mem_iff.1 (List.mem_cons_of_mem _ he))) (by simp; omega) fun o ho => h o (ho.trans ?_)
    rw [List.append_assoc]
    exact (List.Perm.append_left out (hp.map dscE))
noncomputable def versF (P : List Fnd) (nm : ByteArray) : List Ver := skL keyGen ((tblF P nm).map dscE)
theorem mget_mem {β : Type} {kt : Ty} (hk : keyTy kt = true) {l : List (kt.D × β)} (hn : (l.map (·.1)).Nodup) {e : kt.D × β} (he : e ∈ l) : mget kt e.1 l = some e.2 := by
  obtain ⟨j, hj, rfl⟩ := List.getElem_of_mem he
  exact (mget_at hk hn (j := j) (by rw [List.getElem?_eq_getElem hj])).1
theorem tblF_get {P : List Fnd} {nm : ByteArray} {e : Int × List Fnd} (he : e ∈ tblF P nm) : e.2 = grp P nm e.1 ∧ e.2 ≠ [] := by
  have h := tblF_ok P nm
  have h1 : tget e.1 (tblF P nm) = some e.2 := mget_mem (kt := .int .i64) rfl h.keys he
  rw [h.get] at h1
  split at h1
  · cases h1
  · rename_i hne
    simp only [Option.some.injEq] at h1
    exact ⟨h1.symm, h1 ▸ hne⟩
theorem tblF_tok {P : List Fnd} (hP : PgsOk P) (nm : ByteArray) : TOk (tblF P nm) := fun e he => by
  obtain ⟨h1, h2⟩ := tblF_get he
  rw [h1]
  exact ⟨h1 ▸ h2, grp_keys hP nm _, grp_len hP nm _⟩
theorem tblStep_len (nm : ByteArray) (T : Tbl) (x : Fnd) : (tblStep nm T x).length ≤ T.length + 1 := by
  unfold tblStep
  cases x.name.toList == nm.toList with
  | false => exact Nat.le_succ _
  | true =>
    simp only [cond_true, List.length_append, List.length_cons, List.length_nil]
    exact Nat.succ_le_succ (Nat.le_trans (List.length_filter_le _ _) (List.length_filter_le _ _))
theorem tblF_len (P : List Fnd) (nm : ByteArray) : (tblF P nm).length ≤ P.length := by
  have gen : ∀ (P : List Fnd) (T : Tbl), (P.foldl (tblStep nm) T).length ≤ T.length + P.length := by
    intro P
    induction P with
    | nil => intro T; exact Nat.le_refl _
    | cons x P ih =>
      intro T
      have h1 := ih (tblStep nm T x)
      have h2 := tblStep_len nm T x
      simp only [List.foldl_cons, List.length_cons]
      omega
  have := gen P []
  simpa [tblF] using this
theorem f93_eq {k : Nat} (hk : 0 < k) {l : List Ver} (h1 : (l.map keyGen).Nodup) (h2 : l.length ≤ 4096) (K : List Ver → Option R) : f93 k l K = K (skL keyGen l) := by
  rw [f93_def]
  obtain ⟨k, rfl⟩ := succ_of hk
  have : skOk keyGen l = true := by
    unfold skOk
    rw [Bool.and_eq_true]
    exact ⟨nodupB_iff.2 h1, by rw [decide_eq_true_eq]; omega⟩
  simp only [f93d, this, cond_true]
theorem dsc_keys (P : List Fnd) (nm : ByteArray) : (((tblF P nm).map dscE).map keyGen).Nodup := by
  rw [List.map_map]
  refine nodup_via (f := fun e : Int × List Fnd => e.1) (g := keyGen ∘ dscE) (tblF_ok P nm).keys fun x hx y hy e => ?_
  have e' : -x.1 = -y.1 := e
  exact Int.neg_inj.1 e'
theorem f69_eq {k : Nat} {b p s : Int} {d w x st : List Int} {nx : Int} {P : List Fnd} (nm : ByteArray) (hk : 6000 < k) (hP : PgsOk P) (K : List Ver → Option R) : f69 k b p s d w x st P nx nm K = K (versF P nm) := by
  rw [f69_def]
  obtain ⟨k, rfl⟩ := succ_of (show 0 < k by omega)
  have hlen := hP.len
  have hT := tblF_len P nm
  simp only [f69d, f91_eq nm (show P.length + 10 < k by omega) hP, f69_0_def]
  refine vers_loop k (by omega) _ _ (tblF P nm).length k [] (tblF P nm) rfl (by omega) (tblF_tok hP nm) (by simp; omega) fun o ho => ?_
  rw [List.nil_append] at ho
  have hol : o.length ≤ 4096 := by rw [ho.length_eq, List.length_map]; omega
  have hk1 := (ho.map keyGen).nodup_iff.2 (dsc_keys P nm)
  have e : skL keyGen o = versF P nm := by
    unfold versF
    exact asc_unique keyGen ((skL_perm keyGen o).trans (ho.trans (skL_perm keyGen _).symm)) (((skL_perm keyGen o).map keyGen).nodup_iff.2 hk1) (skL_asc keyGen o) (skL_asc keyGen _)
  rw [f93_eq (show 0 < k by omega) hk1 hol]
  have d1 : decide ((skL keyGen o).length = o.length) = true := by simpa using skL_len keyGen o
  rw [e] at d1
  simp only [e, d1, Bool.and_self, cond_true]
/-! ### the newest whole version -/
abbrev zV : Ver := (0, (0, (false, (false, ()))))
def Ver.whole (v : Ver) : Bool := v.2.2.1
def Ver.gone (v : Ver) : Bool := v.2.2.2.1
theorem getV_in {l : List Ver} {i : Nat} (h : i < l.length) : l.getD i zV = l[i] := by rw [List.getD_eq_getElem?_getD, List.getElem?_eq_getElem h]; rfl
noncomputable def pagesAt (P : List Fnd) (nm : ByteArray) (g : Int) : List Fnd := (tget g (tblF P nm)).getD []
theorem pagesAt_eq (P : List Fnd) (nm : ByteArray) (g : Int) : pagesAt P nm g = grp P nm g := by
  unfold pagesAt
  rw [(tblF_ok P nm).get]
  split
  · rename_i h; rw [h]; rfl
  · rfl
noncomputable def newK (P : List Fnd) (nm : ByteArray) (K : Int → Int → Bool → Bool → Bool → List Fnd → Option R) : Option Ver → Option R
  | none => K 0 0 false false false []
  | some v => K v.1 v.2.1 v.2.2.1 v.2.2.2.1 true (skL keyIx (pagesAt P nm v.1))
theorem new_loop (k : Nat) (hk : 5000 < k) {b p s nx y1 y2 : Int} {y3 y4 : Bool} {d w x st : List Int} {P : List Fnd} (nm : ByteArray) (hP : PgsOk P) (V : List Ver) (hV : V.length ≤ 4096) (K : Int → Int → Bool → Bool → Bool → List Fnd → Option R) :
    ∀ (m f i : Nat), i + m = V.length → m < f →
    f90_0d k K (K 0 0 false false false []) nm (V.length : Int) b p s d w x st P nx y1 y2 y3 y4 V f (i : Int) = newK P nm K ((V.drop i).find? Ver.whole)
  | m, 0, i, _, h => absurd h (Nat.not_lt_zero _)
  | 0, f + 1, i, hi, _ => by
    have h1 : decide ((i : Int) < (V.length : Int)) = false := by simp only [decide_eq_false_iff_not]; omega
    simp only [f90_0d, f90_0b, h1, cond_false]
    rw [List.drop_of_length_le (by omega)]
    rfl
  | m + 1, f + 1, i, hi, hf => by
    have hlen := hP.len
    have h1 : decide ((i : Int) < (V.length : Int)) = true := by simp only [decide_eq_true_eq]; omega
    have h0 : decide ((0 : Int) ≤ (i : Int)) = true := by simp
    have hw : IntKind.i64.wrap ((i : Int) + 1) = ((i + 1 : Nat) : Int) := by rw [wi (by omega) (by omega)]; omega
    have hil : i < V.length := by omega
    simp only [f90_0d, f90_0b, h1, h0, cond_true, Bool.and_self, Int.toNat_natCast, hw, getV_in hil]
    rw [List.drop_eq_getElem_cons hil, List.find?_cons]
    have ew : V[i].2.2.1 = Ver.whole V[i] := rfl
    rw [ew]
    cases hwh : Ver.whole V[i] with
    | true =>
      simp only [cond_true]
      rw [f91_eq nm (by omega) hP]
      have hg : (mget (.int .i64) V[i].1 (tblF P nm)).getD [] = grp P nm V[i].1 := pagesAt_eq P nm V[i].1
      rw [hg, f104_eq (by omega) (grp_keys hP nm _) (grp_len hP nm _)]
      have d1 : decide ((skL keyIx (grp P nm V[i].1)).length = (grp P nm V[i].1).length) = true := by simpa using skL_len keyIx _
      simp only [d1, Bool.and_self, cond_true, newK, pagesAt_eq, ew, hwh]
    | false =>
      simp only [cond_false]
      exact new_loop k hk nm hP V hV K m f (i + 1) (by omega) (by omega)
noncomputable def newV (P : List Fnd) (nm : ByteArray) : Option Ver := (versF P nm).find? Ver.whole
theorem versF_len {P : List Fnd} (hP : PgsOk P) (nm : ByteArray) : (versF P nm).length ≤ 4096 := by
  have := hP.len
  have := tblF_len P nm
  unfold versF
  rw [skL_len, List.length_map]; omega
theorem f90_eq {k : Nat} {b p s : Int} {d w x st : List Int} {nx : Int} {P : List Fnd} (nm : ByteArray) (hk : 7000 < k) (hP : PgsOk P) (K : Int → Int → Bool → Bool → Bool → List Fnd → Option R) : f90 k b p s d w x st P nx nm K = newK P nm K (newV P nm) := by
  rw [f90_def]
  obtain ⟨k, rfl⟩ := succ_of (show 0 < k by omega)
  have := versF_len hP nm
  simp only [f90d, f69_eq nm (show 6000 < k by omega) hP, f90_0_def]
  exact new_loop k (by omega) nm hP (versF P nm) this K (versF P nm).length k 0 (by omega) (by omega)
noncomputable def fileOk (P : List Fnd) (nm : ByteArray) : Bool := match newV P nm with
  | none => false
  | some v => !(Ver.gone v)
noncomputable def fileP (P : List Fnd) (nm : ByteArray) : List Fnd := match newV P nm with
  | none => []
  | some v => skL keyIx (pagesAt P nm v.1)
theorem f68_eq {k : Nat} {b p s : Int} {d w x st : List Int} {nx : Int} {P : List Fnd} (nm : ByteArray) (hk : 8000 < k) (hP : PgsOk P) (K : Bool → List Fnd → Option R) : f68 k b p s d w x st P nx nm K = K (fileOk P nm) (fileP P nm) := by
  rw [f68_def]
  obtain ⟨k, rfl⟩ := succ_of (show 0 < k by omega)
  simp only [f68d, f90_eq nm (show 7000 < k by omega) hP, fileOk, fileP]
  cases newV P nm <;> rfl
theorem f67_eq {k : Nat} {b p s : Int} {d w x st : List Int} {nx : Int} {P : List Fnd} (nm : ByteArray) (hk : 9000 < k) (hP : PgsOk P) (K : Bool → Int → Int → Int → List Int → List Int → List Int → Int → List Int → List Fnd → Option R) : f67 k nm b p s d w x nx st P K = K (!(fileOk P nm)) b p s d w x nx st P := by
  rw [f67_def]
  obtain ⟨k, rfl⟩ := succ_of (show 0 < k by omega)
  simp only [f67d, f68_eq nm (show 8000 < k by omega) hP]
end Go.Proofs.Ytecnlienmpdlaaa.PM
/- Plain laws of flash memories: names of files. -/
set_option linter.unusedSimpArgs false
set_option linter.unusedVariables false
namespace Go.Proofs.Ytecnlienmpdlaaa.PM
open Go Go.Proofs.Ytecnlienmpdlaaa.Bt
variable {R : Type}

/-- The first name of which there is no file. -/
noncomputable def firstNo (P : List Fnd) : Nat → List ByteArray → Option Nat
  | _, [] => none
  | i, n :: l => bif fileOk P n then firstNo P (i + 1) l else some i
noncomputable def ixK {A : Type} (K : Int → A) (x : A) : Option Nat → A
  | none => x
  | some i => K (i : Int)
theorem ix_loop (k : Nat) (hk : 10000 < k) {b p s nx : Int} {d w x st : List Int} {P : List Fnd} (hP : PgsOk P) (l : List ByteArray) (hl : l.length ≤ 4096) (K : Int → List ByteArray → Int → Int → Int → List Int → List Int → List Int → Int → List Int → List Fnd → Option R) (x0 : Int → Int → Int → List Int → List Int → List Int → Int → List Int → List Fnd → Option R) :
    ∀ (m f i : Nat), i + m = l.length → m < f →
    f87_0d k K x0 (l.length : Int) l f (i : Int) b p s d w x nx st P = ixK (fun j => K j l b p s d w x nx st P) (x0 b p s d w x nx st P) (firstNo P i (l.drop i))
  | m, 0, i, _, h => absurd h (Nat.not_lt_zero _)
  | 0, f + 1, i, hi, _ => by
    have h1 : decide ((i : Int) < (l.length : Int)) = false := by simp only [decide_eq_false_iff_not]; omega
    simp only [f87_0d, f87_0b, h1, cond_false]
    rw [List.drop_of_length_le (by omega)]
    rfl
  | m + 1, f + 1, i, hi, hf => by
    have h1 : decide ((i : Int) < (l.length : Int)) = true := by simp only [decide_eq_true_eq]; omega
    have h0 : decide ((0 : Int) ≤ (i : Int)) = true := by simp
    have hw : IntKind.i64.wrap ((i : Int) + 1) = ((i + 1 : Nat) : Int) := by rw [wi (by omega) (by omega)]; omega
    have hil : i < l.length := by omega
    have ih := ix_loop k hk hP l hl K x0 m f (i + 1) (by omega) (by omega) (b := b) (p := p) (s := s) (nx := nx) (d := d) (w := w) (x := x) (st := st)
    simp only [f87_0d, f87_0b, h1, h0, cond_true, Bool.and_self, Int.toNat_natCast, hw, getB_in hil, f67_eq _ (show 9000 < k by omega) hP, decide_true]
    rw [List.drop_eq_getElem_cons hil]
    simp only [firstNo]
    cases fileOk P l[i] with
    | true => simpa using ih
    | false => rfl
theorem f87_eq {k : Nat} (hk : 20000 < k) {b p s nx : Int} {d w x st : List Int} {P : List Fnd} (hP : PgsOk P) (l : List ByteArray) (hl : l.length ≤ 4096) (K : Int → List ByteArray → Int → Int → Int → List Int → List Int → List Int → Int → List Int → List Fnd → Option R) :
    f87 k l b p s d w x nx st P K = ixK (fun j => K j l b p s d w x nx st P) (K (-1) l b p s d w x nx st P) (firstNo P 0 l) := by
  rw [f87_def]
  obtain ⟨k, rfl⟩ := succ_of (show 0 < k by omega)
  simp only [f87d, f87_0_def]
  have := ix_loop k (by omega) hP l hl K (fun y0_0_1 y0_0_2 y0_0_3 y0_0_4 y0_0_5 y0_0_6 y0_0_7 y0_0_8 y0_0_9 => (K (-1) l y0_0_1 y0_0_2 y0_0_3 y0_0_4 y0_0_5 y0_0_6 y0_0_7 y0_0_8 y0_0_9)) l.length k 0 (by omega) (by omega) (b := b) (p := p) (s := s) (nx := nx) (d := d) (w := w) (x := x) (st := st)
  rw [List.drop_zero] at this
  exact this
theorem firstNo_none {P : List Fnd} : ∀ {i : Nat} {l : List ByteArray}, firstNo P i l = none → l.filter (fileOk P) = l
  | _, [], _ => rfl
  | i, n :: l, h => by
    simp only [firstNo] at h
    cases hn : fileOk P n with
    | true =>
      rw [hn, cond_true] at h
      rw [List.filter_cons_of_pos hn, firstNo_none h]
    | false => rw [hn, cond_false] at h; cases h
theorem firstNo_some {P : List Fnd} : ∀ {i j : Nat} {l : List ByteArray}, firstNo P i l = some j → i ≤ j ∧ j - i < l.length ∧ (l.take (j - i)).filter (fileOk P) = l.take (j - i) ∧ fileOk P (l.getD (j - i) eB) = false
  | _, _, [], h => by cases h
  | i, j, n :: l, h => by
    simp only [firstNo] at h
    cases hn : fileOk P n with
    | true =>
      rw [hn, cond_true] at h
      obtain ⟨h1, h2, h3, h4⟩ := firstNo_some h
      have e : j - i = j - (i + 1) + 1 := by omega
      refine ⟨by omega, by rw [e]; simpa using h2, ?_, ?_⟩
      · rw [e, List.take_succ_cons, List.filter_cons_of_pos hn, h3]
      · rw [e]; exact h4
    | false =>
      rw [hn, cond_false] at h
      cases h
      rw [Nat.sub_self]
      exact ⟨Nat.le_refl _, by simp, rfl, hn⟩
theorem del_loop (k : Nat) (hk : 10000 < k) {b p s nx : Int} {d w x st : List Int} {P : List Fnd} (hP : PgsOk P) (l : List ByteArray) (hl : l.length ≤ 4096) (x0 : Int → List ByteArray → Int → Int → Int → List Int → List Int → List Int → Int → List Int → List Fnd → Option R) :
    ∀ (m f v q : Nat) (c : List ByteArray), q + m = l.length → m < f → v ≤ q → c.length = l.length → c.drop q = l.drop q →
    ∃ c', c'.length = l.length ∧ f65_0d k x0 f (v : Int) (q : Int) c b p s d w x nx st P = x0 ((c.take v ++ (l.drop q).filter (fileOk P)).length : Int) c' b p s d w x nx st P ∧ c'.take (c.take v ++ (l.drop q).filter (fileOk P)).length = c.take v ++ (l.drop q).filter (fileOk P)
  | m, 0, v, q, c, _, h, _, _, _ => absurd h (Nat.not_lt_zero _)
  | 0, f + 1, v, q, c, hq, _, hv, hcl, _ => by
    have h1 : decide ((q : Int) < (c.length : Int)) = false := by simp only [decide_eq_false_iff_not]; omega
    have e : (c.take v ++ (l.drop q).filter (fileOk P)).length = v := by
      rw [List.drop_of_length_le (by omega)]
      simp; omega
    refine ⟨c, hcl, ?_, ?_⟩
    · simp only [f65_0d, f65_0b, h1, cond_false, e]
    · rw [e, List.drop_of_length_le (by omega)]; simp
  | m + 1, f + 1, v, q, c, hq, hf, hv, hcl, hcd => by
    have h1 : decide ((q : Int) < (c.length : Int)) = true := by simp only [decide_eq_true_eq]; omega
    have h0 : decide ((0 : Int) ≤ (q : Int)) = true := by simp
    have hw : IntKind.i64.wrap ((q : Int) + 1) = ((q + 1 : Nat) : Int) := by rw [wi (by omega) (by omega)]; omega
    have hql : q < l.length := by omega
    have hqc : q < c.length := by omega
    have hcq : c.getD q eB = l[q] := by
      have e1 : c.getD q eB = (c.drop q).getD 0 eB := by rw [List.getD_eq_getElem?_getD, List.getD_eq_getElem?_getD, List.getElem?_drop]; rfl
      rw [e1, hcd, List.drop_eq_getElem_cons hql]; rfl
    have hcd' : c.drop (q + 1) = l.drop (q + 1) := by rw [← List.drop_drop (i := 1) (j := q), hcd, List.drop_drop]
    simp only [f65_0d, f65_0b, h1, h0, cond_true, Bool.and_self, Int.toNat_natCast, hw, hcq, f67_eq _ (show 9000 < k by omega) hP, decide_true, f65_1000009_def, f65_1000009d, Bool.not_not]
    rw [List.drop_eq_getElem_cons hql]
    cases hn : fileOk P l[q] with
    | false =>
      rw [List.filter_cons_of_neg (by simp [hn])]
      simp only [cond_false]
      exact del_loop k hk hP l hl x0 m f v (q + 1) c (by omega) (by omega) (by omega) hcl hcd'
    | true =>
      rw [List.filter_cons_of_pos hn]
      have hv0 : decide ((0 : Int) ≤ (v : Int)) = true := by simp
      have hv1 : decide ((v : Int) < (c.length : Int)) = true := by simp only [decide_eq_true_eq]; omega
      have hwv : IntKind.i64.wrap ((v : Int) + 1) = ((v + 1 : Nat) : Int) := by rw [wi (by omega) (by omega)]; omega
      simp only [cond_true, hv0, hv1, Bool.and_self, hwv]
      have hdr : (c.set v l[q]).drop (q + 1) = l.drop (q + 1) := by
        rw [List.drop_set_of_lt (by omega), hcd']
      have htk : (c.set v l[q]).take (v + 1) = c.take v ++ [l[q]] := by
        rw [List.take_succ_eq_append_getElem (by rw [List.length_set]; omega), List.take_set_of_le (Nat.le_refl _), List.getElem_set_self]
      have ih := del_loop k hk hP l hl x0 m f (v + 1) (q + 1) (c.set v l[q]) (by omega) (by omega) (by omega) (by rw [List.length_set]; exact hcl) hdr (b := b) (p := p) (s := s) (nx := nx) (d := d) (w := w) (x := x) (st := st)
      rw [htk, List.append_assoc] at ih
      exact ih
theorem f65_eq {k : Nat} (hk : 30000 < k) {b p s nx : Int} {d w x st : List Int} {P : List Fnd} (hP : PgsOk P) (l : List ByteArray) (hl : l.length ≤ 4096) (K : Int → Int → Int → List Int → List Int → List Int → Int → List Int → List Fnd → List ByteArray → Option R) :
    f65 k l b p s d w x nx st P K = K b p s d w x nx st P (l.filter (fileOk P)) := by
  rw [f65_def]
  obtain ⟨k, rfl⟩ := succ_of (show 0 < k by omega)
  simp only [f65d, f87_eq (show 20000 < k by omega) hP l hl, decide_true, Bool.and_self, cond_true]
  cases hf : firstNo P 0 l with
  | none =>
    rw [firstNo_none hf]
    simp [ixK]
  | some j =>
    obtain ⟨_, h2, h3, h4⟩ := firstNo_some hf
    rw [Nat.sub_zero] at h2 h3 h4
    rw [getB_in h2] at h4
    have e1 : ((j : Int) == -1) = false := by
      rw [beq_dec, decide_eq_false_iff_not]; omega
    have hw : IntKind.i64.wrap ((j : Int) + 1) = ((j + 1 : Nat) : Int) := by rw [wi (by omega) (by omega)]; omega
    simp only [ixK, e1, cond_false, hw, f65_0_def]
    obtain ⟨c', g1, g2, g3⟩ := del_loop k (by omega) hP l hl (fun y0_0_0 y0_0_1 y0_0_2 y0_0_3 y0_0_4 y0_0_5 y0_0_6 y0_0_7 y0_0_8 y0_0_9 y0_0_10 => (bif (decide (0 ≤ y0_0_0) && decide (y0_0_0 ≤ (y0_0_1.length : Int))) then (bif (decide (0 ≤ y0_0_0) && decide (y0_0_0 ≤ ((splice y0_0_1 (Int.toNat y0_0_0) (List.replicate (y0_0_1.length - (Int.toNat y0_0_0)) (⟨#[]⟩ : ByteArray))).length : Int))) then (K y0_0_2 y0_0_3 y0_0_4 y0_0_5 y0_0_6 y0_0_7 y0_0_8 y0_0_9 y0_0_10 (((splice y0_0_1 (Int.toNat y0_0_0) (List.replicate (y0_0_1.length - (Int.toNat y0_0_0)) (⟨#[]⟩ : ByteArray))).drop 0).take (Int.toNat y0_0_0))) else none) else none)) (l.length - (j + 1)) k j (j + 1) l (by omega) (by omega) (by omega) rfl rfl (b := b) (p := p) (s := s) (nx := nx) (d := d) (w := w) (x := x) (st := st)
    refine g2.trans ?_
    have er : l.take j ++ (l.drop (j + 1)).filter (fileOk P) = l.filter (fileOk P) := by
      have e2 : l.filter (fileOk P) = (l.take j ++ l[j] :: l.drop (j + 1)).filter (fileOk P) := by
        rw [← List.drop_eq_getElem_cons h2, List.take_append_drop]
      rw [e2, List.filter_append, List.filter_cons_of_neg (by simp [h4]), h3]
    rw [er] at g3 ⊢
    obtain ⟨r, hr⟩ : ∃ r, r = l.filter (fileOk P) := ⟨_, rfl⟩
    rw [← hr] at g3 ⊢
    have hrl : r.length ≤ c'.length := by
      have := congrArg List.length g3
      rw [List.length_take] at this
      omega
    have d0 : decide ((0 : Int) ≤ (r.length : Int)) = true := by simp
    have d1 : decide ((r.length : Int) ≤ (c'.length : Int)) = true := by simp only [decide_eq_true_eq]; omega
    have hsl : (splice c' r.length (List.replicate (c'.length - r.length) eB)).length = c'.length := by
      unfold splice; simp; omega
    simp only [Int.toNat_natCast, d0, d1, hsl, Bool.and_self, cond_true, splice_take hrl, g3]
end Go.Proofs.Ytecnlienmpdlaaa.PM
/- Plain laws of flash memories: files are versions. -/
set_option linter.unusedSimpArgs false
set_option linter.unusedVariables false
namespace Go.Proofs.Ytecnlienmpdlaaa.PM
open Go Go.Proofs.Ytecnlienmpdlaaa.Bt
variable {R : Type}

/-! ### the order of names -/
theorem cmpT_sub : ∀ (p : ByteArray) (l : List ByteArray), (cmpT p l).Sublist l
  | _, [] => List.Sublist.refl _
  | p, y :: l => by
    simp only [cmpT]
    cases y.toList == p.toList with
    | true => exact (cmpT_sub y l).cons _
    | false => exact (cmpT_sub y l).cons_cons _
theorem compL_sub : ∀ l : List ByteArray, (compL l).Sublist l
  | [] => List.Sublist.refl _
  | x :: l => (cmpT_sub x l).cons_cons _
theorem cmpT_mem {z : ByteArray} : ∀ (p : ByteArray) (l : List ByteArray), z ∈ l → z = p ∨ z ∈ cmpT p l
  | p, y :: l, h => by
    simp only [cmpT]
    cases he : y.toList == p.toList with
    | true =>
      have e := toList_beq.1 he
      subst e
      rcases List.mem_cons.1 h with rfl | h
      · exact .inl rfl
      · exact cmpT_mem y l h
    | false =>
      rcases List.mem_cons.1 h with rfl | h
      · exact .inr (List.mem_cons_self ..)
      · rcases cmpT_mem y l h with rfl | h
        · exact .inr (List.mem_cons_self ..)
        · exact .inr (List.mem_cons_of_mem _ h)
theorem compL_mem {z : ByteArray} {l : List ByteArray} : z ∈ compL l ↔ z ∈ l := by
  refine ⟨fun h => (compL_sub l).subset h, fun h => ?_⟩
  cases l with
  | nil => cases h
  | cons x l =>
    rcases List.mem_cons.1 h with rfl | h
    · exact List.mem_cons_self ..
    · rcases cmpT_mem x l h with rfl | h
      · exact List.mem_cons_self ..
      · exact List.mem_cons_of_mem _ h
theorem namesF_mem {z : ByteArray} {P : List Fnd} : z ∈ namesF P ↔ ∃ x ∈ P, Fnd.name x = z := by
  unfold namesF
  rw [compL_mem, (ssL_perm _).mem_iff, List.mem_map]
theorem namesF_asc (P : List Fnd) : (namesF P).Pairwise fun a b => ltS b a = false := (ssL_asc _).sublist (compL_sub _)
theorem namesF_len (P : List Fnd) : (namesF P).length ≤ P.length := by
  have := (compL_sub (ssL (P.map Fnd.name))).length_le
  rw [ssL_len, List.length_map] at this
  exact this
theorem fileOk_mem {P : List Fnd} {nm : ByteArray} (h : fileOk P nm = true) : nm ∈ namesF P := by
  unfold fileOk newV at h
  split at h
  · cases h
  · rename_i v hv
    have hm := List.mem_of_find?_eq_some hv
    unfold versF at hm
    rw [(skL_perm _ _).mem_iff, List.mem_map] at hm
    obtain ⟨e, he, rfl⟩ := hm
    obtain ⟨h1, h2⟩ := tblF_get he
    rw [h1] at h2
    obtain ⟨x, hx⟩ := List.exists_mem_of_ne_nil _ h2
    have hx' := List.mem_filter.1 hx
    rw [Bool.and_eq_true, toList_beq] at hx'
    exact namesF_mem.2 ⟨x, hx'.1, hx'.2.1⟩
/-! ### the calls -/
noncomputable def nmS (P : List Fnd) : List ByteArray := (namesF P).filter (fileOk P)
structure FlashIn (b p s : Int) (d w x : List Int) : Prop where
  dB : B d
  d : d.length ≤ 140737488351232
  w : w.length ≤ 17592186043904
  x : x.length ≤ 17592186043904
variable {b p s : Int} {d w x : List Int}
theorem FlashIn.good (h : FlashIn b p s d w x) (hc : chkFlash b p s d w x = 0) : (1 ≤ b ∧ b ≤ 64) ∧ (1 ≤ p ∧ p ≤ 64) ∧ (64 ≤ s ∧ s ≤ 1024) ∧ (d.length : Int) = b * p * s := by
  unfold chkFlash at hc
  by_cases h1 : chkSizes b p s ≠ 0
  · rw [if_pos h1] at hc; exact absurd hc h1
  · rw [if_neg h1] at hc
    by_cases h2 : (d.length : Int) ≠ b * p * s
    · rw [if_pos h2] at hc; exact absurd hc (by decide)
    · obtain ⟨a1, a2, a3, _⟩ := sizes_ok (by simpa using h1)
      exact ⟨a1, a2, a3, by simpa using h2⟩
theorem FlashIn.look (h : FlashIn b p s d w x) (hc : chkFlash b p s d w x = 0) : PgsOk (lookF b p s d x).pages := by
  obtain ⟨h1, h2, h3, h4⟩ := h.good hc
  have := look_ok (x := x) h.dB h1 h2 h3 h4
  have hp := prod_bounds h1 h2 h3
  exact ⟨by have := this.len; omega, this.ok, this.keys⟩
theorem f31_eq {k : Nat} (h : FlashIn b p s d w x) (hk : w.length + x.length + 40000 < k) (K : Int → List ByteArray → Option R) :
    f31 k b p s d w x K = if chkFlash b p s d w x ≠ 0 then K (chkFlash b p s d w x) [] else K 0 (nmS (lookF b p s d x).pages) := by
  have hw := h.w
  have hx := h.x
  rw [f31_def]
  obtain ⟨k, rfl⟩ := succ_of (show 0 < k by omega)
  simp only [f31d, f37_eq b p s d w x (show _ < k by omega) (by omega) (by omega), bne_dec]
  by_cases hc : chkFlash b p s d w x = 0
  · obtain ⟨h1, h2, h3, h4⟩ := h.good hc
    have hP := h.look hc
    have hl := hP.len
    have hn := namesF_len (lookF b p s d x).pages
    rw [if_neg (by simpa using hc)]
    simp only [hc, decide_true, Bool.not_true, cond_false, f59_eq (show x.length + 8000 < k by omega) (by omega) h.dB h1 h2 h3 h4, f66_eq (show (lookF b p s d x).pages.length + 10 < k by omega) hl, f65_eq (show 30000 < k by omega) hP _ (show (namesF (lookF b p s d x).pages).length ≤ 4096 by omega), Bool.and_self, cond_true]
    rfl
  · rw [if_pos hc]
    simp only [hc, decide_false, Bool.not_false, cond_true]
noncomputable def chkName (b p s : Int) (d w x : List Int) (nm : ByteArray) : Int := if chkFlash b p s d w x ≠ 0 then chkFlash b p s d w x else if nameB nm then 0 else 5
theorem f58_eq {k : Nat} (h : FlashIn b p s d w x) {nm : ByteArray} (hn : nm.size ≤ 140737488351232) (hk : w.length + x.length + nm.size + 40000 < k) (K : Int → Option R) : f58 k b p s d w x nm K = K (chkName b p s d w x nm) := by
  have hw := h.w
  have hx := h.x
  rw [f58_def]
  obtain ⟨k, rfl⟩ := succ_of (show 0 < k by omega)
  simp only [f58d, f37_eq b p s d w x (show _ < k by omega) (by omega) (by omega), bne_dec, chkName]
  by_cases hc : chkFlash b p s d w x = 0
  · simp only [hc, decide_true, Bool.not_true, cond_false, f53_eq nm (show nm.size + 10 < k by omega) (by omega), ne_eq, not_true, if_false]
    cases nameB nm <;> rfl
  · simp only [hc, decide_false, Bool.not_false, cond_true, ne_eq, not_false_iff, if_true]
theorem chkName_flash {nm : ByteArray} (h : chkName b p s d w x nm = 0) : chkFlash b p s d w x = 0 := by
  unfold chkName at h
  by_cases hc : chkFlash b p s d w x = 0
  · exact hc
  · rw [if_pos hc] at h; exact absurd h hc
theorem f32_eq {k : Nat} (h : FlashIn b p s d w x) {nm : ByteArray} (hn : nm.size ≤ 140737488351232) (hk : w.length + x.length + nm.size + 50000 < k) (K : Int → List Ver → Option R) :
    f32 k b p s d w x nm K = if chkName b p s d w x nm ≠ 0 then K (chkName b p s d w x nm) [] else K 0 (versF (lookF b p s d x).pages nm) := by
  have hw := h.w
  have hx := h.x
  rw [f32_def]
  obtain ⟨k, rfl⟩ := succ_of (show 0 < k by omega)
  simp only [f32d, f58_eq h hn (show _ < k by omega), bne_dec]
  by_cases hc : chkName b p s d w x nm = 0
  · obtain ⟨h1, h2, h3, h4⟩ := h.good (chkName_flash hc)
    have hP := h.look (chkName_flash hc)
    rw [if_neg (by simpa using hc)]
    simp only [hc, decide_true, Bool.not_true, cond_false, f59_eq (show x.length + 8000 < k by omega) (by omega) h.dB h1 h2 h3 h4, f69_eq nm (show 6000 < k by omega) hP]
  · rw [if_pos hc]
    simp only [hc, decide_false, Bool.not_false, cond_true]
/-- The bytes of pages, to the last one. -/
def rawsF (c : List Int) : List Fnd → List Int
  | [] => c
  | y :: l => bif y.last then c ++ y.raw else rawsF (c ++ y.raw) l
theorem raw_loop (k : Nat) (x0 : List Int → Option R) (l : List Fnd) (hl : l.length ≤ 4096) (hr : ∀ y ∈ l, (Fnd.raw y).length ≤ 1024) : ∀ (m f i : Nat) (c : List Int), i + m = l.length → m < f → c.length ≤ 1024 * i →
    f33_0d k x0 (l.length : Int) l f (i : Int) c = x0 (rawsF c (l.drop i))
  | m, 0, i, c, _, h, _ => absurd h (Nat.not_lt_zero _)
  | 0, f + 1, i, c, hi, _, _ => by
    have h1 : decide ((i : Int) < (l.length : Int)) = false := by simp only [decide_eq_false_iff_not]; omega
    simp only [f33_0d, f33_0b, h1, cond_false]
    rw [List.drop_of_length_le (by omega)]
    rfl
  | m + 1, f + 1, i, c, hi, hf, hc => by
    have h1 : decide ((i : Int) < (l.length : Int)) = true := by simp only [decide_eq_true_eq]; omega
    have h0 : decide ((0 : Int) ≤ (i : Int)) = true := by simp
    have hw : IntKind.i64.wrap ((i : Int) + 1) = ((i + 1 : Nat) : Int) := by rw [wi (by omega) (by omega)]; omega
    have hil : i < l.length := by omega
    have hy := hr l[i] (List.getElem_mem hil)
    simp only [f33_0d, f33_0b, h1, h0, cond_true, Bool.and_self, Int.toNat_natCast, hw, getF_in hil]
    show (bif decide (c.length + (Fnd.raw l[i]).length ≤ LIM 1) then (bif Fnd.last l[i] then x0 (c ++ Fnd.raw l[i]) else f33_0d k x0 (l.length : Int) l f ((i + 1 : Nat) : Int) (c ++ Fnd.raw l[i])) else none) = _
    have d1 : decide (c.length + (Fnd.raw l[i]).length ≤ LIM 1) = true := by rw [LIM1, decide_eq_true_eq]; omega
    rw [d1, cond_true, List.drop_eq_getElem_cons hil]
    simp only [rawsF]
    cases Fnd.last l[i] with
    | true => rfl
    | false =>
      simp only [cond_false]
      exact raw_loop k x0 l hl hr m f (i + 1) _ (by omega) (by omega) (by rw [List.length_append]; omega)
theorem fileP_ok {P : List Fnd} (hP : PgsOk P) (nm : ByteArray) : (fileP P nm).length ≤ 4096 ∧ ∀ y ∈ fileP P nm, Fnd.Ok y := by
  unfold fileP
  split
  · exact ⟨Nat.zero_le _, fun y h => by cases h⟩
  · rw [pagesAt_eq, skL_len]
    refine ⟨grp_len hP _ _, fun y hy => ?_⟩
    rw [(skL_perm _ _).mem_iff] at hy
    exact hP.ok y (List.mem_filter.1 hy).1
theorem f33_eq {k : Nat} (h : FlashIn b p s d w x) {nm : ByteArray} (hn : nm.size ≤ 140737488351232) (hk : w.length + x.length + nm.size + 50000 < k) (K : Int → List Int → Option R) :
    f33 k b p s d w x nm K = if chkName b p s d w x nm ≠ 0 then K (chkName b p s d w x nm) [] else if fileOk (lookF b p s d x).pages nm then K 0 (rawsF [] (fileP (lookF b p s d x).pages nm)) else K 9 [] := by
  have hw := h.w
  have hx := h.x
  rw [f33_def]
  obtain ⟨k, rfl⟩ := succ_of (show 0 < k by omega)
  simp only [f33d, f58_eq h hn (show _ < k by omega), bne_dec]
  by_cases hc : chkName b p s d w x nm = 0
  · obtain ⟨h1, h2, h3, h4⟩ := h.good (chkName_flash hc)
    have hP := h.look (chkName_flash hc)
    rw [if_neg (by simpa using hc)]
    simp only [hc, decide_true, Bool.not_true, cond_false, f59_eq (show x.length + 8000 < k by omega) (by omega) h.dB h1 h2 h3 h4, f68_eq nm (show 8000 < k by omega) hP]
    cases fileOk (lookF b p s d x).pages nm with
    | false => rfl
    | true =>
      simp only [Bool.not_true, cond_false, if_true, f33_0_def]
      obtain ⟨g1, g2⟩ := fileP_ok hP nm
      refine (raw_loop k _ _ g1 (fun y hy => (g2 y hy).raw) (fileP (lookF b p s d x).pages nm).length k 0 [] (by omega) (by omega) (Nat.zero_le _)).trans ?_
      rw [List.drop_zero]
  · rw [if_pos hc]
    simp only [hc, decide_false, Bool.not_false, cond_true]
/-! ### the law -/
theorem mem_loop (k : Nat) (K : Int → Option R) (x : Option R) (l : List ByteArray) (a : ByteArray) (hl : l.length < 4611686018427387904) (hK : ∀ n : Int, 0 ≤ n → K n = K 0) : ∀ (d f i : Nat), i + d = l.length → d < f →
    f70_0d k K x l a (l.length : Int) f (i : Int) = bif (l.drop i).any (fun y => a.toList == y.toList) then K 0 else x
  | d, 0, i, _, h => absurd h (Nat.not_lt_zero _)
  | 0, f + 1, i, hi, _ => by
    have h1 : decide ((i : Int) < (l.length : Int)) = false := by simp only [decide_eq_false_iff_not]; omega
    simp only [f70_0d, f70_0b, h1, cond_false]
    rw [List.drop_of_length_le (by omega)]
    rfl
  | d + 1, f + 1, i, hi, hf => by
    have h1 : decide ((i : Int) < (l.length : Int)) = true := by simp only [decide_eq_true_eq]; omega
    have h0 : decide ((0 : Int) ≤ (i : Int)) = true := by simp
    have hw : IntKind.i64.wrap ((i : Int) + 1) = ((i + 1 : Nat) : Int) := by rw [wi (by omega) (by omega)]; omega
    have hli : i < l.length := by omega
    have ih := mem_loop k K x l a hl hK d f (i + 1) (by omega) (by omega)
    simp only [f70_0d, f70_0b, h1, h0, cond_true, Bool.and_self, Int.toNat_natCast, hw, getB_in hli]
    rw [List.drop_eq_getElem_cons hli, List.any_cons]
    cases a.toList == l[i].toList with
    | true => simpa using hK _ (by omega)
    | false => simpa using ih
theorem f34_eq {k : Nat} (l : List ByteArray) (a : ByteArray) (hk : l.length + 10 < k) (hl : l.length < 4611686018427387904) (K : Bool → Option R) : f34 k l a K = K (l.any fun y => a.toList == y.toList) := by
  rw [f34_def]
  obtain ⟨k, rfl⟩ := succ_of (show 0 < k by omega)
  simp only [f34d, f70_def]
  obtain ⟨k, rfl⟩ := succ_of (show 0 < k by omega)
  simp only [f70d, f70_0_def]
  refine (mem_loop k _ _ l a hl (fun n hn => ?_) l.length k 0 (by omega) (by omega)).trans ?_
  · have : decide (n ≥ 0) = true := by simpa using hn
    simp [this]
  · rw [List.drop_zero]
    cases l.any fun y => a.toList == y.toList <;> simp
theorem f71_eq {k : Nat} (hk : 1 < k) (a c : ByteArray) (K : Bool → Option R) : f71 k a c K = K (ltS a c) := by
  rw [f71_def]
  obtain ⟨k, rfl⟩ := succ_of (show 0 < k by omega)
  simp only [f71d, f95_def]
  obtain ⟨k, rfl⟩ := succ_of (show 0 < k by omega)
  simp only [f95d, beq_self_eq_true, Bool.not_true]
  rfl
theorem asc_loop (k : Nat) (hk : 1 < k) (K : Bool → Option R) (x : Option R) (l : List ByteArray) (hl : l.length < 4611686018427387904) (ha : l.Pairwise fun a b => ltS b a = false) : ∀ (f i : Nat), i < l.length ∨ i = 0 → i < f → f35_0d k K x l f (i : Int) = x
  | 0, i, _, h => absurd h (Nat.not_lt_zero _)
  | f + 1, 0, _, _ => by
    have h1 : decide (((0 : Nat) : Int) > 0) = false := by decide
    simp only [f35_0d, f35_0b, h1, cond_false]
  | f + 1, i + 1, hi, hf => by
    have hil : i + 1 < l.length := by omega
    have h1 : decide (((i + 1 : Nat) : Int) > 0) = true := by simp only [decide_eq_true_eq]; omega
    have h0 : decide ((0 : Int) ≤ ((i + 1 : Nat) : Int)) = true := by simp only [decide_eq_true_eq]; omega
    have h2 : decide (((i + 1 : Nat) : Int) < (l.length : Int)) = true := by simp only [decide_eq_true_eq]; omega
    have hw : IntKind.i64.wrap (((i + 1 : Nat) : Int) - 1) = (i : Int) := by rw [wi (by omega) (by omega)]; omega
    have h3 : decide ((0 : Int) ≤ (i : Int)) = true := by simp
    have h4 : decide ((i : Int) < (l.length : Int)) = true := by simp only [decide_eq_true_eq]; omega
    have hh := (List.pairwise_iff_getElem.1 ha) i (i + 1) (by omega) hil (by omega)
    simp only [f35_0d, f35_0b, h1, h0, h2, hw, h3, h4, Bool.and_self, cond_true, Int.toNat_natCast, getB_in hil, getB_in (show i < l.length by omega), f71_eq hk, hh, cond_false]
    exact asc_loop k hk K x l hl ha f i (by omega) (by omega)
theorem f35_eq {k : Nat} {l : List ByteArray} (hk : l.length + 3 < k) (hl : l.length < 4611686018427387904) (ha : l.Pairwise fun a b => ltS b a = false) (K : Bool → Option R) : f35 k l K = K true := by
  rw [f35_def]
  obtain ⟨k, rfl⟩ := succ_of (show 0 < k by omega)
  simp only [f35d, f35_0_def]
  cases l with
  | nil =>
    have e : IntKind.i64.wrap (((([] : List ByteArray).length : Nat) : Int) - 1) = -1 := by decide
    rw [e]
    obtain ⟨k, rfl⟩ := succ_of (show 0 < k by omega)
    have h1 : decide ((-1 : Int) > 0) = false := by decide
    simp only [f35_0d, f35_0b, h1, cond_false]
  | cons y l =>
    have e : IntKind.i64.wrap ((((y :: l).length : Nat) : Int) - 1) = (l.length : Int) := by
      simp only [List.length_cons] at hl ⊢
      rw [wi (by omega) (by omega)]; omega
    rw [e]
    exact asc_loop k (by omega) K _ (y :: l) hl ha k l.length (by simp) (by simp only [List.length_cons] at hk; omega)
theorem is_loop (k : Nat) (x0 : Bool → Option R) (nm : ByteArray) (is : Bool) (N : List ByteArray) (V : List Ver) (hV : V.length ≤ 4096) : ∀ (m f i : Nat), i + m = V.length → m < f →
    f8_0d k x0 nm is b p s d w x N V f (i : Int) = x0 (match (V.drop i).find? Ver.whole with | none => is | some v => !(Ver.gone v))
  | m, 0, i, _, h => absurd h (Nat.not_lt_zero _)
  | 0, f + 1, i, hi, _ => by
    have h1 : decide ((i : Int) < (V.length : Int)) = false := by simp only [decide_eq_false_iff_not]; omega
    simp only [f8_0d, f8_0b, h1, cond_false]
    rw [List.drop_of_length_le (by omega)]
    rfl
  | m + 1, f + 1, i, hi, hf => by
    have h1 : decide ((i : Int) < (V.length : Int)) = true := by simp only [decide_eq_true_eq]; omega
    have h0 : decide ((0 : Int) ≤ (i : Int)) = true := by simp
    have hw : IntKind.i64.wrap ((i : Int) + 1) = ((i + 1 : Nat) : Int) := by rw [wi (by omega) (by omega)]; omega
    have hil : i < V.length := by omega
    simp only [f8_0d, f8_0b, h1, h0, cond_true, Bool.and_self, Int.toNat_natCast, hw, getV_in hil]
    rw [List.drop_eq_getElem_cons hil, List.find?_cons]
    have ew : V[i].2.2.1 = Ver.whole V[i] := rfl
    rw [ew]
    cases hwh : Ver.whole V[i] with
    | true => rfl
    | false =>
      simp only [cond_false]
      exact is_loop k x0 nm is N V hV m f (i + 1) (by omega) (by omega)
theorem has_file {P : List Fnd} {nm : ByteArray} : ((nmS P).any fun y => nm.toList == y.toList) = fileOk P nm := by
  rw [Bool.eq_iff_iff, List.any_eq_true]
  constructor
  · rintro ⟨y, hy, e⟩
    have e := toList_beq.1 e
    subst e
    exact (List.mem_filter.1 hy).2
  · intro h
    exact ⟨nm, List.mem_filter.2 ⟨fileOk_mem h, h⟩, toList_beq.2 rfl⟩
theorem f8_eq {k : Nat} (h : FlashIn b p s d w x) {nm : ByteArray} (hn : nm.size ≤ 140737488351232) (hk : w.length + x.length + nm.size + 60000 < k) (K : Bool → Option R) : f8 k b p s d w x nm K = K true := by
  have hw := h.w
  have hx := h.x
  rw [f8_def]
  obtain ⟨k, rfl⟩ := succ_of (show 0 < k by omega)
  simp only [f8d, f31_eq h (show _ < k by omega), f32_eq h hn (show _ < k by omega), f33_eq h hn (show _ < k by omega), bne_dec, beq_dec, f13_eq (show 30 < k by omega)]
  by_cases hc : chkFlash b p s d w x = 0
  · rw [if_neg (by simpa using hc)]
    simp only [decide_true, Bool.not_true, beq_self_eq_true, cond_true]
    by_cases hm : chkName b p s d w x nm = 0
    · have hP := h.look hc
      have hl := hP.len
      have hnl : (nmS (lookF b p s d x).pages).length ≤ 4096 := by
        have h1 := namesF_len (lookF b p s d x).pages
        have h2 : (nmS (lookF b p s d x).pages).length ≤ (namesF (lookF b p s d x).pages).length := List.length_filter_le _ _
        omega
      have hvl := versF_len hP nm
      have ha : (nmS (lookF b p s d x).pages).Pairwise fun a b => ltS b a = false := (namesF_asc _).sublist List.filter_sublist
      rw [if_neg (by simpa using hm)]
      simp only [decide_true, Bool.not_true, cond_false, f8_0_def]
      refine (is_loop k _ nm false _ _ hvl (versF (lookF b p s d x).pages nm).length k 0 (by omega) (by omega)).trans ?_
      rw [List.drop_zero, if_neg (by simpa using hm)]
      have ei : (match (versF (lookF b p s d x).pages nm).find? Ver.whole with | none => false | some v => !(Ver.gone v)) = fileOk (lookF b p s d x).pages nm := rfl
      rw [ei]
      cases hf : fileOk (lookF b p s d x).pages nm with
      | true =>
        simp only [if_true, f34_eq _ _ (show (nmS (lookF b p s d x).pages).length + 10 < k by omega) (by omega), has_file, hf, decide_true, beq_self_eq_true, cond_true, f35_eq (show (nmS (lookF b p s d x).pages).length + 3 < k by omega) (by omega) ha]
      | false =>
        have e9 : (decide ((9 : Int) = 0)) = false := by decide
        simp only [Bool.false_eq_true, if_false, f34_eq _ _ (show (nmS (lookF b p s d x).pages).length + 10 < k by omega) (by omega), has_file, hf, e9, beq_self_eq_true, cond_true, f35_eq (show (nmS (lookF b p s d x).pages).length + 3 < k by omega) (by omega) ha]
    · rw [if_pos hm]
      simp only [hm, decide_false, Bool.not_false, cond_true, beq_self_eq_true]
      rfl
  · have hm : ¬ chkName b p s d w x nm = 0 := fun hm => hc (chkName_flash hm)
    rw [if_pos hc, if_pos hm]
    simp only [hc, hm, decide_false, Bool.not_false, List.length_nil, cond_true, beq_self_eq_true]
    rfl
end Go.Proofs.Ytecnlienmpdlaaa.PM
