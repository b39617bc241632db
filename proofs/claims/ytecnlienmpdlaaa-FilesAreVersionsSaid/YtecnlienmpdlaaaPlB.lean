/- Merged plain texts: PlLook, PlLook2, PlNames. -/
import Derived.Test.YtecnlienmpdlaaaPlA
/- Plain laws of flash memories: what lies there. -/
set_option linter.unusedSimpArgs false
set_option linter.unusedVariables false
namespace Go.Proofs.Ytecnlienmpdlaaa.PM
open Go Go.Proofs.Ytecnlienmpdlaaa.Bt
variable {R : Type}

theorem has_loop (k : Nat) (K : Int → Option R) (x : Option R) (l : List Int) (a : Int) (hl : l.length < 4611686018427387904) (hK : ∀ n : Int, 0 ≤ n → K n = K 0) : ∀ (d f i : Nat), i + d = l.length → d < f →
    f98_0d k K x l a (l.length : Int) f (i : Int) = if (l.drop i).contains a then K 0 else x
  | d, 0, i, _, h => absurd h (Nat.not_lt_zero _)
  | 0, f + 1, i, hi, _ => by
    have h1 : decide ((i : Int) < (l.length : Int)) = false := by simp only [decide_eq_false_iff_not]; omega
    simp only [f98_0d, f98_0b, h1, cond_false]
    rw [List.drop_of_length_le (by omega)]
    rfl
  | d + 1, f + 1, i, hi, hf => by
    have h1 : decide ((i : Int) < (l.length : Int)) = true := by simp only [decide_eq_true_eq]; omega
    have h0 : decide ((0 : Int) ≤ (i : Int)) = true := by simp
    have hw : IntKind.i64.wrap ((i : Int) + 1) = ((i + 1 : Nat) : Int) := by rw [wi (by omega) (by omega)]; omega
    have hli : i < l.length := by omega
    have ih := has_loop k K x l a hl hK d f (i + 1) (by omega) (by omega)
    simp only [f98_0d, f98_0b, h1, h0, cond_true, Bool.and_self, Int.toNat_natCast, hw, getD_in hli]
    rw [List.drop_eq_getElem_cons hli, List.contains_cons]
    cases a == l[i] with
    | true => simpa using hK _ (by omega)
    | false => simpa using ih
theorem f79_eq {k : Nat} (l : List Int) (a : Int) (hk : l.length + 10 < k) (hl : l.length < 4611686018427387904) (K : Bool → Option R) : f79 k l a K = K (l.contains a) := by
  rw [f79_def]
  obtain ⟨k, rfl⟩ := succ_of (show 0 < k by omega)
  simp only [f79d, f98_def]
  obtain ⟨k, rfl⟩ := succ_of (show 0 < k by omega)
  simp only [f98d, f98_0_def]
  refine (has_loop k _ _ l a hl (fun n hn => ?_) l.length k 0 (by omega) (by omega)).trans ?_
  · have : decide (n ≥ 0) = true := by simpa using hn
    simp [this]
  · rw [List.drop_zero]
    cases l.contains a <;> simp
/-- The bytes of a page. -/
noncomputable def pageOf (d : List Int) (s n : Int) : List Int := (d.take ((n + 1) * s).toNat).drop (n * s).toNat
theorem page_bounds {d : List Int} {b p s n : Int} (hb : 1 ≤ b ∧ b ≤ 64) (hp : 1 ≤ p ∧ p ≤ 64) (hs : 64 ≤ s ∧ s ≤ 1024) (hd : (d.length : Int) = b * p * s) (h0 : 0 ≤ n) (h1 : n < b * p) :
    0 ≤ n * s ∧ n * s ≤ 4194304 ∧ (n + 1) * s = n * s + s ∧ (n + 1) * s ≤ d.length := by
  have h2 : (n + 1) * s = n * s + s := by rw [Int.add_mul, Int.one_mul]
  have h3 : (n + 1) * s ≤ b * p * s := Int.mul_le_mul_of_nonneg_right (by omega) (by omega)
  have h4 : 0 ≤ n * s := Int.mul_nonneg h0 (by omega)
  have h5 := prod_bounds hb hp hs
  exact ⟨h4, by omega, h2, by omega⟩
theorem page_len {d : List Int} {b p s n : Int} (hb : 1 ≤ b ∧ b ≤ 64) (hp : 1 ≤ p ∧ p ≤ 64) (hs : 64 ≤ s ∧ s ≤ 1024) (hd : (d.length : Int) = b * p * s) (h0 : 0 ≤ n) (h1 : n < b * p) : ((pageOf d s n).length : Int) = s := by
  have h := page_bounds hb hp hs hd h0 h1
  unfold pageOf
  rw [List.length_drop, List.length_take]
  omega
theorem B.drop {l : List Int} (h : B l) (n : Nat) : B (l.drop n) := fun x hx => h x (List.mem_of_mem_drop hx)
theorem B.take {l : List Int} (h : B l) (n : Nat) : B (l.take n) := fun x hx => h x (List.mem_of_mem_take hx)
theorem f80_eq {k : Nat} (hk : 0 < k) {b p s n : Int} {d w x : List Int} (hb : 1 ≤ b ∧ b ≤ 64) (hp : 1 ≤ p ∧ p ≤ 64) (hs : 64 ≤ s ∧ s ≤ 1024) (hd : (d.length : Int) = b * p * s) (h0 : 0 ≤ n) (h1 : n < b * p) (K : List Int → Option R) :
    f80 k b p s d w x n K = K (pageOf d s n) := by
  have h := page_bounds hb hp hs hd h0 h1
  have h5 := prod_bounds hb hp hs
  rw [f80_def]
  obtain ⟨k, rfl⟩ := succ_of hk
  have e1 : IntKind.i64.wrap (n * s) = n * s := wi (by omega) (by omega)
  have e2 : IntKind.i64.wrap (n + 1) = n + 1 := wi (by omega) (by omega)
  have e3 : IntKind.i64.wrap ((n + 1) * s) = (n + 1) * s := wi (by omega) (by omega)
  have d1 : decide (0 ≤ n * s) = true := by simpa using h.1
  have d2 : decide (n * s ≤ (n + 1) * s) = true := by simp only [decide_eq_true_eq]; omega
  have d3 : decide ((n + 1) * s ≤ (d.length : Int)) = true := by simpa using h.2.2.2
  simp only [f80d, e1, e2, e3, d1, d2, d3, Bool.and_self, cond_true]
  rfl

abbrev PgD := Int × (Bool × (ByteArray × (Int × (Bool × (List Int × Unit)))))
abbrev Fnd := Int × (PgD × Unit)
abbrev KeyD := Int × (ByteArray × Unit)
abbrev keyT : Ty := .prod (.int .i64) (.prod .str .unit)
def Fnd.gen (x : Fnd) : Int := x.2.1.1
def Fnd.gone (x : Fnd) : Bool := x.2.1.2.1
def Fnd.name (x : Fnd) : ByteArray := x.2.1.2.2.1
def Fnd.ix (x : Fnd) : Int := x.2.1.2.2.2.1
def Fnd.last (x : Fnd) : Bool := x.2.1.2.2.2.2.1
def Fnd.raw (x : Fnd) : List Int := x.2.1.2.2.2.2.2.1
def Fnd.key (x : Fnd) : KeyD := (x.gen, (x.name, ()))
def mkF (n : Int) (D : Pg) : Fnd := (n, ((D.2.1, (D.2.2.1, (D.2.2.2.1, (D.2.2.2.2.1, (D.2.2.2.2.2.1, (D.2.2.2.2.2.2, ())))))), ()))
/-- What is known of a page that was found. -/
structure Fnd.Ok (x : Fnd) : Prop where
  gen : 1 ≤ x.gen ∧ x.gen ≤ 4000000000
  ix : 0 ≤ x.ix ∧ x.ix ≤ 65535
  raw : x.raw.length ≤ 1024
  name : nameB x.name = true
theorem enc_ok {ps gen : Int} {gone : Bool} {name : ByteArray} {index : Int} {last : Bool} {bytes : List Int} (h : encErr ps gen gone name index last bytes = 0) :
    (64 ≤ ps ∧ ps ≤ 1024) ∧ (1 ≤ gen ∧ gen ≤ 4000000000) ∧ nameB name = true ∧ (0 ≤ index ∧ index ≤ 65535) ∧ (bytes.length : Int) ≤ ps - 15 - name.size ∧ ¬ (gone = true ∧ (0 < bytes.length ∨ index ≠ 0 ∨ last = false)) := by
  unfold encErr at h
  cases h1 : inB ps 64 1024 with
  | false => rw [h1, if_pos rfl] at h; exact absurd h (by decide)
  | true =>
    rw [h1, if_neg (by decide)] at h
    cases h2 : inB gen 1 4000000000 with
    | false => rw [h2, if_pos rfl] at h; exact absurd h (by decide)
    | true =>
      rw [h2, if_neg (by decide)] at h
      cases h3 : nameB name with
      | false => rw [h3, if_pos rfl] at h; exact absurd h (by decide)
      | true =>
        rw [h3, if_neg (by decide)] at h
        cases h4 : inB index 0 65535 with
        | false => rw [h4, if_pos rfl] at h; exact absurd h (by decide)
        | true =>
          rw [h4, if_neg (by decide)] at h
          by_cases h5 : (bytes.length : Int) > ps - 15 - name.size
          · rw [if_pos h5] at h; exact absurd h (by decide)
          · rw [if_neg h5] at h
            by_cases h6 : gone = true ∧ (0 < bytes.length ∨ index ≠ 0 ∨ last = false)
            · rw [if_pos h6] at h; exact absurd h (by decide)
            · exact ⟨inB_iff.1 h1, inB_iff.1 h2, rfl, inB_iff.1 h4, by omega, h6⟩
theorem dec_ok {l : List Int} (h1 : l.length ≤ 1024) (n : Int) (h : (decF l).1 = 4) : (mkF n (decF l)).Ok := by
  by_cases g1 : all255 l
  · unfold decF at h; rw [if_pos g1] at h; exact absurd h (by decide)
  · by_cases g2 : l.getD (l.length - 1) 0 ≠ 165
    · unfold decF at h; rw [if_neg g1, if_pos g2] at h; exact absurd h (by decide)
    · by_cases g3 : 12 + l.getD 5 0 + w2 l 8 > (l.length : Int) - 3
      · unfold decF at h; rw [if_neg g1, if_neg g2, if_pos g3] at h; exact absurd h (by decide)
      · by_cases g4 : decErr l = 0 ∧ l = decAll l
        · have e : decF l = (4, w4 l, l.getD 4 0 == 2, nameOf l, w2 l 6, l.getD 10 0 == 1, bytesAt l) := by
            unfold decF
            rw [if_neg g1, if_neg g2, if_neg g3, if_pos g4]
          have g5 := enc_ok g4.1
          rw [e]
          refine ⟨g5.2.1, g5.2.2.2.1, ?_, g5.2.2.1⟩
          show (bytesAt l).length ≤ 1024
          unfold bytesAt; rw [List.length_drop, List.length_take]; omega
        · unfold decF at h; rw [if_neg g1, if_neg g2, if_neg g3, if_neg g4] at h; exact absurd h (by decide)

/-! ### what a look finds -/
structure Lk where
  next : Int
  states : List Int
  pages : List Fnd
/-- A page is new if none with its number and its name was found. -/
noncomputable def isNew (x : Fnd) (l : List Fnd) : Bool := !(l.any fun y => keyT.beq y.key x.key)
noncomputable def nextF (a : Int) (l : List Int) : Int := if all255 (l.take 4) then a else (if a < w4 l + 1 then w4 l + 1 else a)
noncomputable def addF (n : Int) (D : Pg) (P : List Fnd) : List Fnd := if D.1 = 4 ∧ isNew (mkF n D) P then P ++ [mkF n D] else P
noncomputable def lkStep (p s : Int) (d x : List Int) (n : Nat) (A : Lk) : Lk :=
  if x.contains ((n : Int) / p) then ⟨A.next, A.states ++ [0], A.pages⟩
  else ⟨nextF A.next (pageOf d s n), A.states ++ [(decF (pageOf d s n)).1], addF n (decF (pageOf d s n)) A.pages⟩
noncomputable def lkFrom (p s : Int) (d x : List Int) : Nat → Nat → Lk → Lk
  | 0, _, A => A
  | m + 1, n, A => lkFrom p s d x m (n + 1) (lkStep p s d x n A)
noncomputable def lookF (b p s : Int) (d x : List Int) : Lk := lkFrom p s d x (b * p).toNat 0 ⟨1, [], []⟩
/-- The table of what was seen. -/
def SeenT (S : List (KeyD × Bool)) (l : List Fnd) : Prop := (S.map (·.1)).Nodup ∧ ∀ k : KeyD, (mget keyT k S).getD false = l.any fun y => keyT.beq y.key k
structure Lk.Ok (A : Lk) (n : Nat) : Prop where
  next : 1 ≤ A.next ∧ A.next ≤ 4294967296
  states : A.states.length = n
  len : A.pages.length ≤ n
  ok : ∀ x ∈ A.pages, x.Ok
  keys : (A.pages.map Fnd.key).Nodup
theorem w4_bounds {l : List Int} (h : B l) : 0 ≤ w4 l ∧ w4 l < 4294967296 := by
  have h1 := w2_bounds h 0
  have h2 := w2_bounds h 2
  unfold w4
  omega
theorem key_eq {x y : Fnd} : keyT.beq x.key y.key = true ↔ x.key = y.key := beq_iff (kt := keyT) rfl
theorem isNew_iff {x : Fnd} {l : List Fnd} : isNew x l = true ↔ x.key ∉ l.map Fnd.key := by
  unfold isNew
  rw [Bool.not_eq_true', List.any_eq_false]
  simp only [List.mem_map, not_exists, not_and]
  constructor
  · intro h y hy e
    exact h y hy (key_eq.2 e)
  · intro h y hy e
    exact h y hy (key_eq.1 e)
theorem lkStep_ok {b p s : Int} {d x : List Int} {n : Nat} {A : Lk} (hB : B d) (hb : 1 ≤ b ∧ b ≤ 64) (hp : 1 ≤ p ∧ p ≤ 64) (hs : 64 ≤ s ∧ s ≤ 1024) (hd : (d.length : Int) = b * p * s) (h1 : (n : Int) < b * p) (h : A.Ok n) : (lkStep p s d x n A).Ok (n + 1) := by
  unfold lkStep
  split
  · exact ⟨h.next, by simp [h.states], Nat.le_succ_of_le h.len, h.ok, h.keys⟩
  · have hl := page_len hb hp hs hd (Int.natCast_nonneg n) h1
    have hBp : B (pageOf d s n) := (hB.take _).drop _
    have hw := w4_bounds hBp
    refine ⟨?_, by simp [h.states], ?_, ?_, ?_⟩
    · have := h.next
      show 1 ≤ nextF _ _ ∧ nextF _ _ ≤ _
      unfold nextF
      split
      · exact this
      · split <;> omega
    · have := h.len
      show (addF _ _ _).length ≤ _
      unfold addF
      split
      · rw [List.length_append]; simp; omega
      · omega
    · show ∀ y ∈ addF _ _ _, _
      unfold addF
      split
      · rename_i h4
        intro y hy
        rcases List.mem_append.1 hy with hy | hy
        · exact h.ok y hy
        · rw [List.mem_singleton] at hy
          subst hy
          exact dec_ok (by omega) _ h4.1
      · exact h.ok
    · show ((addF _ _ _).map _).Nodup
      unfold addF
      split
      · rename_i h4
        rw [List.map_append, List.nodup_append]
        refine ⟨h.keys, by simp, fun a ha c hc => ?_⟩
        rw [List.map_singleton, List.mem_singleton] at hc
        subst hc
        intro e
        subst e
        exact isNew_iff.1 h4.2 ha
      · exact h.keys
theorem lkFrom_ok {b p s : Int} {d x : List Int} (hB : B d) (hb : 1 ≤ b ∧ b ≤ 64) (hp : 1 ≤ p ∧ p ≤ 64) (hs : 64 ≤ s ∧ s ≤ 1024) (hd : (d.length : Int) = b * p * s) : ∀ (m n : Nat) (A : Lk), ((n + m : Nat) : Int) ≤ b * p → A.Ok n → (lkFrom p s d x m n A).Ok (n + m)
  | 0, n, A, _, h => h
  | m + 1, n, A, hm, h => by
    have := lkFrom_ok (x := x) hB hb hp hs hd m (n + 1) (lkStep p s d x n A) (by omega) (lkStep_ok hB hb hp hs hd (by omega) h)
    rw [show n + 1 + m = n + (m + 1) by omega] at this
    exact this
theorem look_ok {b p s : Int} {d x : List Int} (hB : B d) (hb : 1 ≤ b ∧ b ≤ 64) (hp : 1 ≤ p ∧ p ≤ 64) (hs : 64 ≤ s ∧ s ≤ 1024) (hd : (d.length : Int) = b * p * s) : (lookF b p s d x).Ok (b * p).toNat := by
  have h := prod_bounds hb hp hs
  have := lkFrom_ok (x := x) hB hb hp hs hd (b * p).toNat 0 ⟨1, [], []⟩ (by omega) ⟨⟨by decide, by decide⟩, rfl, Nat.le_refl _, fun x hx => (by cases hx), List.nodup_nil⟩
  rw [Nat.zero_add] at this
  exact this
end Go.Proofs.Ytecnlienmpdlaaa.PM
/- Plain laws of flash memories: a look. -/
set_option linter.unusedSimpArgs false
set_option linter.unusedVariables false
namespace Go.Proofs.Ytecnlienmpdlaaa.PM
open Go Go.Proofs.Ytecnlienmpdlaaa.Bt
variable {R : Type}

theorem mget_del {kt : Ty} (hk : keyTy kt = true) {β : Type} (k k0 : kt.D) [Decidable (k = k0)] : ∀ l : List (kt.D × β), mget kt k (mdel kt k0 l) = if k = k0 then none else mget kt k l
  | [] => by simp [mget, mdel]
  | (a, v) :: l => by
    have ih := mget_del hk k k0 l
    unfold mget mdel at ih ⊢
    cases h0 : kt.beq k0 a with
    | true =>
      rw [List.filter_cons_of_neg (by simp [h0]), ih]
      have e := (beq_iff hk).1 h0
      subst e
      by_cases h : k = k0
      · rw [if_pos h, if_pos h]
      · rw [if_neg h, if_neg h, List.find?_cons]
        have : kt.beq k k0 = false := by
          cases hb : kt.beq k k0 with
          | false => rfl
          | true => exact absurd ((beq_iff hk).1 hb) h
        simp only [this]
    | false =>
      rw [List.filter_cons_of_pos (by simp [h0]), List.find?_cons, List.find?_cons]
      cases h1 : kt.beq k a with
      | true =>
        have e := (beq_iff hk).1 h1
        subst e
        have h : ¬ k = k0 := fun h => by rw [h, (beq_iff hk).2 rfl] at h0; cases h0
        simp only [if_neg h]
      | false => simpa using ih
theorem mget_put {kt : Ty} (hk : keyTy kt = true) {β : Type} (k k0 : kt.D) (v : β) [Decidable (k = k0)] (l : List (kt.D × β)) : mget kt k (mdel kt k0 l ++ [(k0, v)]) = if k = k0 then some v else mget kt k l := by
  have e : mget kt k (mdel kt k0 l ++ [(k0, v)]) = (mget kt k (mdel kt k0 l)).or (mget kt k [(k0, v)]) := by
    unfold mget
    rw [List.find?_append]
    cases List.find? (fun q => kt.beq k q.1) (mdel kt k0 l) <;> rfl
  rw [e, mget_del hk]
  by_cases h : k = k0
  · subst h
    simp [mget, (beq_iff hk).2 rfl]
  · have : kt.beq k k0 = false := by
      cases hb : kt.beq k k0 with
      | false => rfl
      | true => exact absurd ((beq_iff hk).1 hb) h
    rw [if_neg h, if_neg h]
    simp [mget, this]
theorem put_nodup {kt : Ty} (hk : keyTy kt = true) {β : Type} (k0 : kt.D) (v : β) {l : List (kt.D × β)} (h : (l.map (·.1)).Nodup) : ((mdel kt k0 l ++ [(k0, v)]).map (·.1)).Nodup := by
  rw [List.map_append, List.nodup_append]
  refine ⟨?_, by simp, fun a ha c hc => ?_⟩
  · exact List.Nodup.sublist (List.Sublist.map _ List.filter_sublist) h
  · simp only [List.map_cons, List.map_nil, List.mem_singleton] at hc
    subst hc
    obtain ⟨q, hq, rfl⟩ := List.mem_map.1 ha
    unfold mdel at hq
    have := (List.mem_filter.1 hq).2
    intro e
    rw [(beq_iff hk).2 e.symm] at this
    cases this
open Classical in
theorem seen_add {S : List (KeyD × Bool)} {P : List Fnd} (x : Fnd) (h : SeenT S P) : SeenT (mdel keyT x.key S ++ [(x.key, true)]) (P ++ [x]) := by
  refine ⟨put_nodup (kt := keyT) rfl _ _ h.1, fun k => ?_⟩
  rw [mget_put (kt := keyT) rfl, List.any_append, List.any_cons, List.any_nil, Bool.or_false]
  by_cases e : k = x.key
  · rw [if_pos e, e, (beq_iff (kt := keyT) rfl).2 rfl, Bool.or_true]; rfl
  · rw [if_neg e, h.2 k]
    have : keyT.beq x.key k = false := by
      cases hb : keyT.beq x.key k with
      | false => rfl
      | true => exact absurd ((beq_iff (kt := keyT) rfl).1 hb).symm e
    rw [this, Bool.or_false]
theorem LIM80 : LIM 80 = 1759218604441 := by simp [LIM]
theorem LIM16 : LIM 16 = 8796093022208 := by simp [LIM]
theorem LIM24 : LIM 24 = 5864062014805 := by simp [LIM]
set_option maxHeartbeats 1000000 in
theorem look_step {k : Nat} {b p s : Int} {d w x : List Int} {n : Nat} {A : Lk} (hk : x.length + 7000 < k) (hx : x.length < 4611686018427387904) (hB : B d) (hb : 1 ≤ b ∧ b ≤ 64) (hp : 1 ≤ p ∧ p ≤ 64) (hs : 64 ≤ s ∧ s ≤ 1024) (hd : (d.length : Int) = b * p * s) (h1 : (n : Int) < b * p) (h : A.Ok n)
    {S : List (KeyD × Bool)} (hS : SeenT S A.pages) : ∃ S', SeenT S' (lkStep p s d x n A).pages ∧ ∀ x1 : Int → List Int → List Fnd → List (KeyD × Bool) → Option R,
      f59_1 k x1 (n : Int) b p s d w x A.next A.states A.pages S = x1 (lkStep p s d x n A).next (lkStep p s d x n A).states (lkStep p s d x n A).pages S' := by
  have hpz : (!(p == 0)) = true := by
    have : ¬ p = 0 := by omega
    simp [this]
  have hpb := prod_bounds hb hp hs
  have hq : IntKind.i64.wrap (Int.tdiv (n : Int) p) = (n : Int) / p := by
    rw [tdiv_nn (Int.natCast_nonneg n)]
    have h2 : 0 ≤ (n : Int) / p := Int.ediv_nonneg (by omega) (by omega)
    have h3 : (n : Int) / p ≤ n := Int.ediv_le_self _ (by omega)
    exact wi (by omega) (by omega)
  have hst := h.states
  have hln := h.len
  have hnx := h.next
  cases hc : x.contains ((n : Int) / p) with
  | true =>
    refine ⟨S, ?_, fun x1 => ?_⟩
    · unfold lkStep; rw [if_pos hc]; exact hS
    · have e : lkStep p s d x n A = ⟨A.next, A.states ++ [0], A.pages⟩ := by unfold lkStep; rw [if_pos hc]
      rw [e, f59_1_def]
      have d1 : decide (A.states.length + ([0] : List Int).length ≤ LIM 8) = true := by rw [LIM8, decide_eq_true_eq, hst]; simp; omega
      simp only [f59_1d, hpz, cond_true, hq, f79_eq x _ (show x.length + 10 < k by omega) hx, hc, d1]
  | false =>
    have hl := page_len hb hp hs hd (Int.natCast_nonneg n) h1
    have hBp : B (pageOf d s n) := (hB.take _).drop _
    have hw := w4_bounds hBp
    obtain ⟨l, hl'⟩ : ∃ l, l = pageOf d s n := ⟨_, rfl⟩
    rw [← hl'] at hl hBp hw
    obtain ⟨D, hD⟩ : ∃ D, D = decF l := ⟨_, rfl⟩
    have e : lkStep p s d x n A = ⟨nextF A.next l, A.states ++ [D.1], addF n D A.pages⟩ := by
      unfold lkStep; rw [if_neg (by rw [hc]; exact Bool.false_ne_true), ← hl', ← hD]
    rw [e]
    have d1 : ∀ y : Int, decide (A.states.length + ([y] : List Int).length ≤ LIM 8) = true := fun y => by rw [LIM8, decide_eq_true_eq, hst]; simp; omega
    have d2 : ∀ y : Fnd, decide (A.pages.length + ([y] : List Fnd).length ≤ LIM 80) = true := fun y => by rw [LIM80, decide_eq_true_eq]; simp; omega
    have d3 : decide ((4 : Int) ≤ (l.length : Int)) = true := by simp only [decide_eq_true_eq]; omega
    have hw1 : IntKind.i64.wrap (w4 l + 1) = w4 l + 1 := wi (by omega) (by omega)
    have hf1 : ∀ xN : Int → Option R, f59_1000012 k xN l (!(all255 (l.take 4))) A.next = xN (nextF A.next l) := fun xN => by
      rw [f59_1000012_def]
      unfold nextF
      cases all255 (l.take 4) with
      | true => simp [f59_1000012d]
      | false => simp [f59_1000012d, f75_eq (show 0 < k by omega) hBp (by omega), hw1]
    have hm : (mget keyT (mkF n D).key S).getD false = !(isNew (mkF n D) A.pages) := by
      rw [hS.2]; unfold isNew; rw [Bool.not_not]
    have hm' : (mget (.prod (.int .i64) (.prod .str .unit)) (D.2.1, (D.2.2.2.1, ())) S).getD false = !(isNew (mkF n D) A.pages) := hm
    have base : ∀ (x1 : Int → List Int → List Fnd → List (KeyD × Bool) → Option R), f59_1 k x1 (n : Int) b p s d w x A.next A.states A.pages S =
        bif (D.1 == 4) then (bif isNew (mkF n D) A.pages then x1 (nextF A.next l) (A.states ++ [D.1]) (A.pages ++ [mkF n D]) (mdel keyT (mkF n D).key S ++ [((mkF n D).key, true)]) else x1 (nextF A.next l) (A.states ++ [D.1]) A.pages S) else x1 (nextF A.next l) (A.states ++ [D.1]) A.pages S := fun x1 => by
      rw [f59_1_def]
      simp only [f59_1d, hpz, cond_true, hq, f79_eq x _ (show x.length + 10 < k by omega) hx, hc, cond_false, f80_eq (show 0 < k by omega) hb hp hs hd (Int.natCast_nonneg n) h1, ← hl', f56_eq hBp (show 64 ≤ l.length by omega) (by omega) (show 6000 < k by omega), ← hD, apP, d1, d3, f74_eq (l.take 4) (show _ < k by rw [List.length_take]; omega) (by rw [List.length_take]; omega), hf1, hm', Bool.not_not, f59_1000015_def, f59_1000015d]
      cases h4 : D.1 == 4 with
      | true =>
        cases hn : isNew (mkF n D) A.pages with
        | true =>
          have := d2 (mkF n D)
          simp only [mkF] at this
          simp only [beq_self_eq_true, cond_true, this]
          rfl
        | false => simp
      | false => simp
    cases h4 : D.1 == 4 with
    | true =>
      have h4' : D.1 = 4 := by simpa using h4
      cases hn : isNew (mkF n D) A.pages with
      | true =>
        have ea : addF n D A.pages = A.pages ++ [mkF n D] := by unfold addF; rw [if_pos ⟨h4', hn⟩]
        refine ⟨_, ?_, fun x1 => by rw [base x1, h4, hn, ea]; rfl⟩
        show SeenT _ (addF n D A.pages)
        rw [ea]
        exact seen_add _ hS
      | false =>
        have ea : addF n D A.pages = A.pages := by unfold addF; rw [if_neg (by simp [hn])]
        refine ⟨S, ?_, fun x1 => by rw [base x1, h4, hn, ea]; rfl⟩
        show SeenT _ (addF n D A.pages)
        rw [ea]; exact hS
    | false =>
      have h4' : ¬ D.1 = 4 := by simpa using h4
      have ea : addF n D A.pages = A.pages := by unfold addF; rw [if_neg (by simp [h4'])]
      refine ⟨S, ?_, fun x1 => by rw [base x1, h4, ea]; rfl⟩
      show SeenT _ (addF n D A.pages)
      rw [ea]; exact hS
theorem look_loop (k : Nat) {b p s : Int} {d w x : List Int} (hk : x.length + 7000 < k) (hx : x.length < 4611686018427387904) (hB : B d) (hb : 1 ≤ b ∧ b ≤ 64) (hp : 1 ≤ p ∧ p ≤ 64) (hs : 64 ≤ s ∧ s ≤ 1024) (hd : (d.length : Int) = b * p * s) (x0 : Int → List Int → List Fnd → Option R) (y1 y2 y3 y4 y5 y6 y7 : Int) (z1 z2 z3 : List Int) :
    ∀ (m f n : Nat) (A : Lk) (S : List (KeyD × Bool)), ((n + m : Nat) : Int) = b * p → m < f → A.Ok n → SeenT S A.pages → 
      f59_0d k x0 (b * p) b p s d w x y1 y2 y3 y4 y5 y6 y7 z1 z2 z3 f (n : Int) A.next A.states A.pages S = x0 (lkFrom p s d x m n A).next (lkFrom p s d x m n A).states (lkFrom p s d x m n A).pages
  | m, 0, n, _, _, _, h, _, _ => absurd h (Nat.not_lt_zero _)
  | 0, f + 1, n, A, S, hm, _, _, _ => by
    have d0 : decide ((n : Int) < b * p) = false := by simp only [decide_eq_false_iff_not]; omega
    simp only [f59_0d, f59_0b, d0, cond_false]
    rfl
  | m + 1, f + 1, n, A, S, hm, hf, hA, hS => by
    have hpb := prod_bounds hb hp hs
    have h1 : (n : Int) < b * p := by omega
    have d0 : decide ((n : Int) < b * p) = true := by simpa using h1
    have hw : IntKind.i64.wrap ((n : Int) + 1) = ((n + 1 : Nat) : Int) := by rw [wi (by omega) (by omega)]; omega
    obtain ⟨S', hS', e⟩ := look_step (R := R) (w := w) hk hx hB hb hp hs hd h1 hA hS
    simp only [f59_0d, f59_0b, d0, cond_true, hw]
    rw [e]
    exact look_loop k hk hx hB hb hp hs hd x0 y1 y2 y3 y4 y5 y6 y7 z1 z2 z3 m f (n + 1) _ S' (by omega) (by omega) (lkStep_ok hB hb hp hs hd h1 hA) hS'
theorem f59_eq {k : Nat} {b p s : Int} {d w x : List Int} (hk : x.length + 8000 < k) (hx : x.length < 4611686018427387904) (hB : B d) (hb : 1 ≤ b ∧ b ≤ 64) (hp : 1 ≤ p ∧ p ≤ 64) (hs : 64 ≤ s ∧ s ≤ 1024) (hd : (d.length : Int) = b * p * s)
    (K : Int → Int → Int → List Int → List Int → List Int → Int → List Int → List Fnd → Option R) : f59 k b p s d w x K = K b p s d w x (lookF b p s d x).next (lookF b p s d x).states (lookF b p s d x).pages := by
  have hpb := prod_bounds hb hp hs
  rw [f59_def]
  obtain ⟨k, rfl⟩ := succ_of (show 0 < k by omega)
  have hw : IntKind.i64.wrap (b * p) = b * p := wi (by omega) (by omega)
  simp only [f59d, hw, f59_0_def]
  exact look_loop k (by omega) hx hB hb hp hs hd _ _ _ _ _ _ _ _ _ _ _ (b * p).toNat k 0 ⟨1, [], []⟩ [] (by omega) (by omega) ⟨⟨by decide, by decide⟩, rfl, Nat.le_refl _, fun x hx => (by cases hx), List.nodup_nil⟩ ⟨List.nodup_nil, fun _ => rfl⟩
end Go.Proofs.Ytecnlienmpdlaaa.PM
/- Plain laws of flash memories: names. -/
set_option linter.unusedSimpArgs false
set_option linter.unusedVariables false
namespace Go.Proofs.Ytecnlienmpdlaaa.PM
open Go Go.Proofs.Ytecnlienmpdlaaa.Bt
variable {R : Type}

/-- What follows, without what is as the one before. -/
noncomputable def cmpT (p : ByteArray) : List ByteArray → List ByteArray
  | [] => []
  | y :: l => bif y.toList == p.toList then cmpT y l else y :: cmpT y l
noncomputable def compL : List ByteArray → List ByteArray
  | [] => []
  | x :: l => x :: cmpT x l
abbrev eB : ByteArray := ⟨#[]⟩
theorem getB_in {l : List ByteArray} {i : Nat} (h : i < l.length) : l.getD i eB = l[i] := by rw [List.getD_eq_getElem?_getD, List.getElem?_eq_getElem h]; rfl
theorem f88_eq {k : Nat} (hk : 0 < k) {l : List ByteArray} (hl : l.length < 4611686018427387904) (K : List ByteArray → Option R) : f88 k l K = K (ssL l) := by
  rw [f88_def]
  obtain ⟨k, rfl⟩ := succ_of hk
  have : ssOk l = true := by unfold ssOk; simpa using hl
  simp only [f88d, this, cond_true]
theorem comp_loop2 (k : Nat) (x2 : Int → List ByteArray → Option R) (l : List ByteArray) (i : Nat) (hl : l.length < 4611686018427387904) : ∀ (d f v q : Nat) (c : List ByteArray), q + d = l.length → d < f → i ≤ v → v < q → i < q → c.length = l.length → c.drop v = l.drop v →
    ∃ c', c'.length = l.length ∧ f89_2d k x2 i (l.length - i) f (v : Int) ((q - i : Nat) : Int) c = x2 ((c.take v ++ cmpT (l.getD (q - 1) eB) (l.drop q)).length : Int) c' ∧ c'.take (c.take v ++ cmpT (l.getD (q - 1) eB) (l.drop q)).length = c.take v ++ cmpT (l.getD (q - 1) eB) (l.drop q)
  | d, 0, v, q, c, _, h, _, _, _, _, _ => absurd h (Nat.not_lt_zero _)
  | 0, f + 1, v, q, c, hq, _, _, hv, hi, hcl, _ => by
    have h1 : decide (((q - i : Nat) : Int) < ((l.length - i : Nat) : Int)) = false := by simp only [decide_eq_false_iff_not]; omega
    refine ⟨c, hcl, ?_, ?_⟩
    · simp only [f89_2d, f89_2b, h1, cond_false]
      rw [List.drop_of_length_le (show l.length ≤ q by omega)]
      simp only [cmpT, List.append_nil, List.length_take]
      rw [Nat.min_eq_left (by omega)]
    · rw [List.drop_of_length_le (show l.length ≤ q by omega)]
      simp only [cmpT, List.append_nil, List.length_take]
      rw [Nat.min_eq_left (by omega)]
  | d + 1, f + 1, v, q, c, hq, hf, hiv, hv, hi, hcl, hcd => by
    have h1 : decide (((q - i : Nat) : Int) < ((l.length - i : Nat) : Int)) = true := by simp only [decide_eq_true_eq]; omega
    have h0 : decide ((0 : Int) ≤ ((q - i : Nat) : Int)) = true := by simp only [decide_eq_true_eq]; omega
    have hw : IntKind.i64.wrap (((q - i : Nat) : Int) + 1) = ((q + 1 - i : Nat) : Int) := by rw [wi (by omega) (by omega)]; omega
    have hw2 : IntKind.i64.wrap (((q - i : Nat) : Int) - 1) = ((q - 1 - i : Nat) : Int) := by rw [wi (by omega) (by omega)]; omega
    have h3 : decide ((0 : Int) ≤ ((q - 1 - i : Nat) : Int)) = true := by simp only [decide_eq_true_eq]; omega
    have h4 : decide (((q - 1 - i : Nat) : Int) < ((l.length - i : Nat) : Int)) = true := by simp only [decide_eq_true_eq]; omega
    have hql : q < l.length := by omega
    have cg : ∀ j, v ≤ j → j < l.length → c.getD j eB = l.getD j eB := fun j hj hjl => by
      have e1 : c.getD j eB = (c.drop v).getD (j - v) eB := by rw [List.getD_eq_getElem?_getD, List.getD_eq_getElem?_getD, List.getElem?_drop]; congr 2; omega
      have e2 : l.getD j eB = (l.drop v).getD (j - v) eB := by rw [List.getD_eq_getElem?_getD, List.getD_eq_getElem?_getD, List.getElem?_drop]; congr 2; omega
      rw [e1, e2, hcd]
    have a1 : i + (q - i) = q := by omega
    have a2 : i + (q - 1 - i) = q - 1 := by omega
    simp only [f89_2d, f89_2b, h1, h0, cond_true, Bool.and_self, Int.toNat_natCast, hw, hw2, h3, h4, f89_1000012_def, f89_1000012d, a1, a2, cg q (by omega) hql, cg (q - 1) (by omega) (by omega)]
    rw [List.drop_eq_getElem_cons hql, getB_in hql]
    simp only [cmpT]
    cases he : l[q].toList == (l.getD (q - 1) eB).toList with
    | true =>
      simp only [Bool.not_true, cond_false, cond_true]
      have ih := comp_loop2 k x2 l i hl d f v (q + 1) c (by omega) (by omega) hiv (by omega) (by omega) hcl hcd
      rw [Nat.add_sub_cancel, getB_in hql] at ih
      exact ih
    | false =>
      have hv0 : decide ((0 : Int) ≤ (v : Int)) = true := by simp
      have hv1 : decide ((v : Int) < (c.length : Int)) = true := by simp only [decide_eq_true_eq]; omega
      have hwv : IntKind.i64.wrap ((v : Int) + 1) = ((v + 1 : Nat) : Int) := by rw [wi (by omega) (by omega)]; omega
      simp only [Bool.not_false, cond_true, cond_false, hv0, hv1, Bool.and_self, hwv]
      have hdr : (c.set v l[q]).drop (v + 1) = l.drop (v + 1) := by
        rw [List.drop_set_of_lt (by omega), ← List.drop_drop (i := 1) (j := v), hcd, List.drop_drop]
      have htk : (c.set v l[q]).take (v + 1) = c.take v ++ [l[q]] := by
        rw [List.take_succ_eq_append_getElem (by rw [List.length_set]; omega), List.take_set_of_le (Nat.le_refl _), List.getElem_set_self]
      have ih := comp_loop2 k x2 l i hl d f (v + 1) (q + 1) (c.set v l[q]) (by omega) (by omega) (by omega) (by omega) (by omega) (by rw [List.length_set]; exact hcl) hdr
      rw [Nat.add_sub_cancel, getB_in hql, htk, List.append_assoc] at ih
      exact ih
theorem splice_take {l m : List ByteArray} {v : Nat} (hv : v ≤ l.length) : ((splice l v m).drop 0).take v = l.take v := by
  unfold splice
  rw [List.drop_zero, List.append_assoc, List.take_append_of_le_length (by rw [List.length_take]; omega), List.take_take, Nat.min_self]
theorem comp_loop (k : Nat) (K : List ByteArray → Option R) (l : List ByteArray) (hl : l.length < 4611686018427387904) (hk : l.length + 1 < k) : ∀ (d f i : Nat), i + d = l.length → d < f → 1 ≤ i →
    f89_0d k K (K l) l f (i : Int) = K (l.take i ++ cmpT (l.getD (i - 1) eB) (l.drop i))
  | d, 0, i, _, h, _ => absurd h (Nat.not_lt_zero _)
  | 0, f + 1, i, hi, _, _ => by
    have h1 : decide ((i : Int) < (l.length : Int)) = false := by simp only [decide_eq_false_iff_not]; omega
    simp only [f89_0d, f89_0b, h1, cond_false]
    rw [List.drop_of_length_le (by omega), List.take_of_length_le (by omega)]
    simp [cmpT]
  | d + 1, f + 1, i, hi, hf, h1i => by
    have h1 : decide ((i : Int) < (l.length : Int)) = true := by simp only [decide_eq_true_eq]; omega
    have h0 : decide ((0 : Int) ≤ (i : Int)) = true := by simp
    have h2 : decide ((i : Int) ≤ (l.length : Int)) = true := by simp only [decide_eq_true_eq]; omega
    have hw : IntKind.i64.wrap ((i : Int) + 1) = ((i + 1 : Nat) : Int) := by rw [wi (by omega) (by omega)]; omega
    have hw2 : IntKind.i64.wrap ((i : Int) - 1) = ((i - 1 : Nat) : Int) := by rw [wi (by omega) (by omega)]; omega
    have h3 : decide ((0 : Int) ≤ ((i - 1 : Nat) : Int)) = true := by simp only [decide_eq_true_eq]; omega
    have h4 : decide (((i - 1 : Nat) : Int) < (l.length : Int)) = true := by simp only [decide_eq_true_eq]; omega
    have hil : i < l.length := by omega
    simp only [f89_0d, f89_0b, h1, h0, h2, cond_true, Bool.and_self, Int.toNat_natCast, hw, hw2, h3, h4]
    rw [List.drop_eq_getElem_cons hil, getB_in hil]
    simp only [cmpT]
    cases he : l[i].toList == (l.getD (i - 1) eB).toList with
    | true =>
      simp only [cond_true, f89_2_def]
      obtain ⟨c', e1, e2, e3⟩ := comp_loop2 k (fun y2_2_0 y2_2_1 => (bif (decide (0 ≤ y2_2_0) && decide (y2_2_0 ≤ (y2_2_1.length : Int))) then (bif (decide (0 ≤ y2_2_0) && decide (y2_2_0 ≤ ((splice y2_2_1 (Int.toNat y2_2_0) (List.replicate (y2_2_1.length - (Int.toNat y2_2_0)) (⟨#[]⟩ : ByteArray))).length : Int))) then (K (((splice y2_2_1 (Int.toNat y2_2_0) (List.replicate (y2_2_1.length - (Int.toNat y2_2_0)) (⟨#[]⟩ : ByteArray))).drop 0).take (Int.toNat y2_2_0))) else none) else none)) l i hl d k i (i + 1) l (by omega) (by omega) (Nat.le_refl _) (by omega) (by omega) rfl rfl
      rw [Nat.add_sub_cancel, getB_in hil] at e2 e3
      rw [show i + 1 - i = 1 by omega] at e2
      refine e2.trans ?_
      obtain ⟨r, hr⟩ : ∃ r, r = l.take i ++ cmpT l[i] (l.drop (i + 1)) := ⟨_, rfl⟩
      rw [← hr] at e3 ⊢
      have hrl : r.length ≤ c'.length := by
        have := congrArg List.length e3
        rw [List.length_take] at this
        omega
      have d0 : decide ((0 : Int) ≤ (r.length : Int)) = true := by simp
      have d1 : decide ((r.length : Int) ≤ (c'.length : Int)) = true := by simp only [decide_eq_true_eq]; omega
      have hsl : (splice c' r.length (List.replicate (c'.length - r.length) eB)).length = c'.length := by
        unfold splice; simp; omega
      simp only [Int.toNat_natCast, d0, d1, hsl, Bool.and_self, cond_true, splice_take hrl, e3]
    | false =>
      simp only [cond_false]
      have ih := comp_loop k K l hl hk d f (i + 1) (by omega) (by omega) (by omega)
      rw [Nat.add_sub_cancel, getB_in hil, List.take_succ_eq_append_getElem hil, List.append_assoc] at ih
      exact ih
theorem f89_eq {k : Nat} {l : List ByteArray} (hk : l.length + 3 < k) (hl : l.length < 4611686018427387904) (K : List ByteArray → Option R) : f89 k l K = K (compL l) := by
  rw [f89_def]
  obtain ⟨k, rfl⟩ := succ_of (show 0 < k by omega)
  simp only [f89d]
  by_cases h : l.length < 2
  · have : decide ((l.length : Int) < 2) = true := by simp only [decide_eq_true_eq]; omega
    simp only [this, cond_true]
    match l, h with
    | [], _ => rfl
    | [x], _ => rfl
  · have : decide ((l.length : Int) < 2) = false := by simp only [decide_eq_false_iff_not]; omega
    simp only [this, cond_false, f89_0_def]
    refine (comp_loop k K l hl (by omega) (l.length - 1) k 1 (by omega) (by omega) (by omega)).trans ?_
    match l, h with
    | x :: l, _ => rfl
theorem names_loop (k : Nat) (x0 : List ByteArray → Option R) (P : List Fnd) (hP : P.length ≤ 4096) : ∀ (d f i : Nat) (c : List ByteArray), i + d = P.length → d < f → c.length = i →
    f66_0d k x0 P (P.length : Int) f (i : Int) c = x0 (c ++ (P.drop i).map Fnd.name)
  | d, 0, i, _, _, h, _ => absurd h (Nat.not_lt_zero _)
  | 0, f + 1, i, c, hi, _, _ => by
    have h1 : decide ((i : Int) < (P.length : Int)) = false := by simp only [decide_eq_false_iff_not]; omega
    simp only [f66_0d, f66_0b, h1, cond_false]
    rw [List.drop_of_length_le (by omega)]
    simp
  | d + 1, f + 1, i, c, hi, hf, hc => by
    have h1 : decide ((i : Int) < (P.length : Int)) = true := by simp only [decide_eq_true_eq]; omega
    have h0 : decide ((0 : Int) ≤ (i : Int)) = true := by simp
    have hw : IntKind.i64.wrap ((i : Int) + 1) = ((i + 1 : Nat) : Int) := by rw [wi (by omega) (by omega)]; omega
    have hil : i < P.length := by omega
    have hd : ∀ y : ByteArray, decide (c.length + ([y] : List ByteArray).length ≤ LIM 16) = true := fun y => by rw [LIM16, decide_eq_true_eq]; simp; omega
    have hg : ∀ z : Fnd, P.getD i z = P[i] := fun z => by rw [List.getD_eq_getElem?_getD, List.getElem?_eq_getElem hil]; rfl
    simp only [f66_0d, f66_0b, h1, h0, cond_true, Bool.and_self, Int.toNat_natCast, hw, hd]
    refine (names_loop k x0 P hP d f (i + 1) _ (by omega) (by omega) (by simp [hc])).trans ?_
    rw [List.drop_eq_getElem_cons hil, List.map_cons, List.append_assoc]
    congr 2
    show [_] ++ _ = _
    rw [show (P.getD i (0, ((0, (false, ((⟨#[]⟩ : ByteArray), (0, (false, (([] : List Int), ())))))), ()))) = P[i] from hg _]
    rfl
theorem ssL_len (l : List ByteArray) : (ssL l).length = l.length := (ssL_perm l).length_eq
noncomputable def namesF (P : List Fnd) : List ByteArray := compL (ssL (P.map Fnd.name))
theorem f66_eq {k : Nat} {b p s : Int} {d w x st : List Int} {nx : Int} {P : List Fnd} (hk : P.length + 10 < k) (hP : P.length ≤ 4096) (K : List ByteArray → Option R) : f66 k b p s d w x st P nx K = K (namesF P) := by
  rw [f66_def]
  obtain ⟨k, rfl⟩ := succ_of (show 0 < k by omega)
  simp only [f66d, f66_0_def]
  refine (names_loop k _ P hP P.length k 0 [] (by omega) (by omega) rfl).trans ?_
  rw [List.drop_zero, List.nil_append]
  have hl : (P.map Fnd.name).length = P.length := List.length_map ..
  rw [f88_eq (by omega) (by omega)]
  have : decide ((ssL (P.map Fnd.name)).length = (P.map Fnd.name).length) = true := by simp [ssL_len]
  simp only [this, Bool.and_self, cond_true]
  exact f89_eq (by rw [ssL_len]; omega) (by rw [ssL_len]; omega) K
end Go.Proofs.Ytecnlienmpdlaaa.PM
