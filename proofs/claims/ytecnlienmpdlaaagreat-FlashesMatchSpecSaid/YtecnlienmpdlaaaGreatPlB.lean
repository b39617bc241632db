import Derived.Test.YtecnlienmpdlaaaGreatPlA
set_option linter.unusedSimpArgs false
set_option linter.unusedVariables false
namespace Go.Proofs.YtecnlienmpdlaaaGreat.PM
open Go Go.Proofs.YtecnlienmpdlaaaGreat.Bt
noncomputable section
variable {R : Type}
theorem Qse (k : Nat) (K : Int → Oq R) (x : Oq R) (l : LI) (a : Int) (hl : l.length < 4611686018427387904) (hK : ∀ n : Int, 0 ≤ n → K n = K 0) : ∀ (d f i : Nat), i + d = l.length → d < f →
  Q56 k K x l a (l.length : Int) f (i : Int) = if (l.drop i).contains a then K 0 else x
 | d, 0, i, _, h => absurd h (Nat.not_lt_zero _)
 | 0, f + 1, i, hi, _ => by
   have h1 : decide ((i : Int) < (l.length : Int)) = false := dF (by omega)
   simp only [Q56, Qo2, h1, cond_false]
   rw [List.drop_of_length_le (by omega)]
   rfl
 | d + 1, f + 1, i, hi, hf => by
   have h1 : decide ((i : Int) < (l.length : Int)) = true := dT (by omega)
   have h0 : decide ((0 : Int) ≤ (i : Int)) = true := by simp
   have hw : IntKind.i64.wrap ((i : Int) + 1) = ((i + 1 : Nat) : Int) := wj (by omega)
   have hli : i < l.length := by omega
   have ih := Qse k K x l a hl hK d f (i + 1) (by omega) (by omega)
   simp only [Q56, Qo2, h1, h0, cond_true, Bool.and_self, Int.toNat_natCast, hw, Q1s hli]
   rw [List.drop_eq_getElem_cons hli, List.contains_cons]
   cases a == l[i] with
   | true => simpa using hK _ (by omega)
   | false => simpa using ih
theorem Q1a2 {k : Nat} (l : LI) (a : Int) (hk : l.length + 10 < k) (hl : l.length < 4611686018427387904) (K : Bool → Oq R) : f96 k l a K = K (l.contains a) := by
 rw [Q130]
 obtain ⟨k, rfl⟩ := Q9 (show 0 < k by omega)
 simp only [f96d, Qrl]
 obtain ⟨k, rfl⟩ := Q9 (show 0 < k by omega)
 simp only [f131d, Qep]
 refine (Qse k _ _ l a hl (fun n hn => ?_) l.length k 0 (by omega) (by omega)).trans ?_
 ·have : decide (n ≥ 0) = true := by simpa using hn
  simp [this]
 ·rw [List.drop_zero]
  cases l.contains a <;> simp
def pageOf (d : LI) (s n : Int) : LI := (d.take ((n + 1) * s).toNat).drop (n * s).toNat
theorem Q7d {d : LI} {b p s n : Int} (hb : 1 ≤ b ∧ b ≤ 64) (hp : 1 ≤ p ∧ p ≤ 64) (hs : 64 ≤ s ∧ s ≤ 1024) (hd : (d.length : Int) = b * p * s) (h0 : 0 ≤ n) (h1 : n < b * p) :
  0 ≤ n * s ∧ n * s ≤ 4194304 ∧ (n + 1) * s = n * s + s ∧ (n + 1) * s ≤ d.length := by
 have h2 : (n + 1) * s = n * s + s := by rw [Int.add_mul, Int.one_mul]
 have h3 : (n + 1) * s ≤ b * p * s := Int.mul_le_mul_of_nonneg_right (by omega) (by omega)
 have h4 : 0 ≤ n * s := Int.mul_nonneg h0 (by omega)
 have h5 := Qo hb hp hs
 exact ⟨h4, by omega, h2, by omega⟩
theorem Qb7 {d : LI} {b p s n : Int} (hb : 1 ≤ b ∧ b ≤ 64) (hp : 1 ≤ p ∧ p ≤ 64) (hs : 64 ≤ s ∧ s ≤ 1024) (hd : (d.length : Int) = b * p * s) (h0 : 0 ≤ n) (h1 : n < b * p) : ((pageOf d s n).length : Int) = s := by
 have h := Q7d hb hp hs hd h0 h1
 unfold pageOf
 rw [List.length_drop, List.length_take]
 omega
theorem B.drop {l : LI} (h : B l) (n : Nat) : B (l.drop n) := fun x hx => h x (List.mem_of_mem_drop hx)
theorem B.take {l : LI} (h : B l) (n : Nat) : B (l.take n) := fun x hx => h x (List.mem_of_mem_take hx)
theorem Q1gd {k : Nat} (hk : 0 < k) {b p s n : Int} {d w x : LI} (hb : 1 ≤ b ∧ b ≤ 64) (hp : 1 ≤ p ∧ p ≤ 64) (hs : 64 ≤ s ∧ s ≤ 1024) (hd : (d.length : Int) = b * p * s) (h0 : 0 ≤ n) (h1 : n < b * p) (K : LI → Oq R) :
  f84 k b p s d w x n K = K (pageOf d s n) := by
 have h := Q7d hb hp hs hd h0 h1
 have h5 := Qo hb hp hs
 rw [Q12w]
 obtain ⟨k, rfl⟩ := Q9 hk
 have e1 : IntKind.i64.wrap (n * s) = n * s := wi (by omega) (by omega)
 have e2 : IntKind.i64.wrap (n + 1) = n + 1 := wi (by omega) (by omega)
 have e3 : IntKind.i64.wrap ((n + 1) * s) = (n + 1) * s := wi (by omega) (by omega)
 have d1 : decide (0 ≤ n * s) = true := by simpa using h.1
 have d2 : decide (n * s ≤ (n + 1) * s) = true := dT (by omega)
 have d3 : decide ((n + 1) * s ≤ (d.length : Int)) = true := by simpa using h.2.2.2
 simp only [f84d, e1, e2, e3, d1, d2, d3, Bool.and_self, cond_true]
 rfl
abbrev PgD := Int × (Bool × (BA × (Int × (Bool × (LI × Unit)))))
abbrev Fnd := Int × (PgD × Unit)
abbrev KeyD := Int × (BA × Unit)
abbrev keyT : Ty := .prod (.int .i64) (.prod .str .unit)
def Fnd.gen (x : Fnd) : Int := x.2.1.1
def Fnd.gone (x : Fnd) : Bool := x.2.1.2.1
def Fnd.name (x : Fnd) : BA := x.2.1.2.2.1
def Fnd.ix (x : Fnd) : Int := x.2.1.2.2.2.1
def Fnd.last (x : Fnd) : Bool := x.2.1.2.2.2.2.1
def Fnd.raw (x : Fnd) : LI := x.2.1.2.2.2.2.2.1
def Fnd.key (x : Fnd) : KeyD := (x.gen, (x.name, ()))
def mkF (n : Int) (D : Pg) : Fnd := (n, ((D.2.1, (D.2.2.1, (D.2.2.2.1, (D.2.2.2.2.1, (D.2.2.2.2.2.1, (D.2.2.2.2.2.2, ())))))), ()))
structure Fnd.Ok (x : Fnd) : Prop where
 gen : 1 ≤ x.gen ∧ x.gen ≤ 4000000000
 ix : 0 ≤ x.ix ∧ x.ix ≤ 65535
 raw : x.raw.length ≤ 1024
 name : nameB x.name = true
theorem Q1fq {ps gen : Int} {gone : Bool} {name : BA} {index : Int} {last : Bool} {bytes : LI} (h : encErr ps gen gone name index last bytes = 0) :
  (64 ≤ ps ∧ ps ≤ 1024) ∧ (1 ≤ gen ∧ gen ≤ 4000000000) ∧ nameB name = true ∧ (0 ≤ index ∧ index ≤ 65535) ∧ (bytes.length : Int) ≤ ps - 15 - name.size ∧ ¬ (gone = true ∧ (0 < bytes.length ∨ index ≠ 0 ∨ last = false)) := by
 unfold encErr at h
 cases h1 : inB ps 64 1024 with
 | false => rw [h1, if_pos rfl] at h; exact absurd h (by decide)
 | true =>
   rw [h1, if_neg (by decide)] at h
   cases h2 : inB gen 1 4000000000 with
   | false => rw [h2, if_pos rfl] at h; exact absurd h (by decide)
   | true =>
     rw [h2, if_neg (by decide)] at h
     cases h3 : nameB name with
     | false => rw [h3, if_pos rfl] at h; exact absurd h (by decide)
     | true =>
       rw [h3, if_neg (by decide)] at h
       cases h4 : inB index 0 65535 with
       | false => rw [h4, if_pos rfl] at h; exact absurd h (by decide)
       | true =>
         rw [h4, if_neg (by decide)] at h
         by_cases h5 : (bytes.length : Int) > ps - 15 - name.size
         ·rw [if_pos h5] at h; exact absurd h (by decide)
         ·rw [if_neg h5] at h
          by_cases h6 : gone = true ∧ (0 < bytes.length ∨ index ≠ 0 ∨ last = false)
          ·rw [if_pos h6] at h; exact absurd h (by decide)
          ·exact ⟨Q22.1 h1, Q22.1 h2, rfl, Q22.1 h4, by omega, h6⟩
theorem Q1fp {l : LI} (h1 : l.length ≤ 1024) (n : Int) (h : (decF l).1 = 4) : (mkF n (decF l)).Ok := by
 by_cases g1 : all255 l
 ·unfold decF at h; rw [if_pos g1] at h; exact absurd h (by decide)
 ·by_cases g2 : l.getD (l.length - 1) 0 ≠ 165
  ·unfold decF at h; rw [if_neg g1, if_pos g2] at h; exact absurd h (by decide)
  ·by_cases g3 : 12 + l.getD 5 0 + w2 l 8 > (l.length : Int) - 3
   ·unfold decF at h; rw [if_neg g1, if_neg g2, if_pos g3] at h; exact absurd h (by decide)
   ·by_cases g4 : decErr l = 0 ∧ l = decAll l
    ·have e : decF l = (4, w4 l, l.getD 4 0 == 2, nameOf l, w2 l 6, l.getD 10 0 == 1, Q1q l) := by
      unfold decF
      rw [if_neg g1, if_neg g2, if_neg g3, if_pos g4]
     have g5 := Q1fq g4.1
     rw [e]
     refine ⟨g5.2.1, g5.2.2.2.1, ?_, g5.2.2.1⟩
     show (Q1q l).length ≤ 1024
     unfold Q1q; rw [List.length_drop, List.length_take]; omega
    ·unfold decF at h; rw [if_neg g1, if_neg g2, if_neg g3, if_neg g4] at h; exact absurd h (by decide)
structure Lk where
 next : Int
 states : LI
 pages : List Fnd
def isNew (x : Fnd) (l : List Fnd) : Bool := !(l.any fun y => keyT.beq y.key x.key)
def nextF (a : Int) (l : LI) : Int := if all255 (l.take 4) then a else (if a < w4 l + 1 then w4 l + 1 else a)
def addF (n : Int) (D : Pg) (P : List Fnd) : List Fnd := if D.1 = 4 ∧ isNew (mkF n D) P then P ++ [mkF n D] else P
def lkStep (p s : Int) (d x : LI) (n : Nat) (A : Lk) : Lk :=
 if x.contains ((n : Int) / p) then ⟨A.next, A.states ++ [0], A.pages⟩
 else ⟨nextF A.next (pageOf d s n), A.states ++ [(decF (pageOf d s n)).1], addF n (decF (pageOf d s n)) A.pages⟩
def lkFrom (p s : Int) (d x : LI) : Nat → Nat → Lk → Lk
 | 0, _, A => A
 | m + 1, n, A => lkFrom p s d x m (n + 1) (lkStep p s d x n A)
def lookF (b p s : Int) (d x : LI) : Lk := lkFrom p s d x (b * p).toNat 0 ⟨1, [], []⟩
def SeenT (S : List (KeyD × Bool)) (l : List Fnd) : Prop := (S.map (·.1)).Nodup ∧ ∀ k : KeyD, (mget keyT k S).getD false = l.any fun y => keyT.beq y.key k
structure Lk.Ok (A : Lk) (n : Nat) : Prop where
 next : 1 ≤ A.next ∧ A.next ≤ 4294967296
 states : A.states.length = n
 len : A.pages.length ≤ n
 ok : ∀ x ∈ A.pages, x.Ok
 keys : (A.pages.map Fnd.key).Nodup
theorem Qn1 {l : LI} (h : B l) : 0 ≤ w4 l ∧ w4 l < 4294967296 := by
 have h1 := Q3u h 0
 have h2 := Q3u h 2
 unfold w4
 omega
theorem Q1a9 {x y : Fnd} : keyT.beq x.key y.key = true ↔ x.key = y.key := Q16 (kt := keyT) rfl
theorem Q13k {x : Fnd} {l : List Fnd} : isNew x l = true ↔ x.key ∉ l.map Fnd.key := by
 unfold isNew
 rw [Bool.not_eq_true', List.any_eq_false]
 simp only [List.mem_map, not_exists, not_and]
 constructor
 ·intro h y hy e
  exact h y hy (Q1a9.2 e)
 ·intro h y hy e
  exact h y hy (Q1a9.1 e)
theorem Qcm {b p s : Int} {d x : LI} {n : Nat} {A : Lk} (hB : B d) (hb : 1 ≤ b ∧ b ≤ 64) (hp : 1 ≤ p ∧ p ≤ 64) (hs : 64 ≤ s ∧ s ≤ 1024) (hd : (d.length : Int) = b * p * s) (h1 : (n : Int) < b * p) (h : A.Ok n) : (lkStep p s d x n A).Ok (n + 1) := by
 unfold lkStep
 split
 ·exact ⟨h.next, by simp [h.states], Nat.le_succ_of_le h.len, h.ok, h.keys⟩
 ·have hl := Qb7 hb hp hs hd (Int.natCast_nonneg n) h1
  have hBp : B (pageOf d s n) := (hB.take _).drop _
  have hw := Qn1 hBp
  refine ⟨?_, by simp [h.states], ?_, ?_, ?_⟩
  ·have := h.next
   show 1 ≤ nextF _ _ ∧ nextF _ _ ≤ _
   unfold nextF
   split
   ·exact this
   ·split <;> omega
  ·have := h.len
   show (addF _ _ _).length ≤ _
   unfold addF
   split
   ·rw [List.length_append]; simp; omega
   ·omega
  ·show ∀ y ∈ addF _ _ _, _
   unfold addF
   split
   ·rename_i h4
    intro y hy
    rcases List.mem_append.1 hy with hy | hy
    ·exact h.ok y hy
    ·rw [List.mem_singleton] at hy
     subst hy
     exact Q1fp (by omega) _ h4.1
   ·exact h.ok
  ·show ((addF _ _ _).map _).Nodup
   unfold addF
   split
   ·rename_i h4
    rw [List.map_append, List.nodup_append]
    refine ⟨h.keys, by simp, fun a ha c hc => ?_⟩
    rw [List.map_singleton, List.mem_singleton] at hc
    subst hc
    intro e
    subst e
    exact Q13k.1 h4.2 ha
   ·exact h.keys
theorem Qlq {b p s : Int} {d x : LI} (hB : B d) (hb : 1 ≤ b ∧ b ≤ 64) (hp : 1 ≤ p ∧ p ≤ 64) (hs : 64 ≤ s ∧ s ≤ 1024) (hd : (d.length : Int) = b * p * s) : ∀ (m n : Nat) (A : Lk), ((n + m : Nat) : Int) ≤ b * p → A.Ok n → (lkFrom p s d x m n A).Ok (n + m)
 | 0, n, A, _, h => h
 | m + 1, n, A, hm, h => by
   have := Qlq (x := x) hB hb hp hs hd m (n + 1) (lkStep p s d x n A) (by omega) (Qcm hB hb hp hs hd (by omega) h)
   rw [show n + 1 + m = n + (m + 1) by omega] at this
   exact this
theorem Q1cu {b p s : Int} {d x : LI} (hB : B d) (hb : 1 ≤ b ∧ b ≤ 64) (hp : 1 ≤ p ∧ p ≤ 64) (hs : 64 ≤ s ∧ s ≤ 1024) (hd : (d.length : Int) = b * p * s) : (lookF b p s d x).Ok (b * p).toNat := by
 have h := Qo hb hp hs
 have := Qlq (x := x) hB hb hp hs hd (b * p).toNat 0 ⟨1, [], []⟩ (by omega) ⟨⟨by decide, by decide⟩, rfl, Nat.le_refl _, fun x hx => (by cases hx), List.nodup_nil⟩
 rw [Nat.zero_add] at this
 exact this
theorem Qiw {kt : Ty} (hk : keyTy kt = true) {β : Type} (k k0 : kt.D) [Decidable (k = k0)] : ∀ l : List (kt.D × β), mget kt k (mdel kt k0 l) = if k = k0 then none else mget kt k l
 | [] => by simp [mget, mdel]
 | (a, v) :: l => by
   have ih := Qiw hk k k0 l
   unfold mget mdel at ih ⊢
   cases h0 : kt.beq k0 a with
   | true =>
     rw [List.filter_cons_of_neg (by simp [h0]), ih]
     have e := (Q16 hk).1 h0
     subst e
     by_cases h : k = k0
     ·rw [if_pos h, if_pos h]
     ·rw [if_neg h, if_neg h, List.find?_cons]
      have : kt.beq k k0 = false := by
       cases hb : kt.beq k k0 with
       | false => rfl
       | true => exact absurd ((Q16 hk).1 hb) h
      simp only [this]
   | false =>
     rw [List.filter_cons_of_pos (by simp [h0]), List.find?_cons, List.find?_cons]
     cases h1 : kt.beq k a with
     | true =>
       have e := (Q16 hk).1 h1
       subst e
       have h : ¬ k = k0 := fun h => by rw [h, (Q16 hk).2 rfl] at h0; cases h0
       simp only [if_neg h]
     | false => simpa using ih
theorem Qsl {kt : Ty} (hk : keyTy kt = true) {β : Type} (k k0 : kt.D) (v : β) [Decidable (k = k0)] (l : List (kt.D × β)) : mget kt k (mdel kt k0 l ++ [(k0, v)]) = if k = k0 then some v else mget kt k l := by
 have e : mget kt k (mdel kt k0 l ++ [(k0, v)]) = (mget kt k (mdel kt k0 l)).or (mget kt k [(k0, v)]) := by
  unfold mget
  rw [List.find?_append]
  cases List.find? (fun q => kt.beq k q.1) (mdel kt k0 l) <;> rfl
 rw [e, Qiw hk]
 by_cases h : k = k0
 ·subst h
  simp [mget, (Q16 hk).2 rfl]
 ·have : kt.beq k k0 = false := by
   cases hb : kt.beq k k0 with
   | false => rfl
   | true => exact absurd ((Q16 hk).1 hb) h
  rw [if_neg h, if_neg h]
  simp [mget, this]
theorem Qmb {kt : Ty} (hk : keyTy kt = true) {β : Type} (k0 : kt.D) (v : β) {l : List (kt.D × β)} (h : (l.map (·.1)).Nodup) : ((mdel kt k0 l ++ [(k0, v)]).map (·.1)).Nodup := by
 rw [List.map_append, List.nodup_append]
 refine ⟨?_, by simp, fun a ha c hc => ?_⟩
 ·exact List.Nodup.sublist (List.Sublist.map _ List.filter_sublist) h
 ·simp only [List.map_cons, List.map_nil, List.mem_singleton] at hc
  subst hc
  obtain ⟨q, hq, rfl⟩ := List.mem_map.1 ha
  unfold mdel at hq
  have := (List.mem_filter.1 hq).2
  intro e
  rw [(Q16 hk).2 e.symm] at this
  cases this
open Classical in
theorem Q17b {S : List (KeyD × Bool)} {P : List Fnd} (x : Fnd) (h : SeenT S P) : SeenT (mdel keyT x.key S ++ [(x.key, true)]) (P ++ [x]) := by
 refine ⟨Qmb (kt := keyT) rfl _ _ h.1, fun k => ?_⟩
 rw [Qsl (kt := keyT) rfl, List.any_append, List.any_cons, List.any_nil, Bool.or_false]
 by_cases e : k = x.key
 ·rw [if_pos e, e, (Q16 (kt := keyT) rfl).2 rfl, Bool.or_true]; rfl
 ·rw [if_neg e, h.2 k]
  have : keyT.beq x.key k = false := by
   cases hb : keyT.beq x.key k with
   | false => rfl
   | true => exact absurd ((Q16 (kt := keyT) rfl).1 hb).symm e
  rw [this, Bool.or_false]
theorem LIM80 : LIM 80 = 1759218604441 := by simp [LIM]
theorem LIM16 : LIM 16 = 8796093022208 := by simp [LIM]
theorem LIM24 : LIM 24 = 5864062014805 := by simp [LIM]
set_option maxHeartbeats 1000000 in
theorem Q13z {k : Nat} {b p s : Int} {d w x : LI} {n : Nat} {A : Lk} (hk : x.length + 7000 < k) (hx : x.length < 4611686018427387904) (hB : B d) (hb : 1 ≤ b ∧ b ≤ 64) (hp : 1 ≤ p ∧ p ≤ 64) (hs : 64 ≤ s ∧ s ≤ 1024) (hd : (d.length : Int) = b * p * s) (h1 : (n : Int) < b * p) (h : A.Ok n)
  {S : List (KeyD × Bool)} (hS : SeenT S A.pages) : ∃ S', SeenT S' (lkStep p s d x n A).pages ∧ ∀ x1 : Int → LI → List Fnd → List (KeyD × Bool) → Oq R,
   f46_1 k x1 (n : Int) b p s d w x A.next A.states A.pages S = x1 (lkStep p s d x n A).next (lkStep p s d x n A).states (lkStep p s d x n A).pages S' := by
 have hpz : (!(p == 0)) = true := by
  have : ¬ p = 0 := by omega
  simp [this]
 have hpb := Qo hb hp hs
 have hq : IntKind.i64.wrap (Int.tdiv (n : Int) p) = (n : Int) / p := by
  rw [Qp4 (Int.natCast_nonneg n)]
  have h2 : 0 ≤ (n : Int) / p := Int.ediv_nonneg (by omega) (by omega)
  have h3 : (n : Int) / p ≤ n := Int.ediv_le_self _ (by omega)
  exact wi (by omega) (by omega)
 have hst := h.states
 have hln := h.len
 have hnx := h.next
 cases hc : x.contains ((n : Int) / p) with
 | true =>
   refine ⟨S, ?_, fun x1 => ?_⟩
   ·unfold lkStep; rw [if_pos hc]; exact hS
   ·have e : lkStep p s d x n A = ⟨A.next, A.states ++ [0], A.pages⟩ := by unfold lkStep; rw [if_pos hc]
    rw [e, Qbw]
    have d1 : decide (A.states.length + ([0] : LI).length ≤ LIM 8) = true := by rw [LIM8, decide_eq_true_eq, hst]; simp; omega
    simp only [Qs6, hpz, cond_true, hq, Q1a2 x _ (show x.length + 10 < k by omega) hx, hc, d1]
 | false =>
   have hl := Qb7 hb hp hs hd (Int.natCast_nonneg n) h1
   have hBp : B (pageOf d s n) := (hB.take _).drop _
   have hw := Qn1 hBp
   obtain ⟨l, hl'⟩ : ∃ l, l = pageOf d s n := ⟨_, rfl⟩
   rw [← hl'] at hl hBp hw
   obtain ⟨D, hD⟩ : ∃ D, D = decF l := ⟨_, rfl⟩
   have e : lkStep p s d x n A = ⟨nextF A.next l, A.states ++ [D.1], addF n D A.pages⟩ := by
    unfold lkStep; rw [if_neg (by rw [hc]; exact Bool.false_ne_true), ← hl', ← hD]
   rw [e]
   have d1 : ∀ y : Int, decide (A.states.length + ([y] : LI).length ≤ LIM 8) = true := fun y => by rw [LIM8, decide_eq_true_eq, hst]; simp; omega
   have d2 : ∀ y : Fnd, decide (A.pages.length + ([y] : List Fnd).length ≤ LIM 80) = true := fun y => by rw [LIM80, decide_eq_true_eq]; simp; omega
   have d3 : decide ((4 : Int) ≤ (l.length : Int)) = true := dT (by omega)
   have hw1 : IntKind.i64.wrap (w4 l + 1) = w4 l + 1 := wi (by omega) (by omega)
   have hf1 : ∀ xN : Int → Oq R, Qif k xN l (!(all255 (l.take 4))) A.next = xN (nextF A.next l) := fun xN => by
    rw [Qbx]
    unfold nextF
    cases all255 (l.take 4) with
    | true => simp [Qb1]
    | false => simp [Qb1, Q1a4 (show 0 < k by omega) hBp (by omega), hw1]
   have hm : (mget keyT (mkF n D).key S).getD false = !(isNew (mkF n D) A.pages) := by
    rw [hS.2]; unfold isNew; rw [Bool.not_not]
   have hm' : (mget (.prod (.int .i64) (.prod .str .unit)) (D.2.1, (D.2.2.2.1, ())) S).getD false = !(isNew (mkF n D) A.pages) := hm
   have base : ∀ (x1 : Int → LI → List Fnd → List (KeyD × Bool) → Oq R), f46_1 k x1 (n : Int) b p s d w x A.next A.states A.pages S =
    bif (D.1 == 4) then (bif isNew (mkF n D) A.pages then x1 (nextF A.next l) (A.states ++ [D.1]) (A.pages ++ [mkF n D]) (mdel keyT (mkF n D).key S ++ [((mkF n D).key, true)]) else x1 (nextF A.next l) (A.states ++ [D.1]) A.pages S) else x1 (nextF A.next l) (A.states ++ [D.1]) A.pages S := fun x1 => by
    rw [Qbw]
    simp only [Qs6, hpz, cond_true, hq, Q1a2 x _ (show x.length + 10 < k by omega) hx, hc, cond_false, Q1gd (show 0 < k by omega) hb hp hs hd (Int.natCast_nonneg n) h1, ← hl', Q1gg hBp (show 64 ≤ l.length by omega) (by omega) (show 6000 < k by omega), ← hD, apP, d1, d3, Q1a3 (l.take 4) (show _ < k by rw [List.length_take]; omega) (by rw [List.length_take]; omega), hf1, hm', Bool.not_not, Qby, Qih]
    cases h4 : D.1 == 4 with
    | true =>
      cases hn : isNew (mkF n D) A.pages with
      | true =>
        have := d2 (mkF n D)
        simp only [mkF] at this
        simp only [beq_self_eq_true, cond_true, this]
        rfl
      | false => simp
    | false => simp
   cases h4 : D.1 == 4 with
   | true =>
     have h4' : D.1 = 4 := by simpa using h4
     cases hn : isNew (mkF n D) A.pages with
     | true =>
       have ea : addF n D A.pages = A.pages ++ [mkF n D] := by unfold addF; rw [if_pos ⟨h4', hn⟩]
       refine ⟨_, ?_, fun x1 => by rw [base x1, h4, hn, ea]; rfl⟩
       show SeenT _ (addF n D A.pages)
       rw [ea]
       exact Q17b _ hS
     | false =>
       have ea : addF n D A.pages = A.pages := by unfold addF; rw [if_neg (by simp [hn])]
       refine ⟨S, ?_, fun x1 => by rw [base x1, h4, hn, ea]; rfl⟩
       show SeenT _ (addF n D A.pages)
       rw [ea]; exact hS
   | false =>
     have h4' : ¬ D.1 = 4 := by simpa using h4
     have ea : addF n D A.pages = A.pages := by unfold addF; rw [if_neg (by simp [h4'])]
     refine ⟨S, ?_, fun x1 => by rw [base x1, h4, ea]; rfl⟩
     show SeenT _ (addF n D A.pages)
     rw [ea]; exact hS
theorem Qls (k : Nat) {b p s : Int} {d w x : LI} (hk : x.length + 7000 < k) (hx : x.length < 4611686018427387904) (hB : B d) (hb : 1 ≤ b ∧ b ≤ 64) (hp : 1 ≤ p ∧ p ≤ 64) (hs : 64 ≤ s ∧ s ≤ 1024) (hd : (d.length : Int) = b * p * s) (x0 : Int → LI → List Fnd → Oq R) (y1 y2 y3 y4 y5 y6 y7 : Int) (z1 z2 z3 : LI) :
  ∀ (m f n : Nat) (A : Lk) (S : List (KeyD × Bool)), ((n + m : Nat) : Int) = b * p → m < f → A.Ok n → SeenT S A.pages → 
    Qa7 k x0 (b * p) b p s d w x y1 y2 y3 y4 y5 y6 y7 z1 z2 z3 f (n : Int) A.next A.states A.pages S = x0 (lkFrom p s d x m n A).next (lkFrom p s d x m n A).states (lkFrom p s d x m n A).pages
 | m, 0, n, _, _, _, h, _, _ => absurd h (Nat.not_lt_zero _)
 | 0, f + 1, n, A, S, hm, _, _, _ => by
   have d0 : decide ((n : Int) < b * p) = false := dF (by omega)
   simp only [Qa7, Q11k, d0, cond_false]
   rfl
 | m + 1, f + 1, n, A, S, hm, hf, hA, hS => by
   have hpb := Qo hb hp hs
   have h1 : (n : Int) < b * p := by omega
   have d0 : decide ((n : Int) < b * p) = true := by simpa using h1
   have hw : IntKind.i64.wrap ((n : Int) + 1) = ((n + 1 : Nat) : Int) := wj (by omega)
   obtain ⟨S', hS', e⟩ := Q13z (R := R) (w := w) hk hx hB hb hp hs hd h1 hA hS
   simp only [Qa7, Q11k, d0, cond_true, hw]
   rw [e]
   exact Qls k hk hx hB hb hp hs hd x0 y1 y2 y3 y4 y5 y6 y7 z1 z2 z3 m f (n + 1) _ S' (by omega) (by omega) (Qcm hB hb hp hs hd h1 hA) hS'
theorem Q11m {k : Nat} {b p s : Int} {d w x : LI} (hk : x.length + 8000 < k) (hx : x.length < 4611686018427387904) (hB : B d) (hb : 1 ≤ b ∧ b ≤ 64) (hp : 1 ≤ p ∧ p ≤ 64) (hs : 64 ≤ s ∧ s ≤ 1024) (hd : (d.length : Int) = b * p * s)
  (K : Int → Int → Int → LI → LI → LI → Int → LI → List Fnd → Oq R) : f46 k b p s d w x K = K b p s d w x (lookF b p s d x).next (lookF b p s d x).states (lookF b p s d x).pages := by
 have hpb := Qo hb hp hs
 rw [Q11l]
 obtain ⟨k, rfl⟩ := Q9 (show 0 < k by omega)
 have hw : IntKind.i64.wrap (b * p) = b * p := wi (by omega) (by omega)
 simp only [f46d, hw, Qkn]
 exact Qls k (by omega) hx hB hb hp hs hd _ _ _ _ _ _ _ _ _ _ _ (b * p).toNat k 0 ⟨1, [], []⟩ [] (by omega) (by omega) ⟨⟨by decide, by decide⟩, rfl, Nat.le_refl _, fun x hx => (by cases hx), List.nodup_nil⟩ ⟨List.nodup_nil, fun _ => rfl⟩
def cmpT (p : BA) : List BA → List BA
 | [] => []
 | y :: l => bif y.toList == p.toList then cmpT y l else y :: cmpT y l
def compL : List BA → List BA
 | [] => []
 | x :: l => x :: cmpT x l
abbrev eB : BA := ⟨#[]⟩
theorem Q3f {l : List BA} {i : Nat} (h : i < l.length) : l.getD i eB = l[i] := by rw [List.getD_eq_getElem?_getD, List.getElem?_eq_getElem h]; rfl
theorem Q1c0 {k : Nat} (hk : 0 < k) {l : List BA} (hl : l.length < 4611686018427387904) (K : List BA → Oq R) : f122 k l K = K (ssL l) := by
 rw [Qrh]
 obtain ⟨k, rfl⟩ := Q9 hk
 have : ssOk l = true := by unfold ssOk; simpa using hl
 simp only [f122d, this, cond_true]
theorem Q8v (k : Nat) (x2 : Int → List BA → Oq R) (l : List BA) (i : Nat) (hl : l.length < 4611686018427387904) : ∀ (d f v q : Nat) (c : List BA), q + d = l.length → d < f → i ≤ v → v < q → i < q → c.length = l.length → c.drop v = l.drop v →
  ∃ c', c'.length = l.length ∧ Q54 k x2 i (l.length - i) f (v : Int) ((q - i : Nat) : Int) c = x2 ((c.take v ++ cmpT (l.getD (q - 1) eB) (l.drop q)).length : Int) c' ∧ c'.take (c.take v ++ cmpT (l.getD (q - 1) eB) (l.drop q)).length = c.take v ++ cmpT (l.getD (q - 1) eB) (l.drop q)
 | d, 0, v, q, c, _, h, _, _, _, _, _ => absurd h (Nat.not_lt_zero _)
 | 0, f + 1, v, q, c, hq, _, _, hv, hi, hcl, _ => by
   have h1 : decide (((q - i : Nat) : Int) < ((l.length - i : Nat) : Int)) = false := dF (by omega)
   refine ⟨c, hcl, ?_, ?_⟩
   ·simp only [Q54, Qo0, h1, cond_false]
    rw [List.drop_of_length_le (show l.length ≤ q by omega)]
    simp only [cmpT, List.append_nil, List.length_take]
    rw [Nat.min_eq_left (by omega)]
   ·rw [List.drop_of_length_le (show l.length ≤ q by omega)]
    simp only [cmpT, List.append_nil, List.length_take]
    rw [Nat.min_eq_left (by omega)]
 | d + 1, f + 1, v, q, c, hq, hf, hiv, hv, hi, hcl, hcd => by
   have h1 : decide (((q - i : Nat) : Int) < ((l.length - i : Nat) : Int)) = true := dT (by omega)
   have h0 : decide ((0 : Int) ≤ ((q - i : Nat) : Int)) = true := dT (by omega)
   have hw : IntKind.i64.wrap (((q - i : Nat) : Int) + 1) = ((q + 1 - i : Nat) : Int) := wj (by omega)
   have hw2 : IntKind.i64.wrap (((q - i : Nat) : Int) - 1) = ((q - 1 - i : Nat) : Int) := wj (by omega)
   have h3 : decide ((0 : Int) ≤ ((q - 1 - i : Nat) : Int)) = true := dT (by omega)
   have h4 : decide (((q - 1 - i : Nat) : Int) < ((l.length - i : Nat) : Int)) = true := dT (by omega)
   have hql : q < l.length := by omega
   have cg : ∀ j, v ≤ j → j < l.length → c.getD j eB = l.getD j eB := fun j hj hjl => by
    have e1 : c.getD j eB = (c.drop v).getD (j - v) eB := by rw [List.getD_eq_getElem?_getD, List.getD_eq_getElem?_getD, List.getElem?_drop]; congr 2; omega
    have e2 : l.getD j eB = (l.drop v).getD (j - v) eB := by rw [List.getD_eq_getElem?_getD, List.getD_eq_getElem?_getD, List.getElem?_drop]; congr 2; omega
    rw [e1, e2, hcd]
   have a1 : i + (q - i) = q := by omega
   have a2 : i + (q - 1 - i) = q - 1 := by omega
   simp only [Q54, Qo0, h1, h0, cond_true, Bool.and_self, Int.toNat_natCast, hw, hw2, h3, h4, Q9w, Qbs, a1, a2, cg q (by omega) hql, cg (q - 1) (by omega) (by omega)]
   rw [List.drop_eq_getElem_cons hql, Q3f hql]
   simp only [cmpT]
   cases he : l[q].toList == (l.getD (q - 1) eB).toList with
   | true =>
     simp only [Bool.not_true, cond_false, cond_true]
     have ih := Q8v k x2 l i hl d f v (q + 1) c (by omega) (by omega) hiv (by omega) (by omega) hcl hcd
     rw [Nat.add_sub_cancel, Q3f hql] at ih
     exact ih
   | false =>
     have hv0 : decide ((0 : Int) ≤ (v : Int)) = true := by simp
     have hv1 : decide ((v : Int) < (c.length : Int)) = true := dT (by omega)
     have hwv : IntKind.i64.wrap ((v : Int) + 1) = ((v + 1 : Nat) : Int) := wj (by omega)
     simp only [Bool.not_false, cond_true, cond_false, hv0, hv1, Bool.and_self, hwv]
     have hdr : (c.set v l[q]).drop (v + 1) = l.drop (v + 1) := by
      rw [List.drop_set_of_lt (by omega), ← List.drop_drop (i := 1) (j := v), hcd, List.drop_drop]
     have htk : (c.set v l[q]).take (v + 1) = c.take v ++ [l[q]] := by
      rw [List.take_succ_eq_append_getElem (by rw [List.length_set]; omega), List.take_set_of_le (Nat.le_refl _), List.getElem_set_self]
     have ih := Q8v k x2 l i hl d f (v + 1) (q + 1) (c.set v l[q]) (by omega) (by omega) (by omega) (by omega) (by omega) (by rw [List.length_set]; exact hcl) hdr
     rw [Nat.add_sub_cancel, Q3f hql, htk, List.append_assoc] at ih
     exact ih
theorem Qoz {l m : List BA} {v : Nat} (hv : v ≤ l.length) : ((splice l v m).drop 0).take v = l.take v := by
 unfold splice
 rw [List.drop_zero, List.append_assoc, List.take_append_of_le_length (by rw [List.length_take]; omega), List.take_take, Nat.min_self]
theorem Qk9 (k : Nat) (K : List BA → Oq R) (l : List BA) (hl : l.length < 4611686018427387904) (hk : l.length + 1 < k) : ∀ (d f i : Nat), i + d = l.length → d < f → 1 ≤ i →
  Q53 k K (K l) l f (i : Int) = K (l.take i ++ cmpT (l.getD (i - 1) eB) (l.drop i))
 | d, 0, i, _, h, _ => absurd h (Nat.not_lt_zero _)
 | 0, f + 1, i, hi, _, _ => by
   have h1 : decide ((i : Int) < (l.length : Int)) = false := dF (by omega)
   simp only [Q53, Qnz, h1, cond_false]
   rw [List.drop_of_length_le (by omega), List.take_of_length_le (by omega)]
   simp [cmpT]
 | d + 1, f + 1, i, hi, hf, h1i => by
   have h1 : decide ((i : Int) < (l.length : Int)) = true := dT (by omega)
   have h0 : decide ((0 : Int) ≤ (i : Int)) = true := by simp
   have h2 : decide ((i : Int) ≤ (l.length : Int)) = true := dT (by omega)
   have hw : IntKind.i64.wrap ((i : Int) + 1) = ((i + 1 : Nat) : Int) := wj (by omega)
   have hw2 : IntKind.i64.wrap ((i : Int) - 1) = ((i - 1 : Nat) : Int) := wj (by omega)
   have h3 : decide ((0 : Int) ≤ ((i - 1 : Nat) : Int)) = true := dT (by omega)
   have h4 : decide (((i - 1 : Nat) : Int) < (l.length : Int)) = true := dT (by omega)
   have hil : i < l.length := by omega
   simp only [Q53, Qnz, h1, h0, h2, cond_true, Bool.and_self, Int.toNat_natCast, hw, hw2, h3, h4]
   rw [List.drop_eq_getElem_cons hil, Q3f hil]
   simp only [cmpT]
   cases he : l[i].toList == (l.getD (i - 1) eB).toList with
   | true =>
     simp only [cond_true, Qen]
     obtain ⟨c', e1, e2, e3⟩ := Q8v k (fun y2_2_0 y2_2_1 => (bif (decide (0 ≤ y2_2_0) && decide (y2_2_0 ≤ (y2_2_1.length : Int))) then (bif (decide (0 ≤ y2_2_0) && decide (y2_2_0 ≤ ((splice y2_2_1 (Int.toNat y2_2_0) (List.replicate (y2_2_1.length - (Int.toNat y2_2_0)) (⟨#[]⟩ : BA))).length : Int))) then (K (((splice y2_2_1 (Int.toNat y2_2_0) (List.replicate (y2_2_1.length - (Int.toNat y2_2_0)) (⟨#[]⟩ : BA))).drop 0).take (Int.toNat y2_2_0))) else none) else none)) l i hl d k i (i + 1) l (by omega) (by omega) (Nat.le_refl _) (by omega) (by omega) rfl rfl
     rw [Nat.add_sub_cancel, Q3f hil] at e2 e3
     rw [show i + 1 - i = 1 by omega] at e2
     refine e2.trans ?_
     obtain ⟨r, hr⟩ : ∃ r, r = l.take i ++ cmpT l[i] (l.drop (i + 1)) := ⟨_, rfl⟩
     rw [← hr] at e3 ⊢
     have hrl : r.length ≤ c'.length := by
      have := congrArg List.length e3
      rw [List.length_take] at this
      omega
     have d0 : decide ((0 : Int) ≤ (r.length : Int)) = true := by simp
     have d1 : decide ((r.length : Int) ≤ (c'.length : Int)) = true := dT (by omega)
     have hsl : (splice c' r.length (List.replicate (c'.length - r.length) eB)).length = c'.length := by
      unfold splice; simp; omega
     simp only [Int.toNat_natCast, d0, d1, hsl, Bool.and_self, cond_true, Qoz hrl, e3]
   | false =>
     simp only [cond_false]
     have ih := Qk9 k K l hl hk d f (i + 1) (by omega) (by omega) (by omega)
     rw [Nat.add_sub_cancel, Q3f hil, List.take_succ_eq_append_getElem hil, List.append_assoc] at ih
     exact ih
theorem Q1c1 {k : Nat} {l : List BA} (hk : l.length + 3 < k) (hl : l.length < 4611686018427387904) (K : List BA → Oq R) : f123 k l K = K (compL l) := by
 rw [Qri]
 obtain ⟨k, rfl⟩ := Q9 (show 0 < k by omega)
 simp only [f123d]
 by_cases h : l.length < 2
 ·have : decide ((l.length : Int) < 2) = true := dT (by omega)
  simp only [this, cond_true]
  match l, h with
  | [], _ => rfl
  | [x], _ => rfl
 ·have : decide ((l.length : Int) < 2) = false := dF (by omega)
  simp only [this, cond_false, Qem]
  refine (Qk9 k K l hl (by omega) (l.length - 1) k 1 (by omega) (by omega) (by omega)).trans ?_
  match l, h with
  | x :: l, _ => rfl
theorem Qfl (k : Nat) (x0 : List BA → Oq R) (P : List Fnd) (hP : P.length ≤ 4096) : ∀ (d f i : Nat) (c : List BA), i + d = P.length → d < f → c.length = i →
  Qai k x0 P (P.length : Int) f (i : Int) c = x0 (c ++ (P.drop i).map Fnd.name)
 | d, 0, i, _, _, h, _ => absurd h (Nat.not_lt_zero _)
 | 0, f + 1, i, c, hi, _, _ => by
   have h1 : decide ((i : Int) < (P.length : Int)) = false := dF (by omega)
   simp only [Qai, Q12o, h1, cond_false]
   rw [List.drop_of_length_le (by omega)]
   simp
 | d + 1, f + 1, i, c, hi, hf, hc => by
   have h1 : decide ((i : Int) < (P.length : Int)) = true := dT (by omega)
   have h0 : decide ((0 : Int) ≤ (i : Int)) = true := by simp
   have hw : IntKind.i64.wrap ((i : Int) + 1) = ((i + 1 : Nat) : Int) := wj (by omega)
   have hil : i < P.length := by omega
   have hd : ∀ y : BA, decide (c.length + ([y] : List BA).length ≤ LIM 16) = true := fun y => by rw [LIM16, decide_eq_true_eq]; simp; omega
   have hg : ∀ z : Fnd, P.getD i z = P[i] := fun z => by rw [List.getD_eq_getElem?_getD, List.getElem?_eq_getElem hil]; rfl
   simp only [Qai, Q12o, h1, h0, cond_true, Bool.and_self, Int.toNat_natCast, hw, hd]
   refine (Qfl k x0 P hP d f (i + 1) _ (by omega) (by omega) (by simp [hc])).trans ?_
   rw [List.drop_eq_getElem_cons hil, List.map_cons, List.append_assoc]
   congr 2
   show [_] ++ _ = _
   rw [show (P.getD i (0, ((0, (false, ((⟨#[]⟩ : BA), (0, (false, (([] : LI), ())))))), ()))) = P[i] from hg _]
   rfl
theorem Qjf (l : List BA) : (ssL l).length = l.length := (Q8p l).length_eq
def namesF (P : List Fnd) : List BA := compL (ssL (P.map Fnd.name))
theorem Q1g9 {k : Nat} {b p s : Int} {d w x st : LI} {nx : Int} {P : List Fnd} (hk : P.length + 10 < k) (hP : P.length ≤ 4096) (K : List BA → Oq R) : f74 k b p s d w x st P nx K = K (namesF P) := by
 rw [Q12p]
 obtain ⟨k, rfl⟩ := Q9 (show 0 < k by omega)
 simp only [f74d, Ql8]
 refine (Qfl k _ P hP P.length k 0 [] (by omega) (by omega) rfl).trans ?_
 rw [List.drop_zero, List.nil_append]
 have hl : (P.map Fnd.name).length = P.length := List.length_map ..
 rw [Q1c0 (by omega) (by omega)]
 have : decide ((ssL (P.map Fnd.name)).length = (P.map Fnd.name).length) = true := by simp [Qjf]
 simp only [this, Bool.and_self, cond_true]
 exact Q1c1 (by rw [Qjf]; omega) (by rw [Qjf]; omega) K
def Fnd.base (x : Fnd) : Int := x.gen - x.ix
abbrev Tbl := List (Int × List Fnd)
def tget (g : Int) (T : Tbl) : Option (List Fnd) := mget (.int .i64) g T
def Q36 (nm : BA) (T : Tbl) (x : Fnd) : Tbl := bif x.name.toList == nm.toList then mdel (.int .i64) x.base (mdel (.int .i64) x.base T) ++ [(x.base, (tget x.base T).getD [] ++ [x])] else T
def tblF (P : List Fnd) (nm : BA) : Tbl := P.foldl (Q36 nm) []
def grp (P : List Fnd) (nm : BA) (g : Int) : List Fnd := P.filter fun x => x.name.toList == nm.toList && x.base == g
structure TblOk (P : List Fnd) (nm : BA) (T : Tbl) : Prop where
 keys : (T.map (·.1)).Nodup
 get : ∀ g, tget g T = if grp P nm g = [] then none else some (grp P nm g)
theorem Qt3 {P : List Fnd} {nm : BA} {T : Tbl} (h : TblOk P nm T) (x : Fnd) : TblOk (P ++ [x]) nm (Q36 nm T x) := by
 have hg : ∀ g, grp (P ++ [x]) nm g = grp P nm g ++ (if x.name.toList == nm.toList && x.base == g then [x] else []) := fun g => by
  unfold grp
  rw [List.filter_append]
  congr 1
  rw [List.filter_cons]
  simp
 unfold Q36
 cases hn : x.name.toList == nm.toList with
 | false =>
   refine ⟨h.keys, fun g => ?_⟩
   rw [hg g]
   simp only [hn, Bool.false_and, Bool.false_eq_true, if_false, List.append_nil, cond_false]
   exact h.get g
 | true =>
   simp only [cond_true]
   refine ⟨Qmb (kt := .int .i64) rfl _ _ (List.Nodup.sublist (List.Sublist.map _ List.filter_sublist) h.keys), fun g => ?_⟩
   show mget (.int .i64) g _ = _
   rw [Qsl (kt := .int .i64) rfl g x.base _, Qiw (kt := .int .i64) rfl g x.base, hg g]
   by_cases e : g = x.base
   ·subst e
    rw [if_pos rfl]
    have : (tget x.base T).getD [] = grp P nm x.base := by
     rw [h.get]
     split
     ·rename_i h0; rw [h0]; rfl
     ·rfl
    simp [hn, this]
   ·rw [if_neg e]
    have e' : (x.base == g) = false := by simpa using fun h => e h.symm
    have hh := h.get g
    unfold tget at hh
    simp [hn, e', e, hh]
theorem Qjg (P : List Fnd) (nm : BA) : TblOk P nm (tblF P nm) := by
 have gen : ∀ (Q P : List Fnd) (T : Tbl), TblOk P nm T → TblOk (P ++ Q) nm (Q.foldl (Q36 nm) T) := by
  intro Q
  induction Q with
  | nil => intro P T h; simpa using h
  | cons x Q ih =>
    intro P T h
    have := ih (P ++ [x]) _ (Qt3 h x)
    rw [List.append_assoc] at this
    exact this
 have := gen P [] [] ⟨List.nodup_nil, fun g => rfl⟩
 rwa [List.nil_append] at this
structure PgsOk (P : List Fnd) : Prop where
 len : P.length ≤ 4096
 ok : ∀ x ∈ P, x.Ok
 keys : (P.map Fnd.key).Nodup
theorem Qcd {P : List Fnd} (h : PgsOk P) (nm : BA) (g : Int) : (grp P nm g).length ≤ 4096 := Nat.le_trans (List.length_filter_le _ _) h.len
theorem Qbe {x : Fnd} (h : x.Ok) : IntKind.i64.wrap (x.gen - x.ix) = x.base := by
 have := h.gen
 have := h.ix
 exact wi (by omega) (by omega)
theorem Q1c3 {k : Nat} (hk : 0 < k) {x : Fnd} (h : x.Ok) (K : Int → Oq R) : f139 k x.1 x.gen x.gone x.name x.ix x.last x.raw K = K x.base := by
 rw [Qrs]
 obtain ⟨k, rfl⟩ := Q9 hk
 simp only [f139d, Qbe h]
theorem Q17g {P : List Fnd} (hP : PgsOk P) {nm : BA} {T : Tbl} (h : TblOk P nm T) (g : Int) : ((tget g T).getD []).length ≤ P.length := by
 rw [h.get]
 split
 ·exact Nat.zero_le _
 ·exact List.length_filter_le _ _
abbrev zF : Fnd := (0, ((0, (false, ((⟨#[]⟩ : BA), (0, (false, (([] : LI), ())))))), ()))
theorem Q3g {l : List Fnd} {i : Nat} (h : i < l.length) : l.getD i zF = l[i] := by rw [List.getD_eq_getElem?_getD, List.getElem?_eq_getElem h]; rfl
theorem Q146 (k : Nat) (hk : 0 < k) (x0 : Tbl → Oq R) (nm : BA) (P : List Fnd) (hP : PgsOk P) : ∀ (d f i : Nat) (T : Tbl), i + d = P.length → d < f → TblOk (P.take i) nm T →
  Q4z k x0 nm P (P.length : Int) f (i : Int) T = x0 ((P.drop i).foldl (Q36 nm) T)
 | d, 0, i, _, _, h, _ => absurd h (Nat.not_lt_zero _)
 | 0, f + 1, i, T, hi, _, _ => by
   have h1 : decide ((i : Int) < (P.length : Int)) = false := dF (by omega)
   simp only [Q4z, Qnw, h1, cond_false]
   rw [List.drop_of_length_le (by omega)]
   rfl
 | d + 1, f + 1, i, T, hi, hf, hT => by
   have hlen := hP.len
   have h1 : decide ((i : Int) < (P.length : Int)) = true := dT (by omega)
   have h0 : decide ((0 : Int) ≤ (i : Int)) = true := by simp
   have hw : IntKind.i64.wrap ((i : Int) + 1) = ((i + 1 : Nat) : Int) := wj (by omega)
   have hil : i < P.length := by omega
   have hx := hP.ok P[i] (List.getElem_mem hil)
   have hPt : PgsOk (P.take i) := ⟨by rw [List.length_take]; omega, fun x hx => hP.ok x (List.mem_of_mem_take hx), List.Nodup.sublist (List.Sublist.map _ (List.take_sublist _ _)) hP.keys⟩
   have hd : ∀ y : Fnd, decide (((tget P[i].base T).getD []).length + ([y] : List Fnd).length ≤ LIM 80) = true := fun y => by
    have := Q17g hPt hT P[i].base
    rw [List.length_take] at this
    rw [LIM80, decide_eq_true_eq]; simp; omega
   have ih := Q146 k hk x0 nm P hP d f (i + 1) (Q36 nm T P[i]) (by omega) (by omega) (by
    rw [List.take_succ_eq_append_getElem hil]; exact Qt3 hT _)
   rw [List.drop_eq_getElem_cons hil, List.foldl_cons, ← ih]
   simp only [Q4z, Qnw, h1, h0, cond_true, Bool.and_self, Int.toNat_natCast, hw, Q3g hil]
   rw [Q9u]
   show Q50 k _ (P[i].name.toList == nm.toList) T P[i].1 P[i].gen P[i].gone P[i].name P[i].ix P[i].last P[i].raw = _
   unfold Q36
   cases hn : P[i].name.toList == nm.toList with
   | false => simp only [Q50, cond_false]
   | true =>
     simp only [Q50, cond_true, Q1c3 hk hx]
     have hd' := hd P[i]
     unfold tget at hd'
     rw [show decide (((mget (.int .i64) P[i].base T).getD []).length + ([(P[i].1, ((P[i].gen, (P[i].gone, (P[i].name, (P[i].ix, (P[i].last, (P[i].raw, ())))))), ()))] : List Fnd).length ≤ LIM 80) = true from hd']
     simp only [cond_true, beq_self_eq_true]
     rfl
theorem Qnx {k : Nat} {b p s : Int} {d w x st : LI} {nx : Int} {P : List Fnd} (nm : BA) (hk : P.length + 10 < k) (hP : PgsOk P) (K : Tbl → Oq R) : f116 k b p s d w x st P nx nm K = K (tblF P nm) := by
 rw [Qrc]
 obtain ⟨k, rfl⟩ := Q9 (show 0 < k by omega)
 simp only [f116d, Qek]
 exact Q146 k (by omega) _ nm P hP P.length k 0 [] (by omega) (by omega) ⟨List.nodup_nil, fun g => by simp [tget, mget, grp]⟩
theorem Qcr {α β γ : Type} (f : α → β) (g : α → γ) : ∀ {l : List α}, (l.map f).Nodup → (∀ x ∈ l, ∀ y ∈ l, g x = g y → f x = f y) → (l.map g).Nodup
 | [], _, _ => List.nodup_nil
 | x :: l, h, hi => by
   rw [List.map_cons, List.nodup_cons] at h ⊢
   refine ⟨fun hm => ?_, Qcr f g h.2 fun a ha b hb => hi a (List.mem_cons_of_mem _ ha) b (List.mem_cons_of_mem _ hb)⟩
   obtain ⟨y, hy, e⟩ := List.mem_map.1 hm
   exact h.1 (List.mem_map.2 ⟨y, hy, hi y (List.mem_cons_of_mem _ hy) x (List.mem_cons_self ..) e⟩)
theorem Qg5 {a b : BA} (h : a.toList = b.toList) : a = b := by
 rw [ByteArray.toList_eq, ByteArray.toList_eq] at h
 obtain ⟨⟨a⟩⟩ := a
 obtain ⟨⟨b⟩⟩ := b
 simpa using h
theorem Q2d {a b : BA} : (a.toList == b.toList) = true ↔ a = b := by
 rw [beq_iff_eq]
 exact ⟨Qg5, fun h => by rw [h]⟩
theorem Qit {P : List Fnd} (hP : PgsOk P) (nm : BA) (g : Int) : ((grp P nm g).map keyIx).Nodup := by
 refine Qcr Fnd.key keyIx (List.Nodup.sublist (List.Sublist.map _ List.filter_sublist) hP.keys) fun x hx y hy e => ?_
 have gx := (List.mem_filter.1 hx).2
 have gy := (List.mem_filter.1 hy).2
 rw [Bool.and_eq_true, Q2d, beq_iff_eq] at gx gy
 have e' : x.ix = y.ix := e
 have hb : x.gen - x.ix = y.gen - y.ix := gx.2.trans gy.2.symm
 unfold Fnd.key
 rw [show x.gen = y.gen by omega, gx.1, gy.1]
theorem Q10u {k : Nat} (hk : 0 < k) {l : List Fnd} (h1 : (l.map keyIx).Nodup) (h2 : l.length ≤ 4096) (K : List Fnd → Oq R) : f135 k l K = K (skL keyIx l) := by
 rw [Qrp]
 obtain ⟨k, rfl⟩ := Q9 hk
 have : skOk keyIx l = true := by
  unfold skOk
  rw [Bool.and_eq_true]
  exact ⟨Q6k.2 h1, by rw [decide_eq_true_eq]; omega⟩
 simp only [f135d, this, cond_true]
abbrev Ver := Int × (Int × (Bool × (Bool × Unit)))
def lastsF : Nat → Int → Bool → List Fnd → Int × Bool
 | _, n, e, [] => (n, e)
 | i, n, e, x :: l => bif x.last then lastsF (i + 1) (n + 1) (x.ix == (i : Int)) l else lastsF (i + 1) n e l
def Q3n : List Fnd → Bool
 | [] => false
 | x :: _ => bif x.ix == 0 then x.gone else false
def wholeF (l : List Fnd) : Bool := (lastsF 0 0 false l).2 && ((lastsF 0 0 false l).1 == 1)
def descF (g : Int) (ps : List Fnd) : Ver := (g, ((ps.length : Int), (wholeF (skL keyIx ps), (Q3n (skL keyIx ps), ()))))
theorem Qbl (k : Nat) (x0 : Int → Bool → Oq R) (l : List Fnd) (hl : l.length ≤ 4096) (y1 y2 y5 y6 : Int) (y3 y4 y7 : Bool) : ∀ (d f i : Nat) (n : Int) (e : Bool), i + d = l.length → d < f → 0 ≤ n → n ≤ i →
  Q51 k x0 (l.length : Int) l y1 y2 y3 y4 y5 y6 y7 f n (i : Int) e = x0 (lastsF i n e (l.drop i)).1 (lastsF i n e (l.drop i)).2
 | d, 0, i, _, _, _, h, _, _ => absurd h (Nat.not_lt_zero _)
 | 0, f + 1, i, n, e, hi, _, _, _ => by
   have h1 : decide ((i : Int) < (l.length : Int)) = false := dF (by omega)
   simp only [Q51, Qny, h1, cond_false]
   rw [List.drop_of_length_le (by omega)]
   rfl
 | d + 1, f + 1, i, n, e, hi, hf, hn0, hn1 => by
   have h1 : decide ((i : Int) < (l.length : Int)) = true := dT (by omega)
   have h0 : decide ((0 : Int) ≤ (i : Int)) = true := by simp
   have hw : IntKind.i64.wrap ((i : Int) + 1) = ((i + 1 : Nat) : Int) := wj (by omega)
   have hwn : IntKind.i64.wrap (n + 1) = n + 1 := wi (by omega) (by omega)
   have hil : i < l.length := by omega
   simp only [Q51, Qny, h1, h0, cond_true, Bool.and_self, Int.toNat_natCast, hw, Q3g hil]
   rw [Q9v]
   show Q52 k _ n (i : Int) l[i].last e l[i].ix = _
   rw [List.drop_eq_getElem_cons hil]
   simp only [lastsF]
   cases hla : l[i].last with
   | true =>
     simp only [Q52, cond_true, hwn]
     exact Qbl k x0 l hl y1 y2 y5 y6 y3 y4 y7 d f (i + 1) (n + 1) _ (by omega) (by omega) (by omega) (by omega)
   | false =>
     simp only [Q52, cond_false]
     exact Qbl k x0 l hl y1 y2 y5 y6 y3 y4 y7 d f (i + 1) n e (by omega) (by omega) hn0 (by omega)
theorem Q35 {α : Type} (key : α → Int) (l : List α) : (skL key l).length = l.length := (Qk key l).length_eq
theorem Q1by {k : Nat} (g : Int) {ps : List Fnd} (hk : ps.length + 10 < k) (h0 : ps ≠ []) (h1 : (ps.map keyIx).Nodup) (h2 : ps.length ≤ 4096) (K : Int → Int → Bool → Bool → List Fnd → Oq R) :
  f118 k g ps K = K g (ps.length : Int) (descF g ps).2.2.1 (descF g ps).2.2.2.1 (skL keyIx ps) := by
 rw [Qrf]
 obtain ⟨k, rfl⟩ := Q9 (show 0 < k by omega)
 have hlen := Q35 keyIx ps
 have hpos : 0 < ps.length := List.length_pos_iff.2 h0
 obtain ⟨r, hr⟩ : ∃ r : List Fnd, r = skL keyIx ps := ⟨_, rfl⟩
 have hd : descF g ps = (g, ((ps.length : Int), (wholeF r, (Q3n r, ())))) := by unfold descF; rw [hr]
 rw [hd]
 simp only [f118d, Q10u (show 0 < k by omega) h1 h2, ← hr]
 rw [← hr] at hlen
 have d1 : decide (r.length = ps.length) = true := by simpa using hlen
 have d2 : decide (0 < (r.length : Int)) = true := dT (by omega)
 have hl := fun y1 y2 y5 y6 y3 y4 y7 (x0 : Int → Bool → Oq R) => Qbl k x0 r (by omega) y1 y2 y5 y6 y3 y4 y7 r.length k 0 0 false (by omega) (by omega) (Int.le_refl _) (Int.le_refl _)
 simp only [List.drop_zero, Int.natCast_zero] at hl
 simp only [d1, d2, Bool.and_self, cond_true, Qel]
 have hf : Q3n r = bif Fnd.ix (r.getD 0 zF) == 0 then Fnd.gone (r.getD 0 zF) else false := by
  cases r with
  | nil => simp at d2
  | cons x l => rfl
 have hll : (r.length : Int) = (ps.length : Int) := by omega
 have hb : ((((((((r.getD 0 (0, ((0, (false, ((⟨#[]⟩ : BA), (0, (false, (([] : LI), ())))))), ()))).2).1).2).2).2).1 == 0) == true) = (Fnd.ix (r.getD 0 zF) == 0) := by
  rw [beq_true]; rfl
 rw [hb]
 unfold wholeF
 cases hz : Fnd.ix (r.getD 0 zF) == 0 with
 | true =>
   rw [hz, cond_true] at hf
   rw [cond_true, hf]
   refine (hl _ _ _ _ _ _ _ _).trans ?_
   rw [hll]
   cases (lastsF 0 0 false r).2 <;> rfl
 | false =>
   rw [hz, cond_false] at hf
   rw [cond_false, hf]
   refine (hl _ _ _ _ _ _ _ _).trans ?_
   rw [hll]
   cases (lastsF 0 0 false r).2 <;> rfl
theorem Qe0 {m : Nat} {f : Nat → Oq R} {v : Oq R} (h : ∀ i, i ≤ m → f i = v) : allOf m f = v := by
 cases v with
 | some r => exact Q4c.2 h
 | none =>
   cases hc : allOf m f with
   | none => rfl
   | some r => exact absurd (Q4c.1 hc 0 (Nat.zero_le _)) (by rw [h 0 (Nat.zero_le _)]; exact fun h => nomatch h)
def dscE (e : Int × List Fnd) : Ver := descF e.1 e.2
def TOk (T : Tbl) : Prop := ∀ e ∈ T, e.2 ≠ [] ∧ (e.2.map keyIx).Nodup ∧ e.2.length ≤ 4096
theorem Qmz (k : Nat) (hk : 5000 < k) (x0 : List Ver → Oq R) (v : Oq R) : ∀ (d f : Nat) (out : List Ver) (T : Tbl), T.length = d → d < f → TOk T → out.length + T.length ≤ 4096 →
  (∀ o : List Ver, o.Perm (out ++ T.map dscE) → x0 o = v) → Qag k x0 f out T = v
 | d, 0, _, _, _, h, _, _, _ => absurd h (Nat.not_lt_zero _)
 | 0, f + 1, out, T, hT, _, _, _, h => by
   have hT := List.length_eq_zero_iff.1 hT
   subst hT
   simp only [Qag, Q12f]
   refine Qe0 fun i _ => ?_
   simp only [List.isEmpty_nil, Bool.not_true, cond_false]
   exact h _ (by simp)
 | d + 1, f + 1, out, T, hT, hf, hok, hl, h => by
   simp only [Qag, Q12f]
   refine Qe0 fun i _ => ?_
   have e1 : List.isEmpty T = false := by cases T with | nil => simp at hT | cons _ _ => rfl
   obtain ⟨c, rest, hbr⟩ : ∃ c rest, bring i T = c :: rest := by
    have := (Q8u i T).length_eq
    cases hb : bring i T with
    | nil => rw [hb] at this; simp at this; omega
    | cons c rest => exact ⟨c, rest, rfl⟩
   have hp : (c :: rest).Perm T := hbr ▸ Q8u i T
   have hc := hok c (hp.mem_iff.1 (List.mem_cons_self ..))
   have hlr : rest.length + 1 = T.length := by simpa using hp.length_eq
   obtain ⟨g, ps⟩ := c
   simp only [hbr, e1, List.isEmpty_cons, Bool.not_false, cond_true, List.head?_cons, Option.map_some, Option.getD_some, List.tail_cons]
   rw [Q1by g (by have := hc.2.2; omega) hc.1 hc.2.1 hc.2.2]
   have d1 : decide ((skL keyIx ps).length = ps.length) = true := by simpa using Q35 keyIx ps
   have d2 : ∀ y : Ver, decide (out.length + ([y] : List Ver).length ≤ LIM 24) = true := fun y => by rw [LIM24, decide_eq_true_eq]; simp; omega
   simp only [d1, d2, Bool.and_self, cond_true]
   refine Qmz k hk x0 v d f _ rest (by omega) (by omega) (fun e he => hok e (hp.mem_iff.1 (List.mem_cons_of_mem _ he))) (by simp; omega) fun o ho => h o (ho.trans ?_)
   rw [List.append_assoc]
   exact (List.Perm.append_left out (hp.map dscE))
def versF (P : List Fnd) (nm : BA) : List Ver := skL keyGen ((tblF P nm).map dscE)
theorem Q16o {β : Type} {kt : Ty} (hk : keyTy kt = true) {l : List (kt.D × β)} (hn : (l.map (·.1)).Nodup) {e : kt.D × β} (he : e ∈ l) : mget kt e.1 l = some e.2 := by
 obtain ⟨j, hj, rfl⟩ := List.getElem_of_mem he
 exact (Qcp hk hn (j := j) (by rw [List.getElem?_eq_getElem hj])).1
theorem Qt1 {P : List Fnd} {nm : BA} {e : Int × List Fnd} (he : e ∈ tblF P nm) : e.2 = grp P nm e.1 ∧ e.2 ≠ [] := by
 have h := Qjg P nm
 have h1 : tget e.1 (tblF P nm) = some e.2 := Q16o (kt := .int .i64) rfl h.keys he
 rw [h.get] at h1
 split at h1
 ·cases h1
 ·rename_i hne
  simp only [Option.some.injEq] at h1
  exact ⟨h1.symm, h1 ▸ hne⟩
theorem Q17f {P : List Fnd} (hP : PgsOk P) (nm : BA) : TOk (tblF P nm) := fun e he => by
 obtain ⟨h1, h2⟩ := Qt1 he
 rw [h1]
 exact ⟨h1 ▸ h2, Qit hP nm _, Qcd hP nm _⟩
theorem Qp3 (nm : BA) (T : Tbl) (x : Fnd) : (Q36 nm T x).length ≤ T.length + 1 := by
 unfold Q36
 cases x.name.toList == nm.toList with
 | false => exact Nat.le_succ _
 | true =>
   simp only [cond_true, List.length_append, List.length_cons, List.length_nil]
   exact Nat.succ_le_succ (Nat.le_trans (List.length_filter_le _ _) (List.length_filter_le _ _))
theorem Qt2 (P : List Fnd) (nm : BA) : (tblF P nm).length ≤ P.length := by
 have gen : ∀ (P : List Fnd) (T : Tbl), (P.foldl (Q36 nm) T).length ≤ T.length + P.length := by
  intro P
  induction P with
  | nil => intro T; exact Nat.le_refl _
  | cons x P ih =>
    intro T
    have h1 := ih (Q36 nm T x)
    have h2 := Qp3 nm T x
    simp only [List.foldl_cons, List.length_cons]
    omega
 have := gen P []
 simpa [tblF] using this
theorem Q1bz {k : Nat} (hk : 0 < k) {l : List Ver} (h1 : (l.map keyGen).Nodup) (h2 : l.length ≤ 4096) (K : List Ver → Oq R) : f119 k l K = K (skL keyGen l) := by
 rw [Qrg]
 obtain ⟨k, rfl⟩ := Q9 hk
 have : skOk keyGen l = true := by
  unfold skOk
  rw [Bool.and_eq_true]
  exact ⟨Q6k.2 h1, by rw [decide_eq_true_eq]; omega⟩
 simp only [f119d, this, cond_true]
theorem Qqv (P : List Fnd) (nm : BA) : (((tblF P nm).map dscE).map keyGen).Nodup := by
 rw [List.map_map]
 refine Qcr (f := fun e : Int × List Fnd => e.1) (g := keyGen ∘ dscE) (Qjg P nm).keys fun x hx y hy e => ?_
 have e' : -x.1 = -y.1 := e
 exact Int.neg_inj.1 e'
theorem Q1g7 {k : Nat} {b p s : Int} {d w x st : LI} {nx : Int} {P : List Fnd} (nm : BA) (hk : 6000 < k) (hP : PgsOk P) (K : List Ver → Oq R) : f70 k b p s d w x st P nx nm K = K (versF P nm) := by
 rw [Q12g]
 obtain ⟨k, rfl⟩ := Q9 (show 0 < k by omega)
 have hlen := hP.len
 have hT := Qt2 P nm
 simp only [f70d, Qnx nm (show P.length + 10 < k by omega) hP, Ql2]
 refine Qmz k (by omega) _ _ (tblF P nm).length k [] (tblF P nm) rfl (by omega) (Q17f hP nm) (by simp; omega) fun o ho => ?_
 rw [List.nil_append] at ho
 have hol : o.length ≤ 4096 := by rw [ho.length_eq, List.length_map]; omega
 have hk1 := (ho.map keyGen).nodup_iff.2 (Qqv P nm)
 have e : skL keyGen o = versF P nm := by
  unfold versF
  exact Q3i keyGen ((Qk keyGen o).trans (ho.trans (Qk keyGen _).symm)) (((Qk keyGen o).map keyGen).nodup_iff.2 hk1) (Q5t keyGen o) (Q5t keyGen _)
 rw [Q1bz (show 0 < k by omega) hk1 hol]
 have d1 : decide ((skL keyGen o).length = o.length) = true := by simpa using Q35 keyGen o
 rw [e] at d1
 simp only [e, d1, Bool.and_self, cond_true]
abbrev zV : Ver := (0, (0, (false, (false, ()))))
def Ver.whole (v : Ver) : Bool := v.2.2.1
def Ver.gone (v : Ver) : Bool := v.2.2.2.1
theorem Qiq {l : List Ver} {i : Nat} (h : i < l.length) : l.getD i zV = l[i] := by rw [List.getD_eq_getElem?_getD, List.getElem?_eq_getElem h]; rfl
def Q95 (P : List Fnd) (nm : BA) (g : Int) : List Fnd := (tget g (tblF P nm)).getD []
theorem Q3p (P : List Fnd) (nm : BA) (g : Int) : Q95 P nm g = grp P nm g := by
 unfold Q95
 rw [(Qjg P nm).get]
 split
 ·rename_i h; rw [h]; rfl
 ·rfl
def newK (P : List Fnd) (nm : BA) (K : Int → Int → Bool → Bool → Bool → List Fnd → Oq R) : Option Ver → Oq R
 | none => K 0 0 false false false []
 | some v => K v.1 v.2.1 v.2.2.1 v.2.2.2.1 true (skL keyIx (Q95 P nm v.1))
theorem Qso (k : Nat) (hk : 5000 < k) {b p s nx y1 y2 : Int} {y3 y4 : Bool} {d w x st : LI} {P : List Fnd} (nm : BA) (hP : PgsOk P) (V : List Ver) (hV : V.length ≤ 4096) (K : Int → Int → Bool → Bool → Bool → List Fnd → Oq R) :
  ∀ (m f i : Nat), i + m = V.length → m < f →
  Q4s k K (K 0 0 false false false []) nm (V.length : Int) b p s d w x st P nx y1 y2 y3 y4 V f (i : Int) = newK P nm K ((V.drop i).find? Ver.whole)
 | m, 0, i, _, h => absurd h (Nat.not_lt_zero _)
 | 0, f + 1, i, hi, _ => by
   have h1 : decide ((i : Int) < (V.length : Int)) = false := dF (by omega)
   simp only [Q4s, Qnq, h1, cond_false]
   rw [List.drop_of_length_le (by omega)]
   rfl
 | m + 1, f + 1, i, hi, hf => by
   have hlen := hP.len
   have h1 : decide ((i : Int) < (V.length : Int)) = true := dT (by omega)
   have h0 : decide ((0 : Int) ≤ (i : Int)) = true := by simp
   have hw : IntKind.i64.wrap ((i : Int) + 1) = ((i + 1 : Nat) : Int) := wj (by omega)
   have hil : i < V.length := by omega
   simp only [Q4s, Qnq, h1, h0, cond_true, Bool.and_self, Int.toNat_natCast, hw, Qiq hil]
   rw [List.drop_eq_getElem_cons hil, List.find?_cons]
   have ew : V[i].2.2.1 = Ver.whole V[i] := rfl
   rw [ew]
   cases hwh : Ver.whole V[i] with
   | true =>
     simp only [cond_true]
     rw [Qnx nm (by omega) hP]
     have hg : (mget (.int .i64) V[i].1 (tblF P nm)).getD [] = grp P nm V[i].1 := Q3p P nm V[i].1
     rw [hg, Q10u (by omega) (Qit hP nm _) (Qcd hP nm _)]
     have d1 : decide ((skL keyIx (grp P nm V[i].1)).length = (grp P nm V[i].1).length) = true := by simpa using Q35 keyIx _
     simp only [d1, Bool.and_self, cond_true, newK, Q3p, ew, hwh]
   | false =>
     simp only [cond_false]
     exact Qso k hk nm hP V hV K m f (i + 1) (by omega) (by omega)
def newV (P : List Fnd) (nm : BA) : Option Ver := (versF P nm).find? Ver.whole
theorem Qmx {P : List Fnd} (hP : PgsOk P) (nm : BA) : (versF P nm).length ≤ 4096 := by
 have := hP.len
 have := Qt2 P nm
 unfold versF
 rw [Q35, List.length_map]; omega
theorem Q1bu {k : Nat} {b p s : Int} {d w x st : LI} {nx : Int} {P : List Fnd} (nm : BA) (hk : 7000 < k) (hP : PgsOk P) (K : Int → Int → Bool → Bool → Bool → List Fnd → Oq R) : f107 k b p s d w x st P nx nm K = newK P nm K (newV P nm) := by
 rw [Qr3]
 obtain ⟨k, rfl⟩ := Q9 (show 0 < k by omega)
 have := Qmx hP nm
 simp only [f107d, Q1g7 nm (show 6000 < k by omega) hP, Qed]
 exact Qso k (by omega) nm hP (versF P nm) this K (versF P nm).length k 0 (by omega) (by omega)
end
end Go.Proofs.YtecnlienmpdlaaaGreat.PM
