import Derived.Test.YtecnlienmpdlaaaGreatPmD
import Derived.LoopN
import Derived.Tactics
set_option linter.unusedSimpArgs false
set_option linter.unusedVariables false
namespace Go.Proofs.YtecnlienmpdlaaaGreat.PM
open Go
section
variable {P : Program} {C : Ctx} {nt : Nat} {T : TT} {modes : Nat → List Mode} {R : Type} {callK : Nat → List PV → List RowS → (List PV → List RowS → Oq R) → Oq R} {ops : Array Oper} {fps : List Foot} {rid : Nat}
theorem Q138 {a : Act} {s : Nat} (h : s < a.tmps.size) : a.tmps[s]? = some (a.tmps.getD s undef) := by
 simp [Array.getD_eq_getD_getElem?, h]
theorem Q8t {B : Nat} {G : Nat → Prop} {pl : Pl} {st : St} {a : Act} {w : World} (Rl : Rel B G pl st a w) {o : Oper} {b : Bool} (h : askPM ops o st = some b) : Region.wanted o (yielded ops a.tmps) = b := by
 unfold askPM at h
 split at h
 ·rename_i hg
  cases h
  simp [Region.wanted, hg]
 ·rename_i j want hg
  split at h
  ·rename_i d hd
   split at h
   ·rename_i x he
    obtain ⟨e1, e2, e3⟩ := Rl.env d _ he
    have hb := isBool (e3 rfl)
    have hyb : yielded ops a.tmps j = some x := by
     have := Q138 e1
     rw [hb] at this
     simp [yielded, hd, this]
    cases h
    simp [Region.wanted, hg, hyb]
   ·rename_i he
    obtain ⟨e1, e2, e3⟩ := Rl.env d _ he
    have hb : a.tmps.getD d undef = undef := e3 rfl
    have hyb : yielded ops a.tmps j = none := by
     have := Q138 e1
     rw [hb] at this
     simp [yielded, hd, this, undef]
    cases h
    simp [Region.wanted, hg, hyb]
   ·cases h
  ·cases h
open Classical in
theorem Qoj (hT : TTok P T) (hC : C.Ok) (hcall : ∀ g ws rs K r, callK g ws rs K = some r → Q1o P g ∧ Good P g ws rs (fun res rout => K res rout = some r)) (r : R)
  {i : Nat} {st : St} (hdet : Det callK) (h : Ok1 T modes nt callK ops fps rid i st) {pl : Pl} {a : Act} {w : World} (I : Inv C nt pl st a w) {Q : Exit → Act → World → Prop} {next : Act → World → Prop}
  (hK : ∀ st', Goes1 T modes nt callK ops fps rid i st st' → ∀ pl' a' w', Inv C nt pl' st' a' w' → next a' w') : wpOp P ops Q i next a w := by
 cases h with
 | run o K0 r0 ho ha hp hd hl =>
   unfold wpOp
   rw [ho]
   simp only
   rw [if_pos (Q8t I.rel ha)]
   obtain ⟨hC', I'⟩ := Q1bl (fp := footAt fps i) (key := keyAt rid i) (ops := ops) (o := o) hC I
   refine .inl (Q8x (K := fun s => if Mem (fun K : St → Oq R => doOp T modes nt callK (keyAt rid i) o (cutSt ops (footAt fps i) (keyAt rid i) o st) K) s then some r else none) (r := r) hT hC' hcall I' (by unfold keyAt; omega)
    ((Q7w hdet _ _ _).all _ _ hd _ _ fun y hy => if_pos hy) fun σ' pl' u w' h1 h2 h3 => ?_)
   have hm : Mem (fun K : St → Oq R => doOp T modes nt callK (keyAt rid i) o (cutSt ops (footAt fps i) (keyAt rid i) o st) K) σ' := by
    by_cases e : Mem (fun K : St → Oq R => doOp T modes nt callK (keyAt rid i) o (cutSt ops (footAt fps i) (keyAt rid i) o st) K) σ'
    ·exact e
    ·rw [if_neg e] at h1; cases h1
   exact hK _ (.run o σ' ho ha hp hm (hl σ' hm)) _ _ _ (Q161 hC I h2 h3 (hl σ' hm))
 | addr o v ho ha hp =>
   unfold wpOp
   rw [ho]
   simp only
   rw [if_pos (Q8t I.rel ha)]
   have hlk : ∀ x v, Q34 st x = some v → look st x = some v := by
    intro x v hx
    cases x with
    | tmp t =>
      simp only [Q34] at hx
      split at hx
      ·rename_i r off he; cases hx; simp [look, he, okPV]
      ·rename_i r i off he; cases hx; simp [look, he, okPV]
      ·cases hx
    | _ => cases hx
   have hlm : ∀ x v, Q3b st x = some v → look st x = some v := by
    intro x v hx
    cases x with
    | tmp t =>
      simp only [Q3b] at hx
      split at hx
      ·rename_i r off he; cases hx; simp [look, he, okPV]
      ·rename_i r i off he; cases hx; simp [look, he, okPV]
      ·rename_i r he; cases hx; simp [look, he, okPV]
      ·cases hx
    | _ => cases hx
   have still : Still P pl st.rows a w o ⟨true, some v, []⟩ := by
    unfold ptrOp at hp
    split at hp
    ·rename_i x hop
     exact Qiz (T := T) (key := 1) I.rel (.inl hop) (by simp only [hop, opOut, hlm _ _ hp]; rfl)
    ·rename_i x hop
     exact Qiz (T := T) (key := 1) I.rel (.inr hop) (by simp only [hop, opOut, hlm _ _ hp]; rfl)
    ·rename_i x hop
     refine Qcu (T := T) (key := 1) I.rel hop ?_
     have hv := hlk _ _ hp
     have ha : isAddr st.rows v = true := by
      cases x with
      | tmp t =>
        simp only [Q34] at hp
        split at hp
        ·cases hp; rfl
        ·cases hp; rfl
        ·cases hp
      | _ => cases hp
     simp only [hop, opOut, hv, ha, if_true]; rfl
    ·rename_i s x f hop
     split at hp
     ·rename_i out hout
      have h2 : opOut T 1 o.op (look st) st.rows = some out := by
       rw [hop]
       simp only [opOut] at hout ⊢
       cases hq : Q34 st x with
       | none => rw [hq] at hout; split at hout <;> simp_all
       | some y => rw [hq] at hout; rw [hlk _ _ hq]; exact hout
      have := Qan (key := 1) hT I.rel hop h2
      obtain ⟨e1, v', e2, e3⟩ := this
      rw [hp] at e2
      cases e2
      exact ⟨rfl, v, rfl, e3⟩
     ·cases hp
    ·cases hp
   obtain ⟨pl', w', u, hrun, S, q, Rl⟩ := still.goes I.rel I.nt
   have I' := I.next S q Rl (by rw [Q1p]; exact I.nt)
   refine .inl ?_
   have := hK _ (.addr o v ho ha hp) _ _ _ I'
   unfold Oper.wp
   rcases hrun with hrun | ⟨rfl, hrun⟩
   ·rw [hrun]; exact this
   ·rw [hrun]; exact this
 | skip o ho ha =>
   unfold wpOp
   rw [ho]
   simp only
   rw [Q8t I.rel ha]
   simp only [Bool.false_eq_true, if_false]
   have R' := I.rel.putUnd I.nt o.dst
   exact hK _ (.skip o ho ha) _ _ _ ⟨R', I.z, I.l, by rw [Q1p]; exact I.nt, I.size, I.quiet, I.keep, I.blk, I.given⟩
theorem Q1cx (hdet : Det callK) {i : Nat} {st : St} (h : Ok1 T modes nt callK ops fps rid i st) : ∃ st', Goes1 T modes nt callK ops fps rid i st st' := by
 cases h with
 | run o K r ho ha hp hd hl =>
   obtain ⟨y, hy⟩ := (Q7w hdet _ _ _).has _ _ hd
   exact ⟨_, .run o y ho ha hp hy (hl y hy)⟩
 | addr o v ho ha hp => exact ⟨_, .addr o v ho ha hp⟩
 | skip o ho ha => exact ⟨_, .skip o ho ha⟩
theorem Qti (hdet : Det callK) {i : Nat} {Q : St → Prop} : ∀ {todo : List Nat} {st : St}, AllL T modes nt callK ops fps rid todo st Q → i ∈ todo → todo.Pairwise (· < ·) → (∀ j ∈ todo, j < i → Q2e ops fps rid j i = true) →
  Ok1 T modes nt callK ops fps rid i st ∧ ∀ st1, Goes1 T modes nt callK ops fps rid i st st1 → AllL T modes nt callK ops fps rid (todo.erase i) st1 Q := by
 intro todo
 induction todo with
 | nil => intro st h hi; cases hi
 | cons j l ih =>
   intro st h hi hp ha
   rw [List.pairwise_cons] at hp
   obtain ⟨h1, h2⟩ := h
   by_cases e : j = i
   ·subst e
    rw [List.erase_cons_head]
    exact ⟨h1, h2⟩
   ·have hil : i ∈ l := by
     rcases List.mem_cons.1 hi with h | h
     ·exact absurd h.symm e
     ·exact h
    have hap := ha j List.mem_cons_self (hp.1 i hil)
    have hrec := fun s1 (g : Goes1 T modes nt callK ops fps rid j st s1) => ih (h2 s1 g) hil hp.2 fun x hx hlt => ha x (List.mem_cons_of_mem _ hx) hlt
    obtain ⟨s0, g0⟩ := Q1cx hdet h1
    refine ⟨(Q147 hap g0).1 (hrec s0 g0).1, fun st1 g1 => ?_⟩
    rw [List.erase_cons_tail (by simpa using e)]
    refine ⟨(Q147 (Qe1 hap) g1).2 h1, fun s2 g2 => ?_⟩
    obtain ⟨s1, f1, f2⟩ := Q13a (Qe1 hap) g1 g2
    exact (hrec s1 f1).2 s2 f2
theorem Qat (ops : Array Oper) : ∀ n, (ancs ops n).length = n
 | 0 => rfl
 | n + 1 => by simp [ancs, Qat ops n]
theorem Qpl {i : Nat} : ∀ {n : Nat}, i < n → (ancs ops n).getD i [] = match ops[i]? with
  | some o => depsOf o ++ (depsOf o).flatMap fun e => (ancs ops i).getD e []
  | none => []
 | n + 1, h => by
   simp only [ancs]
   by_cases h1 : i < n
   ·rw [List.getD_eq_getElem?_getD, List.getElem?_append_left (by rw [Qat]; exact h1), ← List.getD_eq_getElem?_getD]
    exact Qpl h1
   ·have : i = n := by omega
    subst this
    rw [List.getD_eq_getElem?_getD, List.getElem?_append_right (by rw [Qat]; exact Nat.le_refl _), Qat]
    simp only [Nat.sub_self, List.getElem?_cons_zero, Option.getD_some]
    rfl
structure Listed (ops : Array Oper) (todo : List Nat) (listed : Array Bool) : Prop where
 size : listed.size = ops.size
 sorted : todo.Pairwise (· < ·)
 mem : ∀ x : Nat, x ∈ todo ↔ x < ops.size ∧ listed[x]? = some false
 down : ∀ (x : Nat) (o : Oper), ops[x]? = some o → listed[x]? = some true → ∀ e ∈ depsOf o, listed[e]? = some true
theorem Qd0 {listed : Array Bool} {i : Nat} (hs : listed.size = ops.size) : i ∈ Region.ready .any ops listed ↔ ∃ o, ops[i]? = some o ∧ listed[i]? = some false ∧ ∀ e ∈ depsOf o, listed[e]? = some true := by
 unfold Region.ready
 rw [List.mem_filter, List.mem_range]
 constructor
 ·rintro ⟨h1, h2⟩
  have ho : ops[i]? = some ops[i] := by simp [h1]
  rw [ho] at h2
  simp only [Option.map_some, Option.getD_some, Bool.and_eq_true, Bool.not_eq_true'] at h2
  refine ⟨_, ho, ?_, fun e he => ?_⟩
  ·have : i < listed.size := by omega
   have h3 := h2.1
   rw [Array.getD_eq_getD_getElem?] at h3
   cases hx : listed[i]? with
   | none => rw [hx] at h3; cases h3
   | some b => rw [hx] at h3; simp at h3; rw [h3]
  ·simp only [depsOf, List.mem_map, List.mem_filter] at he
   obtain ⟨x, ⟨hx1, hx2⟩, rfl⟩ := he
   have h4 := h2.2
   rw [Array.all_eq_true_iff_forall_mem] at h4
   have h5 := h4 x (by simpa using hx1)
   rw [hx2] at h5
   simp only [Bool.not_true, Bool.false_or] at h5
   rw [Array.getD_eq_getD_getElem?] at h5
   cases hy : listed[x.on]? with
   | none => rw [hy] at h5; cases h5
   | some b => rw [hy] at h5; simp at h5; rw [h5]
 ·rintro ⟨o, ho, h1, h2⟩
  have hi : i < ops.size := (Array.getElem?_eq_some_iff.1 ho).1
  refine ⟨hi, ?_⟩
  rw [ho]
  simp only [Option.map_some, Option.getD_some, Bool.and_eq_true, Bool.not_eq_true']
  refine ⟨by rw [Array.getD_eq_getD_getElem?, h1]; rfl, ?_⟩
  rw [Array.all_eq_true_iff_forall_mem]
  intro e he
  cases hb : Region.binds .any e with
  | false => simp
  | true =>
    simp only [Bool.not_true, Bool.false_or]
    rw [Array.getD_eq_getD_getElem?, h2 e.on (by simp only [depsOf, List.mem_map, List.mem_filter]; exact ⟨e, ⟨by simpa using he, hb⟩, rfl⟩)]
    rfl
theorem Qbb {todo : List Nat} {listed : Array Bool} (L : Listed ops todo listed) (hlt : ∀ (j : Nat) (o : Oper), ops[j]? = some o → ∀ e ∈ depsOf o, e < j) : ∀ (n i : Nat), i < n → ∀ (m : Nat), i < m → (∀ o : Oper, ops[i]? = some o → ∀ e ∈ depsOf o, listed[e]? = some true) → ∀ x ∈ (ancs ops m).getD i [], listed[x]? = some true
 | n + 1, i, hi, m, hm, hd, x, hx => by
   rw [Qpl hm] at hx
   cases ho : ops[i]? with
   | none => rw [ho] at hx; cases hx
   | some o =>
     rw [ho] at hx
     simp only at hx
     rcases List.mem_append.1 hx with hx | hx
     ·exact hd o ho x hx
     ·obtain ⟨e, he, hx⟩ := List.mem_flatMap.1 hx
      have hei := hlt i o ho e he
      exact Qbb L hlt n e (by omega) i hei (fun o' ho' e' he' => L.down e o' ho' (hd o ho e he) e' he') x hx
theorem Qng (h : drawOk ops fps rid = true) : (∀ (j : Nat) (o : Oper), ops[j]? = some o → ∀ e ∈ depsOf o, e < j) ∧ ∀ j, j < ops.size → ∀ i, i < j → i ∈ (ancs ops ops.size).getD j [] ∨ Q2e ops fps rid i j = true := by
 unfold drawOk at h
 rw [List.all_eq_true] at h
 refine ⟨fun j o ho e he => ?_, fun j hj i hi => ?_⟩
 ·have := h j (List.mem_range.2 (Array.getElem?_eq_some_iff.1 ho).1)
  rw [Bool.and_eq_true, ho] at this
  have h1 := List.all_eq_true.1 this.1 e he
  simpa using h1
 ·have := h j (List.mem_range.2 hj)
  rw [Bool.and_eq_true] at this
  have h1 := List.all_eq_true.1 this.2 i (List.mem_range.2 hi)
  rw [Bool.or_eq_true] at h1
  rcases h1 with h1 | h1
  ·obtain ⟨x, hx, e⟩ := List.any_eq_true.1 h1
   rw [beq_iff_eq] at e
   exact .inl (e ▸ hx)
  ·exact .inr h1
theorem Q15x (hT : TTok P T) (hC : C.Ok) (hcall : ∀ g ws rs K r, callK g ws rs K = some r → Q1o P g ∧ Good P g ws rs (fun res rout => K res rout = some r)) (r : R) (hok : drawOk ops fps rid = true) {Q : Exit → Act → World → Prop} (hdet : Det callK) {Φ : St → Prop}
  (hQ : ∀ stn pl' a' w', Φ stn → Inv C nt pl' stn a' w' → Q .normal a' w') : ∀ (fuel : Nat) (todo : List Nat) (listed : Array Bool) {pl : Pl} {st : St} {a : Act} {w : World}, Listed ops todo listed → todo.length ≤ fuel → Inv C nt pl st a w → AllL T modes nt callK ops fps rid todo st Φ →
   wpAny P .any ops Q fuel listed a w := by
 obtain ⟨hlt, hap⟩ := Qng hok
 have empty : ∀ {todo : List Nat} {listed : Array Bool}, Listed ops todo listed → Region.ready .any ops listed = [] → todo = [] := by
  intro todo listed L hr
  cases todo with
  | nil => rfl
  | cons x l =>
    exfalso
    have hp := L.sorted
    rw [List.pairwise_cons] at hp
    obtain ⟨hx, hf⟩ := (L.mem x).1 List.mem_cons_self
    have : x ∈ Region.ready .any ops listed := (Qd0 L.size).2 ⟨ops[x], by simp [hx], hf, fun e he => by
     have hex := hlt x _ (show ops[x]? = some ops[x] by simp [hx]) e he
     have hes : e < listed.size := by have := L.size; omega
     cases hb : listed[e] with
     | true => simp [hes, hb]
     | false =>
       exfalso
       have := (L.mem e).2 ⟨by omega, by simp [hes, hb]⟩
       rcases List.mem_cons.1 this with h | h
       ·omega
       ·have := hp.1 e h; omega⟩
    rw [hr] at this
    cases this
 intro fuel
 induction fuel with
 | zero =>
   intro todo listed pl st a w L hl I hg
   have ht : todo = [] := List.length_eq_zero_iff.1 (by omega)
   subst ht
   refine ⟨?_, ?_⟩
   ·rw [List.eq_nil_iff_forall_not_mem]
    intro i hi
    obtain ⟨o, ho, h1, _⟩ := (Qd0 L.size).1 hi
    have := (L.mem i).2 ⟨(Array.getElem?_eq_some_iff.1 ho).1, h1⟩
    cases this
   ·exact hQ _ _ _ _ hg I
 | succ fuel ih =>
   intro todo listed pl st a w L hl I hg
   refine ⟨fun hr => ?_, fun i hi => ?_⟩
   ·have ht := empty L hr
    subst ht
    exact hQ _ _ _ _ hg I
   ·obtain ⟨o, ho, h1, h2⟩ := (Qd0 L.size).1 hi
    have hsz := (Array.getElem?_eq_some_iff.1 ho).1
    have hit := (L.mem i).2 ⟨hsz, h1⟩
    have hanc := Qbb L hlt (i + 1) i (by omega) ops.size hsz (fun o' ho' => by rw [ho] at ho'; cases ho'; exact h2)
    obtain ⟨g1, g2⟩ := Qti hdet hg hit L.sorted fun j hj hji => by
     rcases hap i hsz j hji with h | h
     ·have := hanc j h
      have hf := ((L.mem j).1 hj).2
      rw [this] at hf; cases hf
     ·exact h
    refine Qoj hT hC hcall r hdet g1 I fun st1 hg1 pl' a' w' I' => ?_
    have hil : i < listed.size := by have := L.size; omega
    refine ih (todo.erase i) (listed.setIfInBounds i true) ⟨by simp [L.size], L.sorted.sublist (List.erase_sublist ..), fun x => ?_, fun x o' ho' hx e he => ?_⟩ (by rw [List.length_erase_of_mem hit]; omega) I' (g2 st1 hg1)
    ·have nd : todo.Nodup := L.sorted.imp (fun h => Nat.ne_of_lt h)
     rw [nd.mem_erase_iff, L.mem x, Array.getElem?_setIfInBounds]
     constructor
     ·rintro ⟨hne, h3, h4⟩
      exact ⟨h3, by rw [if_neg (Ne.symm hne)]; exact h4⟩
     ·rintro ⟨h3, h4⟩
      by_cases e : i = x
      ·subst e; rw [if_pos rfl] at h4; simp [hil] at h4
      ·rw [if_neg e] at h4; exact ⟨Ne.symm e, h3, h4⟩
    ·have keep : ∀ y : Nat, listed[y]? = some true → (listed.setIfInBounds i true)[y]? = some true := by
      intro y hy
      rw [Array.getElem?_setIfInBounds]
      split
      ·rename_i e; subst e; simp [hil]
      ·exact hy
     rw [Array.getElem?_setIfInBounds] at hx
     by_cases e' : i = x
     ·subst e'
      rw [ho] at ho'
      cases ho'
      exact keep e (h2 e he)
     ·rw [if_neg e'] at hx
      exact keep e (L.down x o' ho' hx e he)
theorem Q13j {pl : Pl} {st : St} {a : Act} {w w' : World} (I : Inv C nt pl st a w) (hh : w'.heap = w.heap) (q : Quiet w w') : Inv C nt pl st a w' := by
 have S : Step w pl st.rows w' pl st.rows :=
  ⟨rfl, rfl, by rw [hh]; exact Nat.le_refl _, fun r s hr => ⟨s, hr, Kin.refl s, fun _ => rfl⟩, fun _ _ _ _ _ => rfl, fun r s' h1 h2 b o h3 => .inl ⟨s', o, h1, h2, h3⟩, fun b _ _ => by rw [hh], fun b arr T fr h => ⟨arr, T, fr, by rw [hh]; exact h, rfl⟩, I.rel.zero⟩
 have R' : Rel C.B C.G pl ⟨st.env, st.rows⟩ a w' := I.rel.stepM S I.rel.defers (fun s v h => .inl ⟨h, (I.rel.env s v h).1, rfl⟩) (fun r s' h1 h2 => absurd h1 h2) I.rel.zero
  (fun r s b o h1 k1 h2 => .inl ⟨s, o, h1, k1, h2⟩)
 exact I.next S q R' I.nt
theorem Qte (hm : P.follows .mixedOrders = true) (hT : TTok P T) (hC : C.Ok) (hcall : ∀ g ws rs K r, callK g ws rs K = some r → Q1o P g ∧ Good P g ws rs (fun res rout => K res rout = some r)) (hdet : Det callK) {id : Nat} (hok : drawOk ops fps id = true)
  {pl : Pl} {st : St} {a : Act} {w : World} (I : Inv C nt pl st a w) {K : St → Oq R} {r : R} (h : doDraw T modes nt callK ops fps id (List.range ops.size) st K = some r) {Q : Exit → Act → World → Prop}
  (hK : ∀ σ' pl' a' w', K σ' = some r → Inv C nt pl' σ' a' w' → Q .normal a' w') : (Code.region id ops true).wp P Q a w := by
 have h2 := Qbm h
 refine wp_region_any hm ?_
 have L : Listed ops (List.range ops.size) (Array.replicate ops.size false) := by
  refine ⟨by simp, List.pairwise_lt_range, fun x => ?_, fun x o ho hx => ?_⟩
  ·rw [List.mem_range]
   constructor
   ·intro hx; exact ⟨hx, by simp [hx]⟩
   ·exact fun hx => hx.1
  ·simp [Array.getElem?_replicate] at hx
 have I' : Inv C nt pl st a { w with drawn := w.drawn + 1 } := Q13j I rfl ⟨rfl, rfl, rfl⟩
 exact Q15x (fps := fps) (rid := id) hT hC hcall r hok hdet (fun stn pl' a' w' h1 I' => hK _ _ _ _ h1 I') ops.size (List.range ops.size) _ L (by simp) I' h2
end
inductive Out3 where
 | n (σ : St) | x (j : Nat) (σ : St) | r (σ : St)
noncomputable def sel3 {R : Type} (N : St → Oq R) (X : Nat → St → Oq R) (Rt : St → Oq R) : Out3 → Oq R
 | .n σ => N σ
 | .x j σ => X j σ
 | .r σ => Rt σ
section
variable {T : TT} {an : Ann} {modes : Nat → List Mode} {n k nt : Nat} {R : Type} {callK : Nat → List PV → List RowS → (List PV → List RowS → Oq R) → Oq R}
theorem Rch.cond {A : Type} {F G : (A → Oq R) → Oq R} (c : Bool) (h1 : Rch F) (h2 : Rch G) : Rch fun K => bif c then F K else G K := by
 cases c
 ·exact h2
 ·exact h1
theorem Q4j (hn : Det callK) {ops : Array Oper} {rid : Nat} : ∀ (l : List Oper) (i : Nat) (st : St), Rch fun K => doOps T modes nt callK ops rid i l st K
 | [], i, st => Rch.pure st
 | o :: l, i, st => by
   simp only [doOps]
   split
   ·exact (Q7w hn _ _ _).bind fun s => Q4j hn l (i + 1) s
   ·split
    ·split
     ·exact Rch.cond _ ((Q7w hn _ _ _).bind fun s => Q4j hn l (i + 1) s) (Q4j hn l (i + 1) _)
     ·exact Q4j hn l (i + 1) _
     ·exact Rch.fail
    ·exact Rch.fail
theorem Qnk (hn : Det callK) {ops : Array Oper} (fp : Foot) (key : Nat) (o : Oper) (st : St) : Rch fun K => Q4k T modes nt callK ops fp key o st K := by
 unfold Q4k
 split
 ·exact Rch.pure _
 ·refine (Q7w hn _ _ _).bind (H := fun st' K => if Q5l fp key o (cutSt ops fp key o st) st' then K (joinSt fp key o st st') else none) fun s => ?_
  split
  ·exact Rch.pure _
  ·exact Rch.fail
theorem Qtd (hn : Det callK) {ops : Array Oper} (fp : Foot) (key : Nat) (o : Oper) (st : St) : Rch fun K => drawOp T modes nt callK ops fp key o st K := by
 refine Rch.congr (G := fun K => Qbo T modes nt callK ops fp key o st K) ?_ fun K => Qkc
 unfold Qbo
 split
 ·rename_i b _
  cases b with
  | true => exact Qnk hn _ _ _ _
  | false => exact Rch.pure _
 ·exact Rch.fail
theorem Qe6 (hn : Det callK) {ops : Array Oper} {fps : List Foot} {rid : Nat} : ∀ (l : List Nat) (st : St), Rch fun K => doDraw T modes nt callK ops fps rid l st K
 | [], st => Rch.pure st
 | i :: l, st => by
   simp only [doDraw]
   split
   ·exact (Qtd hn _ _ _ _).bind fun s => Qe6 hn l s
   ·exact Rch.fail
theorem Qw (st : St) (spec : Option (List (Nat × Mode))) (key : Nat) : Rch fun K : St → Oq R => Q1d n st spec key K := by
 unfold Q1d
 split
 ·split
  ·exact Rch.pure _
  ·exact Rch.fail
 ·exact Rch.pure _
noncomputable def to3 (N' : St → Oq R) (K : Out3 → Oq R) : Out3 → Oq R
 | .n σ => N' σ
 | .x j σ => K (.x j σ)
 | .r σ => K (.r σ)
theorem Qsi {rest : St → (St → Oq R) → Oq R} {body : (Out3 → Oq R) → St → Oq R}
  (hrest : ∀ st, Rch fun K => rest st K) (hbody : ∀ st, Rch fun K => body K st) :
  ∀ (m : Nat) (st : St), Rch fun K : Out3 → Oq R => iter rest m (fun s N' => body (to3 N' K) s) st
 | 0, st => Rch.fail
 | m + 1, st => by
   simp only [iter]
   refine (hbody st).bind (H := fun (out : Out3) (K : Out3 → Oq R) => to3 (fun st' => rest st' fun st'' => iter rest m (fun s N' => body (to3 N' K) s) st'') K out) fun out => ?_
   cases out with
   | n σ => exact (hrest σ).bind fun s => Qsi hrest hbody m s
   | x j σ => exact Rch.pure (Out3.x j σ)
   | r σ => exact Rch.pure (Out3.r σ)
theorem Q15y (hn : Det callK) : ∀ (c : Code) (st : St), Rch fun K : Out3 → Oq R => exec T an modes n k nt callK (fun σ => K (.r σ)) c st (fun σ => K (.n σ)) (fun j σ => K (.x j σ)) := by
 intro c
 induction c with
 | skip => intro st; exact Rch.pure (Out3.n st)
 | region id ops draw =>
   intro st
   simp only [exec]
   split
   ·split
    ·split
     ·exact (Qw st _ _).bind fun s => (Qe6 hn _ s).bind fun s' => Rch.pure (Out3.n s')
     ·exact Rch.fail
    ·exact Rch.fail
   ·exact (Qw st _ _).bind fun s => (Q4j hn _ _ s).bind fun s' => Rch.pure (Out3.n s')
 | seq a b iha ihb =>
   intro st
   simp only [exec]
   refine (iha st).bind (H := fun (out : Out3) (K : Out3 → Oq R) => to3 (fun σ => exec T an modes n k nt callK (fun σ => K (.r σ)) b σ (fun σ => K (.n σ)) (fun j σ => K (.x j σ))) K out) fun out => ?_
   cases out with
   | n σ => exact ihb σ
   | x j σ => exact Rch.pure (Out3.x j σ)
   | r σ => exact Rch.pure (Out3.r σ)
 | cond c a b iha ihb =>
   intro st
   simp only [exec]
   refine (Qw st _ _).bind fun s => ?_
   have fi : ∀ out : Out3, Rch fun K : Out3 → Oq R => sel3 (fiN an n a b fun σ => K (.n σ)) (condX an n a b fun j σ => K (.x j σ)) (fun σ => K (.r σ)) out := by
    intro out
    cases out with
    | n σ =>
      simp only [sel3, fiN]
      exact (Qw σ _ _).bind fun s => Rch.pure (Out3.n s)
    | x j σ =>
      simp only [sel3, condX]
      cases findN an.ifs (Q1h a b) with
      | none => exact Rch.pure (Out3.x j σ)
      | some sp => exact (Qw σ _ _).bind fun s => Rch.pure (Out3.x j s)
    | r σ => exact Rch.pure (Out3.r σ)
   split
   ·rename_i p x hc
    cases x with
    | true =>
      simp only [cond_true]
      exact (iha s).bind fi
    | false =>
      simp only [cond_false]
      exact (ihb s).bind fi
   ·exact Rch.fail
 | block id b ih =>
   intro st
   simp only [exec]
   refine (Qw st _ _).bind fun s => ?_
   refine (ih s).bind (H := fun (out : Out3) (K : Out3 → Oq R) => sel3 (leave an n id fun σ => K (.n σ)) (outX an n id (fun σ => K (.n σ)) fun j σ => K (.x j σ)) (fun σ => K (.r σ)) out) fun out => ?_
   cases out with
   | n σ =>
     simp only [sel3, leave]
     exact (Qw σ _ _).bind fun s => Rch.pure (Out3.n s)
   | x j σ =>
     simp only [sel3, outX, leave]
     split
     ·exact (Qw σ _ _).bind fun s => Rch.pure (Out3.n s)
     ·exact (Qw σ _ _).bind fun s => Rch.pure (Out3.x j s)
   | r σ => exact Rch.pure (Out3.r σ)
 | loop b ih =>
   intro st
   simp only [exec]
   exact (Qw st _ _).bind fun s => Qsi (rest := atHead an n b) (body := fun K s => exec T an modes n k nt callK (fun σ => K (.r σ)) b s (fun σ => K (.n σ)) (fun j σ => K (.x j σ))) (fun st => Qw st _ _) ih k s
 | exit id => intro st; exact Rch.pure (Out3.x id st)
 | ret => intro st; exact Rch.pure (Out3.r st)
 | _ => intro st; simp only [exec]; exact Rch.fail
end
theorem Qjq {R : Type} {T : TT} {F : Nat → Option PFn} : ∀ k, Det (callC (R := R) T F k)
 | 0 => fun g ws rs => Rch.fail
 | k + 1 => fun g ws rs => by
   simp only [callC]
   split
   ·rename_i fn an hg
    split
    ·rename_i c hc
     refine (Q15y (T := T) (an := an) (n := rs.length) (k := k) (nt := fn.ntmps) (modes := Q0 F) (Qjq k) c _).bind (H := fun (out : Out3) (K : List PV × List RowS → Oq R) => sel3 (ending T fn an rs.length fun res rout => K (res, rout)) (fun _ _ => none) (ending T fn an rs.length fun res rout => K (res, rout)) out) fun out => ?_
     have he : ∀ σ, Rch fun K : List PV × List RowS → Oq R => ending T fn an rs.length (fun res rout => K (res, rout)) σ := by
      intro σ
      unfold ending
      split
      ·exact Rch.pure _
      ·exact Rch.fail
     cases out with
     | n σ => exact he σ
     | x j σ => exact Rch.fail
     | r σ => exact he σ
    ·exact Rch.fail
   ·split
    ·exact Rch.pure _
    ·exact Rch.fail
   ·exact Rch.fail
section
variable {P : Program} {C : Ctx} {nt : Nat} {T : TT} {modes : Nat → List Mode} {R : Type} {callK : Nat → List PV → List RowS → (List PV → List RowS → Oq R) → Oq R}
theorem Q139 {a : Act} {s : Nat} (h : s < a.tmps.size) : a.tmps[s]? = some (a.tmps.getD s undef) := by
 simp [Array.getD_eq_getD_getElem?, h]
theorem Qft {pl : Pl} {σ : St} {a : Act} {w : World} (I : Inv C nt pl σ a w) {d : Nat} {v : PV} (hd : d < a.tmps.size) (hm : Men σ.rows v) (hv : VR w pl σ.rows v (a.tmps.getD d undef)) :
  Inv C nt pl ⟨upd σ.env d (some v), σ.rows⟩ a w := by
 refine ⟨⟨fun s x hx => ?_, I.rel.rows, I.rel.zero, I.rel.inj, I.rel.own, I.rel.defers⟩, I.z, I.l, I.nt, I.size, I.quiet, I.keep, I.blk, I.given⟩
 simp only [Q8] at hx
 by_cases e : s = d
 ·rw [if_pos e] at hx
  obtain rfl := oi hx
  subst e
  exact ⟨hd, hm, fun _ => hv⟩
 ·rw [if_neg e] at hx
  exact I.rel.env s x hx
theorem Q30 (hT : TTok P T) (hC : C.Ok) (hcall : ∀ g ws rs K r, callK g ws rs K = some r → Q1o P g ∧ Good P g ws rs (fun res rout => K res rout = some r))
  {ops : Array Oper} {rid : Nat} {K : St → Oq R} {r : R} {Q : Exit → Act → World → Prop} (hK : ∀ σ' pl' a' w', K σ' = some r → Inv C nt pl' σ' a' w' → Q .normal a' w') :
  ∀ (l : List Oper) (i : Nat) {pl : Pl} {σ : St} {a : Act} {w : World}, Inv C nt pl σ a w → doOps T modes nt callK ops rid i l σ K = some r → wpList P ops Q l a w
 | [], i, pl, σ, a, w, I, h => hK _ _ _ _ h I
 | o :: l, i, pl, σ, a, w, I, h => by
   have key0 : ((rid + 1) * 2048 + i) * 8 ≠ 0 := by omega
   simp only [doOps] at h
   unfold wpList
   split at h
   ·rename_i hg
    have hw : Region.wanted o (yielded ops a.tmps) = true := by simp [Region.wanted, hg]
    rw [if_pos hw]
    exact .inl (Q8x hT hC hcall I key0 h fun σ' pl' u w' h1 h2 _ => Q30 hT hC hcall hK l (i + 1) h2 h1)
   ·rename_i j want hg
    split at h
    ·rename_i d hd
     split at h
     ·rename_i b he
      obtain ⟨e1, e2, e3⟩ := I.rel.env d _ he
      have hb := isBool (e3 rfl)
      have hyb : yielded ops a.tmps j = some b := by
       have := Q139 e1
       rw [hb] at this
       simp [yielded, hd, this]
      cases hbw : (b == want) with
      | true =>
        rw [hbw] at h
        simp only [cond_true] at h
        have hbw' : b = want := by simpa using hbw
        have hw : Region.wanted o (yielded ops a.tmps) = true := by simp [Region.wanted, hg, hyb, hbw']
        rw [if_pos hw]
        have I' := Qft I e1 (Q2f σ.rows want) (v := mb want) (by rw [hb, hbw']; rfl)
        exact .inl (Q8x hT hC hcall I' key0 h fun σ' pl' u w' h1 h2 _ => Q30 hT hC hcall hK l (i + 1) h2 h1)
      | false =>
        rw [hbw] at h
        simp only [cond_false] at h
        have hbw' : b = !want := by cases b <;> cases want <;> simp at hbw ⊢
        have hw : ¬ Region.wanted o (yielded ops a.tmps) = true := by
         simp only [Region.wanted, hg, hyb]
         cases b <;> cases want <;> simp at hbw' ⊢
        rw [if_neg hw]
        have I' := Qft I e1 (Q2f σ.rows (!want)) (v := mb (!want)) (by rw [hb, hbw']; rfl)
        have R' := I'.rel.putUnd I'.nt o.dst
        exact Q30 hT hC hcall hK l (i + 1) ⟨R', I.z, I.l, by rw [Q1p]; exact I.nt, I.size, I.quiet, I.keep, I.blk, I.given⟩ h
     ·rename_i he
      obtain ⟨e1, e2, e3⟩ := I.rel.env d _ he
      have hb : a.tmps.getD d undef = undef := e3 rfl
      have hyb : yielded ops a.tmps j = none := by
       have := Q139 e1
       rw [hb] at this
       simp [yielded, hd, this, undef]
      have hw : ¬ Region.wanted o (yielded ops a.tmps) = true := by simp [Region.wanted, hg, hyb]
      rw [if_neg hw]
      have R' := I.rel.putUnd I.nt o.dst
      exact Q30 hT hC hcall hK l (i + 1) ⟨R', I.z, I.l, by rw [Q1p]; exact I.nt, I.size, I.quiet, I.keep, I.blk, I.given⟩ h
     ·cases h
    ·cases h
theorem Qp (hC : C.Ok) {spec : Option (List (Nat × Mode))} {key : Nat} (h0 : key ≠ 0) {pl : Pl} {σ : St} {a : Act} {w : World} (I : Inv C nt pl σ a w) {K : St → Oq R} {r : R} (h : Q1d C.n σ spec key K = some r) :
  ∃ σ' pl', K σ' = some r ∧ Inv C nt pl' σ' a w := by
 unfold Q1d at h
 split at h
 ·split at h
  ·rename_i st' hn
   obtain ⟨pl', I'⟩ := Qtr hC I h0 hn
   exact ⟨_, pl', h, I'⟩
  ·cases h
 ·exact ⟨σ, pl, h, I⟩
theorem Qf7 {P : Program} {c : Code} {Q : Exit → Act → World → Prop} {rest : St → (St → Oq R) → Oq R} {body : St → (St → Oq R) → Oq R} {r : R}
  (hrest : ∀ {σ pl a w K}, Inv C nt pl σ a w → rest σ K = some r → ∃ σ' pl', K σ' = some r ∧ Inv C nt pl' σ' a w)
  (hbody : ∀ {σ pl a w N}, Inv C nt pl σ a w → body σ N = some r → ∀ {Q' : Exit → Act → World → Prop}, (∀ σ' pl' a' w', N σ' = some r → Inv C nt pl' σ' a' w' → Q' .normal a' w') → (∀ e a' w', e ≠ .normal → Q e a' w' → Q' e a' w') → c.wp P Q' a w) :
  ∀ (m : Nat) {σ pl a w}, Inv C nt pl σ a w → iter rest m body σ = some r → Code.rounds P c Q m a w
 | 0, σ, pl, a, w, I, h => by cases h
 | m + 1, σ, pl, a, w, I, h => by
   rw [rounds_succ]
   refine hbody I h (fun σ' pl' a' w' hN I' => ?_) (fun e a' w' he hq => ?_)
   ·obtain ⟨σ2, pl2, h2, I2⟩ := hrest I' hN
    exact Qf7 hrest hbody m I2 h2
   ·cases e <;> first | exact absurd rfl he | exact hq
theorem Q6d (hm : P.follows .mixedOrders = true) (hT : TTok P T) (hC : C.Ok) (hdet : Det callK) (hcall : ∀ g ws rs K r, callK g ws rs K = some r → Q1o P g ∧ Good P g ws rs (fun res rout => K res rout = some r)) {an : Ann} {k : Nat} {Rt : St → Oq R} {r : R} :
  ∀ (c : Code) {pl : Pl} {σ : St} {a : Act} {w : World} {N : St → Oq R} {X : Nat → St → Oq R} {Q : Exit → Act → World → Prop}, Inv C nt pl σ a w → exec T an modes C.n k nt callK Rt c σ N X = some r →
    (∀ σ' pl' a' w', N σ' = some r → Inv C nt pl' σ' a' w' → Q .normal a' w') → (∀ j σ' pl' a' w', X j σ' = some r → Inv C nt pl' σ' a' w' → Q (.exit j) a' w') →
    (∀ σ' pl' a' w', Rt σ' = some r → Inv C nt pl' σ' a' w' → Q .ret a' w') → c.wp P Q a w := by
 intro c
 induction c with
 | skip =>
   intro pl σ a w N X Q I h hN hX hR
   exact wp_skip (hN _ _ _ _ h I)
 | region id ops draw =>
   intro pl σ a w N X Q I h hN hX hR
   simp only [exec] at h
   split at h
   ·rename_i hd
    subst hd
    split at h
    ·rename_i fps hf
     split at h
     ·rename_i hok
      obtain ⟨σ1, pl1, h1, I1⟩ := Qp hC (by omega) I h
      exact Qte hm hT hC hcall hdet hok I1 h1 hN
     ·cases h
    ·cases h
   ·rename_i hd
    have hd' : draw = false := by simpa using hd
    subst hd'
    obtain ⟨σ1, pl1, h1, I1⟩ := Qp hC (by omega) I h
    exact wp_region_list (Q30 hT hC hcall hN ops.toList 0 I1 h1)
 | seq x y ihx ihy =>
   intro pl σ a w N X Q I h hN hX hR
   simp only [exec] at h
   refine wp_seq (ihx I h (fun σ' pl' a' w' h1 I1 => ?_) (fun j σ' pl' a' w' h1 I1 => hX j σ' pl' a' w' h1 I1) (fun σ' pl' a' w' h1 I1 => hR σ' pl' a' w' h1 I1))
   exact ihy I1 h1 hN hX hR
 | cond cc x y ihx ihy =>
   intro pl σ a w N X Q I h hN hX hR
   simp only [exec] at h
   obtain ⟨σ0, pl0, h0, I0⟩ := Qp hC (by omega) I h
   have hfi : ∀ σ' pl' a' w', fiN an C.n x y N σ' = some r → Inv C nt pl' σ' a' w' → Q .normal a' w' := by
    intro σ' pl' a' w' h1 I1
    obtain ⟨σ2, pl2, h2, I2⟩ := Qp hC (by omega) I1 h1
    exact hN _ _ _ _ h2 I2
   have hcx : ∀ j σ' pl' a' w', condX an C.n x y X j σ' = some r → Inv C nt pl' σ' a' w' → Q (.exit j) a' w' := by
    intro j σ' pl' a' w' h1 I1
    simp only [condX] at h1
    cases hc : findN an.ifs (Q1h x y) with
    | none =>
      rw [hc] at h1
      exact hX _ _ _ _ _ h1 I1
    | some sp =>
      rw [hc] at h1
      obtain ⟨σ2, pl2, h2, I2⟩ := Qp hC (by omega) I1 h1
      exact hX _ _ _ _ _ h2 I2
   split at h0
   ·rename_i p b hc
    obtain ⟨_, g, _⟩ := I0.rel.look hc
    have hb := isBool g
    refine wp_cond hb ?_
    cases b with
    | true => exact ihx I0 h0 hfi hcx hR
    | false => exact ihy I0 h0 hfi hcx hR
   ·cases h0
 | block id b ih =>
   intro pl σ a w N X Q I h hN hX hR
   simp only [exec] at h
   have hleave : ∀ σ' pl' a' w', leave an C.n id N σ' = some r → Inv C nt pl' σ' a' w' → Q .normal a' w' := by
    intro σ' pl' a' w' h1 I1
    obtain ⟨σ2, pl2, h2, I2⟩ := Qp hC (by omega) I1 h1
    exact hN _ _ _ _ h2 I2
   obtain ⟨σ0, pl0, h0, I0⟩ := Qp hC (by omega) I h
   refine wp_block (ih I0 h0 (fun σ' pl' a' w' h1 I1 => hleave _ _ _ _ h1 I1) (fun j σ' pl' a' w' h1 I1 => ?_) (fun σ' pl' a' w' h1 I1 => hR σ' pl' a' w' h1 I1))
   unfold outX at h1
   by_cases hj : j = id
   ·subst hj
    simp at h1
    simp only [Exit.inBlock, if_true]
    exact hleave _ _ _ _ h1 I1
   ·have : (j == id) = false := by simpa using hj
    rw [this] at h1
    simp only [Exit.inBlock, if_neg hj]
    obtain ⟨σ2, pl2, h2, I2⟩ := Qp hC (by omega) I1 (show Q1d C.n σ' (findN an.blocks j) ((j + 1) * 16384 + 16200) (X j) = some r from h1)
    exact hX _ _ _ _ _ h2 I2
 | loop b ih =>
   intro pl σ a w N X Q I h hN hX hR
   simp only [exec] at h
   unfold atHead at h
   obtain ⟨σ1, pl1, h1, I1⟩ := Qp hC (by omega) I h
   refine wp_loop_rounds k (Qf7 (Q := Q) (fun I' h' => ?_) (fun I' h' Q' hq1 hq2 => ?_) k I1 h1)
   ·exact Qp hC (by omega) I' h'
   ·exact ih I' h' hq1 (fun j σ' pl' a' w' h2 I2 => hq2 _ _ _ (by simp) (hX j σ' pl' a' w' h2 I2)) (fun σ' pl' a' w' h2 I2 => hq2 _ _ _ (by simp) (hR σ' pl' a' w' h2 I2))
 | exit id =>
   intro pl σ a w N X Q I h hN hX hR
   exact wp_exit (hX _ _ _ _ _ h I)
 | ret =>
   intro pl σ a w N X Q I h hN hX hR
   exact wp_ret (hR _ _ _ _ h I)
 | _ =>
   intros
   rename_i h _ _ _
   simp [exec] at h
end
section
variable {P : Program} {T : TT}
theorem Qzx (hT : TTok P T) {B : Nat} {G : Nat → Prop} {pl : Pl} {σ : St} {a : Act} {w : World} (R : Rel B G pl σ a w) {c t r off n : Nat} {x : List PV} {v : PV} (hl : look σ (.tmp c) = some (.ptr r off)) (hr : σ.rows r = some ⟨n, .vars x⟩) (hs : subAt T t x off = some v) :
  ∃ ad u, a.tmps.getD c undef = .pointer (some ad) ∧ (loadVar t ad).run P w = .ok u w ∧ Men σ.rows v ∧ (okPV σ.rows v = true → VR w pl σ.rows v u) := by
 obtain ⟨_, ⟨_, g2⟩, _⟩ := R.look hl
 obtain ⟨b, _, hv⟩ := g2 n x hr
 have hev : a.eval (.tmp c) = .pointer (some ⟨b, off, none⟩) := hv
 obtain ⟨_, v', e1, e2, u, e3, e4⟩ := Q149 (P := P) hT R (o := ⟨none, .load t (.tmp c), 0, "", #[], none⟩) (key := 1) rfl (out := ⟨true, some v, []⟩) (by simp only [opOut, hl, hr, hs]; rfl)
 cases e1
 have e : execOp a.eval ⟨none, .load t (.tmp c), 0, "", #[], none⟩ = (do let v ← Instr.loadAt t (a.eval (.tmp c)); pure (.value v)) := by simp only [execOp]
 refine ⟨_, u, hev, ?_, e2, e4⟩
 have hrun : ∀ q, (execOp a.eval ⟨none, .load t (.tmp c), 0, "", #[], none⟩).run P w = q → ((loadVar t ⟨b, off, none⟩).run P w).andThen (fun v w' => .ok (.value v) w') = q := by
  intro q hq
  rw [e, hev] at hq
  simpa [Instr.loadAt, Instr.sureAddr] using hq
 rcases e3 with e3 | ⟨_, e3⟩
 ·have := hrun _ e3
  cases hq : (loadVar t ⟨b, off, none⟩).run P w with
  | ok y w' => rw [hq] at this; simp only [Result.andThen] at this; cases this; rfl
  | halt y w' => rw [hq] at this; simp only [Result.andThen] at this; cases this
 ·have := hrun _ e3
  cases hq : (loadVar t ⟨b, off, none⟩).run P w with
  | ok y w' => rw [hq] at this; simp only [Result.andThen] at this; cases this
  | halt y w' => rw [hq] at this; simp only [Result.andThen] at this; cases this
theorem Q7f (hT : TTok P T) {B : Nat} {G : Nat → Prop} {pl : Pl} {σ : St} {a : Act} {w : World} (R : Rel B G pl σ a w) : ∀ {l : List ResultVar} {vs : List PV}, resPV T σ l = some vs →
  ∃ us, CRs w pl σ.rows vs us ∧ ∀ f : ResultVar → Sem Value, (∀ t, f (.tmp t) = pure (a.tmps.getD t undef)) → (∀ c t, f (.cell c t) = (do loadVar t (← asAddr (a.tmps.getD c undef)))) → (l.mapM f).run P w = .ok us w
 | [], vs, h => by
   obtain rfl := oi h
   exact ⟨[], rfl, fun f hf _ => by simp⟩
 | .tmp t :: l, vs, h => by
   simp only [resPV] at h
   split at h
   ·rename_i v vs' hv hvs
    obtain rfl := oi h
    obtain ⟨g1, g2, g3⟩ := R.look hv
    obtain ⟨us, e1, e2⟩ := Q7f hT R hvs
    refine ⟨a.tmps.getD t undef :: us, ⟨_, _, rfl, ⟨g1, fun _ => g2⟩, e1⟩, fun f hf hc => ?_⟩
    rw [List.mapM_cons, hf]
    simp only [Sem.run_bind, Sem.run_pure, Result.andThen, e2 f hf hc]
   ·cases h
 | .cell c t :: l, vs, h => by
   simp only [resPV] at h
   split at h
   ·rename_i r off hl
    split at h
    ·rename_i n x hr
     split at h
     ·rename_i v vs' hs hvs
      split at h
      ·obtain rfl := oi h
       obtain ⟨ad, u, k1, k2, k3, k4⟩ := Qzx hT R hl hr hs
       obtain ⟨us, e1, e2⟩ := Q7f hT R hvs
       refine ⟨u :: us, ⟨_, _, rfl, ⟨k3, k4⟩, e1⟩, fun f hf hc => ?_⟩
       rw [List.mapM_cons, hc, k1]
       simp only [asAddr, Sem.run_bind, Sem.run_pure, Result.andThen, k2, e2 f hf hc]
      ·cases h
     ·cases h
    ·cases h
   ·cases h
theorem Q8s : ∀ {l : List PV} {i : Nat} {e : Env} {s : Nat} {v : PV}, argEnv i l e s = some v → (∃ j, s = i + j ∧ l[j]? = some v) ∨ e s = some v
 | [], i, e, s, v, h => .inr h
 | x :: l, i, e, s, v, h => by
   simp only [argEnv] at h
   rcases Q8s h with ⟨j, h1, h2⟩ | h1
   ·exact .inl ⟨j + 1, by omega, by simpa using h2⟩
   ·rw [Q8] at h1
    by_cases hs : s = i
    ·rw [if_pos hs] at h1
     exact .inl ⟨0, by omega, by simpa using h1⟩
    ·rw [if_neg hs] at h1
     exact .inr h1
def ExtOk (P : Program) (g : Nat) (spec : List PV → List RowS → Option (List PV × List RowS)) : Prop := Q1o P g ∧ ∀ ws rs res rout, spec ws rs = some (res, rout) → Good P g ws rs (fun a b => a = res ∧ b = rout)
structure Fok (P : Program) (F : Nat → Option PFn) : Prop where
 mixed : P.follows .mixedOrders = true
 code : ∀ g fn an, F g = some (.code fn an) → P.funcs[g]? = some fn ∧ fn.name ≠ "runtime.NumGoroutine"
 ext : ∀ g m spec, F g = some (.ext m spec) → ExtOk P g spec
theorem CRs.append {w : World} {pl : Pl} {rows : Rows} : ∀ {l l2 : List PV} {us us2 : List Value}, CRs w pl rows l us → CRs w pl rows l2 us2 → CRs w pl rows (l ++ l2) (us ++ us2)
 | [], _, us, _, h, h2 => by rw [show us = [] from h]; exact h2
 | _ :: _, _, _, _, h, h2 => by
   obtain ⟨u, us', rfl, h1, h3⟩ := h
   exact ⟨u, us' ++ _, rfl, h1, CRs.append h3 h2⟩
theorem CRs.take {w : World} {pl : Pl} {rows : Rows} : ∀ {l : List PV} {us : List Value} (n : Nat), CRs w pl rows l us → CRs w pl rows (l.take n) (us.take n)
 | [], us, n, h => by rw [show us = [] from h]; simp [CRs]
 | _ :: _, us, 0, h => by simp [CRs]
 | _ :: _, us, n + 1, h => by
   obtain ⟨u, us', rfl, h1, h3⟩ := h
   exact ⟨u, us'.take n, rfl, h1, CRs.take n h3⟩
theorem Qcc {B : Nat} {G : Nat → Prop} {pl : Pl} {σ : St} {a : Act} {w : World} (R : Rel B G pl σ a w) : ∀ n, ∃ gs, CRs w pl σ.rows (Qir σ.rows n) gs
 | 0 => ⟨[], rfl⟩
 | n + 1 => by
   obtain ⟨gs, h⟩ := Qcc R n
   simp only [Qir]
   split
   ·rename_i k l hr
    obtain ⟨_, b, arr, Te, fr, e0, _⟩ := R.rows _ _ hr
    exact ⟨gs ++ [.pointer (some ⟨b, 0, none⟩)], h.append ⟨_, [], rfl, ⟨by simp [Men, hr], fun _ => ⟨⟨rfl, ⟨_, rfl⟩, fun n i p kt vt bx l tk hr' => (by rw [hr] at hr'; cases hr')⟩, fun n l _ => ⟨b, e0, rfl⟩⟩⟩, rfl⟩⟩
   ·exact ⟨gs ++ [.slice none 0 0], h.append ⟨.slice none 0 0, [], rfl, ⟨trivial, fun _ => (rfl : Value.slice none 0 0 = .slice none 0 0)⟩, rfl⟩⟩
theorem Qal (hT : TTok P T) {C : Ctx} {nt : Nat} {pl : Pl} {σ : St} {a : Act} {w : World} (hC : C.Ok) (I : Inv C nt pl σ a w) {fn : Func} {an : Ann} {res : List PV} {rout : List RowS} (h : finish T fn an C.n σ = some (res, rout)) :
  ∃ us pl', (results fn a.tmps).run P w = .ok (tupVal us) w ∧ Inv C 0 pl' ⟨fun _ => none, rowsOf rout⟩ ⟨#[], []⟩ w ∧ (∀ i s, rowsOf rout i = some s → rowOk (rowsOf rout) s.row) ∧ Mens (rowsOf rout) res ∧ VRs w pl' (rowsOf rout) res us := by
 unfold finish at h
 split at h
 ·rename_i vs hvs
  obtain ⟨us, c1, hrun⟩ := Q7f (P := P) hT I.rel hvs
  split at h
  ·rename_i vs' rows1 k1 hco
   obtain ⟨gs, cg⟩ := Qcc I.rel C.n
   obtain ⟨pl1, S1, R1, c2', _⟩ := Q1k I.size an.results I.rel (I.zlt hC) (by decide) (c1.append cg) hco
   have c2 := c2'.take vs.length
   rw [show (us ++ gs).take vs.length = us by rw [← c1.len]; simp] at c2
   have I1 := I.next (env' := σ.env) (a' := a) S1 (Quiet.refl w) R1 I.nt
   split at h
   ·rename_i ws rs ids hpk
    simp only [Option.some.injEq, Prod.mk.injEq] at h
    obtain ⟨rfl, rfl⟩ := h
    obtain ⟨p1, p2, p3⟩ := Qcv hpk
    have hZ : ∀ b, C.Z b → pl1.Z b ∨ Left none pl1 rows1 ids b := fun b hb => .inl (by rw [I1.z]; exact hb)
    have hL : ∀ (p : Prov) (b : Nat), covers none (Qe 1 ids) p = true → Safe w pl1 rows1 p b → C.Z b → C.L b := fun p b _ hs hz => by rw [← I1.l]; exact (hs.2.1 (by rw [I1.z]; exact hz)).1
    simp only [Bool.false_eq_true, if_false] at p1 p2
    have hok := Q26 p2
    obtain ⟨m1, m2⟩ := c2.out
    obtain ⟨q1, q2, q3⟩ := Qao (Z := C.Z) (L := C.L) p1 R1.zero hZ hL p2 m1 (m2 hok)
    have R2 := Q14d (B' := C.B) (G' := C.G) R1 p1 hZ hL (fun r s b o hr hl hloc _ => (R1.own r s b o hr hl hloc).2.2)
    refine ⟨us, pkPl pl1 ids C.Z C.L, ?_, ⟨⟨fun s v hv => (by cases hv), R2.rows, R2.zero, R2.inj, R2.own, rfl⟩, rfl, rfl, Nat.zero_le _, I.size, I.quiet, I.keep, I.blk, fun i h1 h2 => ?_⟩, fun i s hr => ?_, q1, q3⟩
    ·have hvec : ∀ (x : List Value), (if h : x.toArray.size = 1 then x.toArray[0] else Value.tuple x.toArray) = tupVal x := by
      intro x
      match x with
      | [] => rfl
      | [y] => rfl
      | y :: z :: l => simp [tupVal]
     unfold results
     rw [Array.mapM_eq_mapM_toList]
     simp only [Sem.run_bind, Sem.run_map]
     rw [hrun]
     ·simp only [Result.andThen, Sem.run_pure, hvec]
     ·intro t; rfl
     ·intro c t; rfl
    ·obtain ⟨s, g1, g2⟩ := I1.given i h1 h2
     have hi : ids[i - 1]? = some i := by rw [p3 (i - 1) (by omega)]; congr 1; omega
     obtain ⟨s', x, e1, e2, e3⟩ := p1.get _ _ hi
     simp only at g1
     rw [g1] at e1
     cases e1
     refine ⟨⟨0, x⟩, ?_, fun hl => ?_⟩
     ·simp only
      rw [Q1b, if_neg (by omega)]; exact e3
     ·simp only [pkPl, if_neg (show ¬ i = 0 by omega), hi, Option.bind_some]
      exact g2 (fun e => hl ((Q1u e2).2 e))
    ·obtain ⟨k, id, s0, x, rfl, hk, hf, g1, g2, rfl, g3⟩ := p1.at (pl := pl1) (Z := C.Z) (L := C.L) hr
     exact Q175 p1 R1.zero g2 (R1.rows id s0 g1)
   ·cases h
  ·cases h
 ·cases h
theorem Qbh {R : Type} (hT : TTok P T) {F : Nat → Option PFn} (hF : Fok P F) : ∀ (k g : Nat) (ws : List PV) (rs : List RowS) (K : List PV → List RowS → Oq R) (r : R), callC T F k g ws rs K = some r → Q1o P g ∧ Good P g ws rs (fun res rout => K res rout = some r)
 | 0, g, ws, rs, K, r, h => by cases h
 | k + 1, g, ws, rs, K, r, h => by
   simp only [callC] at h
   split at h
   ·rename_i fn an hg
    split at h
    ·rename_i c hc
     obtain ⟨h1, h2⟩ := hF.code g fn an hg
     refine ⟨⟨fn, c, h1, hc, h2⟩, ?_⟩
     intro C pl us hC hn hz hl hloc Rl hm hok hv
     refine calls_of_wp h1 hc ?_
     rw [← hn] at h
     have hsize : (us.toArray ++ Array.replicate (fn.ntmps - us.toArray.size) undef).size = max us.length fn.ntmps := by simp; omega
     have I0 : Inv C fn.ntmps pl ⟨argEnv 0 ws (fun _ => none), rowsOf rs⟩ ⟨us.toArray ++ Array.replicate (fn.ntmps - us.toArray.size) undef, []⟩ C.w0 := by
      refine ⟨⟨fun s v hs => ?_, Rl.rows, Rl.zero, Rl.inj, Rl.own, rfl⟩, hz, hl, by simp only; rw [hsize]; omega, by rw [hC.size]; exact Nat.le_refl _, Quiet.refl _, fun _ _ _ => rfl, fun b arr Te fr h => ⟨arr, Te, fr, h, rfl⟩, fun i h1 h2 => ?_⟩
      ·rcases Q8s hs with ⟨j, e, hj⟩ | e
       ·have e' : s = j := by omega
        subst e'
        obtain ⟨u, g1, g2⟩ := Q2s hv s v hj
        have hlt := (List.getElem?_eq_some_iff.1 g1).1
        refine ⟨by simp only; rw [hsize]; omega, Qq hm v (List.mem_of_getElem? hj), fun _ => ?_⟩
        have : (us.toArray ++ Array.replicate (fn.ntmps - us.toArray.size) undef).getD s undef = u := by
         rw [Array.getD_eq_getD_getElem?, Array.getElem?_append_left (by simpa using hlt)]
         simp [g1]
        simp only [this]
        exact g2
       ·cases e
      ·rw [hn] at h2
       refine ⟨rs[i - 1]'(by omega), by simp only; rw [Q1b, if_neg (by omega)]; exact List.getElem?_eq_getElem (by omega), fun _ => (hloc i h1 (by rw [hn]; exact h2)).symm⟩
     have fin : ∀ σ' pl' a' w', ending T fn an C.n K σ' = some r → Inv C fn.ntmps pl' σ' a' w' → a'.defers = [] ∧ ∃ v, (results fn a'.tmps).run P w' = .ok v w' ∧
      ∃ res rout vs pl', K res rout = some r ∧ Ending.returned v = .returned (tupVal vs) ∧ Inv C 0 pl' ⟨fun _ => none, rowsOf rout⟩ ⟨#[], []⟩ w' ∧ (∀ i s, rowsOf rout i = some s → rowOk (rowsOf rout) s.row) ∧ Mens (rowsOf rout) res ∧ VRs w' pl' (rowsOf rout) res vs := by
      intro σ' pl' a' w' he I1
      unfold ending at he
      split at he
      ·rename_i x hx
       obtain ⟨us', pl2, hr, I2, e1, e2, e3⟩ := Qal (P := P) hT hC I1 hx
       exact ⟨I1.rel.defers, _, hr, x.1, x.2, us', pl2, he, rfl, I2, e1, e2, e3⟩
      ·cases he
     refine Q6d hF.mixed hT hC (Qjq k) (fun g' ws' rs' K' r' hk => Qbh hT hF k g' ws' rs' K' r' hk) c I0 h (fun σ' pl' a' w' h1 I1 => fin _ _ _ _ h1 I1) (fun j σ' pl' a' w' h1 I1 => by cases h1) (fun σ' pl' a' w' h1 I1 => fin _ _ _ _ h1 I1)
    ·cases h
   ·rename_i m spec hg
    split at h
    ·rename_i x hx
     obtain ⟨h1, h2⟩ := hF.ext g m spec hg
     refine ⟨h1, fun C pl us a1 a2 a3 a4 a5 a6 a7 a8 a9 => Q1x (h2 ws rs x.1 x.2 hx C pl us a1 a2 a3 a4 a5 a6 a7 a8 a9) fun e w' hp => ?_⟩
     obtain ⟨res, rout, vs, pl', ⟨rfl, rfl⟩, hp⟩ := hp
     exact ⟨_, _, vs, pl', h, hp⟩
    ·cases h
   ·cases h
end
end Go.Proofs.YtecnlienmpdlaaaGreat.PM
