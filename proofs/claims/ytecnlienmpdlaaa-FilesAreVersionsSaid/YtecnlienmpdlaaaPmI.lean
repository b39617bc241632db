/- The small machine PM is sound: a region whose order is open, in every order. -/
import Derived.Test.YtecnlienmpdlaaaPmG
import Derived.LoopN
import Derived.Tactics
set_option linter.unusedSimpArgs false
set_option linter.unusedVariables false
namespace Go.Proofs.Ytecnlienmpdlaaa.PM
open Go

section
variable {P : Program} {C : Ctx} {nt : Nat} {T : TT} {modes : Nat → List Mode} {R : Type} {callK : Nat → List PV → List RowS → (List PV → List RowS → Option R) → Option R} {ops : Array Oper} {fps : List Foot} {rid : Nat}

theorem getD_at {a : Act} {s : Nat} (h : s < a.tmps.size) : a.tmps[s]? = some (a.tmps.getD s undef) := by
  simp [Array.getD_eq_getD_getElem?, h]

/-- What the machine knows of a guard, the model knows. -/
theorem ask_wanted {B : Nat} {G : Nat → Prop} {pl : Pl} {st : St} {a : Act} {w : World} (Rl : Rel B G pl st a w) {o : Oper} {b : Bool} (h : askPM ops o st = some b) : Region.wanted o (yielded ops a.tmps) = b := by
  unfold askPM at h
  split at h
  · rename_i hg
    cases h
    simp [Region.wanted, hg]
  · rename_i j want hg
    split at h
    · rename_i d hd
      split at h
      · rename_i x he
        obtain ⟨e1, e2, e3⟩ := Rl.env d _ he
        have hb := isBool (e3 rfl)
        have hyb : yielded ops a.tmps j = some x := by
          have := getD_at e1
          rw [hb] at this
          simp [yielded, hd, this]
        cases h
        simp [Region.wanted, hg, hyb]
      · rename_i he
        obtain ⟨e1, e2, e3⟩ := Rl.env d _ he
        have hb : a.tmps.getD d undef = undef := e3 rfl
        have hyb : yielded ops a.tmps j = none := by
          have := getD_at e1
          rw [hb] at this
          simp [yielded, hd, this, undef]
        cases h
        simp [Region.wanted, hg, hyb]
      · cases h
    · cases h

open Classical in
theorem goes1_sound (hT : TTok P T) (hC : C.Ok) (hcall : ∀ g ws rs K r, callK g ws rs K = some r → Callable P g ∧ Good P g ws rs (fun res rout => K res rout = some r)) (r : R)
    {i : Nat} {st : St} (hdet : Det callK) (h : Ok1 T modes nt callK ops fps rid i st) {pl : Pl} {a : Act} {w : World} (I : Inv C nt pl st a w) {Q : Exit → Act → World → Prop} {next : Act → World → Prop}
    (hK : ∀ st', Goes1 T modes nt callK ops fps rid i st st' → ∀ pl' a' w', Inv C nt pl' st' a' w' → next a' w') : wpOp P ops Q i next a w := by
  cases h with
  | run o K0 r0 ho ha hp hd hl =>
    unfold wpOp
    rw [ho]
    simp only
    rw [if_pos (ask_wanted I.rel ha)]
    obtain ⟨hC', I'⟩ := cut_inv (fp := footAt fps i) (key := keyAt rid i) (ops := ops) (o := o) hC I
    refine .inl (doOp_sound (K := fun s => if Mem (fun K : St → Option R => doOp T modes nt callK (keyAt rid i) o (cutSt ops (footAt fps i) (keyAt rid i) o st) K) s then some r else none) (r := r) hT hC' hcall I' (by unfold keyAt; omega)
      ((doOp_det hdet _ _ _).all _ _ hd _ _ fun y hy => if_pos hy) fun σ' pl' u w' h1 h2 h3 => ?_)
    have hm : Mem (fun K : St → Option R => doOp T modes nt callK (keyAt rid i) o (cutSt ops (footAt fps i) (keyAt rid i) o st) K) σ' := by
      by_cases e : Mem (fun K : St → Option R => doOp T modes nt callK (keyAt rid i) o (cutSt ops (footAt fps i) (keyAt rid i) o st) K) σ'
      · exact e
      · rw [if_neg e] at h1; cases h1
    exact hK _ (.run o σ' ho ha hp hm (hl σ' hm)) _ _ _ (join_inv hC I h2 h3 (hl σ' hm))
  | addr o v ho ha hp =>
    unfold wpOp
    rw [ho]
    simp only
    rw [if_pos (ask_wanted I.rel ha)]
    have hlk : ∀ x v, ptrLook st x = some v → look st x = some v := by
      intro x v hx
      cases x with
      | tmp t =>
        simp only [ptrLook] at hx
        split at hx
        · rename_i r off he; cases hx; simp [look, he, okPV]
        · rename_i r i off he; cases hx; simp [look, he, okPV]
        · cases hx
      | _ => cases hx
    have hlm : ∀ x v, ptrLookM st x = some v → look st x = some v := by
      intro x v hx
      cases x with
      | tmp t =>
        simp only [ptrLookM] at hx
        split at hx
        · rename_i r off he; cases hx; simp [look, he, okPV]
        · rename_i r i off he; cases hx; simp [look, he, okPV]
        · rename_i r he; cases hx; simp [look, he, okPV]
        · cases hx
      | _ => cases hx
    have still : Still P pl st.rows a w o ⟨true, some v, []⟩ := by
      unfold ptrOp at hp
      split at hp
      · rename_i x hop
        exact op_move (T := T) (key := 1) I.rel (.inl hop) (by simp only [hop, opOut, hlm _ _ hp]; rfl)
      · rename_i x hop
        exact op_move (T := T) (key := 1) I.rel (.inr hop) (by simp only [hop, opOut, hlm _ _ hp]; rfl)
      · rename_i x hop
        refine op_nilCheck (T := T) (key := 1) I.rel hop ?_
        have hv := hlk _ _ hp
        have ha : isAddr st.rows v = true := by
          cases x with
          | tmp t =>
            simp only [ptrLook] at hp
            split at hp
            · cases hp; rfl
            · cases hp; rfl
            · cases hp
          | _ => cases hp
        simp only [hop, opOut, hv, ha, if_true]; rfl
      · rename_i s x f hop
        split at hp
        · rename_i out hout
          have h2 : opOut T 1 o.op (look st) st.rows = some out := by
            rw [hop]
            simp only [opOut] at hout ⊢
            cases hq : ptrLook st x with
            | none => rw [hq] at hout; split at hout <;> simp_all
            | some y => rw [hq] at hout; rw [hlk _ _ hq]; exact hout
          have := op_fieldAddr (key := 1) hT I.rel hop h2
          obtain ⟨e1, v', e2, e3⟩ := this
          rw [hp] at e2
          cases e2
          exact ⟨rfl, v, rfl, e3⟩
        · cases hp
      · cases hp
    obtain ⟨pl', w', u, hrun, S, q, Rl⟩ := still.goes I.rel I.nt
    have I' := I.next S q Rl (by rw [size_put]; exact I.nt)
    refine .inl ?_
    have := hK _ (.addr o v ho ha hp) _ _ _ I'
    unfold Oper.wp
    rcases hrun with hrun | ⟨rfl, hrun⟩
    · rw [hrun]; exact this
    · rw [hrun]; exact this
  | skip o ho ha =>
    unfold wpOp
    rw [ho]
    simp only
    rw [ask_wanted I.rel ha]
    simp only [Bool.false_eq_true, if_false]
    have R' := I.rel.putUnd I.nt o.dst
    exact hK _ (.skip o ho ha) _ _ _ ⟨R', I.z, I.l, by rw [size_put]; exact I.nt, I.size, I.quiet, I.keep, I.blk, I.given⟩

/-- What holds behind one operation is there. -/
theorem ok_goes (hdet : Det callK) {i : Nat} {st : St} (h : Ok1 T modes nt callK ops fps rid i st) : ∃ st', Goes1 T modes nt callK ops fps rid i st st' := by
  cases h with
  | run o K r ho ha hp hd hl =>
    obtain ⟨y, hy⟩ := (doOp_det hdet _ _ _).has _ _ hd
    exact ⟨_, .run o y ho ha hp hy (hl y hy)⟩
  | addr o v ho ha hp => exact ⟨_, .addr o v ho ha hp⟩
  | skip o ho ha => exact ⟨_, .skip o ho ha⟩

/-- An operation that meets none before it goes first. -/
theorem goes_front (hdet : Det callK) {i : Nat} {Q : St → Prop} : ∀ {todo : List Nat} {st : St}, AllL T modes nt callK ops fps rid todo st Q → i ∈ todo → todo.Pairwise (· < ·) → (∀ j ∈ todo, j < i → apartOps ops fps rid j i = true) →
    Ok1 T modes nt callK ops fps rid i st ∧ ∀ st1, Goes1 T modes nt callK ops fps rid i st st1 → AllL T modes nt callK ops fps rid (todo.erase i) st1 Q := by
  intro todo
  induction todo with
  | nil => intro st h hi; cases hi
  | cons j l ih =>
    intro st h hi hp ha
    rw [List.pairwise_cons] at hp
    obtain ⟨h1, h2⟩ := h
    by_cases e : j = i
    · subst e
      rw [List.erase_cons_head]
      exact ⟨h1, h2⟩
    · have hil : i ∈ l := by
        rcases List.mem_cons.1 hi with h | h
        · exact absurd h.symm e
        · exact h
      have hap := ha j List.mem_cons_self (hp.1 i hil)
      have hrec := fun s1 (g : Goes1 T modes nt callK ops fps rid j st s1) => ih (h2 s1 g) hil hp.2 fun x hx hlt => ha x (List.mem_cons_of_mem _ hx) hlt
      obtain ⟨s0, g0⟩ := ok_goes hdet h1
      refine ⟨(ok_swap hap g0).1 (hrec s0 g0).1, fun st1 g1 => ?_⟩
      rw [List.erase_cons_tail (by simpa using e)]
      refine ⟨(ok_swap (apart_comm hap) g1).2 h1, fun s2 g2 => ?_⟩
      obtain ⟨s1, f1, f2⟩ := goes_swap (apart_comm hap) g1 g2
      exact (hrec s1 f1).2 s2 f2

theorem ancs_len (ops : Array Oper) : ∀ n, (ancs ops n).length = n
  | 0 => rfl
  | n + 1 => by simp [ancs, ancs_len ops n]
theorem ancs_get {i : Nat} : ∀ {n : Nat}, i < n → (ancs ops n).getD i [] = match ops[i]? with
    | some o => depsOf o ++ (depsOf o).flatMap fun e => (ancs ops i).getD e []
    | none => []
  | n + 1, h => by
    simp only [ancs]
    by_cases h1 : i < n
    · rw [List.getD_eq_getElem?_getD, List.getElem?_append_left (by rw [ancs_len]; exact h1), ← List.getD_eq_getElem?_getD]
      exact ancs_get h1
    · have : i = n := by omega
      subst this
      rw [List.getD_eq_getElem?_getD, List.getElem?_append_right (by rw [ancs_len]; exact Nat.le_refl _), ancs_len]
      simp only [Nat.sub_self, List.getElem?_cons_zero, Option.getD_some]
      rfl

/-- What has been listed, and what has not. -/
structure Listed (ops : Array Oper) (todo : List Nat) (listed : Array Bool) : Prop where
  size : listed.size = ops.size
  sorted : todo.Pairwise (· < ·)
  mem : ∀ x : Nat, x ∈ todo ↔ x < ops.size ∧ listed[x]? = some false
  down : ∀ (x : Nat) (o : Oper), ops[x]? = some o → listed[x]? = some true → ∀ e ∈ depsOf o, listed[e]? = some true

theorem ready_iff {listed : Array Bool} {i : Nat} (hs : listed.size = ops.size) : i ∈ Region.ready .any ops listed ↔ ∃ o, ops[i]? = some o ∧ listed[i]? = some false ∧ ∀ e ∈ depsOf o, listed[e]? = some true := by
  unfold Region.ready
  rw [List.mem_filter, List.mem_range]
  constructor
  · rintro ⟨h1, h2⟩
    have ho : ops[i]? = some ops[i] := by simp [h1]
    rw [ho] at h2
    simp only [Option.map_some, Option.getD_some, Bool.and_eq_true, Bool.not_eq_true'] at h2
    refine ⟨_, ho, ?_, fun e he => ?_⟩
    · have : i < listed.size := by omega
      have h3 := h2.1
      rw [Array.getD_eq_getD_getElem?] at h3
      cases hx : listed[i]? with
      | none => rw [hx] at h3; cases h3
      | some b => rw [hx] at h3; simp at h3; rw [h3]
    · simp only [depsOf, List.mem_map, List.mem_filter] at he
      obtain ⟨x, ⟨hx1, hx2⟩, rfl⟩ := he
      have h4 := h2.2
      rw [Array.all_eq_true_iff_forall_mem] at h4
      have h5 := h4 x (by simpa using hx1)
      rw [hx2] at h5
      simp only [Bool.not_true, Bool.false_or] at h5
      rw [Array.getD_eq_getD_getElem?] at h5
      cases hy : listed[x.on]? with
      | none => rw [hy] at h5; cases h5
      | some b => rw [hy] at h5; simp at h5; rw [h5]
  · rintro ⟨o, ho, h1, h2⟩
    have hi : i < ops.size := (Array.getElem?_eq_some_iff.1 ho).1
    refine ⟨hi, ?_⟩
    rw [ho]
    simp only [Option.map_some, Option.getD_some, Bool.and_eq_true, Bool.not_eq_true']
    refine ⟨by rw [Array.getD_eq_getD_getElem?, h1]; rfl, ?_⟩
    rw [Array.all_eq_true_iff_forall_mem]
    intro e he
    cases hb : Region.binds .any e with
    | false => simp
    | true =>
      simp only [Bool.not_true, Bool.false_or]
      rw [Array.getD_eq_getD_getElem?, h2 e.on (by simp only [depsOf, List.mem_map, List.mem_filter]; exact ⟨e, ⟨by simpa using he, hb⟩, rfl⟩)]
      rfl

theorem ancs_listed {todo : List Nat} {listed : Array Bool} (L : Listed ops todo listed) (hlt : ∀ (j : Nat) (o : Oper), ops[j]? = some o → ∀ e ∈ depsOf o, e < j) : ∀ (n i : Nat), i < n → ∀ (m : Nat), i < m → (∀ o : Oper, ops[i]? = some o → ∀ e ∈ depsOf o, listed[e]? = some true) → ∀ x ∈ (ancs ops m).getD i [], listed[x]? = some true
  | n + 1, i, hi, m, hm, hd, x, hx => by
    rw [ancs_get hm] at hx
    cases ho : ops[i]? with
    | none => rw [ho] at hx; cases hx
    | some o =>
      rw [ho] at hx
      simp only at hx
      rcases List.mem_append.1 hx with hx | hx
      · exact hd o ho x hx
      · obtain ⟨e, he, hx⟩ := List.mem_flatMap.1 hx
        have hei := hlt i o ho e he
        exact ancs_listed L hlt n e (by omega) i hei (fun o' ho' e' he' => L.down e o' ho' (hd o ho e he) e' he') x hx

theorem drawOk_spec (h : drawOk ops fps rid = true) : (∀ (j : Nat) (o : Oper), ops[j]? = some o → ∀ e ∈ depsOf o, e < j) ∧ ∀ j, j < ops.size → ∀ i, i < j → i ∈ (ancs ops ops.size).getD j [] ∨ apartOps ops fps rid i j = true := by
  unfold drawOk at h
  rw [List.all_eq_true] at h
  refine ⟨fun j o ho e he => ?_, fun j hj i hi => ?_⟩
  · have := h j (List.mem_range.2 (Array.getElem?_eq_some_iff.1 ho).1)
    rw [Bool.and_eq_true, ho] at this
    have h1 := List.all_eq_true.1 this.1 e he
    simpa using h1
  · have := h j (List.mem_range.2 hj)
    rw [Bool.and_eq_true] at this
    have h1 := List.all_eq_true.1 this.2 i (List.mem_range.2 hi)
    rw [Bool.or_eq_true] at h1
    rcases h1 with h1 | h1
    · obtain ⟨x, hx, e⟩ := List.any_eq_true.1 h1
      rw [beq_iff_eq] at e
      exact .inl (e ▸ hx)
    · exact .inr h1

theorem draw_any (hT : TTok P T) (hC : C.Ok) (hcall : ∀ g ws rs K r, callK g ws rs K = some r → Callable P g ∧ Good P g ws rs (fun res rout => K res rout = some r)) (r : R) (hok : drawOk ops fps rid = true) {Q : Exit → Act → World → Prop} (hdet : Det callK) {Φ : St → Prop}
    (hQ : ∀ stn pl' a' w', Φ stn → Inv C nt pl' stn a' w' → Q .normal a' w') : ∀ (fuel : Nat) (todo : List Nat) (listed : Array Bool) {pl : Pl} {st : St} {a : Act} {w : World}, Listed ops todo listed → todo.length ≤ fuel → Inv C nt pl st a w → AllL T modes nt callK ops fps rid todo st Φ →
      wpAny P .any ops Q fuel listed a w := by
  obtain ⟨hlt, hap⟩ := drawOk_spec hok
  have empty : ∀ {todo : List Nat} {listed : Array Bool}, Listed ops todo listed → Region.ready .any ops listed = [] → todo = [] := by
    intro todo listed L hr
    cases todo with
    | nil => rfl
    | cons x l =>
      exfalso
      have hp := L.sorted
      rw [List.pairwise_cons] at hp
      obtain ⟨hx, hf⟩ := (L.mem x).1 List.mem_cons_self
      have : x ∈ Region.ready .any ops listed := (ready_iff L.size).2 ⟨ops[x], by simp [hx], hf, fun e he => by
        have hex := hlt x _ (show ops[x]? = some ops[x] by simp [hx]) e he
        have hes : e < listed.size := by have := L.size; omega
        cases hb : listed[e] with
        | true => simp [hes, hb]
        | false =>
          exfalso
          have := (L.mem e).2 ⟨by omega, by simp [hes, hb]⟩
          rcases List.mem_cons.1 this with h | h
          · omega
          · have := hp.1 e h; omega⟩
      rw [hr] at this
      cases this
  intro fuel
  induction fuel with
  | zero =>
    intro todo listed pl st a w L hl I hg
    have ht : todo = [] := List.length_eq_zero_iff.1 (by omega)
    subst ht
    refine ⟨?_, ?_⟩
    · rw [List.eq_nil_iff_forall_not_mem]
      intro i hi
      obtain ⟨o, ho, h1, _⟩ := (ready_iff L.size).1 hi
      have := (L.mem i).2 ⟨(Array.getElem?_eq_some_iff.1 ho).1, h1⟩
      cases this
    · exact hQ _ _ _ _ hg I
  | succ fuel ih =>
    intro todo listed pl st a w L hl I hg
    refine ⟨fun hr => ?_, fun i hi => ?_⟩
    · have ht := empty L hr
      subst ht
      exact hQ _ _ _ _ hg I
    · obtain ⟨o, ho, h1, h2⟩ := (ready_iff L.size).1 hi
      have hsz := (Array.getElem?_eq_some_iff.1 ho).1
      have hit := (L.mem i).2 ⟨hsz, h1⟩
      have hanc := ancs_listed L hlt (i + 1) i (by omega) ops.size hsz (fun o' ho' => by rw [ho] at ho'; cases ho'; exact h2)
      obtain ⟨g1, g2⟩ := goes_front hdet hg hit L.sorted fun j hj hji => by
        rcases hap i hsz j hji with h | h
        · have := hanc j h
          have hf := ((L.mem j).1 hj).2
          rw [this] at hf; cases hf
        · exact h
      refine goes1_sound hT hC hcall r hdet g1 I fun st1 hg1 pl' a' w' I' => ?_
      have hil : i < listed.size := by have := L.size; omega
      refine ih (todo.erase i) (listed.setIfInBounds i true) ⟨by simp [L.size], L.sorted.sublist (List.erase_sublist ..), fun x => ?_, fun x o' ho' hx e he => ?_⟩ (by rw [List.length_erase_of_mem hit]; omega) I' (g2 st1 hg1)
      · have nd : todo.Nodup := L.sorted.imp (fun h => Nat.ne_of_lt h)
        rw [nd.mem_erase_iff, L.mem x, Array.getElem?_setIfInBounds]
        constructor
        · rintro ⟨hne, h3, h4⟩
          exact ⟨h3, by rw [if_neg (Ne.symm hne)]; exact h4⟩
        · rintro ⟨h3, h4⟩
          by_cases e : i = x
          · subst e; rw [if_pos rfl] at h4; simp [hil] at h4
          · rw [if_neg e] at h4; exact ⟨Ne.symm e, h3, h4⟩
      · have keep : ∀ y : Nat, listed[y]? = some true → (listed.setIfInBounds i true)[y]? = some true := by
          intro y hy
          rw [Array.getElem?_setIfInBounds]
          split
          · rename_i e; subst e; simp [hil]
          · exact hy
        rw [Array.getElem?_setIfInBounds] at hx
        by_cases e' : i = x
        · subst e'
          rw [ho] at ho'
          cases ho'
          exact keep e (h2 e he)
        · rw [if_neg e'] at hx
          exact keep e (L.down x o' ho' hx e he)

/-- Another count of draws is another world, but alike. -/
theorem inv_world {pl : Pl} {st : St} {a : Act} {w w' : World} (I : Inv C nt pl st a w) (hh : w'.heap = w.heap) (q : Quiet w w') : Inv C nt pl st a w' := by
  have S : Step w pl st.rows w' pl st.rows :=
    ⟨rfl, rfl, by rw [hh]; exact Nat.le_refl _, fun r s hr => ⟨s, hr, Kin.refl s, fun _ => rfl⟩, fun _ _ _ _ _ => rfl, fun r s' h1 h2 b o h3 => .inl ⟨s', o, h1, h2, h3⟩, fun b _ _ => by rw [hh], fun b arr T fr h => ⟨arr, T, fr, by rw [hh]; exact h, rfl⟩, I.rel.zero⟩
  have R' : Rel C.B C.G pl ⟨st.env, st.rows⟩ a w' := I.rel.stepM S I.rel.defers (fun s v h => .inl ⟨h, (I.rel.env s v h).1, rfl⟩) (fun r s' h1 h2 => absurd h1 h2) I.rel.zero
    (fun r s b o h1 k1 h2 => .inl ⟨s, o, h1, k1, h2⟩)
  exact I.next S q R' I.nt

theorem draw_sound (hm : P.follows .mixedOrders = true) (hT : TTok P T) (hC : C.Ok) (hcall : ∀ g ws rs K r, callK g ws rs K = some r → Callable P g ∧ Good P g ws rs (fun res rout => K res rout = some r)) (hdet : Det callK) {id : Nat} (hok : drawOk ops fps id = true)
    {pl : Pl} {st : St} {a : Act} {w : World} (I : Inv C nt pl st a w) {K : St → Option R} {r : R} (h : doDraw T modes nt callK ops fps id (List.range ops.size) st K = some r) {Q : Exit → Act → World → Prop}
    (hK : ∀ σ' pl' a' w', K σ' = some r → Inv C nt pl' σ' a' w' → Q .normal a' w') : (Code.region id ops true).wp P Q a w := by
  have h2 := doDraw_goes h
  refine wp_region_any hm ?_
  have L : Listed ops (List.range ops.size) (Array.replicate ops.size false) := by
    refine ⟨by simp, List.pairwise_lt_range, fun x => ?_, fun x o ho hx => ?_⟩
    · rw [List.mem_range]
      constructor
      · intro hx; exact ⟨hx, by simp [hx]⟩
      · exact fun hx => hx.1
    · simp [Array.getElem?_replicate] at hx
  have I' : Inv C nt pl st a { w with drawn := w.drawn + 1 } := inv_world I rfl ⟨rfl, rfl, rfl⟩
  exact draw_any (fps := fps) (rid := id) hT hC hcall r hok hdet (fun stn pl' a' w' h1 I' => hK _ _ _ _ h1 I') ops.size (List.range ops.size) _ L (by simp) I' h2
end
end Go.Proofs.Ytecnlienmpdlaaa.PM
