/- The small machine PM is sound, twelfth part: operations in line, calls, code. -/
import Derived.Test.YtecnlienmpdlaaaPmK
import Derived.LoopN
import Derived.Tactics
set_option linter.unusedSimpArgs false
set_option linter.unusedVariables false
namespace Go.Proofs.Ytecnlienmpdlaaa.PM
open Go

section
variable {B : Nat} {G : Nat → Prop} {rows : Rows} {ids : List Nat} {key : Nat} {lp : Prov} {rout : List RowS} {u : List (Nat × RowS)} {pl plc pl' : Pl} {w w' : World}

theorem backAll_get {m : List (Nat × Nat)} : ∀ {l l' : List PV}, back.backAll m rows lp l = some l' → l'.length = l.length ∧ ∀ (j : Nat) (y : PV), l'[j]? = some y → ∃ x, l[j]? = some x ∧ back m rows lp x = some y
  | [], l', h => by obtain rfl := Option.some.inj h; exact ⟨rfl, fun j y hy => by simp at hy⟩
  | v :: l, l', h => by
    simp only [back.backAll] at h
    split at h
    · rename_i v' hv
      split at h
      · rename_i l'' hl
        obtain rfl := Option.some.inj h
        obtain ⟨g1, g2⟩ := backAll_get hl
        refine ⟨by simp [g1], fun j y hy => ?_⟩
        cases j with
        | zero => simp at hy; subst hy; exact ⟨v, rfl, hv⟩
        | succ j => simpa using g2 j y (by simpa using hy)
      · cases h
    · cases h

theorem bk_row (h : Bk rows ids key lp rout u) (D : Duo B G pl rows ids lp w w' plc pl' rout) {k : Nat} {s : RowS} {x : Row} (hk : k < rout.length) (hs : rowsOf rout (k + 1) = some s) (hok : rowOk (rowsOf rout) s.row)
    (hx : backRow (backMap key 1 ids rout.length) rows lp s.row = some x) (v : Nat) : RowR w' (bkPl pl pl' ids key rout.length) (updAll rows u) (gmap ids key k) ⟨v, x⟩ := by
  have hR := D.rowr _ _ hs
  have hloc := h.loc pl pl' hk
  obtain ⟨n, row⟩ := s
  cases row with
  | gone => cases hx; trivial
  | arr p t l =>
    simp only [backRow] at hx
    split at hx
    · rename_i p' hp
      cases hx
      obtain ⟨g1, g2⟩ := hR
      refine ⟨bk_provIn h D hp g1, ?_⟩
      rw [hloc]
      cases hlr : pl'.loc (k + 1) with
      | none => rw [hlr] at g2; exact g2
      | some bo =>
        obtain ⟨b, o⟩ := bo
        rw [hlr] at g2
        obtain ⟨arr, Te, fr, e1, e2, e3, e4⟩ := g2
        refine ⟨arr, Te, fr, e1, e2, e3, fun _ j y hy => ?_⟩
        obtain ⟨es, q1, q2⟩ := e4 hok j y hy
        exact ⟨es, RD_frame (fun b hb => bk_safe h D hp hb) (fun _ _ => rfl) q1, q2⟩
    · cases hx
  | vars l =>
    simp only [backRow] at hx
    split at hx
    · rename_i l' hl
      cases hx
      obtain ⟨g1, b, arr, Te, fr, e0, e1, e2, e3, e4⟩ := hR
      obtain ⟨f1, f2⟩ := backAll_get hl
      have ok : okPV.okAll (rowsOf rout) l = true := hok
      refine ⟨mens_of fun y hy => ?_, b, arr, Te, fr, hloc.trans e0, e1, by rw [f1]; exact e2, e3, fun j y hy => ?_⟩
      · obtain ⟨j, hj⟩ := List.getElem?_of_mem hy
        obtain ⟨z, z1, z2⟩ := f2 j y hj
        obtain ⟨c, q1, q2, q3⟩ := e4 j z z1
        exact (bk_vr h D z2 (mens_mem g1 z (List.mem_of_getElem? z1)) (q3 (okAll_mem ok z (List.mem_of_getElem? z1)))).1
      · obtain ⟨z, z1, z2⟩ := f2 j y hy
        obtain ⟨c, q1, q2, q3⟩ := e4 j z z1
        exact ⟨c, q1, q2, fun _ => (bk_vr h D z2 (mens_mem g1 z (List.mem_of_getElem? z1)) (q3 (okAll_mem ok z (List.mem_of_getElem? z1)))).2⟩
    · cases hx
  | mp it p kt vt bx l tk =>
    simp only [backRow] at hx
    split at hx
    · rename_i p' hp
      cases hx
      have hhid := h.hid pl pl' hk
      obtain ⟨g1, g2, b, es1, st, bs, e1, e2, e4, e5, e6, e7, e8⟩ := hR
      exact ⟨bk_provIn h D hp g1, g2, b, es1, st, bs, hloc.trans e1, e2.frame (fun x hx => ⟨by rw [hhid]; exact hx, rfl⟩) rfl,
        e4.frame (fun _ => ⟨hok, fun b hb => ⟨bk_safe h D hp hb, rfl⟩⟩) (fun _ _ => rfl), e5, e6, e7, fun x hx => by rw [hhid]; exact e8 x hx⟩
    · cases hx

theorem done_rel {env : Env} {a : Act} {nt : Nat} (h : Bk rows ids key lp rout u) (D : Duo B G pl rows ids lp w w' plc pl' rout) (R : Rel B G pl ⟨env, rows⟩ a w) (hn : nt ≤ a.tmps.size) (hB : B ≤ w.heap.size)
    (hok : ∀ i s, rowsOf rout i = some s → rowOk (rowsOf rout) s.row) {dst : Option Nat} {v : PV} {x : Value} (hm : Men (updAll rows u) v) (hv : VR w' (bkPl pl pl' ids key rout.length) (updAll rows u) v x) :
    Rel B G (bkPl pl pl' ids key rout.length) ⟨putDst nt env dst (some v), updAll rows u⟩ (a.put dst x) w' := by
  have S := done_step h D
  refine R.stepM S ((defers_put a dst x).trans R.defers) (henv_put R hn ⟨fun y e => by cases e; exact ⟨hm, fun _ => hv⟩, fun e => by cases e⟩) ?_ ?_ ?_
  · intro r s' hr hne
    rcases h.cases pl pl' r with ⟨k, sk, y, e, hk, g1, g2, g3, g4, g5⟩ | ⟨_, g1, g2⟩
    · rw [hr] at g4
      cases g4
      subst e
      exact bk_row h D hk g1 (hok _ _ g1) g2 _
    · rw [g1] at hr; exact absurd hr hne
  · rcases h.cases pl pl' 0 with ⟨k, sk, y, e, hk, g1, g2, g3, g4, g5⟩ | ⟨_, g1, g2⟩
    · exfalso
      have hk0 := h.key0
      by_cases h1 : k < ids.length
      · rw [gmap, List.getElem?_eq_getElem h1] at e
        simp only at e
        exact h.here _ (List.getElem_mem h1) (by rw [← e]; exact h.zero)
      · rw [gmap, List.getElem?_eq_none (by omega)] at e
        simp only at e
        omega
    · rw [g1]; exact h.zero
  · intro r s b o h1 l1 h2
    rcases h.cases pl pl' r with ⟨j, sj, z, ej, hj, f1, f2, f3, f4, f5⟩ | ⟨f0, f1, f2⟩
    · rw [h1] at f4
      cases f4
      rw [ej, h.at pl pl' hj] at h2
      have lj : sj.live := fun e' => l1 ((backRow_live f2).2 e')
      obtain ⟨q1, q2, q3⟩ := D.cown _ _ b o f1 lj h2
      refine .inr ⟨⟨q1, fun hz => q2 (D.left b (.inl hz)), ?_⟩, fun r' s' o' h1' l1' h2' => ?_⟩
      · rcases q3 with q | ⟨r0, s0, o0, p1, p2, p3, p4⟩
        · exact .inl (Nat.le_trans hB q)
        · exact (D.own r0 s0 b o0 p1 p2 p3).2.2
      · rcases h.cases pl pl' r' with ⟨k, sk, y, ek, hk, g1, g2, g3, g4, g5⟩ | ⟨g0, g1, g2⟩
        · rw [h1'] at g4
          cases g4
          rw [ek, h.at pl pl' hk] at h2'
          have := D.cinj _ _ _ _ b o' o g1 (fun e' => l1' ((backRow_live g2).2 e')) f1 lj h2' h2
          have hjk : k = j := by omega
          rw [ej, ek, hjk]
        · rw [g1] at h1'
          have h2'' : pl.at r' b o' := by
            unfold Pl.at at h2' ⊢
            rw [g2, bk_hid_other pl pl' g0] at h2'
            exact h2'
          refine absurd (D.left b (.inr ⟨rfl, r', s', o', h1', l1', h2'', fun hm => ?_⟩)) q2
          obtain ⟨k, hk⟩ := List.getElem?_of_mem hm
          exact g0 k (Nat.lt_of_lt_of_le (List.getElem?_eq_some_iff.1 hk).1 h.long) (gmap_in hk)
    · refine .inl ⟨s, o, by rw [f1] at h1; exact h1, l1, ?_⟩
      unfold Pl.at at h2 ⊢
      rw [f2, bk_hid_other pl pl' f0] at h2
      exact h2
end

/-! ### what is lent -/
mutual
theorem provs_in {rows : Rows} : ∀ {v : PV}, Men rows v → ProvIn rows (provsOf v)
  | .val _ _ _, h => h
  | .pvl _ _ _ _ _, h => h
  | .nils, _ => provIn_nil _
  | .nilp, _ => provIn_nil _
  | .lit _, _ => provIn_nil _
  | .und, _ => provIn_nil _
  | .rw _, _ => provIn_nil _
  | .rs _ _ _, _ => provIn_nil _
  | .ptr _ _, _ => provIn_nil _
  | .pel _ _ _, _ => provIn_nil _
  | .fn _ l, h => provsAll_in (l := l) h
  | .agg l, h => provsAll_in (l := l) h
  | .tup l, h => provsAll_in (l := l) h
theorem provsAll_in {rows : Rows} : ∀ {l : List PV}, Mens rows l → ProvIn rows (provsOf.provsAll l)
  | [], _ => provIn_nil _
  | v :: l, h => ProvIn.append (provs_in (v := v) h.1) (provsAll_in (l := l) h.2)
end
theorem lent_in {w : World} {pl : Pl} {rows : Rows} {ids : List Nat} {vs : List PV} (hm : Mens rows vs) (hr : ∀ r s, rows r = some s → RowR w pl rows r s) : ProvIn rows (lentOf rows ids vs) := by
  intro q hq
  have hq' := (List.mem_filter.1 (dedup_mem hq)).1
  rcases List.mem_append.1 hq' with h | h
  · exact provsAll_in hm q h
  · obtain ⟨r, _, h⟩ := List.mem_flatMap.1 h
    unfold rowProvs at h
    split at h
    · rename_i n p t l hs
      exact (hr _ _ hs).1 q h
    · rename_i n l hs
      exact provsAll_in (hr _ _ hs).1 q h
    · rename_i hs
      exact (hr _ _ hs).1 q h
    · cases h
/-- The callee's view of what is lent. -/
def LentL (pl : Pl) (rows : Rows) (ids : List Nat) (lp : Prov) (b : Nat) : Prop :=
  (pl.Z b → pl.L b ∧ ∃ q ∈ lp, q.1 = 0) ∧ ∀ r s o, rows r = some s → s.live → pl.at r b o → r ∉ ids → ∃ q ∈ lp, q.1 = r
theorem lent_covers {w : World} {pl : Pl} {rows : Rows} {ids : List Nat} {rs : List RowS} {lp : Prov} (h : Pk (some lp) rows ids rs) (h0 : rows 0 = none) {p : Prov} {b : Nat} (hc : covers (some lp) (numbered 1 ids) p = true) (hs : Safe w pl rows p b) : LentL pl rows ids lp b := by
  obtain ⟨_, h2, h3⟩ := hs
  have out : ∀ q ∈ p, q.1 ∉ ids → ∃ z ∈ lp, z.1 = q.1 := by
    intro q hq hn
    have := List.all_eq_true.1 hc q hq
    rw [Bool.or_eq_true] at this
    rcases this with h' | h'
    · obtain ⟨i, hi⟩ := Option.isSome_iff_exists.1 h'
      obtain ⟨k, _, _, _, hk, _⟩ := h.found (pl := pl) (Z := pl.Z) (L := pl.L) hi
      exact absurd (List.mem_of_getElem? hk) hn
    · obtain ⟨z, z1, z2⟩ := List.any_eq_true.1 h'
      exact ⟨z, z1, by simpa using z2⟩
  have nz : 0 ∉ ids := fun hm => by
    obtain ⟨k, hk⟩ := List.getElem?_of_mem hm
    obtain ⟨s, _, g1, _⟩ := h.get k 0 hk
    rw [h0] at g1; cases g1
  refine ⟨fun hz => ?_, fun r s o hr hl hloc hm => ?_⟩
  · obtain ⟨hL, q, hq, e⟩ := h2 hz
    obtain ⟨z, z1, z2⟩ := out q hq (by rw [e]; exact nz)
    exact ⟨hL, z, z1, z2.trans e⟩
  · obtain ⟨q, hq, e⟩ := h3 r s o hr hl hloc
    obtain ⟨z, z1, z2⟩ := out q hq (by rw [e]; exact hm)
    exact ⟨z, z1, z2.trans e⟩

/-! ### functions -/
noncomputable def tupVal (vs : List Value) : Value := match vs with
  | [x] => x
  | vs => .tuple vs.toArray

/-- What a function's run comes to in the small machine it comes to in the model. -/
def Good (P : Program) (g : Nat) (ws : List PV) (rs : List RowS) (Φ : List PV → List RowS → Prop) : Prop :=
  ∀ (C : Ctx) (pl : Pl) (us : List Value), C.Ok → C.n = rs.length → pl.Z = C.Z → pl.L = C.L → (∀ i, 1 ≤ i → i ≤ C.n → C.loc0 i = pl.loc i) →
    Rel C.B C.G pl ⟨fun _ => none, rowsOf rs⟩ ⟨#[], []⟩ C.w0 → Mens (rowsOf rs) ws → okPV.okAll (rowsOf rs) ws = true → VRs C.w0 pl (rowsOf rs) ws us →
    Calls P g us.toArray C.w0 fun e w' => ∃ res rout vs pl', Φ res rout ∧ e = .returned (tupVal vs) ∧ Inv C 0 pl' ⟨fun _ => none, rowsOf rout⟩ ⟨#[], []⟩ w' ∧ (∀ i s, rowsOf rout i = some s → rowOk (rowsOf rout) s.row) ∧
      Mens (rowsOf rout) res ∧ VRs w' pl' (rowsOf rout) res vs

def Callable (P : Program) (g : Nat) : Prop := ∃ fn c, P.funcs[g]? = some fn ∧ fn.body = some c ∧ fn.name ≠ "runtime.NumGoroutine"

theorem run_call {P : Program} {o : Oper} {c : Call} {f : Operand} {g : Nat} {caps : Array Value} {a : Act} {w : World} (hg : Callable P g) (ho : o.op = .call c) (hc : c.callee = .value f) (hf : a.eval f = .func (.func g) #[] caps) :
    (execOp a.eval o).run P w = .ok (.enter g (c.args.map a.eval ++ caps)) w := by
  have e : execOp a.eval o = (do let d ← resolve a.eval c o.type; invoke d.target d.args) := by simp only [execOp, ho]
  obtain ⟨fn, b, h1, h2, h3⟩ := hg
  rw [e]
  unfold resolve
  rw [hc]
  simp [Deferred.ofValue, hf, invoke, callFunc, h1, h2, h3]

theorem calls_mono {P : Program} {g : Nat} {us : Array Value} {w : World} {R R' : Ending → World → Prop} (h : Calls P g us w R) (hr : ∀ e w', R e w' → R' e w') : Calls P g us w R' :=
  fun cs => let ⟨e, w', fr, h1, h2⟩ := h cs; ⟨e, w', fr, hr e w' h1, h2⟩

section
variable {P : Program} {C : Ctx} {nt : Nat} {T : TT} {modes : Nat → List Mode} {R : Type} {callK : Nat → List PV → List RowS → (List PV → List RowS → Option R) → Option R}

theorem vrs_single {w : World} {pl : Pl} {rows : Rows} {vs : List PV} {us : List Value} (h : VRs w pl rows vs us) (hm : Mens rows vs) :
    Men rows (oneOf vs) ∧ VR w pl rows (oneOf vs) (tupVal us) := by
  match vs, h with
  | [], h =>
    have h' : us = [] := h
    subst h'
    exact ⟨trivial, #[], [], [], rfl, rfl, rfl⟩
  | [v], h =>
    obtain ⟨u, us', rfl, h1, h2⟩ := h
    have h2' : us' = [] := h2
    subst h2'
    exact ⟨hm.1, h1⟩
  | v :: v2 :: l, h =>
    have h0 := h
    obtain ⟨u, us', rfl, h1, u2, us2, rfl, h2⟩ := h
    exact ⟨hm, (u :: u2 :: us2).toArray, u :: u2 :: us2, [], rfl, by simp, h0⟩

theorem doOp_sound (hT : TTok P T) (hC : C.Ok) (hcall : ∀ g ws rs K r, callK g ws rs K = some r → Callable P g ∧ Good P g ws rs (fun res rout => K res rout = some r))
    {pl : Pl} {σ : St} {a : Act} {w : World} (I : Inv C nt pl σ a w) {key : Nat} (h0 : key ≠ 0) {o : Oper} {K : St → Option R} {r : R} (h : doOp T modes nt callK key o σ K = some r) {next : Act → World → Prop} {Q : Exit → Act → World → Prop}
    (hK : ∀ σ' pl' u w', K σ' = some r → Inv C nt pl' σ' (a.put o.dst u) w' → Step w pl σ.rows w' pl' σ'.rows → next (a.put o.dst u) w') : o.wp P a w next Q := by
  have plain : ∀ {out : Out}, opOut T key o.op (look σ) σ.rows = some out → isFree σ.rows key = true → (bif out.ok then K ⟨putDst nt σ.env o.dst out.v, updAll σ.rows out.upd⟩ else none) = some r → o.wp P a w next Q := by
    intro out ho hfree h
    have hk : σ.rows key = none := by
      unfold isFree at hfree
      split at hfree
      · assumption
      · cases hfree
    cases hok : out.ok with
    | false => rw [hok] at h; cases h
    | true =>
      rw [hok] at h
      obtain ⟨pl', w', u, hrun, S, q, Rl⟩ := op_sound hT I.rel I.nt (I.zlt hC) I.size hk h0 ho hok
      have I' := I.next S q Rl (by rw [size_put]; exact I.nt)
      have := hK _ _ _ _ h I' S
      unfold Oper.wp
      rcases hrun with hrun | ⟨rfl, hrun⟩
      · rw [hrun]; exact this
      · rw [hrun]; exact this
  unfold doOp at h
  split at h
  · rename_i f as ats ho
    split at h
    · rename_i g caps vs hf hvs
      split at h
      · rename_i p hp
        obtain ⟨hcl, hgood⟩ := hcall _ _ _ _ _ h
        obtain ⟨m1, v1, _⟩ := I.rel.look hf
        obtain ⟨m2, v2, k2⟩ := look_all I.rel hvs
        obtain ⟨cs, e1, e2⟩ := v1
        unfold prep at hp
        split at hp
        · rename_i vs1 rows1 k1 hco
          obtain ⟨pl1, S1, R1, c1, _⟩ := coerceL_sound I.size (modes g) I.rel (I.zlt hC) h0 (CRs.of (mens_append m2 m1) (vrs_append v2 e2)) hco
          have I1 := I.next (env' := σ.env) (a' := a) S1 (Quiet.refl w) R1 I.nt
          split at hp
          · rename_i ws rs ids hpk
            obtain rfl := Option.some.inj hp
            obtain ⟨p1, p2, p3⟩ := pack_spec hpk
            simp only [if_true] at p1 p2
            have hok2 := renAll_ok p2
            obtain ⟨n1, n2⟩ := c1.out
            have hlent := lent_in (w := w) (pl := pl1) (ids := ids) n1 R1.rows
            generalize hlp : lentOf rows1 ids vs1 = lp at *
            have hZ : ∀ b, (pl1.Z b ∨ Left (some lp) pl1 rows1 ids b) → pl1.Z b ∨ Left (some lp) pl1 rows1 ids b := fun b hb => hb
            have hL : ∀ (p : Prov) (b : Nat), covers (some lp) (numbered 1 ids) p = true → Safe w pl1 rows1 p b → (pl1.Z b ∨ Left (some lp) pl1 rows1 ids b) → LentL pl1 rows1 ids lp b := fun p b hc hs _ => lent_covers p1 R1.zero hc hs
            obtain ⟨q1, q2, q3⟩ := pk_vrs (Z := fun b => pl1.Z b ∨ Left (some lp) pl1 rows1 ids b) (L := LentL pl1 rows1 ids lp) p1 R1.zero hZ hL p2 n1 (n2 hok2)
            have R2 := pk_rel (B' := w.heap.size) (G' := fun b => ∃ r s o, rows1 r = some s ∧ s.live ∧ pl1.at r b o ∧ r ∈ ids) R1 p1 hZ hL (fun r s b o hr hl hloc hm => .inr ⟨r, s, o, hr, hl, hloc, hm⟩)
            have R3 : Rel w.heap.size (fun b => ∃ r s o, rows1 r = some s ∧ s.live ∧ pl1.at r b o ∧ r ∈ ids) (pkPl pl1 ids (fun b => pl1.Z b ∨ Left (some lp) pl1 rows1 ids b) (LentL pl1 rows1 ids lp)) ⟨fun _ => none, rowsOf rs⟩ ⟨#[], []⟩ w :=
              ⟨fun s v hv => (by cases hv), R2.rows, R2.zero, R2.inj, R2.own, rfl⟩
            have hcalls := hgood ⟨w.heap.size, fun b => ∃ r s o, rows1 r = some s ∧ s.live ∧ pl1.at r b o ∧ r ∈ ids, fun b => pl1.Z b ∨ Left (some lp) pl1 rows1 ids b, LentL pl1 rows1 ids lp, rs.length, (pkPl pl1 ids (fun b => pl1.Z b ∨ Left (some lp) pl1 rows1 ids b) (LentL pl1 rows1 ids lp)).loc, w⟩
              (pkPl pl1 ids (fun b => pl1.Z b ∨ Left (some lp) pl1 rows1 ids b) (LentL pl1 rows1 ids lp)) _
              ⟨fun b hb => by
                rcases hb with hb | ⟨_, r0, s0, o0, f1, f2, f3, _⟩
                · exact Nat.lt_of_lt_of_le (I1.zlt hC b hb) I.size
                · exact (R1.own r0 s0 b o0 f1 f2 f3).1, rfl⟩ rfl rfl rfl (fun _ _ _ => rfl) R3 q1 q2 q3
            have hrun := run_call (w := w) hcl ho rfl e1
            unfold Oper.wp
            rw [hrun]
            have hargs : (List.map a.eval as.toList ++ cs.toList).toArray = as.map a.eval ++ cs := by
              apply Array.ext'; simp
            rw [hargs] at hcalls
            refine calls_mono hcalls fun e w' hpost => ?_
            obtain ⟨res, rout, rvs, plr, hres, rfl, Ic, rok, rm, rv⟩ := hpost
            dsimp only at hres
            split at hres
            · rename_i out hout
              split at hres
              · rename_i hfree
                cases hok : out.ok with
                | false => rw [hok] at hres; cases hres
                | true =>
                  rw [hok] at hres
                  simp only [cond_true] at hres
                  unfold done at hout
                  dsimp only at hout hfree
                  split at hout
                  · rename_i bvs ok u hb hbr
                    obtain rfl := Option.some.inj hout
                    simp only at hok hfree hres
                    obtain ⟨b1, b2⟩ := backRows_get hbr
                    have hlong : ids.length ≤ rout.length := by
                      rw [← p1.len]
                      rcases Nat.eq_zero_or_pos rs.length with e | e
                      · omega
                      · obtain ⟨s, g1, _⟩ := Ic.given rs.length (by omega) (Nat.le_refl _)
                        simp only at g1
                        rw [rowsOf_get, if_neg (by omega)] at g1
                        have := (List.getElem?_eq_some_iff.1 g1).1
                        omega
                    have hbk : Bk rows1 ids (key + 1) lp rout u := by
                      refine ⟨hlent, by omega, R1.zero, p1.nodup, hlong, fun id hid => ?_, b1, fun k s hk => ?_, fun k hk1 hk2 => ?_⟩
                      · obtain ⟨j, hj⟩ := List.getElem?_of_mem hid
                        obtain ⟨s, x, g1, _⟩ := p1.get j id hj
                        rw [g1]; simp
                      · obtain ⟨g, x, bb, f1, f2, f3, f4, f5⟩ := b2 k s hk
                        have hkl := (List.getElem?_eq_some_iff.1 hk).1
                        have := back_found (ids := ids) (key := key + 1) (i := 1) hkl
                        rw [f1] at this
                        cases this
                        have hbt := f4 hok
                        subst hbt
                        exact ⟨x, f2, f3, f5⟩
                      · obtain ⟨g, x, bb, f1, f2, f3, f4, f5⟩ := b2 k _ (List.getElem?_eq_getElem hk2)
                        have := back_found (ids := ids) (key := key + 1) (i := 1) hk2
                        rw [f1] at this
                        cases this
                        exact freeAll_get hfree k _ f5 hk1
                    have hD : Duo C.B C.G pl1 rows1 ids lp w w' (pkPl pl1 ids (fun b => pl1.Z b ∨ Left (some lp) pl1 rows1 ids b) (LentL pl1 rows1 ids lp)) plr rout := by
                      refine ⟨fun r s b o h1 h2 h3 => R1.own r s b o h1 h2 h3, fun b hb => ?_, fun b hz hl => ?_, fun r s b o h1 h2 h3 => Ic.rel.own r s b o h1 h2 h3, Ic.rel.inj, fun k id s hk hs hl => ?_, Ic.rel.rows, Ic.size, Ic.keep, Ic.blk⟩
                      · rw [Ic.z]; exact hb
                      · rw [Ic.l] at hl; exact hl
                      · have hkl : k < rs.length := by
                          rw [p1.len]; exact (List.getElem?_eq_some_iff.1 hk).1
                        obtain ⟨s', g1, g2⟩ := Ic.given (k + 1) (by omega) (by simp only; omega)
                        simp only at g1
                        rw [hs] at g1
                        cases g1
                        rw [g2 hl]
                        simp [pkPl, hk]
                    obtain ⟨bm, bv⟩ := bk_vrs hbk hD hb rm rv
                    obtain ⟨fm, fv⟩ := vrs_single bv bm
                    have Sd := done_step hbk hD
                    have Rd := done_rel (dst := o.dst) hbk hD I1.rel I1.nt I1.size rok fm fv
                    have Id := I1.next Sd Ic.quiet Rd (by rw [size_put]; exact I1.nt)
                    exact hK _ _ _ _ hres Id (S1.trans' Sd)
                  · cases hout
              · cases hres
            · cases hres
          · cases hp
        · cases hp
      · cases h
    · cases h
  · rename_i x ho
    split at h
    · rename_i r hx
      split at h
      · rename_i n p kt vt bx l hr
        obtain ⟨i, w', u, hi, hrun, S, q, Rl⟩ := next_sound (o := o) I.rel I.nt (I.zlt hC) I.size ho hx hr
        have I' := I.next S q Rl (by rw [size_put]; exact I.nt)
        have := hK _ _ _ _ (allOf_iff.1 h i hi) I' S
        unfold Oper.wp
        rw [hrun]; exact this
      · cases h
    · cases h
  · rename_i op hop
    split at h
    · rename_i out hout
      split at h
      · rename_i hfree
        exact plain hout hfree h
      · cases h
    · cases h
end
end Go.Proofs.Ytecnlienmpdlaaa.PM
