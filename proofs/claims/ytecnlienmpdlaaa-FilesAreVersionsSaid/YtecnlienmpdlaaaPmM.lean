/- The small machine PM is sound, last part: code, functions. -/
import Derived.Test.YtecnlienmpdlaaaPmI
import Derived.Test.YtecnlienmpdlaaaPmJ
set_option linter.unusedSimpArgs false
set_option linter.unusedVariables false
namespace Go.Proofs.Ytecnlienmpdlaaa.PM
open Go

section
variable {P : Program} {C : Ctx} {nt : Nat} {T : TT} {modes : Nat → List Mode} {R : Type} {callK : Nat → List PV → List RowS → (List PV → List RowS → Option R) → Option R}

theorem getD_of {a : Act} {s : Nat} (h : s < a.tmps.size) : a.tmps[s]? = some (a.tmps.getD s undef) := by
  simp [Array.getD_eq_getD_getElem?, h]

theorem setEnv_inv {pl : Pl} {σ : St} {a : Act} {w : World} (I : Inv C nt pl σ a w) {d : Nat} {v : PV} (hd : d < a.tmps.size) (hm : Men σ.rows v) (hv : VR w pl σ.rows v (a.tmps.getD d undef)) :
    Inv C nt pl ⟨upd σ.env d (some v), σ.rows⟩ a w := by
  refine ⟨⟨fun s x hx => ?_, I.rel.rows, I.rel.zero, I.rel.inj, I.rel.own, I.rel.defers⟩, I.z, I.l, I.nt, I.size, I.quiet, I.keep, I.blk, I.given⟩
  simp only [upd_at] at hx
  by_cases e : s = d
  · rw [if_pos e] at hx
    obtain rfl := Option.some.inj hx
    subst e
    exact ⟨hd, hm, fun _ => hv⟩
  · rw [if_neg e] at hx
    exact I.rel.env s x hx

theorem doOps_sound (hT : TTok P T) (hC : C.Ok) (hcall : ∀ g ws rs K r, callK g ws rs K = some r → Callable P g ∧ Good P g ws rs (fun res rout => K res rout = some r))
    {ops : Array Oper} {rid : Nat} {K : St → Option R} {r : R} {Q : Exit → Act → World → Prop} (hK : ∀ σ' pl' a' w', K σ' = some r → Inv C nt pl' σ' a' w' → Q .normal a' w') :
    ∀ (l : List Oper) (i : Nat) {pl : Pl} {σ : St} {a : Act} {w : World}, Inv C nt pl σ a w → doOps T modes nt callK ops rid i l σ K = some r → wpList P ops Q l a w
  | [], i, pl, σ, a, w, I, h => hK _ _ _ _ h I
  | o :: l, i, pl, σ, a, w, I, h => by
    have key0 : ((rid + 1) * 2048 + i) * 8 ≠ 0 := by omega
    simp only [doOps] at h
    unfold wpList
    split at h
    · rename_i hg
      have hw : Region.wanted o (yielded ops a.tmps) = true := by simp [Region.wanted, hg]
      rw [if_pos hw]
      exact .inl (doOp_sound hT hC hcall I key0 h fun σ' pl' u w' h1 h2 _ => doOps_sound hT hC hcall hK l (i + 1) h2 h1)
    · rename_i j want hg
      split at h
      · rename_i d hd
        split at h
        · rename_i b he
          obtain ⟨e1, e2, e3⟩ := I.rel.env d _ he
          have hb := isBool (e3 rfl)
          have hyb : yielded ops a.tmps j = some b := by
            have := getD_of e1
            rw [hb] at this
            simp [yielded, hd, this]
          cases hbw : (b == want) with
          | true =>
            rw [hbw] at h
            simp only [cond_true] at h
            have hbw' : b = want := by simpa using hbw
            have hw : Region.wanted o (yielded ops a.tmps) = true := by simp [Region.wanted, hg, hyb, hbw']
            rw [if_pos hw]
            have I' := setEnv_inv I e1 (men_bool σ.rows want) (v := mb want) (by rw [hb, hbw']; rfl)
            exact .inl (doOp_sound hT hC hcall I' key0 h fun σ' pl' u w' h1 h2 _ => doOps_sound hT hC hcall hK l (i + 1) h2 h1)
          | false =>
            rw [hbw] at h
            simp only [cond_false] at h
            have hbw' : b = !want := by cases b <;> cases want <;> simp at hbw ⊢
            have hw : ¬ Region.wanted o (yielded ops a.tmps) = true := by
              simp only [Region.wanted, hg, hyb]
              cases b <;> cases want <;> simp at hbw' ⊢
            rw [if_neg hw]
            have I' := setEnv_inv I e1 (men_bool σ.rows (!want)) (v := mb (!want)) (by rw [hb, hbw']; rfl)
            have R' := I'.rel.putUnd I'.nt o.dst
            exact doOps_sound hT hC hcall hK l (i + 1) ⟨R', I.z, I.l, by rw [size_put]; exact I.nt, I.size, I.quiet, I.keep, I.blk, I.given⟩ h
        · rename_i he
          obtain ⟨e1, e2, e3⟩ := I.rel.env d _ he
          have hb : a.tmps.getD d undef = undef := e3 rfl
          have hyb : yielded ops a.tmps j = none := by
            have := getD_of e1
            rw [hb] at this
            simp [yielded, hd, this, undef]
          have hw : ¬ Region.wanted o (yielded ops a.tmps) = true := by simp [Region.wanted, hg, hyb]
          rw [if_neg hw]
          have R' := I.rel.putUnd I.nt o.dst
          exact doOps_sound hT hC hcall hK l (i + 1) ⟨R', I.z, I.l, by rw [size_put]; exact I.nt, I.size, I.quiet, I.keep, I.blk, I.given⟩ h
        · cases h
      · cases h

theorem entered_sound (hC : C.Ok) {spec : Option (List (Nat × Mode))} {key : Nat} (h0 : key ≠ 0) {pl : Pl} {σ : St} {a : Act} {w : World} (I : Inv C nt pl σ a w) {K : St → Option R} {r : R} (h : entered C.n σ spec key K = some r) :
    ∃ σ' pl', K σ' = some r ∧ Inv C nt pl' σ' a w := by
  unfold entered at h
  split at h
  · split at h
    · rename_i st' hn
      obtain ⟨pl', I'⟩ := norm_sound hC I h0 hn
      exact ⟨_, pl', h, I'⟩
    · cases h
  · exact ⟨σ, pl, h, I⟩

theorem iter_sound {P : Program} {c : Code} {Q : Exit → Act → World → Prop} {rest : St → (St → Option R) → Option R} {body : St → (St → Option R) → Option R} {r : R}
    (hrest : ∀ {σ pl a w K}, Inv C nt pl σ a w → rest σ K = some r → ∃ σ' pl', K σ' = some r ∧ Inv C nt pl' σ' a w)
    (hbody : ∀ {σ pl a w N}, Inv C nt pl σ a w → body σ N = some r → ∀ {Q' : Exit → Act → World → Prop}, (∀ σ' pl' a' w', N σ' = some r → Inv C nt pl' σ' a' w' → Q' .normal a' w') → (∀ e a' w', e ≠ .normal → Q e a' w' → Q' e a' w') → c.wp P Q' a w) :
    ∀ (m : Nat) {σ pl a w}, Inv C nt pl σ a w → iter rest m body σ = some r → Code.rounds P c Q m a w
  | 0, σ, pl, a, w, I, h => by cases h
  | m + 1, σ, pl, a, w, I, h => by
    rw [rounds_succ]
    refine hbody I h (fun σ' pl' a' w' hN I' => ?_) (fun e a' w' he hq => ?_)
    · obtain ⟨σ2, pl2, h2, I2⟩ := hrest I' hN
      exact iter_sound hrest hbody m I2 h2
    · cases e <;> first | exact absurd rfl he | exact hq

theorem exec_sound (hm : P.follows .mixedOrders = true) (hT : TTok P T) (hC : C.Ok) (hdet : Det callK) (hcall : ∀ g ws rs K r, callK g ws rs K = some r → Callable P g ∧ Good P g ws rs (fun res rout => K res rout = some r)) {an : Ann} {k : Nat} {Rt : St → Option R} {r : R} :
    ∀ (c : Code) {pl : Pl} {σ : St} {a : Act} {w : World} {N : St → Option R} {X : Nat → St → Option R} {Q : Exit → Act → World → Prop}, Inv C nt pl σ a w → exec T an modes C.n k nt callK Rt c σ N X = some r →
      (∀ σ' pl' a' w', N σ' = some r → Inv C nt pl' σ' a' w' → Q .normal a' w') → (∀ j σ' pl' a' w', X j σ' = some r → Inv C nt pl' σ' a' w' → Q (.exit j) a' w') →
      (∀ σ' pl' a' w', Rt σ' = some r → Inv C nt pl' σ' a' w' → Q .ret a' w') → c.wp P Q a w := by
  intro c
  induction c with
  | skip =>
    intro pl σ a w N X Q I h hN hX hR
    exact wp_skip (hN _ _ _ _ h I)
  | region id ops draw =>
    intro pl σ a w N X Q I h hN hX hR
    simp only [exec] at h
    split at h
    · rename_i hd
      subst hd
      split at h
      · rename_i fps hf
        split at h
        · rename_i hok
          obtain ⟨σ1, pl1, h1, I1⟩ := entered_sound hC (by omega) I h
          exact draw_sound hm hT hC hcall hdet hok I1 h1 hN
        · cases h
      · cases h
    · rename_i hd
      have hd' : draw = false := by simpa using hd
      subst hd'
      obtain ⟨σ1, pl1, h1, I1⟩ := entered_sound hC (by omega) I h
      exact wp_region_list (doOps_sound hT hC hcall hN ops.toList 0 I1 h1)
  | seq x y ihx ihy =>
    intro pl σ a w N X Q I h hN hX hR
    simp only [exec] at h
    refine wp_seq (ihx I h (fun σ' pl' a' w' h1 I1 => ?_) (fun j σ' pl' a' w' h1 I1 => hX j σ' pl' a' w' h1 I1) (fun σ' pl' a' w' h1 I1 => hR σ' pl' a' w' h1 I1))
    exact ihy I1 h1 hN hX hR
  | cond cc x y ihx ihy =>
    intro pl σ a w N X Q I h hN hX hR
    simp only [exec] at h
    obtain ⟨σ0, pl0, h0, I0⟩ := entered_sound hC (by omega) I h
    have hfi : ∀ σ' pl' a' w', fiN an C.n x y N σ' = some r → Inv C nt pl' σ' a' w' → Q .normal a' w' := by
      intro σ' pl' a' w' h1 I1
      obtain ⟨σ2, pl2, h2, I2⟩ := entered_sound hC (by omega) I1 h1
      exact hN _ _ _ _ h2 I2
    have hcx : ∀ j σ' pl' a' w', condX an C.n x y X j σ' = some r → Inv C nt pl' σ' a' w' → Q (.exit j) a' w' := by
      intro j σ' pl' a' w' h1 I1
      simp only [condX] at h1
      cases hc : findN an.ifs (condKey x y) with
      | none =>
        rw [hc] at h1
        exact hX _ _ _ _ _ h1 I1
      | some sp =>
        rw [hc] at h1
        obtain ⟨σ2, pl2, h2, I2⟩ := entered_sound hC (by omega) I1 h1
        exact hX _ _ _ _ _ h2 I2
    split at h0
    · rename_i p b hc
      obtain ⟨_, g, _⟩ := I0.rel.look hc
      have hb := isBool g
      refine wp_cond hb ?_
      cases b with
      | true => exact ihx I0 h0 hfi hcx hR
      | false => exact ihy I0 h0 hfi hcx hR
    · cases h0
  | block id b ih =>
    intro pl σ a w N X Q I h hN hX hR
    simp only [exec] at h
    have hleave : ∀ σ' pl' a' w', leave an C.n id N σ' = some r → Inv C nt pl' σ' a' w' → Q .normal a' w' := by
      intro σ' pl' a' w' h1 I1
      obtain ⟨σ2, pl2, h2, I2⟩ := entered_sound hC (by omega) I1 h1
      exact hN _ _ _ _ h2 I2
    obtain ⟨σ0, pl0, h0, I0⟩ := entered_sound hC (by omega) I h
    refine wp_block (ih I0 h0 (fun σ' pl' a' w' h1 I1 => hleave _ _ _ _ h1 I1) (fun j σ' pl' a' w' h1 I1 => ?_) (fun σ' pl' a' w' h1 I1 => hR σ' pl' a' w' h1 I1))
    unfold outX at h1
    by_cases hj : j = id
    · subst hj
      simp at h1
      simp only [Exit.inBlock, if_true]
      exact hleave _ _ _ _ h1 I1
    · have : (j == id) = false := by simpa using hj
      rw [this] at h1
      simp only [Exit.inBlock, if_neg hj]
      obtain ⟨σ2, pl2, h2, I2⟩ := entered_sound hC (by omega) I1 (show entered C.n σ' (findN an.blocks j) ((j + 1) * 16384 + 16200) (X j) = some r from h1)
      exact hX _ _ _ _ _ h2 I2
  | loop b ih =>
    intro pl σ a w N X Q I h hN hX hR
    simp only [exec] at h
    unfold atHead at h
    obtain ⟨σ1, pl1, h1, I1⟩ := entered_sound hC (by omega) I h
    refine wp_loop_rounds k (iter_sound (Q := Q) (fun I' h' => ?_) (fun I' h' Q' hq1 hq2 => ?_) k I1 h1)
    · exact entered_sound hC (by omega) I' h'
    · exact ih I' h' hq1 (fun j σ' pl' a' w' h2 I2 => hq2 _ _ _ (by simp) (hX j σ' pl' a' w' h2 I2)) (fun σ' pl' a' w' h2 I2 => hq2 _ _ _ (by simp) (hR σ' pl' a' w' h2 I2))
  | exit id =>
    intro pl σ a w N X Q I h hN hX hR
    exact wp_exit (hX _ _ _ _ _ h I)
  | ret =>
    intro pl σ a w N X Q I h hN hX hR
    exact wp_ret (hR _ _ _ _ h I)
  | _ =>
    intros
    rename_i h _ _ _
    simp [exec] at h
end

/-! ### functions -/
section
variable {P : Program} {T : TT}

theorem cell_load (hT : TTok P T) {B : Nat} {G : Nat → Prop} {pl : Pl} {σ : St} {a : Act} {w : World} (R : Rel B G pl σ a w) {c t r off n : Nat} {x : List PV} {v : PV} (hl : look σ (.tmp c) = some (.ptr r off)) (hr : σ.rows r = some ⟨n, .vars x⟩) (hs : subAt T t x off = some v) :
    ∃ ad u, a.tmps.getD c undef = .pointer (some ad) ∧ (loadVar t ad).run P w = .ok u w ∧ Men σ.rows v ∧ (okPV σ.rows v = true → VR w pl σ.rows v u) := by
  obtain ⟨_, ⟨_, g2⟩, _⟩ := R.look hl
  obtain ⟨b, _, hv⟩ := g2 n x hr
  have hev : a.eval (.tmp c) = .pointer (some ⟨b, off, none⟩) := hv
  obtain ⟨_, v', e1, e2, u, e3, e4⟩ := op_load (P := P) hT R (o := ⟨none, .load t (.tmp c), 0, "", #[], none⟩) (key := 1) rfl (out := ⟨true, some v, []⟩) (by simp only [opOut, hl, hr, hs]; rfl)
  cases e1
  have e : execOp a.eval ⟨none, .load t (.tmp c), 0, "", #[], none⟩ = (do let v ← Instr.loadAt t (a.eval (.tmp c)); pure (.value v)) := by simp only [execOp]
  refine ⟨_, u, hev, ?_, e2, e4⟩
  have hrun : ∀ q, (execOp a.eval ⟨none, .load t (.tmp c), 0, "", #[], none⟩).run P w = q → ((loadVar t ⟨b, off, none⟩).run P w).andThen (fun v w' => .ok (.value v) w') = q := by
    intro q hq
    rw [e, hev] at hq
    simpa [Instr.loadAt, Instr.sureAddr] using hq
  rcases e3 with e3 | ⟨_, e3⟩
  · have := hrun _ e3
    cases hq : (loadVar t ⟨b, off, none⟩).run P w with
    | ok y w' => rw [hq] at this; simp only [Result.andThen] at this; cases this; rfl
    | halt y w' => rw [hq] at this; simp only [Result.andThen] at this; cases this
  · have := hrun _ e3
    cases hq : (loadVar t ⟨b, off, none⟩).run P w with
    | ok y w' => rw [hq] at this; simp only [Result.andThen] at this; cases this
    | halt y w' => rw [hq] at this; simp only [Result.andThen] at this; cases this

theorem resPV_sound (hT : TTok P T) {B : Nat} {G : Nat → Prop} {pl : Pl} {σ : St} {a : Act} {w : World} (R : Rel B G pl σ a w) : ∀ {l : List ResultVar} {vs : List PV}, resPV T σ l = some vs →
    ∃ us, CRs w pl σ.rows vs us ∧ ∀ f : ResultVar → Sem Value, (∀ t, f (.tmp t) = pure (a.tmps.getD t undef)) → (∀ c t, f (.cell c t) = (do loadVar t (← asAddr (a.tmps.getD c undef)))) → (l.mapM f).run P w = .ok us w
  | [], vs, h => by
    obtain rfl := Option.some.inj h
    exact ⟨[], rfl, fun f hf _ => by simp⟩
  | .tmp t :: l, vs, h => by
    simp only [resPV] at h
    split at h
    · rename_i v vs' hv hvs
      obtain rfl := Option.some.inj h
      obtain ⟨g1, g2, g3⟩ := R.look hv
      obtain ⟨us, e1, e2⟩ := resPV_sound hT R hvs
      refine ⟨a.tmps.getD t undef :: us, ⟨_, _, rfl, ⟨g1, fun _ => g2⟩, e1⟩, fun f hf hc => ?_⟩
      rw [List.mapM_cons, hf]
      simp only [Sem.run_bind, Sem.run_pure, Result.andThen, e2 f hf hc]
    · cases h
  | .cell c t :: l, vs, h => by
    simp only [resPV] at h
    split at h
    · rename_i r off hl
      split at h
      · rename_i n x hr
        split at h
        · rename_i v vs' hs hvs
          split at h
          · obtain rfl := Option.some.inj h
            obtain ⟨ad, u, k1, k2, k3, k4⟩ := cell_load hT R hl hr hs
            obtain ⟨us, e1, e2⟩ := resPV_sound hT R hvs
            refine ⟨u :: us, ⟨_, _, rfl, ⟨k3, k4⟩, e1⟩, fun f hf hc => ?_⟩
            rw [List.mapM_cons, hc, k1]
            simp only [asAddr, Sem.run_bind, Sem.run_pure, Result.andThen, k2, e2 f hf hc]
          · cases h
        · cases h
      · cases h
    · cases h

theorem argEnv_get : ∀ {l : List PV} {i : Nat} {e : Env} {s : Nat} {v : PV}, argEnv i l e s = some v → (∃ j, s = i + j ∧ l[j]? = some v) ∨ e s = some v
  | [], i, e, s, v, h => .inr h
  | x :: l, i, e, s, v, h => by
    simp only [argEnv] at h
    rcases argEnv_get h with ⟨j, h1, h2⟩ | h1
    · exact .inl ⟨j + 1, by omega, by simpa using h2⟩
    · rw [upd_at] at h1
      by_cases hs : s = i
      · rw [if_pos hs] at h1
        exact .inl ⟨0, by omega, by simpa using h1⟩
      · rw [if_neg hs] at h1
        exact .inr h1

/-- The functions of the small machine are the program's. -/
def ExtOk (P : Program) (g : Nat) (spec : List PV → List RowS → Option (List PV × List RowS)) : Prop := Callable P g ∧ ∀ ws rs res rout, spec ws rs = some (res, rout) → Good P g ws rs (fun a b => a = res ∧ b = rout)
structure Fok (P : Program) (F : Nat → Option PFn) : Prop where
  mixed : P.follows .mixedOrders = true
  code : ∀ g fn an, F g = some (.code fn an) → P.funcs[g]? = some fn ∧ fn.name ≠ "runtime.NumGoroutine"
  ext : ∀ g m spec, F g = some (.ext m spec) → ExtOk P g spec

theorem CRs.append {w : World} {pl : Pl} {rows : Rows} : ∀ {l l2 : List PV} {us us2 : List Value}, CRs w pl rows l us → CRs w pl rows l2 us2 → CRs w pl rows (l ++ l2) (us ++ us2)
  | [], _, us, _, h, h2 => by rw [show us = [] from h]; exact h2
  | _ :: _, _, _, _, h, h2 => by
    obtain ⟨u, us', rfl, h1, h3⟩ := h
    exact ⟨u, us' ++ _, rfl, h1, CRs.append h3 h2⟩
theorem CRs.take {w : World} {pl : Pl} {rows : Rows} : ∀ {l : List PV} {us : List Value} (n : Nat), CRs w pl rows l us → CRs w pl rows (l.take n) (us.take n)
  | [], us, n, h => by rw [show us = [] from h]; simp [CRs]
  | _ :: _, us, 0, h => by simp [CRs]
  | _ :: _, us, n + 1, h => by
    obtain ⟨u, us', rfl, h1, h3⟩ := h
    exact ⟨u, us'.take n, rfl, h1, CRs.take n h3⟩
theorem given_sound {B : Nat} {G : Nat → Prop} {pl : Pl} {σ : St} {a : Act} {w : World} (R : Rel B G pl σ a w) : ∀ n, ∃ gs, CRs w pl σ.rows (givenPV σ.rows n) gs
  | 0 => ⟨[], rfl⟩
  | n + 1 => by
    obtain ⟨gs, h⟩ := given_sound R n
    simp only [givenPV]
    split
    · rename_i k l hr
      obtain ⟨_, b, arr, Te, fr, e0, _⟩ := R.rows _ _ hr
      exact ⟨gs ++ [.pointer (some ⟨b, 0, none⟩)], h.append ⟨_, [], rfl, ⟨by simp [Men, hr], fun _ => ⟨⟨rfl, ⟨_, rfl⟩, fun n i p kt vt bx l tk hr' => (by rw [hr] at hr'; cases hr')⟩, fun n l _ => ⟨b, e0, rfl⟩⟩⟩, rfl⟩⟩
    · exact ⟨gs ++ [.slice none 0 0], h.append ⟨.slice none 0 0, [], rfl, ⟨trivial, fun _ => (rfl : Value.slice none 0 0 = .slice none 0 0)⟩, rfl⟩⟩

theorem finish_sound (hT : TTok P T) {C : Ctx} {nt : Nat} {pl : Pl} {σ : St} {a : Act} {w : World} (hC : C.Ok) (I : Inv C nt pl σ a w) {fn : Func} {an : Ann} {res : List PV} {rout : List RowS} (h : finish T fn an C.n σ = some (res, rout)) :
    ∃ us pl', (results fn a.tmps).run P w = .ok (tupVal us) w ∧ Inv C 0 pl' ⟨fun _ => none, rowsOf rout⟩ ⟨#[], []⟩ w ∧ (∀ i s, rowsOf rout i = some s → rowOk (rowsOf rout) s.row) ∧ Mens (rowsOf rout) res ∧ VRs w pl' (rowsOf rout) res us := by
  unfold finish at h
  split at h
  · rename_i vs hvs
    obtain ⟨us, c1, hrun⟩ := resPV_sound (P := P) hT I.rel hvs
    split at h
    · rename_i vs' rows1 k1 hco
      obtain ⟨gs, cg⟩ := given_sound I.rel C.n
      obtain ⟨pl1, S1, R1, c2', _⟩ := coerceL_sound I.size an.results I.rel (I.zlt hC) (by decide) (c1.append cg) hco
      have c2 := c2'.take vs.length
      rw [show (us ++ gs).take vs.length = us by rw [← c1.len]; simp] at c2
      have I1 := I.next (env' := σ.env) (a' := a) S1 (Quiet.refl w) R1 I.nt
      split at h
      · rename_i ws rs ids hpk
        simp only [Option.some.injEq, Prod.mk.injEq] at h
        obtain ⟨rfl, rfl⟩ := h
        obtain ⟨p1, p2, p3⟩ := pack_spec hpk
        have hZ : ∀ b, C.Z b → pl1.Z b ∨ Left none pl1 rows1 ids b := fun b hb => .inl (by rw [I1.z]; exact hb)
        have hL : ∀ (p : Prov) (b : Nat), covers none (numbered 1 ids) p = true → Safe w pl1 rows1 p b → C.Z b → C.L b := fun p b _ hs hz => by rw [← I1.l]; exact (hs.2.1 (by rw [I1.z]; exact hz)).1
        simp only [Bool.false_eq_true, if_false] at p1 p2
        have hok := renAll_ok p2
        obtain ⟨m1, m2⟩ := c2.out
        obtain ⟨q1, q2, q3⟩ := pk_vrs (Z := C.Z) (L := C.L) p1 R1.zero hZ hL p2 m1 (m2 hok)
        have R2 := pk_rel (B' := C.B) (G' := C.G) R1 p1 hZ hL (fun r s b o hr hl hloc _ => (R1.own r s b o hr hl hloc).2.2)
        refine ⟨us, pkPl pl1 ids C.Z C.L, ?_, ⟨⟨fun s v hv => (by cases hv), R2.rows, R2.zero, R2.inj, R2.own, rfl⟩, rfl, rfl, Nat.zero_le _, I.size, I.quiet, I.keep, I.blk, fun i h1 h2 => ?_⟩, fun i s hr => ?_, q1, q3⟩
        · have hvec : ∀ (x : List Value), (if h : x.toArray.size = 1 then x.toArray[0] else Value.tuple x.toArray) = tupVal x := by
            intro x
            match x with
            | [] => rfl
            | [y] => rfl
            | y :: z :: l => simp [tupVal]
          unfold results
          rw [Array.mapM_eq_mapM_toList]
          simp only [Sem.run_bind, Sem.run_map]
          rw [hrun]
          · simp only [Result.andThen, Sem.run_pure, hvec]
          · intro t; rfl
          · intro c t; rfl
        · obtain ⟨s, g1, g2⟩ := I1.given i h1 h2
          have hi : ids[i - 1]? = some i := by rw [p3 (i - 1) (by omega)]; congr 1; omega
          obtain ⟨s', x, e1, e2, e3⟩ := p1.get _ _ hi
          simp only at g1
          rw [g1] at e1
          cases e1
          refine ⟨⟨0, x⟩, ?_, fun hl => ?_⟩
          · simp only
            rw [rowsOf_get, if_neg (by omega)]; exact e3
          · simp only [pkPl, if_neg (show ¬ i = 0 by omega), hi, Option.bind_some]
            exact g2 (fun e => hl ((renRow_live e2).2 e))
        · obtain ⟨k, id, s0, x, rfl, hk, hf, g1, g2, rfl, g3⟩ := p1.at (pl := pl1) (Z := C.Z) (L := C.L) hr
          exact pk_rowOk p1 R1.zero g2 (R1.rows id s0 g1)
      · cases h
    · cases h
  · cases h

theorem callC_sound {R : Type} (hT : TTok P T) {F : Nat → Option PFn} (hF : Fok P F) : ∀ (k g : Nat) (ws : List PV) (rs : List RowS) (K : List PV → List RowS → Option R) (r : R), callC T F k g ws rs K = some r → Callable P g ∧ Good P g ws rs (fun res rout => K res rout = some r)
  | 0, g, ws, rs, K, r, h => by cases h
  | k + 1, g, ws, rs, K, r, h => by
    simp only [callC] at h
    split at h
    · rename_i fn an hg
      split at h
      · rename_i c hc
        obtain ⟨h1, h2⟩ := hF.code g fn an hg
        refine ⟨⟨fn, c, h1, hc, h2⟩, ?_⟩
        intro C pl us hC hn hz hl hloc Rl hm hok hv
        refine calls_of_wp h1 hc ?_
        rw [← hn] at h
        have hsize : (us.toArray ++ Array.replicate (fn.ntmps - us.toArray.size) undef).size = max us.length fn.ntmps := by simp; omega
        have I0 : Inv C fn.ntmps pl ⟨argEnv 0 ws (fun _ => none), rowsOf rs⟩ ⟨us.toArray ++ Array.replicate (fn.ntmps - us.toArray.size) undef, []⟩ C.w0 := by
          refine ⟨⟨fun s v hs => ?_, Rl.rows, Rl.zero, Rl.inj, Rl.own, rfl⟩, hz, hl, by simp only; rw [hsize]; omega, by rw [hC.size]; exact Nat.le_refl _, Quiet.refl _, fun _ _ _ => rfl, fun b arr Te fr h => ⟨arr, Te, fr, h, rfl⟩, fun i h1 h2 => ?_⟩
          · rcases argEnv_get hs with ⟨j, e, hj⟩ | e
            · have e' : s = j := by omega
              subst e'
              obtain ⟨u, g1, g2⟩ := vrs_get hv s v hj
              have hlt := (List.getElem?_eq_some_iff.1 g1).1
              refine ⟨by simp only; rw [hsize]; omega, mens_mem hm v (List.mem_of_getElem? hj), fun _ => ?_⟩
              have : (us.toArray ++ Array.replicate (fn.ntmps - us.toArray.size) undef).getD s undef = u := by
                rw [Array.getD_eq_getD_getElem?, Array.getElem?_append_left (by simpa using hlt)]
                simp [g1]
              simp only [this]
              exact g2
            · cases e
          · rw [hn] at h2
            refine ⟨rs[i - 1]'(by omega), by simp only; rw [rowsOf_get, if_neg (by omega)]; exact List.getElem?_eq_getElem (by omega), fun _ => (hloc i h1 (by rw [hn]; exact h2)).symm⟩
        have fin : ∀ σ' pl' a' w', ending T fn an C.n K σ' = some r → Inv C fn.ntmps pl' σ' a' w' → a'.defers = [] ∧ ∃ v, (results fn a'.tmps).run P w' = .ok v w' ∧
            ∃ res rout vs pl', K res rout = some r ∧ Ending.returned v = .returned (tupVal vs) ∧ Inv C 0 pl' ⟨fun _ => none, rowsOf rout⟩ ⟨#[], []⟩ w' ∧ (∀ i s, rowsOf rout i = some s → rowOk (rowsOf rout) s.row) ∧ Mens (rowsOf rout) res ∧ VRs w' pl' (rowsOf rout) res vs := by
          intro σ' pl' a' w' he I1
          unfold ending at he
          split at he
          · rename_i x hx
            obtain ⟨us', pl2, hr, I2, e1, e2, e3⟩ := finish_sound (P := P) hT hC I1 hx
            exact ⟨I1.rel.defers, _, hr, x.1, x.2, us', pl2, he, rfl, I2, e1, e2, e3⟩
          · cases he
        refine exec_sound hF.mixed hT hC (callC_det k) (fun g' ws' rs' K' r' hk => callC_sound hT hF k g' ws' rs' K' r' hk) c I0 h (fun σ' pl' a' w' h1 I1 => fin _ _ _ _ h1 I1) (fun j σ' pl' a' w' h1 I1 => by cases h1) (fun σ' pl' a' w' h1 I1 => fin _ _ _ _ h1 I1)
      · cases h
    · rename_i m spec hg
      split at h
      · rename_i x hx
        obtain ⟨h1, h2⟩ := hF.ext g m spec hg
        refine ⟨h1, fun C pl us a1 a2 a3 a4 a5 a6 a7 a8 a9 => calls_mono (h2 ws rs x.1 x.2 hx C pl us a1 a2 a3 a4 a5 a6 a7 a8 a9) fun e w' hp => ?_⟩
        obtain ⟨res, rout, vs, pl', ⟨rfl, rfl⟩, hp⟩ := hp
        exact ⟨_, _, vs, pl', h, hp⟩
      · cases h
    · cases h
end
end Go.Proofs.Ytecnlienmpdlaaa.PM
