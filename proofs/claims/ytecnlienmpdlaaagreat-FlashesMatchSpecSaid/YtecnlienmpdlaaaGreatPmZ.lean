import Derived.Test.YtecnlienmpdlaaaGreatPmI
import Derived.WalkSpells
set_option linter.unusedSimpArgs false
set_option linter.unusedVariables false
namespace Go.Proofs.YtecnlienmpdlaaaGreat.PM
open Go
noncomputable def Q3k (ty : Ty) (bytes : Nat) (args : List PV) (rows : List RowS) : Option (List PV × List RowS) := match args, rows with
 | [.val [(0, 0)] (.slice t) l], [] => if h : t = ty then (bif decide (l.length ≤ LIM bytes) then some ([.rw 1], [⟨0, .arr (flatP ty [(0, 0)]) ty (h ▸ l)⟩]) else none) else none
 | _, _ => none
section
variable {P : Program} {T : TT}
theorem Q160 {fn : Func} {ws : List PV} {rs : List RowS} {C : Ctx} {pl : Pl} {us : List Value} (hC : C.Ok) (hn : C.n = rs.length) (hz : pl.Z = C.Z) (hl : pl.L = C.L) (hloc : ∀ i, 1 ≤ i → i ≤ C.n → C.loc0 i = pl.loc i)
  (Rl : Rel C.B C.G pl ⟨fun _ => none, rowsOf rs⟩ ⟨#[], []⟩ C.w0) (hm : Mens (rowsOf rs) ws) (hok : okPV.okAll (rowsOf rs) ws = true) (hv : VRs C.w0 pl (rowsOf rs) ws us) :
  Inv C fn.ntmps pl ⟨argEnv 0 ws (fun _ => none), rowsOf rs⟩ ⟨us.toArray ++ Array.replicate (fn.ntmps - us.toArray.size) undef, []⟩ C.w0 := by
 have hsize : (us.toArray ++ Array.replicate (fn.ntmps - us.toArray.size) undef).size = max us.length fn.ntmps := by simp; omega
 refine ⟨⟨fun s v hs => ?_, Rl.rows, Rl.zero, Rl.inj, Rl.own, rfl⟩, hz, hl, by simp only; rw [hsize]; omega, by rw [hC.size]; exact Nat.le_refl _, Quiet.refl _, fun _ _ _ => rfl, fun b arr Te fr h => ⟨arr, Te, fr, h, rfl⟩, fun i h1 h2 => ?_⟩
 ·rcases Q8s hs with ⟨j, e, hj⟩ | e
  ·have e' : s = j := by omega
   subst e'
   obtain ⟨u, g1, g2⟩ := Q2s hv s v hj
   have hlt := (List.getElem?_eq_some_iff.1 g1).1
   refine ⟨by simp only; rw [hsize]; omega, Qq hm v (List.mem_of_getElem? hj), fun _ => ?_⟩
   have : (us.toArray ++ Array.replicate (fn.ntmps - us.toArray.size) undef).getD s undef = u := by
    rw [Array.getD_eq_getD_getElem?, Array.getElem?_append_left (by simpa using hlt)]
    simp [g1]
   simp only [this]
   exact g2
  ·cases e
 ·rw [hn] at h2
  refine ⟨rs[i - 1]'(by omega), by simp only; rw [Q1b, if_neg (by omega)]; exact List.getElem?_eq_getElem (by omega), fun _ => (hloc i h1 (by rw [hn]; exact h2)).symm⟩
noncomputable def noCall {R : Type} (_ : Nat) (_ : List PV) (_ : List RowS) (_ : List PV → List RowS → Oq R) : Oq R := none
open Classical in
theorem Qtb (hmix : P.follows .mixedOrders = true) (hT : TTok P T) {g : Nat} {fn : Func} {an : Ann} {i0 i1 : Nat} {ops0 : Array Oper} {o1 o2 : Oper} {c2 t2 : Code} {ts e yt : Nat} {ty : Ty} {bytes : Nat}
  (hg : P.funcs[g]? = some fn) (hname : (fn.name == "runtime.NumGoroutine") = false) (hbody : fn.body = some (.seq (.region i0 ops0 false) (.seq (.seq (.region i1 #[o1, o2] false) c2) t2)))
  (h1 : o1.op = .move (.tmp 0)) (d1 : o1.dst = some 3) (g1 : o1.guard = none) (h2 : o2.op = .binOp .eql ts (.tmp 3) (.const (.slice none 0 0)) yt) (d2 : o2.dst = some 4) (g2 : o2.guard = none) (hnt : (decide (4 < fn.ntmps)) = true)
  (hts : P.underlying ts = some (.slice e)) (st1 : List ty.D → St) (hst : ∀ l, (st1 l).env 0 = some (.val [(0, 0)] (.slice ty) l)) (hrows : ∀ l, (st1 l).rows = rowsOf [])
  (run0 : ∀ (l : List ty.D) (K : St → Option Unit) X, exec T an (fun _ => []) 0 0 fn.ntmps noCall (fun _ => none) (.region i0 ops0 false) ⟨argEnv 0 [.val [(0, 0)] (.slice ty) l] (fun _ => none), rowsOf []⟩ K X = K (st1 l))
  (run1 : ∀ (b : Bool) (l : List ty.D) (K : List PV → List RowS → Option Unit), (b = true → l = []) → decide (l.length ≤ LIM bytes) = true →
   exec T an (fun _ => []) 0 0 fn.ntmps noCall (ending T fn an 0 K) (.seq c2 t2) ⟨upd (upd (st1 l).env 3 (some (.val [(0, 0)] (.slice ty) l))) 4 (some (mb b)), (st1 l).rows⟩ (ending T fn an 0 K) (fun _ _ => none) = K [.rw 1] [⟨0, .arr (flatP ty [(0, 0)]) ty l⟩]) :
  ExtOk P g (Q3k ty bytes) := by
 have hcl : Q1o P g := ⟨fn, _, hg, hbody, by simpa using hname⟩
 refine ⟨hcl, fun ws rs res rout hspec => ?_⟩
 unfold Q3k at hspec
 split at hspec
 ·rename_i t l
  split at hspec
  ·rename_i ht
   subst ht
   cases hlim : decide (l.length ≤ LIM bytes) with
   | false => rw [hlim] at hspec; cases hspec
   | true =>
     rw [hlim] at hspec
     simp only [cond_true, Option.some.injEq, Prod.mk.injEq] at hspec
     obtain ⟨rfl, rfl⟩ := hspec
     intro C pl us hC hn hz hl hloc Rl hm hok hv
     have hn0 : C.n = 0 := hn
     refine calls_of_wp hg hbody ?_
     have I0 := Q160 (fn := fn) hC hn hz hl hloc Rl hm hok hv
     have nc : ∀ g ws rs (K : List PV → List RowS → Option Unit) r, noCall g ws rs K = some r → Q1o P g ∧ Good P g ws rs (fun res rout => K res rout = some r) := fun g ws rs K r h => by cases h
     have nd : Det (noCall (R := Unit)) := fun g ws rs => Rch.fail
     have hnt' : 4 < fn.ntmps := of_decide_eq_true hnt
     refine wp_seq (Q6d (an := an) (modes := fun _ => []) (k := 0) (callK := noCall) (Rt := fun _ => none) (N := fun s => if s = st1 l then some () else none) (X := fun _ _ => none) (r := ()) hmix hT hC nd nc (.region i0 ops0 false) I0 (by rw [hn0, run0]; simp) (fun σ' pl' a' w' hs I1 => ?_) (fun j σ' pl' a' w' h _ => by cases h) (fun σ' pl' a' w' h _ => by cases h))
     have hs' : σ' = st1 l := by
      by_cases hs' : σ' = st1 l
      ·exact hs'
      ·simp [hs'] at hs
     subst hs'
     -- the two operations of the test
     have e0 := I1.rel.env 0 _ (hst l)
     have hkk : ∀ st : St, st.rows = rowsOf [] → okPV st.rows (.val [(0, 0)] (.slice t) l) = true := by
      intro st he
      rw [he]
      simp [okPV, okProv, Q11]
     have v0 := e0.2.2 (hkk _ (hrows l))
     have v0' := v0
     obtain ⟨A, c, hA, hlc, hAd⟩ := v0'
     have hA' : a'.tmps.getD 0 undef = .slice A l.length c := by simpa using hA
     have sz := I1.nt
     refine wp_seq (wp_seq (wp_region_list ?_))
     have w1 : Region.wanted o1 (yielded #[o1, o2] a'.tmps) = true := by simp [Region.wanted, g1]
     show wpList P #[o1, o2] _ [o1, o2] a' w'
     unfold wpList
     rw [if_pos w1]
     refine .inl ?_
     have r1 : (execOp a'.eval o1).run P w' = .ok (.value (.slice A l.length c)) w' := by
      have ee : execOp a'.eval o1 = pure (.value (a'.eval (.tmp 0))) := by simp only [execOp, h1]
      rw [ee]
      simp [Act.eval, hA']
     unfold Oper.wp
     rw [r1]
     have I2 : Inv C fn.ntmps pl' ⟨upd (st1 l).env 3 (some (.val [(0, 0)] (.slice t) l)), (st1 l).rows⟩ (a'.put o1.dst (.slice A l.length c)) w' := by
      have R2 := I1.rel.put (v := .val [(0, 0)] (.slice t) l) (u := .slice A l.length c) I1.nt o1.dst e0.2.1 (fun _ => hA' ▸ v0)
      rw [d1] at R2 ⊢
      have : putDst fn.ntmps (st1 l).env (some 3) (some (.val [(0, 0)] (.slice t) l)) = upd (st1 l).env 3 (some (.val [(0, 0)] (.slice t) l)) := by
       simp only [putDst, if_pos (show 3 < fn.ntmps by omega)]
      rw [this] at R2
      exact ⟨R2, I1.z, I1.l, by rw [Q1p]; exact I1.nt, I1.size, I1.quiet, I1.keep, I1.blk, I1.given⟩
     have w2 : Region.wanted o2 (yielded #[o1, o2] (a'.put o1.dst (.slice A l.length c)).tmps) = true := by simp [Region.wanted, g2]
     show wpList P #[o1, o2] _ [o2] (a'.put o1.dst (.slice A l.length c)) w'
     unfold wpList
     rw [if_pos w2]
     refine .inl ?_
     have hx3 : (a'.put o1.dst (.slice A l.length c)).eval (.tmp 3) = .slice A l.length c := by
      rw [d1]
      show (a'.put (some 3) (.slice A l.length c)).tmps.getD 3 undef = _
      rw [Q43 a' 3 3 _ (by omega), if_pos rfl]
     have r2 : (execOp (a'.put o1.dst (.slice A l.length c)).eval o2).run P w' = .ok (.value (.bool A.isNone)) w' := by
      refine Qd3 h2 hx3 (u2 := .slice none 0 0) rfl ?_ ?_
      ·simp [eqGuard]
      ·simp only [binOp]
       simp [Op.equal, Op.maxDepth, Lib.run_equalIn_slice_nil w' 9999 ts e A l.length c 0 0 hts]
     unfold Oper.wp
     rw [r2]
     simp only [Oper.upon, wpList]
     have I3 : Inv C fn.ntmps pl' ⟨upd (upd (st1 l).env 3 (some (.val [(0, 0)] (.slice t) l))) 4 (some (mb A.isNone)), (st1 l).rows⟩ ((a'.put o1.dst (.slice A l.length c)).put o2.dst (.bool A.isNone)) w' := by
      have R3 := I2.rel.put (v := mb A.isNone) (u := .bool A.isNone) I2.nt o2.dst (Q2f _ _) (fun _ => rfl)
      rw [d2] at R3 ⊢
      simp only [putDst, if_pos hnt'] at R3
      exact ⟨R3, I2.z, I2.l, by rw [Q1p]; exact I2.nt, I2.size, I2.quiet, I2.keep, I2.blk, I2.given⟩
     have hb : A.isNone = true → l = [] := by
      intro hb
      cases hll : (l : List t.D) with
      | nil => rfl
      | cons x l' =>
        obtain ⟨ad, e1, _⟩ := hAd (by rw [hll]; simp)
        rw [e1] at hb; cases hb
     have hfin := run1 A.isNone l (fun res rout => if res = [.rw 1] ∧ rout = [⟨0, .arr (flatP t [(0, 0)]) t l⟩] then some () else none) hb hlim
     simp only [and_self, if_true] at hfin
     have fin : ∀ σ' pl' a' w', ending T fn an C.n (fun res rout => if res = [.rw 1] ∧ rout = [⟨0, .arr (flatP t [(0, 0)]) t l⟩] then some () else none) σ' = some () → Inv C fn.ntmps pl' σ' a' w' → a'.defers = [] ∧ ∃ v, (results fn a'.tmps).run P w' = .ok v w' ∧
      ∃ res rout vs pl', (res = [.rw 1] ∧ rout = [⟨0, .arr (flatP t [(0, 0)]) t l⟩]) ∧ Ending.returned v = .returned (tupVal vs) ∧ Inv C 0 pl' ⟨fun _ => none, rowsOf rout⟩ ⟨#[], []⟩ w' ∧ (∀ i s, rowsOf rout i = some s → rowOk (rowsOf rout) s.row) ∧ Mens (rowsOf rout) res ∧ VRs w' pl' (rowsOf rout) res vs := by
      intro σ' pl' a' w' he I1
      unfold ending at he
      split at he
      ·rename_i x hx
       obtain ⟨us', pl2, hr, I2, e1, e2, e3⟩ := Qal (P := P) hT hC I1 hx
       dsimp only at he
       split at he
       ·rename_i heq
        exact ⟨I1.rel.defers, _, hr, x.1, x.2, us', pl2, heq, rfl, I2, e1, e2, e3⟩
       ·cases he
      ·cases he
     refine Q6d (an := an) (modes := fun _ => []) (k := 0) (callK := noCall) (N := fun st => exec T an (fun _ => []) C.n 0 fn.ntmps noCall (ending T fn an C.n (fun res rout => if res = [.rw 1] ∧ rout = [⟨0, .arr (flatP t [(0, 0)]) t l⟩] then some () else none)) t2 st (ending T fn an C.n (fun res rout => if res = [.rw 1] ∧ rout = [⟨0, .arr (flatP t [(0, 0)]) t l⟩] then some () else none)) (fun _ _ => none)) (X := fun _ _ => none) (r := ()) hmix hT hC nd nc c2 I3 (by rw [hn0]; exact hfin) (fun σ' pl' a' w' h1 I1 => ?_) (fun j σ' pl' a' w' h1 I1 => by cases h1) (fun σ' pl' a' w' h1 I1 => ?_)
     ·exact Q6d (an := an) (modes := fun _ => []) (k := 0) (callK := noCall) (X := fun _ _ => none) (r := ()) hmix hT hC nd nc t2 I1 h1 (fun σ' pl' a' w' h1 I1 => fin _ _ _ _ h1 I1) (fun j σ' pl' a' w' h1 I1 => by cases h1) (fun σ' pl' a' w' h1 I1 => fin _ _ _ _ h1 I1)
     ·exact fin _ _ _ _ (by rw [hn0]; exact h1) I1
  ·cases hspec
 ·cases hspec
theorem Qta {R : Type} {F : Nat → Option PFn} {k g : Nat} {m : List Mode} {ty : Ty} {bytes : Nat} (hF : F g = some (.ext m (Q3k ty bytes))) (l : List ty.D) (K : List PV → List RowS → Oq R) :
  callC T F (k + 1) g [.val [(0, 0)] (.slice ty) l] [] K = bif decide (l.length ≤ LIM bytes) then K [.rw 1] [⟨0, .arr (flatP ty [(0, 0)]) ty l⟩] else none := by
 simp only [callC, hF, Q3k]
 cases decide (l.length ≤ LIM bytes) <;> simp
end
end Go.Proofs.YtecnlienmpdlaaaGreat.PM
