/- The small machine PM is sound: what an operation did on its footprint, joined with all that lies outside. -/
import Derived.Test.YtecnlienmpdlaaaPmF
set_option linter.unusedSimpArgs false
set_option linter.unusedVariables false
namespace Go.Proofs.Ytecnlienmpdlaaa.PM
open Go

noncomputable def joinRows (fp : Foot) (key : Nat) (rows rows' : Rows) : Rows := fun r => if wrFoot fp key r then rows' r else rows r
noncomputable def joinPl (fp : Foot) (key : Nat) (pl pl' : Pl) : Pl := ⟨fun r => if wrFoot fp key r then pl'.loc r else pl.loc r, pl.Z, pl.L, fun r b => if wrFoot fp key r then pl'.hid r b else pl.hid r b⟩

/-- What is known behind an operation on a footprint. -/
structure Cutd (fp : Foot) (key : Nat) (w : World) (pl : Pl) (rows : Rows) (w' : World) (pl' : Pl) (rows' : Rows) : Prop where
  zero : rows 0 = none
  zero' : rows' 0 = none
  own : ∀ r s b o, rows r = some s → s.live → pl.at r b o → b < w.heap.size ∧ ¬ pl.Z b
  step : Step w (cutPl fp key pl rows) (cutRows fp key rows) w' pl' rows'
  same : ∀ r, inFoot fp key r = true → wrFoot fp key r = false → rows' r = rows r

section
variable {fp : Foot} {key : Nat} {rows rows' : Rows} {pl pl' : Pl} {w w' : World}

theorem wr_in {r : Nat} (h : wrFoot fp key r = true) : inFoot fp key r = true := by simp [inFoot, h]

theorem Cutd.loc (D : Cutd fp key w pl rows w' pl' rows') {r : Nat} {s : RowS} (hi : inFoot fp key r = true) (hw : wrFoot fp key r = false) (hr : rows r = some s) (hl : s.live) : pl'.loc r = pl.loc r := by
  obtain ⟨s', h1, h2, h3⟩ := D.step.kin r s (by rw [cut_in hi]; exact hr)
  rw [D.same r hi hw, hr] at h1
  cases h1
  exact h3 hl

theorem Cutd.hid (D : Cutd fp key w pl rows w' pl' rows') {r : Nat} {s : RowS} (hi : inFoot fp key r = true) (hw : wrFoot fp key r = false) (hr : rows r = some s) (hl : s.live) : pl'.hid r = pl.hid r :=
  D.step.hid r s (by rw [cut_in hi]; exact hr) (by rw [D.same r hi hw]; exact hr) hl

theorem join_at_wr {r b o : Nat} (hw : wrFoot fp key r = true) : (joinPl fp key pl pl').at r b o ↔ pl'.at r b o := by simp [Pl.at, joinPl, hw]
theorem join_at_nw {r b o : Nat} (hw : wrFoot fp key r = false) : (joinPl fp key pl pl').at r b o ↔ pl.at r b o := by simp [Pl.at, joinPl, hw]

theorem join_step (D : Cutd fp key w pl rows w' pl' rows') : Step w pl rows w' (joinPl fp key pl pl') (joinRows fp key rows rows') := by
  refine ⟨rfl, rfl, D.step.size, fun r s hr => ?_, fun r s h1 h2 hl => ?_, fun r s' h2 hl b o h3 => ?_, fun b hb hh => ?_, D.step.blk, D.zero⟩
  · cases hw : wrFoot fp key r with
    | true =>
      obtain ⟨s', e1, e2, e3⟩ := D.step.kin r s (by rw [cut_in (wr_in hw)]; exact hr)
      exact ⟨s', by simp [joinRows, hw, e1], e2, fun hl => by simp only [joinPl, hw, if_true]; exact e3 hl⟩
    | false => exact ⟨s, by simp [joinRows, hw, hr], Kin.refl s, fun _ => by simp [joinPl, hw]⟩
  · cases hw : wrFoot fp key r with
    | true =>
      have h2' : rows' r = some s := by simpa [joinRows, hw] using h2
      funext b
      simp only [joinPl, hw, if_true]
      rw [D.step.hid r s (by rw [cut_in (wr_in hw)]; exact h1) h2' hl]
      rfl
    | false => funext b; simp [joinPl, hw]
  · cases hw : wrFoot fp key r with
    | true =>
      simp only [joinRows, hw, if_true] at h2
      rw [join_at_wr hw] at h3
      rcases D.step.fresh r s' h2 hl b o h3 with ⟨s, o', g1, g2, g3⟩ | h | ⟨r0, s0, s1, o0, g1, g2, g3, g4, g5⟩
      · exact .inl ⟨s, o', (cut_live g1 g2).2, g2, g3⟩
      · exact .inr (.inl h)
      · obtain ⟨hi, g1'⟩ := cut_live g1 g2
        refine .inr (.inr ⟨r0, s0, s1, o0, g1', g2, ?_, g4, g5⟩)
        cases hw0 : wrFoot fp key r0 with
        | true => simp [joinRows, hw0, g3]
        | false =>
          rw [D.same r0 hi hw0, g1'] at g3
          cases g3
          exact absurd rfl g4
    | false =>
      rw [join_at_nw hw] at h3
      refine .inl ⟨s', o, ?_, hl, h3⟩
      simpa [joinRows, hw] using h2
  · refine D.step.heap b hb fun r s o hr hl hloc => ?_
    obtain ⟨hi, hr'⟩ := cut_live hr hl
    have := hh r s o hr' hl hloc
    cases hw : wrFoot fp key r with
    | true => simpa [joinRows, hw] using this
    | false => rw [D.same r hi hw]; exact hr'

theorem join_row_in (D : Cutd fp key w pl rows w' pl' rows') {r : Nat} (hi : inFoot fp key r = true) : joinRows fp key rows rows' r = rows' r := by
  cases hw : wrFoot fp key r with
  | true => simp [joinRows, hw]
  | false => simp [joinRows, hw, D.same r hi hw]
theorem join_loc_in (D : Cutd fp key w pl rows w' pl' rows') {r : Nat} {s : RowS} (hi : inFoot fp key r = true) (hr : joinRows fp key rows rows' r = some s) (hl : s.live) : (joinPl fp key pl pl').loc r = pl'.loc r := by
  cases hw : wrFoot fp key r with
  | true => simp [joinPl, hw]
  | false =>
    simp only [joinRows, hw] at hr
    rw [if_neg (by simp)] at hr
    simp only [joinPl, hw]
    rw [if_neg (by simp), D.loc hi hw hr hl]

theorem join_hid_in (D : Cutd fp key w pl rows w' pl' rows') {r : Nat} {s : RowS} (hi : inFoot fp key r = true) (hr : joinRows fp key rows rows' r = some s) (hl : s.live) : (joinPl fp key pl pl').hid r = pl'.hid r := by
  cases hw : wrFoot fp key r with
  | true => funext b; simp [joinPl, hw]
  | false =>
    have hr' : rows r = some s := by simpa [joinRows, hw] using hr
    rw [D.hid hi hw hr' hl]
    funext b
    simp [joinPl, hw]
theorem join_at_in (D : Cutd fp key w pl rows w' pl' rows') {r b o : Nat} {s : RowS} (hi : inFoot fp key r = true) (hr : joinRows fp key rows rows' r = some s) (hl : s.live) : (joinPl fp key pl pl').at r b o ↔ pl'.at r b o := by
  unfold Pl.at
  rw [join_loc_in D hi hr hl, join_hid_in D hi hr hl]

/-- A provenance that stands in the cut state names rows of the footprint alone. -/
theorem join_prov (D : Cutd fp key w pl rows w' pl' rows') {p : Prov} (h : okProv rows' p = true) (hp : ProvIn rows' p) : (∀ q ∈ p, q.1 = 0 ∨ inFoot fp key q.1 = true) ∧ okProv (joinRows fp key rows rows') p = true ∧ ProvIn (joinRows fp key rows rows') p := by
  have g := okProv_at h
  have hin : ∀ q ∈ p, q.1 = 0 ∨ inFoot fp key q.1 = true := by
    intro q hq
    by_cases hz : q.1 = 0
    · exact .inl hz
    · cases hi : inFoot fp key q.1 with
      | true => exact .inr rfl
      | false =>
        obtain ⟨s', e1, e2, _⟩ := D.step.kin q.1 _ (cut_out hi hz)
        exact absurd (e2.gone rfl) (g q hq s' e1).1
  refine ⟨hin, okProv_of fun q hq s hs => ?_, fun q hq => ?_⟩
  · rcases hin q hq with hz | hi
    · exfalso
      have : joinRows fp key rows rows' 0 = none := by
        unfold joinRows
        split
        · exact D.zero'
        · exact D.zero
      rw [hz, this] at hs; cases hs
    · rw [join_row_in D hi] at hs
      exact g q hq s hs
  · rcases hin q hq with hz | hi
    · exact .inl hz
    · rcases hp q hq with hz | ⟨s, e1, e2, e3⟩
      · exact .inl hz
      · exact .inr ⟨s, by rw [join_row_in D hi]; exact e1, e2, e3⟩

theorem join_safe (D : Cutd fp key w pl rows w' pl' rows') {p : Prov} (h : okProv rows' p = true) (hp : ProvIn rows' p) {b : Nat} (hs : Safe w' pl' rows' p b) : Safe w' (joinPl fp key pl pl') (joinRows fp key rows rows') p b := by
  obtain ⟨h1, h2, h3⟩ := hs
  refine ⟨h1, fun hz => ?_, fun r s o hr hl hloc => ?_⟩
  · obtain ⟨hL, q, hq, e⟩ := h2 (by rw [D.step.z]; exact .inl hz)
    rw [D.step.l] at hL
    exact ⟨hL.1, q, hq, e⟩
  · cases hi : inFoot fp key r with
    | true =>
      rw [join_at_in D hi hr hl] at hloc
      rw [join_row_in D hi] at hr
      exact h3 r s o hr hl hloc
    | false =>
      have hw : wrFoot fp key r = false := by
        cases hw : wrFoot fp key r with
        | false => rfl
        | true => rw [wr_in hw] at hi; cases hi
      have hr' : rows r = some s := by simpa [joinRows, hw] using hr
      have hl' : pl.at r b o := (join_at_nw hw).1 hloc
      obtain ⟨hL, _⟩ := h2 (by rw [D.step.z]; exact .inr ⟨r, s, o, hr', hl, hl', hi⟩)
      rw [D.step.l] at hL
      exact absurd hL.2 (D.own r s b o hr' hl hl').2

theorem join_in (D : Cutd fp key w pl rows w' pl' rows') {r : Nat} (hi : inFoot fp key r = true) (h : rows' r ≠ none) : joinRows fp key rows rows' r ≠ none := by
  rw [join_row_in D hi]; exact h

mutual
theorem join_vr (D : Cutd fp key w pl rows w' pl' rows') : ∀ {v : PV} {u : Value}, okPV rows' v = true → (∀ r ∈ idsOf v, inFoot fp key r = true) → Men rows' v → VR w' pl' rows' v u →
    Men (joinRows fp key rows rows') v ∧ VR w' (joinPl fp key pl pl') (joinRows fp key rows rows') v u
  | .val p t x, u, hk, _, hm, hv => ⟨(join_prov D hk hm).2.2, RD_frame (fun b hb => join_safe D hk hm hb) (fun _ _ => rfl) hv⟩
  | .pvl p t l i off, u, hk, _, hm, hv => by
    obtain ⟨x, es, g1, g2, ad, g3, g4, g5⟩ := hv
    exact ⟨(join_prov D hk hm).2.2, x, es, g1, RD_frame (fun b hb => join_safe D hk hm hb) (fun _ _ => rfl) g2, ad, g3, join_safe D hk hm g4, g5⟩
  | .nils, u, _, _, _, hv => ⟨trivial, hv⟩
  | .nilp, u, _, _, _, hv => ⟨trivial, hv⟩
  | .lit _, u, _, _, _, hv => ⟨trivial, hv⟩
  | .und, u, _, _, _, hv => ⟨trivial, hv⟩
  | .rw r, u, _, hi, hm, hv => by
    have hr := hi r (by simp [idsOf])
    refine ⟨join_in D hr hm, ⟨hv.1.1, fun n p kt vt bx l tk hl => ?_⟩, fun n p t l hl => ?_⟩
    · have hloc := join_loc_in D hr hl (by simp [RowS.live])
      rw [join_row_in D hr] at hl
      rw [hloc]
      exact hv.1.2 _ _ _ _ _ _ _ hl
    have hloc := join_loc_in D hr hl (by simp [RowS.live])
    rw [join_row_in D hr] at hl
    obtain ⟨A, c, e1, e2, e3⟩ := hv.2 n p t l hl
    exact ⟨A, c, e1, e2, fun hc => by rw [hloc]; exact e3 hc⟩
  | .rs r off len, u, _, hi, hm, hv => by
    have hr := hi r (by simp [idsOf])
    refine ⟨join_in D hr hm, hv.1, fun n p t l hl => ?_⟩
    have hloc := join_loc_in D hr hl (by simp [RowS.live])
    rw [join_row_in D hr] at hl
    obtain ⟨hle, A, c, e1, e2, e3⟩ := hv.2 n p t l hl
    exact ⟨hle, A, c, e1, e2, fun hc => by rw [hloc]; exact e3 hc⟩
  | .ptr r off, u, _, hi, hm, hv => by
    have hr := hi r (by simp [idsOf])
    refine ⟨join_in D hr hm, ⟨hv.1.1, hv.1.2.1, fun n i p kt vt bx l tk hl => ?_⟩, fun n l hl => ?_⟩
    · have hloc := join_loc_in D hr hl (by simp [RowS.live])
      rw [join_row_in D hr] at hl
      rw [hloc]
      exact hv.1.2.2 _ _ _ _ _ _ _ _ hl
    have hloc := join_loc_in D hr hl (by simp [RowS.live])
    rw [join_row_in D hr] at hl
    rw [hloc]
    exact hv.2 n l hl
  | .pel r i off, u, _, hi, hm, hv => by
    have hr := hi r (by simp [idsOf])
    refine ⟨join_in D hr hm, hv.1, fun n p t l hl => ?_⟩
    have hloc := join_loc_in D hr hl (by simp [RowS.live])
    rw [join_row_in D hr] at hl
    rw [hloc]
    exact hv.2 n p t l hl
  | .fn f l, u, hk, hi, hm, hv => by
    obtain ⟨cs, e, g⟩ := hv
    obtain ⟨q1, q2⟩ := join_vrs D (l := l) hk (fun r hr => hi r (by simpa [idsOf] using hr)) hm g
    exact ⟨q1, cs, e, q2⟩
  | .agg l, u, hk, hi, hm, hv => by
    obtain ⟨cs, e, g, g1⟩ := hv
    obtain ⟨q1, q2⟩ := join_vrs D (l := l) hk (fun r hr => hi r (by simpa [idsOf] using hr)) hm g
    exact ⟨q1, cs, e, q2, g1⟩
  | .tup l, u, hk, hi, hm, hv => by
    obtain ⟨cs, us, es, e, e2, g⟩ := hv
    obtain ⟨q1, q2⟩ := join_vrs D (l := l) hk (fun r hr => hi r (by simpa [idsOf] using hr)) hm g
    exact ⟨q1, cs, us, es, e, e2, q2⟩
theorem join_vrs (D : Cutd fp key w pl rows w' pl' rows') : ∀ {l : List PV} {us : List Value}, okPV.okAll rows' l = true → (∀ r ∈ idsOf.idsAll l, inFoot fp key r = true) → Mens rows' l → VRs w' pl' rows' l us →
    Mens (joinRows fp key rows rows') l ∧ VRs w' (joinPl fp key pl pl') (joinRows fp key rows rows') l us
  | [], us, _, _, _, hv => ⟨trivial, hv⟩
  | v :: l, us, hk, hi, hm, hv => by
    simp only [okPV.okAll, Bool.and_eq_true] at hk
    obtain ⟨u, us', rfl, g1, g2⟩ := hv
    obtain ⟨q1, q2⟩ := join_vr D (v := v) hk.1 (fun r hr => hi r (by simp [idsOf.idsAll, hr])) hm.1 g1
    obtain ⟨r1, r2⟩ := join_vrs D (l := l) hk.2 (fun r hr => hi r (by simp [idsOf.idsAll, hr])) hm.2 g2
    exact ⟨⟨q1, r1⟩, u, us', rfl, q2, r2⟩
end

theorem ids_mem : ∀ {l : List PV} {v : PV}, v ∈ l → ∀ r ∈ idsOf v, r ∈ idsOf.idsAll l
  | x :: l, v, h, r, hr => by
    simp only [idsOf.idsAll, List.mem_append]
    rcases List.mem_cons.1 h with rfl | h
    · exact .inl hr
    · exact .inr (ids_mem h r hr)

theorem join_row (D : Cutd fp key w pl rows w' pl' rows') {r : Nat} {s : RowS} (hi : inFoot fp key r = true) (hr : joinRows fp key rows rows' r = some s) (hs : shutRow fp key rows' (some s) = true) (hR : RowR w' pl' rows' r s) : RowR w' (joinPl fp key pl pl') (joinRows fp key rows rows') r s := by
  obtain ⟨n, row⟩ := s
  cases row with
  | gone => trivial
  | arr p t l =>
    have hloc := join_loc_in D hi hr (by simp [RowS.live])
    have hok : okProv rows' p = true := hs
    obtain ⟨g1, g2⟩ := hR
    refine ⟨(join_prov D hok g1).2.2, ?_⟩
    rw [hloc]
    cases hlr : pl'.loc r with
    | none => rw [hlr] at g2; exact g2
    | some bo =>
      obtain ⟨b, o⟩ := bo
      rw [hlr] at g2
      obtain ⟨arr, Te, fr, e1, e2, e3, e4⟩ := g2
      refine ⟨arr, Te, fr, e1, e2, e3, fun _ j y hy => ?_⟩
      obtain ⟨es, q1, q2⟩ := e4 hok j y hy
      exact ⟨es, RD_frame (fun b hb => join_safe D hok g1 hb) (fun _ _ => rfl) q1, q2⟩
  | vars l =>
    have hloc := join_loc_in D hi hr (by simp [RowS.live])
    simp only [shutRow, Bool.and_eq_true, List.all_eq_true] at hs
    obtain ⟨g1, b, arr, Te, fr, e0, e1, e2, e3, e4⟩ := hR
    refine ⟨mens_of fun y hy => ?_, b, arr, Te, fr, hloc.trans e0, e1, e2, e3, fun j y hy => ?_⟩
    · obtain ⟨j, hj⟩ := List.getElem?_of_mem hy
      obtain ⟨c, q1, q2, q3⟩ := e4 j y hj
      have hk := okAll_mem hs.1 y hy
      exact (join_vr D hk (fun r hr => hs.2 r (ids_mem hy r hr)) (mens_mem g1 y hy) (q3 hk)).1
    · obtain ⟨c, q1, q2, q3⟩ := e4 j y hy
      have hk := okAll_mem hs.1 y (List.mem_of_getElem? hy)
      exact ⟨c, q1, q2, fun _ => (join_vr D hk (fun r hr => hs.2 r (ids_mem (List.mem_of_getElem? hy) r hr)) (mens_mem g1 y (List.mem_of_getElem? hy)) (q3 hk)).2⟩
  | mp it p kt vt bx l tk =>
    have hlv : RowS.live ⟨n, .mp it p kt vt bx l tk⟩ := by simp [RowS.live]
    have hloc := join_loc_in D hi hr hlv
    have hhid := join_hid_in D hi hr hlv
    obtain ⟨g1, g2, b, es1, st, bs, e1, e2, e4, e5, e6, e7, e8⟩ := hR
    have hok : okProv rows' p = true := by
      cases tk with
      | none => exact hs
      | some x => simp only [shutRow, Bool.and_eq_true] at hs; exact hs.1
    refine ⟨(join_prov D hok g1).2.2, g2, b, es1, st, bs, hloc.trans e1, e2.frame (fun x hx => ⟨by rw [hhid]; exact hx, rfl⟩) rfl,
      e4.frame (fun _ => ⟨hok, fun b hb => ⟨join_safe D hok g1 hb, rfl⟩⟩) (fun _ _ => rfl), ?_, e6, e7, fun x hx => by rw [hhid]; exact e8 x hx⟩
    cases tk with
    | none => exact e5
    | some x =>
      obtain ⟨k, r0⟩ := x
      simp only [shutRow, Bool.and_eq_true] at hs
      have hids : ∀ r ∈ idsOf (tkPV bx r0), inFoot fp key r = true := by
        intro r hr
        cases bx <;> (simp [tkPV, idsOf] at hr; subst hr; exact hs.2)
      refine ⟨?_, e5.2.imp id ?_⟩
      · cases bx
        · exact join_in D hs.2 e5.1
        · exact join_in D hs.2 e5.1
      · rintro ⟨e, q1, q2, q3⟩
        exact ⟨e, q1, q2, (join_vr D (okPV_tk _ _ _) hids e5.1 q3).2⟩
end

/-- The context of one operation on its footprint. -/
def cutC (fp : Foot) (key : Nat) (pl : Pl) (rows : Rows) (w : World) : Ctx :=
  ⟨w.heap.size, fun b => ∃ r s o, rows r = some s ∧ s.live ∧ pl.at r b o ∧ inFoot fp key r = true, (cutPl fp key pl rows).Z, (cutPl fp key pl rows).L, 0, fun _ => none, w⟩

section
variable {fp : Foot} {key : Nat} {C : Ctx} {nt : Nat} {pl pl' : Pl} {st st0 : St} {a : Act} {w w' : World} {ops : Array Oper} {o : Oper}

theorem cut_inv (hC : C.Ok) (I : Inv C nt pl st a w) : (cutC fp key pl st.rows w).Ok ∧ Inv (cutC fp key pl st.rows w) nt (cutPl fp key pl st.rows) (cutSt ops fp key o st) a w := by
  refine ⟨⟨fun b hb => ?_, rfl⟩, cut_rel ops o I.rel, rfl, rfl, I.nt, Nat.le_refl _, Quiet.refl w, fun _ _ _ => rfl, fun b arr T fr h => ⟨arr, T, fr, h, rfl⟩, fun i h1 h2 => ?_⟩
  · rcases hb with hb | ⟨r, s, o, hr, hl, hloc, _⟩
    · exact Nat.lt_of_lt_of_le (I.zlt hC b hb) I.size
    · exact (I.rel.own r s b o hr hl hloc).1
  · simp only [cutC] at h2; omega

theorem join_inv (hC : C.Ok) (I : Inv C nt pl st a w) {u : Value} (I' : Inv (cutC fp key pl st.rows w) nt pl' st0 (a.put o.dst u) w') (S0 : Step w (cutPl fp key pl st.rows) (cutSt ops fp key o st).rows w' pl' st0.rows)
    (hl : localOk fp key o (cutSt ops fp key o st) st0 = true) : Inv C nt (joinPl fp key pl pl') (joinSt fp key o st st0) (a.put o.dst u) w' := by
  simp only [localOk, Bool.and_eq_true] at hl
  obtain ⟨⟨⟨l1, l2⟩, l3⟩, l4⟩ := hl
  have same : ∀ r, inFoot fp key r = true → wrFoot fp key r = false → st0.rows r = st.rows r := by
    intro r hi hw
    have hm : fp.reads.any (fun x => x == r) = true := by
      simp only [inFoot, hw, Bool.false_or] at hi; exact hi
    obtain ⟨x, hx, e⟩ := List.any_eq_true.1 hm
    rw [beq_iff_eq] at e
    subst e
    have hu := List.all_eq_true.1 l2 x hx
    rw [hw, Bool.false_or] at hu
    have hc : (cutSt ops fp key o st).rows x = st.rows x := cut_in (rows := st.rows) hi
    rw [hc] at hu
    cases h1 : st.rows x with
    | none =>
      rw [h1] at hu
      cases h2 : st0.rows x with
      | none => rfl
      | some s => rw [h2] at hu; cases hu
    | some s =>
      obtain ⟨s', e1, e2, _⟩ := S0.kin x s (by rw [hc]; exact h1)
      rw [h1, e1] at hu
      simp only [unturned, Bool.and_eq_true, beq_iff_eq] at hu
      rw [e1]
      obtain ⟨n, row⟩ := s
      obtain ⟨n', row'⟩ := s'
      obtain ⟨hv, hg⟩ := hu
      simp only at hv hg
      subst hv
      rcases e2.2 with e | ⟨e, _⟩ | ⟨_, _, _, _, _, _, _, _, e⟩ | ⟨_, _, _, _, _, e⟩ | ⟨_, _, _, _, _, _, _, _, _, _, _, _, _, _, e⟩
      · rw [e]
      · simp only at e
        subst e
        cases row <;> simp at hg
        rfl
      · simp only at e; omega
      · simp only at e; omega
      · simp only at e; omega
  have D : Cutd fp key w pl st.rows w' pl' st0.rows := ⟨I.rel.zero, I'.rel.zero, fun r s b o hr hl hloc => ⟨(I.rel.own r s b o hr hl hloc).1, (I.rel.own r s b o hr hl hloc).2.1⟩, S0, same⟩
  have S := join_step D
  have shut : ∀ r, wrFoot fp key r = true → shutRow fp key st0.rows (st0.rows r) = true := by
    intro r hw
    simp only [wrFoot, Bool.or_eq_true] at hw
    rcases hw with hw | hw
    · simp only [ownRow, beq_iff_eq] at hw
      have := List.all_eq_true.1 l4 (r % 8) (List.mem_range.2 (Nat.mod_lt _ (by omega)))
      have e : key / 8 * 8 + r % 8 = r := by rw [← hw]; omega
      rw [e] at this
      exact this
    · obtain ⟨x, hx, e⟩ := List.any_eq_true.1 hw
      rw [beq_iff_eq] at e
      subst e
      exact List.all_eq_true.1 l3 x hx
  have R : Rel C.B C.G (joinPl fp key pl pl') (joinSt fp key o st st0) (a.put o.dst u) w' := by
    refine I.rel.stepM (env' := (joinSt fp key o st st0).env) S I'.rel.defers (fun s v hv => ?_) (fun r s' hr hne => ?_) ?_ (fun r s b o1 h1 k1 h2 => ?_)
    · cases hd : isDst o s with
      | true =>
        have hv' : st0.env s = some v := by simpa [joinSt, hd] using hv
        obtain ⟨g1, g2, g3⟩ := I'.rel.env s v hv'
        have hdst := isDst_iff.1 hd
        rw [hdst] at l1
        simp only [hv', shutPV, Bool.and_eq_true, List.all_eq_true] at l1
        obtain ⟨q1, q2⟩ := join_vr D l1.1 l1.2 g2 (g3 l1.1)
        exact .inr ⟨g1, q1, fun _ => q2⟩
      | false =>
        have hv' : st.env s = some v := by simpa [joinSt, hd] using hv
        have hsz := (I.rel.env s v hv').1
        refine .inl ⟨hv', by rw [size_put]; exact hsz, ?_⟩
        cases hdst : o.dst with
        | none => rfl
        | some d =>
          have hne : s ≠ d := fun e => by rw [isDst_iff.2 (by rw [hdst, e])] at hd; cases hd
          by_cases hdl : d < a.tmps.size
          · rw [getD_put a d s u hdl, if_neg hne]
          · have : a.put (some d) u = a := by simp [Act.put, Array.setIfInBounds, hdl]
            rw [this]
    · have hr' : joinRows fp key st.rows st0.rows r = some s' := hr
      cases hw : wrFoot fp key r with
      | false => exfalso; simp only [joinRows, hw] at hr'; exact hne (by simpa using hr')
      | true =>
        have h0 : st0.rows r = some s' := by simpa [joinRows, hw] using hr'
        refine join_row D (wr_in hw) hr' ?_ (I'.rel.rows r s' h0)
        rw [← h0]; exact shut r hw
    · show joinRows fp key st.rows st0.rows 0 = none
      unfold joinRows
      split
      · exact I'.rel.zero
      · exact I.rel.zero
    · have h1' : joinRows fp key st.rows st0.rows r = some s := h1
      cases hw1 : wrFoot fp key r with
      | false =>
        refine .inl ⟨s, o1, ?_, k1, (join_at_nw hw1).1 h2⟩
        simpa [joinRows, hw1] using h1'
      | true =>
        have e1 : st0.rows r = some s := by simpa [joinRows, hw1] using h1'
        have f1 := (join_at_wr hw1).1 h2
        obtain ⟨q1, q2, q3⟩ := I'.rel.own r s b o1 e1 k1 f1
        refine .inr ⟨⟨q1, fun hz => q2 (by rw [I'.z]; exact .inl hz), ?_⟩, fun r' s' o2 h3 k2 h4 => ?_⟩
        · rcases q3 with q3 | ⟨r0, s0, o0, g1, g2, g3, _⟩
          · exact .inl (Nat.le_trans I.size q3)
          · exact (I.rel.own r0 s0 b o0 g1 g2 g3).2.2
        · have h3' : joinRows fp key st.rows st0.rows r' = some s' := h3
          cases hi : inFoot fp key r' with
          | true =>
            rw [join_at_in D hi h3' k2] at h4
            rw [join_row_in D hi] at h3'
            exact I'.rel.inj r' r s' s b o2 o1 h3' k2 e1 k1 h4 f1
          | false =>
            have hw : wrFoot fp key r' = false := by
              cases hw : wrFoot fp key r' with
              | false => rfl
              | true => rw [wr_in hw] at hi; cases hi
            have e3 : st.rows r' = some s' := by simpa [joinRows, hw] using h3'
            exact absurd (by rw [I'.z]; exact .inr ⟨r', s', o2, e3, k2, (join_at_nw hw).1 h4, hi⟩) q2
  exact I.next S I'.quiet R I'.nt
end
end Go.Proofs.Ytecnlienmpdlaaa.PM
