/- The small machine PM is sound, part twelve and three quarters: an operation on the rows of its footprint alone. -/
import Derived.Test.YtecnlienmpdlaaaPmD
set_option linter.unusedSimpArgs false
set_option linter.unusedVariables false
namespace Go.Proofs.Ytecnlienmpdlaaa.PM
open Go

noncomputable def cutRows (fp : Foot) (key : Nat) (rows : Rows) : Rows := fun r => if inFoot fp key r then rows r else if r == 0 then none else some ⟨0, .gone⟩
theorem cut_in {fp : Foot} {key : Nat} {rows : Rows} {r : Nat} (h : inFoot fp key r = true) : cutRows fp key rows r = rows r := by simp [cutRows, h]
theorem cut_out {fp : Foot} {key : Nat} {rows : Rows} {r : Nat} (h : inFoot fp key r = false) (h0 : r ≠ 0) : cutRows fp key rows r = some ⟨0, .gone⟩ := by simp [cutRows, h, h0]
theorem cut_live {fp : Foot} {key : Nat} {rows : Rows} {r : Nat} {s : RowS} (h : cutRows fp key rows r = some s) (hl : s.live) : inFoot fp key r = true ∧ rows r = some s := by
  cases hi : inFoot fp key r with
  | true => rw [cut_in hi] at h; exact ⟨rfl, h⟩
  | false =>
    by_cases h0 : r = 0
    · subst h0; simp [cutRows, hi] at h
    · rw [cut_out hi h0] at h
      cases h
      exact absurd rfl hl

/-- The blocks of the rows outside a footprint. -/
def Unread (fp : Foot) (key : Nat) (pl : Pl) (rows : Rows) (b : Nat) : Prop := ∃ r s o, rows r = some s ∧ s.live ∧ pl.at r b o ∧ inFoot fp key r = false
def cutPl (fp : Foot) (key : Nat) (pl : Pl) (rows : Rows) : Pl := ⟨pl.loc, fun b => pl.Z b ∨ Unread fp key pl rows b, fun b => pl.L b ∧ pl.Z b, pl.hid⟩

section
variable {fp : Foot} {key : Nat} {rows : Rows} {pl : Pl} {w : World}

theorem cut_okProv (h0 : rows 0 = none) : ∀ {p : Prov}, okProv (cutRows fp key rows) p = true → okProv rows p = true ∧ ∀ q ∈ p, q.1 = 0 ∨ inFoot fp key q.1 = true := by
  intro p h
  have g := okProv_at h
  have hin : ∀ q ∈ p, q.1 = 0 ∨ inFoot fp key q.1 = true := by
    intro q hq
    by_cases hz : q.1 = 0
    · exact .inl hz
    · cases hi : inFoot fp key q.1 with
      | true => exact .inr rfl
      | false => exact absurd rfl (g q hq _ (cut_out hi hz)).1
  refine ⟨okProv_of fun q hq s hs => ?_, hin⟩
  rcases hin q hq with hz | hi
  · rw [hz, h0] at hs; cases hs
  · exact g q hq s (by rw [cut_in hi]; exact hs)
theorem cut_provIn {p : Prov} (h : ProvIn rows p) : ProvIn (cutRows fp key rows) p := by
  intro q hq
  rcases h q hq with h | ⟨s, h1, h2, h3⟩
  · exact .inl h
  · cases hi : inFoot fp key q.1 with
    | true => exact .inr ⟨s, by rw [cut_in hi]; exact h1, h2, h3⟩
    | false =>
      by_cases hz : q.1 = 0
      · exact .inl hz
      · exact .inr ⟨_, cut_out hi hz, .inr rfl, trivial⟩
theorem cut_some (h0 : rows 0 = none) {r : Nat} (h : rows r ≠ none) : cutRows fp key rows r ≠ none := by
  cases hi : inFoot fp key r with
  | true => rw [cut_in hi]; exact h
  | false => rw [cut_out hi (fun e => h (e ▸ h0))]; simp
theorem cut_safe (h0 : rows 0 = none) {p : Prov} (hok : okProv (cutRows fp key rows) p = true) {b : Nat} (hs : Safe w pl rows p b) : Safe w (cutPl fp key pl rows) (cutRows fp key rows) p b := by
  obtain ⟨h1, h2, h3⟩ := hs
  obtain ⟨_, hin⟩ := cut_okProv h0 hok
  refine ⟨h1, fun hz => ?_, fun r s o hr hl hloc => ?_⟩
  · rcases hz with hz | ⟨r, s, o, hr, hl, hloc, hi⟩
    · obtain ⟨hL, q, hq, e⟩ := h2 hz
      exact ⟨⟨hL, hz⟩, q, hq, e⟩
    · obtain ⟨q, hq, e⟩ := h3 r s o hr hl hloc
      rcases hin q hq with hz | hi'
      · rw [← e, hz, h0] at hr; cases hr
      · rw [e, hi] at hi'; cases hi'
  · obtain ⟨_, hr'⟩ := cut_live hr hl
    exact h3 r s o hr' hl hloc

mutual
theorem cut_men (h0 : rows 0 = none) : ∀ {v : PV}, Men rows v → Men (cutRows fp key rows) v
  | .val _ _ _, h => cut_provIn h
  | .pvl _ _ _ _ _, h => cut_provIn h
  | .nils, _ => trivial
  | .nilp, _ => trivial
  | .lit _, _ => trivial
  | .und, _ => trivial
  | .rw _, h => cut_some h0 h
  | .rs _ _ _, h => cut_some h0 h
  | .ptr _ _, h => cut_some h0 h
  | .pel _ _ _, h => cut_some h0 h
  | .fn _ l, h => cut_mens h0 (l := l) h
  | .agg l, h => cut_mens h0 (l := l) h
  | .tup l, h => cut_mens h0 (l := l) h
theorem cut_mens (h0 : rows 0 = none) : ∀ {l : List PV}, Mens rows l → Mens (cutRows fp key rows) l
  | [], _ => trivial
  | v :: l, h => ⟨cut_men h0 (v := v) h.1, cut_mens h0 (l := l) h.2⟩
end
mutual
theorem cut_vr (h0 : rows 0 = none) : ∀ {v : PV} {u : Value}, okPV (cutRows fp key rows) v = true → okPV rows v = true ∧ (VR w pl rows v u → VR w (cutPl fp key pl rows) (cutRows fp key rows) v u)
  | .val p t x, u, hk => ⟨(cut_okProv h0 hk).1, fun h => RD_frame (fun b hb => cut_safe h0 hk hb) (fun _ _ => rfl) h⟩
  | .pvl p t l i off, u, hk => ⟨(cut_okProv h0 hk).1, fun h => by
      obtain ⟨x, es, g1, g2, ad, g3, g4, g5⟩ := h
      exact ⟨x, es, g1, RD_frame (fun b hb => cut_safe h0 hk hb) (fun _ _ => rfl) g2, ad, g3, cut_safe h0 hk g4, g5⟩⟩
  | .nils, u, _ => ⟨rfl, fun h => h⟩
  | .nilp, u, _ => ⟨rfl, fun h => h⟩
  | .lit _, u, _ => ⟨rfl, fun h => h⟩
  | .und, u, _ => ⟨rfl, fun h => h⟩
  | .rw r, u, _ => ⟨rfl, fun h => ⟨⟨h.1.1, fun n p kt vt bx l tk hr => h.1.2 _ _ _ _ _ _ _ (cut_live hr (by simp [RowS.live])).2⟩, fun n p t l hr => h.2 n p t l (cut_live hr (by simp [RowS.live])).2⟩⟩
  | .rs r off len, u, _ => ⟨rfl, fun h => ⟨h.1, fun n p t l hr => h.2 n p t l (cut_live hr (by simp [RowS.live])).2⟩⟩
  | .ptr r off, u, _ => ⟨rfl, fun h => ⟨⟨h.1.1, h.1.2.1, fun n i p kt vt bx l tk hr => h.1.2.2 _ _ _ _ _ _ _ _ (cut_live hr (by simp [RowS.live])).2⟩, fun n l hr => h.2 n l (cut_live hr (by simp [RowS.live])).2⟩⟩
  | .pel r i off, u, _ => ⟨rfl, fun h => ⟨h.1, fun n p t l hr => h.2 n p t l (cut_live hr (by simp [RowS.live])).2⟩⟩
  | .fn f l, u, hk => by
    obtain ⟨g1, g2⟩ := cut_vrs h0 (l := l) hk
    exact ⟨g1, fun ⟨cs, e, h⟩ => ⟨cs, e, g2 h⟩⟩
  | .agg l, u, hk => by
    obtain ⟨g1, g2⟩ := cut_vrs h0 (l := l) hk
    exact ⟨g1, fun ⟨cs, e, h, h1⟩ => ⟨cs, e, g2 h, h1⟩⟩
  | .tup l, u, hk => by
    obtain ⟨g1, g2⟩ := cut_vrs h0 (l := l) hk
    exact ⟨g1, fun ⟨cs, us, es, e, e2, h⟩ => ⟨cs, us, es, e, e2, g2 h⟩⟩
theorem cut_vrs (h0 : rows 0 = none) : ∀ {l : List PV}, okPV.okAll (cutRows fp key rows) l = true → okPV.okAll rows l = true ∧ ∀ {us : List Value}, VRs w pl rows l us → VRs w (cutPl fp key pl rows) (cutRows fp key rows) l us
  | [], _ => ⟨rfl, fun h => h⟩
  | v :: l, hk => by
    simp only [okPV.okAll, Bool.and_eq_true] at hk ⊢
    obtain ⟨g1, g2⟩ := cut_vrs h0 (l := l) hk.2
    refine ⟨⟨(cut_vr h0 (v := v) (u := undef) hk.1).1, g1⟩, fun {us} h => ?_⟩
    obtain ⟨u, us', rfl, e1, e2⟩ := h
    exact ⟨u, us', rfl, (cut_vr h0 (v := v) hk.1).2 e1, g2 e2⟩
end

theorem cut_row (h0 : rows 0 = none) {r : Nat} {s : RowS} (h : RowR w pl rows r s) : RowR w (cutPl fp key pl rows) (cutRows fp key rows) r s := by
  obtain ⟨n, row⟩ := s
  cases row with
  | gone => trivial
  | arr p t l =>
    obtain ⟨g1, g2⟩ := h
    refine ⟨cut_provIn g1, ?_⟩
    show match pl.loc r with
      | none => l = []
      | some (b, o) => _
    cases hlr : pl.loc r with
    | none => rw [hlr] at g2; exact g2
    | some bo =>
      obtain ⟨b, o⟩ := bo
      rw [hlr] at g2
      obtain ⟨arr, Te, fr, e1, e2, e3, e4⟩ := g2
      refine ⟨arr, Te, fr, e1, e2, e3, fun hok j y hy => ?_⟩
      obtain ⟨es, q1, q2⟩ := e4 (cut_okProv h0 hok).1 j y hy
      exact ⟨es, RD_frame (fun b hb => cut_safe h0 hok hb) (fun _ _ => rfl) q1, q2⟩
  | vars l =>
    obtain ⟨g1, b, arr, Te, fr, e0, e1, e2, e3, e4⟩ := h
    refine ⟨cut_mens h0 g1, b, arr, Te, fr, e0, e1, e2, e3, fun j y hy => ?_⟩
    obtain ⟨c, q1, q2, q3⟩ := e4 j y hy
    exact ⟨c, q1, q2, fun hk => (cut_vr h0 hk).2 (q3 (cut_vr h0 (u := c) (w := w) (pl := pl) hk).1)⟩
  | mp it p kt vt bx l tk =>
    obtain ⟨g1, g2, b, es1, st, bs, e1, e2, e4, e5, e6, e7, e8⟩ := h
    refine ⟨cut_provIn g1, g2, b, es1, st, bs, e1, e2.frame (fun x hx => ⟨hx, rfl⟩) rfl,
      e4.frame (fun hok => ⟨(cut_okProv h0 hok).1, fun b hb => ⟨cut_safe h0 hok hb, rfl⟩⟩) (fun _ _ => rfl), ?_, e6, e7, e8⟩
    cases tk with
    | none => exact e5
    | some x =>
      obtain ⟨k, r0⟩ := x
      refine ⟨cut_men h0 e5.1, e5.2.imp id ?_⟩
      rintro ⟨e, q1, q2, q3⟩
      exact ⟨e, q1, q2, (cut_vr h0 (okPV_tk _ _ _)).2 q3⟩

/-- The state, cut down to a footprint. -/
theorem cut_rel {B : Nat} {G : Nat → Prop} {st : St} {a : Act} (ops : Array Oper) (o : Oper) (R : Rel B G pl st a w) :
    Rel w.heap.size (fun b => ∃ r s o, st.rows r = some s ∧ s.live ∧ pl.at r b o ∧ inFoot fp key r = true) (cutPl fp key pl st.rows) (cutSt ops fp key o st) a w := by
  refine ⟨fun s v hv => ?_, fun r s hr => ?_, ?_, fun r r' s s' b o o' hr hl hr' hl' h1 h2 => ?_, fun r s b o hr hl hloc => ?_, R.defers⟩
  · have hv' : st.env s = some v := by
      simp only [cutSt] at hv
      split at hv
      · exact hv
      · cases hv
    obtain ⟨g1, g2, g3⟩ := R.env s v hv'
    exact ⟨g1, cut_men R.zero g2, fun hk => (cut_vr R.zero hk).2 (g3 (cut_vr R.zero (u := undef) (w := w) (pl := pl) hk).1)⟩
  · show RowR w _ (cutRows fp key st.rows) r s
    have hr' : cutRows fp key st.rows r = some s := hr
    cases hi : inFoot fp key r with
    | true =>
      rw [cut_in hi] at hr'
      exact cut_row R.zero (R.rows r s hr')
    | false =>
      by_cases hz : r = 0
      · subst hz; simp [cutRows, hi] at hr'
      · rw [cut_out hi hz] at hr'
        cases hr'
        trivial
  · show cutRows fp key st.rows 0 = none
    cases hi : inFoot fp key 0 with
    | true => rw [cut_in hi]; exact R.zero
    | false => simp [cutRows, hi]
  · exact R.inj r r' s s' b o o' (cut_live hr hl).2 hl (cut_live hr' hl').2 hl' h1 h2
  · obtain ⟨hi, hr'⟩ := cut_live hr hl
    obtain ⟨g1, g2, g3⟩ := R.own r s b o hr' hl hloc
    refine ⟨g1, ?_, .inr ⟨r, s, o, hr', hl, hloc, hi⟩⟩
    rintro (hz | ⟨r2, s2, o2, q1, q2, q3, q4⟩)
    · exact g2 hz
    · obtain rfl := R.inj r2 r s2 s b o2 o q1 q2 hr' hl q3 hloc
      rw [hi] at q4; cases q4
end
end Go.Proofs.Ytecnlienmpdlaaa.PM
