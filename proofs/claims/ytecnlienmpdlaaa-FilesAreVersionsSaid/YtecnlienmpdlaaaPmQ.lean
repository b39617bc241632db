/- The small machine PM is sound, ninth part: values as they are wanted; where ways meet. -/
import Derived.Test.YtecnlienmpdlaaaPmP
set_option linter.unusedSimpArgs false
set_option linter.unusedVariables false
namespace Go.Proofs.Ytecnlienmpdlaaa.PM
open Go

/-- Values that stand for values, each if it still holds. -/
def CRs (w : World) (pl : Pl) (rows : Rows) : List PV → List Value → Prop
  | [], us => us = []
  | x :: l, us => ∃ u us', us = u :: us' ∧ (Men rows x ∧ (okPV rows x = true → VR w pl rows x u)) ∧ CRs w pl rows l us'

section
variable {P : Program} {B nt : Nat} {G : Nat → Prop} {pl pl' : Pl} {σ : St} {a : Act} {w w' : World} {rows rows' : Rows}

theorem CRs.step (S : Step w pl rows w' pl' rows') : ∀ {l : List PV} {us : List Value}, CRs w pl rows l us → CRs w' pl' rows' l us
  | [], _, h => h
  | x :: l, us, h => by
    obtain ⟨u, us', rfl, ⟨h1, h2⟩, h3⟩ := h
    exact ⟨u, us', rfl, ⟨S.men h1, fun hk => S.vr h1 hk h2⟩, CRs.step S h3⟩
theorem CRs.of : ∀ {l : List PV} {us : List Value}, Mens rows l → VRs w pl rows l us → CRs w pl rows l us
  | [], _, _, h => h
  | x :: l, us, hm, h => by
    obtain ⟨u, us', rfl, h1, h2⟩ := h
    exact ⟨u, us', rfl, ⟨hm.1, fun _ => h1⟩, CRs.of hm.2 h2⟩
theorem CRs.out : ∀ {l : List PV} {us : List Value}, CRs w pl rows l us → Mens rows l ∧ (okPV.okAll rows l = true → VRs w pl rows l us)
  | [], us, h => ⟨trivial, fun _ => h⟩
  | x :: l, us, h => by
    obtain ⟨u, us', rfl, ⟨h1, h2⟩, h3⟩ := h
    obtain ⟨g1, g2⟩ := CRs.out h3
    refine ⟨⟨h1, g1⟩, fun hk => ?_⟩
    simp only [okPV.okAll, Bool.and_eq_true] at hk
    exact ⟨u, us', rfl, h2 hk.1, g2 hk.2⟩
theorem CRs.len : ∀ {l : List PV} {us : List Value}, CRs w pl rows l us → us.length = l.length
  | [], us, h => by rw [show us = [] from h]; rfl
  | x :: l, us, h => by obtain ⟨u, us', rfl, _, h3⟩ := h; simp [h3.len]
theorem CRs.get : ∀ {l : List PV} {us : List Value}, CRs w pl rows l us → ∀ (j : Nat) (x : PV), l[j]? = some x → ∃ u, us[j]? = some u ∧ Men rows x ∧ (okPV rows x = true → VR w pl rows x u)
  | [], us, h, j, x, hx => by simp at hx
  | y :: l, us, h, j, x, hx => by
    obtain ⟨u, us', rfl, h1, h3⟩ := h
    cases j with
    | zero => simp at hx; subst hx; exact ⟨u, rfl, h1⟩
    | succ j => simpa using CRs.get h3 j x (by simpa using hx)
theorem CRs.mk_ : ∀ {l : List PV} {us : List Value}, us.length = l.length → (∀ (j : Nat) (x : PV) (u : Value), l[j]? = some x → us[j]? = some u → Men rows x ∧ (okPV rows x = true → VR w pl rows x u)) → CRs w pl rows l us
  | [], us, h, _ => by simpa [CRs] using h
  | x :: l, [], h, _ => by simp at h
  | x :: l, u :: us, h, g => ⟨u, us, rfl, g 0 x u rfl rfl, CRs.mk_ (by simpa using h) fun j y v hy hv => g (j + 1) y v (by simpa using hy) (by simpa using hv)⟩

theorem Rel.grow0 (R : Rel B G pl σ a w) (hZ : ∀ b, pl.Z b → b < B) (hB : B ≤ w.heap.size) {rows1 : Rows} {key : Nat} {s : RowS} {kl : Option (Nat × Nat)} (hk : σ.rows key = none) (h0 : key ≠ 0) (hw : Wane σ.rows rows1)
    (hloc : ∀ b o, kl = some (b, o) → b < w.heap.size ∧ Freed pl σ.rows rows1 b)
    (hrow : Step w pl σ.rows w (pl.put key kl) (upd rows1 key (some s)) → RowR w (pl.put key kl) (upd rows1 key (some s)) key s) :
    Step w pl σ.rows w (pl.put key kl) (upd rows1 key (some s)) ∧ Rel B G (pl.put key kl) ⟨σ.env, upd rows1 key (some s)⟩ a w := by
  have := R.grow (nt := 0) (w' := w) (rows1 := rows1) (s := s) (kl := kl) (dst := none) (ov := none) (u := undef) (Nat.zero_le _) hZ hB hk h0 hw (Nat.le_refl _) (fun b hb => .inl rfl)
    (fun b arr Te fr h => ⟨arr, Te, fr, h, rfl⟩) (fun b o h => ⟨(hloc b o h).1, .inr (hloc b o h).2⟩) hrow (fun S => ⟨fun v e => (by cases e), fun _ => rfl⟩)
  exact this

theorem addRow_eq {key : Nat} {x : Row} {r : Rows × Nat} (h : addRow rows key x = some r) : rows key = none ∧ r = (upd rows key (some ⟨0, x⟩), key + 1) := by
  unfold addRow at h
  split at h
  · rename_i hk
    exact ⟨hk, (Option.some.inj h).symm⟩
  · cases h

theorem nil_row (R : Rel B G pl σ a w) (hZ : ∀ b, pl.Z b → b < B) (hB : B ≤ w.heap.size) {key : Nat} {t : Ty} (hk : σ.rows key = none) (h0 : key ≠ 0) {u : Value} (hu : u = .slice none 0 0) :
    ∃ pl', Step w pl σ.rows w pl' (upd σ.rows key (some ⟨0, .arr [] t []⟩)) ∧ Rel B G pl' ⟨σ.env, upd σ.rows key (some ⟨0, .arr [] t []⟩)⟩ a w ∧ Men (upd σ.rows key (some ⟨0, .arr [] t []⟩)) (.rw key) ∧
      VR w pl' (upd σ.rows key (some ⟨0, .arr [] t []⟩)) (.rw key) u := by
  obtain ⟨S, Q⟩ := R.grow0 (rows1 := σ.rows) (s := ⟨0, .arr [] t []⟩) (kl := none) hZ hB hk h0 (Wane.refl _) (fun b o h => by cases h)
    (fun S => ⟨provIn_nil _, by rw [loc_put, if_pos rfl]⟩)
  refine ⟨_, S, Q, by simp [Men, upd_at], ?_⟩
  subst hu
  refine ⟨⟨rfl, fun n p kt vt bx l tk hr => (by rw [upd_at, if_pos rfl] at hr; cases hr)⟩, fun n p t' l hr => ?_⟩
  rw [upd_at, if_pos rfl] at hr
  cases hr
  exact ⟨none, 0, rfl, Nat.le_refl _, fun h => absurd h (Nat.lt_irrefl _)⟩

theorem trim_row (R : Rel B G pl σ a w) (hZ : ∀ b, pl.Z b → b < B) (hB : B ≤ w.heap.size) {key r n off len : Nat} {p : Prov} {t : Ty} {l : List t.D} (hr : σ.rows r = some ⟨n, .arr p t l⟩) (hk : σ.rows key = none) (h0 : key ≠ 0) {u : Value}
    (hv : VR w pl σ.rows (.rs r off len) u) :
    ∃ pl', Step w pl σ.rows w pl' (upd (upd σ.rows r (some ⟨n, .gone⟩)) key (some ⟨0, .arr p t ((l.drop off).take len)⟩)) ∧
      Rel B G pl' ⟨σ.env, upd (upd σ.rows r (some ⟨n, .gone⟩)) key (some ⟨0, .arr p t ((l.drop off).take len)⟩)⟩ a w ∧
      Men (upd (upd σ.rows r (some ⟨n, .gone⟩)) key (some ⟨0, .arr p t ((l.drop off).take len)⟩)) (.rw key) ∧
      VR w pl' (upd (upd σ.rows r (some ⟨n, .gone⟩)) key (some ⟨0, .arr p t ((l.drop off).take len)⟩)) (.rw key) u := by
  obtain ⟨g1, g2⟩ := R.rows _ _ hr
  obtain ⟨hle, A, c, rfl, e2, e3⟩ := hv.2 n p t l hr
  have hlen : ((l.drop off).take len).length = len := by simp; omega
  have hle2 : off * t.size + len * t.size ≤ l.length * t.size := by
    rw [← Nat.add_mul]; exact Nat.mul_le_mul_right _ hle
  obtain ⟨kl, hkl⟩ : ∃ kl, kl = (pl.loc r).map fun bo => (bo.1, bo.2 + off * t.size) := ⟨_, rfl⟩
  obtain ⟨S, Q⟩ := R.grow0 (rows1 := upd σ.rows r (some ⟨n, .gone⟩)) (s := ⟨0, .arr p t ((l.drop off).take len)⟩) (kl := kl) hZ hB hk h0 (Wane.one hr)
    (fun b o h => by
      rw [hkl] at h
      obtain ⟨⟨b', o'⟩, e, h⟩ := Option.map_eq_some_iff.1 h
      cases h
      exact ⟨(R.own r _ b' o' hr (by simp [RowS.live]) (.inl e)).1, r, _, n, o', hr, by simp [RowS.live], by rw [upd_at, if_pos rfl], e⟩)
    (fun S => by
      refine ⟨S.provIn g1, ?_⟩
      rw [loc_put, if_pos rfl]
      cases hlr : pl.loc r with
      | none =>
        rw [hlr] at g2 hkl
        have g2' : l = [] := g2
        subst g2'
        subst hkl
        simp
      | some bo =>
        obtain ⟨b, o⟩ := bo
        rw [hlr] at g2 hkl
        subst hkl
        obtain ⟨arr, Te, fr, f1, f2, f3, f4⟩ := g2
        refine ⟨arr, Te, fr, f1, by rw [hlen]; simp only; omega, f3, fun hok i x hx => ?_⟩
        simp only [List.getElem?_take, List.getElem?_drop] at hx
        split at hx
        · obtain ⟨es, q1, q2⟩ := f4 (S.okProv g1 hok) _ x hx
          refine ⟨es, S.rd g1 hok q1, ?_⟩
          rw [Nat.add_assoc, ← Nat.add_mul]
          exact q2
        · cases hx)
  refine ⟨_, S, Q, by simp [Men, upd_at], ⟨rfl, fun n p kt vt bx l tk hr => (by rw [upd_at, if_pos rfl] at hr; cases hr)⟩, fun n' p' t' l' hr' => ?_⟩
  rw [upd_at, if_pos rfl] at hr'
  cases hr'
  refine ⟨A, c, by rw [hlen], by rw [hlen]; exact e2, fun hc => ?_⟩
  obtain ⟨b, o, k1, k2, arr, Te, fr, k3, k4⟩ := e3 hc
  refine ⟨b, o + off * t.size, by rw [loc_put, if_pos rfl, hkl, k1]; rfl, by rw [k2]; simp, arr, Te, fr, k3, ?_⟩
  rw [Nat.zero_add, Nat.add_assoc, ← Nat.add_mul]
  exact k4

theorem move_row (R : Rel B G pl σ a w) (hZ : ∀ b, pl.Z b → b < B) (hB : B ≤ w.heap.size) {key r n : Nat} {p : Prov} {t : Ty} {l : List t.D} (hr : σ.rows r = some ⟨n, .arr p t l⟩) (hk : σ.rows key = none) (h0 : key ≠ 0) {u : Value}
    (hv : VR w pl σ.rows (.rw r) u) :
    ∃ pl', Step w pl σ.rows w pl' (upd (upd σ.rows r (some ⟨n, .gone⟩)) key (some ⟨0, .arr p t l⟩)) ∧
      Rel B G pl' ⟨σ.env, upd (upd σ.rows r (some ⟨n, .gone⟩)) key (some ⟨0, .arr p t l⟩)⟩ a w ∧
      Men (upd (upd σ.rows r (some ⟨n, .gone⟩)) key (some ⟨0, .arr p t l⟩)) (.rw key) ∧
      VR w pl' (upd (upd σ.rows r (some ⟨n, .gone⟩)) key (some ⟨0, .arr p t l⟩)) (.rw key) u := by
  have hv' : VR w pl σ.rows (.rs r 0 l.length) u := by
    refine ⟨hv.1.1, fun n' p' t' l' hr' => ?_⟩
    have h := hv.2 n' p' t' l' hr'
    rw [hr] at hr'
    cases hr'
    exact ⟨by omega, h⟩
  have h := trim_row R hZ hB hr hk h0 hv'
  simpa using h

theorem drop_row (R : Rel B G pl σ a w) {r n : Nat} {p : Prov} {t : Ty} {l : List t.D} (hr : σ.rows r = some ⟨n, .arr p t l⟩) :
    Step w pl σ.rows w pl (upd σ.rows r (some ⟨n, .gone⟩)) ∧ Rel B G pl ⟨σ.env, upd σ.rows r (some ⟨n, .gone⟩)⟩ a w := by
  have r0 : r ≠ 0 := by rintro rfl; rw [R.zero] at hr; cases hr
  have S : Step w pl σ.rows w pl (upd σ.rows r (some ⟨n, .gone⟩)) := by
    refine Step.mk0 rfl rfl (Nat.le_refl _) (fun x s hx => ?_) (fun _ _ => rfl) (fun x s' h1 h2 => ?_) (fun x s' h1 h2 => ?_) (fun b _ _ => rfl) (fun b arr Te fr h => ⟨arr, Te, fr, h, rfl⟩) R.zero
    · by_cases e : x = r
      · subst e
        rw [hr] at hx
        cases hx
        exact ⟨⟨n, .gone⟩, by rw [upd_at, if_pos rfl], ⟨Nat.le_refl _, .inr (.inl ⟨rfl, fun l h => by cases h⟩)⟩, fun _ => rfl⟩
      · exact ⟨s, by rw [upd_at, if_neg e]; exact hx, ⟨Nat.le_refl _, .inl rfl⟩, fun _ => rfl⟩
    · by_cases e : x = r
      · subst e; rw [hr] at h1; cases h1
      · rw [upd_at, if_neg e, h1] at h2; cases h2
    · by_cases e : x = r
      · subst e; rw [hr] at h1; cases h1
      · rw [upd_at, if_neg e, h1] at h2; cases h2
  have some_ : ∀ {x : Nat} {s : RowS}, upd σ.rows r (some ⟨n, .gone⟩) x = some s → σ.rows x ≠ none := by
    intro x s h
    by_cases e : x = r
    · subst e; rw [hr]; simp
    · rw [upd_at, if_neg e] at h; rw [h]; simp
  refine ⟨S, R.step S (fun _ _ => rfl) (fun x s h1 h2 _ => absurd h1 (some_ h2)) R.defers (fun s v h => .inl ⟨h, (R.env s v h).1, rfl⟩) (fun x s' h1 h2 => ?_) ?_ (fun x x' s s' b o o' h1 _ h2 _ _ _ _ h3 => absurd h3 (some_ h2)) (fun x x' s s' b o o' h1 _ h2 _ _ _ h3 _ => absurd h3 (some_ h1)) (fun x s b o h1 _ _ h3 => absurd h3 (some_ h1))⟩
  · by_cases e : x = r
    · subst e
      rw [upd_at, if_pos rfl] at h1
      cases h1
      trivial
    · rw [upd_at, if_neg e] at h1
      exact absurd h1 h2
  · rw [upd_at, if_neg (Ne.symm r0)]; exact R.zero

theorem tie_row (R : Rel B G pl σ a w) {r n : Nat} {p : Prov} {t : Ty} {l : List t.D} (hr : σ.rows r = some ⟨n, .arr p t l⟩) :
    Step w pl σ.rows w pl (upd σ.rows r (some ⟨n + 1, .arr ((0, 0) :: p) t l⟩)) ∧ Rel B G pl ⟨σ.env, upd σ.rows r (some ⟨n + 1, .arr ((0, 0) :: p) t l⟩)⟩ a w := by
  obtain ⟨g1, g2⟩ := R.rows _ _ hr
  have := R.write (nt := 0) (w' := w) (s' := ⟨n + 1, .arr ((0, 0) :: p) t l⟩) (dst := none) (ov := none) (u := undef) (Nat.zero_le _) hr (by simp [RowS.live]) ⟨by simp, .inr (.inr (.inl ⟨p, (0, 0) :: p, t, l, l, rfl, rfl, rfl, by simp⟩))⟩ (by simp) rfl (fun _ _ => rfl)
    (fun b arr Te fr h => ⟨arr, Te, fr, h, rfl⟩)
    (fun S => by
      refine ⟨fun q hq => ?_, ?_⟩
      · rcases List.mem_cons.1 hq with rfl | hq
        · exact .inl rfl
        · exact S.provIn g1 q hq
      · cases hlr : pl.loc r with
        | none => rw [hlr] at g2; exact g2
        | some bo =>
          obtain ⟨b, o⟩ := bo
          rw [hlr] at g2
          obtain ⟨arr, Te, fr, f1, f2, f3, f4⟩ := g2
          refine ⟨arr, Te, fr, f1, f2, f3, fun hok i x hx => ?_⟩
          have hok' : okProv (upd σ.rows r (some ⟨n + 1, .arr ((0, 0) :: p) t l⟩)) p = true := by
            simp only [okProv, Bool.and_eq_true] at hok
            exact hok.2
          obtain ⟨es, q1, q2⟩ := f4 (S.okProv g1 hok') i x hx
          exact ⟨es, RD_mono (fun z hz => List.mem_cons_of_mem _ hz) (S.rd g1 hok' q1), q2⟩)
    (fun S => ⟨fun v e => (by cases e), fun _ => rfl⟩)
  exact this

theorem tie_map (R : Rel B G pl σ a w) (hZ : ∀ b, pl.Z b → b < B) (hB : B ≤ w.heap.size) {r n it : Nat} {p : Prov} {kt vt : Ty} {bx : Bool} {l : List (kt.D × vt.D)} {tk : Option (kt.D × Nat)} (hr : σ.rows r = some ⟨n, .mp it p kt vt bx l tk⟩) :
    Step w pl σ.rows w pl (upd σ.rows r (some ⟨n + 1, .mp it ((0, 0) :: p) kt vt bx l tk⟩)) ∧ Rel B G pl ⟨σ.env, upd σ.rows r (some ⟨n + 1, .mp it ((0, 0) :: p) kt vt bx l tk⟩)⟩ a w := by
  obtain ⟨g1, g2, b, es1, st, bs, e1, e2, e4, e5, e6, e7, e8⟩ := R.rows _ _ hr
  have r0 : r ≠ 0 := by rintro rfl; rw [R.zero] at hr; cases hr
  have hlv : RowS.live ⟨n, .mp it p kt vt bx l tk⟩ := by simp [RowS.live]
  have := R.alter (nt := 0) (w' := w) (pl' := pl) (rows' := upd σ.rows r (some ⟨n + 1, .mp it ((0, 0) :: p) kt vt bx l tk⟩)) (dst := none) (ov := none) (u := undef) (Nat.zero_le _) hZ hB (· = r) rfl rfl (Nat.le_refl _)
    (fun y hy => ⟨by rw [upd_at, if_neg hy], rfl, rfl⟩)
    (fun y s hy hs => by
      subst hy
      rw [hr] at hs
      cases hs
      exact ⟨_, by rw [upd_at, if_pos rfl], ⟨by simp, .inr (.inr (.inr (.inr ⟨_, _, _, _, _, _, _, _, _, _, _, rfl, rfl, Iff.rfl, by simp⟩)))⟩, by simp, fun _ => rfl⟩)
    (fun y s d o hy hs hl ha => .inr ⟨r, _, o, rfl, hr, hlv, hy ▸ ha⟩)
    (fun y y' s s' d o o' hy hy' _ _ _ _ _ _ => hy.trans hy'.symm)
    (fun d hd h => rfl) (fun d arr Te fr hd => ⟨arr, Te, fr, hd, rfl⟩)
    (by rw [upd_at, if_neg (Ne.symm r0)]; exact R.zero)
    (fun S y s hy hs => by
      subst hy
      rw [upd_at, if_pos rfl] at hs
      cases hs
      have hp : ProvIn (upd σ.rows y (some ⟨n + 1, .mp it ((0, 0) :: p) kt vt bx l tk⟩)) ((0, 0) :: p) := fun q hq => by
        rcases List.mem_cons.1 hq with rfl | hq
        · exact .inl rfl
        · exact S.provIn g1 q hq
      refine ⟨hp, g2, b, es1, st, bs, e1, e2, e4.frame (fun hok => ?_) (fun _ _ => rfl), e5.step S, e6, e7, e8⟩
      have hok' : okProv (upd σ.rows y (some ⟨n + 1, .mp it ((0, 0) :: p) kt vt bx l tk⟩)) p = true := by
        simp only [okProv, Bool.and_eq_true] at hok
        exact hok.2
      refine ⟨S.okProv g1 hok', fun c hc => ⟨?_, rfl⟩⟩
      obtain ⟨q1, q2, q3⟩ := (S.safe g1 hok' hc).1
      exact ⟨q1, fun hz => ⟨(q2 hz).1, by obtain ⟨_, q, hq, e⟩ := q2 hz; exact ⟨q, List.mem_cons_of_mem _ hq, e⟩⟩, fun r s o h4 h5 h6 => by obtain ⟨q, hq, e⟩ := q3 r s o h4 h5 h6; exact ⟨q, List.mem_cons_of_mem _ hq, e⟩⟩)
    (fun S => ⟨fun v ev => (by cases ev), fun _ => rfl⟩)
  exact this

theorem curs_in' {rows : Rows} : ∀ {rs : List Nat} {q : Prov}, curs rows rs = some q → ProvIn rows q
  | [], q, h => by cases h; exact provIn_nil _
  | r :: rs, q, h => by
    simp only [curs] at h
    split at h
    · rename_i n p0 t0 l0 hr
      split at h
      · rename_i q1 hq
        cases h
        intro z hz
        rcases List.mem_cons.1 hz with rfl | hz
        · exact .inr ⟨_, hr, .inl (Nat.le_refl _), trivial⟩
        · exact curs_in' hq z hz
      · cases h
    · cases h
theorem curs_in {rows : Rows} {rs : List Nat} {q : Prov} (h : curs rows rs = some q) : ProvIn rows ((0, 0) :: q) := fun z hz => by
  rcases List.mem_cons.1 hz with rfl | hz
  · exact .inl rfl
  · exact curs_in' h z hz
theorem curs_mem {rows : Rows} : ∀ {rs : List Nat} {q : Prov}, curs rows rs = some q → ∀ r, r ∈ rs → ∃ z ∈ q, z.1 = r
  | [], q, h, r, hr => by cases hr
  | r0 :: rs, q, h, r, hr => by
    simp only [curs] at h
    split at h
    · rename_i n p0 t0 l0 hr0
      split at h
      · rename_i q1 hq
        cases h
        rcases List.mem_cons.1 hr with rfl | hr
        · exact ⟨_, List.mem_cons_self, rfl⟩
        · obtain ⟨z, h1, h2⟩ := curs_mem hq r hr
          exact ⟨z, List.mem_cons_of_mem _ h1, h2⟩
      · cases h
    · cases h
theorem freeze_sound {B : Nat} {G : Nat → Prop} {pl : Pl} {a : Act} {w : World} {keep : List Nat} {env : Env} : ∀ {p : Prov} {rows rows' : Rows}, Rel B G pl ⟨env, rows⟩ a w → freeze keep rows p = some rows' →
    Step w pl rows w pl rows' ∧ Rel B G pl ⟨env, rows'⟩ a w ∧ (∀ z ∈ p, z.1 = 0 ∨ z.1 ∈ keep ∨ ∀ s, rows' z.1 = some s → ¬ s.live) ∧ (∀ r s, rows' r = some s → s.live → rows r = some s)
  | [], rows, rows', R, h => by
    cases h
    exact ⟨Step.refl w pl R.zero, R, fun z hz => (by cases hz), fun r s h _ => h⟩
  | (r, m) :: p, rows, rows', R, h => by
    simp only [freeze] at h
    split at h
    · rename_i hk
      obtain ⟨S, R1, h1, h2⟩ := freeze_sound R h
      refine ⟨S, R1, fun z hz => ?_, h2⟩
      rcases List.mem_cons.1 hz with rfl | hz
      · simp only [Bool.or_eq_true, beq_iff_eq, List.any_eq_true] at hk
        rcases hk with hk | ⟨x, hx, e⟩
        · exact .inl hk
        · exact .inr (.inl (e ▸ hx))
      · exact h1 z hz
    · split at h
      · rename_i n p0 t0 l0 hr
        obtain ⟨S0, R0⟩ := drop_row R hr
        obtain ⟨S, R1, h1, h2⟩ := freeze_sound R0 h
        refine ⟨S0.trans' S, R1, fun z hz => ?_, fun r' s' h3 h4 => ?_⟩
        · rcases List.mem_cons.1 hz with rfl | hz
          · refine .inr (.inr fun s hs hl => ?_)
            have := h2 _ s hs hl
            simp only [upd_at, if_true, Option.some.injEq] at this
            subst this
            exact hl rfl
          · exact h1 z hz
        · have := h2 r' s' h3 h4
          rw [upd_at] at this
          split at this
          · simp only [Option.some.injEq] at this
            subst this
            exact absurd rfl h4
          · exact this
      · rename_i n hr
        obtain ⟨S, R1, h1, h2⟩ := freeze_sound R h
        refine ⟨S, R1, fun z hz => ?_, h2⟩
        rcases List.mem_cons.1 hz with rfl | hz
        · refine .inr (.inr fun s hs hl => ?_)
          have := h2 _ s hs hl
          rw [hr] at this
          simp only [Option.some.injEq] at this
          subst this
          exact hl rfl
        · exact h1 z hz
      · cases h
theorem iceP_mem {rows : Rows} : ∀ {l : List PV} {p : Prov} {t : Ty} {x : t.D}, .val p t x ∈ l → okProv rows p = true → ∀ z ∈ p, z ∈ iceP rows l
  | v :: l, p, t, x, h, hk, z, hz => by
    rcases List.mem_cons.1 h with e | h
    · subst e
      simp only [iceP, hk, if_true]
      exact List.mem_append_left _ hz
    · have := iceP_mem h hk z hz
      cases v
      case val p0 t0 x0 =>
        simp only [iceP]
        split
        · exact List.mem_append_right _ this
        · exact this
      all_goals exact this
theorem stripP_sub {keep : List Nat} : ∀ {p : Prov}, ∀ z ∈ stripP keep p, z ∈ p
  | (r, n) :: p, z, hz => by
    simp only [stripP] at hz
    split at hz
    · rcases List.mem_cons.1 hz with rfl | hz
      · exact List.mem_cons_self
      · exact List.mem_cons_of_mem _ (stripP_sub z hz)
    · exact List.mem_cons_of_mem _ (stripP_sub z hz)
theorem stripP_mem {keep : List Nat} : ∀ {p : Prov}, ∀ z ∈ p, (z.1 = 0 ∨ z.1 ∈ keep) → z ∈ stripP keep p
  | (r, n) :: p, z, hz, h => by
    simp only [stripP]
    rcases List.mem_cons.1 hz with rfl | hz
    · rw [if_pos]
      · exact List.mem_cons_self
      · simp only [Bool.or_eq_true, beq_iff_eq, List.any_eq_true]
        rcases h with h | h
        · exact .inl h
        · exact .inr ⟨_, h, rfl⟩
    · split
      · exact List.mem_cons_of_mem _ (stripP_mem z hz h)
      · exact stripP_mem z hz h
theorem CRs.strip {w : World} {pl : Pl} {rows rows1 : Rows} {keep : List Nat} {P : Prov} (S : Step w pl rows w pl rows1)
    (f1 : ∀ z ∈ P, z.1 = 0 ∨ z.1 ∈ keep ∨ ∀ s, rows1 z.1 = some s → ¬ s.live) (f2 : ∀ r s, rows1 r = some s → s.live → ∃ s0, rows r = some s0 ∧ s0.live) :
    ∀ {l : List PV} {us : List Value}, (∀ (p : Prov) (t : Ty) (x : t.D), .val p t x ∈ l → okProv rows p = true → ∀ z ∈ p, z ∈ P) → CRs w pl rows l us → CRs w pl rows1 (stripL keep rows l) us
  | [], us, _, h => h
  | v :: l, us, hP, h => by
    obtain ⟨u, us', rfl, ⟨g1, g2⟩, g3⟩ := h
    refine ⟨u, us', rfl, ?_, CRs.strip S f1 f2 (fun p t x hx => hP p t x (List.mem_cons_of_mem _ hx)) g3⟩
    have stay : Men rows1 v ∧ (okPV rows1 v = true → VR w pl rows1 v u) := ⟨S.men g1, fun hk => S.vr g1 hk g2⟩
    cases v
    case val p t x =>
      simp only [stripV]
      split
      · rename_i hok
        have hsub : ProvIn rows (stripP keep p) := fun z hz => g1 z (stripP_sub z hz)
        refine ⟨S.provIn hsub, fun _ => RD_frame (fun b hb => ?_) (fun _ _ => rfl) (g2 hok)⟩
        obtain ⟨q1, q2, q3⟩ := hb
        refine ⟨q1, fun hz => ?_, fun r s o hr hl hloc => ?_⟩
        · obtain ⟨a1, z, a2, a3⟩ := q2 hz
          exact ⟨a1, z, stripP_mem z a2 (.inl a3), a3⟩
        · obtain ⟨s0, k1, k2⟩ := f2 r s hr hl
          obtain ⟨z, hz, e⟩ := q3 r s0 o k1 k2 hloc
          rcases f1 z (hP p t x List.mem_cons_self hok z hz) with h0 | h0 | h0
          · exact ⟨z, stripP_mem z hz (.inl h0), e⟩
          · exact ⟨z, stripP_mem z hz (.inr h0), e⟩
          · exact absurd hl (h0 s (by rw [e]; exact hr))
      · exact stay
    all_goals exact stay
/-- What is left of the rows. -/
def LeftR (rows rows' : Rows) : Prop := ∀ r s, rows' r = some s → s.live → ∃ s0, rows r = some s0 ∧ s0.live ∧ ∀ n p t l, s0 = ⟨n, .arr p t l⟩ → ∃ n' p', s = ⟨n', .arr p' t l⟩
theorem safe_strip {w : World} {pl : Pl} {rows rows1 : Rows} {keep : List Nat} {P p : Prov} {b : Nat}
    (f1 : ∀ z ∈ P, z.1 = 0 ∨ z.1 ∈ keep ∨ ∀ s, rows1 z.1 = some s → ¬ s.live) (f2 : ∀ r s, rows1 r = some s → s.live → ∃ s0, rows r = some s0 ∧ s0.live)
    (hP : ∀ z ∈ p, z ∈ P) (h : Safe w pl rows p b) : Safe w pl rows1 (stripP keep p) b := by
  obtain ⟨q1, q2, q3⟩ := h
  refine ⟨q1, fun hz => ?_, fun r s o hr hl hloc => ?_⟩
  · obtain ⟨a1, z, a2, a3⟩ := q2 hz
    exact ⟨a1, z, stripP_mem z a2 (.inl a3), a3⟩
  · obtain ⟨s0, k1, k2⟩ := f2 r s hr hl
    obtain ⟨z, hz, e⟩ := q3 r s0 o k1 k2 hloc
    rcases f1 z (hP z hz) with h0 | h0 | h0
    · exact ⟨z, stripP_mem z hz (.inl h0), e⟩
    · exact ⟨z, stripP_mem z hz (.inr h0), e⟩
    · exact absurd hl (h0 s (by rw [e]; exact hr))
theorem restamps_sound {B : Nat} {G : Nat → Prop} {pl : Pl} {a : Act} {w : World} {keep : List Nat} {env : Env} {rows : Rows} {P : Prov} (R : Rel B G pl ⟨env, rows⟩ a w) :
    ∀ {rs : List Nat} {cur rows' : Rows}, (∀ z ∈ rowP rows rs, z ∈ P) → Step w pl rows w pl cur → Rel B G pl ⟨env, cur⟩ a w →
    (∀ z ∈ P, z.1 = 0 ∨ z.1 ∈ keep ∨ ∀ s, cur z.1 = some s → ¬ s.live) → LeftR rows cur → restamps keep rows cur rs = some rows' →
    Step w pl rows w pl rows' ∧ Rel B G pl ⟨env, rows'⟩ a w ∧ (∀ z ∈ P, z.1 = 0 ∨ z.1 ∈ keep ∨ ∀ s, rows' z.1 = some s → ¬ s.live) ∧ LeftR rows rows'
  | [], cur, rows', _, S, Rc, F, J, h => by cases h; exact ⟨S, Rc, F, J⟩
  | r :: rs, cur, rows', hP, S, Rc, F, J, h => by
    simp only [restamps] at h
    split at h
    · rename_i n0 p t l hr
      split at h
      · rename_i hok
        have hP1 : ∀ z ∈ p, z ∈ P := fun z hz => hP z (by simp only [rowP, hr, hok, if_true]; exact List.mem_append_left _ hz)
        have hP2 : ∀ z ∈ rowP rows rs, z ∈ P := fun z hz => hP z (by simp only [rowP, hr, hok, if_true]; exact List.mem_append_right _ hz)
        split at h
        · rename_i n p1 t1 l1 hc
          obtain ⟨s0, k1, k2, k3⟩ := J r _ hc (by simp [RowS.live])
          rw [hr] at k1
          cases k1
          obtain ⟨n', p', k4⟩ := k3 _ _ _ _ rfl
          cases k4
          obtain ⟨g1, g2⟩ := R.rows _ _ hr
          have f2 : ∀ x s, upd cur r (some ⟨n + 1, .arr (stripP keep p) t l⟩) x = some s → s.live → ∃ s0, rows x = some s0 ∧ s0.live := fun x s hx hl => by
            rw [upd_at] at hx
            split at hx
            · rename_i e; subst e; exact ⟨_, hr, by simp [RowS.live]⟩
            · obtain ⟨s0, e1, e2, _⟩ := J x s hx hl; exact ⟨s0, e1, e2⟩
          have f1 : ∀ z ∈ P, z.1 = 0 ∨ z.1 ∈ keep ∨ ∀ s, upd cur r (some ⟨n + 1, .arr (stripP keep p) t l⟩) z.1 = some s → ¬ s.live := fun z hz => by
            rcases F z hz with h0 | h0 | h0
            · exact .inl h0
            · exact .inr (.inl h0)
            · refine .inr (.inr fun s hs => ?_)
              rw [upd_at] at hs
              split at hs
              · rename_i e
                exact absurd (by simp [RowS.live]) (h0 ⟨n, .arr p1 t l⟩ (by rw [e]; exact hc))
              · exact h0 s hs
          have := Rc.write (nt := 0) (w' := w) (s' := ⟨n + 1, .arr (stripP keep p) t l⟩) (dst := none) (ov := none) (u := undef) (Nat.zero_le _) hc (by simp [RowS.live]) ⟨by simp, .inr (.inr (.inl ⟨p1, stripP keep p, t, l, l, rfl, rfl, rfl, by simp⟩))⟩ (by simp) rfl (fun _ _ => rfl)
            (fun b arr Te fr h => ⟨arr, Te, fr, h, rfl⟩)
            (fun S2 => by
              refine ⟨S2.provIn (S.provIn fun z hz => g1 z (stripP_sub z hz)), ?_⟩
              cases hlr : pl.loc r with
              | none => rw [hlr] at g2; exact g2
              | some bo =>
                obtain ⟨b, o⟩ := bo
                rw [hlr] at g2
                obtain ⟨arr, Te, fr, q1, q2, q3, q4⟩ := g2
                refine ⟨arr, Te, fr, q1, q2, q3, fun _ i x hx => ?_⟩
                obtain ⟨es, q5, q6⟩ := q4 hok i x hx
                exact ⟨es, RD_frame (fun b hb => safe_strip f1 f2 hP1 hb) (fun _ _ => rfl) q5, q6⟩)
            (fun S2 => ⟨fun v e => (by cases e), fun _ => rfl⟩)
          obtain ⟨S2, R2⟩ := this
          refine restamps_sound R hP2 (S.trans' S2) R2 f1 (fun x s hx hl => ?_) h
          rw [upd_at] at hx
          split at hx
          · rename_i e
            subst e
            cases hx
            exact ⟨_, hr, by simp [RowS.live], fun n1 p2 t2 l2 e => by cases e; exact ⟨_, _, rfl⟩⟩
          · exact J x s hx hl
        · cases h
      · rename_i hok
        exact restamps_sound R (fun z hz => hP z (by simp only [rowP, hr, hok]; exact hz)) S Rc F J h
    · rename_i hno
      exact restamps_sound R (fun z hz => hP z (by
        simp only [rowP]
        exact hz)) S Rc F J h
theorem melt_sound {B : Nat} {G : Nat → Prop} {pl : Pl} {a : Act} {w : World} {keep : List Nat} {env : Env} {rows rows' : Rows} {l : List PV} (R : Rel B G pl ⟨env, rows⟩ a w) (h : melt keep rows l = some rows') :
    Step w pl rows w pl rows' ∧ Rel B G pl ⟨env, rows'⟩ a w ∧ (∀ z ∈ iceP rows l, z.1 = 0 ∨ z.1 ∈ keep ∨ ∀ s, rows' z.1 = some s → ¬ s.live) ∧ LeftR rows rows' := by
  unfold melt at h
  split at h
  · rename_i rows1 hf
    obtain ⟨S1, R1, f1, f2⟩ := freeze_sound R hf
    obtain ⟨S2, R2, F2, J2⟩ := restamps_sound R (fun z hz => List.mem_append_right _ hz) S1 R1 f1 (fun r s hr hl => ⟨s, f2 r s hr hl, hl, fun n p t l e => ⟨n, p, e⟩⟩) h
    exact ⟨S2, R2, fun z hz => F2 z (List.mem_append_left _ hz), J2⟩
  · cases h
theorem stripL_len {keep : List Nat} {rows : Rows} : ∀ {l : List PV}, (stripL keep rows l).length = l.length
  | [] => rfl
  | v :: l => by simp [stripL, stripL_len]
theorem ices_sound {B : Nat} {G : Nat → Prop} {a : Act} {w : World} {pl : Pl} {σ : St} {keep : List Nat} {v v' : PV} {rows' : Rows} {u : Value} (R : Rel B G pl σ a w)
    (hm : Men σ.rows v) (hv : okPV σ.rows v = true → VR w pl σ.rows v u) (h : ices keep σ.rows v = some (v', rows')) :
    Step w pl σ.rows w pl rows' ∧ Rel B G pl ⟨σ.env, rows'⟩ a w ∧ (Men rows' v' ∧ (okPV rows' v' = true → VR w pl rows' v' u)) := by
  obtain ⟨env, rows⟩ := σ
  cases v
  case ptr r off =>
    simp only [ices] at h
    split at h
    · rename_i n0 l hr
      split at h
      · rename_i rows1 hf
        split at h
        · rename_i n l0 hr1
          split at h
          · rename_i hlen
            cases h
            have hlen : l.length = l0.length := by simpa using hlen
            obtain ⟨S1, R1, f1, f2'⟩ := melt_sound R hf
            have f2 : ∀ r s, rows1 r = some s → s.live → ∃ s0, rows r = some s0 ∧ s0.live := fun r s h1 h2 => by obtain ⟨s0, e1, e2, _⟩ := f2' r s h1 h2; exact ⟨s0, e1, e2⟩
            obtain ⟨m1, b, arr, Te, fr, e0, e1, e2, e3, e4⟩ := R.rows _ _ hr
            have hc : CRs w pl rows l arr.toList := CRs.mk_ (by simpa using e2) fun j x u hx hu => by
              obtain ⟨u', q1, q2, q3⟩ := e4 j x hx
              rw [Array.getElem?_toList, q1] at hu
              cases hu
              exact ⟨mens_mem m1 x (List.mem_of_getElem? hx), q3⟩
            have c1 := hc.strip S1 f1 f2 (fun p t x hx hk => iceP_mem hx hk)
            obtain ⟨m2, b2, arr2, T2, fr2, g0, g1, g2, g3, g4⟩ := R1.rows _ _ hr1
            rw [e0] at g0
            cases g0
            rw [e1] at g1
            cases g1
            obtain ⟨S2, R2⟩ := R1.write (nt := 0) (w' := w) (s' := ⟨n + 1, .vars (stripL (ownL l ++ keep) rows l)⟩) (dst := none) (ov := none) (u := undef) (Nat.zero_le _) hr1 (by simp [RowS.live]) ⟨by simp, .inr (.inr (.inr (.inl ⟨l0, stripL (ownL l ++ keep) rows l, rfl, rfl, by rw [stripL_len]; exact hlen, by simp⟩)))⟩ (by simp) rfl (fun _ _ => rfl)
              (fun b arr Te fr h => ⟨arr, Te, fr, h, rfl⟩)
              (fun S => by
                refine ⟨S.mens c1.out.1, b, arr, Te, fr, e0, e1, by rw [stripL_len, hlen]; exact g2, e3, fun j x hx => ?_⟩
                obtain ⟨u', q1, q2, q3⟩ := c1.get j x hx
                rw [Array.getElem?_toList] at q1
                have hj : j < l.length := by
                  have := (Array.getElem?_eq_some_iff.1 q1).1
                  omega
                obtain ⟨u'', r1, r2, _⟩ := e4 j _ (List.getElem?_eq_getElem hj)
                rw [q1] at r1
                cases r1
                exact ⟨u', q1, r2, fun hok => S.vr q2 hok q3⟩)
              (fun S => ⟨fun v e => (by cases e), fun _ => rfl⟩)
            exact ⟨S1.trans' S2, R2, ⟨by simp [Men, upd_at], fun _ => S2.vr (v := .ptr r off) (by simp [Men, hr1]) rfl (fun _ => S1.vr (v := .ptr r off) (by simp [Men, hr]) rfl (fun _ => hv rfl))⟩⟩
          · cases h
        · cases h
      · cases h
    · cases h
  case agg l =>
    simp only [ices] at h
    split at h
    · rename_i rows1 hf
      split at h
      · rename_i hok
        cases h
        obtain ⟨S1, R1, f1, f2'⟩ := melt_sound R hf
        have f2 : ∀ r s, rows' r = some s → s.live → ∃ s0, rows r = some s0 ∧ s0.live := fun r s h1 h2 => by obtain ⟨s0, e1, e2, _⟩ := f2' r s h1 h2; exact ⟨s0, e1, e2⟩
        obtain ⟨cs, rfl, g1, g2⟩ := hv hok
        have c1 := (CRs.of hm g1).strip S1 f1 f2 (fun p t x hx hk => iceP_mem hx hk)
        exact ⟨S1, R1, c1.out.1, fun hk => ⟨cs, rfl, c1.out.2 hk, g2⟩⟩
      · cases h
    · cases h
  all_goals cases h
mutual
theorem coerce_sound {B : Nat} {G : Nat → Prop} {a : Act} {w : World} (hB : B ≤ w.heap.size) : ∀ (m : Mode) {pl : Pl} {σ : St} {key key' : Nat} {v v' : PV} {rows' : Rows} {u : Value}, Rel B G pl σ a w → (∀ b, pl.Z b → b < B) → key ≠ 0 →
    Men σ.rows v → (okPV σ.rows v = true → VR w pl σ.rows v u) → coerce m σ.rows key v = some (v', rows', key') →
    ∃ pl', Step w pl σ.rows w pl' rows' ∧ Rel B G pl' ⟨σ.env, rows'⟩ a w ∧ (Men rows' v' ∧ (okPV rows' v' = true → VR w pl' rows' v' u)) ∧ key' ≠ 0
  | m, pl, σ, key, key', v, v', rows', u, R, hZ, h0, hm, hv, h => by
    have stay : ∀ {v1 : PV}, Men σ.rows v1 → (okPV σ.rows v1 = true → VR w pl σ.rows v1 u) → some (v1, σ.rows, key) = some (v', rows', key') →
        ∃ pl', Step w pl σ.rows w pl' rows' ∧ Rel B G pl' ⟨σ.env, rows'⟩ a w ∧ (Men rows' v' ∧ (okPV rows' v' = true → VR w pl' rows' v' u)) ∧ key' ≠ 0 := by
      intro v1 h1 h2 h3
      cases h3
      exact ⟨pl, Step.refl w pl R.zero, R, ⟨h1, h2⟩, h0⟩
    have nilr : ∀ {t : Ty}, v = .nils → (match addRow σ.rows key (.arr [] t []) with | some (rows', k) => some (PV.rw key, rows', k) | none => none) = some (v', rows', key') →
        ∃ pl', Step w pl σ.rows w pl' rows' ∧ Rel B G pl' ⟨σ.env, rows'⟩ a w ∧ (Men rows' v' ∧ (okPV rows' v' = true → VR w pl' rows' v' u)) ∧ key' ≠ 0 := by
      intro t hvn hx
      subst hvn
      split at hx
      · rename_i hk
        obtain ⟨e1, e2⟩ := addRow_eq hk
        cases e2
        cases hx
        obtain ⟨pl', q1, q2, q3, q4⟩ := nil_row (t := t) R hZ hB e1 h0 (hv rfl)
        exact ⟨pl', q1, q2, ⟨q3, fun _ => q4⟩, by omega⟩
      · cases hx
    cases m with
    | any => exact stay hm hv h
    | own t =>
      cases v
      case nils => exact nilr rfl h
      case rw r => exact stay hm hv h
      all_goals cases h
    | trim t =>
      cases v
      case nils => exact nilr rfl h
      case rw r => exact stay hm hv h
      case rs r off len =>
        simp only [coerce] at h
        split at h
        · rename_i n p t' l hr
          split at h
          · rename_i hk
            obtain ⟨e1, e2⟩ := addRow_eq hk
            cases e2
            cases h
            have e1' : σ.rows key = none := by
              rw [upd_at] at e1
              split at e1
              · cases e1
              · exact e1
            obtain ⟨pl', q1, q2, q3, q4⟩ := trim_row R hZ hB hr e1' h0 (hv rfl)
            exact ⟨pl', q1, q2, ⟨q3, fun _ => q4⟩, by omega⟩
          · cases h
        · cases h
      all_goals cases h
    | move t =>
      cases v
      case nils => exact nilr rfl h
      case rw r =>
        simp only [coerce] at h
        split at h
        · rename_i n p t' l hr
          split at h
          · rename_i hk
            obtain ⟨e1, e2⟩ := addRow_eq hk
            cases e2
            cases h
            have e1' : σ.rows key = none := by
              rw [upd_at] at e1
              split at e1
              · cases e1
              · exact e1
            obtain ⟨pl', q1, q2, q3, q4⟩ := move_row R hZ hB hr e1' h0 (hv rfl)
            exact ⟨pl', q1, q2, ⟨q3, fun _ => q4⟩, by omega⟩
          · cases h
        · cases h
      case rs r off len =>
        simp only [coerce] at h
        split at h
        · rename_i n p t' l hr
          split at h
          · rename_i hk
            obtain ⟨e1, e2⟩ := addRow_eq hk
            cases e2
            cases h
            have e1' : σ.rows key = none := by
              rw [upd_at] at e1
              split at e1
              · cases e1
              · exact e1
            obtain ⟨pl', q1, q2, q3, q4⟩ := trim_row R hZ hB hr e1' h0 (hv rfl)
            exact ⟨pl', q1, q2, ⟨q3, fun _ => q4⟩, by omega⟩
          · cases h
        · cases h
      all_goals cases h
    | tie m =>
      simp only [coerce] at h
      split at h
      · rename_i r rows1 k1 h1
        obtain ⟨pl1, S1, R1, c1, hk1⟩ := coerce_sound hB m R hZ h0 hm hv h1
        split at h
        · rename_i n p t l hr
          cases h
          obtain ⟨S2, R2⟩ := tie_row R1 hr
          exact ⟨pl1, S1.trans' S2, R2, ⟨S2.men c1.1, fun hk => S2.vr c1.1 hk c1.2⟩, hk1⟩
        · rename_i n it p kt vt bx l tk hr
          cases h
          obtain ⟨S2, R2⟩ := tie_map R1 (fun b hb => hZ b (by rw [S1.z] at hb; exact hb)) hB hr
          exact ⟨pl1, S1.trans' S2, R2, ⟨S2.men c1.1, fun hk => S2.vr c1.1 hk c1.2⟩, hk1⟩
        · cases h
      · cases h
    | drop r m =>
      simp only [coerce] at h
      split at h
      · rename_i v1 rows1 k1 h1
        obtain ⟨pl1, S1, R1, c1, hk1⟩ := coerce_sound hB m R hZ h0 hm hv h1
        split at h
        · rename_i n p t l hr
          cases h
          obtain ⟨S2, R2⟩ := drop_row R1 hr
          exact ⟨pl1, S1.trans' S2, R2, ⟨S2.men c1.1, fun hk => S2.vr c1.1 hk c1.2⟩, hk1⟩
        · cases h
          exact ⟨pl1, S1, R1, c1, hk1⟩
      · cases h
    | wide rs m =>
      simp only [coerce] at h
      split at h
      · rename_i p t x rows1 k1 h1
        obtain ⟨pl1, S1, R1, c1, hk1⟩ := coerce_sound hB m R hZ h0 hm hv h1
        split at h
        · rename_i hok
          split at h
          · rename_i rows2 hf
            split at h
            · rename_i q hq
              cases h
              obtain ⟨S2, R2, f1, f2⟩ := freeze_sound R1 hf
              refine ⟨pl1, S1.trans' S2, R2, ⟨curs_in hq, fun _ => RD_frame (fun b hb => ?_) (fun _ _ => rfl) (c1.2 hok)⟩, hk1⟩
              obtain ⟨g1, g2, g3⟩ := hb
              refine ⟨g1, fun hz => ⟨(g2 hz).1, (0, 0), List.mem_cons_self, rfl⟩, fun r s o hr hl hloc => ?_⟩
              obtain ⟨z, hz, e⟩ := g3 r s o (f2 r s hr hl) hl hloc
              rcases f1 z hz with h0 | h0 | h0
              · exact ⟨(0, 0), List.mem_cons_self, by rw [← e, h0]⟩
              · obtain ⟨y, hy, e2⟩ := curs_mem hq z.1 h0
                exact ⟨y, List.mem_cons_of_mem _ hy, e2.trans e⟩
              · exact absurd hl (h0 s (by rw [e]; exact hr))
            · cases h
          · cases h
        · cases h
      · cases h
    | ice rs m =>
      simp only [coerce] at h
      split at h
      · rename_i v1 rows1 h1
        obtain ⟨S1, R1, c1⟩ := ices_sound R hm hv h1
        obtain ⟨pl2, S2, R2, c2, hk2⟩ := coerce_sound hB m R1 hZ h0 c1.1 c1.2 h
        exact ⟨pl2, S1.trans' S2, R2, c2, hk2⟩
      · cases h
    | value t =>
      simp only [coerce] at h
      split at h
      · rename_i hk
        have hv' := hv hk
        split at h
        · rename_i hx
          obtain ⟨q1, q2, q3⟩ := toVal_sound R hm hk hv' hx
          have q3' : u = .slice none 0 0 := q3
          subst q3'
          exact stay (v1 := .val [] (.slice t) []) (provIn_nil _) (fun _ => ⟨none, 0, rfl, Nat.le_refl _, fun h => absurd rfl h⟩) h
        · rename_i x _ hx
          obtain ⟨q1, q2, q3⟩ := toVal_sound R hm hk hv' hx
          exact stay q1 (fun _ => q3) h
        · cases h
      · cases h
    | lend t =>
      simp only [coerce] at h
      split at h
      · rename_i hk
        have hv' := hv hk
        split at h
        · rename_i hx
          obtain ⟨q1, q2, q3⟩ := toVal_sound R hm hk hv' hx
          have q3' : u = .slice none 0 0 := q3
          subst q3'
          exact stay (v1 := .val [(0, 0)] (.slice t) []) (fun q hq => by simp at hq; subst hq; exact .inl rfl) (fun _ => ⟨none, 0, rfl, Nat.le_refl _, fun h => absurd rfl h⟩) h
        · rename_i p t' x hx
          obtain ⟨q1, q2, q3⟩ := toVal_sound R hm hk hv' hx
          refine stay (v1 := .val ((0, 0) :: p) t' x) (fun q hq => ?_) (fun _ => RD_mono (fun z hz => List.mem_cons_of_mem _ hz) q3) h
          rcases List.mem_cons.1 hq with rfl | hq
          · exact .inl rfl
          · exact q1 q hq
        · cases h
      · cases h
    | cells ms =>
      cases v
      case ptr r off =>
        simp only [coerce] at h
        split at h
        · rename_i n0 l hr
          split at h
          · rename_i l' rows1 k hl
            split at h
            · rename_i n l0 hr1
              split at h
              · rename_i hlen
                cases h
                obtain ⟨m1, b, arr, Te, fr, e0, e1, e2, e3, e4⟩ := R.rows _ _ hr
                have hc : CRs w pl σ.rows l arr.toList := CRs.mk_ (by simpa using e2) fun j x u hx hu => by
                  obtain ⟨u', q1, q2, q3⟩ := e4 j x hx
                  rw [Array.getElem?_toList, q1] at hu
                  cases hu
                  exact ⟨mens_mem m1 x (List.mem_of_getElem? hx), q3⟩
                obtain ⟨pl1, S1, R1, c1, hk⟩ := coerceL_sound hB ms R hZ h0 hc hl
                obtain ⟨m2, b2, arr2, T2, fr2, f0, f1, f2, f3, f4⟩ := R1.rows _ _ hr1
                obtain ⟨_, _, _, _, hloc⟩ := S1.vars (r := r) (by rw [hr]; simp) hr1
                rw [hloc, e0] at f0
                cases f0
                rw [e1] at f1
                cases f1
                obtain ⟨S2, R2⟩ := R1.write (nt := 0) (w' := w) (s' := ⟨n + 1, .vars l'⟩) (dst := none) (ov := none) (u := undef) (Nat.zero_le _) hr1 (by simp [RowS.live]) ⟨by simp, .inr (.inr (.inr (.inl ⟨l0, l', rfl, rfl, hlen, by simp⟩)))⟩ (by simp) rfl (fun _ _ => rfl)
                  (fun b arr Te fr h => ⟨arr, Te, fr, h, rfl⟩)
                  (fun S => by
                    refine ⟨S.mens c1.out.1, b, arr, Te, fr, hloc.trans e0, e1, by rw [hlen]; exact f2, e3, fun j x hx => ?_⟩
                    obtain ⟨u', q1, q2, q3⟩ := c1.get j x hx
                    rw [Array.getElem?_toList] at q1
                    have hj : j < l.length := by
                      have := (Array.getElem?_eq_some_iff.1 q1).1
                      omega
                    obtain ⟨u'', r1, r2, _⟩ := e4 j _ (List.getElem?_eq_getElem hj)
                    rw [q1] at r1
                    cases r1
                    exact ⟨u', q1, r2, fun hok => S.vr q2 hok q3⟩)
                  (fun S => ⟨fun v e => (by cases e), fun _ => rfl⟩)
                exact ⟨pl1, S1.trans' S2, R2, ⟨by simp [Men, upd_at], fun _ => S2.vr (v := .ptr r off) (by simp [Men, hr1]) rfl (fun _ => S1.vr (v := .ptr r off) (by simp [Men, hr]) rfl (fun _ => hv rfl))⟩, hk⟩
              · cases h
            · cases h
          · cases h
        · cases h
      case agg l =>
        simp only [coerce] at h
        split at h
        · rename_i hok
          split at h
          · rename_i l' rows1 k hl
            cases h
            obtain ⟨cs, rfl, g1, g2⟩ := hv hok
            obtain ⟨pl1, S1, R1, c1, hk⟩ := coerceL_sound hB ms R hZ h0 (CRs.of hm g1) hl
            exact ⟨pl1, S1, R1, ⟨c1.out.1, fun hk => ⟨cs, rfl, c1.out.2 hk, g2⟩⟩, hk⟩
          · cases h
        · cases h
      all_goals cases h
theorem coerceL_sound {B : Nat} {G : Nat → Prop} {a : Act} {w : World} (hB : B ≤ w.heap.size) : ∀ (ms : List Mode) {pl : Pl} {σ : St} {key key' : Nat} {l l' : List PV} {rows' : Rows} {us : List Value}, Rel B G pl σ a w → (∀ b, pl.Z b → b < B) → key ≠ 0 →
    CRs w pl σ.rows l us → coerce.coerceL ms σ.rows key l = some (l', rows', key') →
    ∃ pl', Step w pl σ.rows w pl' rows' ∧ Rel B G pl' ⟨σ.env, rows'⟩ a w ∧ CRs w pl' rows' l' us ∧ key' ≠ 0
  | [], pl, σ, key, key', l, l', rows', us, R, hZ, h0, hc, h => by
    cases l <;> (simp only [coerce.coerceL, Option.some.injEq, Prod.mk.injEq] at h; obtain ⟨rfl, rfl, rfl⟩ := h; exact ⟨pl, Step.refl w pl R.zero, R, hc, h0⟩)
  | m :: ms, pl, σ, key, key', [], l', rows', us, R, hZ, h0, hc, h => by cases h
  | m :: ms, pl, σ, key, key', v :: l, l', rows', us, R, hZ, h0, hc, h => by
    simp only [coerce.coerceL] at h
    split at h
    · rename_i v1 rows1 k1 h1
      split at h
      · rename_i l1 rows2 k2 h2
        cases h
        obtain ⟨u, us', rfl, ⟨g1, g2⟩, g3⟩ := hc
        obtain ⟨pl1, S1, R1, c1, hk1⟩ := coerce_sound hB m R hZ h0 g1 g2 h1
        obtain ⟨pl2, S2, R2, c2, hk2⟩ := coerceL_sound (σ := ⟨σ.env, rows1⟩) hB ms R1 (fun b hb => hZ b (by rw [S1.z] at hb; exact hb)) hk1 (g3.step S1) h2
        exact ⟨pl2, S1.trans' S2, R2, ⟨u, us', rfl, ⟨S2.men c1.1, fun hk => S2.vr c1.1 hk c1.2⟩, c2⟩, hk2⟩
      · cases h
    · cases h
end
end
end Go.Proofs.Ytecnlienmpdlaaa.PM
