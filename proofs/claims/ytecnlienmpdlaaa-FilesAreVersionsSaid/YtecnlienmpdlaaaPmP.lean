/- The small machine PM is sound, eighth part: values and rows told anew (packed). -/
import Derived.Test.YtecnlienmpdlaaaPmY
set_option linter.unusedSimpArgs false
set_option linter.unusedVariables false
namespace Go.Proofs.Ytecnlienmpdlaaa.PM
open Go

/-! ### numbers -/
theorem findN_numbered : ∀ {ids : List Nat} {n r i : Nat}, findN (numbered n ids) r = some i → ∃ k, i = n + k ∧ ids[k]? = some r
  | [], n, r, i, h => by cases h
  | x :: ids, n, r, i, h => by
    simp only [numbered, findN] at h
    by_cases e : x = r
    · subst e
      simp at h
      subst h
      exact ⟨0, rfl, rfl⟩
    · have : (x == r) = false := by simpa using e
      rw [this] at h
      obtain ⟨k, h1, h2⟩ := findN_numbered (n := n + 1) h
      exact ⟨k + 1, by omega, by simpa using h2⟩
theorem findN_some : ∀ {ids : List Nat} {n k r : Nat}, ids.Nodup → ids[k]? = some r → findN (numbered n ids) r = some (n + k)
  | [], _, _, _, _, h => by simp at h
  | x :: ids, n, k, r, hn, h => by
    simp only [numbered, findN]
    rw [List.nodup_cons] at hn
    cases k with
    | zero => simp at h; subst h; simp
    | succ k =>
      have h' : ids[k]? = some r := by simpa using h
      have hne : ¬ x = r := fun e => hn.1 (e ▸ List.mem_of_getElem? h')
      have : (x == r) = false := by simpa using hne
      rw [this]
      have := findN_some (n := n + 1) hn.2 h'
      simp only [this]
      simp; omega
theorem findN_none : ∀ {ids : List Nat} {n r : Nat}, findN (numbered n ids) r = none → r ∉ ids
  | [], _, _, _ => by simp
  | x :: ids, n, r, h => by
    simp only [numbered, findN] at h
    by_cases e : x = r
    · subst e; simp at h
    · have : (x == r) = false := by simpa using e
      rw [this] at h
      have := findN_none (n := n + 1) h
      simp [this, Ne.symm e]

theorem rowAt_get : ∀ {l : List RowS} {i : Nat}, rowAt l i = if i = 0 then none else l[i - 1]?
  | [], i => by simp [rowAt]
  | s :: l, i => by
    simp only [rowAt]
    by_cases h1 : i = 1
    · subst h1; simp
    · have : (i == 1) = false := by simpa using h1
      rw [this]
      simp only [Bool.false_eq_true, if_false]
      rw [rowAt_get]
      by_cases h0 : i = 0
      · subst h0; simp
      · rw [if_neg (by omega), if_neg h0]
        obtain ⟨j, rfl⟩ : ∃ j, i = j + 2 := ⟨i - 2, by omega⟩
        simp
theorem rowsOf_get (l : List RowS) (i : Nat) : rowsOf l i = if i = 0 then none else l[i - 1]? := by
  unfold rowsOf
  by_cases h0 : i = 0
  · subst h0; simp
  · have : (i == 0) = false := by simpa using h0
    rw [this, if_neg h0]
    simp only [Bool.false_eq_true, if_false]
    rw [rowAt_get, if_neg h0]
theorem rowsOf_succ (l : List RowS) (k : Nat) : rowsOf l (k + 1) = l[k]? := by rw [rowsOf_get, if_neg (by omega)]; simp
theorem rowsOf_zero (l : List RowS) : rowsOf l 0 = none := by rw [rowsOf_get, if_pos rfl]

theorem reach_spec {rows : Rows} : ∀ {n : Nat} {todo acc ids : List Nat}, reach rows n todo acc = some ids → acc.Nodup → ids.Nodup ∧ ∃ l, ids = acc ++ l
  | 0, _, _, _, h, _ => by cases h
  | n + 1, [], acc, ids, h, hn => by
    obtain rfl := Option.some.inj h
    exact ⟨hn, [], by simp⟩
  | n + 1, r :: todo, acc, ids, h, hn => by
    simp only [reach] at h
    split at h
    · exact reach_spec h hn
    · rename_i hr
      have hr' : r ∉ acc := fun hm => hr (List.any_eq_true.2 ⟨r, hm, by simp⟩)
      obtain ⟨h1, l, h2⟩ := reach_spec h (by
        rw [List.nodup_append]
        refine ⟨hn, by simp, fun a ha b hb => ?_⟩
        simp at hb
        subst hb
        intro e
        subst e
        exact hr' ha)
      exact ⟨h1, r :: l, by rw [h2]; simp⟩
theorem upTo_get : ∀ {n k : Nat}, k < n → (upTo n)[k]? = some (k + 1)
  | n + 1, k, h => by
    have hlen : ∀ n, (upTo n).length = n := by
      intro n
      induction n with
      | zero => rfl
      | succ n ih => simp [upTo, ih]
    simp only [upTo]
    by_cases h1 : k < n
    · rw [List.getElem?_append_left (by rw [hlen]; exact h1)]; exact upTo_get h1
    · have : k = n := by omega
      subst this
      rw [List.getElem?_append_right (by rw [hlen]; exact Nat.le_refl _), hlen]; simp
theorem upTo_mem : ∀ {n x : Nat}, x ∈ upTo n → 1 ≤ x ∧ x ≤ n
  | 0, x, h => by cases h
  | n + 1, x, h => by
    simp only [upTo, List.mem_append, List.mem_singleton] at h
    rcases h with h | h
    · have := upTo_mem h; omega
    · omega
theorem upTo_nodup : ∀ n, (upTo n).Nodup
  | 0 => List.nodup_nil
  | n + 1 => by
    simp only [upTo]
    rw [List.nodup_append]
    refine ⟨upTo_nodup n, by simp, fun a ha b hb => ?_⟩
    simp at hb
    have := upTo_mem ha
    omega
theorem upTo_len : ∀ n, (upTo n).length = n
  | 0 => rfl
  | n + 1 => by simp [upTo, upTo_len n]

/-! ### provenance told anew -/
section
variable {leave : Option Prov} {m : List (Nat × Nat)} {rows : Rows}
theorem dedup_mem : ∀ {p : Prov} {q}, q ∈ dedup p → q ∈ p
  | [], _, h => h
  | (r, n) :: p, q, h => by
    simp only [dedup] at h
    split at h
    · exact List.mem_cons_of_mem _ (dedup_mem h)
    · rcases List.mem_cons.1 h with rfl | h
      · exact List.mem_cons_self
      · exact List.mem_cons_of_mem _ (dedup_mem h)
theorem dedup_has : ∀ {p : Prov} {q}, q ∈ p → ∃ q' ∈ dedup p, q'.1 = q.1
  | (r, n) :: p, q, h => by
    simp only [dedup]
    rcases List.mem_cons.1 h with rfl | h
    · split
      · rename_i ha
        obtain ⟨q', h1, h2⟩ := List.any_eq_true.1 ha
        exact ⟨q', h1, by simpa using h2⟩
      · exact ⟨_, List.mem_cons_self, rfl⟩
    · obtain ⟨q', h1, h2⟩ := dedup_has h
      split
      · exact ⟨q', h1, h2⟩
      · exact ⟨q', List.mem_cons_of_mem _ h1, h2⟩
theorem renProv_mem : ∀ {p : Prov} {q}, q ∈ renProv leave m rows p → q.1 = 0 ∨ (q.2 = 0 ∧ ∃ r n, (r, n) ∈ p ∧ findN m r = some q.1)
  | [], _, h => by cases h
  | (r, n) :: p, q, h => by
    have up : (q.1 = 0 ∨ (q.2 = 0 ∧ ∃ r n, (r, n) ∈ p ∧ findN m r = some q.1)) → q.1 = 0 ∨ (q.2 = 0 ∧ ∃ r' n', (r', n') ∈ (r, n) :: p ∧ findN m r' = some q.1) := by
      rintro (h | ⟨h1, r', n', h2, h3⟩)
      · exact .inl h
      · exact .inr ⟨h1, r', n', List.mem_cons_of_mem _ h2, h3⟩
    simp only [renProv] at h
    split at h
    · rename_i r' hr
      rcases List.mem_cons.1 h with rfl | h
      · exact .inr ⟨rfl, r, n, List.mem_cons_self, hr⟩
      · exact up (renProv_mem h)
    · split at h
      · split at h
        · rcases List.mem_cons.1 h with rfl | h
          · exact .inl rfl
          · exact up (renProv_mem h)
        · exact up (renProv_mem h)
      · split at h
        · rcases List.mem_cons.1 h with rfl | h
          · exact .inl rfl
          · exact up (renProv_mem h)
        · exact up (renProv_mem h)
theorem renProv_cons {r n : Nat} {p : Prov} {q} (h : q ∈ renProv leave m rows p) : q ∈ renProv leave m rows ((r, n) :: p) := by
  simp only [renProv]
  split
  · exact List.mem_cons_of_mem _ h
  · split
    · split
      · exact List.mem_cons_of_mem _ h
      · exact h
    · split
      · exact List.mem_cons_of_mem _ h
      · exact h
theorem renProv_has {r n r' : Nat} (hf : findN m r = some r') : ∀ {p : Prov}, (r, n) ∈ p → (r', 0) ∈ renProv leave m rows p
  | (s, k) :: p, h => by
    rcases List.mem_cons.1 h with h | h
    · cases h
      simp only [renProv, hf]
      exact List.mem_cons_self
    · exact renProv_cons (renProv_has hf h)
theorem renProv_zero (h0 : rows 0 = none) (hf : findN m 0 = none) {n : Nat} : ∀ {p : Prov}, (0, n) ∈ p → (0, n) ∈ renProv leave m rows p
  | (s, k) :: p, h => by
    rcases List.mem_cons.1 h with h | h
    · cases h
      simp only [renProv, hf, h0]
      simp
    · exact renProv_cons (renProv_zero h0 hf h)
theorem renProv_leave {r n : Nat} {s : RowS} (hl : leave.isSome = true) (hf : findN m r = none) (hr : rows r = some s) : ∀ {p : Prov}, (r, n) ∈ p → (0, 0) ∈ renProv leave m rows p
  | (x, k) :: p, h => by
    rcases List.mem_cons.1 h with h | h
    · cases h
      simp only [renProv, hf, hr, hl]
      simp
    · exact renProv_cons (renProv_leave hl hf hr h)
end

/-! ### a packing -/
structure Pk (leave : Option Prov) (rows : Rows) (ids : List Nat) (rs : List RowS) : Prop where
  nodup : ids.Nodup
  len : rs.length = ids.length
  get : ∀ (k : Nat) (id : Nat), ids[k]? = some id → ∃ s x, rows id = some s ∧ renRow leave (numbered 1 ids) rows s.row = some x ∧ rs[k]? = some ⟨0, x⟩

theorem renRows_get {leave : Option Prov} {m : List (Nat × Nat)} {rows : Rows} : ∀ {ids : List Nat} {rs : List RowS}, renRows leave m rows ids = some rs →
    rs.length = ids.length ∧ ∀ (k : Nat) (id : Nat), ids[k]? = some id → ∃ s x, rows id = some s ∧ renRow leave m rows s.row = some x ∧ rs[k]? = some ⟨0, x⟩
  | [], rs, h => by
    obtain rfl := Option.some.inj h
    exact ⟨rfl, fun k id h => by simp at h⟩
  | r :: ids, rs, h => by
    simp only [renRows] at h
    split at h
    · rename_i s hs
      split at h
      · rename_i x hx
        split at h
        · rename_i l hl
          obtain rfl := Option.some.inj h
          obtain ⟨h1, h2⟩ := renRows_get hl
          refine ⟨by simp [h1], fun k id hk => ?_⟩
          cases k with
          | zero => simp at hk; subst hk; exact ⟨s, x, hs, hx, rfl⟩
          | succ k => simpa using h2 k id (by simpa using hk)
        · cases h
      · cases h
    · cases h

noncomputable def pkPl (pl : Pl) (ids : List Nat) (Z L : Nat → Prop) : Pl := ⟨fun i => if i = 0 then none else (ids[i - 1]?).bind pl.loc, Z, L, fun i b => i ≠ 0 ∧ ∃ r, ids[i - 1]? = some r ∧ pl.hid r b⟩
theorem pk_hid {pl : Pl} {ids : List Nat} {Z L : Nat → Prop} {k r : Nat} (h : ids[k]? = some r) : (pkPl pl ids Z L).hid (k + 1) = pl.hid r := by
  funext b
  simp [pkPl, h]

section
variable {leave : Option Prov} {rows : Rows} {ids : List Nat} {rs : List RowS} {w : World} {pl : Pl} {Z L : Nat → Prop}

theorem Pk.found (h : Pk leave rows ids rs) {r i : Nat} (hf : findN (numbered 1 ids) r = some i) :
    ∃ k s x, i = k + 1 ∧ ids[k]? = some r ∧ rows r = some s ∧ renRow leave (numbered 1 ids) rows s.row = some x ∧ rowsOf rs i = some ⟨0, x⟩ ∧ (pkPl pl ids Z L).loc i = pl.loc r := by
  obtain ⟨k, e, hk⟩ := findN_numbered hf
  obtain ⟨s, x, h1, h2, h3⟩ := h.get k r hk
  refine ⟨k, s, x, by omega, hk, h1, h2, ?_, ?_⟩
  · rw [e, Nat.add_comm, rowsOf_succ]; exact h3
  · simp [pkPl, e, hk]
theorem pk_at {k r : Nat} (hk : ids[k]? = some r) {b o : Nat} : (pkPl pl ids Z L).at (k + 1) b o ↔ pl.at r b o := by
  unfold Pl.at
  rw [pk_hid hk]
  simp [pkPl, hk]
theorem Pk.at (h : Pk leave rows ids rs) {i : Nat} {s' : RowS} (hr : rowsOf rs i = some s') :
    ∃ k r s x, i = k + 1 ∧ ids[k]? = some r ∧ findN (numbered 1 ids) r = some i ∧ rows r = some s ∧ renRow leave (numbered 1 ids) rows s.row = some x ∧ s' = ⟨0, x⟩ ∧ (pkPl pl ids Z L).loc i = pl.loc r := by
  rw [rowsOf_get] at hr
  by_cases h0 : i = 0
  · rw [if_pos h0] at hr; cases hr
  · rw [if_neg h0] at hr
    obtain ⟨k, rfl⟩ : ∃ k, i = k + 1 := ⟨i - 1, by omega⟩
    simp only [Nat.add_sub_cancel] at hr
    have hk : k < ids.length := by
      have := (List.getElem?_eq_some_iff.1 hr).1
      rw [h.len] at this; exact this
    obtain ⟨s, x, h1, h2, h3⟩ := h.get k _ (List.getElem?_eq_getElem hk)
    rw [h3] at hr
    obtain rfl := Option.some.inj hr
    refine ⟨k, _, s, x, rfl, List.getElem?_eq_getElem hk, ?_, h1, h2, rfl, by simp [pkPl, hk]⟩
    rw [findN_some h.nodup (List.getElem?_eq_getElem hk)]; simp; omega
theorem Pk.nozero (h : Pk leave rows ids rs) (h0 : rows 0 = none) : findN (numbered 1 ids) 0 = none := by
  cases hf : findN (numbered 1 ids) 0 with
  | none => rfl
  | some i =>
    obtain ⟨k, s, x, _, _, h1, _⟩ := h.found (pl := ⟨fun _ => none, fun _ => False, fun _ => False, fun _ _ => False⟩) (Z := fun _ => False) (L := fun _ => False) hf
    rw [h0] at h1; cases h1

theorem renRow_live {m : List (Nat × Nat)} {x y : Row} (h : renRow leave m rows x = some y) : y = .gone ↔ x = .gone := by
  cases x with
  | arr p t l =>
    simp only [renRow] at h
    split at h
    · obtain rfl := Option.some.inj h; simp
    · cases h
  | vars l =>
    simp only [renRow] at h
    split at h
    · obtain rfl := Option.some.inj h; simp
    · cases h
  | gone => obtain rfl := Option.some.inj h; simp
  | mp it p kt vt bx l tk =>
    simp only [renRow] at h
    split at h
    · split at h
      · obtain rfl := Option.some.inj h; simp
      · split at h
        · obtain rfl := Option.some.inj h; simp
        · cases h
    · cases h

theorem renRow_mp {m : List (Nat × Nat)} {x : Row} {it : Nat} {bx : Bool} {p : Prov} {kt vt : Ty} {l : List (kt.D × vt.D)} {tk : Option (kt.D × Nat)} (h : renRow leave m rows x = some (.mp it p kt vt bx l tk)) :
    ∃ (n0 : Nat) (p0 : Prov) (l0 : List (kt.D × vt.D)) (tk0 : Option (kt.D × Nat)), x = .mp it p0 kt vt bx l0 tk0 := by
  cases x with
  | arr p t l =>
    simp only [renRow] at h
    split at h <;> cases h
  | gone => cases h
  | vars l =>
    simp only [renRow] at h
    split at h <;> cases h
  | mp it p kt vt bx l tk =>
    simp only [renRow] at h
    split at h
    · split at h
      · cases h; exact ⟨0, _, _, _, rfl⟩
      · split at h
        · cases h; exact ⟨0, _, _, _, rfl⟩
        · cases h
    · cases h

theorem renRow_vars {m : List (Nat × Nat)} {x : Row} {l : List PV} (h : renRow leave m rows x = some (.vars l)) : ∃ l0, x = .vars l0 := by
  cases x with
  | arr p t l =>
    simp only [renRow] at h
    split at h <;> cases h
  | gone => cases h
  | vars l0 => exact ⟨l0, rfl⟩
  | mp it p kt vt bx l tk =>
    simp only [renRow] at h
    split at h
    · split at h
      · cases h
      · split at h <;> cases h
    · cases h
theorem renRow_plain {m : List (Nat × Nat)} {x y : Row} (h : renRow leave m rows x = some y) (hx : x.plain) : y.plain := by
  cases x with
  | arr p t l =>
    simp only [renRow] at h
    split at h
    · obtain rfl := Option.some.inj h; trivial
    · cases h
  | gone => obtain rfl := Option.some.inj h; trivial
  | vars l => exact hx.elim
  | mp it p kt vt bx l tk => exact hx.elim

theorem pk_okProv (h : Pk leave rows ids rs) {p : Prov} (hp : okProv rows p = true) : okProv (rowsOf rs) (dedup (renProv leave (numbered 1 ids) rows p)) = true := by
  refine okProv_of fun q hq s hs => ?_
  rcases renProv_mem (dedup_mem hq) with h0 | ⟨h1, r, n, h2, h3⟩
  · rw [h0, rowsOf_zero] at hs; cases hs
  · obtain ⟨k, s0, x, _, _, g1, g2, g3, _⟩ := h.found (pl := ⟨fun _ => none, fun _ => False, fun _ => False, fun _ _ => False⟩) (Z := fun _ => False) (L := fun _ => False) h3
    rw [hs] at g3
    obtain rfl := Option.some.inj g3
    obtain ⟨g4, _⟩ := okProv_at hp (r, n) h2 s0 g1
    exact ⟨fun e => g4 ((renRow_live g2).1 e), h1.symm⟩
theorem pk_provIn (h0 : rows 0 = none) (h : Pk leave rows ids rs) {p : Prov} (hp : ProvIn rows p) : ProvIn (rowsOf rs) (dedup (renProv leave (numbered 1 ids) rows p)) := by
  intro q hq
  rcases renProv_mem (dedup_mem hq) with hz | ⟨h1, r, n, h2, h3⟩
  · exact .inl hz
  · obtain ⟨k, s0, x, _, _, g1, g2, g3, _⟩ := h.found (pl := ⟨fun _ => none, fun _ => False, fun _ => False, fun _ _ => False⟩) (Z := fun _ => False) (L := fun _ => False) h3
    refine .inr ⟨_, g3, .inl (by omega), renRow_plain g2 ?_⟩
    rcases hp (r, n) h2 with e | ⟨s1, e1, _, e3⟩
    · simp only at e
      subst e
      rw [h0] at g1; cases g1
    · rw [g1] at e1
      obtain rfl := Option.some.inj e1
      exact e3

/-- The blocks that become a caller's memory. -/
def Left (leave : Option Prov) (pl : Pl) (rows : Rows) (ids : List Nat) (b : Nat) : Prop := leave.isSome = true ∧ ∃ r s o, rows r = some s ∧ s.live ∧ pl.at r b o ∧ r ∉ ids

theorem pk_safe (h : Pk leave rows ids rs) (h0 : rows 0 = none) (hZ : ∀ b, Z b → pl.Z b ∨ Left leave pl rows ids b) (hL : ∀ (p : Prov) (b : Nat), covers leave (numbered 1 ids) p = true → Safe w pl rows p b → Z b → L b) {p : Prov} {b : Nat} (hc : covers leave (numbered 1 ids) p = true) (hs : Safe w pl rows p b) :
    Safe w (pkPl pl ids Z L) (rowsOf rs) (dedup (renProv leave (numbered 1 ids) rows p)) b := by
  have hs0 := hs
  obtain ⟨h1, h2, h3⟩ := hs
  refine ⟨h1, fun hz => ⟨hL p b hc hs0 hz, ?_⟩, fun r' s' o hr hl hloc => ?_⟩
  · rcases hZ b hz with hz | ⟨hl, r, s, o, g1, g2, g3, g4⟩
    · obtain ⟨_, ⟨r, n⟩, hq, e⟩ := h2 hz
      simp only at e
      subst e
      obtain ⟨q', e1, e2⟩ := dedup_has (renProv_zero (leave := leave) h0 (h.nozero h0) hq)
      exact ⟨q', e1, e2⟩
    · obtain ⟨⟨r', n⟩, hq, e⟩ := h3 r s o g1 g2 g3
      simp only at e
      subst e
      have hf : findN (numbered 1 ids) r' = none := by
        cases hf : findN (numbered 1 ids) r' with
        | none => rfl
        | some i =>
          obtain ⟨k, _, _, _, hk, _⟩ := h.found (pl := pl) (Z := Z) (L := L) hf
          exact absurd (List.mem_of_getElem? hk) g4
      obtain ⟨q', e1, e2⟩ := dedup_has (renProv_leave hl hf g1 hq)
      exact ⟨q', e1, e2⟩
  · obtain ⟨k, r, s, x, rfl, hk, hf, g1, g2, rfl, g3⟩ := h.at (pl := pl) (Z := Z) (L := L) hr
    rw [pk_at hk] at hloc
    obtain ⟨⟨r2, n⟩, hq, e⟩ := h3 r s o g1 (fun e => hl ((renRow_live g2).2 e)) hloc
    simp only at e
    subst e
    obtain ⟨q', e1, e2⟩ := dedup_has (renProv_has (leave := leave) (rows := rows) hf hq)
    exact ⟨q', e1, e2⟩

mutual
theorem ren_ok {m : List (Nat × Nat)} : ∀ {v v' : PV}, ren leave m rows v = some v' → okPV rows v = true
  | .val p t x, v', h => by
    simp only [ren] at h
    split at h
    · rename_i hc; exact (Bool.and_eq_true _ _ ▸ hc : _ ∧ _).1
    · cases h
  | .pvl p t l i off, v', h => by
    simp only [ren] at h
    split at h
    · rename_i hc; exact (Bool.and_eq_true _ _ ▸ hc : _ ∧ _).1
    · cases h
  | .nils, _, _ => rfl
  | .nilp, _, _ => rfl
  | .lit _, _, _ => rfl
  | .und, _, _ => rfl
  | .rw _, _, _ => rfl
  | .rs _ _ _, _, _ => rfl
  | .ptr _ _, _, _ => rfl
  | .pel _ _ _, _, _ => rfl
  | .fn f l, v', h => by
    simp only [ren] at h
    split at h
    · rename_i l' hl; exact renAll_ok hl
    · cases h
  | .agg l, v', h => by
    simp only [ren] at h
    split at h
    · rename_i l' hl; exact renAll_ok hl
    · cases h
  | .tup l, v', h => by
    simp only [ren] at h
    split at h
    · rename_i l' hl; exact renAll_ok hl
    · cases h
theorem renAll_ok {m : List (Nat × Nat)} : ∀ {l l' : List PV}, ren.renAll leave m rows l = some l' → okPV.okAll rows l = true
  | [], _, _ => rfl
  | v :: l, l', h => by
    simp only [ren.renAll] at h
    split at h
    · rename_i v' hv
      split at h
      · rename_i l'' hl
        simp only [okPV.okAll, ren_ok hv, renAll_ok hl, Bool.and_self]
      · cases h
    · cases h
end

mutual
theorem pk_vr (h : Pk leave rows ids rs) (h0 : rows 0 = none) (hZ : ∀ b, Z b → pl.Z b ∨ Left leave pl rows ids b) (hL : ∀ (p : Prov) (b : Nat), covers leave (numbered 1 ids) p = true → Safe w pl rows p b → Z b → L b) : ∀ {v v' : PV} {u : Value}, ren leave (numbered 1 ids) rows v = some v' → Men rows v → VR w pl rows v u →
    Men (rowsOf rs) v' ∧ okPV (rowsOf rs) v' = true ∧ VR w (pkPl pl ids Z L) (rowsOf rs) v' u
  | .val p t x, v', u, hr, hm, hv => by
    simp only [ren] at hr
    split at hr
    · rename_i hp
      rw [Bool.and_eq_true] at hp
      obtain rfl := Option.some.inj hr
      exact ⟨pk_provIn h0 h hm, pk_okProv h hp.1, RD_frame (fun b hb => pk_safe h h0 hZ hL hp.2 hb) (fun _ _ => rfl) hv⟩
    · cases hr
  | .pvl p t l i off, v', u, hr, hm, hv => by
    simp only [ren] at hr
    split at hr
    · rename_i hp
      rw [Bool.and_eq_true] at hp
      obtain rfl := Option.some.inj hr
      obtain ⟨x, es, g1, g2, ad, g3, g4, g5⟩ := hv
      exact ⟨pk_provIn h0 h hm, pk_okProv h hp.1, x, es, g1, RD_frame (fun b hb => pk_safe h h0 hZ hL hp.2 hb) (fun _ _ => rfl) g2, ad, g3, pk_safe h h0 hZ hL hp.2 g4, g5⟩
    · cases hr
  | .nils, v', u, hr, _, hv => by obtain rfl := Option.some.inj hr; exact ⟨trivial, rfl, hv⟩
  | .nilp, v', u, hr, _, hv => by obtain rfl := Option.some.inj hr; exact ⟨trivial, rfl, hv⟩
  | .lit _, v', u, hr, _, hv => by obtain rfl := Option.some.inj hr; exact ⟨trivial, rfl, hv⟩
  | .und, v', u, hr, _, hv => by obtain rfl := Option.some.inj hr; exact ⟨trivial, rfl, hv⟩
  | .rw r, v', u, hr, hm, hv => by
    simp only [ren] at hr
    split at hr
    · rename_i i hf
      obtain rfl := Option.some.inj hr
      obtain ⟨k, s, x, _, _, g1, g2, g3, g4⟩ := h.found (pl := pl) (Z := Z) (L := L) hf
      refine ⟨by simp [Men, g3], rfl, ⟨hv.1.1, fun n p kt vt bx l tk hl => ?_⟩, fun n p t l hl => ?_⟩
      · rw [g3] at hl
        cases hl
        obtain ⟨n0, p0, l0, tk0, e⟩ := renRow_mp g2
        obtain ⟨n1, row⟩ := s
        simp only at e
        subst e
        obtain ⟨b, e1, e2⟩ := hv.1.2 _ _ _ _ _ _ _ g1
        exact ⟨b, by rw [g4]; exact e1, e2⟩
      rw [g3] at hl
      cases hl
      obtain ⟨n0, row⟩ := s
      cases row with
      | arr p0 t0 l0 =>
        simp only [renRow] at g2
        split at g2
        · cases g2
          obtain ⟨A, c, e1, e2, e3⟩ := hv.2 _ _ _ _ g1
          exact ⟨A, c, e1, e2, fun hc => by rw [g4]; exact e3 hc⟩
        · cases g2
      | vars l0 => simp only [renRow] at g2; split at g2 <;> cases g2
      | gone => cases g2
      | mp it p0 kt0 vt0 bx0 l0 tk0 =>
        simp only [renRow] at g2
        split at g2
        · split at g2
          · cases g2
          · split at g2 <;> cases g2
        · cases g2
    · cases hr
  | .rs r off len, v', u, hr, hm, hv => by
    simp only [ren] at hr
    split at hr
    · rename_i i hf
      obtain rfl := Option.some.inj hr
      obtain ⟨k, s, x, _, _, g1, g2, g3, g4⟩ := h.found (pl := pl) (Z := Z) (L := L) hf
      refine ⟨by simp [Men, g3], rfl, hv.1, fun n p t l hl => ?_⟩
      rw [g3] at hl
      cases hl
      obtain ⟨n0, row⟩ := s
      cases row with
      | arr p0 t0 l0 =>
        simp only [renRow] at g2
        split at g2
        · cases g2
          obtain ⟨hle, A, c, e1, e2, e3⟩ := hv.2 _ _ _ _ g1
          exact ⟨hle, A, c, e1, e2, fun hc => by rw [g4]; exact e3 hc⟩
        · cases g2
      | vars l0 => simp only [renRow] at g2; split at g2 <;> cases g2
      | gone => cases g2
      | mp it p0 kt0 vt0 bx0 l0 tk0 =>
        simp only [renRow] at g2
        split at g2
        · split at g2
          · cases g2
          · split at g2 <;> cases g2
        · cases g2
    · cases hr
  | .ptr r off, v', u, hr, hm, hv => by
    simp only [ren] at hr
    split at hr
    · rename_i i hf
      obtain rfl := Option.some.inj hr
      obtain ⟨k, s, x, _, _, g1, g2, g3, g4⟩ := h.found (pl := pl) (Z := Z) (L := L) hf
      refine ⟨by simp [Men, g3], rfl, ⟨hv.1.1, hv.1.2.1, fun n i p kt vt bx l tk hl => ?_⟩, fun n l hl => ?_⟩
      · rw [g3] at hl
        cases hl
        obtain ⟨n0, p0, l0, tk0, e⟩ := renRow_mp g2
        obtain ⟨n1, row⟩ := s
        simp only at e
        subst e
        obtain ⟨b, e1, e2⟩ := hv.1.2.2 _ _ _ _ _ _ _ _ g1
        exact ⟨b, by rw [g4]; exact e1, e2⟩
      rw [g3] at hl
      cases hl
      obtain ⟨n0, row⟩ := s
      cases row with
      | vars l0 =>
        obtain ⟨b, e1, e2⟩ := hv.2 _ _ g1
        exact ⟨b, by rw [g4]; exact e1, e2⟩
      | arr p0 t0 l0 => simp only [renRow] at g2; split at g2 <;> cases g2
      | gone => cases g2
      | mp it p0 kt0 vt0 bx0 l0 tk0 =>
        simp only [renRow] at g2
        split at g2
        · split at g2
          · cases g2
          · split at g2 <;> cases g2
        · cases g2
    · cases hr
  | .pel r i off, v', u, hr, hm, hv => by
    simp only [ren] at hr
    split at hr
    · rename_i i' hf
      obtain rfl := Option.some.inj hr
      obtain ⟨k, s, x, _, _, g1, g2, g3, g4⟩ := h.found (pl := pl) (Z := Z) (L := L) hf
      refine ⟨by simp [Men, g3], rfl, hv.1, fun n p t l hl => ?_⟩
      rw [g3] at hl
      cases hl
      obtain ⟨n0, row⟩ := s
      cases row with
      | arr p0 t0 l0 =>
        simp only [renRow] at g2
        split at g2
        · cases g2
          obtain ⟨hi, b, o, e1, e2⟩ := hv.2 _ _ _ _ g1
          exact ⟨hi, b, o, by rw [g4]; exact e1, e2⟩
        · cases g2
      | vars l0 => simp only [renRow] at g2; split at g2 <;> cases g2
      | gone => cases g2
      | mp it p0 kt0 vt0 bx0 l0 tk0 =>
        simp only [renRow] at g2
        split at g2
        · split at g2
          · cases g2
          · split at g2 <;> cases g2
        · cases g2
    · cases hr
  | .fn f l, v', u, hr, hm, hv => by
    simp only [ren] at hr
    split at hr
    · rename_i l' hl
      obtain rfl := Option.some.inj hr
      obtain ⟨cs, e, g⟩ := hv
      obtain ⟨q1, q2, q3⟩ := pk_vrs h h0 hZ hL (l := l) hl hm g
      exact ⟨q1, q2, cs, e, q3⟩
    · cases hr
  | .agg l, v', u, hr, hm, hv => by
    simp only [ren] at hr
    split at hr
    · rename_i l' hl
      obtain rfl := Option.some.inj hr
      obtain ⟨cs, e, g, g1⟩ := hv
      obtain ⟨q1, q2, q3⟩ := pk_vrs h h0 hZ hL (l := l) hl hm g
      exact ⟨q1, q2, cs, e, q3, g1⟩
    · cases hr
  | .tup l, v', u, hr, hm, hv => by
    simp only [ren] at hr
    split at hr
    · rename_i l' hl
      obtain rfl := Option.some.inj hr
      obtain ⟨cs, us, es, e, e2, g⟩ := hv
      obtain ⟨q1, q2, q3⟩ := pk_vrs h h0 hZ hL (l := l) hl hm g
      exact ⟨q1, q2, cs, us, es, e, e2, q3⟩
    · cases hr
theorem pk_vrs (h : Pk leave rows ids rs) (h0 : rows 0 = none) (hZ : ∀ b, Z b → pl.Z b ∨ Left leave pl rows ids b) (hL : ∀ (p : Prov) (b : Nat), covers leave (numbered 1 ids) p = true → Safe w pl rows p b → Z b → L b) : ∀ {l l' : List PV} {us : List Value}, ren.renAll leave (numbered 1 ids) rows l = some l' → Mens rows l → VRs w pl rows l us →
    Mens (rowsOf rs) l' ∧ okPV.okAll (rowsOf rs) l' = true ∧ VRs w (pkPl pl ids Z L) (rowsOf rs) l' us
  | [], l', us, hr, _, hv => by
    obtain rfl := Option.some.inj hr
    exact ⟨trivial, rfl, hv⟩
  | v :: l, l', us, hr, hm, hv => by
    simp only [ren.renAll] at hr
    split at hr
    · rename_i v' hv'
      split at hr
      · rename_i l'' hl
        obtain rfl := Option.some.inj hr
        obtain ⟨u, us', rfl, g1, g2⟩ := hv
        obtain ⟨q1, q2, q3⟩ := pk_vr h h0 hZ hL (v := v) hv' hm.1 g1
        obtain ⟨r1, r2, r3⟩ := pk_vrs h h0 hZ hL (l := l) hl hm.2 g2
        exact ⟨⟨q1, r1⟩, by simp only [okPV.okAll, q2, r2, Bool.and_self], u, us', rfl, q3, r3⟩
      · cases hr
    · cases hr
end

theorem renAll_get {m : List (Nat × Nat)} : ∀ {l l' : List PV}, ren.renAll leave m rows l = some l' → ∀ (j : Nat) (y : PV), l'[j]? = some y → ∃ x, l[j]? = some x ∧ ren leave m rows x = some y
  | [], l', h, j, y, hy => by obtain rfl := Option.some.inj h; simp at hy
  | v :: l, l', h, j, y, hy => by
    simp only [ren.renAll] at h
    split at h
    · rename_i v' hv
      split at h
      · rename_i l'' hl
        obtain rfl := Option.some.inj h
        cases j with
        | zero => simp at hy; subst hy; exact ⟨v, rfl, hv⟩
        | succ j => simpa using renAll_get hl j y (by simpa using hy)
      · cases h
    · cases h
theorem renAll_len {m : List (Nat × Nat)} : ∀ {l l' : List PV}, ren.renAll leave m rows l = some l' → l'.length = l.length
  | [], l', h => by obtain rfl := Option.some.inj h; rfl
  | v :: l, l', h => by
    simp only [ren.renAll] at h
    split at h
    · split at h
      · rename_i l'' hl
        obtain rfl := Option.some.inj h
        simp [renAll_len hl]
      · cases h
    · cases h
/-- A row told anew. -/
theorem pk_row (h : Pk leave rows ids rs) (h0 : rows 0 = none) (hZ : ∀ b, Z b → pl.Z b ∨ Left leave pl rows ids b) (hL : ∀ (p : Prov) (b : Nat), covers leave (numbered 1 ids) p = true → Safe w pl rows p b → Z b → L b) {r i : Nat} {s : RowS} {x : Row} (hx : renRow leave (numbered 1 ids) rows s.row = some x) (hloc : (pkPl pl ids Z L).loc i = pl.loc r) (hhid : (pkPl pl ids Z L).hid i = pl.hid r) (hR : RowR w pl rows r s) :
    RowR w (pkPl pl ids Z L) (rowsOf rs) i ⟨0, x⟩ := by
  obtain ⟨n, row⟩ := s
  cases row with
  | gone => cases hx; trivial
  | arr p t l =>
    simp only [renRow] at hx
    split at hx
    · rename_i hp
      rw [Bool.and_eq_true] at hp
      cases hx
      obtain ⟨g1, g2⟩ := hR
      refine ⟨pk_provIn h0 h g1, ?_⟩
      rw [hloc]
      cases hlr : pl.loc r with
      | none => rw [hlr] at g2; exact g2
      | some bo =>
        obtain ⟨b, o⟩ := bo
        rw [hlr] at g2
        obtain ⟨arr, Te, fr, e1, e2, e3, e4⟩ := g2
        refine ⟨arr, Te, fr, e1, e2, e3, fun _ j y hy => ?_⟩
        obtain ⟨es, q1, q2⟩ := e4 hp.1 j y hy
        exact ⟨es, RD_frame (fun b hb => pk_safe h h0 hZ hL hp.2 hb) (fun _ _ => rfl) q1, q2⟩
    · cases hx
  | vars l =>
    simp only [renRow] at hx
    split at hx
    · rename_i l' hl
      cases hx
      obtain ⟨g1, b, arr, Te, fr, e0, e1, e2, e3, e4⟩ := hR
      have ok := renAll_ok hl
      refine ⟨mens_of fun y hy => ?_, b, arr, Te, fr, hloc.trans e0, e1, by rw [renAll_len hl]; exact e2, e3, fun j y hy => ?_⟩
      · obtain ⟨j, hj⟩ := List.getElem?_of_mem hy
        obtain ⟨z, z1, z2⟩ := renAll_get hl j y hj
        obtain ⟨u, q1, q2, q3⟩ := e4 j z z1
        exact (pk_vr (Z := Z) (L := L) h h0 hZ hL z2 (mens_mem g1 z (List.mem_of_getElem? z1)) (q3 (okAll_mem ok z (List.mem_of_getElem? z1)))).1
      · obtain ⟨z, z1, z2⟩ := renAll_get hl j y hy
        obtain ⟨u, q1, q2, q3⟩ := e4 j z z1
        exact ⟨u, q1, q2, fun _ => (pk_vr h h0 hZ hL z2 (mens_mem g1 z (List.mem_of_getElem? z1)) (q3 (okAll_mem ok z (List.mem_of_getElem? z1)))).2.2⟩
    · cases hx
  | mp it p kt vt bx l tk =>
    simp only [renRow] at hx
    split at hx
    · rename_i hp
      rw [Bool.and_eq_true] at hp
      obtain ⟨g1, g2, b, es1, st, bs, e1, e2, e4, e5, e6, e7, e8⟩ := hR
      have hents := e4.frame (w' := w) (S' := Safe w (pkPl pl ids Z L) (rowsOf rs) (dedup (renProv leave (numbered 1 ids) rows p))) (ok' := okProv (rowsOf rs) (dedup (renProv leave (numbered 1 ids) rows p)) = true)
        (fun _ => ⟨hp.1, fun b hb => ⟨pk_safe h h0 hZ hL hp.2 hb, rfl⟩⟩) (fun _ _ => rfl)
      have hmap := e2.frame (w' := w) (pl' := pkPl pl ids Z L) (r' := i) (fun x hx => ⟨by rw [hhid]; exact hx, rfl⟩) rfl
      split at hx
      · cases hx
        exact ⟨pk_provIn h0 h g1, g2, b, es1, st, bs, hloc.trans e1, hmap, hents, e5, e6, e7, fun x hx => by rw [hhid]; exact e8 x hx⟩
      · rename_i k r0
        split at hx
        · rename_i r1 hf
          cases hx
          have hren : ren leave (numbered 1 ids) rows (tkPV bx r0) = some (tkPV bx r1) := by
            cases bx
            · show ren leave (numbered 1 ids) rows (.rw r0) = some (.rw r1)
              simp only [ren, hf]
            · show ren leave (numbered 1 ids) rows (.ptr r0 0) = some (.ptr r1 0)
              simp only [ren, hf]
          have hmen : Men (rowsOf rs) (tkPV bx r1) := by
            obtain ⟨k1, s1, x1, _, hk1, f1, f2, f3, f4⟩ := h.found (pl := pl) (Z := Z) (L := L) hf
            cases bx
            · show rowsOf rs r1 ≠ none
              rw [f3]; simp
            · show rowsOf rs r1 ≠ none
              rw [f3]; simp
          refine ⟨pk_provIn h0 h g1, g2, b, es1, st, bs, hloc.trans e1, hmap, hents, ⟨hmen, e5.2.imp id ?_⟩, e6, e7, fun x hx => by rw [hhid]; exact e8 x hx⟩
          rintro ⟨e, q1, q2, q3⟩
          exact ⟨e, q1, q2, (pk_vr h h0 hZ hL hren e5.1 q3).2.2⟩
        · cases hx
    · cases hx

/-- All that a row holds stands. -/
def rowOk (rows : Rows) : Row → Prop
  | .arr p _ _ => okProv rows p = true
  | .vars l => okPV.okAll rows l = true
  | .gone => True
  | .mp _ p _ _ _ _ _ => okProv rows p = true

theorem pk_rowOk (h : Pk leave rows ids rs) (h0 : rows 0 = none) {x : Row} {s : RowS} {r : Nat} (hx : renRow leave (numbered 1 ids) rows s.row = some x) (hR : RowR w pl rows r s) : rowOk (rowsOf rs) x := by
  obtain ⟨n, row⟩ := s
  cases row with
  | gone => cases hx; trivial
  | arr p t l =>
    simp only [renRow] at hx
    split at hx
    · rename_i hp
      rw [Bool.and_eq_true] at hp
      cases hx
      exact pk_okProv h hp.1
    · cases hx
  | vars l =>
    simp only [renRow] at hx
    split at hx
    · rename_i l' hl
      cases hx
      obtain ⟨g1, b, arr, Te, fr, e0, e1, e2, e3, e4⟩ := hR
      have ok := renAll_ok hl
      have hvs : VRs w pl rows l arr.toList := vrs_of (by simpa using e2) fun j z u hz hu => by
        obtain ⟨u', q1, q2, q3⟩ := e4 j z hz
        have : u = u' := by
          rw [Array.getElem?_toList, q1] at hu
          exact (Option.some.inj hu).symm
        rw [this]
        exact q3 (okAll_mem ok z (List.mem_of_getElem? hz))
      exact (pk_vrs (Z := pl.Z) (L := pl.L) h h0 (fun b hb => .inl hb) (fun p b _ hs hz => (hs.2.1 hz).1) hl g1 hvs).2.1
    · cases hx
  | mp it p kt vt bx l tk =>
    simp only [renRow] at hx
    split at hx
    · rename_i hp
      rw [Bool.and_eq_true] at hp
      split at hx
      · cases hx
        exact pk_okProv h hp.1
      · split at hx
        · cases hx
          exact pk_okProv h hp.1
        · cases hx
    · cases hx
end
end Go.Proofs.Ytecnlienmpdlaaa.PM
