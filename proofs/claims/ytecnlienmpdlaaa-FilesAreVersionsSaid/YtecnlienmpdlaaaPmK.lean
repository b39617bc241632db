/- The small machine PM is sound, eleventh part: what a call hands back. -/
import Derived.Test.YtecnlienmpdlaaaPmH
set_option linter.unusedSimpArgs false
set_option linter.unusedVariables false
namespace Go.Proofs.Ytecnlienmpdlaaa.PM
open Go

/-! ### numbers back -/
noncomputable def gmap (ids : List Nat) (key k : Nat) : Nat := match ids[k]? with
  | some g => g
  | none => key + (k - ids.length)

theorem findN_back : ∀ {ids : List Nat} {key i n x g : Nat}, findN (backMap key i ids n) x = some g → ∃ k, x = i + k ∧ k < n ∧ g = gmap ids key k
  | ids, key, i, 0, x, g, h => by cases ids <;> cases h
  | a :: ids, key, i, n + 1, x, g, h => by
    simp only [backMap, findN] at h
    by_cases e : i = x
    · subst e
      simp at h
      subst h
      exact ⟨0, rfl, by omega, by simp [gmap]⟩
    · have : (i == x) = false := by simpa using e
      rw [this] at h
      obtain ⟨k, h1, h2, h3⟩ := findN_back (ids := ids) h
      refine ⟨k + 1, by omega, by omega, ?_⟩
      rw [h3]; simp [gmap]
  | [], key, i, n + 1, x, g, h => by
    simp only [backMap, findN] at h
    by_cases e : i = x
    · subst e
      simp at h
      subst h
      exact ⟨0, rfl, by omega, by simp [gmap]⟩
    · have : (i == x) = false := by simpa using e
      rw [this] at h
      obtain ⟨k, h1, h2, h3⟩ := findN_back (ids := []) h
      refine ⟨k + 1, by omega, by omega, ?_⟩
      rw [h3]; simp [gmap]; omega
theorem back_found : ∀ {ids : List Nat} {key i n k : Nat}, k < n → findN (backMap key i ids n) (i + k) = some (gmap ids key k)
  | ids, key, i, 0, k, h => by omega
  | a :: ids, key, i, n + 1, k, h => by
    simp only [backMap, findN]
    cases k with
    | zero => simp [gmap]
    | succ k =>
      have : (i == i + (k + 1)) = false := by simp
      rw [this]
      have := back_found (ids := ids) (key := key) (i := i + 1) (n := n) (k := k) (by omega)
      rw [show i + (k + 1) = i + 1 + k by omega]
      simp only [Bool.false_eq_true, if_false]
      rw [this]; simp [gmap]
  | [], key, i, n + 1, k, h => by
    simp only [backMap, findN]
    cases k with
    | zero => simp [gmap]
    | succ k =>
      have : (i == i + (k + 1)) = false := by simp
      rw [this]
      have := back_found (ids := []) (key := key + 1) (i := i + 1) (n := n) (k := k) (by omega)
      rw [show i + (k + 1) = i + 1 + k by omega]
      simp only [Bool.false_eq_true, if_false]
      rw [this]; simp [gmap]; omega

theorem backRows_get {m : List (Nat × Nat)} {rows : Rows} {lp : Prov} : ∀ {l : List RowS} {i : Nat} {ok : Bool} {u : List (Nat × RowS)}, backRows m rows lp i l = some (ok, u) →
    u.length = l.length ∧ ∀ (k : Nat) (s : RowS), l[k]? = some s → ∃ g x b, findN m (i + k) = some g ∧ backRow m rows lp s.row = some x ∧ sameLong rows g x = some b ∧ (ok = true → b = true) ∧ u[k]? = some (g, ⟨backVer rows g, x⟩)
  | [], i, ok, u, h => by
    simp only [backRows, Option.some.injEq, Prod.mk.injEq] at h
    obtain ⟨rfl, rfl⟩ := h
    exact ⟨rfl, fun k s h => by simp at h⟩
  | s :: l, i, ok, u, h => by
    simp only [backRows] at h
    split at h
    · rename_i r hr
      split at h
      · rename_i x hx
        split at h
        · rename_i b c u' hb hc
          simp only [Option.some.injEq, Prod.mk.injEq] at h
          obtain ⟨rfl, rfl⟩ := h
          obtain ⟨g1, g2⟩ := backRows_get hc
          refine ⟨by simp [g1], fun k s' hk => ?_⟩
          cases k with
          | zero =>
            simp at hk
            subst hk
            exact ⟨r, x, b, hr, hx, hb, fun hbc => by simp at hbc; exact hbc.1, rfl⟩
          | succ k =>
            obtain ⟨g, x', b', e1, e2, e3, e4, e5⟩ := g2 k s' (by simpa using hk)
            exact ⟨g, x', b', by rw [show i + (k + 1) = i + 1 + k by omega]; exact e1, e2, e3, fun hbc => e4 (by simp at hbc; exact hbc.2), by simpa using e5⟩
        · cases h
      · cases h
    · cases h

theorem updAll_out {β : Type} : ∀ {l : List (Nat × β)} {f : Nat → Option β} {x : Nat}, (∀ q ∈ l, q.1 ≠ x) → updAll f l x = f x
  | [], f, x, _ => rfl
  | (a, b) :: l, f, x, h => by
    simp only [updAll]
    rw [updAll_out fun q hq => h q (List.mem_cons_of_mem _ hq), upd_at, if_neg (fun e => h (a, b) List.mem_cons_self e.symm)]
theorem updAll_in {β : Type} : ∀ {l : List (Nat × β)} {f : Nat → Option β} {x k : Nat} {b : β}, l[k]? = some (x, b) → (∀ j q, l[j]? = some q → q.1 = x → j = k) → updAll f l x = some b
  | [], f, x, k, b, h, _ => by simp at h
  | (a, c) :: l, f, x, k, b, h, hu => by
    simp only [updAll]
    cases k with
    | zero =>
      simp at h
      obtain ⟨rfl, rfl⟩ := h
      rw [updAll_out fun q hq e => ?_, upd_at, if_pos rfl]
      obtain ⟨j, hj⟩ := List.getElem?_of_mem hq
      have := hu (j + 1) q (by simpa using hj) e
      omega
    | succ k => exact updAll_in (by simpa using h) fun j q hj e => by have := hu (j + 1) q (by simpa using hj) e; omega

theorem freeAll_get {rows : Rows} : ∀ {n : Nat} {l : List (Nat × RowS)}, freeAll rows n l = true → ∀ (k : Nat) (q : Nat × RowS), l[k]? = some q → n ≤ k → rows q.1 = none
  | n, [], _, k, q, hq, _ => by simp at hq
  | n + 1, _ :: l, h, k, q, hq, hk => by
    cases k with
    | zero => omega
    | succ k => exact freeAll_get (n := n) (l := l) h k q (by simpa using hq) (by omega)
  | 0, (r, s) :: l, h, k, q, hq, _ => by
    simp only [freeAll, Bool.and_eq_true] at h
    cases k with
    | zero =>
      simp at hq
      subst hq
      cases hr : rows r with
      | none => rfl
      | some s' => rw [hr] at h; simp at h
    | succ k => exact freeAll_get (n := 0) (l := l) h.2 k q (by simpa using hq) (by omega)

/-! ### the way back -/
structure Bk (rows : Rows) (ids : List Nat) (key : Nat) (lp : Prov) (rout : List RowS) (u : List (Nat × RowS)) : Prop where
  lent : ProvIn rows lp
  key0 : key ≠ 0
  zero : rows 0 = none
  nodup : ids.Nodup
  long : ids.length ≤ rout.length
  here : ∀ id ∈ ids, rows id ≠ none
  ulen : u.length = rout.length
  get : ∀ (k : Nat) (s : RowS), rout[k]? = some s → ∃ x, backRow (backMap key 1 ids rout.length) rows lp s.row = some x ∧ sameLong rows (gmap ids key k) x = some true ∧ u[k]? = some (gmap ids key k, ⟨backVer rows (gmap ids key k), x⟩)
  free : ∀ k, ids.length ≤ k → k < rout.length → rows (gmap ids key k) = none

section
variable {rows : Rows} {ids : List Nat} {key : Nat} {lp : Prov} {rout : List RowS} {u : List (Nat × RowS)}

theorem Bk.inj (h : Bk rows ids key lp rout u) {j k : Nat} (hj : j < rout.length) (hk : k < rout.length) (e : gmap ids key j = gmap ids key k) : j = k := by
  have here : ∀ {j}, j < ids.length → rows (gmap ids key j) ≠ none := fun {j} hj => by
    rw [gmap, List.getElem?_eq_getElem hj]; exact h.here _ (List.getElem_mem hj)
  by_cases h1 : j < ids.length
  · by_cases h2 : k < ids.length
    · simp only [gmap, List.getElem?_eq_getElem h1, List.getElem?_eq_getElem h2] at e
      have a := findN_some (n := 1) h.nodup (List.getElem?_eq_getElem h1)
      have b := findN_some (n := 1) h.nodup (List.getElem?_eq_getElem h2)
      rw [e, b] at a
      have := Option.some.inj a
      omega
    · exact absurd (e ▸ h.free k (by omega) hk) (here h1)
  · by_cases h2 : k < ids.length
    · exact absurd (e ▸ h.free j (by omega) hj) (here h2)
    · simp only [gmap, List.getElem?_eq_none (show ids.length ≤ j by omega), List.getElem?_eq_none (show ids.length ≤ k by omega)] at e
      omega

theorem Bk.row (h : Bk rows ids key lp rout u) {k : Nat} {s : RowS} (hk : rout[k]? = some s) :
    ∃ x, backRow (backMap key 1 ids rout.length) rows lp s.row = some x ∧ sameLong rows (gmap ids key k) x = some true ∧ updAll rows u (gmap ids key k) = some ⟨backVer rows (gmap ids key k), x⟩ := by
  obtain ⟨x, h1, h2, h3⟩ := h.get k s hk
  refine ⟨x, h1, h2, updAll_in h3 fun j q hj e => ?_⟩
  have hj' : j < rout.length := by
    have := (List.getElem?_eq_some_iff.1 hj).1
    rw [h.ulen] at this; exact this
  obtain ⟨x', _, _, g3⟩ := h.get j _ (List.getElem?_eq_getElem hj')
  rw [g3] at hj
  cases hj
  exact h.inj hj' (List.getElem?_eq_some_iff.1 hk).1 e

theorem Bk.other (h : Bk rows ids key lp rout u) {x : Nat} (hx : ∀ k, k < rout.length → gmap ids key k ≠ x) : updAll rows u x = rows x := by
  refine updAll_out fun q hq e => ?_
  obtain ⟨j, hj⟩ := List.getElem?_of_mem hq
  have hj' : j < rout.length := by
    have := (List.getElem?_eq_some_iff.1 hj).1
    rw [h.ulen] at this; exact this
  obtain ⟨x', _, _, g3⟩ := h.get j _ (List.getElem?_eq_getElem hj')
  rw [g3] at hj
  cases hj
  exact hx j hj' e

theorem backRow_live {m : List (Nat × Nat)} {x y : Row} (h : backRow m rows lp x = some y) : y = .gone ↔ x = .gone := by
  cases x with
  | arr p t l =>
    simp only [backRow] at h
    split at h
    · obtain rfl := Option.some.inj h; simp
    · cases h
  | vars l =>
    simp only [backRow] at h
    split at h
    · obtain rfl := Option.some.inj h; simp
    · cases h
  | gone => obtain rfl := Option.some.inj h; simp
  | mp it p kt vt bx l tk =>
    simp only [backRow] at h
    split at h
    · obtain rfl := Option.some.inj h; simp
    · cases h
theorem backRow_mp {m : List (Nat × Nat)} {x : Row} {it : Nat} {bx : Bool} {p : Prov} {kt vt : Ty} {l : List (kt.D × vt.D)} {tk : Option (kt.D × Nat)} (h : backRow m rows lp x = some (.mp it p kt vt bx l tk)) :
    tk = none ∧ ∃ p0, x = .mp it p0 kt vt bx l none := by
  cases x with
  | arr p t l =>
    simp only [backRow] at h
    split at h <;> cases h
  | gone => cases h
  | vars l =>
    simp only [backRow] at h
    split at h <;> cases h
  | mp it p kt vt bx l tk =>
    simp only [backRow] at h
    split at h
    · cases h; exact ⟨rfl, _, rfl⟩
    · cases h
theorem backRow_plain {m : List (Nat × Nat)} {x y : Row} (h : backRow m rows lp x = some y) (hx : x.plain) : y.plain := by
  cases x with
  | arr p t l =>
    simp only [backRow] at h
    split at h
    · cases h; trivial
    · cases h
  | gone => cases h; trivial
  | vars l => exact hx.elim
  | mp it p kt vt bx l tk => exact hx.elim
theorem backRow_vars {m : List (Nat × Nat)} {x : Row} {l : List PV} (h : backRow m rows lp x = some (.vars l)) : ∃ l0, x = .vars l0 := by
  cases x with
  | arr p t l =>
    simp only [backRow] at h
    split at h <;> cases h
  | vars l => exact ⟨l, rfl⟩
  | gone => cases h
  | mp it p kt vt bx l tk =>
    simp only [backRow] at h
    split at h <;> cases h

theorem backProv_get {m : List (Nat × Nat)} : ∀ {p p' : Prov}, backProv m rows lp p = some p' →
    (∀ q ∈ p', q ∈ lp ∨ ∃ i n, (i, n) ∈ p ∧ i ≠ 0 ∧ findN m i = some q.1 ∧ q.2 = backVer rows q.1) ∧ (∀ i n, (i, n) ∈ p → i ≠ 0 → ∃ g, findN m i = some g ∧ (g, backVer rows g) ∈ p') ∧ (∀ n, (0, n) ∈ p → ∀ q ∈ lp, q ∈ p')
  | [], p', h => by
    obtain rfl := Option.some.inj h
    exact ⟨fun q hq => (by cases hq), fun i n h => (by cases h), fun n h => (by cases h)⟩
  | (r, n) :: p, p', h => by
    simp only [backProv] at h
    split at h
    · rename_i l' h2
      obtain ⟨g1, g2, g3⟩ := backProv_get h2
      by_cases hr : r = 0
      · subst hr
        simp at h
        subst h
        refine ⟨fun q hq => ?_, fun i k hi h0 => ?_, fun k _ q hq => List.mem_append_left _ hq⟩
        · rcases List.mem_append.1 hq with hq | hq
          · exact .inl hq
          · rcases g1 q hq with h | ⟨i, k, e1, e2⟩
            · exact .inl h
            · exact .inr ⟨i, k, List.mem_cons_of_mem _ e1, e2⟩
        · rcases List.mem_cons.1 hi with e | hi
          · cases e; exact absurd rfl h0
          · obtain ⟨g, e1, e2⟩ := g2 i k hi h0
            exact ⟨g, e1, List.mem_append_right _ e2⟩
      · have : (r == 0) = false := by simpa using hr
        rw [this] at h
        simp only [Bool.false_eq_true, if_false] at h
        split at h
        · rename_i r' h1
          obtain rfl := Option.some.inj h
          refine ⟨fun q hq => ?_, fun i k hi h0 => ?_, fun k hk q hq => ?_⟩
          · rcases List.mem_cons.1 hq with rfl | hq
            · exact .inr ⟨r, n, List.mem_cons_self, hr, h1, rfl⟩
            · rcases g1 q hq with h | ⟨i, k, e1, e2⟩
              · exact .inl h
              · exact .inr ⟨i, k, List.mem_cons_of_mem _ e1, e2⟩
          · rcases List.mem_cons.1 hi with e | hi
            · cases e
              exact ⟨r', h1, List.mem_cons_self⟩
            · obtain ⟨g, e1, e2⟩ := g2 i k hi h0
              exact ⟨g, e1, List.mem_cons_of_mem _ e2⟩
          · rcases List.mem_cons.1 hk with e | hk
            · cases e; exact absurd rfl hr
            · exact List.mem_cons_of_mem _ (g3 k hk q hq)
        · cases h
    · cases h

open Classical in
noncomputable def bkPl (pl plc : Pl) (ids : List Nat) (key n : Nat) : Pl :=
  ⟨fun x => if h : ∃ k, k < n ∧ gmap ids key k = x then plc.loc (h.choose + 1) else pl.loc x, pl.Z, pl.L,
    fun x b => if h : ∃ k, k < n ∧ gmap ids key k = x then plc.hid (h.choose + 1) b else pl.hid x b⟩

theorem Bk.loc (h : Bk rows ids key lp rout u) (pl plc : Pl) {k : Nat} (hk : k < rout.length) : (bkPl pl plc ids key rout.length).loc (gmap ids key k) = plc.loc (k + 1) := by
  have hex : ∃ j, j < rout.length ∧ gmap ids key j = gmap ids key k := ⟨k, hk, rfl⟩
  simp only [bkPl, dif_pos hex]
  have := h.inj hex.choose_spec.1 hk hex.choose_spec.2
  rw [this]
theorem Bk.hid (h : Bk rows ids key lp rout u) (pl plc : Pl) {k : Nat} (hk : k < rout.length) : (bkPl pl plc ids key rout.length).hid (gmap ids key k) = plc.hid (k + 1) := by
  have hex : ∃ j, j < rout.length ∧ gmap ids key j = gmap ids key k := ⟨k, hk, rfl⟩
  funext b
  simp only [bkPl, dif_pos hex]
  have := h.inj hex.choose_spec.1 hk hex.choose_spec.2
  rw [this]
theorem Bk.at (h : Bk rows ids key lp rout u) (pl plc : Pl) {k b o : Nat} (hk : k < rout.length) : (bkPl pl plc ids key rout.length).at (gmap ids key k) b o ↔ plc.at (k + 1) b o := by
  unfold Pl.at
  rw [h.loc pl plc hk, h.hid pl plc hk]
theorem bk_hid_other (pl plc : Pl) {x n : Nat} (hx : ∀ k, k < n → gmap ids key k ≠ x) : (bkPl pl plc ids key n).hid x = pl.hid x := by
  have hex : ¬ ∃ j, j < n ∧ gmap ids key j = x := fun ⟨j, h1, h2⟩ => hx j h1 h2
  funext b
  simp only [bkPl, dif_neg hex]
theorem bk_loc_other (pl plc : Pl) {x n : Nat} (hx : ∀ k, k < n → gmap ids key k ≠ x) : (bkPl pl plc ids key n).loc x = pl.loc x := by
  have hex : ¬ ∃ j, j < n ∧ gmap ids key j = x := fun ⟨j, h1, h2⟩ => hx j h1 h2
  simp only [bkPl, dif_neg hex]
end

/-- What a caller and a callee have in common. -/
structure Duo (B : Nat) (G : Nat → Prop) (pl : Pl) (rows : Rows) (ids : List Nat) (lp : Prov) (w w' : World) (plc pl' : Pl) (rout : List RowS) : Prop where
  own : ∀ r s b o, rows r = some s → s.live → pl.at r b o → b < w.heap.size ∧ ¬ pl.Z b ∧ (B ≤ b ∨ G b)
  left : ∀ b, pl.Z b ∨ Left (some lp) pl rows ids b → pl'.Z b
  lent : ∀ b, pl'.Z b → pl'.L b → (pl.Z b → pl.L b ∧ ∃ q ∈ lp, q.1 = 0) ∧ ∀ r s o, rows r = some s → s.live → pl.at r b o → r ∉ ids → ∃ q ∈ lp, q.1 = r
  cown : ∀ r s b o, rowsOf rout r = some s → s.live → pl'.at r b o → b < w'.heap.size ∧ ¬ pl'.Z b ∧ (w.heap.size ≤ b ∨ ∃ r0 s0 o0, rows r0 = some s0 ∧ s0.live ∧ pl.at r0 b o0 ∧ r0 ∈ ids)
  cinj : ∀ r r' s s' b o o', rowsOf rout r = some s → s.live → rowsOf rout r' = some s' → s'.live → pl'.at r b o → pl'.at r' b o' → r = r'
  given : ∀ k id s, ids[k]? = some id → rowsOf rout (k + 1) = some s → s.live → pl'.loc (k + 1) = pl.loc id
  rowr : ∀ r s, rowsOf rout r = some s → RowR w' pl' (rowsOf rout) r s
  size : w.heap.size ≤ w'.heap.size
  keep : ∀ b, b < w.heap.size → ¬ (∃ r s o, rows r = some s ∧ s.live ∧ pl.at r b o ∧ r ∈ ids) → w'.heap[b]? = w.heap[b]?
  blk : ∀ (b : Nat) (arr : Array Value) (T : TypeId) (fr : Nat × Nat), w.heap[b]? = some (Obj.cells arr T fr) → ∃ (arr' : Array Value) (T' : TypeId) (fr' : Nat × Nat), w'.heap[b]? = some (Obj.cells arr' T' fr') ∧ arr'.size = arr.size

section
variable {B : Nat} {G : Nat → Prop} {rows : Rows} {ids : List Nat} {key : Nat} {lp : Prov} {rout : List RowS} {u : List (Nat × RowS)} {pl plc pl' : Pl} {w w' : World}

theorem Bk.cases (h : Bk rows ids key lp rout u) (pl pl' : Pl) (r : Nat) : (∃ k s x, r = gmap ids key k ∧ k < rout.length ∧ rowsOf rout (k + 1) = some s ∧ backRow (backMap key 1 ids rout.length) rows lp s.row = some x ∧ sameLong rows r x = some true ∧
      updAll rows u r = some ⟨backVer rows r, x⟩ ∧ (bkPl pl pl' ids key rout.length).loc r = pl'.loc (k + 1)) ∨
    ((∀ k, k < rout.length → gmap ids key k ≠ r) ∧ updAll rows u r = rows r ∧ (bkPl pl pl' ids key rout.length).loc r = pl.loc r) := by
  by_cases hx : ∃ k, k < rout.length ∧ gmap ids key k = r
  · obtain ⟨k, h1, rfl⟩ := hx
    obtain ⟨x, g1, g2, g3⟩ := h.row (List.getElem?_eq_getElem h1)
    exact .inl ⟨k, _, x, rfl, h1, by rw [rowsOf_succ]; exact List.getElem?_eq_getElem h1, g1, g2, g3, h.loc pl pl' h1⟩
  · have hx' : ∀ k, k < rout.length → gmap ids key k ≠ r := fun k h1 h2 => hx ⟨k, h1, h2⟩
    exact .inr ⟨hx', h.other hx', bk_loc_other pl pl' hx'⟩

theorem gmap_in {k : Nat} {id : Nat} (h : ids[k]? = some id) : gmap ids key k = id := by simp [gmap, h]

theorem done_step (h : Bk rows ids key lp rout u) (D : Duo B G pl rows ids lp w w' plc pl' rout) : Step w pl rows w' (bkPl pl pl' ids key rout.length) (updAll rows u) := by
  have hereK : ∀ {r k}, rows r ≠ none → r = gmap ids key k → k < rout.length → ids[k]? = some r := by
    intro r k hr e hk
    by_cases h1 : k < ids.length
    · rw [List.getElem?_eq_getElem h1, e, gmap, List.getElem?_eq_getElem h1]
    · exact absurd (e ▸ h.free k (by omega) hk) hr
  have changed : ∀ {r s}, rows r = some s → r ∈ ids → updAll rows u r ≠ some s := by
    intro r s hr hm e
    obtain ⟨k, hk⟩ := List.getElem?_of_mem hm
    have hk' : k < ids.length := (List.getElem?_eq_some_iff.1 hk).1
    have hg : gmap ids key k = r := gmap_in hk
    have hkr : k < rout.length := Nat.lt_of_lt_of_le hk' h.long
    obtain ⟨x, _, _, g3⟩ := h.row (List.getElem?_eq_getElem hkr)
    rw [hg, e] at g3
    have := congrArg RowS.ver (Option.some.inj g3)
    simp only [backVer, hr] at this
    omega
  have inside : ∀ {r s}, rows r = some s → updAll rows u r = some s → ∀ k, k < rout.length → gmap ids key k ≠ r := by
    intro r s h1 h2 k hk e
    by_cases hk1 : k < ids.length
    · refine changed h1 ?_ h2
      rw [← e, gmap, List.getElem?_eq_getElem hk1]
      exact List.getElem_mem hk1
    · have := h.free k (by omega) hk
      rw [e, h1] at this
      cases this
  have ver : ∀ {r : Nat} {s : RowS} {k : Nat}, rows r = some s → r ∈ ids → ids[k]? = some r → ∃ s1, updAll rows u r = some s1 := by
    intro r s k hr hm hk
    have hk' : k < ids.length := (List.getElem?_eq_some_iff.1 hk).1
    have hg : gmap ids key k = r := gmap_in hk
    have hkr : k < rout.length := Nat.lt_of_lt_of_le hk' h.long
    obtain ⟨x, _, _, g3⟩ := h.row (List.getElem?_eq_getElem hkr)
    rw [hg] at g3
    exact ⟨_, g3⟩
  refine ⟨rfl, rfl, D.size, fun r s hr => ?_, fun r s h1 h2 hl => bk_hid_other pl pl' (inside h1 h2), fun r s' h2 hl b o h3 => ?_, fun b hb hh => ?_, D.blk, h.zero⟩
  · rcases h.cases pl pl' r with ⟨k, sk, x, e, hk, g1, g2, g3, g4, g5⟩ | ⟨_, g1, g2⟩
    · refine ⟨_, g4, ?_, fun hl => ?_⟩
      · have hv : backVer rows r = s.ver + 1 := by simp [backVer, hr]
        rw [hv]
        refine ⟨by simp, ?_⟩
        simp only [sameLong, hr] at g3
        obtain ⟨n, row⟩ := s
        cases row with
        | arr p t l =>
          cases x with
          | arr p' t' l' =>
            simp only at g3
            split at g3
            · rename_i ht
              subst ht
              have hlen : l'.length = l.length := by simpa using g3
              exact .inr (.inr (.inl ⟨p, p', t, l, l', rfl, rfl, hlen, by simp⟩))
            · cases g3
          | gone => exact .inr (.inl ⟨rfl, by simp⟩)
          | vars l' => cases g3
          | mp => cases g3
        | mp it p kt vt bx l tk =>
          cases x with
          | gone => exact .inr (.inl ⟨rfl, by simp⟩)
          | vars l' => cases g3
          | arr p' t' l' => cases g3
          | mp => cases g3
        | vars l =>
          cases x with
          | vars l' =>
            simp only at g3
            split at g3
            · rename_i hlen
              exact .inr (.inr (.inr (.inl ⟨l, l', rfl, rfl, hlen, by simp⟩)))
            · cases g3
          | gone => cases g3
          | arr p' t' l' => cases g3
          | mp => cases g3
        | gone =>
          cases x with
          | gone => exact .inr (.inl ⟨rfl, by simp⟩)
          | vars l' => cases g3
          | arr p' t' l' => cases g3
          | mp => cases g3
      · rw [g5]
        exact D.given k r sk (hereK (by rw [hr]; simp) e hk) g1 (fun e' => hl ((backRow_live g2).2 e'))
    · exact ⟨s, g1.trans hr, Kin.refl s, fun _ => g2⟩
  · rcases h.cases pl pl' r with ⟨k, sk, x, e, hk, g1, g2, g3, g4, g5⟩ | ⟨g0, g1, g2⟩
    · rw [h2] at g4
      cases g4
      rw [e, h.at pl pl' hk] at h3
      have hlk : sk.live := fun e' => hl ((backRow_live g2).2 e')
      obtain ⟨_, _, q⟩ := D.cown _ _ b o g1 hlk h3
      rcases q with q | ⟨r0, s0, o0, f1, f2, f3, f4⟩
      · exact .inr (.inl q)
      · obtain ⟨j, hj⟩ := List.getElem?_of_mem f4
        obtain ⟨s1, y3⟩ := ver f1 f4 hj
        exact .inr (.inr ⟨r0, s0, s1, o0, f1, f2, y3, fun e' => changed f1 f4 (e' ▸ y3), f3⟩)
    · refine .inl ⟨s', o, g1 ▸ h2, hl, ?_⟩
      unfold Pl.at at h3 ⊢
      rw [g2, bk_hid_other pl pl' g0] at h3
      exact h3
  · refine D.keep b hb ?_
    rintro ⟨r, s, o, f1, f2, f3, f4⟩
    exact changed f1 f4 (hh r s o f1 f2 f3)

theorem bk_safe (h : Bk rows ids key lp rout u) (D : Duo B G pl rows ids lp w w' plc pl' rout) {p p' : Prov} (hp : backProv (backMap key 1 ids rout.length) rows lp p = some p') {b : Nat} (hs : Safe w' pl' (rowsOf rout) p b) :
    Safe w' (bkPl pl pl' ids key rout.length) (updAll rows u) p' b := by
  obtain ⟨g1, g2, g0⟩ := backProv_get hp
  obtain ⟨h1, h2, h3⟩ := hs
  have zz : pl'.Z b → (∀ q ∈ lp, q ∈ p') ∧ (pl.Z b → pl.L b ∧ ∃ q ∈ lp, q.1 = 0) ∧ ∀ r s o, rows r = some s → s.live → pl.at r b o → r ∉ ids → ∃ q ∈ lp, q.1 = r := by
    intro hz
    obtain ⟨hL, ⟨i, n⟩, hq, e⟩ := h2 hz
    simp only at e
    subst e
    exact ⟨g0 n hq, D.lent b hz hL⟩
  refine ⟨h1, fun hz => ?_, fun r s o hr hl hloc => ?_⟩
  · obtain ⟨z1, z2, _⟩ := zz (D.left b (.inl hz))
    obtain ⟨z3, q, z4, z5⟩ := z2 hz
    exact ⟨z3, q, z1 q z4, z5⟩
  · rcases h.cases pl pl' r with ⟨k, sk, x, e, hk, f1, f2, f3, f4, f5⟩ | ⟨f0, f1, f2⟩
    · rw [hr] at f4
      cases f4
      rw [e, h.at pl pl' hk] at hloc
      obtain ⟨⟨i, n⟩, hq, ei⟩ := h3 _ sk o f1 (fun e' => hl ((backRow_live f2).2 e')) hloc
      simp only at ei
      subst ei
      obtain ⟨g, e1, e2⟩ := g2 _ n hq (by omega)
      have := back_found (ids := ids) (key := key) (i := 1) hk
      rw [Nat.add_comm, e1] at this
      cases this
      exact ⟨_, e2, e.symm⟩
    · rw [f1] at hr
      replace hloc : pl.at r b o := by
        unfold Pl.at at hloc ⊢
        rw [f2, bk_hid_other pl pl' f0] at hloc
        exact hloc
      have hm : r ∉ ids := fun hm => by
        obtain ⟨j, hj⟩ := List.getElem?_of_mem hm
        exact f0 j (Nat.lt_of_lt_of_le (List.getElem?_eq_some_iff.1 hj).1 h.long) (gmap_in hj)
      obtain ⟨z1, _, z3⟩ := zz (D.left b (.inr ⟨rfl, r, s, o, hr, hl, hloc, hm⟩))
      obtain ⟨q, z4, z5⟩ := z3 r s o hr hl hloc hm
      exact ⟨q, z1 q z4, z5⟩

theorem bk_provIn (h : Bk rows ids key lp rout u) (D : Duo B G pl rows ids lp w w' plc pl' rout) {p p' : Prov} (hp : backProv (backMap key 1 ids rout.length) rows lp p = some p') (hm : ProvIn (rowsOf rout) p) : ProvIn (updAll rows u) p' := by
  obtain ⟨g1, g2, _⟩ := backProv_get hp
  rintro ⟨g, n⟩ hq
  rcases g1 _ hq with hl | ⟨i, k, e1, e0, e2, e3⟩
  · exact (done_step h D).provIn h.lent _ hl
  · obtain ⟨j, rfl, hj, e5⟩ := findN_back e2
    simp only at e5 e3
    subst e5
    rcases hm _ e1 with e | ⟨s, f1, f2, f3⟩
    · simp only at e; omega
    · simp only [Nat.add_comm 1 j] at f1
      rw [rowsOf_succ] at f1
      obtain ⟨x, y1, y2, y3⟩ := h.row f1
      exact .inr ⟨_, y3, .inl (by simp only; omega), backRow_plain y1 f3⟩

mutual
theorem bk_vr (h : Bk rows ids key lp rout u) (D : Duo B G pl rows ids lp w w' plc pl' rout) : ∀ {v v' : PV} {x : Value}, back (backMap key 1 ids rout.length) rows lp v = some v' → Men (rowsOf rout) v → VR w' pl' (rowsOf rout) v x →
    Men (updAll rows u) v' ∧ VR w' (bkPl pl pl' ids key rout.length) (updAll rows u) v' x
  | .val p t y, v', x, hb, hm, hv => by
    simp only [back] at hb
    split at hb
    · rename_i p' hp
      obtain rfl := Option.some.inj hb
      exact ⟨bk_provIn h D hp hm, RD_frame (fun b hb => bk_safe h D hp hb) (fun _ _ => rfl) hv⟩
    · cases hb
  | .pvl _ _ _ _ _, v', x, hb, hm, hv => by cases hb
  | .und, v', x, hb, hm, hv => by cases hb
  | .nils, v', x, hb, _, hv => by obtain rfl := Option.some.inj hb; exact ⟨trivial, hv⟩
  | .nilp, v', x, hb, _, hv => by obtain rfl := Option.some.inj hb; exact ⟨trivial, hv⟩
  | .lit _, v', x, hb, _, hv => by obtain rfl := Option.some.inj hb; exact ⟨trivial, hv⟩
  | .rw r, v', x, hb, hm, hv => by
    simp only [back] at hb
    split at hb
    · rename_i g hg
      obtain rfl := Option.some.inj hb
      obtain ⟨k, rfl, hk, rfl⟩ := findN_back hg
      obtain ⟨y, y1, y2, y3⟩ := h.row (List.getElem?_eq_getElem hk)
      refine ⟨by simp [Men, y3], ⟨hv.1.1, fun n p kt vt bx l tk hl => ?_⟩, fun n p t l hl => ?_⟩
      · rw [y3] at hl
        have hrow : rowsOf rout (1 + k) = some rout[k] := by rw [Nat.add_comm, rowsOf_succ]; exact List.getElem?_eq_getElem hk
        generalize rout[k] = s at *
        obtain ⟨n0, row⟩ := s
        cases hl
        obtain ⟨_, p0, e⟩ := backRow_mp y1
        simp only at e
        subst e
        obtain ⟨b, e1, e2⟩ := hv.1.2 _ _ _ _ _ _ _ hrow
        exact ⟨b, by rw [h.loc pl pl' hk, Nat.add_comm]; exact e1, e2⟩
      rw [y3] at hl
      have hrow : rowsOf rout (1 + k) = some rout[k] := by rw [Nat.add_comm, rowsOf_succ]; exact List.getElem?_eq_getElem hk
      generalize rout[k] = s at *
      obtain ⟨n0, row⟩ := s
      cases row with
      | arr p0 t0 l0 =>
        simp only [backRow] at y1
        split at y1
        · cases y1
          cases hl
          obtain ⟨A, c, e1, e2, e3⟩ := hv.2 _ _ _ _ hrow
          exact ⟨A, c, e1, e2, fun hc => by rw [h.loc pl pl' hk, Nat.add_comm]; exact e3 hc⟩
        · cases y1
      | vars l0 => simp only [backRow] at y1; split at y1 <;> cases y1; cases hl
      | gone => cases y1; cases hl
      | mp => simp only [backRow] at y1; split at y1 <;> cases y1; cases hl
    · cases hb
  | .rs r off len, v', x, hb, hm, hv => by
    simp only [back] at hb
    split at hb
    · rename_i g hg
      obtain rfl := Option.some.inj hb
      obtain ⟨k, rfl, hk, rfl⟩ := findN_back hg
      obtain ⟨y, y1, y2, y3⟩ := h.row (List.getElem?_eq_getElem hk)
      refine ⟨by simp [Men, y3], hv.1, fun n p t l hl => ?_⟩
      rw [y3] at hl
      have hrow : rowsOf rout (1 + k) = some rout[k] := by rw [Nat.add_comm, rowsOf_succ]; exact List.getElem?_eq_getElem hk
      generalize rout[k] = s at *
      obtain ⟨n0, row⟩ := s
      cases row with
      | arr p0 t0 l0 =>
        simp only [backRow] at y1
        split at y1
        · cases y1
          cases hl
          obtain ⟨hle, A, c, e1, e2, e3⟩ := hv.2 _ _ _ _ hrow
          exact ⟨hle, A, c, e1, e2, fun hc => by rw [h.loc pl pl' hk, Nat.add_comm]; exact e3 hc⟩
        · cases y1
      | vars l0 => simp only [backRow] at y1; split at y1 <;> cases y1; cases hl
      | gone => cases y1; cases hl
      | mp => simp only [backRow] at y1; split at y1 <;> cases y1; cases hl
    · cases hb
  | .ptr r off, v', x, hb, hm, hv => by
    simp only [back] at hb
    split at hb
    · rename_i g hg
      obtain rfl := Option.some.inj hb
      obtain ⟨k, rfl, hk, rfl⟩ := findN_back hg
      obtain ⟨y, y1, y2, y3⟩ := h.row (List.getElem?_eq_getElem hk)
      refine ⟨by simp [Men, y3], ⟨hv.1.1, hv.1.2.1, fun n i p kt vt bx l tk hl => ?_⟩, fun n l hl => ?_⟩
      · rw [y3] at hl
        have hrow : rowsOf rout (1 + k) = some rout[k] := by rw [Nat.add_comm, rowsOf_succ]; exact List.getElem?_eq_getElem hk
        generalize rout[k] = s at *
        obtain ⟨n0, row⟩ := s
        cases hl
        obtain ⟨_, p0, e⟩ := backRow_mp y1
        simp only at e
        subst e
        obtain ⟨b, e1, e2⟩ := hv.1.2.2 _ _ _ _ _ _ _ _ hrow
        exact ⟨b, by rw [h.loc pl pl' hk, Nat.add_comm]; exact e1, e2⟩
      rw [y3] at hl
      have hrow : rowsOf rout (1 + k) = some rout[k] := by rw [Nat.add_comm, rowsOf_succ]; exact List.getElem?_eq_getElem hk
      generalize rout[k] = s at *
      obtain ⟨n0, row⟩ := s
      cases row with
      | vars l0 =>
        obtain ⟨b, e1, e2⟩ := hv.2 _ _ hrow
        exact ⟨b, by rw [h.loc pl pl' hk, Nat.add_comm]; exact e1, e2⟩
      | arr p0 t0 l0 => simp only [backRow] at y1; split at y1 <;> cases y1; cases hl
      | gone => cases y1; cases hl
      | mp => simp only [backRow] at y1; split at y1 <;> cases y1; cases hl
    · cases hb
  | .pel r i off, v', x, hb, hm, hv => by
    simp only [back] at hb
    split at hb
    · rename_i g hg
      obtain rfl := Option.some.inj hb
      obtain ⟨k, rfl, hk, rfl⟩ := findN_back hg
      obtain ⟨y, y1, y2, y3⟩ := h.row (List.getElem?_eq_getElem hk)
      refine ⟨by simp [Men, y3], hv.1, fun n p t l hl => ?_⟩
      rw [y3] at hl
      have hrow : rowsOf rout (1 + k) = some rout[k] := by rw [Nat.add_comm, rowsOf_succ]; exact List.getElem?_eq_getElem hk
      generalize rout[k] = s at *
      obtain ⟨n0, row⟩ := s
      cases row with
      | arr p0 t0 l0 =>
        simp only [backRow] at y1
        split at y1
        · cases y1
          cases hl
          obtain ⟨hi, b, o, e1, e2⟩ := hv.2 _ _ _ _ hrow
          exact ⟨hi, b, o, by rw [h.loc pl pl' hk, Nat.add_comm]; exact e1, e2⟩
        · cases y1
      | vars l0 => simp only [backRow] at y1; split at y1 <;> cases y1; cases hl
      | gone => cases y1; cases hl
      | mp => simp only [backRow] at y1; split at y1 <;> cases y1; cases hl
    · cases hb
  | .fn f l, v', x, hb, hm, hv => by
    simp only [back] at hb
    split at hb
    · rename_i l' hl
      obtain rfl := Option.some.inj hb
      obtain ⟨cs, e, g⟩ := hv
      obtain ⟨q1, q2⟩ := bk_vrs h D (l := l) hl hm g
      exact ⟨q1, cs, e, q2⟩
    · cases hb
  | .agg l, v', x, hb, hm, hv => by
    simp only [back] at hb
    split at hb
    · rename_i l' hl
      obtain rfl := Option.some.inj hb
      obtain ⟨cs, e, g, g1⟩ := hv
      obtain ⟨q1, q2⟩ := bk_vrs h D (l := l) hl hm g
      exact ⟨q1, cs, e, q2, g1⟩
    · cases hb
  | .tup l, v', x, hb, hm, hv => by
    simp only [back] at hb
    split at hb
    · rename_i l' hl
      obtain rfl := Option.some.inj hb
      obtain ⟨cs, us, es, e, e2, g⟩ := hv
      obtain ⟨q1, q2⟩ := bk_vrs h D (l := l) hl hm g
      exact ⟨q1, cs, us, es, e, e2, q2⟩
    · cases hb
theorem bk_vrs (h : Bk rows ids key lp rout u) (D : Duo B G pl rows ids lp w w' plc pl' rout) : ∀ {l l' : List PV} {us : List Value}, back.backAll (backMap key 1 ids rout.length) rows lp l = some l' → Mens (rowsOf rout) l → VRs w' pl' (rowsOf rout) l us →
    Mens (updAll rows u) l' ∧ VRs w' (bkPl pl pl' ids key rout.length) (updAll rows u) l' us
  | [], l', us, hb, _, hv => by
    obtain rfl := Option.some.inj hb
    exact ⟨trivial, hv⟩
  | v :: l, l', us, hb, hm, hv => by
    simp only [back.backAll] at hb
    split at hb
    · rename_i v' hv'
      split at hb
      · rename_i l'' hl
        obtain rfl := Option.some.inj hb
        obtain ⟨x, us', rfl, g1, g2⟩ := hv
        obtain ⟨q1, q2⟩ := bk_vr h D (v := v) hv' hm.1 g1
        obtain ⟨r1, r2⟩ := bk_vrs h D (l := l) hl hm.2 g2
        exact ⟨⟨q1, r1⟩, x, us', rfl, q2, r2⟩
      · cases hb
    · cases hb
end
end
end Go.Proofs.Ytecnlienmpdlaaa.PM
