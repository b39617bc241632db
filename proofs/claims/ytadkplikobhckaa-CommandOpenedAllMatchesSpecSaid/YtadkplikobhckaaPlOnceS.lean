/- Plain laws of signed commands: what is signed is opened, once. -/
import Derived.Test.YtadkplikobhckaaPlOpen
set_option linter.unusedSimpArgs false
set_option linter.unusedVariables false
namespace Go.Proofs.Ytadkplikobhckaa.PM
open Go Go.Proofs.Ytadkplikobhckaa.Bt
variable {R : Type}
/-- What is wrong with a key, a counter and a body, or 0. -/
def signErr (c v : Int) (b : List Int) : Int := firstF [if inB c 0 1000000000000000 then 0 else 1, if inB v 0 1000000000 then 0 else 1, chkBody b.length]
def signB (c v : Int) (b : List Int) : List Int := (eightF 8 v ++ b) ++ eightF 8 (sgn c (eightF 8 v ++ b))
def signF (c v : Int) (b : List Int) : Int × List Int := if signErr c v b = 0 then (0, signB c v b) else (signErr c v b, [])
theorem signErr_ok {c v : Int} {b : List Int} (h : signErr c v b = 0) : (0 ≤ c ∧ c ≤ 1000000000000000) ∧ (0 ≤ v ∧ v ≤ 1000000000) ∧ 0 < b.length ∧ b.length ≤ 200 := by
  unfold signErr at h
  cases h1 : inB c 0 1000000000000000 with
  | false => simp [h1, firstF] at h
  | true =>
    cases h2 : inB v 0 1000000000 with
    | false => simp [h1, h2, firstF] at h
    | true =>
      simp only [h1, h2, if_true, firstF] at h
      refine ⟨inB_iff.1 h1, inB_iff.1 h2, ?_⟩
      by_cases h3 : chkBody b.length = 0
      · unfold chkBody at h3
        split at h3
        · cases h3
        · split at h3
          · cases h3
          · omega
      · rw [if_neg h3] at h; exact absurd h h3
theorem f49_eq {k : Nat} (hk : 300 < k) (c v : Int) (b : List Int) (K : Int → List Int → Option R) : f49 k c v b K = K (signF c v b).1 (signF c v b).2 := by
  obtain ⟨j, rfl⟩ := succ_of (show 0 < k by omega)
  rw [f49_def]
  simp only [f49d]
  rw [f74_eq (by omega), f74_eq (by omega), f70_eq (by omega), f65_eq (by simp; omega) (by simp)]
  change (bif (signErr c v b != 0) then K (signErr c v b) [] else _) = _
  by_cases h : signErr c v b = 0
  · obtain ⟨h1, h2, h3, h4⟩ := signErr_ok h
    have hw : IntKind.u64.wrap v = v := by rw [IntKind.wrap_u64]; omega
    have e1 : decide ((eightF 8 v).length + b.length ≤ LIM 1) = true := by rw [LIM1, eightF_len]; simp only [decide_eq_true_eq]; omega
    have e2 : ∀ x, decide ((eightF 8 v ++ b).length + (eightF 8 x).length ≤ LIM 1) = true := fun x => by rw [LIM1, List.length_append, eightF_len, eightF_len]; simp only [decide_eq_true_eq]; omega
    have e3 : (eightF 8 v ++ b).length = 8 + b.length := by rw [List.length_append, eightF_len]
    simp only [signF, h, if_true, bne_self_eq_false, cond_false, hw]
    rw [f82_eq (by omega)]
    simp only [e1, cond_true]
    rw [f83_eq c _ (by omega) (by omega), f82_eq (by omega)]
    simp only [e2, cond_true]
    rfl
  · have e : (signErr c v b != 0) = true := by simp [h]
    simp only [signF, if_neg h, e, cond_true]
theorem fnv_range : ∀ (l : List Int) (a : Int), 0 ≤ a → a < 2 ^ 64 → 0 ≤ fnv l a ∧ fnv l a < 2 ^ 64
  | [], a, h0, h1 => ⟨h0, h1⟩
  | b :: l, a, h0, h1 => by
    simp only [fnv]
    exact fnv_range l _ (by rw [IntKind.wrap_u64]; omega) (by rw [IntKind.wrap_u64]; omega)
theorem sgn_range (c : Int) (l : List Int) : 0 ≤ sgn c l ∧ sgn c l < 2 ^ 64 := fnv_range _ _ (by decide) (by decide)
theorem signB_len (c v : Int) (b : List Int) : (signB c v b).length = b.length + 16 := by
  simp only [signB, List.length_append, eightF_len]; omega
theorem signB_B (c v : Int) {b : List Int} (h : B b) : B (signB c v b) := by
  intro x hx
  simp only [signB, List.mem_append] at hx
  rcases hx with (hx | hx) | hx
  · exact eightF_B _ _ x hx
  · exact h x hx
  · exact eightF_B _ _ x hx
theorem signB_take (c v : Int) (b : List Int) : (signB c v b).take ((signB c v b).length - 8) = eightF 8 v ++ b := by
  rw [signB_len, signB, List.take_append_of_le_length (by simp only [List.length_append, eightF_len]; omega), List.take_of_length_le (by simp only [List.length_append, eightF_len]; omega)]
theorem signB_drop (c v : Int) (b : List Int) : (signB c v b).drop ((signB c v b).length - 8) = eightF 8 (sgn c (eightF 8 v ++ b)) := by
  rw [signB_len, signB]
  exact List.drop_left' (by simp only [List.length_append, eightF_len]; omega)
theorem signB_num (c v : Int) (b : List Int) (h0 : 0 ≤ v) (h1 : v ≤ 1000000000) : numF ((signB c v b).take 8) 0 = v := by
  rw [signB, List.append_assoc, List.take_append_of_le_length (by rw [eightF_len]; omega), List.take_of_length_le (by rw [eightF_len]; omega)]
  exact num_eight v h0 (by omega)
/-- What was signed is opened as its counter says. -/
theorem open_signed (c n v : Int) (l b : List Int) (h : signErr c v b = 0) : openF c n l (signB c v b) =
    if v < n then notOpen 7 else if l.contains v then notOpen 7 else if n + 64 < v then notOpen 11 else ⟨c, (runF n (sortI (l ++ [v]))).1, v, 0, (runF n (sortI (l ++ [v]))).2, b⟩ := by
  obtain ⟨h1, h2, h3, h4⟩ := signErr_ok h
  have hl := signB_len c v b
  have hs := sgn_range c (eightF 8 v ++ b)
  have e8 : (eightF 8 (sgn c (eightF 8 v ++ b))).take 8 = eightF 8 (sgn c (eightF 8 v ++ b)) := List.take_of_length_le (by rw [eightF_len]; omega)
  have ed : (eightF 8 v ++ b).drop 8 = b := List.drop_left' (eightF_len 8 v)
  unfold openF
  rw [if_neg (by omega), if_neg (by omega), signB_num c v b h2.1 h2.2, signB_take, signB_drop, e8, num_eight _ hs.1 hs.2, if_neg (fun h => h rfl), if_neg (by omega), ed]
/-! what keys become -/
def topC (n : Int) : Int := if 1000000000 < n + 64 then 1000000000 else n + 64
theorem topC_or (n : Int) : (topC n = 1000000000 ∧ 1000000000 < n + 64) ∨ (topC n = n + 64 ∧ n + 64 ≤ 1000000000) := by
  unfold topC
  split
  · exact .inl ⟨rfl, by assumption⟩
  · exact .inr ⟨rfl, by omega⟩
structure KeysOk (n : Int) (l : List Int) : Prop where
  lo : 0 ≤ n
  hi : n ≤ 1000000001
  len : l.length ≤ 64
  asc : l.Pairwise (· < ·)
  inn : ∀ x ∈ l, n + 1 ≤ x ∧ x ≤ topC n
theorem keyF_iff (lo hi : Int) : ∀ (l : List Int) (p : Option Int), keyF lo hi p l = 0 ↔ (∀ x ∈ l, lo ≤ x ∧ x ≤ hi) ∧ l.Pairwise (· < ·) ∧ ∀ y, p = some y → ∀ x ∈ l.head?, y < x
  | [], p => by simp [keyF]
  | x :: l, p => by
    have ih := keyF_iff lo hi l (some x)
    simp only [keyF]
    cases hi' : inB x lo hi with
    | false =>
      have : ¬ (lo ≤ x ∧ x ≤ hi) := fun h => by rw [← inB_iff] at h; rw [hi'] at h; cases h
      constructor
      · intro h; simp at h
      · intro h; exact absurd (h.1 x (List.mem_cons_self ..)) this
    | true =>
      have hx := inB_iff.1 hi'
      have key : (l.Pairwise (· < ·) ∧ ∀ y, some x = some y → ∀ z ∈ l.head?, y < z) ↔ (x :: l).Pairwise (· < ·) := by
        constructor
        · rintro ⟨h1, h2⟩
          refine List.pairwise_cons.2 ⟨fun z hz => ?_, h1⟩
          cases l with
          | nil => cases hz
          | cons w l =>
            have hw : x < w := h2 x rfl w (by simp)
            rcases List.mem_cons.1 hz with rfl | hz
            · exact hw
            · have := (List.pairwise_cons.1 h1).1 z hz; omega
        · intro h
          refine ⟨(List.pairwise_cons.1 h).2, fun y hy z hz => ?_⟩
          cases hy
          exact (List.pairwise_cons.1 h).1 z (List.mem_of_mem_head? hz)
      cases p with
      | none =>
        simp only [Bool.not_true, cond_false, ih]
        rw [key]
        constructor
        · rintro ⟨h1, h2⟩
          exact ⟨fun z hz => (List.mem_cons.1 hz).elim (fun e => e ▸ hx) (h1 z), h2, fun y hy => by cases hy⟩
        · rintro ⟨h1, h2, _⟩
          exact ⟨fun z hz => h1 z (List.mem_cons_of_mem _ hz), h2⟩
      | some y =>
        by_cases hy : x ≤ y
        · have e : decide (x ≤ y) = true := decide_eq_true hy
          simp only [Bool.not_true, cond_false, e, cond_true]
          constructor
          · intro h; cases h
          · rintro ⟨_, _, h⟩
            have := h y rfl x (by simp)
            omega
        · have e : decide (x ≤ y) = false := decide_eq_false hy
          simp only [Bool.not_true, cond_false, e, ih]
          rw [key]
          constructor
          · rintro ⟨h1, h2⟩
            exact ⟨fun z hz => (List.mem_cons.1 hz).elim (fun e => e ▸ hx) (h1 z), h2, fun y' hy' z hz => by cases hy'; simp at hz; subst hz; omega⟩
          · rintro ⟨h1, h2, _⟩
            exact ⟨fun z hz => h1 z (List.mem_cons_of_mem _ hz), h2⟩
theorem keysF_iff (c n : Int) (l : List Int) : keysF c n l = 0 ↔ (0 ≤ c ∧ c ≤ 1000000000000000) ∧ KeysOk n l := by
  unfold keysF
  cases h1 : inB c 0 1000000000000000 with
  | false =>
    constructor
    · intro h; simp at h
    · rintro ⟨h, _⟩; rw [inB_iff.2 h] at h1; cases h1
  | true =>
    cases h2 : inB n 0 1000000001 with
    | false =>
      constructor
      · intro h; simp at h
      · rintro ⟨_, h⟩; rw [inB_iff.2 ⟨h.lo, h.hi⟩] at h2; cases h2
    | true =>
      by_cases h3 : 64 < l.length
      · have e : decide (64 < l.length) = true := decide_eq_true h3
        simp only [Bool.not_true, cond_false, e, cond_true]
        constructor
        · intro h; cases h
        · rintro ⟨_, h⟩; have := h.len; omega
      · have e : decide (64 < l.length) = false := decide_eq_false h3
        simp only [Bool.not_true, cond_false, e]
        rw [keyF_iff]
        constructor
        · rintro ⟨g1, g2, _⟩
          exact ⟨inB_iff.1 h1, (inB_iff.1 h2).1, (inB_iff.1 h2).2, by omega, g2, g1⟩
        · rintro ⟨_, h⟩
          exact ⟨h.inn, h.asc, fun y hy => by cases hy⟩
theorem asc_len : ∀ (l : List Int) (a b : Int), a ≤ b + 1 → l.Pairwise (· < ·) → (∀ x ∈ l, a ≤ x ∧ x ≤ b) → (l.length : Int) ≤ b - a + 1
  | [], a, b, h, _, _ => by simp only [List.length_nil]; omega
  | x :: l, a, b, h, hp, hb => by
    have hx := hb x (List.mem_cons_self ..)
    have := asc_len l (x + 1) b (by omega) (List.pairwise_cons.1 hp).2 (fun y hy => ⟨by have := (List.pairwise_cons.1 hp).1 y hy; omega, (hb y (List.mem_cons_of_mem _ hy)).2⟩)
    simp only [List.length_cons]
    omega
theorem runF_spec : ∀ (s : List Int) (n H : Int), 0 ≤ n → H ≤ 1000000000 → n ≤ H + 1 → s.Pairwise (· < ·) → (∀ x ∈ s, n ≤ x ∧ x ≤ H) →
    n ≤ (runF n s).1 ∧ (runF n s).1 ≤ H + 1 ∧ (runF n s).2.Pairwise (· < ·) ∧ (∀ x ∈ (runF n s).2, (runF n s).1 + 1 ≤ x ∧ x ≤ H) ∧ (∀ x ∈ s, x < (runF n s).1 ∨ x ∈ (runF n s).2) ∧ (∀ x ∈ (runF n s).2, x ∈ s)
  | [], n, H, h0, hH, hn, hp, hb => by simp [runF]; omega
  | x :: s, n, H, h0, hH, hn, hp, hb => by
    have hx := hb x (List.mem_cons_self ..)
    have hp' := List.pairwise_cons.1 hp
    simp only [runF]
    cases e : (x == n) with
    | true =>
      have e : x = n := by simpa using e
      subst e
      have hw : IntKind.i64.wrap (x + 1) = x + 1 := wi (by omega) (by omega)
      simp only [cond_true, hw]
      obtain ⟨g1, g2, g3, g4, g5, g6⟩ := runF_spec s (x + 1) H (by omega) hH (by omega) hp'.2 (fun y hy => ⟨by have := hp'.1 y hy; omega, (hb y (List.mem_cons_of_mem _ hy)).2⟩)
      refine ⟨by omega, g2, g3, g4, fun y hy => ?_, fun y hy => List.mem_cons_of_mem _ (g6 y hy)⟩
      rcases List.mem_cons.1 hy with rfl | hy
      · left; omega
      · exact g5 y hy
    | false =>
      have e : ¬ x = n := by simpa using e
      simp only [cond_false]
      refine ⟨Int.le_refl _, hn, hp, fun y hy => ?_, fun y hy => .inr hy, fun y hy => hy⟩
      rcases List.mem_cons.1 hy with rfl | hy
      · omega
      · have := hp'.1 y hy; have := hb y (List.mem_cons_of_mem _ hy); omega
theorem sort_asc {l : List Int} {v : Int} (h : l.Pairwise (· < ·)) (hv : v ∉ l) : (sortI (l ++ [v])).Pairwise (· < ·) := by
  have hn : (sortI (l ++ [v])).Nodup := by
    rw [(sortI_perm _).nodup_iff]
    refine List.nodup_append.2 ⟨h.imp fun h => by omega, by simp, fun a ha b hb => ?_⟩
    simp at hb
    subst hb
    exact fun e => hv (e ▸ ha)
  have h2 := sortI_asc (l ++ [v])
  exact (List.pairwise_and_iff.2 ⟨h2, hn⟩).imp fun h => by omega
theorem see_ok {n v : Int} {l : List Int} (h : KeysOk n l) (hv : v ∉ l) (h0 : n ≤ v) (h1 : v ≤ n + 64) (h2 : v ≤ 1000000000) :
    KeysOk (runF n (sortI (l ++ [v]))).1 (runF n (sortI (l ++ [v]))).2 ∧ (∀ x, (x < n ∨ x ∈ l ∨ x = v) → x < (runF n (sortI (l ++ [v]))).1 ∨ x ∈ (runF n (sortI (l ++ [v]))).2) := by
  have ht := topC_or n
  have hm : ∀ x, x ∈ sortI (l ++ [v]) ↔ x ∈ l ∨ x = v := fun x => by rw [(sortI_perm _).mem_iff]; simp
  obtain ⟨g1, g2, g3, g4, g5, g6⟩ := runF_spec (sortI (l ++ [v])) n (topC n) h.lo (by omega) (by omega) (sort_asc h.asc hv) (fun x hx => by
    rcases (hm x).1 hx with hx | rfl
    · have := h.inn x hx; omega
    · omega)
  have hlo := h.lo
  refine ⟨⟨by omega, by omega, ?_, g3, fun x hx => ?_⟩, fun x hx => ?_⟩
  · rcases hr : (runF n (sortI (l ++ [v]))).2 with _ | ⟨y, r⟩
    · simp
    · rw [hr] at g3 g4
      have hy := g4 y (List.mem_cons_self ..)
      have := asc_len _ ((runF n (sortI (l ++ [v]))).1 + 1) (topC n) (by omega) g3 g4
      omega
  · have := g4 x hx
    have ht2 := topC_or (runF n (sortI (l ++ [v]))).1
    exact ⟨this.1, by omega⟩
  · rcases hx with hx | hx
    · left; omega
    · exact g5 x ((hm x).2 hx)
theorem contains_iff (l : List Int) (v : Int) : l.contains v = true ↔ v ∈ l := by simp
theorem f12_eq {k : Nat} (c n : Int) (l : List Int) (v : Int) (b : List Int) (hB : B b) (hk : b.length + 3000 < k) (K : Bool → Option R) : f12 k c n l v b K = K true := by
  obtain ⟨j, rfl⟩ := succ_of (show 0 < k by omega)
  rw [f12_def]
  simp only [f12d]
  rw [f48_eq (by omega)]
  by_cases hK : keysF c n l = 0
  · obtain ⟨hc, hO⟩ := (keysF_iff c n l).1 hK
    have h64 : l.length ≤ 64 := hO.len
    have hn0 := hO.lo
    have hn1 := hO.hi
    simp only [hK, bne_self_eq_false, cond_false]
    rw [f49_eq (by omega)]
    by_cases hS : signErr c v b = 0
    · obtain ⟨_, hv, hb1, hb2⟩ := signErr_ok hS
      simp only [signF, hS, if_true, bne_self_eq_false, cond_false]
      obtain ⟨m, hm, e50⟩ := f50_eq (R := R) (k := j) (by omega) c n l (signB c v b) (fun r14338_0 r14338_1 r14338_2 r14338_3 r14338_4 r14338_5 => (bif (decide (v ≥ n) == true) then (bif (decide (v ≤ IntKind.i64.wrap (n + 64)) == true) then (f51 j l v (fun r16399_0 => (bif (!(!r16399_0)) then (bif ((r14338_3 != 0) == true) then (f21 j (fun r20483_0 => (K r20483_0))) else (K false)) else (bif ((r14338_3 != 0) == false) then (bif ((r14338_2 != v) == false) then (f24 j r14338_5 b (fun r22538_0 => (bif ((!r22538_0) == false) then (f48 j r14338_0 r14338_1 r14338_4 (fun r22543_0 => (bif (r22543_0 != 0) then (K false) else (f50 j r14338_0 r14338_1 r14338_4 (signB c v b) (fun r26626_0 r26626_1 r26626_2 r26626_3 r26626_4 r26626_5 => (bif ((r26626_3 == 7) == true) then (f21 j (fun r28675_0 => (K r28675_0))) else (K false))))))) else (K false)))) else (K false)) else (K false))))) else (bif ((r14338_3 != 0) == true) then (f21 j (fun r20483_0 => (K r20483_0))) else (K false))) else (bif ((r14338_3 != 0) == true) then (f21 j (fun r20483_0 => (K r20483_0))) else (K false))))
      refine e50.trans ?_
      simp only [hK, bne_self_eq_false, cond_false]
      have hBB := signB_B c v hB
      rw [f84_eq c n l _ h64 hn0 hn1 hBB (by omega), open_signed c n v l b hS]
      have w : IntKind.i64.wrap (n + 64) = n + 64 := wi (by omega) (by omega)
      simp only [w]
      by_cases a1 : v < n
      · rw [if_pos a1]
        have e : decide (v ≥ n) = false := decide_eq_false (by omega)
        simp only [Opened.on, notOpen, e]
        rw [f21_eq (by omega)]
        rfl
      · rw [if_neg a1]
        have e : decide (v ≥ n) = true := decide_eq_true (by omega)
        by_cases a3 : n + 64 < v
        · have e2 : decide (v ≤ n + 64) = false := decide_eq_false (by omega)
          have hcode : ∃ z, z ≠ 0 ∧ (if l.contains v = true then notOpen 7 else if n + 64 < v then notOpen 11 else ⟨c, (runF n (sortI (l ++ [v]))).1, v, 0, (runF n (sortI (l ++ [v]))).2, b⟩) = notOpen z := by
            split
            · exact ⟨7, by decide, rfl⟩
            · exact ⟨11, by decide, rfl⟩
          obtain ⟨z, hz, ez⟩ := hcode
          rw [ez]
          have ez' : (z != 0) = true := by simp [hz]
          simp only [Opened.on, notOpen, e, e2, ez', f21_eq (show 6 < j by omega)]
          rfl
        · have e2 : decide (v ≤ n + 64) = true := decide_eq_true (by omega)
          cases a2 : l.contains v with
          | true =>
            rw [if_pos rfl]
            simp only [Opened.on, notOpen, e, e2]
            rw [f51_eq l (by omega) (by omega), a2]
            simp only [f21_eq (show 6 < j by omega)]
            rfl
          | false =>
            have hvl : v ∉ l := fun h => by rw [(contains_iff l v).2 h] at a2; cases a2
            obtain ⟨g1, g2⟩ := see_ok hO hvl (by omega) (by omega) hv.2
            have hK2 := (keysF_iff c _ _).2 ⟨hc, g1⟩
            rw [if_neg (by simp), if_neg a3]
            simp only [Opened.on, e, e2]
            rw [f51_eq l (by omega) (by omega), a2]
            have hv7 := g2 v (.inr (.inr rfl))
            obtain ⟨m', hm', e50'⟩ := f50_eq (R := R) (k := j) (by omega) c (runF n (sortI (l ++ [v]))).1 (runF n (sortI (l ++ [v]))).2 (signB c v b) (fun r26626_0 r26626_1 r26626_2 r26626_3 r26626_4 r26626_5 => (bif ((r26626_3 == 7) == true) then (f21 j (fun r28675_0 => (K r28675_0))) else (K false)))
            simp only [bne_self_eq_false, BEq.rfl, cond_true, cond_false, Bool.not_false, Bool.not_true, f24_eq b (show b.length + 1 < j by omega) (by omega), decide_true, f48_eq (show 70 < j by omega), hK2, e50']
            rw [f84_eq c _ _ _ g1.len g1.lo g1.hi hBB (by omega), open_signed c _ v _ b hS]
            have hcode : (if v < (runF n (sortI (l ++ [v]))).1 then notOpen 7 else if (runF n (sortI (l ++ [v]))).2.contains v = true then notOpen 7 else if (runF n (sortI (l ++ [v]))).1 + 64 < v then notOpen 11 else ⟨c, (runF (runF n (sortI (l ++ [v]))).1 (sortI ((runF n (sortI (l ++ [v]))).2 ++ [v]))).1, v, 0, (runF (runF n (sortI (l ++ [v]))).1 (sortI ((runF n (sortI (l ++ [v]))).2 ++ [v]))).2, b⟩) = notOpen 7 := by
              by_cases q : v < (runF n (sortI (l ++ [v]))).1
              · rw [if_pos q]
              · rw [if_neg q, if_pos ((contains_iff _ _).2 (hv7.resolve_left q))]
            rw [hcode]
            simp only [Opened.on, notOpen, f21_eq (show 6 < j by omega)]
            rfl
    · have e : (signErr c v b != 0) = true := by simp [hS]
      simp only [signF, if_neg hS, e, cond_true, List.length_nil, f21_eq (show 6 < j by omega)]
      rfl
  · have e : (keysF c n l != 0) = true := by simp [hK]
    simp only [e, cond_true, f21_eq (show 6 < j by omega)]
end Go.Proofs.Ytadkplikobhckaa.PM
