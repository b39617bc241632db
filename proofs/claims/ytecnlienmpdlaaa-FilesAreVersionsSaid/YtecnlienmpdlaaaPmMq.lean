/- The small machine PM is sound: keys of maps. -/
import Derived.Test.YtecnlienmpdlaaaPmMp
set_option linter.unusedSimpArgs false
set_option linter.unusedVariables false
namespace Go.Proofs.Ytecnlienmpdlaaa.PM
open Go
open Go.MapKept (IsKey run_checkKey run_findKey findNow_spec)

/-- The one value that a key has in the model. -/
noncomputable def keyVal : (kt : Ty) → kt.D → Value
  | .int k, x => .int k x
  | .bool, x => .bool x
  | .str, x => .string x
  | .prod (.int k) (.prod .str .unit), x => .agg #[.int k x.1, .string x.2.1]
  | _, _ => undef

theorem keyTy_flat : ∀ {kt : Ty}, keyTy kt = true → kt.flat = true
  | .int _, _ => rfl
  | .bool, _ => rfl
  | .str, _ => rfl
  | .prod (.int _) (.prod .str .unit), _ => rfl

theorem keyR_iff {w : World} : ∀ {kt : Ty}, keyTy kt = true → ∀ {k : kt.D} {u : Value}, KeyR w kt k u ↔ u = keyVal kt k
  | .int i, _, k, u => by
    constructor
    · rintro ⟨cs, h1, h2⟩
      have h1 : cs = [.int i k] := h1
      subst h1; exact h2
    · intro h; exact ⟨[.int i k], rfl, h⟩
  | .bool, _, k, u => by
    constructor
    · rintro ⟨cs, h1, h2⟩
      have h1 : cs = [.bool k] := h1
      subst h1; exact h2
    · intro h; exact ⟨[.bool k], rfl, h⟩
  | .str, _, k, u => by
    constructor
    · rintro ⟨cs, h1, h2⟩
      have h1 : cs = [.string k] := h1
      subst h1; exact h2
    · intro h; exact ⟨[.string k], rfl, h⟩
  | .prod (.int i) (.prod .str .unit), _, k, u => by
    constructor
    · rintro ⟨cs, ⟨c1, c2, rfl, h1, c3, c4, rfl, h2, h3⟩, h4⟩
      have h1 : c1 = [.int i k.1] := h1
      have h2 : c3 = [.string k.2.1] := h2
      have h3 : c4 = [] := h3
      subst h1 h2 h3
      exact h4
    · intro h
      exact ⟨[.int i k.1, .string k.2.1], ⟨[.int i k.1], [.string k.2.1], rfl, rfl, [.string k.2.1], [], rfl, rfl, rfl⟩, h⟩

theorem keyVal_inj : ∀ {kt : Ty}, keyTy kt = true → ∀ {x y : kt.D}, keyVal kt x = keyVal kt y → x = y
  | .int i, _, x, y, h => by cases h; rfl
  | .bool, _, x, y, h => by cases h; rfl
  | .str, _, x, y, h => by cases h; rfl
  | .prod (.int i) (.prod .str .unit), _, x, y, h => by
    obtain ⟨x1, x2, _⟩ := x
    obtain ⟨y1, y2, _⟩ := y
    simp only [keyVal, Value.agg.injEq] at h
    have := congrArg Array.toList h
    simp at this
    obtain ⟨h1, h2⟩ := this
    subst h1 h2
    rfl

theorem bytes_iff (a b : ByteArray) : (a == b) = true ↔ a = b := by
  exact MapKept.bytes_beq a b
theorem beq_iff : ∀ {kt : Ty}, keyTy kt = true → ∀ {x y : kt.D}, kt.beq x y = true ↔ x = y
  | .int i, _, x, y => by
    show ((show Int from x) == (show Int from y)) = true ↔ _
    rw [beq_iff_eq]
  | .bool, _, x, y => by
    show ((show Bool from x) == (show Bool from y)) = true ↔ _
    rw [beq_iff_eq]
  | .str, _, x, y => by
    show ((show ByteArray from x) == (show ByteArray from y)) = true ↔ _
    exact bytes_iff _ _
  | .prod (.int i) (.prod .str .unit), _, x, y => by
    obtain ⟨x1, x2, x3⟩ := x
    obtain ⟨y1, y2, y3⟩ := y
    show (((show Int from x1) == (show Int from y1)) && (((show ByteArray from x2) == (show ByteArray from y2)) && true)) = true ↔ _
    rw [Bool.and_true, Bool.and_eq_true, beq_iff_eq, bytes_iff, Prod.mk.injEq, Prod.mk.injEq]
    exact ⟨fun h => ⟨h.1, h.2, rfl⟩, fun h => ⟨h.1, h.2.1⟩⟩

/-- What the program's type of a key is. -/
def KeyT (P : Program) (kt : Ty) (t : Nat) : Prop := ∃ i d, TIok P t i ∧ i.ty = some kt ∧ i.d = d ∧ dTy d kt = true

section
variable {P : Program} {w : World}

theorem struct_key {k : IntKind} {t : Nat} (h : KeyT P (.prod (.int k) (.prod .str .unit)) t) :
    ∃ (f1 f2 : Field) (fs : Array Field), P.underlying t = some (.struct fs) ∧ fs.toList = [f1, f2] ∧ f1.offset = 0 ∧ f2.offset = 1 ∧ f1.name ≠ "_" ∧ f2.name ≠ "_" ∧
      P.underlying f1.type = some (.int k) ∧ P.underlying f2.type = some .string ∧ cmpG P (.prod (.int k) (.prod .str .unit)) none t = true := by
  obtain ⟨i, d, h1, h2, h3, h4⟩ := h
  have hc := h1.cmp _ h2 rfl
  simp only [cmpB, Bool.and_eq_true] at hc
  have hc0 := hc.1
  have hc := hc.1
  simp only [cmpG] at hc
  split at hc
  · rename_i fs hu
    simp only [Bool.and_eq_true] at hc
    obtain ⟨_, hc⟩ := hc
    split at hc
    · rename_i f1 rest hfs
      simp only [Bool.and_eq_true, decide_eq_true_eq] at hc
      obtain ⟨⟨⟨⟨a1, a2⟩, a3⟩, a4⟩, a5⟩ := hc
      split at a4
      · rename_i k' hu1
        simp only [decide_eq_true_eq] at a4
        subst a4
        cases rest with
        | nil => simp [cmpG] at a5
        | cons f2 rest =>
          simp only [cmpG, Bool.and_eq_true, decide_eq_true_eq] at a5
          obtain ⟨⟨⟨⟨b1, b2⟩, b3⟩, b4⟩, b5⟩ := a5
          split at b4
          · rename_i hu2
            cases rest with
            | cons f3 rest => simp [cmpG] at b5
            | nil => exact ⟨f1, f2, fs, hu, hfs, a1, by simpa [Ty.size] using b1, bne_of a2, bne_of b2, hu1, hu2, hc0⟩
          · cases b4
      · cases a4
    · cases hc
  · cases hc

/-- Keys of one cell. -/
def OneKey (P : Program) (kt : Ty) (t : Nat) : Prop := ∃ d, P.underlying t = some d ∧ ∀ k, IsKey d (keyVal kt k)
theorem key_int {k : IntKind} {t : Nat} (h : KeyT P (.int k) t) : OneKey P (.int k) t := by
  obtain ⟨i, d, h1, h2, h3, h4⟩ := h
  subst h3
  have : i.d = .int k := by
    cases hd : i.d <;> rw [hd] at h4 <;> simp [dTy] at h4
    rw [h4]
  exact ⟨_, h1.int this, fun x => (rfl : k = k)⟩
theorem key_bool {t : Nat} (h : KeyT P .bool t) : OneKey P .bool t := by
  obtain ⟨i, d, h1, h2, h3, h4⟩ := h
  subst h3
  have : i.d = .bool := by
    cases hd : i.d <;> rw [hd] at h4 <;> simp [dTy] at h4
  exact ⟨_, h1.bool this, fun x => True.intro⟩
theorem key_str {t : Nat} (h : KeyT P .str t) : OneKey P .str t := by
  obtain ⟨i, d, h1, h2, h3, h4⟩ := h
  subst h3
  have : i.d = .str := by
    cases hd : i.d <;> rw [hd] at h4 <;> simp [dTy] at h4
  exact ⟨_, h1.str this, fun x => True.intro⟩
theorem key_kinds {kt : Ty} {t : Nat} (h : KeyT P kt t) (hk : keyTy kt = true) : OneKey P kt t ∨ ∃ k, kt = .prod (.int k) (.prod .str .unit) := by
  cases kt with
  | int k => exact .inl (key_int h)
  | bool => exact .inl (key_bool h)
  | str => exact .inl (key_str h)
  | unit => cases hk
  | slice t => cases hk
  | prod a b =>
    right
    cases a with
    | int k =>
      cases b with
      | prod c d =>
        cases c with
        | str =>
          cases d with
          | unit => exact ⟨k, rfl⟩
          | _ => cases hk
        | _ => cases hk
      | _ => cases hk
    | _ => cases hk

theorem run_check {kt : Ty} {t : Nat} (h : KeyT P kt t) (hk : keyTy kt = true) (k : kt.D) (e : Bool) : (Instr.checkKey e 10000 t (keyVal kt k)).run P w = .ok () w := by
  rcases key_kinds h hk with ⟨d, h1, h2⟩ | ⟨ik, rfl⟩
  · exact run_checkKey h1 (h2 k) e 9999
  · obtain ⟨f1, f2, fs, h1, h2, h3, h4, h5, h6, h7, h8, _⟩ := struct_key h
    have a1 : (Instr.checkKey e 9999 f1.type (.int ik k.1)).run P w = .ok () w := run_checkKey h7 (show IsKey (.int ik) (.int ik k.1) from (rfl : ik = ik)) e 9998
    have a2 : (Instr.checkKey e 9999 f2.type (.string k.2.1)).run P w = .ok () w := run_checkKey h8 (show IsKey .string (.string k.2.1) from True.intro) e 9998
    have p1 : (Go.isAgg f1.type).run P w = .ok false w := by simp [Go.isAgg, run_underlying h7, go_sem]
    have p2 : (Go.isAgg f2.type).run P w = .ok false w := by simp [Go.isAgg, run_underlying h8, go_sem]
    have hfs : fs = #[f1, f2] := by apply Array.ext'; simpa using h2
    subst hfs
    have e1 : (part f1.type #[.int ik k.1, .string k.2.1] f1.offset).run P w = .ok (.int ik k.1) w := by simp [part, h3, p1, go_sem, Result.andThen]
    have e2 : (part f2.type #[.int ik k.1, .string k.2.1] f2.offset).run P w = .ok (.string k.2.1) w := by simp [part, h4, p2, go_sem, Result.andThen]
    show (Instr.checkKey e (9999 + 1) t (.agg #[.int ik k.1, .string k.2.1])).run P w = .ok () w
    unfold Instr.checkKey
    simp only [Sem.run_bind, run_underlying h1, Result.andThen]
    simp [go_sem, h5, h6, h3, h4, p1, p2, a1, a2, Result.andThen]

/-- Two keys: are they the same? -/
theorem run_keyEq {ik : IntKind} {t : Nat} (h : KeyT P (.prod (.int ik) (.prod .str .unit)) t) (x y : (Ty.prod (.int ik) (.prod .str .unit)).D) :
    (Op.equal t (keyVal (.prod (.int ik) (.prod .str .unit)) x) (keyVal (.prod (.int ik) (.prod .str .unit)) y)).run P w = .ok ((Ty.prod (.int ik) (.prod .str .unit)).beq x y) w := by
  obtain ⟨f1, f2, fs, h1, h2, h3, h4, h5, h6, h7, h8, hc⟩ := struct_key h
  have rd : ∀ z : (Ty.prod (.int ik) (.prod .str .unit)).D, RD w (fun _ => False) (.prod (.int ik) (.prod .str .unit)) z [.int ik z.1, .string z.2.1] :=
    fun z => ⟨[.int ik z.1], [.string z.2.1], rfl, rfl, [.string z.2.1], [], rfl, rfl, rfl⟩
  exact equal_ty (P := P) (w := w) Op.maxDepth (.prod (.int ik) (.prod .str .unit)) t x y _ _ (by simp [Ty.depth, Op.maxDepth]) hc (rd x) (rd y)

theorem run_asking {ik : IntKind} {t : Nat} (h : KeyT P (.prod (.int ik) (.prod .str .unit)) t) (k : (Ty.prod (.int ik) (.prod .str .unit)).D) : ∀ (l : List MapEntry) (i : Nat), (∀ e ∈ l, ∃ k', e.key = keyVal (.prod (.int ik) (.prod .str .unit)) k') →
    ∃ res, (Instr.findAsking t (keyVal (.prod (.int ik) (.prod .str .unit)) k) l i).run P w = .ok res w ∧
      ((res = none ∧ ∀ e ∈ l, e.key ≠ keyVal (.prod (.int ik) (.prod .str .unit)) k) ∨ ∃ j e, l[j]? = some e ∧ e.key = keyVal (.prod (.int ik) (.prod .str .unit)) k ∧ res = some (i + j, e.val))
  | [], i, _ => ⟨none, rfl, .inl ⟨rfl, fun e he => by cases he⟩⟩
  | e :: l, i, hl => by
    obtain ⟨k', hk'⟩ := hl e List.mem_cons_self
    have hq := run_keyEq (w := w) h k k'
    rw [← hk'] at hq
    cases hb : (Ty.prod (.int ik) (.prod .str .unit)).beq k k' with
    | true =>
      rw [hb] at hq
      refine ⟨some (i, e.val), by simp [Instr.findAsking, hq, Result.andThen, go_sem], .inr ⟨0, e, rfl, ?_, rfl⟩⟩
      rw [hk', (beq_iff rfl).1 hb]
    | false =>
      rw [hb] at hq
      obtain ⟨res, h1, h2⟩ := run_asking h k l (i + 1) fun e' he' => hl e' (List.mem_cons_of_mem _ he')
      have hne : e.key ≠ keyVal (.prod (.int ik) (.prod .str .unit)) k := by
        rw [hk']
        intro he
        have := keyVal_inj (kt := .prod (.int ik) (.prod .str .unit)) rfl he
        rw [(beq_iff (kt := .prod (.int ik) (.prod .str .unit)) rfl).2 this.symm] at hb
        cases hb
      refine ⟨res, by simp [Instr.findAsking, hq, Result.andThen, go_sem, h1], ?_⟩
      rcases h2 with ⟨h2, h3⟩ | ⟨j, e', g1, g2, g3⟩
      · refine .inl ⟨h2, fun x hx => ?_⟩
        rcases List.mem_cons.1 hx with rfl | hx
        · exact hne
        · exact h3 x hx
      · exact .inr ⟨j + 1, e', by simpa using g1, g2, by rw [g3, show i + 1 + j = i + (j + 1) by omega]⟩

theorem run_find {kt : Ty} {t : Nat} (h : KeyT P kt t) (hk : keyTy kt = true) (k : kt.D) (l : List MapEntry) (hl : ∀ e ∈ l, ∃ k', e.key = keyVal kt k') :
    ∃ res, (Instr.findKey t (keyVal kt k) l).run P w = .ok res w ∧ ((res = none ∧ ∀ e ∈ l, e.key ≠ keyVal kt k) ∨ ∃ j e, l[j]? = some e ∧ e.key = keyVal kt k ∧ res = some (j, e.val)) := by
  rcases key_kinds h hk with ⟨d, h1, h2⟩ | ⟨ik, rfl⟩
  · rcases findNow_spec (h2 k) l 0 (fun x hx => by obtain ⟨k', e⟩ := hl x hx; rw [e]; exact h2 k') with ⟨g1, g2⟩ | ⟨j, e, g1, g2, g3⟩
    · exact ⟨none, run_findKey h1 g1, .inl ⟨rfl, g2⟩⟩
    · exact ⟨_, run_findKey h1 g1, .inr ⟨j, e, g2, g3, by simp⟩⟩
  · obtain ⟨f1, f2, fs, h1, _⟩ := struct_key h
    cases l with
    | nil => exact ⟨none, by simp [Instr.findKey, run_underlying h1, Instr.findNow, Result.andThen], .inl ⟨rfl, fun e he => by cases he⟩⟩
    | cons e l =>
      obtain ⟨res, g1, g2⟩ := run_asking (w := w) h k (e :: l) 0 hl
      refine ⟨res, ?_, ?_⟩
      · obtain ⟨k', hk'⟩ := hl e List.mem_cons_self
        have hn : Instr.findNow (.struct fs) (keyVal (.prod (.int ik) (.prod .str .unit)) k) (e :: l) 0 = none := by
          simp [Instr.findNow, Instr.sameNow]
        simp only [Instr.findKey, Sem.run_bind, run_underlying h1, Result.andThen, hn]
        exact g1
      · rcases g2 with g2 | ⟨j, e', q1, q2, q3⟩
        · exact .inl g2
        · exact .inr ⟨j, e', q1, q2, by rw [q3]; simp⟩

theorem run_stays : ∀ {kt : Ty}, keyTy kt = true → ∀ (k : kt.D), (Instr.keyThatStays (keyVal kt k) (keyVal kt k)).run P w = .ok (keyVal kt k) w := by
  intro kt hk k
  have hs : Instr.sameBits 10000 (keyVal kt k) (keyVal kt k) = true := by
    cases kt with
    | int i => simp [keyVal, Instr.sameBits]
    | bool => simp [keyVal, Instr.sameBits]
    | str => simp only [keyVal, Instr.sameBits]; exact (bytes_iff _ _).2 rfl
    | unit => cases hk
    | slice t => cases hk
    | prod a b =>
      cases a with
      | int i =>
        cases b with
        | prod c d =>
          cases c with
          | str =>
            cases d with
            | unit =>
              have e : ∀ s : ByteArray, (s == s) = true := fun s => (bytes_iff _ _).2 rfl
              simp [keyVal, Instr.sameBits, e]
            | _ => cases hk
          | _ => cases hk
        | _ => cases hk
      | _ => cases hk
  simp [Instr.keyThatStays, hs]
end
end Go.Proofs.Ytecnlienmpdlaaa.PM
