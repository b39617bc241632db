/- The small machine PM against the model: what it means that plain values, rows and slots stand for values and memory of the model. -/
import Derived.Test.YtecnlienmpdlaaaPmC
import Derived.Below
import Derived.DataElems
import Derived.WalkKit
import Derived.Laws.Slices
import Derived.Laws.AppendOwn
namespace Go.Proofs.Ytecnlienmpdlaaa.PM
open Go

/-- Cells in line from an address on. -/
def CellsAt (w : World) (a : Addr) (es : List Value) : Prop := ∀ j v, es[j]? = some v → w.cell? (a.add j) = some v

/-- These cells read as a plain value; S: the blocks that may be looked into. -/
def RD (w : World) (S : Nat → Prop) : (t : Ty) → t.D → List Value → Prop
  | .int k, x, cs => cs = [.int k x]
  | .bool, x, cs => cs = [.bool x]
  | .str, x, cs => cs = [.string x]
  | .unit, _, cs => cs = []
  | .slice t, l, cs => ∃ A c, cs = [.slice A l.length c] ∧ l.length ≤ c ∧
      (l ≠ [] → ∃ ad : Addr, A = some ad ∧ S ad.block ∧ ∀ i x, l[i]? = some x → ∃ es, RD w S t x es ∧ CellsAt w (ad.add (i * t.size)) es)
  | .prod a b, x, cs => ∃ c1 c2, cs = c1 ++ c2 ∧ RD w S a x.1 c1 ∧ RD w S b x.2 c2

theorem RD_len {w : World} {S : Nat → Prop} : ∀ {t : Ty} {x : t.D} {cs : List Value}, RD w S t x cs → cs.length = t.size := by
  intro t
  induction t with
  | int k => intro x cs h; simp only [RD] at h; subst h; rfl
  | bool => intro x cs h; simp only [RD] at h; subst h; rfl
  | str => intro x cs h; simp only [RD] at h; subst h; rfl
  | unit => intro x cs h; simp only [RD] at h; subst h; rfl
  | slice t _ => intro x cs h; obtain ⟨A, c, rfl, _⟩ := h; rfl
  | prod a b iha ihb =>
    intro x cs h
    obtain ⟨c1, c2, rfl, h1, h2⟩ := h
    rw [List.length_append, iha h1, ihb h2]; rfl

theorem RD_one {w : World} {S : Nat → Prop} : ∀ {t : Ty} {x : t.D} {cs : List Value}, RD w S t x cs → ∀ v ∈ cs, v.oneCell' = true := by
  intro t
  induction t with
  | int k => intro x cs h; simp only [RD] at h; subst h; simp [Value.oneCell']
  | bool => intro x cs h; simp only [RD] at h; subst h; simp [Value.oneCell']
  | str => intro x cs h; simp only [RD] at h; subst h; simp [Value.oneCell']
  | unit => intro x cs h; simp only [RD] at h; subst h; simp
  | slice t _ => intro x cs h; obtain ⟨A, c, rfl, _⟩ := h; simp [Value.oneCell']
  | prod a b iha ihb =>
    intro x cs h v hv
    obtain ⟨c1, c2, rfl, h1, h2⟩ := h
    rcases List.mem_append.1 hv with hv | hv
    · exact iha h1 v hv
    · exact ihb h2 v hv

theorem block_add (a : Addr) (n : Nat) : (a.add n).block = a.block := by unfold Addr.add; split <;> rfl

theorem cell_same {w w' : World} {a : Addr} (h : w'.heap[a.block]? = w.heap[a.block]?) : w'.cell? a = w.cell? a := by simp [World.cell?, h]

theorem CellsAt.same {w w' : World} {a : Addr} {es : List Value} (h : CellsAt w a es) (hb : w'.heap[a.block]? = w.heap[a.block]?) : CellsAt w' a es :=
  fun j v hj => (cell_same (by rw [block_add]; exact hb)).trans (h j v hj)

/-- Other memory, the same in the blocks that are looked into; and more blocks may be looked into. -/
theorem RD_frame {w w' : World} {S S' : Nat → Prop} (hS : ∀ b, S b → S' b) (hw : ∀ b, S b → w'.heap[b]? = w.heap[b]?) :
    ∀ {t : Ty} {x : t.D} {cs : List Value}, RD w S t x cs → RD w' S' t x cs := by
  intro t
  induction t with
  | int k => intro x cs h; exact h
  | bool => intro x cs h; exact h
  | str => intro x cs h; exact h
  | unit => intro x cs h; exact h
  | slice t ih =>
    intro x cs h
    obtain ⟨A, c, h1, h2, h3⟩ := h
    refine ⟨A, c, h1, h2, fun hne => ?_⟩
    obtain ⟨ad, e, hs, hc⟩ := h3 hne
    refine ⟨ad, e, hS _ hs, fun i y hy => ?_⟩
    obtain ⟨es, g1, g2⟩ := hc i y hy
    exact ⟨es, ih g1, g2.same (by rw [block_add]; exact hw _ hs)⟩
  | prod a b iha ihb =>
    intro x cs h
    obtain ⟨c1, c2, h0, h1, h2⟩ := h
    exact ⟨c1, c2, h0, iha h1, ihb h2⟩

/-! ### states -/
structure Pl where
  loc : Nat → Option (Nat × Nat)
  Z : Nat → Prop
  L : Nat → Prop
  /-- Blocks that a map holds hidden. -/
  hid : Nat → Nat → Prop

/-- A row holds a block. -/
def Pl.at (pl : Pl) (r b o : Nat) : Prop := pl.loc r = some (b, o) ∨ pl.hid r b

def RowS.live (s : RowS) : Prop := s.row ≠ .gone

/-- A block that values with this provenance may look into. -/
def Safe (w : World) (pl : Pl) (rows : Rows) (p : Prov) (b : Nat) : Prop :=
  b < w.heap.size ∧ (pl.Z b → pl.L b ∧ ∃ q ∈ p, q.1 = 0) ∧ ∀ r s o, rows r = some s → s.live → pl.at r b o → ∃ q ∈ p, q.1 = r

/-- A slice of n elements of a row, from one on. -/
def SliceOf (w : World) (pl : Pl) (r sz off n : Nat) (v : Value) : Prop :=
  ∃ A c, v = .slice A n c ∧ n ≤ c ∧ (0 < c → ∃ b o, pl.loc r = some (b, o) ∧ A = some ⟨b, o + off * sz, none⟩ ∧
    ∃ (arr : Array Value) (T : TypeId) (fr : Nat × Nat), w.heap[b]? = some (Obj.cells arr T fr) ∧ o + (off + c) * sz ≤ arr.size ∧ c ≤ 9223372036854775807)

mutual
def VR (w : World) (pl : Pl) (rows : Rows) : PV → Value → Prop
  | .val p t x, v => RD w (Safe w pl rows p) t x [v]
  | .nils, v => v = .slice none 0 0
  | .nilp, v => v = .pointer none
  | .lit u, v => v = u ∧ u.oneCell' = true
  | .und, v => v = undef
  | .rw r, v => (v.oneCell' = true ∧ ∀ n p kt vt bx l tk, rows r = some ⟨n, .mp 0 p kt vt bx l tk⟩ → ∃ b, pl.loc r = some (b, 0) ∧ v = .map (some b)) ∧ ∀ n p t l, rows r = some ⟨n, .arr p t l⟩ → SliceOf w pl r t.size 0 l.length v
  | .rs r off len, v => v.oneCell' = true ∧ ∀ n p t l, rows r = some ⟨n, .arr p t l⟩ → off + len ≤ l.length ∧ SliceOf w pl r t.size off len v
  | .ptr r off, v => (v.oneCell' = true ∧ (∃ ad : Addr, v = .pointer (some ad)) ∧ ∀ n i p kt vt bx l tk, rows r = some ⟨n, .mp (i + 1) p kt vt bx l tk⟩ → ∃ b, pl.loc r = some (b, 0) ∧ v = .pointer (some ⟨b, off, none⟩)) ∧ ∀ n l, rows r = some ⟨n, .vars l⟩ → ∃ b, pl.loc r = some (b, 0) ∧ v = .pointer (some ⟨b, off, none⟩)
  | .pel r i off, v => (v.oneCell' = true ∧ ∃ ad : Addr, v = .pointer (some ad)) ∧ ∀ n p t l, rows r = some ⟨n, .arr p t l⟩ → i < l.length ∧ ∃ b o, pl.loc r = some (b, o) ∧ v = .pointer (some ⟨b, o + i * t.size + off, none⟩)
  | .pvl p t l i off, v => ∃ x es, l[i]? = some x ∧ RD w (Safe w pl rows p) t x es ∧ ∃ ad : Addr, v = .pointer (some (ad.add off)) ∧ Safe w pl rows p ad.block ∧ CellsAt w ad es
  | .fn f caps, v => ∃ cs : Array Value, v = .func (.func f) #[] cs ∧ VRs w pl rows caps cs.toList
  | .agg l, v => ∃ cs : Array Value, v = .agg cs ∧ VRs w pl rows l cs.toList ∧ ∀ u ∈ cs.toList, u.oneCell' = true
  | .tup l, v => ∃ (cs : Array Value) (us es : List Value), v = .tuple cs ∧ cs.toList = us ++ es ∧ VRs w pl rows l us
def VRs (w : World) (pl : Pl) (rows : Rows) : List PV → List Value → Prop
  | [], vs => vs = []
  | x :: xs, vs => ∃ u us, vs = u :: us ∧ VR w pl rows x u ∧ VRs w pl rows xs us
end


/-- Neither variables nor a map. -/
def Row.plain : Row → Prop
  | .vars _ => False
  | .mp _ _ _ _ _ _ _ => False
  | _ => True

/-- What a provenance names is there, is no variable, and no younger than now. -/
def ProvIn (rows : Rows) (p : Prov) : Prop := ∀ q ∈ p, q.1 = 0 ∨ ∃ s, rows q.1 = some s ∧ (q.2 ≤ s.ver ∨ s.row = .gone) ∧ s.row.plain

mutual
def Men (rows : Rows) : PV → Prop
  | .val p _ _ => ProvIn rows p
  | .pvl p _ _ _ _ => ProvIn rows p
  | .rw r => rows r ≠ none
  | .rs r _ _ => rows r ≠ none
  | .ptr r _ => rows r ≠ none
  | .pel r _ _ => rows r ≠ none
  | .fn _ l => Mens rows l
  | .agg l => Mens rows l
  | .tup l => Mens rows l
  | _ => True
def Mens (rows : Rows) : List PV → Prop
  | [] => True
  | v :: l => Men rows v ∧ Mens rows l
end

def Unfrozen (fr : Nat × Nat) (n : Nat) : Prop := fr.1 = fr.2 ∨ n ≤ fr.1
/-- Only rows of bytes bear the mark of a conversion. -/
def UnfrozenT (t : Ty) (fr : Nat × Nat) (n : Nat) : Prop := fr.1 = fr.2 ∨ (t = .int .u8 ∧ n ≤ fr.1)
theorem UnfrozenT.un {t : Ty} {fr : Nat × Nat} {n : Nat} (h : UnfrozenT t fr n) : Unfrozen fr n := h.imp id fun h => h.2

/-! ### maps -/
noncomputable def valAg (ty : Ty) (cs : List Value) : Value := match ty with
  | .prod _ _ | .unit => .agg cs.toArray
  | _ => cs.headD undef

/-- A row's list in memory (loc: where; ok: what it hangs on stands). -/
def ArrAt (w : World) (S : Nat → Prop) (loc : Option (Nat × Nat)) (ok : Prop) (t : Ty) (l : List t.D) : Prop := match loc with
  | none => l = []
  | some (b, o) => ∃ (arr : Array Value) (T : TypeId) (fr : Nat × Nat), w.heap[b]? = some (Obj.cells arr T fr) ∧ o + l.length * t.size ≤ arr.size ∧ UnfrozenT t fr arr.size ∧
      (ok → ∀ (i : Nat) (x : t.D), l[i]? = some x → ∃ es, RD w S t x es ∧ CellsAt w ⟨b, o + i * t.size, none⟩ es)
/-- A slice of n elements, from one on, of what lies there. -/
def SlAt (w : World) (loc : Option (Nat × Nat)) (sz off n : Nat) (v : Value) : Prop :=
  ∃ A c, v = .slice A n c ∧ n ≤ c ∧ (0 < c → ∃ b o, loc = some (b, o) ∧ A = some ⟨b, o + off * sz, none⟩ ∧
    ∃ (arr : Array Value) (T : TypeId) (fr : Nat × Nat), w.heap[b]? = some (Obj.cells arr T fr) ∧ o + (off + c) * sz ≤ arr.size ∧ c ≤ 9223372036854775807)

/-- Cells that hold plain data, slices in memory of their own (the blocks bs). -/
def FldR (w : World) (S : Nat → Prop) (ok : Prop) : (t : Ty) → t.D → List Value → List Nat → Prop
  | .slice t, l, cs, bs => ∃ u loc, cs = [u] ∧ u.oneCell' = true ∧ ArrAt w S loc ok t l ∧ SlAt w loc t.size 0 l.length u ∧ bs = (loc.map (·.1)).toList
  | .prod a b, x, cs, bs => ∃ c1 c2 b1 b2, cs = c1 ++ c2 ∧ bs = b1 ++ b2 ∧ FldR w S ok a x.1 c1 b1 ∧ FldR w S ok b x.2 c2 b2
  | t, x, cs, bs => bs = [] ∧ RD w (fun _ => False) t x cs
/-- A map's value: such cells, or a pointer to them. -/
def HV (w : World) (S : Nat → Prop) (ok : Prop) (bx : Bool) (t : Ty) (x : t.D) (u : Value) (bs : List Nat) : Prop := match bx with
  | false => FldR w S ok t x [u] bs
  | true => ∃ (b : Nat) (bs' : List Nat) (arr : Array Value) (T : TypeId) (fr : Nat × Nat), u = .pointer (some ⟨b, 0, none⟩) ∧ bs = b :: bs' ∧ w.heap[b]? = some (Obj.cells arr T fr) ∧ Unfrozen fr arr.size ∧
      (∀ v ∈ arr.toList, v.oneCell' = true) ∧ FldR w S ok t x arr.toList bs'
def KeyR (w : World) (kt : Ty) (k : kt.D) (u : Value) : Prop := ∃ cs, RD w (fun _ => False) kt k cs ∧ u = valAg kt cs
def Ents (w : World) (S : Nat → Prop) (ok : Prop) (kt vt : Ty) (bx : Bool) : List (kt.D × vt.D) → List MapEntry → List Nat → Prop
  | [], es, bs => es = [] ∧ bs = []
  | (k, v) :: l, es, bs => ∃ e es' b1 b2, es = e :: es' ∧ bs = b1 ++ b2 ∧ KeyR w kt k e.key ∧ HV w S ok bx vt v e.val b1 ∧ Ents w S ok kt vt bx l es' b2
noncomputable def tkPV (bx : Bool) (r : Nat) : PV := if bx then .ptr r 0 else .rw r
/-- The entry that was taken out. -/
def Taken (w : World) (pl : Pl) (rows : Rows) (kt : Ty) (bx : Bool) (tk : Option (kt.D × Nat)) (st : List MapEntry) : Prop := match tk with
  | none => st = []
  | some (k, r) => Men rows (tkPV bx r) ∧ ((bx = false ∧ st = []) ∨ ∃ e, st = [e] ∧ KeyR w kt k e.key ∧ VR w pl rows (tkPV bx r) e.val)
def keysOf {kt vt : Ty} (l : List (kt.D × vt.D)) (tk : Option (kt.D × Nat)) : List kt.D := l.map (·.1) ++ (tk.map (·.1)).toList
def notSeen (es : Array MapEntry) (seen : Array Nat) : Array MapEntry := es.filter fun e => !seen.contains e.born
/-- A map's block, and that of what goes over it. -/
def MapAt (w : World) (pl : Pl) (r : Nat) (it : Nat) (b : Nat) (es1 st : List MapEntry) : Prop := match it with
  | 0 => ∃ es clock, w.heap[b]? = some (Obj.map es clock) ∧ es.toList.Perm (es1 ++ st) ∧ (∀ e ∈ es.toList, e.born < clock) ∧ (es.toList.map (·.born)).Nodup
  | n + 1 => st = [] ∧ ∃ bm es clock seen, w.heap[b]? = some (Obj.mapIter (some bm) clock seen clock) ∧ pl.hid r bm ∧ w.heap[bm]? = some (Obj.map es clock) ∧ (∀ e ∈ es.toList, e.born < clock) ∧ (es.toList.map (·.born)).Nodup ∧
      (match n with
        | 0 => (notSeen es seen).toList.Perm es1
        | _ + 1 => (es1 = [] ∧ (notSeen es seen).toList = []) ∨ ∃ c rest, es1 = c :: rest ∧ (notSeen es seen).toList.Perm rest ∧ c ∈ es.toList ∧ ∃ seen0 : Array Nat, seen = seen0.push c.born)

def RowR (w : World) (pl : Pl) (rows : Rows) (r : Nat) (s : RowS) : Prop := match s.row with
  | .gone => True
  | .mp it p kt vt bx l tk => ProvIn rows p ∧ keyTy kt = true ∧ ∃ b es1 st bs, pl.loc r = some (b, 0) ∧ MapAt w pl r it b es1 st ∧ Ents w (Safe w pl rows p) (okProv rows p = true) kt vt bx l es1 bs ∧
      Taken w pl rows kt bx tk st ∧ (keysOf l tk).Nodup ∧ bs.Nodup ∧ (∀ x ∈ bs, pl.hid r x)
  | .arr p t l => ProvIn rows p ∧ (match pl.loc r with
    | none => l = []
    | some (b, o) => ∃ (arr : Array Value) (T : TypeId) (fr : Nat × Nat), w.heap[b]? = some (Obj.cells arr T fr) ∧ o + l.length * t.size ≤ arr.size ∧ UnfrozenT t fr arr.size ∧
      (okProv rows p = true → ∀ (i : Nat) (x : t.D), l[i]? = some x → ∃ es, RD w (Safe w pl rows p) t x es ∧ CellsAt w ⟨b, o + i * t.size, none⟩ es))
  | .vars l => Mens rows l ∧ ∃ (b : Nat) (arr : Array Value) (T : TypeId) (fr : Nat × Nat), pl.loc r = some (b, 0) ∧ w.heap[b]? = some (Obj.cells arr T fr) ∧ arr.size = l.length ∧ Unfrozen fr arr.size ∧
      ∀ (j : Nat) (x : PV), l[j]? = some x → ∃ v, arr[j]? = some v ∧ v.oneCell' = true ∧ (okPV rows x = true → VR w pl rows x v)

structure Rel (B : Nat) (G : Nat → Prop) (pl : Pl) (σ : St) (a : Act) (w : World) : Prop where
  env : ∀ s v, σ.env s = some v → s < a.tmps.size ∧ Men σ.rows v ∧ (okPV σ.rows v = true → VR w pl σ.rows v (a.tmps.getD s undef))
  rows : ∀ r s, σ.rows r = some s → RowR w pl σ.rows r s
  zero : σ.rows 0 = none
  inj : ∀ r r' s s' b o o', σ.rows r = some s → s.live → σ.rows r' = some s' → s'.live → pl.at r b o → pl.at r' b o' → r = r'
  own : ∀ r s b o, σ.rows r = some s → s.live → pl.at r b o → b < w.heap.size ∧ ¬ pl.Z b ∧ (B ≤ b ∨ G b)
  defers : a.defers = []

/-! ### from one state to the next -/
/-- What may become of a row. -/
def Kin (s s' : RowS) : Prop := s.ver ≤ s'.ver ∧ (s' = s ∨ (s'.row = .gone ∧ ∀ l, s.row ≠ .vars l) ∨
  (∃ p p' t l l', s.row = .arr p t l ∧ s'.row = .arr p' t l' ∧ l'.length = l.length ∧ s.ver < s'.ver) ∨
  (∃ l l', s.row = .vars l ∧ s'.row = .vars l' ∧ l'.length = l.length ∧ s.ver < s'.ver) ∨
  (∃ it it' p p' kt vt bx l l' tk tk', s.row = .mp it p kt vt bx l tk ∧ s'.row = .mp it' p' kt vt bx l' tk' ∧ (it = 0 ↔ it' = 0) ∧ s.ver < s'.ver))

structure Step (w : World) (pl : Pl) (rows : Rows) (w' : World) (pl' : Pl) (rows' : Rows) : Prop where
  z : pl'.Z = pl.Z
  l : pl'.L = pl.L
  size : w.heap.size ≤ w'.heap.size
  kin : ∀ r s, rows r = some s → ∃ s', rows' r = some s' ∧ Kin s s' ∧ (s'.live → pl'.loc r = pl.loc r)
  hid : ∀ r s, rows r = some s → rows' r = some s → s.live → pl'.hid r = pl.hid r
  fresh : ∀ r s', rows' r = some s' → s'.live → ∀ b o, pl'.at r b o → (∃ s o', rows r = some s ∧ s.live ∧ pl.at r b o') ∨
    w.heap.size ≤ b ∨ ∃ r0 s0 s1 o0, rows r0 = some s0 ∧ s0.live ∧ rows' r0 = some s1 ∧ s1 ≠ s0 ∧ pl.at r0 b o0
  heap : ∀ b, b < w.heap.size → (∀ r s o, rows r = some s → s.live → pl.at r b o → rows' r = some s) → w'.heap[b]? = w.heap[b]?
  blk : ∀ (b : Nat) (arr : Array Value) (T : TypeId) (fr : Nat × Nat), w.heap[b]? = some (Obj.cells arr T fr) → ∃ (arr' : Array Value) (T' : TypeId) (fr' : Nat × Nat), w'.heap[b]? = some (Obj.cells arr' T' fr') ∧ arr'.size = arr.size
  zero : rows 0 = none

theorem okProv_at {rows : Rows} : ∀ {p : Prov}, okProv rows p = true → ∀ q ∈ p, ∀ s, rows q.1 = some s → s.live ∧ s.ver = q.2
  | [], _, _, hq, _, _ => by cases hq
  | (r, n) :: l, h, q, hq, s, hs => by
    simp only [okProv, Bool.and_eq_true] at h
    rcases List.mem_cons.1 hq with rfl | hq
    · rw [hs] at h
      obtain ⟨h1, _⟩ := h
      obtain ⟨ver, row⟩ := s
      cases row <;> simp at h1 <;> simp [RowS.live, h1]
    · exact okProv_at h.2 q hq s hs

theorem okProv_of {rows : Rows} : ∀ {p : Prov}, (∀ q ∈ p, ∀ s, rows q.1 = some s → s.live ∧ s.ver = q.2) → okProv rows p = true
  | [], _ => rfl
  | (r, n) :: l, h => by
    simp only [okProv, Bool.and_eq_true]
    refine ⟨?_, okProv_of fun q hq => h q (List.mem_cons_of_mem _ hq)⟩
    cases hs : rows r with
    | none => rfl
    | some s =>
      obtain ⟨h1, h2⟩ := h (r, n) List.mem_cons_self s hs
      obtain ⟨ver, row⟩ := s
      cases row <;> simp_all [RowS.live]

section
variable {w w' : World} {pl pl' : Pl} {rows rows' : Rows}

/-- A provenance that still holds: its rows are as they were. -/
theorem Step.kept (S : Step w pl rows w' pl' rows') {p : Prov} (hp : ProvIn rows p) (h : okProv rows' p = true) : ∀ q ∈ p, ∀ s, rows q.1 = some s → rows' q.1 = some s := by
  intro q hq s hs
  obtain ⟨s', hs', hk, _⟩ := S.kin _ _ hs
  obtain ⟨hl, hv⟩ := okProv_at h q hq s' hs'
  obtain ⟨s1, e1, e2, e3⟩ : ∃ s, rows q.1 = some s ∧ (q.2 ≤ s.ver ∨ s.row = .gone) ∧ s.row.plain := by
    rcases hp q hq with h0 | h1
    · rw [h0, S.zero] at hs; cases hs
    · exact h1
  rw [hs] at e1
  obtain rfl := Option.some.inj e1
  rcases hk.2 with rfl | ⟨hg, _⟩ | ⟨p1, p2, t, l, l', h1, h2, h3, h4⟩ | ⟨l, l', h1, _⟩ | ⟨_, _, _, _, _, _, _, _, _, _, _, h1, _⟩
  · exact hs'
  · exact absurd hg hl
  · rcases e2 with e2 | e2
    · omega
    · rw [e2] at h1; cases h1
  · rw [h1] at e3; exact e3.elim
  · rw [h1] at e3; exact e3.elim

theorem Step.okProv (S : Step w pl rows w' pl' rows') {p : Prov} (hp : ProvIn rows p) (h : okProv rows' p = true) : PM.okProv rows p = true :=
  okProv_of fun q hq s hs => okProv_at h q hq s (S.kept hp h q hq s hs)

theorem Step.safe (S : Step w pl rows w' pl' rows') {p : Prov} (hp : ProvIn rows p) (h : PM.okProv rows' p = true) {b : Nat} (hs : Safe w pl rows p b) :
    Safe w' pl' rows' p b ∧ w'.heap[b]? = w.heap[b]? := by
  obtain ⟨h1, h2, h3⟩ := hs
  refine ⟨⟨Nat.lt_of_lt_of_le h1 S.size, by rw [S.z, S.l]; exact h2, fun r s' o hr hl hloc => ?_⟩, ?_⟩
  · rcases S.fresh r s' hr hl b o hloc with ⟨s, o', g1, g2, g3⟩ | hge | ⟨r0, s0, s1, o0, g1, g2, g3, g4, g5⟩
    · exact h3 r s o' g1 g2 g3
    · omega
    · obtain ⟨q, hq, rfl⟩ := h3 r0 s0 o0 g1 g2 g5
      have := S.kept hp h q hq s0 g1
      rw [g3] at this
      exact absurd (Option.some.inj this) g4
  · refine S.heap b h1 fun r s o hr hl hloc => ?_
    obtain ⟨q, hq, rfl⟩ := h3 r s o hr hl hloc
    exact S.kept hp h q hq s hr

theorem Step.sliceOf (S : Step w pl rows w' pl' rows') {r sz off n : Nat} {v : Value} (hloc : pl'.loc r = pl.loc r) (h : SliceOf w pl r sz off n v) : SliceOf w' pl' r sz off n v := by
  obtain ⟨A, c, h1, h2, h3⟩ := h
  refine ⟨A, c, h1, h2, fun hc => ?_⟩
  obtain ⟨b, o, g1, g2, arr, T, fr, g3, g4⟩ := h3 hc
  obtain ⟨arr', T', fr', e1, e2⟩ := S.blk b arr T fr g3
  exact ⟨b, o, hloc.trans g1, g2, arr', T', fr', e1, by omega⟩

theorem Step.rd (S : Step w pl rows w' pl' rows') {p : Prov} (hp : ProvIn rows p) (h : PM.okProv rows' p = true) {t : Ty} {x : t.D} {cs : List Value}
    (hr : RD w (Safe w pl rows p) t x cs) : RD w' (Safe w' pl' rows' p) t x cs :=
  RD_frame (fun _ hb => (S.safe hp h hb).1) (fun _ hb => (S.safe hp h hb).2) hr

theorem Step.arr (S : Step w pl rows w' pl' rows') {r n : Nat} {p : Prov} {t : Ty} {l : List t.D} (hm : rows r ≠ none) (h : rows' r = some ⟨n, .arr p t l⟩) :
    ∃ n0 p0 l0, rows r = some ⟨n0, .arr p0 t l0⟩ ∧ l.length = l0.length ∧ pl'.loc r = pl.loc r := by
  obtain ⟨s, hs⟩ := Option.ne_none_iff_exists'.1 hm
  obtain ⟨s', e, hk, hloc⟩ := S.kin r s hs
  rw [h] at e
  obtain rfl := Option.some.inj e
  have hl := hloc (by simp [RowS.live])
  obtain ⟨n0, row⟩ := s
  rcases hk.2 with e | ⟨hg, _⟩ | ⟨p1, p2, t', l1, l2, e1, e2, e3, _⟩ | ⟨l1, l2, _, e1, _⟩ | ⟨_, _, _, _, _, _, _, _, _, _, _, _, e1, _⟩
  · cases e; exact ⟨n, p, l, hs, rfl, hl⟩
  · cases hg
  · simp only at e1 e2
    cases e2
    subst e1
    exact ⟨n0, p1, l1, hs, e3, hl⟩
  · cases e1
  · cases e1

theorem Step.vars (S : Step w pl rows w' pl' rows') {r n : Nat} {l : List PV} (hm : rows r ≠ none) (h : rows' r = some ⟨n, .vars l⟩) :
    ∃ n0 l0, rows r = some ⟨n0, .vars l0⟩ ∧ l.length = l0.length ∧ pl'.loc r = pl.loc r := by
  obtain ⟨s, hs⟩ := Option.ne_none_iff_exists'.1 hm
  obtain ⟨s', e, hk, hloc⟩ := S.kin r s hs
  rw [h] at e
  obtain rfl := Option.some.inj e
  have hl := hloc (by simp [RowS.live])
  obtain ⟨n0, row⟩ := s
  rcases hk.2 with e | ⟨hg, _⟩ | ⟨p1, p2, t', l1, l2, e1, e2, e3, _⟩ | ⟨l1, l2, e0, e1, e2⟩ | ⟨_, _, _, _, _, _, _, _, _, _, _, _, e1, _⟩
  · cases e; exact ⟨n, l, hs, rfl, hl⟩
  · cases hg
  · cases e2
  · cases e1
    simp only at e0
    subst e0
    exact ⟨n0, l1, hs, e2.1, hl⟩
  · cases e1

theorem Step.mp (S : Step w pl rows w' pl' rows') {r n it : Nat} {bx : Bool} {p : Prov} {kt vt : Ty} {l : List (kt.D × vt.D)} {tk : Option (kt.D × Nat)} (hm : rows r ≠ none) (h : rows' r = some ⟨n, .mp it p kt vt bx l tk⟩) :
    (∃ n0 it0 p0 l0 tk0, (it0 = 0 ↔ it = 0) ∧ rows r = some ⟨n0, .mp it0 p0 kt vt bx l0 tk0⟩) ∧ pl'.loc r = pl.loc r := by
  obtain ⟨s, hs⟩ := Option.ne_none_iff_exists'.1 hm
  obtain ⟨s', e, hk, hloc⟩ := S.kin r s hs
  rw [h] at e
  obtain rfl := Option.some.inj e
  have hl := hloc (by simp [RowS.live])
  obtain ⟨n0, row⟩ := s
  rcases hk.2 with e | ⟨hg, _⟩ | ⟨p1, p2, t', l1, l2, e1, e2, e3, _⟩ | ⟨l1, l2, e0, e1, e2⟩ | ⟨_, _, _, _, _, _, _, _, _, _, _, e0, e1, e3, _⟩
  · cases e; exact ⟨⟨n, it, p, l, tk, Iff.rfl, hs⟩, hl⟩
  · cases hg
  · cases e2
  · cases e1
  · simp only at e1 e0
    cases e1
    subst e0
    exact ⟨⟨n0, _, _, _, _, e3, hs⟩, hl⟩

mutual
theorem Step.vr (S : Step w pl rows w' pl' rows') : ∀ {v : PV} {u : Value}, Men rows v → okPV rows' v = true → (okPV rows v = true → VR w pl rows v u) → VR w' pl' rows' v u
  | .val p t x, u, hm, hk, h => S.rd hm hk (h (S.okProv hm hk))
  | .nils, _, _, _, h => h rfl
  | .nilp, _, _, _, h => h rfl
  | .lit _, _, _, _, h => h rfl
  | .und, _, _, _, h => h rfl
  | .rw r, u, hm, _, h => by
    refine ⟨⟨(h rfl).1.1, fun n p kt vt bx l tk hr => ?_⟩, fun n p t l hr => ?_⟩
    · obtain ⟨⟨n0, it0, p0, l0, tk0, e0, e1⟩, e2⟩ := S.mp hm hr
      obtain rfl := e0.2 rfl
      obtain ⟨b, g1, g2⟩ := (h rfl).1.2 _ _ _ _ _ _ _ e1
      exact ⟨b, e2.trans g1, g2⟩
    obtain ⟨n0, p0, l0, e1, e2, e3⟩ := S.arr hm hr
    have := (h rfl).2 n0 p0 t l0 e1
    rw [e2]
    exact S.sliceOf e3 this
  | .rs r off len, u, hm, _, h => by
    refine ⟨(h rfl).1, fun n p t l hr => ?_⟩
    obtain ⟨n0, p0, l0, e1, e2, e3⟩ := S.arr hm hr
    obtain ⟨g1, g2⟩ := (h rfl).2 n0 p0 t l0 e1
    exact ⟨by omega, S.sliceOf e3 g2⟩
  | .ptr r off, u, hm, _, h => by
    refine ⟨⟨(h rfl).1.1, (h rfl).1.2.1, fun n i p kt vt bx l tk hr => ?_⟩, fun n l hr => ?_⟩
    · obtain ⟨⟨n0, it0, p0, l0, tk0, e0, e1⟩, e2⟩ := S.mp hm hr
      obtain ⟨i0, rfl⟩ : ∃ i0, it0 = i0 + 1 := ⟨it0 - 1, by omega⟩
      obtain ⟨b, g1, g2⟩ := (h rfl).1.2.2 _ _ _ _ _ _ _ _ e1
      exact ⟨b, e2.trans g1, g2⟩
    obtain ⟨n0, l0, e1, e2, e3⟩ := S.vars hm hr
    obtain ⟨b, g1, g2⟩ := (h rfl).2 n0 l0 e1
    exact ⟨b, e3.trans g1, g2⟩
  | .pel r i off, u, hm, _, h => by
    refine ⟨(h rfl).1, fun n p t l hr => ?_⟩
    obtain ⟨n0, p0, l0, e1, e2, e3⟩ := S.arr hm hr
    obtain ⟨g1, b, o, g2, g3⟩ := (h rfl).2 n0 p0 t l0 e1
    exact ⟨by omega, b, o, e3.trans g2, g3⟩
  | .pvl p t l i off, u, hm, hk, h => by
    obtain ⟨x, es, g1, g2, ad, g3, g4, g5⟩ := h (S.okProv hm hk)
    have hs := S.safe hm hk g4
    exact ⟨x, es, g1, S.rd hm hk g2, ad, g3, hs.1, g5.same hs.2⟩
  | .fn f l, u, hm, hk, h => by
    obtain ⟨hok, hv⟩ := S.vrs (l := l) hm hk
    obtain ⟨cs, e, g⟩ := h hok
    exact ⟨cs, e, hv _ g⟩
  | .agg l, u, hm, hk, h => by
    obtain ⟨hok, hv⟩ := S.vrs (l := l) hm hk
    obtain ⟨cs, e, g, g1⟩ := h hok
    exact ⟨cs, e, hv _ g, g1⟩
  | .tup l, u, hm, hk, h => by
    obtain ⟨hok, hv⟩ := S.vrs (l := l) hm hk
    obtain ⟨cs, us, es, e, e2, g⟩ := h hok
    exact ⟨cs, us, es, e, e2, hv _ g⟩
theorem Step.vrs (S : Step w pl rows w' pl' rows') : ∀ {l : List PV}, Mens rows l → okPV.okAll rows' l = true → okPV.okAll rows l = true ∧ ∀ us, VRs w pl rows l us → VRs w' pl' rows' l us
  | [], _, _ => ⟨rfl, fun _ h => h⟩
  | v :: l, hm, hk => by
    simp only [okPV.okAll, Bool.and_eq_true] at hk ⊢
    obtain ⟨h1, h2⟩ := S.vrs (l := l) hm.2 hk.2
    refine ⟨⟨S.ok hm.1 hk.1, h1⟩, ?_⟩
    rintro us ⟨u, us', rfl, g1, g2⟩
    exact ⟨u, us', rfl, S.vr hm.1 hk.1 (fun _ => g1), h2 _ g2⟩
theorem Step.ok (S : Step w pl rows w' pl' rows') : ∀ {v : PV}, Men rows v → okPV rows' v = true → okPV rows v = true
  | .val _ _ _, hm, hk => S.okProv hm hk
  | .pvl _ _ _ _ _, hm, hk => S.okProv hm hk
  | .nils, _, _ => rfl
  | .nilp, _, _ => rfl
  | .lit _, _, _ => rfl
  | .und, _, _ => rfl
  | .rw _, _, _ => rfl
  | .rs _ _ _, _, _ => rfl
  | .ptr _ _, _, _ => rfl
  | .pel _ _ _, _, _ => rfl
  | .fn _ l, hm, hk => (S.vrs (l := l) hm hk).1
  | .agg l, hm, hk => (S.vrs (l := l) hm hk).1
  | .tup l, hm, hk => (S.vrs (l := l) hm hk).1
end

theorem Step.some_ (S : Step w pl rows w' pl' rows') {r : Nat} (h : rows r ≠ none) : rows' r ≠ none := by
  obtain ⟨s, hs⟩ := Option.ne_none_iff_exists'.1 h
  obtain ⟨s', e, _⟩ := S.kin r s hs
  rw [e]; simp

theorem Kin.live {s s' : RowS} (h : Kin s s') (hl : s'.live) : s.live := by
  intro hg
  rcases h.2 with rfl | ⟨h1, _⟩ | ⟨_, _, _, _, _, h1, _⟩ | ⟨_, _, h1, _⟩ | ⟨_, _, _, _, _, _, _, _, _, _, _, h1, _⟩
  · exact hl hg
  · exact hl h1
  · rw [hg] at h1; cases h1
  · rw [hg] at h1; cases h1
  · rw [hg] at h1; cases h1
theorem Kin.gone {s s' : RowS} (h : Kin s s') (hg : s.row = .gone) : s'.row = .gone := by
  rcases h.2 with rfl | ⟨h1, _⟩ | ⟨_, _, _, _, _, h1, _⟩ | ⟨_, _, h1, _⟩ | ⟨_, _, _, _, _, _, _, _, _, _, _, h1, _⟩
  · exact hg
  · exact h1
  · rw [hg] at h1; cases h1
  · rw [hg] at h1; cases h1
  · rw [hg] at h1; cases h1
theorem Kin.trans {a b c : RowS} (h : Kin a b) (k : Kin b c) : Kin a c := by
  refine ⟨Nat.le_trans h.1 k.1, ?_⟩
  rcases k.2 with rfl | ⟨k1, k2⟩ | ⟨p1, p2, t, l1, l2, k1, k2, k3, k4⟩ | ⟨l1, l2, k1, k2, k3, k4⟩ | ⟨it, it', p1, p2, kt, vt, bx, l1, l2, t1, t2, k1, k2, k4, k3⟩
  · exact h.2
  · rcases h.2 with rfl | ⟨h1, h2⟩ | ⟨q1, q2, t', m1, m2, h1, h2, h3, h4⟩ | ⟨m1, m2, h1, h2, h3, h4⟩ | ⟨_, _, _, _, _, _, _, _, _, _, _, h1, _⟩
    · exact .inr (.inl ⟨k1, k2⟩)
    · exact .inr (.inl ⟨k1, h2⟩)
    · exact .inr (.inl ⟨k1, by rw [h1]; simp⟩)
    · exact absurd h2 (k2 m2)
    · exact .inr (.inl ⟨k1, by rw [h1]; simp⟩)
  · rcases h.2 with rfl | ⟨h1, h2⟩ | ⟨q1, q2, t', m1, m2, h1, h2, h3, h4⟩ | ⟨m1, m2, h1, h2, h3, h4⟩ | ⟨_, _, _, _, _, _, _, _, _, _, _, h1, h2, _⟩
    · exact .inr (.inr (.inl ⟨p1, p2, t, l1, l2, k1, k2, k3, k4⟩))
    · rw [h1] at k1; cases k1
    · rw [h2] at k1
      cases k1
      exact .inr (.inr (.inl ⟨q1, p2, t, m1, l2, h1, k2, by omega, by omega⟩))
    · rw [h2] at k1; cases k1
    · rw [h2] at k1; cases k1
  · rcases h.2 with rfl | ⟨h1, h2⟩ | ⟨q1, q2, t', m1, m2, h1, h2, h3, h4⟩ | ⟨m1, m2, h1, h2, h3, h4⟩ | ⟨_, _, _, _, _, _, _, _, _, _, _, h1, h2, _⟩
    · exact .inr (.inr (.inr (.inl ⟨l1, l2, k1, k2, k3, k4⟩)))
    · rw [h1] at k1; cases k1
    · rw [h2] at k1; cases k1
    · rw [h2] at k1
      cases k1
      exact .inr (.inr (.inr (.inl ⟨m1, l2, h1, k2, by omega, by omega⟩)))
    · rw [h2] at k1; cases k1
  · rcases h.2 with rfl | ⟨h1, h2⟩ | ⟨q1, q2, t', m1, m2, h1, h2, h3, h4⟩ | ⟨m1, m2, h1, h2, h3, h4⟩ | ⟨_, _, _, _, _, _, _, _, _, _, _, h1, h2, h4, h3⟩
    · exact .inr (.inr (.inr (.inr ⟨it, it', p1, p2, kt, vt, bx, l1, l2, t1, t2, k1, k2, k4, k3⟩)))
    · rw [h1] at k1; cases k1
    · rw [h2] at k1; cases k1
    · rw [h2] at k1; cases k1
    · rw [h2] at k1
      cases k1
      exact .inr (.inr (.inr (.inr ⟨_, _, _, _, _, _, _, _, _, _, _, h1, k2, h4.trans k4, by omega⟩)))
theorem Kin.back {a b : RowS} (h : Kin a b) (k : Kin b a) (hl : a.live) : b = a := by
  rcases h.2 with rfl | ⟨h1, h2⟩ | ⟨q1, q2, t', m1, m2, h1, h2, h3, h4⟩ | ⟨m1, m2, h1, h2, h3, h4⟩ | ⟨_, _, _, _, _, _, _, _, _, _, _, h1, h2, h4, h3⟩
  · rfl
  · exact absurd (k.gone h1) hl
  · have := k.1; omega
  · have := k.1; omega
  · have := k.1; omega

theorem Step.provIn (S : Step w pl rows w' pl' rows') {p : Prov} (hp : ProvIn rows p) : ProvIn rows' p := by
  intro q hq
  rcases hp q hq with h | ⟨s, e1, e2, e3⟩
  · exact .inl h
  · obtain ⟨s', g1, g2, _⟩ := S.kin _ s e1
    refine .inr ⟨s', g1, e2.elim (fun e2 => .inl (Nat.le_trans e2 g2.1)) (fun e2 => .inr (g2.gone e2)), ?_⟩
    rcases g2.2 with rfl | ⟨hg, _⟩ | ⟨p1, p2, t', l1, l2, h1, h2, _⟩ | ⟨l1, l2, h1, h2, _⟩ | ⟨_, _, _, _, _, _, _, _, _, _, _, h1, _⟩
    · exact e3
    · rw [hg]; trivial
    · rw [h2]; trivial
    · rw [h1] at e3; exact e3.elim
    · rw [h1] at e3; exact e3.elim

mutual
theorem Step.men (S : Step w pl rows w' pl' rows') : ∀ {v : PV}, Men rows v → Men rows' v
  | .val _ _ _, h => S.provIn h
  | .pvl _ _ _ _ _, h => S.provIn h
  | .nils, _ => trivial
  | .nilp, _ => trivial
  | .lit _, _ => trivial
  | .und, _ => trivial
  | .rw _, h => S.some_ h
  | .rs _ _ _, h => S.some_ h
  | .ptr _ _, h => S.some_ h
  | .pel _ _ _, h => S.some_ h
  | .fn _ l, h => S.mens (l := l) h
  | .agg l, h => S.mens (l := l) h
  | .tup l, h => S.mens (l := l) h
theorem Step.mens (S : Step w pl rows w' pl' rows') : ∀ {l : List PV}, Mens rows l → Mens rows' l
  | [], _ => trivial
  | _ :: _, h => ⟨S.men h.1, S.mens h.2⟩
end

theorem Step.trans' {w w1 w2 : World} {pl pl1 pl2 : Pl} {rows rows1 rows2 : Rows} (S : Step w pl rows w1 pl1 rows1) (S' : Step w1 pl1 rows1 w2 pl2 rows2) : Step w pl rows w2 pl2 rows2 := by
  have kin2 : ∀ r s, rows r = some s → ∃ s1 s2, rows1 r = some s1 ∧ rows2 r = some s2 ∧ Kin s s1 ∧ Kin s1 s2 ∧ (s2.live → pl2.loc r = pl1.loc r ∧ pl1.loc r = pl.loc r) := by
    intro r s hr
    obtain ⟨s1, h1, h2, h3⟩ := S.kin r s hr
    obtain ⟨s2, k1, k2, k3⟩ := S'.kin r s1 h1
    exact ⟨s1, s2, h1, k1, h2, k2, fun hl => ⟨k3 hl, h3 (k2.live hl)⟩⟩
  have same2 : ∀ r s, rows r = some s → rows2 r = some s → s.live → rows1 r = some s := by
    intro r s hr h2 hl
    obtain ⟨s1, s2, h1, k1, h2', k2, h3⟩ := kin2 r s hr
    rw [h2] at k1
    cases k1
    rw [h1, h2'.back k2 hl]
  have chg : ∀ r0 s0 s1, rows r0 = some s0 → s0.live → rows1 r0 = some s1 → s1 ≠ s0 → ∃ s2, rows2 r0 = some s2 ∧ s2 ≠ s0 := by
    intro r0 s0 s1 g1 g2 g3 g4
    obtain ⟨s1', s2, h1, k1, h2', k2, h3⟩ := kin2 r0 s0 g1
    refine ⟨s2, k1, fun e => ?_⟩
    subst e
    have := same2 r0 _ g1 k1 g2
    rw [g3] at this
    exact g4 (Option.some.inj this)
  have fresh2 : ∀ r s1, rows1 r = some s1 → s1.live → ∀ b o, pl1.at r b o → (∃ s o', rows r = some s ∧ s.live ∧ pl.at r b o') ∨
      w.heap.size ≤ b ∨ ∃ r0 s0 s1 o0, rows r0 = some s0 ∧ s0.live ∧ rows2 r0 = some s1 ∧ s1 ≠ s0 ∧ pl.at r0 b o0 := by
    intro r s1 h1 h2 b o h3
    rcases S.fresh r s1 h1 h2 b o h3 with h | h | ⟨r0, s0, s1', o0, g1, g2, g3, g4, g5⟩
    · exact .inl h
    · exact .inr (.inl h)
    · obtain ⟨s2, e1, e2⟩ := chg r0 s0 s1' g1 g2 g3 g4
      exact .inr (.inr ⟨r0, s0, s2, o0, g1, g2, e1, e2, g5⟩)
  refine ⟨S'.z.trans S.z, S'.l.trans S.l, Nat.le_trans S.size S'.size, fun r s hr => ?_, fun r s h1 h2 hl => ?_, fun r s2 h2 hl b o h3 => ?_, fun b hb h => ?_, fun b arr Te fr h => ?_, S.zero⟩
  · obtain ⟨s1, s2, h1, k1, h2, k2, h3⟩ := kin2 r s hr
    exact ⟨s2, k1, h2.trans k2, fun hl => (h3 hl).1.trans (h3 hl).2⟩
  · have := same2 r s h1 h2 hl
    exact (S'.hid r s this h2 hl).trans (S.hid r s h1 this hl)
  · rcases S'.fresh r s2 h2 hl b o h3 with ⟨s1, o1, g1, g2, g3⟩ | h | ⟨r0, s0, s1, o0, g1, g2, g3, g4, g5⟩
    · exact fresh2 r s1 g1 g2 b o1 g3
    · exact .inr (.inl (Nat.le_trans S.size h))
    · rcases fresh2 r0 s0 g1 g2 b o0 g5 with ⟨s, o', e1, e2, e3⟩ | h | h
      · refine .inr (.inr ⟨r0, s, s1, o', e1, e2, g3, fun e => ?_, e3⟩)
        subst e
        have := same2 r0 _ e1 g3 e2
        rw [g1] at this
        exact g4 (Option.some.inj this).symm
      · exact .inr (.inl h)
      · exact .inr (.inr h)
  · have same : ∀ r s o, rows r = some s → s.live → pl.at r b o → rows1 r = some s := fun r s o hr hl hloc => same2 r s hr (h r s o hr hl hloc) hl
    have e1 := S.heap b hb same
    have e2 := S'.heap b (Nat.lt_of_lt_of_le hb S.size) fun r s o hr hl hloc => by
      rcases S.fresh r s hr hl b o hloc with ⟨s0, o', g1, g2, g3⟩ | h' | ⟨r0, s0, s1, o0, g1, g2, g3, g4, g5⟩
      · have hs := same r s0 o' g1 g2 g3
        rw [hr] at hs
        cases hs
        exact h r s o' g1 g2 g3
      · omega
      · have := same r0 s0 o0 g1 g2 g5
        rw [g3] at this
        exact absurd (Option.some.inj this) g4
    exact e2.trans e1
  · obtain ⟨arr1, T1, fr1, h1, h2⟩ := S.blk b arr Te fr h
    obtain ⟨arr2, T2, fr2, h3, h4⟩ := S'.blk b arr1 T1 fr1 h1
    exact ⟨arr2, T2, fr2, h3, by omega⟩

/-- A step in which no map's blocks change. -/
theorem Step.mk0 {w w' : World} {pl pl' : Pl} {rows rows' : Rows} (z : pl'.Z = pl.Z) (l : pl'.L = pl.L) (size : w.heap.size ≤ w'.heap.size)
    (kin : ∀ r s, rows r = some s → ∃ s', rows' r = some s' ∧ Kin s s' ∧ (s'.live → pl'.loc r = pl.loc r))
    (hid : ∀ r, rows r ≠ none → pl'.hid r = pl.hid r) (hidn : ∀ r s, rows r = none → rows' r = some s → s.live → ∀ b, ¬ pl'.hid r b)
    (fresh : ∀ r s', rows r = none → rows' r = some s' → s'.live → ∀ b o, pl'.loc r = some (b, o) →
      w.heap.size ≤ b ∨ ∃ r0 s0 n o0, rows r0 = some s0 ∧ s0.live ∧ rows' r0 = some ⟨n, .gone⟩ ∧ pl.loc r0 = some (b, o0))
    (heap : ∀ b, b < w.heap.size → (∀ r s o, rows r = some s → s.live → pl.at r b o → rows' r = some s) → w'.heap[b]? = w.heap[b]?)
    (blk : ∀ (b : Nat) (arr : Array Value) (T : TypeId) (fr : Nat × Nat), w.heap[b]? = some (Obj.cells arr T fr) → ∃ (arr' : Array Value) (T' : TypeId) (fr' : Nat × Nat), w'.heap[b]? = some (Obj.cells arr' T' fr') ∧ arr'.size = arr.size)
    (zero : rows 0 = none) : Step w pl rows w' pl' rows' := by
  refine ⟨z, l, size, kin, fun r s h1 _ _ => hid r (by rw [h1]; simp), fun r s' h1 h2 b o h3 => ?_, heap, blk, zero⟩
  by_cases hr : rows r = none
  · rcases h3 with h3 | h3
    · rcases fresh r s' hr h1 h2 b o h3 with h | ⟨r0, s0, n, o0, g1, g2, g3, g4⟩
      · exact .inr (.inl h)
      · exact .inr (.inr ⟨r0, s0, _, o0, g1, g2, g3, fun e => g2 (by rw [← e]), .inl g4⟩)
    · exact absurd h3 (hidn r s' hr h1 h2 b)
  · obtain ⟨s, hs⟩ := Option.ne_none_iff_exists'.1 hr
    obtain ⟨s2, e1, e2, e3⟩ := kin r s hs
    rw [h1] at e1
    cases e1
    refine .inl ⟨s, o, hs, e2.live h2, ?_⟩
    rcases h3 with h3 | h3
    · exact .inl ((e3 h2) ▸ h3)
    · exact .inr ((hid r hr) ▸ h3)

theorem mens_mem {rows : Rows} : ∀ {l : List PV}, Mens rows l → ∀ v ∈ l, Men rows v
  | _ :: _, h, v, hv => by
    rcases List.mem_cons.1 hv with rfl | hv
    · exact h.1
    · exact mens_mem h.2 v hv

theorem ArrAt.frame {w w' : World} {S S' : Nat → Prop} {loc : Option (Nat × Nat)} {ok ok' : Prop} {t : Ty} {l : List t.D} (h : ArrAt w S loc ok t l)
    (hf : ok' → ok ∧ ∀ b, S b → S' b ∧ w'.heap[b]? = w.heap[b]?) (hb : ∀ b o, loc = some (b, o) → w'.heap[b]? = w.heap[b]?) : ArrAt w' S' loc ok' t l := by
  cases loc with
  | none => exact h
  | some x =>
    obtain ⟨b, o⟩ := x
    obtain ⟨arr, T, fr, g1, g2, g3, g4⟩ := h
    have hbb := hb b o rfl
    refine ⟨arr, T, fr, hbb.trans g1, g2, g3, fun hok i x hx => ?_⟩
    obtain ⟨k0, k⟩ := hf hok
    obtain ⟨es, k1, k2⟩ := g4 k0 i x hx
    exact ⟨es, RD_frame (fun b hb => (k b hb).1) (fun b hb => (k b hb).2) k1, k2.same hbb⟩
theorem SlAt.frame {w w' : World} {loc : Option (Nat × Nat)} {sz off n : Nat} {v : Value} (h : SlAt w loc sz off n v) (hb : ∀ b o, loc = some (b, o) → w'.heap[b]? = w.heap[b]?) : SlAt w' loc sz off n v := by
  obtain ⟨A, c, h1, h2, h3⟩ := h
  refine ⟨A, c, h1, h2, fun hc => ?_⟩
  obtain ⟨b, o, g1, g2, arr, T, fr, g3, g4⟩ := h3 hc
  exact ⟨b, o, g1, g2, arr, T, fr, (hb b o g1).trans g3, g4⟩
theorem RD_none {w w' : World} {t : Ty} {x : t.D} {cs : List Value} (h : RD w (fun _ => False) t x cs) : RD w' (fun _ => False) t x cs := RD_frame (fun _ h => h) (fun _ h => h.elim) h
theorem FldR.frame {w w' : World} {S S' : Nat → Prop} {ok ok' : Prop} (hf : ok' → ok ∧ ∀ b, S b → S' b ∧ w'.heap[b]? = w.heap[b]?) : ∀ {t : Ty} {x : t.D} {cs : List Value} {bs : List Nat}, FldR w S ok t x cs bs →
    (∀ b ∈ bs, w'.heap[b]? = w.heap[b]?) → FldR w' S' ok' t x cs bs := by
  intro t
  induction t with
  | int k => intro x cs bs h hb; exact ⟨h.1, RD_none h.2⟩
  | bool => intro x cs bs h hb; exact ⟨h.1, RD_none h.2⟩
  | str => intro x cs bs h hb; exact ⟨h.1, RD_none h.2⟩
  | unit => intro x cs bs h hb; exact ⟨h.1, RD_none h.2⟩
  | slice t _ =>
    intro x cs bs h hb
    obtain ⟨u, loc, h1, h2, h3, h4, h5⟩ := h
    have hb' : ∀ b o, loc = some (b, o) → w'.heap[b]? = w.heap[b]? := fun b o e => hb b (by rw [h5, e]; simp)
    exact ⟨u, loc, h1, h2, h3.frame hf hb', h4.frame hb', h5⟩
  | prod a b iha ihb =>
    intro x cs bs h hb
    obtain ⟨c1, c2, b1, b2, h1, h2, h3, h4⟩ := h
    exact ⟨c1, c2, b1, b2, h1, h2, iha h3 fun b h => hb b (by rw [h2]; exact List.mem_append_left _ h), ihb h4 fun b h => hb b (by rw [h2]; exact List.mem_append_right _ h)⟩
theorem HV.frame {w w' : World} {S S' : Nat → Prop} {ok ok' : Prop} (hf : ok' → ok ∧ ∀ b, S b → S' b ∧ w'.heap[b]? = w.heap[b]?) {bx : Bool} {t : Ty} {x : t.D} {u : Value} {bs : List Nat} (h : HV w S ok bx t x u bs)
    (hb : ∀ b ∈ bs, w'.heap[b]? = w.heap[b]?) : HV w' S' ok' bx t x u bs := by
  cases bx with
  | false => exact FldR.frame hf h hb
  | true =>
    obtain ⟨b, bs', arr, T, fr, h1, h2, h3, h4, h5, h6⟩ := h
    exact ⟨b, bs', arr, T, fr, h1, h2, (hb b (by rw [h2]; exact List.mem_cons_self)).trans h3, h4, h5, h6.frame hf fun x hx => hb x (by rw [h2]; exact List.mem_cons_of_mem _ hx)⟩
theorem KeyR.frame {w w' : World} {kt : Ty} {k : kt.D} {u : Value} (h : KeyR w kt k u) : KeyR w' kt k u := by
  obtain ⟨cs, h1, h2⟩ := h
  exact ⟨cs, RD_none h1, h2⟩
theorem Ents.frame {w w' : World} {S S' : Nat → Prop} {ok ok' : Prop} (hf : ok' → ok ∧ ∀ b, S b → S' b ∧ w'.heap[b]? = w.heap[b]?) {kt vt : Ty} {bx : Bool} : ∀ {l : List (kt.D × vt.D)} {es : List MapEntry} {bs : List Nat}, Ents w S ok kt vt bx l es bs →
    (∀ b ∈ bs, w'.heap[b]? = w.heap[b]?) → Ents w' S' ok' kt vt bx l es bs
  | [], es, bs, h, _ => h
  | (k, v) :: l, es, bs, h, hb => by
    obtain ⟨e, es', b1, b2, h1, h2, h3, h4, h5⟩ := h
    exact ⟨e, es', b1, b2, h1, h2, h3.frame, h4.frame hf fun b h => hb b (by rw [h2]; exact List.mem_append_left _ h), Ents.frame hf h5 fun b h => hb b (by rw [h2]; exact List.mem_append_right _ h)⟩
theorem Ents_len {w : World} {S : Nat → Prop} {ok : Prop} {kt vt : Ty} {bx : Bool} : ∀ {l : List (kt.D × vt.D)} {es : List MapEntry} {bs : List Nat}, Ents w S ok kt vt bx l es bs → es.length = l.length
  | [], es, bs, h => by rw [h.1]; rfl
  | (k, v) :: l, es, bs, h => by
    obtain ⟨e, es', b1, b2, h1, h2, h3, h4, h5⟩ := h
    rw [h1]
    simp [Ents_len h5]
theorem okPV_tk (rows : Rows) (bx : Bool) (r : Nat) : okPV rows (tkPV bx r) = true := by cases bx <;> rfl
theorem Taken.step {w w' : World} {pl pl' : Pl} {rows rows' : Rows} (S : Step w pl rows w' pl' rows') {kt : Ty} {bx : Bool} {tk : Option (kt.D × Nat)} {st : List MapEntry} (h : Taken w pl rows kt bx tk st) : Taken w' pl' rows' kt bx tk st := by
  cases tk with
  | none => exact h
  | some x =>
    obtain ⟨k, r⟩ := x
    obtain ⟨h0, h⟩ := h
    refine ⟨S.men h0, h.imp id ?_⟩
    rintro ⟨e, h1, h2, h3⟩
    exact ⟨e, h1, h2.frame, S.vr h0 (okPV_tk _ _ _) fun _ => h3⟩
theorem MapAt.frame {w w' : World} {pl pl' : Pl} {r r' : Nat} {it : Nat} {b : Nat} {es1 st : List MapEntry} (h : MapAt w pl r it b es1 st) (hh : ∀ x, pl.hid r x → pl'.hid r' x ∧ w'.heap[x]? = w.heap[x]?)
    (hb : w'.heap[b]? = w.heap[b]?) : MapAt w' pl' r' it b es1 st := by
  cases it with
  | zero =>
    obtain ⟨es, clock, h1, h2⟩ := h
    exact ⟨es, clock, hb.trans h1, h2⟩
  | succ n =>
    obtain ⟨h0, bm, es, clock, seen, h1, h2, h3, h4⟩ := h
    exact ⟨h0, bm, es, clock, seen, hb.trans h1, (hh bm h2).1, (hh bm h2).2.trans h3, h4⟩

/-- A row that stays as it is. -/
theorem Step.row (S : Step w pl rows w' pl' rows') {r : Nat} {s : RowS} (hr : rows r = some s) (hr' : rows' r = some s) (h : RowR w pl rows r s)
    (hb : ∀ b o, s.live → pl.at r b o → w'.heap[b]? = w.heap[b]?) : RowR w' pl' rows' r s := by
  obtain ⟨s2, e2, _, hloc⟩ := S.kin r s hr
  rw [hr'] at e2
  obtain rfl := Option.some.inj e2
  obtain ⟨n, row⟩ := s
  cases row with
  | gone => trivial
  | arr p t l =>
    have hl : pl'.loc r = pl.loc r := hloc (by simp [RowS.live])
    obtain ⟨h1, h2⟩ := h
    refine ⟨S.provIn h1, ?_⟩
    rw [hl]
    cases hlr : pl.loc r with
    | none => rw [hlr] at h2; exact h2
    | some x =>
      obtain ⟨b, o⟩ := x
      rw [hlr] at h2
      obtain ⟨arr, T, fr, g1, g2, g3, g4⟩ := h2
      have hbb := hb b o (by simp [RowS.live]) (.inl hlr)
      refine ⟨arr, T, fr, hbb.trans g1, g2, g3, fun hok i x hx => ?_⟩
      obtain ⟨es, k1, k2⟩ := g4 (S.okProv h1 hok) i x hx
      exact ⟨es, S.rd h1 hok k1, k2.same hbb⟩
  | vars l =>
    have hl : pl'.loc r = pl.loc r := hloc (by simp [RowS.live])
    obtain ⟨h1, b, arr, T, fr, g0, g1, g2, g3, g4⟩ := h
    have hbb := hb b 0 (by simp [RowS.live]) (.inl g0)
    refine ⟨S.mens h1, b, arr, T, fr, hl.trans g0, hbb.trans g1, g2, g3, fun j x hx => ?_⟩
    obtain ⟨v, k1, k2, k3⟩ := g4 j x hx
    exact ⟨v, k1, k2, fun hok => S.vr (mens_mem h1 x (List.mem_of_getElem? hx)) hok k3⟩
  | mp it p kt vt bx l tk =>
    have hlv : RowS.live ⟨n, .mp it p kt vt bx l tk⟩ := by simp [RowS.live]
    have hl : pl'.loc r = pl.loc r := hloc hlv
    have hh := S.hid r _ hr hr' hlv
    obtain ⟨h1, h2, b, es1, st, bs, g1, g2, g4, g5, g6, g7, g8⟩ := h
    refine ⟨S.provIn h1, h2, b, es1, st, bs, hl.trans g1, g2.frame (fun x hx => ⟨by rw [hh]; exact hx, hb x 0 hlv (.inr hx)⟩) (hb b 0 hlv (.inl g1)), ?_, g5.step S, g6, g7, fun x hx => by rw [hh]; exact g8 x hx⟩
    exact g4.frame (fun hok => ⟨S.okProv h1 hok, fun b hb => S.safe h1 hok hb⟩) fun x hx => hb x 0 hlv (.inr (g8 x hx))

/-- From one state to the next. -/
theorem Rel.stepM {B : Nat} {G : Nat → Prop} {σ : St} {a a' : Act} {env' : Env} (R : Rel B G pl σ a w) (S : Step w pl σ.rows w' pl' rows')
    (hd : a'.defers = [])
    (henv : ∀ s v, env' s = some v → (σ.env s = some v ∧ s < a'.tmps.size ∧ a'.tmps.getD s undef = a.tmps.getD s undef) ∨
      (s < a'.tmps.size ∧ Men rows' v ∧ (okPV rows' v = true → VR w' pl' rows' v (a'.tmps.getD s undef))))
    (hrow : ∀ r s', rows' r = some s' → σ.rows r ≠ some s' → RowR w' pl' rows' r s')
    (hz : rows' 0 = none)
    (hnw : ∀ r s b o, rows' r = some s → s.live → pl'.at r b o → (∃ s0 o0, σ.rows r = some s0 ∧ s0.live ∧ pl.at r b o0) ∨
      ((b < w'.heap.size ∧ ¬ pl.Z b ∧ (B ≤ b ∨ G b)) ∧ ∀ r' s' o', rows' r' = some s' → s'.live → pl'.at r' b o' → r' = r)) :
    Rel B G pl' ⟨env', rows'⟩ a' w' := by
  constructor
  · intro s v hv
    rcases henv s v hv with ⟨h1, h2, h3⟩ | h
    · obtain ⟨g1, g2, g3⟩ := R.env s v h1
      refine ⟨h2, S.men g2, fun hk => ?_⟩
      rw [h3]
      exact S.vr g2 hk g3
    · exact h
  · intro r s hr
    by_cases hs : σ.rows r = some s
    · refine S.row hs hr (R.rows r s hs) fun b o hl hloc => ?_
      refine S.heap b (R.own r s b o hs hl hloc).1 fun r2 s2 o2 hr2 hl2 hloc2 => ?_
      obtain rfl := R.inj r2 r s2 s b o2 o hr2 hl2 hs hl hloc2 hloc
      rw [hs] at hr2
      obtain rfl := Option.some.inj hr2
      exact hr
    · exact hrow r s hr hs
  · exact hz
  · intro r r' s s' b o o' hr hl hr' hl' hloc hloc'
    rcases hnw r s b o hr hl hloc with ⟨s0, o0, e1, e2, e3⟩ | ⟨_, h⟩
    · rcases hnw r' s' b o' hr' hl' hloc' with ⟨s1, o1, f1, f2, f3⟩ | ⟨_, h⟩
      · exact R.inj r r' s0 s1 b o0 o1 e1 e2 f1 f2 e3 f3
      · exact h r s o hr hl hloc
    · exact (h r' s' o' hr' hl' hloc').symm
  · intro r s b o hr hl hloc
    rcases hnw r s b o hr hl hloc with ⟨s0, o0, e1, e2, e3⟩ | ⟨h, _⟩
    · obtain ⟨g1, g2, g3⟩ := R.own r s0 b o0 e1 e2 e3
      exact ⟨Nat.lt_of_lt_of_le g1 S.size, by rw [S.z]; exact g2, g3⟩
    · rw [S.z]; exact h
  · exact hd

/-- What a row that was there holds it held. -/
theorem Step.old (S : Step w pl rows w' pl' rows') (hid : ∀ r, rows r ≠ none → pl'.hid r = pl.hid r) {r b o : Nat} {s' : RowS} (hr : rows' r = some s') (hl : s'.live) (hne : rows r ≠ none) (ha : pl'.at r b o) :
    ∃ s, rows r = some s ∧ s.live ∧ pl.at r b o := by
  obtain ⟨s, hs⟩ := Option.ne_none_iff_exists'.1 hne
  obtain ⟨s2, e2, hk, hloc⟩ := S.kin r s hs
  rw [hr] at e2
  obtain rfl := Option.some.inj e2
  refine ⟨s, hs, hk.live hl, ?_⟩
  rcases ha with h | h
  · exact .inl ((hloc hl) ▸ h)
  · exact .inr ((hid r hne) ▸ h)

/-- From one state to the next, where no map's blocks change. -/
theorem Rel.step {B : Nat} {G : Nat → Prop} {σ : St} {a a' : Act} {env' : Env} (R : Rel B G pl σ a w) (S : Step w pl σ.rows w' pl' rows')
    (hid : ∀ r, σ.rows r ≠ none → pl'.hid r = pl.hid r) (hidn : ∀ r s, σ.rows r = none → rows' r = some s → s.live → ∀ b, ¬ pl'.hid r b)
    (hd : a'.defers = [])
    (henv : ∀ s v, env' s = some v → (σ.env s = some v ∧ s < a'.tmps.size ∧ a'.tmps.getD s undef = a.tmps.getD s undef) ∨
      (s < a'.tmps.size ∧ Men rows' v ∧ (okPV rows' v = true → VR w' pl' rows' v (a'.tmps.getD s undef))))
    (hrow : ∀ r s', rows' r = some s' → σ.rows r ≠ some s' → RowR w' pl' rows' r s')
    (hz : rows' 0 = none)
    (hinj : ∀ r r' s s' b o o', rows' r = some s → s.live → rows' r' = some s' → s'.live → pl'.at r b o → pl'.loc r' = some (b, o') → σ.rows r ≠ none → σ.rows r' = none → False)
    (hnew : ∀ r r' s s' b o o', rows' r = some s → s.live → rows' r' = some s' → s'.live → pl'.loc r = some (b, o) → pl'.loc r' = some (b, o') → σ.rows r = none → σ.rows r' = none → r = r')
    (hown : ∀ r s b o, rows' r = some s → s.live → pl'.loc r = some (b, o) → σ.rows r = none → b < w'.heap.size ∧ ¬ pl.Z b ∧ (B ≤ b ∨ G b)) :
    Rel B G pl' ⟨env', rows'⟩ a' w' := by
  refine R.stepM S hd henv hrow hz fun r s b o hr hl ha => ?_
  by_cases h1 : σ.rows r = none
  · rcases ha with h | h
    · refine .inr ⟨hown r s b o hr hl h h1, fun r' s' o' hr' hl' ha' => ?_⟩
      by_cases h2 : σ.rows r' = none
      · rcases ha' with h' | h'
        · exact hnew r' r s' s b o' o hr' hl' hr hl h' h h2 h1
        · exact absurd h' (hidn r' s' h2 hr' hl' b)
      · exact (hinj r' r s' s b o' o hr' hl' hr hl ha' h h2 h1).elim
    · exact absurd h (hidn r s h1 hr hl b)
  · obtain ⟨s0, e1, e2, e3⟩ := S.old hid hr hl h1 ha
    exact .inl ⟨s0, o, e1, e2, e3⟩
end

end Go.Proofs.Ytecnlienmpdlaaa.PM
