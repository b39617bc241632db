import Derived.Test.YtecnlienmpdlaaaGreatPmC
import Derived.Below
import Derived.DataElems
import Derived.WalkKit
import Derived.Laws.Slices
import Derived.Laws.AppendOwn
set_option linter.unusedSimpArgs false
set_option linter.unusedVariables false
namespace Go.Proofs.YtecnlienmpdlaaaGreat.PM
open Go
noncomputable section
def Q1e (w : World) (a : Addr) (es : List Value) : Prop := ∀ j v, es[j]? = some v → w.cell? (a.add j) = some v
def RD (w : World) (S : Nat → Prop) : (t : Ty) → t.D → List Value → Prop
 | .int k, x, cs => cs = [.int k x]
 | .bool, x, cs => cs = [.bool x]
 | .str, x, cs => cs = [.string x]
 | .unit, _, cs => cs = []
 | .slice t, l, cs => ∃ A c, cs = [.slice A l.length c] ∧ l.length ≤ c ∧
   (l ≠ [] → ∃ ad : Addr, A = some ad ∧ S ad.block ∧ ∀ i x, l[i]? = some x → ∃ es, RD w S t x es ∧ Q1e w (ad.add (i * t.size)) es)
 | .prod a b, x, cs => ∃ c1 c2, cs = c1 ++ c2 ∧ RD w S a x.1 c1 ∧ RD w S b x.2 c2
theorem Q37 {w : World} {S : Nat → Prop} : ∀ {t : Ty} {x : t.D} {cs : List Value}, RD w S t x cs → cs.length = t.size := by
 intro t
 induction t with
 | int k => intro x cs h; simp only [RD] at h; subst h; rfl
 | bool => intro x cs h; simp only [RD] at h; subst h; rfl
 | str => intro x cs h; simp only [RD] at h; subst h; rfl
 | unit => intro x cs h; simp only [RD] at h; subst h; rfl
 | slice t _ => intro x cs h; obtain ⟨A, c, rfl, _⟩ := h; rfl
 | prod a b iha ihb =>
   intro x cs h
   obtain ⟨c1, c2, rfl, h1, h2⟩ := h
   rw [List.length_append, iha h1, ihb h2]; rfl
theorem Q9o {w : World} {S : Nat → Prop} : ∀ {t : Ty} {x : t.D} {cs : List Value}, RD w S t x cs → ∀ v ∈ cs, v.oneCell' = true := by
 intro t
 induction t with
 | int k => intro x cs h; simp only [RD] at h; subst h; simp [Value.oneCell']
 | bool => intro x cs h; simp only [RD] at h; subst h; simp [Value.oneCell']
 | str => intro x cs h; simp only [RD] at h; subst h; simp [Value.oneCell']
 | unit => intro x cs h; simp only [RD] at h; subst h; simp
 | slice t _ => intro x cs h; obtain ⟨A, c, rfl, _⟩ := h; simp [Value.oneCell']
 | prod a b iha ihb =>
   intro x cs h v hv
   obtain ⟨c1, c2, rfl, h1, h2⟩ := h
   rcases List.mem_append.1 hv with hv | hv
   ·exact iha h1 v hv
   ·exact ihb h2 v hv
theorem Q4e (a : Addr) (n : Nat) : (a.add n).block = a.block := by unfold Addr.add; split <;> rfl
theorem Qzy {w w' : World} {a : Addr} (h : w'.heap[a.block]? = w.heap[a.block]?) : w'.cell? a = w.cell? a := by simp [World.cell?, h]
theorem Q1e.same {w w' : World} {a : Addr} {es : List Value} (h : Q1e w a es) (hb : w'.heap[a.block]? = w.heap[a.block]?) : Q1e w' a es :=
 fun j v hj => (Qzy (by rw [Q4e]; exact hb)).trans (h j v hj)
theorem Qn {w w' : World} {S S' : Nat → Prop} (hS : ∀ b, S b → S' b) (hw : ∀ b, S b → w'.heap[b]? = w.heap[b]?) :
  ∀ {t : Ty} {x : t.D} {cs : List Value}, RD w S t x cs → RD w' S' t x cs := by
 intro t
 induction t with
 | int k => intro x cs h; exact h
 | bool => intro x cs h; exact h
 | str => intro x cs h; exact h
 | unit => intro x cs h; exact h
 | slice t ih =>
   intro x cs h
   obtain ⟨A, c, h1, h2, h3⟩ := h
   refine ⟨A, c, h1, h2, fun hne => ?_⟩
   obtain ⟨ad, e, hs, hc⟩ := h3 hne
   refine ⟨ad, e, hS _ hs, fun i y hy => ?_⟩
   obtain ⟨es, g1, g2⟩ := hc i y hy
   exact ⟨es, ih g1, g2.same (by rw [Q4e]; exact hw _ hs)⟩
 | prod a b iha ihb =>
   intro x cs h
   obtain ⟨c1, c2, h0, h1, h2⟩ := h
   exact ⟨c1, c2, h0, iha h1, ihb h2⟩
structure Pl where
 loc : Nat → Option (Nat × Nat)
 Z : Nat → Prop
 L : Nat → Prop
 hid : Nat → Nat → Prop
def Pl.at (pl : Pl) (r b o : Nat) : Prop := pl.loc r = some (b, o) ∨ pl.hid r b
def RowS.live (s : RowS) : Prop := s.row ≠ .gone
def Safe (w : World) (pl : Pl) (rows : Rows) (p : Prov) (b : Nat) : Prop :=
 b < w.heap.size ∧ (pl.Z b → pl.L b ∧ ∃ q ∈ p, q.1 = 0) ∧ ∀ r s o, rows r = some s → s.live → pl.at r b o → ∃ q ∈ p, q.1 = r
def Q29 (w : World) (pl : Pl) (r sz off n : Nat) (v : Value) : Prop :=
 ∃ A c, v = .slice A n c ∧ n ≤ c ∧ (0 < c → ∃ b o, pl.loc r = some (b, o) ∧ A = some ⟨b, o + off * sz, none⟩ ∧
   ∃ (arr : Array Value) (T : TypeId) (fr : Nat × Nat), w.heap[b]? = some (Obj.cells arr T fr) ∧ o + (off + c) * sz ≤ arr.size ∧ c ≤ 9223372036854775807)
mutual
def VR (w : World) (pl : Pl) (rows : Rows) : PV → Value → Prop
 | .val p t x, v => RD w (Safe w pl rows p) t x [v]
 | .nils, v => v = .slice none 0 0
 | .nilp, v => v = .pointer none
 | .lit u, v => v = u ∧ u.oneCell' = true
 | .und, v => v = undef
 | .rw r, v => (v.oneCell' = true ∧ ∀ n p kt vt bx l tk, rows r = some ⟨n, .mp 0 p kt vt bx l tk⟩ → ∃ b, pl.loc r = some (b, 0) ∧ v = .map (some b)) ∧ ∀ n p t l, rows r = some ⟨n, .arr p t l⟩ → Q29 w pl r t.size 0 l.length v
 | .rs r off len, v => v.oneCell' = true ∧ ∀ n p t l, rows r = some ⟨n, .arr p t l⟩ → off + len ≤ l.length ∧ Q29 w pl r t.size off len v
 | .ptr r off, v => (v.oneCell' = true ∧ (∃ ad : Addr, v = .pointer (some ad)) ∧ ∀ n i p kt vt bx l tk, rows r = some ⟨n, .mp (i + 1) p kt vt bx l tk⟩ → ∃ b, pl.loc r = some (b, 0) ∧ v = .pointer (some ⟨b, off, none⟩)) ∧ ∀ n l, rows r = some ⟨n, .vars l⟩ → ∃ b, pl.loc r = some (b, 0) ∧ v = .pointer (some ⟨b, off, none⟩)
 | .pel r i off, v => (v.oneCell' = true ∧ ∃ ad : Addr, v = .pointer (some ad)) ∧ ∀ n p t l, rows r = some ⟨n, .arr p t l⟩ → i < l.length ∧ ∃ b o, pl.loc r = some (b, o) ∧ v = .pointer (some ⟨b, o + i * t.size + off, none⟩)
 | .pvl p t l i off, v => ∃ x es, l[i]? = some x ∧ RD w (Safe w pl rows p) t x es ∧ ∃ ad : Addr, v = .pointer (some (ad.add off)) ∧ Safe w pl rows p ad.block ∧ Q1e w ad es
 | .fn f caps, v => ∃ cs : Array Value, v = .func (.func f) #[] cs ∧ VRs w pl rows caps cs.toList
 | .agg l, v => ∃ cs : Array Value, v = .agg cs ∧ VRs w pl rows l cs.toList ∧ ∀ u ∈ cs.toList, u.oneCell' = true
 | .tup l, v => ∃ (cs : Array Value) (us es : List Value), v = .tuple cs ∧ cs.toList = us ++ es ∧ VRs w pl rows l us
def VRs (w : World) (pl : Pl) (rows : Rows) : List PV → List Value → Prop
 | [], vs => vs = []
 | x :: xs, vs => ∃ u us, vs = u :: us ∧ VR w pl rows x u ∧ VRs w pl rows xs us
end
def Row.plain : Row → Prop
 | .vars _ => False
 | .mp _ _ _ _ _ _ _ => False
 | _ => True
def ProvIn (rows : Rows) (p : Prov) : Prop := ∀ q ∈ p, q.1 = 0 ∨ ∃ s, rows q.1 = some s ∧ (q.2 ≤ s.ver ∨ s.row = .gone) ∧ s.row.plain
mutual
def Men (rows : Rows) : PV → Prop
 | .val p _ _ => ProvIn rows p
 | .pvl p _ _ _ _ => ProvIn rows p
 | .rw r => rows r ≠ none
 | .rs r _ _ => rows r ≠ none
 | .ptr r _ => rows r ≠ none
 | .pel r _ _ => rows r ≠ none
 | .fn _ l => Mens rows l
 | .agg l => Mens rows l
 | .tup l => Mens rows l
 | _ => True
def Mens (rows : Rows) : List PV → Prop
 | [] => True
 | v :: l => Men rows v ∧ Mens rows l
end
def Q7n (fr : Nat × Nat) (n : Nat) : Prop := fr.1 = fr.2 ∨ n ≤ fr.1
def Q2y (t : Ty) (fr : Nat × Nat) (n : Nat) : Prop := fr.1 = fr.2 ∨ (t = .int .u8 ∧ n ≤ fr.1)
theorem Q2y.un {t : Ty} {fr : Nat × Nat} {n : Nat} (h : Q2y t fr n) : Q7n fr n := h.imp id fun h => h.2
def valAg (ty : Ty) (cs : List Value) : Value := match ty with
 | .prod _ _ | .unit => .agg cs.toArray
 | _ => cs.headD undef
def ArrAt (w : World) (S : Nat → Prop) (loc : Option (Nat × Nat)) (ok : Prop) (t : Ty) (l : List t.D) : Prop := match loc with
 | none => l = []
 | some (b, o) => ∃ (arr : Array Value) (T : TypeId) (fr : Nat × Nat), w.heap[b]? = some (Obj.cells arr T fr) ∧ o + l.length * t.size ≤ arr.size ∧ Q2y t fr arr.size ∧
   (ok → ∀ (i : Nat) (x : t.D), l[i]? = some x → ∃ es, RD w S t x es ∧ Q1e w ⟨b, o + i * t.size, none⟩ es)
def SlAt (w : World) (loc : Option (Nat × Nat)) (sz off n : Nat) (v : Value) : Prop :=
 ∃ A c, v = .slice A n c ∧ n ≤ c ∧ (0 < c → ∃ b o, loc = some (b, o) ∧ A = some ⟨b, o + off * sz, none⟩ ∧
   ∃ (arr : Array Value) (T : TypeId) (fr : Nat × Nat), w.heap[b]? = some (Obj.cells arr T fr) ∧ o + (off + c) * sz ≤ arr.size ∧ c ≤ 9223372036854775807)
def FldR (w : World) (S : Nat → Prop) (ok : Prop) : (t : Ty) → t.D → List Value → List Nat → Prop
 | .slice t, l, cs, bs => ∃ u loc, cs = [u] ∧ u.oneCell' = true ∧ ArrAt w S loc ok t l ∧ SlAt w loc t.size 0 l.length u ∧ bs = (loc.map (·.1)).toList
 | .prod a b, x, cs, bs => ∃ c1 c2 b1 b2, cs = c1 ++ c2 ∧ bs = b1 ++ b2 ∧ FldR w S ok a x.1 c1 b1 ∧ FldR w S ok b x.2 c2 b2
 | t, x, cs, bs => bs = [] ∧ RD w (fun _ => False) t x cs
def HV (w : World) (S : Nat → Prop) (ok : Prop) (bx : Bool) (t : Ty) (x : t.D) (u : Value) (bs : List Nat) : Prop := match bx with
 | false => FldR w S ok t x [u] bs
 | true => ∃ (b : Nat) (bs' : List Nat) (arr : Array Value) (T : TypeId) (fr : Nat × Nat), u = .pointer (some ⟨b, 0, none⟩) ∧ bs = b :: bs' ∧ w.heap[b]? = some (Obj.cells arr T fr) ∧ Q7n fr arr.size ∧
   (∀ v ∈ arr.toList, v.oneCell' = true) ∧ FldR w S ok t x arr.toList bs'
def KeyR (w : World) (kt : Ty) (k : kt.D) (u : Value) : Prop := ∃ cs, RD w (fun _ => False) kt k cs ∧ u = valAg kt cs
def Ents (w : World) (S : Nat → Prop) (ok : Prop) (kt vt : Ty) (bx : Bool) : List (kt.D × vt.D) → List MapEntry → List Nat → Prop
 | [], es, bs => es = [] ∧ bs = []
 | (k, v) :: l, es, bs => ∃ e es' b1 b2, es = e :: es' ∧ bs = b1 ++ b2 ∧ KeyR w kt k e.key ∧ HV w S ok bx vt v e.val b1 ∧ Ents w S ok kt vt bx l es' b2
def tkPV (bx : Bool) (r : Nat) : PV := if bx then .ptr r 0 else .rw r
def Taken (w : World) (pl : Pl) (rows : Rows) (kt : Ty) (bx : Bool) (tk : Option (kt.D × Nat)) (st : List MapEntry) : Prop := match tk with
 | none => st = []
 | some (k, r) => Men rows (tkPV bx r) ∧ ((bx = false ∧ st = []) ∨ ∃ e, st = [e] ∧ KeyR w kt k e.key ∧ VR w pl rows (tkPV bx r) e.val)
def keysOf {kt vt : Ty} (l : List (kt.D × vt.D)) (tk : Option (kt.D × Nat)) : List kt.D := l.map (·.1) ++ (tk.map (·.1)).toList
def Q15 (es : Array MapEntry) (seen : Array Nat) : Array MapEntry := es.filter fun e => !seen.contains e.born
def MapAt (w : World) (pl : Pl) (r : Nat) (it : Nat) (b : Nat) (es1 st : List MapEntry) : Prop := match it with
 | 0 => ∃ es clock, w.heap[b]? = some (Obj.map es clock) ∧ es.toList.Perm (es1 ++ st) ∧ (∀ e ∈ es.toList, e.born < clock) ∧ (es.toList.map (·.born)).Nodup
 | n + 1 => st = [] ∧ ∃ bm es clock seen, w.heap[b]? = some (Obj.mapIter (some bm) clock seen clock) ∧ pl.hid r bm ∧ w.heap[bm]? = some (Obj.map es clock) ∧ (∀ e ∈ es.toList, e.born < clock) ∧ (es.toList.map (·.born)).Nodup ∧
     (match n with
      | 0 => (Q15 es seen).toList.Perm es1
      | _ + 1 => (es1 = [] ∧ (Q15 es seen).toList = []) ∨ ∃ c rest, es1 = c :: rest ∧ (Q15 es seen).toList.Perm rest ∧ c ∈ es.toList ∧ ∃ seen0 : Array Nat, seen = seen0.push c.born)
def RowR (w : World) (pl : Pl) (rows : Rows) (r : Nat) (s : RowS) : Prop := match s.row with
 | .gone => True
 | .mp it p kt vt bx l tk => ProvIn rows p ∧ keyTy kt = true ∧ ∃ b es1 st bs, pl.loc r = some (b, 0) ∧ MapAt w pl r it b es1 st ∧ Ents w (Safe w pl rows p) (okProv rows p = true) kt vt bx l es1 bs ∧
   Taken w pl rows kt bx tk st ∧ (keysOf l tk).Nodup ∧ bs.Nodup ∧ (∀ x ∈ bs, pl.hid r x)
 | .arr p t l => ProvIn rows p ∧ (match pl.loc r with
   | none => l = []
   | some (b, o) => ∃ (arr : Array Value) (T : TypeId) (fr : Nat × Nat), w.heap[b]? = some (Obj.cells arr T fr) ∧ o + l.length * t.size ≤ arr.size ∧ Q2y t fr arr.size ∧
     (okProv rows p = true → ∀ (i : Nat) (x : t.D), l[i]? = some x → ∃ es, RD w (Safe w pl rows p) t x es ∧ Q1e w ⟨b, o + i * t.size, none⟩ es))
 | .vars l => Mens rows l ∧ ∃ (b : Nat) (arr : Array Value) (T : TypeId) (fr : Nat × Nat), pl.loc r = some (b, 0) ∧ w.heap[b]? = some (Obj.cells arr T fr) ∧ arr.size = l.length ∧ Q7n fr arr.size ∧
   ∀ (j : Nat) (x : PV), l[j]? = some x → ∃ v, arr[j]? = some v ∧ v.oneCell' = true ∧ (okPV rows x = true → VR w pl rows x v)
structure Rel (B : Nat) (G : Nat → Prop) (pl : Pl) (σ : St) (a : Act) (w : World) : Prop where
 env : ∀ s v, σ.env s = some v → s < a.tmps.size ∧ Men σ.rows v ∧ (okPV σ.rows v = true → VR w pl σ.rows v (a.tmps.getD s undef))
 rows : ∀ r s, σ.rows r = some s → RowR w pl σ.rows r s
 zero : σ.rows 0 = none
 inj : ∀ r r' s s' b o o', σ.rows r = some s → s.live → σ.rows r' = some s' → s'.live → pl.at r b o → pl.at r' b o' → r = r'
 own : ∀ r s b o, σ.rows r = some s → s.live → pl.at r b o → b < w.heap.size ∧ ¬ pl.Z b ∧ (B ≤ b ∨ G b)
 defers : a.defers = []
def Kin (s s' : RowS) : Prop := s.ver ≤ s'.ver ∧ (s' = s ∨ (s'.row = .gone ∧ ∀ l, s.row ≠ .vars l) ∨
 (∃ p p' t l l', s.row = .arr p t l ∧ s'.row = .arr p' t l' ∧ l'.length = l.length ∧ s.ver < s'.ver) ∨
 (∃ l l', s.row = .vars l ∧ s'.row = .vars l' ∧ l'.length = l.length ∧ s.ver < s'.ver) ∨
 (∃ it it' p p' kt vt bx l l' tk tk', s.row = .mp it p kt vt bx l tk ∧ s'.row = .mp it' p' kt vt bx l' tk' ∧ (it = 0 ↔ it' = 0) ∧ s.ver < s'.ver))
structure Step (w : World) (pl : Pl) (rows : Rows) (w' : World) (pl' : Pl) (rows' : Rows) : Prop where
 z : pl'.Z = pl.Z
 l : pl'.L = pl.L
 size : w.heap.size ≤ w'.heap.size
 kin : ∀ r s, rows r = some s → ∃ s', rows' r = some s' ∧ Kin s s' ∧ (s'.live → pl'.loc r = pl.loc r)
 hid : ∀ r s, rows r = some s → rows' r = some s → s.live → pl'.hid r = pl.hid r
 fresh : ∀ r s', rows' r = some s' → s'.live → ∀ b o, pl'.at r b o → (∃ s o', rows r = some s ∧ s.live ∧ pl.at r b o') ∨
  w.heap.size ≤ b ∨ ∃ r0 s0 s1 o0, rows r0 = some s0 ∧ s0.live ∧ rows' r0 = some s1 ∧ s1 ≠ s0 ∧ pl.at r0 b o0
 heap : ∀ b, b < w.heap.size → (∀ r s o, rows r = some s → s.live → pl.at r b o → rows' r = some s) → w'.heap[b]? = w.heap[b]?
 blk : ∀ (b : Nat) (arr : Array Value) (T : TypeId) (fr : Nat × Nat), w.heap[b]? = some (Obj.cells arr T fr) → ∃ (arr' : Array Value) (T' : TypeId) (fr' : Nat × Nat), w'.heap[b]? = some (Obj.cells arr' T' fr') ∧ arr'.size = arr.size
 zero : rows 0 = none
theorem Q2l {rows : Rows} : ∀ {p : Prov}, okProv rows p = true → ∀ q ∈ p, ∀ s, rows q.1 = some s → s.live ∧ s.ver = q.2
 | [], _, _, hq, _, _ => by cases hq
 | (r, n) :: l, h, q, hq, s, hs => by
   simp only [okProv, Bool.and_eq_true] at h
   rcases List.mem_cons.1 hq with rfl | hq
   ·rw [hs] at h
    obtain ⟨h1, _⟩ := h
    obtain ⟨ver, row⟩ := s
    cases row <;> simp at h1 <;> simp [RowS.live, h1]
   ·exact Q2l h.2 q hq s hs
theorem Q33 {rows : Rows} : ∀ {p : Prov}, (∀ q ∈ p, ∀ s, rows q.1 = some s → s.live ∧ s.ver = q.2) → okProv rows p = true
 | [], _ => rfl
 | (r, n) :: l, h => by
   simp only [okProv, Bool.and_eq_true]
   refine ⟨?_, Q33 fun q hq => h q (List.mem_cons_of_mem _ hq)⟩
   cases hs : rows r with
   | none => rfl
   | some s =>
     obtain ⟨h1, h2⟩ := h (r, n) List.mem_cons_self s hs
     obtain ⟨ver, row⟩ := s
     cases row <;> simp_all [RowS.live]
section
variable {w w' : World} {pl pl' : Pl} {rows rows' : Rows}
theorem Step.kept (S : Step w pl rows w' pl' rows') {p : Prov} (hp : ProvIn rows p) (h : okProv rows' p = true) : ∀ q ∈ p, ∀ s, rows q.1 = some s → rows' q.1 = some s := by
 intro q hq s hs
 obtain ⟨s', hs', hk, _⟩ := S.kin _ _ hs
 obtain ⟨hl, hv⟩ := Q2l h q hq s' hs'
 obtain ⟨s1, e1, e2, e3⟩ : ∃ s, rows q.1 = some s ∧ (q.2 ≤ s.ver ∨ s.row = .gone) ∧ s.row.plain := by
  rcases hp q hq with h0 | h1
  ·rw [h0, S.zero] at hs; cases hs
  ·exact h1
 rw [hs] at e1
 obtain rfl := oi e1
 rcases hk.2 with rfl | ⟨hg, _⟩ | ⟨p1, p2, t, l, l', h1, h2, h3, h4⟩ | ⟨l, l', h1, _⟩ | ⟨_, _, _, _, _, _, _, _, _, _, _, h1, _⟩
 ·exact hs'
 ·exact absurd hg hl
 ·rcases e2 with e2 | e2
  ·omega
  ·rw [e2] at h1; cases h1
 ·rw [h1] at e3; exact e3.elim
 ·rw [h1] at e3; exact e3.elim
theorem Step.okProv (S : Step w pl rows w' pl' rows') {p : Prov} (hp : ProvIn rows p) (h : okProv rows' p = true) : PM.okProv rows p = true :=
 Q33 fun q hq s hs => Q2l h q hq s (S.kept hp h q hq s hs)
theorem Step.safe (S : Step w pl rows w' pl' rows') {p : Prov} (hp : ProvIn rows p) (h : PM.okProv rows' p = true) {b : Nat} (hs : Safe w pl rows p b) :
  Safe w' pl' rows' p b ∧ w'.heap[b]? = w.heap[b]? := by
 obtain ⟨h1, h2, h3⟩ := hs
 refine ⟨⟨Nat.lt_of_lt_of_le h1 S.size, by rw [S.z, S.l]; exact h2, fun r s' o hr hl hloc => ?_⟩, ?_⟩
 ·rcases S.fresh r s' hr hl b o hloc with ⟨s, o', g1, g2, g3⟩ | hge | ⟨r0, s0, s1, o0, g1, g2, g3, g4, g5⟩
  ·exact h3 r s o' g1 g2 g3
  ·omega
  ·obtain ⟨q, hq, rfl⟩ := h3 r0 s0 o0 g1 g2 g5
   have := S.kept hp h q hq s0 g1
   rw [g3] at this
   exact absurd (oi this) g4
 ·refine S.heap b h1 fun r s o hr hl hloc => ?_
  obtain ⟨q, hq, rfl⟩ := h3 r s o hr hl hloc
  exact S.kept hp h q hq s hr
theorem Step.sliceOf (S : Step w pl rows w' pl' rows') {r sz off n : Nat} {v : Value} (hloc : pl'.loc r = pl.loc r) (h : Q29 w pl r sz off n v) : Q29 w' pl' r sz off n v := by
 obtain ⟨A, c, h1, h2, h3⟩ := h
 refine ⟨A, c, h1, h2, fun hc => ?_⟩
 obtain ⟨b, o, g1, g2, arr, T, fr, g3, g4⟩ := h3 hc
 obtain ⟨arr', T', fr', e1, e2⟩ := S.blk b arr T fr g3
 exact ⟨b, o, hloc.trans g1, g2, arr', T', fr', e1, by omega⟩
theorem Step.rd (S : Step w pl rows w' pl' rows') {p : Prov} (hp : ProvIn rows p) (h : PM.okProv rows' p = true) {t : Ty} {x : t.D} {cs : List Value}
  (hr : RD w (Safe w pl rows p) t x cs) : RD w' (Safe w' pl' rows' p) t x cs :=
 Qn (fun _ hb => (S.safe hp h hb).1) (fun _ hb => (S.safe hp h hb).2) hr
theorem Step.arr (S : Step w pl rows w' pl' rows') {r n : Nat} {p : Prov} {t : Ty} {l : List t.D} (hm : rows r ≠ none) (h : rows' r = some ⟨n, .arr p t l⟩) :
  ∃ n0 p0 l0, rows r = some ⟨n0, .arr p0 t l0⟩ ∧ l.length = l0.length ∧ pl'.loc r = pl.loc r := by
 obtain ⟨s, hs⟩ := Option.ne_none_iff_exists'.1 hm
 obtain ⟨s', e, hk, hloc⟩ := S.kin r s hs
 rw [h] at e
 obtain rfl := oi e
 have hl := hloc (by simp [RowS.live])
 obtain ⟨n0, row⟩ := s
 rcases hk.2 with e | ⟨hg, _⟩ | ⟨p1, p2, t', l1, l2, e1, e2, e3, _⟩ | ⟨l1, l2, _, e1, _⟩ | ⟨_, _, _, _, _, _, _, _, _, _, _, _, e1, _⟩
 ·cases e; exact ⟨n, p, l, hs, rfl, hl⟩
 ·cases hg
 ·simp only at e1 e2
  cases e2
  subst e1
  exact ⟨n0, p1, l1, hs, e3, hl⟩
 ·cases e1
 ·cases e1
theorem Step.vars (S : Step w pl rows w' pl' rows') {r n : Nat} {l : List PV} (hm : rows r ≠ none) (h : rows' r = some ⟨n, .vars l⟩) :
  ∃ n0 l0, rows r = some ⟨n0, .vars l0⟩ ∧ l.length = l0.length ∧ pl'.loc r = pl.loc r := by
 obtain ⟨s, hs⟩ := Option.ne_none_iff_exists'.1 hm
 obtain ⟨s', e, hk, hloc⟩ := S.kin r s hs
 rw [h] at e
 obtain rfl := oi e
 have hl := hloc (by simp [RowS.live])
 obtain ⟨n0, row⟩ := s
 rcases hk.2 with e | ⟨hg, _⟩ | ⟨p1, p2, t', l1, l2, e1, e2, e3, _⟩ | ⟨l1, l2, e0, e1, e2⟩ | ⟨_, _, _, _, _, _, _, _, _, _, _, _, e1, _⟩
 ·cases e; exact ⟨n, l, hs, rfl, hl⟩
 ·cases hg
 ·cases e2
 ·cases e1
  simp only at e0
  subst e0
  exact ⟨n0, l1, hs, e2.1, hl⟩
 ·cases e1
theorem Step.mp (S : Step w pl rows w' pl' rows') {r n it : Nat} {bx : Bool} {p : Prov} {kt vt : Ty} {l : List (kt.D × vt.D)} {tk : Option (kt.D × Nat)} (hm : rows r ≠ none) (h : rows' r = some ⟨n, .mp it p kt vt bx l tk⟩) :
  (∃ n0 it0 p0 l0 tk0, (it0 = 0 ↔ it = 0) ∧ rows r = some ⟨n0, .mp it0 p0 kt vt bx l0 tk0⟩) ∧ pl'.loc r = pl.loc r := by
 obtain ⟨s, hs⟩ := Option.ne_none_iff_exists'.1 hm
 obtain ⟨s', e, hk, hloc⟩ := S.kin r s hs
 rw [h] at e
 obtain rfl := oi e
 have hl := hloc (by simp [RowS.live])
 obtain ⟨n0, row⟩ := s
 rcases hk.2 with e | ⟨hg, _⟩ | ⟨p1, p2, t', l1, l2, e1, e2, e3, _⟩ | ⟨l1, l2, e0, e1, e2⟩ | ⟨_, _, _, _, _, _, _, _, _, _, _, e0, e1, e3, _⟩
 ·cases e; exact ⟨⟨n, it, p, l, tk, Iff.rfl, hs⟩, hl⟩
 ·cases hg
 ·cases e2
 ·cases e1
 ·simp only at e1 e0
  cases e1
  subst e0
  exact ⟨⟨n0, _, _, _, _, e3, hs⟩, hl⟩
mutual
theorem Step.vr (S : Step w pl rows w' pl' rows') : ∀ {v : PV} {u : Value}, Men rows v → okPV rows' v = true → (okPV rows v = true → VR w pl rows v u) → VR w' pl' rows' v u
 | .val p t x, u, hm, hk, h => S.rd hm hk (h (S.okProv hm hk))
 | .nils, _, _, _, h => h rfl
 | .nilp, _, _, _, h => h rfl
 | .lit _, _, _, _, h => h rfl
 | .und, _, _, _, h => h rfl
 | .rw r, u, hm, _, h => by
   refine ⟨⟨(h rfl).1.1, fun n p kt vt bx l tk hr => ?_⟩, fun n p t l hr => ?_⟩
   ·obtain ⟨⟨n0, it0, p0, l0, tk0, e0, e1⟩, e2⟩ := S.mp hm hr
    obtain rfl := e0.2 rfl
    obtain ⟨b, g1, g2⟩ := (h rfl).1.2 _ _ _ _ _ _ _ e1
    exact ⟨b, e2.trans g1, g2⟩
   obtain ⟨n0, p0, l0, e1, e2, e3⟩ := S.arr hm hr
   have := (h rfl).2 n0 p0 t l0 e1
   rw [e2]
   exact S.sliceOf e3 this
 | .rs r off len, u, hm, _, h => by
   refine ⟨(h rfl).1, fun n p t l hr => ?_⟩
   obtain ⟨n0, p0, l0, e1, e2, e3⟩ := S.arr hm hr
   obtain ⟨g1, g2⟩ := (h rfl).2 n0 p0 t l0 e1
   exact ⟨by omega, S.sliceOf e3 g2⟩
 | .ptr r off, u, hm, _, h => by
   refine ⟨⟨(h rfl).1.1, (h rfl).1.2.1, fun n i p kt vt bx l tk hr => ?_⟩, fun n l hr => ?_⟩
   ·obtain ⟨⟨n0, it0, p0, l0, tk0, e0, e1⟩, e2⟩ := S.mp hm hr
    obtain ⟨i0, rfl⟩ : ∃ i0, it0 = i0 + 1 := ⟨it0 - 1, by omega⟩
    obtain ⟨b, g1, g2⟩ := (h rfl).1.2.2 _ _ _ _ _ _ _ _ e1
    exact ⟨b, e2.trans g1, g2⟩
   obtain ⟨n0, l0, e1, e2, e3⟩ := S.vars hm hr
   obtain ⟨b, g1, g2⟩ := (h rfl).2 n0 l0 e1
   exact ⟨b, e3.trans g1, g2⟩
 | .pel r i off, u, hm, _, h => by
   refine ⟨(h rfl).1, fun n p t l hr => ?_⟩
   obtain ⟨n0, p0, l0, e1, e2, e3⟩ := S.arr hm hr
   obtain ⟨g1, b, o, g2, g3⟩ := (h rfl).2 n0 p0 t l0 e1
   exact ⟨by omega, b, o, e3.trans g2, g3⟩
 | .pvl p t l i off, u, hm, hk, h => by
   obtain ⟨x, es, g1, g2, ad, g3, g4, g5⟩ := h (S.okProv hm hk)
   have hs := S.safe hm hk g4
   exact ⟨x, es, g1, S.rd hm hk g2, ad, g3, hs.1, g5.same hs.2⟩
 | .fn f l, u, hm, hk, h => by
   obtain ⟨hok, hv⟩ := S.vrs (l := l) hm hk
   obtain ⟨cs, e, g⟩ := h hok
   exact ⟨cs, e, hv _ g⟩
 | .agg l, u, hm, hk, h => by
   obtain ⟨hok, hv⟩ := S.vrs (l := l) hm hk
   obtain ⟨cs, e, g, g1⟩ := h hok
   exact ⟨cs, e, hv _ g, g1⟩
 | .tup l, u, hm, hk, h => by
   obtain ⟨hok, hv⟩ := S.vrs (l := l) hm hk
   obtain ⟨cs, us, es, e, e2, g⟩ := h hok
   exact ⟨cs, us, es, e, e2, hv _ g⟩
theorem Step.vrs (S : Step w pl rows w' pl' rows') : ∀ {l : List PV}, Mens rows l → okPV.okAll rows' l = true → okPV.okAll rows l = true ∧ ∀ us, VRs w pl rows l us → VRs w' pl' rows' l us
 | [], _, _ => ⟨rfl, fun _ h => h⟩
 | v :: l, hm, hk => by
   simp only [okPV.okAll, Bool.and_eq_true] at hk ⊢
   obtain ⟨h1, h2⟩ := S.vrs (l := l) hm.2 hk.2
   refine ⟨⟨S.ok hm.1 hk.1, h1⟩, ?_⟩
   rintro us ⟨u, us', rfl, g1, g2⟩
   exact ⟨u, us', rfl, S.vr hm.1 hk.1 (fun _ => g1), h2 _ g2⟩
theorem Step.ok (S : Step w pl rows w' pl' rows') : ∀ {v : PV}, Men rows v → okPV rows' v = true → okPV rows v = true
 | .val _ _ _, hm, hk => S.okProv hm hk
 | .pvl _ _ _ _ _, hm, hk => S.okProv hm hk
 | .nils, _, _ => rfl
 | .nilp, _, _ => rfl
 | .lit _, _, _ => rfl
 | .und, _, _ => rfl
 | .rw _, _, _ => rfl
 | .rs _ _ _, _, _ => rfl
 | .ptr _ _, _, _ => rfl
 | .pel _ _ _, _, _ => rfl
 | .fn _ l, hm, hk => (S.vrs (l := l) hm hk).1
 | .agg l, hm, hk => (S.vrs (l := l) hm hk).1
 | .tup l, hm, hk => (S.vrs (l := l) hm hk).1
end
theorem Step.some_ (S : Step w pl rows w' pl' rows') {r : Nat} (h : rows r ≠ none) : rows' r ≠ none := by
 obtain ⟨s, hs⟩ := Option.ne_none_iff_exists'.1 h
 obtain ⟨s', e, _⟩ := S.kin r s hs
 rw [e]; simp
theorem Kin.live {s s' : RowS} (h : Kin s s') (hl : s'.live) : s.live := by
 intro hg
 rcases h.2 with rfl | ⟨h1, _⟩ | ⟨_, _, _, _, _, h1, _⟩ | ⟨_, _, h1, _⟩ | ⟨_, _, _, _, _, _, _, _, _, _, _, h1, _⟩
 ·exact hl hg
 ·exact hl h1
 ·rw [hg] at h1; cases h1
 ·rw [hg] at h1; cases h1
 ·rw [hg] at h1; cases h1
theorem Kin.gone {s s' : RowS} (h : Kin s s') (hg : s.row = .gone) : s'.row = .gone := by
 rcases h.2 with rfl | ⟨h1, _⟩ | ⟨_, _, _, _, _, h1, _⟩ | ⟨_, _, h1, _⟩ | ⟨_, _, _, _, _, _, _, _, _, _, _, h1, _⟩
 ·exact hg
 ·exact h1
 ·rw [hg] at h1; cases h1
 ·rw [hg] at h1; cases h1
 ·rw [hg] at h1; cases h1
theorem Kin.trans {a b c : RowS} (h : Kin a b) (k : Kin b c) : Kin a c := by
 refine ⟨Nat.le_trans h.1 k.1, ?_⟩
 rcases k.2 with rfl | ⟨k1, k2⟩ | ⟨p1, p2, t, l1, l2, k1, k2, k3, k4⟩ | ⟨l1, l2, k1, k2, k3, k4⟩ | ⟨it, it', p1, p2, kt, vt, bx, l1, l2, t1, t2, k1, k2, k4, k3⟩
 ·exact h.2
 ·rcases h.2 with rfl | ⟨h1, h2⟩ | ⟨q1, q2, t', m1, m2, h1, h2, h3, h4⟩ | ⟨m1, m2, h1, h2, h3, h4⟩ | ⟨_, _, _, _, _, _, _, _, _, _, _, h1, _⟩
  ·exact .inr (.inl ⟨k1, k2⟩)
  ·exact .inr (.inl ⟨k1, h2⟩)
  ·exact .inr (.inl ⟨k1, by rw [h1]; simp⟩)
  ·exact absurd h2 (k2 m2)
  ·exact .inr (.inl ⟨k1, by rw [h1]; simp⟩)
 ·rcases h.2 with rfl | ⟨h1, h2⟩ | ⟨q1, q2, t', m1, m2, h1, h2, h3, h4⟩ | ⟨m1, m2, h1, h2, h3, h4⟩ | ⟨_, _, _, _, _, _, _, _, _, _, _, h1, h2, _⟩
  ·exact .inr (.inr (.inl ⟨p1, p2, t, l1, l2, k1, k2, k3, k4⟩))
  ·rw [h1] at k1; cases k1
  ·rw [h2] at k1
   cases k1
   exact .inr (.inr (.inl ⟨q1, p2, t, m1, l2, h1, k2, by omega, by omega⟩))
  ·rw [h2] at k1; cases k1
  ·rw [h2] at k1; cases k1
 ·rcases h.2 with rfl | ⟨h1, h2⟩ | ⟨q1, q2, t', m1, m2, h1, h2, h3, h4⟩ | ⟨m1, m2, h1, h2, h3, h4⟩ | ⟨_, _, _, _, _, _, _, _, _, _, _, h1, h2, _⟩
  ·exact .inr (.inr (.inr (.inl ⟨l1, l2, k1, k2, k3, k4⟩)))
  ·rw [h1] at k1; cases k1
  ·rw [h2] at k1; cases k1
  ·rw [h2] at k1
   cases k1
   exact .inr (.inr (.inr (.inl ⟨m1, l2, h1, k2, by omega, by omega⟩)))
  ·rw [h2] at k1; cases k1
 ·rcases h.2 with rfl | ⟨h1, h2⟩ | ⟨q1, q2, t', m1, m2, h1, h2, h3, h4⟩ | ⟨m1, m2, h1, h2, h3, h4⟩ | ⟨_, _, _, _, _, _, _, _, _, _, _, h1, h2, h4, h3⟩
  ·exact .inr (.inr (.inr (.inr ⟨it, it', p1, p2, kt, vt, bx, l1, l2, t1, t2, k1, k2, k4, k3⟩)))
  ·rw [h1] at k1; cases k1
  ·rw [h2] at k1; cases k1
  ·rw [h2] at k1; cases k1
  ·rw [h2] at k1
   cases k1
   exact .inr (.inr (.inr (.inr ⟨_, _, _, _, _, _, _, _, _, _, _, h1, k2, h4.trans k4, by omega⟩)))
theorem Kin.back {a b : RowS} (h : Kin a b) (k : Kin b a) (hl : a.live) : b = a := by
 rcases h.2 with rfl | ⟨h1, h2⟩ | ⟨q1, q2, t', m1, m2, h1, h2, h3, h4⟩ | ⟨m1, m2, h1, h2, h3, h4⟩ | ⟨_, _, _, _, _, _, _, _, _, _, _, h1, h2, h4, h3⟩
 ·rfl
 ·exact absurd (k.gone h1) hl
 ·have := k.1; omega
 ·have := k.1; omega
 ·have := k.1; omega
theorem Step.provIn (S : Step w pl rows w' pl' rows') {p : Prov} (hp : ProvIn rows p) : ProvIn rows' p := by
 intro q hq
 rcases hp q hq with h | ⟨s, e1, e2, e3⟩
 ·exact .inl h
 ·obtain ⟨s', g1, g2, _⟩ := S.kin _ s e1
  refine .inr ⟨s', g1, e2.elim (fun e2 => .inl (Nat.le_trans e2 g2.1)) (fun e2 => .inr (g2.gone e2)), ?_⟩
  rcases g2.2 with rfl | ⟨hg, _⟩ | ⟨p1, p2, t', l1, l2, h1, h2, _⟩ | ⟨l1, l2, h1, h2, _⟩ | ⟨_, _, _, _, _, _, _, _, _, _, _, h1, _⟩
  ·exact e3
  ·rw [hg]; trivial
  ·rw [h2]; trivial
  ·rw [h1] at e3; exact e3.elim
  ·rw [h1] at e3; exact e3.elim
mutual
theorem Step.men (S : Step w pl rows w' pl' rows') : ∀ {v : PV}, Men rows v → Men rows' v
 | .val _ _ _, h => S.provIn h
 | .pvl _ _ _ _ _, h => S.provIn h
 | .nils, _ => trivial
 | .nilp, _ => trivial
 | .lit _, _ => trivial
 | .und, _ => trivial
 | .rw _, h => S.some_ h
 | .rs _ _ _, h => S.some_ h
 | .ptr _ _, h => S.some_ h
 | .pel _ _ _, h => S.some_ h
 | .fn _ l, h => S.mens (l := l) h
 | .agg l, h => S.mens (l := l) h
 | .tup l, h => S.mens (l := l) h
theorem Step.mens (S : Step w pl rows w' pl' rows') : ∀ {l : List PV}, Mens rows l → Mens rows' l
 | [], _ => trivial
 | _ :: _, h => ⟨S.men h.1, S.mens h.2⟩
end
theorem Step.trans' {w w1 w2 : World} {pl pl1 pl2 : Pl} {rows rows1 rows2 : Rows} (S : Step w pl rows w1 pl1 rows1) (S' : Step w1 pl1 rows1 w2 pl2 rows2) : Step w pl rows w2 pl2 rows2 := by
 have kin2 : ∀ r s, rows r = some s → ∃ s1 s2, rows1 r = some s1 ∧ rows2 r = some s2 ∧ Kin s s1 ∧ Kin s1 s2 ∧ (s2.live → pl2.loc r = pl1.loc r ∧ pl1.loc r = pl.loc r) := by
  intro r s hr
  obtain ⟨s1, h1, h2, h3⟩ := S.kin r s hr
  obtain ⟨s2, k1, k2, k3⟩ := S'.kin r s1 h1
  exact ⟨s1, s2, h1, k1, h2, k2, fun hl => ⟨k3 hl, h3 (k2.live hl)⟩⟩
 have same2 : ∀ r s, rows r = some s → rows2 r = some s → s.live → rows1 r = some s := by
  intro r s hr h2 hl
  obtain ⟨s1, s2, h1, k1, h2', k2, h3⟩ := kin2 r s hr
  rw [h2] at k1
  cases k1
  rw [h1, h2'.back k2 hl]
 have chg : ∀ r0 s0 s1, rows r0 = some s0 → s0.live → rows1 r0 = some s1 → s1 ≠ s0 → ∃ s2, rows2 r0 = some s2 ∧ s2 ≠ s0 := by
  intro r0 s0 s1 g1 g2 g3 g4
  obtain ⟨s1', s2, h1, k1, h2', k2, h3⟩ := kin2 r0 s0 g1
  refine ⟨s2, k1, fun e => ?_⟩
  subst e
  have := same2 r0 _ g1 k1 g2
  rw [g3] at this
  exact g4 (oi this)
 have fresh2 : ∀ r s1, rows1 r = some s1 → s1.live → ∀ b o, pl1.at r b o → (∃ s o', rows r = some s ∧ s.live ∧ pl.at r b o') ∨
   w.heap.size ≤ b ∨ ∃ r0 s0 s1 o0, rows r0 = some s0 ∧ s0.live ∧ rows2 r0 = some s1 ∧ s1 ≠ s0 ∧ pl.at r0 b o0 := by
  intro r s1 h1 h2 b o h3
  rcases S.fresh r s1 h1 h2 b o h3 with h | h | ⟨r0, s0, s1', o0, g1, g2, g3, g4, g5⟩
  ·exact .inl h
  ·exact .inr (.inl h)
  ·obtain ⟨s2, e1, e2⟩ := chg r0 s0 s1' g1 g2 g3 g4
   exact .inr (.inr ⟨r0, s0, s2, o0, g1, g2, e1, e2, g5⟩)
 refine ⟨S'.z.trans S.z, S'.l.trans S.l, Nat.le_trans S.size S'.size, fun r s hr => ?_, fun r s h1 h2 hl => ?_, fun r s2 h2 hl b o h3 => ?_, fun b hb h => ?_, fun b arr Te fr h => ?_, S.zero⟩
 ·obtain ⟨s1, s2, h1, k1, h2, k2, h3⟩ := kin2 r s hr
  exact ⟨s2, k1, h2.trans k2, fun hl => (h3 hl).1.trans (h3 hl).2⟩
 ·have := same2 r s h1 h2 hl
  exact (S'.hid r s this h2 hl).trans (S.hid r s h1 this hl)
 ·rcases S'.fresh r s2 h2 hl b o h3 with ⟨s1, o1, g1, g2, g3⟩ | h | ⟨r0, s0, s1, o0, g1, g2, g3, g4, g5⟩
  ·exact fresh2 r s1 g1 g2 b o1 g3
  ·exact .inr (.inl (Nat.le_trans S.size h))
  ·rcases fresh2 r0 s0 g1 g2 b o0 g5 with ⟨s, o', e1, e2, e3⟩ | h | h
   ·refine .inr (.inr ⟨r0, s, s1, o', e1, e2, g3, fun e => ?_, e3⟩)
    subst e
    have := same2 r0 _ e1 g3 e2
    rw [g1] at this
    exact g4 (oi this).symm
   ·exact .inr (.inl h)
   ·exact .inr (.inr h)
 ·have same : ∀ r s o, rows r = some s → s.live → pl.at r b o → rows1 r = some s := fun r s o hr hl hloc => same2 r s hr (h r s o hr hl hloc) hl
  have e1 := S.heap b hb same
  have e2 := S'.heap b (Nat.lt_of_lt_of_le hb S.size) fun r s o hr hl hloc => by
   rcases S.fresh r s hr hl b o hloc with ⟨s0, o', g1, g2, g3⟩ | h' | ⟨r0, s0, s1, o0, g1, g2, g3, g4, g5⟩
   ·have hs := same r s0 o' g1 g2 g3
    rw [hr] at hs
    cases hs
    exact h r s o' g1 g2 g3
   ·omega
   ·have := same r0 s0 o0 g1 g2 g5
    rw [g3] at this
    exact absurd (oi this) g4
  exact e2.trans e1
 ·obtain ⟨arr1, T1, fr1, h1, h2⟩ := S.blk b arr Te fr h
  obtain ⟨arr2, T2, fr2, h3, h4⟩ := S'.blk b arr1 T1 fr1 h1
  exact ⟨arr2, T2, fr2, h3, by omega⟩
theorem Step.mk0 {w w' : World} {pl pl' : Pl} {rows rows' : Rows} (z : pl'.Z = pl.Z) (l : pl'.L = pl.L) (size : w.heap.size ≤ w'.heap.size)
  (kin : ∀ r s, rows r = some s → ∃ s', rows' r = some s' ∧ Kin s s' ∧ (s'.live → pl'.loc r = pl.loc r))
  (hid : ∀ r, rows r ≠ none → pl'.hid r = pl.hid r) (hidn : ∀ r s, rows r = none → rows' r = some s → s.live → ∀ b, ¬ pl'.hid r b)
  (fresh : ∀ r s', rows r = none → rows' r = some s' → s'.live → ∀ b o, pl'.loc r = some (b, o) →
   w.heap.size ≤ b ∨ ∃ r0 s0 n o0, rows r0 = some s0 ∧ s0.live ∧ rows' r0 = some ⟨n, .gone⟩ ∧ pl.loc r0 = some (b, o0))
  (heap : ∀ b, b < w.heap.size → (∀ r s o, rows r = some s → s.live → pl.at r b o → rows' r = some s) → w'.heap[b]? = w.heap[b]?)
  (blk : ∀ (b : Nat) (arr : Array Value) (T : TypeId) (fr : Nat × Nat), w.heap[b]? = some (Obj.cells arr T fr) → ∃ (arr' : Array Value) (T' : TypeId) (fr' : Nat × Nat), w'.heap[b]? = some (Obj.cells arr' T' fr') ∧ arr'.size = arr.size)
  (zero : rows 0 = none) : Step w pl rows w' pl' rows' := by
 refine ⟨z, l, size, kin, fun r s h1 _ _ => hid r (by rw [h1]; simp), fun r s' h1 h2 b o h3 => ?_, heap, blk, zero⟩
 by_cases hr : rows r = none
 ·rcases h3 with h3 | h3
  ·rcases fresh r s' hr h1 h2 b o h3 with h | ⟨r0, s0, n, o0, g1, g2, g3, g4⟩
   ·exact .inr (.inl h)
   ·exact .inr (.inr ⟨r0, s0, _, o0, g1, g2, g3, fun e => g2 (by rw [← e]), .inl g4⟩)
  ·exact absurd h3 (hidn r s' hr h1 h2 b)
 ·obtain ⟨s, hs⟩ := Option.ne_none_iff_exists'.1 hr
  obtain ⟨s2, e1, e2, e3⟩ := kin r s hs
  rw [h1] at e1
  cases e1
  refine .inl ⟨s, o, hs, e2.live h2, ?_⟩
  rcases h3 with h3 | h3
  ·exact .inl ((e3 h2) ▸ h3)
  ·exact .inr ((hid r hr) ▸ h3)
theorem Qq {rows : Rows} : ∀ {l : List PV}, Mens rows l → ∀ v ∈ l, Men rows v
 | _ :: _, h, v, hv => by
   rcases List.mem_cons.1 hv with rfl | hv
   ·exact h.1
   ·exact Qq h.2 v hv
theorem ArrAt.frame {w w' : World} {S S' : Nat → Prop} {loc : Option (Nat × Nat)} {ok ok' : Prop} {t : Ty} {l : List t.D} (h : ArrAt w S loc ok t l)
  (hf : ok' → ok ∧ ∀ b, S b → S' b ∧ w'.heap[b]? = w.heap[b]?) (hb : ∀ b o, loc = some (b, o) → w'.heap[b]? = w.heap[b]?) : ArrAt w' S' loc ok' t l := by
 cases loc with
 | none => exact h
 | some x =>
   obtain ⟨b, o⟩ := x
   obtain ⟨arr, T, fr, g1, g2, g3, g4⟩ := h
   have hbb := hb b o rfl
   refine ⟨arr, T, fr, hbb.trans g1, g2, g3, fun hok i x hx => ?_⟩
   obtain ⟨k0, k⟩ := hf hok
   obtain ⟨es, k1, k2⟩ := g4 k0 i x hx
   exact ⟨es, Qn (fun b hb => (k b hb).1) (fun b hb => (k b hb).2) k1, k2.same hbb⟩
theorem SlAt.frame {w w' : World} {loc : Option (Nat × Nat)} {sz off n : Nat} {v : Value} (h : SlAt w loc sz off n v) (hb : ∀ b o, loc = some (b, o) → w'.heap[b]? = w.heap[b]?) : SlAt w' loc sz off n v := by
 obtain ⟨A, c, h1, h2, h3⟩ := h
 refine ⟨A, c, h1, h2, fun hc => ?_⟩
 obtain ⟨b, o, g1, g2, arr, T, fr, g3, g4⟩ := h3 hc
 exact ⟨b, o, g1, g2, arr, T, fr, (hb b o g1).trans g3, g4⟩
theorem Qb9 {w w' : World} {t : Ty} {x : t.D} {cs : List Value} (h : RD w (fun _ => False) t x cs) : RD w' (fun _ => False) t x cs := Qn (fun _ h => h) (fun _ h => h.elim) h
theorem FldR.frame {w w' : World} {S S' : Nat → Prop} {ok ok' : Prop} (hf : ok' → ok ∧ ∀ b, S b → S' b ∧ w'.heap[b]? = w.heap[b]?) : ∀ {t : Ty} {x : t.D} {cs : List Value} {bs : List Nat}, FldR w S ok t x cs bs →
  (∀ b ∈ bs, w'.heap[b]? = w.heap[b]?) → FldR w' S' ok' t x cs bs := by
 intro t
 induction t with
 | int k => intro x cs bs h hb; exact ⟨h.1, Qb9 h.2⟩
 | bool => intro x cs bs h hb; exact ⟨h.1, Qb9 h.2⟩
 | str => intro x cs bs h hb; exact ⟨h.1, Qb9 h.2⟩
 | unit => intro x cs bs h hb; exact ⟨h.1, Qb9 h.2⟩
 | slice t _ =>
   intro x cs bs h hb
   obtain ⟨u, loc, h1, h2, h3, h4, h5⟩ := h
   have hb' : ∀ b o, loc = some (b, o) → w'.heap[b]? = w.heap[b]? := fun b o e => hb b (by rw [h5, e]; simp)
   exact ⟨u, loc, h1, h2, h3.frame hf hb', h4.frame hb', h5⟩
 | prod a b iha ihb =>
   intro x cs bs h hb
   obtain ⟨c1, c2, b1, b2, h1, h2, h3, h4⟩ := h
   exact ⟨c1, c2, b1, b2, h1, h2, iha h3 fun b h => hb b (by rw [h2]; exact List.mem_append_left _ h), ihb h4 fun b h => hb b (by rw [h2]; exact List.mem_append_right _ h)⟩
theorem HV.frame {w w' : World} {S S' : Nat → Prop} {ok ok' : Prop} (hf : ok' → ok ∧ ∀ b, S b → S' b ∧ w'.heap[b]? = w.heap[b]?) {bx : Bool} {t : Ty} {x : t.D} {u : Value} {bs : List Nat} (h : HV w S ok bx t x u bs)
  (hb : ∀ b ∈ bs, w'.heap[b]? = w.heap[b]?) : HV w' S' ok' bx t x u bs := by
 cases bx with
 | false => exact FldR.frame hf h hb
 | true =>
   obtain ⟨b, bs', arr, T, fr, h1, h2, h3, h4, h5, h6⟩ := h
   exact ⟨b, bs', arr, T, fr, h1, h2, (hb b (by rw [h2]; exact List.mem_cons_self)).trans h3, h4, h5, h6.frame hf fun x hx => hb x (by rw [h2]; exact List.mem_cons_of_mem _ hx)⟩
theorem KeyR.frame {w w' : World} {kt : Ty} {k : kt.D} {u : Value} (h : KeyR w kt k u) : KeyR w' kt k u := by
 obtain ⟨cs, h1, h2⟩ := h
 exact ⟨cs, Qb9 h1, h2⟩
theorem Ents.frame {w w' : World} {S S' : Nat → Prop} {ok ok' : Prop} (hf : ok' → ok ∧ ∀ b, S b → S' b ∧ w'.heap[b]? = w.heap[b]?) {kt vt : Ty} {bx : Bool} : ∀ {l : List (kt.D × vt.D)} {es : List MapEntry} {bs : List Nat}, Ents w S ok kt vt bx l es bs →
  (∀ b ∈ bs, w'.heap[b]? = w.heap[b]?) → Ents w' S' ok' kt vt bx l es bs
 | [], es, bs, h, _ => h
 | (k, v) :: l, es, bs, h, hb => by
   obtain ⟨e, es', b1, b2, h1, h2, h3, h4, h5⟩ := h
   exact ⟨e, es', b1, b2, h1, h2, h3.frame, h4.frame hf fun b h => hb b (by rw [h2]; exact List.mem_append_left _ h), Ents.frame hf h5 fun b h => hb b (by rw [h2]; exact List.mem_append_right _ h)⟩
theorem Q7l {w : World} {S : Nat → Prop} {ok : Prop} {kt vt : Ty} {bx : Bool} : ∀ {l : List (kt.D × vt.D)} {es : List MapEntry} {bs : List Nat}, Ents w S ok kt vt bx l es bs → es.length = l.length
 | [], es, bs, h => by rw [h.1]; rfl
 | (k, v) :: l, es, bs, h => by
   obtain ⟨e, es', b1, b2, h1, h2, h3, h4, h5⟩ := h
   rw [h1]
   simp [Q7l h5]
theorem Qou (rows : Rows) (bx : Bool) (r : Nat) : okPV rows (tkPV bx r) = true := by cases bx <;> rfl
theorem Taken.step {w w' : World} {pl pl' : Pl} {rows rows' : Rows} (S : Step w pl rows w' pl' rows') {kt : Ty} {bx : Bool} {tk : Option (kt.D × Nat)} {st : List MapEntry} (h : Taken w pl rows kt bx tk st) : Taken w' pl' rows' kt bx tk st := by
 cases tk with
 | none => exact h
 | some x =>
   obtain ⟨k, r⟩ := x
   obtain ⟨h0, h⟩ := h
   refine ⟨S.men h0, h.imp id ?_⟩
   rintro ⟨e, h1, h2, h3⟩
   exact ⟨e, h1, h2.frame, S.vr h0 (Qou _ _ _) fun _ => h3⟩
theorem MapAt.frame {w w' : World} {pl pl' : Pl} {r r' : Nat} {it : Nat} {b : Nat} {es1 st : List MapEntry} (h : MapAt w pl r it b es1 st) (hh : ∀ x, pl.hid r x → pl'.hid r' x ∧ w'.heap[x]? = w.heap[x]?)
  (hb : w'.heap[b]? = w.heap[b]?) : MapAt w' pl' r' it b es1 st := by
 cases it with
 | zero =>
   obtain ⟨es, clock, h1, h2⟩ := h
   exact ⟨es, clock, hb.trans h1, h2⟩
 | succ n =>
   obtain ⟨h0, bm, es, clock, seen, h1, h2, h3, h4⟩ := h
   exact ⟨h0, bm, es, clock, seen, hb.trans h1, (hh bm h2).1, (hh bm h2).2.trans h3, h4⟩
theorem Step.row (S : Step w pl rows w' pl' rows') {r : Nat} {s : RowS} (hr : rows r = some s) (hr' : rows' r = some s) (h : RowR w pl rows r s)
  (hb : ∀ b o, s.live → pl.at r b o → w'.heap[b]? = w.heap[b]?) : RowR w' pl' rows' r s := by
 obtain ⟨s2, e2, _, hloc⟩ := S.kin r s hr
 rw [hr'] at e2
 obtain rfl := oi e2
 obtain ⟨n, row⟩ := s
 cases row with
 | gone => trivial
 | arr p t l =>
   have hl : pl'.loc r = pl.loc r := hloc (by simp [RowS.live])
   obtain ⟨h1, h2⟩ := h
   refine ⟨S.provIn h1, ?_⟩
   rw [hl]
   cases hlr : pl.loc r with
   | none => rw [hlr] at h2; exact h2
   | some x =>
     obtain ⟨b, o⟩ := x
     rw [hlr] at h2
     obtain ⟨arr, T, fr, g1, g2, g3, g4⟩ := h2
     have hbb := hb b o (by simp [RowS.live]) (.inl hlr)
     refine ⟨arr, T, fr, hbb.trans g1, g2, g3, fun hok i x hx => ?_⟩
     obtain ⟨es, k1, k2⟩ := g4 (S.okProv h1 hok) i x hx
     exact ⟨es, S.rd h1 hok k1, k2.same hbb⟩
 | vars l =>
   have hl : pl'.loc r = pl.loc r := hloc (by simp [RowS.live])
   obtain ⟨h1, b, arr, T, fr, g0, g1, g2, g3, g4⟩ := h
   have hbb := hb b 0 (by simp [RowS.live]) (.inl g0)
   refine ⟨S.mens h1, b, arr, T, fr, hl.trans g0, hbb.trans g1, g2, g3, fun j x hx => ?_⟩
   obtain ⟨v, k1, k2, k3⟩ := g4 j x hx
   exact ⟨v, k1, k2, fun hok => S.vr (Qq h1 x (List.mem_of_getElem? hx)) hok k3⟩
 | mp it p kt vt bx l tk =>
   have hlv : RowS.live ⟨n, .mp it p kt vt bx l tk⟩ := by simp [RowS.live]
   have hl : pl'.loc r = pl.loc r := hloc hlv
   have hh := S.hid r _ hr hr' hlv
   obtain ⟨h1, h2, b, es1, st, bs, g1, g2, g4, g5, g6, g7, g8⟩ := h
   refine ⟨S.provIn h1, h2, b, es1, st, bs, hl.trans g1, g2.frame (fun x hx => ⟨by rw [hh]; exact hx, hb x 0 hlv (.inr hx)⟩) (hb b 0 hlv (.inl g1)), ?_, g5.step S, g6, g7, fun x hx => by rw [hh]; exact g8 x hx⟩
   exact g4.frame (fun hok => ⟨S.okProv h1 hok, fun b hb => S.safe h1 hok hb⟩) fun x hx => hb x 0 hlv (.inr (g8 x hx))
theorem Rel.stepM {B : Nat} {G : Nat → Prop} {σ : St} {a a' : Act} {env' : Env} (R : Rel B G pl σ a w) (S : Step w pl σ.rows w' pl' rows')
  (hd : a'.defers = [])
  (henv : ∀ s v, env' s = some v → (σ.env s = some v ∧ s < a'.tmps.size ∧ a'.tmps.getD s undef = a.tmps.getD s undef) ∨
   (s < a'.tmps.size ∧ Men rows' v ∧ (okPV rows' v = true → VR w' pl' rows' v (a'.tmps.getD s undef))))
  (hrow : ∀ r s', rows' r = some s' → σ.rows r ≠ some s' → RowR w' pl' rows' r s')
  (hz : rows' 0 = none)
  (hnw : ∀ r s b o, rows' r = some s → s.live → pl'.at r b o → (∃ s0 o0, σ.rows r = some s0 ∧ s0.live ∧ pl.at r b o0) ∨
   ((b < w'.heap.size ∧ ¬ pl.Z b ∧ (B ≤ b ∨ G b)) ∧ ∀ r' s' o', rows' r' = some s' → s'.live → pl'.at r' b o' → r' = r)) :
  Rel B G pl' ⟨env', rows'⟩ a' w' := by
 constructor
 ·intro s v hv
  rcases henv s v hv with ⟨h1, h2, h3⟩ | h
  ·obtain ⟨g1, g2, g3⟩ := R.env s v h1
   refine ⟨h2, S.men g2, fun hk => ?_⟩
   rw [h3]
   exact S.vr g2 hk g3
  ·exact h
 ·intro r s hr
  by_cases hs : σ.rows r = some s
  ·refine S.row hs hr (R.rows r s hs) fun b o hl hloc => ?_
   refine S.heap b (R.own r s b o hs hl hloc).1 fun r2 s2 o2 hr2 hl2 hloc2 => ?_
   obtain rfl := R.inj r2 r s2 s b o2 o hr2 hl2 hs hl hloc2 hloc
   rw [hs] at hr2
   obtain rfl := oi hr2
   exact hr
  ·exact hrow r s hr hs
 ·exact hz
 ·intro r r' s s' b o o' hr hl hr' hl' hloc hloc'
  rcases hnw r s b o hr hl hloc with ⟨s0, o0, e1, e2, e3⟩ | ⟨_, h⟩
  ·rcases hnw r' s' b o' hr' hl' hloc' with ⟨s1, o1, f1, f2, f3⟩ | ⟨_, h⟩
   ·exact R.inj r r' s0 s1 b o0 o1 e1 e2 f1 f2 e3 f3
   ·exact h r s o hr hl hloc
  ·exact (h r' s' o' hr' hl' hloc').symm
 ·intro r s b o hr hl hloc
  rcases hnw r s b o hr hl hloc with ⟨s0, o0, e1, e2, e3⟩ | ⟨h, _⟩
  ·obtain ⟨g1, g2, g3⟩ := R.own r s0 b o0 e1 e2 e3
   exact ⟨Nat.lt_of_lt_of_le g1 S.size, by rw [S.z]; exact g2, g3⟩
  ·rw [S.z]; exact h
 ·exact hd
theorem Step.old (S : Step w pl rows w' pl' rows') (hid : ∀ r, rows r ≠ none → pl'.hid r = pl.hid r) {r b o : Nat} {s' : RowS} (hr : rows' r = some s') (hl : s'.live) (hne : rows r ≠ none) (ha : pl'.at r b o) :
  ∃ s, rows r = some s ∧ s.live ∧ pl.at r b o := by
 obtain ⟨s, hs⟩ := Option.ne_none_iff_exists'.1 hne
 obtain ⟨s2, e2, hk, hloc⟩ := S.kin r s hs
 rw [hr] at e2
 obtain rfl := oi e2
 refine ⟨s, hs, hk.live hl, ?_⟩
 rcases ha with h | h
 ·exact .inl ((hloc hl) ▸ h)
 ·exact .inr ((hid r hne) ▸ h)
theorem Rel.step {B : Nat} {G : Nat → Prop} {σ : St} {a a' : Act} {env' : Env} (R : Rel B G pl σ a w) (S : Step w pl σ.rows w' pl' rows')
  (hid : ∀ r, σ.rows r ≠ none → pl'.hid r = pl.hid r) (hidn : ∀ r s, σ.rows r = none → rows' r = some s → s.live → ∀ b, ¬ pl'.hid r b)
  (hd : a'.defers = [])
  (henv : ∀ s v, env' s = some v → (σ.env s = some v ∧ s < a'.tmps.size ∧ a'.tmps.getD s undef = a.tmps.getD s undef) ∨
   (s < a'.tmps.size ∧ Men rows' v ∧ (okPV rows' v = true → VR w' pl' rows' v (a'.tmps.getD s undef))))
  (hrow : ∀ r s', rows' r = some s' → σ.rows r ≠ some s' → RowR w' pl' rows' r s')
  (hz : rows' 0 = none)
  (hinj : ∀ r r' s s' b o o', rows' r = some s → s.live → rows' r' = some s' → s'.live → pl'.at r b o → pl'.loc r' = some (b, o') → σ.rows r ≠ none → σ.rows r' = none → False)
  (hnew : ∀ r r' s s' b o o', rows' r = some s → s.live → rows' r' = some s' → s'.live → pl'.loc r = some (b, o) → pl'.loc r' = some (b, o') → σ.rows r = none → σ.rows r' = none → r = r')
  (hown : ∀ r s b o, rows' r = some s → s.live → pl'.loc r = some (b, o) → σ.rows r = none → b < w'.heap.size ∧ ¬ pl.Z b ∧ (B ≤ b ∨ G b)) :
  Rel B G pl' ⟨env', rows'⟩ a' w' := by
 refine R.stepM S hd henv hrow hz fun r s b o hr hl ha => ?_
 by_cases h1 : σ.rows r = none
 ·rcases ha with h | h
  ·refine .inr ⟨hown r s b o hr hl h h1, fun r' s' o' hr' hl' ha' => ?_⟩
   by_cases h2 : σ.rows r' = none
   ·rcases ha' with h' | h'
    ·exact hnew r' r s' s b o' o hr' hl' hr hl h' h h2 h1
    ·exact absurd h' (hidn r' s' h2 hr' hl' b)
   ·exact (hinj r' r s' s b o' o hr' hl' hr hl ha' h h2 h1).elim
  ·exact absurd h (hidn r s h1 hr hl b)
 ·obtain ⟨s0, e1, e2, e3⟩ := S.old hid hr hl h1 ha
  exact .inl ⟨s0, o, e1, e2, e3⟩
end
theorem Q43 (a : Act) (d s : Nat) (u : Value) (hd : d < a.tmps.size) : (a.put (some d) u).tmps.getD s undef = if s = d then u else a.tmps.getD s undef := by
 simp only [Act.put, Array.getD_eq_getD_getElem?, Array.getElem?_setIfInBounds]
 by_cases h : d = s
 ·subst h; simp [hd]
 ·have h' : ¬ s = d := fun e => h e.symm
  simp [h, h']
theorem Q1p (a : Act) (d : Option Nat) (u : Value) : (a.put d u).tmps.size = a.tmps.size := by cases d <;> simp [Act.put]
theorem Q3m (a : Act) (d : Option Nat) (u : Value) : (a.put d u).defers = a.defers := by cases d <;> rfl
section
variable {B nt : Nat} {G : Nat → Prop} {pl : Pl} {σ : St} {a : Act} {w : World}
theorem Rel.put (R : Rel B G pl σ a w) (hn : nt ≤ a.tmps.size) (dst : Option Nat) {v : PV} {u : Value} (hm : Men σ.rows v) (hv : okPV σ.rows v = true → VR w pl σ.rows v u) :
  Rel B G pl ⟨putDst nt σ.env dst (some v), σ.rows⟩ (a.put dst u) w := by
 refine ⟨?_, R.rows, R.zero, R.inj, R.own, (Q3m a dst u).trans R.defers⟩
 intro s x hx
 rw [Q1p]
 cases dst with
 | none => exact R.env s x hx
 | some d =>
   simp only [putDst, upd] at hx
   by_cases hs : s = d
   ·subst hs
    by_cases hlt : s < nt
    ·simp [hlt] at hx
     subst hx
     exact ⟨by omega, hm, fun hk => by rw [Q43 a s s u (by omega), if_pos rfl]; exact hv hk⟩
    ·simp [hlt] at hx
   ·have hb : (s == d) = false := by simpa using hs
    rw [hb] at hx
    obtain ⟨h1, h2, h3⟩ := R.env s x hx
    refine ⟨h1, h2, fun hk => ?_⟩
    by_cases hd : d < a.tmps.size
    ·rw [Q43 a d s u hd, if_neg hs]; exact h3 hk
    ·have : a.put (some d) u = a := by simp [Act.put, Array.setIfInBounds, hd]
     rw [this]; exact h3 hk
theorem Rel.putUnd (R : Rel B G pl σ a w) (hn : nt ≤ a.tmps.size) (dst : Option Nat) :
  Rel B G pl ⟨putDst nt σ.env dst none, σ.rows⟩ (a.put dst undef) w := by
 have h := R.put hn dst (v := .und) (u := undef) trivial (fun _ => rfl)
 cases dst with
 | none => exact h
 | some d => exact h
theorem Qjj (w : World) (pl : Pl) (rows : Rows) (v : Value) (h1 : v.oneCell' = true) : VR w pl rows (Q3v v) v ∧ Men rows (Q3v v) := by
 unfold Q3v
 split
 ·exact ⟨rfl, fun q hq => by cases hq⟩
 ·exact ⟨rfl, fun q hq => by cases hq⟩
 ·exact ⟨rfl, fun q hq => by cases hq⟩
 ·exact ⟨rfl, trivial⟩
 ·exact ⟨rfl, trivial⟩
 ·exact ⟨⟨rfl, h1⟩, trivial⟩
theorem Rel.look (R : Rel B G pl σ a w) {x : Operand} {v : PV} (h : look σ x = some v) : Men σ.rows v ∧ VR w pl σ.rows v (a.eval x) ∧ okPV σ.rows v = true := by
 cases x with
 | tmp t =>
   simp only [PM.look] at h
   cases he : σ.env t with
   | none => rw [he] at h; cases h
   | some y =>
     rw [he] at h
     simp only at h
     by_cases hk : okPV σ.rows y = true
     ·rw [if_pos hk] at h
      obtain rfl := oi h
      obtain ⟨_, h2, h3⟩ := R.env t y he
      exact ⟨h2, h3 hk, hk⟩
     ·rw [if_neg hk] at h; cases h
 | const u =>
   simp only [PM.look] at h
   split at h
   ·rename_i h1
    obtain rfl := oi h
    refine ⟨(Qjj w pl σ.rows u h1).2, (Qjj w pl σ.rows u h1).1, ?_⟩
    unfold Q3v; split <;> rfl
   ·cases h
 | global g => cases h
 | func f =>
   obtain rfl := oi h
   exact ⟨trivial, ⟨#[], rfl, rfl⟩, rfl⟩
end
def tdOf : TypeDesc → TD
 | .int k => .int k
 | .bool => .bool
 | .string => .str
 | .slice e => .slice e
 | .struct fs => .struct (fs.toList.map fun f => (f.type, f.offset))
 | .pointer e => .ptr e
 | .func .. => .func
 | .map k e => .map k e
 | _ => .other
def zeroCells : Ty → List Value
 | .int k => [.int k 0]
 | .bool => [.bool false]
 | .str => [.string ⟨#[]⟩]
 | .unit => []
 | .slice _ => [.slice none 0 0]
 | .prod a b => zeroCells a ++ zeroCells b
def cmpG (P : Program) : Ty → Option (List Field × Nat) → Nat → Bool
 | .int k, none, t => match P.underlying t with
   | some (.int k') => decide (k = k')
   | _ => false
 | .bool, none, t => match P.underlying t with
   | some .bool => true
   | _ => false
 | .str, none, t => match P.underlying t with
   | some .string => true
   | _ => false
 | .prod a b, none, t => match P.underlying t with
   | some (.struct fs) => !(P.stoodInHeld t) && (match fs.toList with
     | f :: rest => decide (f.offset = 0) && (f.name != "_") && (match P.info? f.type with
       | some i => decide (i.size = a.size)
       | none => false) && cmpG P a none f.type && cmpG P b (some (rest, 0 + a.size)) 0
     | [] => false)
   | _ => false
 | .unit, some ([], _), _ => true
 | .prod a b, some (f :: rest, off), _ => decide (f.offset = off) && (f.name != "_") && (match P.info? f.type with
    | some i => decide (i.size = a.size)
    | none => false) && cmpG P a none f.type && cmpG P b (some (rest, off + a.size)) 0
 | _, _, _ => false
def cmpB (P : Program) (ty : Ty) (t : Nat) : Bool := match ty with
 | .prod a b => cmpG P (.prod a b) none t && !(P.eqGuardType P.depth t)
 | _ => true
theorem Q5j {w : World} {pl : Pl} {rows : Rows} {S : Nat → Prop} : ∀ (ty : Ty) {l l' : List PV} {x : ty.D} {us : List Value}, ty.flat = true → VRs w pl rows l us → Q14 ty l = some (x, l') →
  ∃ c1 c2, us = c1 ++ c2 ∧ RD w S ty x c1 ∧ VRs w pl rows l' c2 := by
 have leaf : ∀ {t : Ty} {v : PV} {x : t.D} {u : Value}, (∀ e, t ≠ .slice e) → (∀ (w : World) (S S' : Nat → Prop) (x : t.D) (cs : List Value), RD w S t x cs → RD w S' t x cs) → leafOf t v = some x → VR w pl rows v u → RD w S t x [u] := by
  intro t v x u hns hS h hv
  cases v with
  | val p t' y =>
    simp only [leafOf] at h
    split at h
    ·rename_i e
     subst e
     obtain rfl := oi h
     exact hS _ _ _ _ _ hv
    ·cases h
  | nils =>
    simp only [leafOf] at h
    cases t <;> first
     | cases h
     | exact absurd rfl (hns _)
  | _ => cases h
 intro ty
 induction ty with
 | int k =>
   intro l l' x us _ hv h
   cases l with
   | nil => cases h
   | cons v l =>
     obtain ⟨u, us', rfl, h1, h2⟩ := hv
     simp only [Q14, Option.map_eq_some_iff, Prod.mk.injEq] at h
     obtain ⟨y, e, rfl, rfl⟩ := h
     exact ⟨[u], us', rfl, leaf (by simp) (fun _ _ _ _ _ h => h) e h1, h2⟩
 | bool =>
   intro l l' x us _ hv h
   cases l with
   | nil => cases h
   | cons v l =>
     obtain ⟨u, us', rfl, h1, h2⟩ := hv
     simp only [Q14, Option.map_eq_some_iff, Prod.mk.injEq] at h
     obtain ⟨y, e, rfl, rfl⟩ := h
     exact ⟨[u], us', rfl, leaf (by simp) (fun _ _ _ _ _ h => h) e h1, h2⟩
 | str =>
   intro l l' x us _ hv h
   cases l with
   | nil => cases h
   | cons v l =>
     obtain ⟨u, us', rfl, h1, h2⟩ := hv
     simp only [Q14, Option.map_eq_some_iff, Prod.mk.injEq] at h
     obtain ⟨y, e, rfl, rfl⟩ := h
     exact ⟨[u], us', rfl, leaf (by simp) (fun _ _ _ _ _ h => h) e h1, h2⟩
 | unit =>
   intro l l' x us _ hv h
   cases l <;> (simp only [Q14, Option.some.injEq, Prod.mk.injEq] at h; obtain ⟨_, rfl⟩ := h; exact ⟨[], us, rfl, rfl, hv⟩)
 | slice t _ => intro l l' x us hf; simp [Ty.flat] at hf
 | prod a b iha ihb =>
   intro l l' x us hf hv h
   simp only [Ty.flat, Bool.and_eq_true] at hf
   have h' : (match Q14 a l with
    | some (x, l1) => match Q14 b l1 with
      | some (y, l2) => some ((x, y), l2)
      | none => none
    | none => none) = some (x, l') := by cases l <;> exact h
   split at h'
   ·rename_i x1 l1 e1
    split at h'
    ·rename_i y1 l2 e2
     cases h'
     obtain ⟨c1, c2, rfl, r1, r2⟩ := iha hf.1 hv e1
     obtain ⟨c3, c4, rfl, r3, r4⟩ := ihb hf.2 r2 e2
     exact ⟨c1 ++ c3, c4, by simp, ⟨c1, c3, rfl, r1, r3⟩, r4⟩
    ·cases h'
   ·cases h'
section
variable {P : Program} {w : World}
theorem Qyz {s t : String} (h : (s != t) = true) : s ≠ t := by simpa using h
theorem Qkf {S S' : Nat → Prop} {d : Nat} {xs ys : Array Value} {cx cy : List Value} (hx : xs.toList = cx) (hy : ys.toList = cy) :
  ∀ (ty : Ty) (fs : List Field) (off : Nat) (x y : ty.D), (∀ (a : Ty) (t : Nat) (x y : a.D) (c1 c2 : List Value), a.depth ≤ d → cmpG P a none t = true → RD w S a x c1 → RD w S' a y c2 → (Op.equalIn d t (valAg a c1) (valAg a c2)).run P w = .ok (a.beq x y) w) →
    cmpG P ty (some (fs, off)) 0 = true → ty.depth ≤ d + 1 → RD w S ty x (cx.drop off) → RD w S' ty y (cy.drop off) →
    (Sem.run P (forIn fs ((none : Option Bool), ()) fun f _ =>
     if f.name = "_" then pure (ForInStep.yield (none, ()))
     else isAgg f.type >>= fun x =>
      (if x = true then (fun a => Value.agg (xs.extract f.offset (f.offset + a))) <$> sizeOf f.type
       else
        match xs[f.offset]? with
        | some v => pure v
        | none => stuck "part: no such cell") >>= fun a => isAgg f.type >>= fun x =>
      (if x = true then (fun a => Value.agg (ys.extract f.offset (f.offset + a))) <$> sizeOf f.type
       else
        match ys[f.offset]? with
        | some v => pure v
        | none => stuck "part: no such cell") >>= fun b => Op.equalIn d f.type a b >>= fun r =>
      if r = false then pure (ForInStep.done (some false, ())) else pure (ForInStep.yield (none, ()))) w) = .ok (if ty.beq x y then none else some false, ()) w := by
 intro ty
 induction ty with
 | unit =>
   intro fs off x y _ h _ _ _
   cases fs with
   | nil => simp [Ty.beq, go_sem]
   | cons f fs => simp [cmpG] at h
 | prod a b _ ihb =>
   intro fs off x y ih h hd h1 h2
   cases fs with
   | nil => simp [cmpG] at h
   | cons f rest =>
     simp only [cmpG, Bool.and_eq_true, decide_eq_true_eq] at h
     obtain ⟨⟨⟨⟨e1, e2⟩, e3⟩, e4⟩, e5⟩ := h
     have e2' := Qyz e2
     obtain ⟨i, hi, e3⟩ : ∃ i, P.info? f.type = some i ∧ i.size = a.size := by
      cases hi : P.info? f.type with
      | none => rw [hi] at e3; cases e3
      | some i => rw [hi] at e3; exact ⟨i, rfl, by simpa using e3⟩
     obtain ⟨cx1, cx2, f1, f2, f3⟩ := h1
     obtain ⟨cy1, cy2, g1, g2, g3⟩ := h2
     have hda : a.depth ≤ d := by have := hd; simp only [Ty.depth] at this; omega
     have hdb : b.depth ≤ d + 1 := by have := hd; simp only [Ty.depth] at this; omega
     have lx := Q37 f2
     have ly := Q37 g2
     have cut : ∀ {zs : Array Value} {cz c1 c2 : List Value}, zs.toList = cz → cz.drop off = c1 ++ c2 → c1.length = a.size →
      ∃ g, (Go.isAgg f.type).run P w = .ok g w ∧ (Sem.run P (
        if g = true then (fun a => Value.agg (zs.extract f.offset (f.offset + a))) <$> sizeOf f.type
        else
         match zs[f.offset]? with
         | some v => pure v
         | none => stuck "part: no such cell") w) = .ok (valAg a c1) w := by
      intro zs cz c1 c2 hz hc hl
      have hsz : (sizeOf f.type).run P w = .ok a.size w := by simp [Go.sizeOf, Go.typeInfo, hi, e3, go_sem]
      have hex : zs.extract off (off + a.size) = c1.toArray := by
       apply Array.ext'
       rw [Array.toList_extract, List.extract_eq_take_drop, hz]
       rw [hc]
       have : off + a.size - off = a.size := by omega
       rw [this, ← hl, List.take_left]
      have hat : a.size = 1 → zs[off]? = c1.head? := by
       intro h1'
       have : c1.head? = (c1 ++ c2)[0]? := by cases c1 with
        | nil => simp at hl; omega
        | cons z c1 => rfl
       rw [this, ← hc, List.getElem?_drop, ← hz, Array.getElem?_toList]
       rfl
      have single : ∀ {td : TypeDesc}, P.underlying f.type = some td → (Go.isAgg f.type).run P w = .ok false w → a.size = 1 → valAg a c1 = c1.headD undef →
       ∃ g, (Go.isAgg f.type).run P w = .ok g w ∧ (Sem.run P (
         if g = true then (fun a => Value.agg (zs.extract f.offset (f.offset + a))) <$> sizeOf f.type
         else
          match zs[f.offset]? with
          | some v => pure v
          | none => stuck "part: no such cell") w) = .ok (valAg a c1) w := by
       intro td hu hag h1' hv
       cases c1 with
       | nil => simp at hl; omega
       | cons z c1 =>
         have := hat h1'
         simp at this
         subst e1
         exact ⟨false, hag, by simp [this, hv, go_sem]⟩
      cases a with
      | int k =>
        simp only [cmpG] at e4
        split at e4
        ·rename_i k' hu
         exact single hu (by simp [Go.isAgg, run_underlying hu, go_sem]) rfl rfl
        ·cases e4
      | bool =>
        simp only [cmpG] at e4
        split at e4
        ·rename_i hu
         exact single hu (by simp [Go.isAgg, run_underlying hu, go_sem]) rfl rfl
        ·cases e4
      | str =>
        simp only [cmpG] at e4
        split at e4
        ·rename_i hu
         exact single hu (by simp [Go.isAgg, run_underlying hu, go_sem]) rfl rfl
        ·cases e4
      | unit => cases hfs : (none : Option (List Field × Nat)) <;> simp [cmpG] at e4
      | slice t => simp [cmpG] at e4
      | prod p q =>
        simp only [cmpG] at e4
        split at e4
        ·rename_i fs hu
         have hag : (Go.isAgg f.type).run P w = .ok true w := by simp [Go.isAgg, run_underlying hu, go_sem]
         subst e1
         exact ⟨true, hag, by simp [hsz, hex, valAg, go_sem]⟩
        ·cases e4
     obtain ⟨g, hg, hA⟩ := cut hx f1 lx
     obtain ⟨g', hg', hB⟩ := cut hy g1 ly
     rw [hg] at hg'
     cases hg'
     have hE := ih a f.type x.1 y.1 cx1 cy1 hda e4 f2 g2
     rw [List.forIn_cons]
     rw [if_neg e2']
     have hr := ihb rest (off + a.size) x.2 y.2 ih e5 hdb (by rw [← List.drop_drop, f1, ← lx, List.drop_left]; exact f3) (by rw [← List.drop_drop, g1, ← ly, List.drop_left]; exact g3)
     have bindE : ∀ {α β : Type} (m : Sem α) (k : α → Sem β), (m >>= k).run P w = (m.run P w).andThen fun a w' => (k a).run P w' := by
      intro α β m k; simp [go_sem]
     simp only [bindE, hg, hA, hB, hE, Result.andThen]
     cases hb : a.beq x.1 y.1 with
     | false => simp [Ty.beq, hb, go_sem]
     | true =>
       simp only [Ty.beq, hb, Bool.true_and, Bool.true_eq_false, if_false, Sem.run_pure]
       exact hr
 | _ =>
   intro fs off x y _ h _ _ _
   simp [cmpG] at h
theorem Qhx {S S' : Nat → Prop} : ∀ (d : Nat) (ty : Ty) (t : Nat) (x y : ty.D) (cx cy : List Value), ty.depth ≤ d → cmpG P ty none t = true → RD w S ty x cx → RD w S' ty y cy →
  (Op.equalIn d t (valAg ty cx) (valAg ty cy)).run P w = .ok (ty.beq x y) w
 | 0, ty, _, _, _, _, _, h, _, _, _ => by cases ty <;> simp [Ty.depth] at h
 | d + 1, ty, t, x, y, cx, cy, hd, h, h1, h2 => by
   cases ty with
   | int k =>
     simp only [cmpG] at h
     split at h
     ·rename_i k' hu
      have hk : k = k' := by simpa using h
      subst hk
      rw [show cx = _ from h1, show cy = _ from h2]
      simp [valAg, Op.equalIn, run_underlying hu, Ty.beq, go_sem]
     ·cases h
   | bool =>
     simp only [cmpG] at h
     split at h
     ·rename_i hu
      rw [show cx = _ from h1, show cy = _ from h2]
      simp [valAg, Op.equalIn, run_underlying hu, Ty.beq, go_sem]
     ·cases h
   | str =>
     simp only [cmpG] at h
     split at h
     ·rename_i hu
      rw [show cx = _ from h1, show cy = _ from h2]
      simp [valAg, Op.equalIn, run_underlying hu, Ty.beq, go_sem]
     ·cases h
   | unit => simp [cmpG] at h
   | slice t => simp [cmpG] at h
   | prod a b =>
     obtain ⟨fs, hu, hst, hf⟩ : ∃ fs, P.underlying t = some (.struct fs) ∧ P.stoodInHeld t = false ∧ cmpG P (.prod a b) (some (fs.toList, 0)) 0 = true := by
      simp only [cmpG] at h
      split at h
      ·rename_i fs hu
       simp only [Bool.and_eq_true, Bool.not_eq_true'] at h
       refine ⟨fs, hu, h.1, ?_⟩
       have h2 := h.2
       cases hl : fs.toList with
       | nil => rw [hl] at h2; cases h2
       | cons f rest => rw [hl] at h2; simp only [cmpG]; simpa using h2
      ·cases h
     have := Qkf (P := P) (w := w) (S := S) (S' := S') (d := d) (xs := cx.toArray) (ys := cy.toArray) (cx := cx) (cy := cy) rfl rfl (.prod a b) fs.toList 0 x y (fun a t x y c1 c2 => Qhx d a t x y c1 c2) hf hd h1 h2
     simp only [valAg]
     simp [Op.equalIn, run_underlying hu, hst, go_sem] at this ⊢
     refine (congrArg (fun r => Result.andThen r _) this).trans ?_
     generalize (Ty.prod a b).beq x y = r
     cases r <;> simp [go_sem]
end
structure TIok (P : Program) (t : Nat) (i : TI) : Prop where
 desc : (P.underlying t).map tdOf = some i.d
 info : (P.info? t).map (fun x => (x.size, x.bytes, x.zero.map fun z => z.cells.toList)) = some (i.size, i.bytes, some i.zero)
 ty : ∀ ty, i.ty = some ty → ty.size = i.size ∧ i.zero = zeroCells ty
 cmp : ∀ ty, i.ty = some ty → ty.flat = true → cmpB P ty t = true
 one : ∀ ty, i.ty = some ty → oneTy ty = true → (P.info? t).map (·.zero) = some (some ((zeroCells ty).headD undef))
def TTok (P : Program) (T : TT) : Prop := ∀ t i, T.at t = some i → TIok P t i
theorem TTok.nil (P : Program) : TTok P [] := fun _ _ h => by cases h
theorem TTok.cons {P : Program} {T : TT} {t : Nat} {i : TI} (h : TIok P t i) (hT : TTok P T) : TTok P ((t, i) :: T) := by
 intro u j hj
 simp only [TT.at] at hj
 by_cases e : t = u
 ·subst e; simp at hj; subst hj; exact h
 ·have : (t == u) = false := by simpa using e
  rw [this] at hj
  exact hT u j hj
theorem Qy (w : World) (S : Nat → Prop) : ∀ t : Ty, RD w S t t.zero (zeroCells t)
 | .int _ => rfl
 | .bool => rfl
 | .str => rfl
 | .unit => rfl
 | .slice _ => ⟨none, 0, rfl, Nat.le_refl _, fun h => absurd rfl h⟩
 | .prod a b => ⟨zeroCells a, zeroCells b, rfl, Qy w S a, Qy w S b⟩
section
variable {P : Program} {t : Nat} {i : TI}
theorem TIok.int (h : TIok P t i) {k : IntKind} (e : i.d = .int k) : P.underlying t = some (.int k) := by
 have := h.desc; rw [e] at this
 obtain ⟨d, h1, h2⟩ := Option.map_eq_some_iff.1 this
 cases d <;> simp [tdOf] at h2
 subst h2; exact h1
theorem TIok.str (h : TIok P t i) (e : i.d = .str) : P.underlying t = some .string := by
 have := h.desc; rw [e] at this
 obtain ⟨d, h1, h2⟩ := Option.map_eq_some_iff.1 this
 cases d <;> simp [tdOf] at h2
 exact h1
theorem TIok.bool (h : TIok P t i) (e : i.d = .bool) : P.underlying t = some .bool := by
 have := h.desc; rw [e] at this
 obtain ⟨d, h1, h2⟩ := Option.map_eq_some_iff.1 this
 cases d <;> simp [tdOf] at h2
 exact h1
theorem TIok.ptr (h : TIok P t i) {x : Nat} (e : i.d = .ptr x) : P.underlying t = some (.pointer x) := by
 have := h.desc; rw [e] at this
 obtain ⟨d, h1, h2⟩ := Option.map_eq_some_iff.1 this
 cases d <;> simp [tdOf] at h2
 subst h2; exact h1
theorem TIok.slice (h : TIok P t i) {x : Nat} (e : i.d = .slice x) : P.underlying t = some (.slice x) := by
 have := h.desc; rw [e] at this
 obtain ⟨d, h1, h2⟩ := Option.map_eq_some_iff.1 this
 cases d <;> simp [tdOf] at h2
 subst h2; exact h1
theorem TIok.map (h : TIok P t i) {x y : Nat} (e : i.d = .map x y) : P.underlying t = some (.map x y) := by
 have := h.desc; rw [e] at this
 obtain ⟨d, h1, h2⟩ := Option.map_eq_some_iff.1 this
 cases d <;> simp [tdOf] at h2
 obtain ⟨rfl, rfl⟩ := h2; exact h1
theorem TIok.struct (h : TIok P t i) {fs : List (Nat × Nat)} (e : i.d = .struct fs) : ∃ fl, P.underlying t = some (.struct fl) ∧ fl.toList.map (fun f => (f.type, f.offset)) = fs := by
 have := h.desc; rw [e] at this
 obtain ⟨d, h1, h2⟩ := Option.map_eq_some_iff.1 this
 cases d <;> simp [tdOf] at h2
 exact ⟨_, h1, h2⟩
theorem TIok.infos (h : TIok P t i) : ∃ x z, P.info? t = some x ∧ x.size = i.size ∧ x.bytes = i.bytes ∧ x.zero = some z ∧ z.cells.toList = i.zero := by
 obtain ⟨x, h1, h2⟩ := Option.map_eq_some_iff.1 h.info
 simp only [Prod.mk.injEq, Option.map_eq_some_iff] at h2
 obtain ⟨e1, e2, z, e3, e4⟩ := h2
 exact ⟨x, z, h1, e1, e2, e3, e4⟩
theorem TIok.agg (h : TIok P t i) {g : Bool} (hg : aggOf i.d = some g) (w : World) : (Go.isAgg t).run P w = .ok g w := by
 obtain ⟨d, h1, h2⟩ := Option.map_eq_some_iff.1 h.desc
 rw [← h2] at hg
 cases d <;> simp [tdOf, aggOf] at hg <;> subst hg <;> simp [Go.isAgg, run_underlying h1, go_sem]
theorem TIok.sizeOf (h : TIok P t i) (w : World) : (Go.sizeOf t).run P w = .ok i.size w := by
 obtain ⟨x, z, h1, h2, h3, h4, h5⟩ := h.infos
 simp [Go.sizeOf, Go.typeInfo, h1, h2, go_sem]
end
section
variable {P : Program} {B nt : Nat} {G : Nat → Prop} {pl : Pl} {σ : St} {a : Act} {w : World} {T : TT}
def RunsTo (P : Program) (o : Oper) (a : Act) (w : World) (v : Value) (w' : World) : Prop :=
 (execOp a.eval o).run P w = .ok (.value v) w' ∨ (v = undef ∧ (execOp a.eval o).run P w = .ok .skip w')
theorem isInt {w : World} {pl : Pl} {rows : Rows} {p : Prov} {k : IntKind} {n : Int} {u : Value} (h : VR w pl rows (.val p (.int k) n) u) : u = .int k n := by
 simpa [VR, RD] using h
theorem isBool {w : World} {pl : Pl} {rows : Rows} {p : Prov} {b : Bool} {u : Value} (h : VR w pl rows (.val p .bool b) u) : u = .bool b := by
 simpa [VR, RD] using h
theorem isStr {w : World} {pl : Pl} {rows : Rows} {p : Prov} {s : BA} {u : Value} (h : VR w pl rows (.val p .str s) u) : u = .string s := by
 simpa [VR, RD] using h
theorem Q1e3 (w : World) (pl : Pl) (rows : Rows) (b : Bool) : VR w pl rows (mb b) (.bool b) := rfl
theorem Q24 (rows : Rows) (k : IntKind) (n : Int) : Men rows (mi k n) := fun q hq => by cases hq
theorem Q2f (rows : Rows) (b : Bool) : Men rows (mb b) := fun q hq => by cases hq
def Still (P : Program) (pl : Pl) (rows : Rows) (a : Act) (w : World) (o : Oper) (out : Out) : Prop :=
 out.upd = [] ∧ ∃ v, out.v = some v ∧ Men rows v ∧ ∃ u, RunsTo P o a w u w ∧ (okPV rows v = true → VR w pl rows v u)
theorem Still.mk' {o : Oper} {c : Bool} {v : PV} {u : Value} (hm : Men σ.rows v) (hr : (execOp a.eval o).run P w = .ok (.value u) w) (hv : VR w pl σ.rows v u) : Still P pl σ.rows a w o ⟨c, some v, []⟩ :=
 ⟨rfl, v, rfl, hm, u, .inl hr, fun _ => hv⟩
theorem Qiz {o : Oper} {x : Operand} {out : Out} {key : Nat} (R : Rel B G pl σ a w) (ho : o.op = .move x ∨ o.op = .assign x) (h : opOut T key o.op (look σ) σ.rows = some out) :
  Still P pl σ.rows a w o out := by
 have h' : (match look σ x with | some v => one v | none => none) = some out := by
  rcases ho with e | e <;> rw [e] at h <;> exact h
 cases hx : look σ x with
 | none => rw [hx] at h'; cases h'
 | some v =>
   rw [hx] at h'
   obtain rfl := oi h'
   obtain ⟨g1, g2, _⟩ := R.look hx
   refine Still.mk' g1 ?_ g2
   rcases ho with e | e <;> simp [execOp, e, go_sem]
theorem Q1bh {op : BinOp} {k k' : IntKind} {m n : Int} {out : Out} {xt : Nat} (h : intBin op k m k' n = some out) (hok : out.ok = true) :
  ∃ v u, out.upd = [] ∧ out.v = some v ∧ Men σ.rows v ∧ VR w pl σ.rows v u ∧ (binOp op xt (.int k m) (.int k' n)).run P w = .ok u w := by
 cases op
 case shl =>
  obtain rfl := oi h
  have h0 : 0 ≤ n := of_decide_eq_true hok
  exact ⟨_, _, rfl, rfl, Q24 _ _ _, rfl, by simp [binOp, Op.shift, show ¬ n < 0 by omega, go_sem]⟩
 case shr =>
  obtain rfl := oi h
  have h0 : 0 ≤ n := of_decide_eq_true hok
  exact ⟨_, _, rfl, rfl, Q24 _ _ _, rfl, by simp [binOp, Op.shift, show ¬ n < 0 by omega, go_sem]⟩
 all_goals
  simp only [intBin] at h
  split at h
  next hk => 
   subst hk
   first
   | (cases h; done)
   | (obtain rfl := oi h; refine ⟨_, _, rfl, rfl, Q24 _ _ _, rfl, ?_⟩; simp [binOp, Op.intArith, go_sem]; done)
   | (obtain rfl := oi h; refine ⟨_, _, rfl, rfl, Q24 _ _ _, rfl, ?_⟩; simp [binOp, Op.intBits, bits, go_sem]; done)
   | (obtain rfl := oi h; refine ⟨_, _, rfl, rfl, Q2f _ _, rfl, ?_⟩; simp [binOp, Op.intCmp, go_sem]; done)
   | (obtain rfl := oi h
      have hn : n ≠ 0 := by
       rintro rfl
       exact absurd hok (by simp)
      refine ⟨_, _, rfl, rfl, Q24 _ _ _, rfl, ?_⟩; simp [binOp, Op.intDiv, hn, go_sem])
  next => cases h
theorem Q13f (op : BinOp) (t : TypeId) (x y : Operand) (k k' : IntKind) (m n : Int) (w : World) : (eqGuard op t x y (.int k m) (.int k' n)).run P w = .ok () w := by
 unfold eqGuard
 split <;> simp [go_sem]
theorem Q13g (op : BinOp) (t : TypeId) (x y : Operand) (m n : BA) (w : World) : (eqGuard op t x y (.string m) (.string n)).run P w = .ok () w := by
 unfold eqGuard
 split <;> simp [go_sem]
theorem Qtj (op : BinOp) (t : TypeId) (x y : Operand) (m n : Bool) (w : World) : (eqGuard op t x y (.bool m) (.bool n)).run P w = .ok () w := by
 unfold eqGuard
 split <;> simp [go_sem]
theorem Q13e (op : BinOp) (t : TypeId) (x y : Operand) (m n : Array Value) (w : World) (h : P.eqGuardType P.depth t = false) : (eqGuard op t x y (.agg m) (.agg n)).run P w = .ok () w := by
 unfold eqGuard
 split <;> first
  | (simp [go_sem]; done)
  | (simp [go_sem]; intro h'; rw [h] at h'; cases h')
theorem Qd3 {o : Oper} {op : BinOp} {xt yt : Nat} {x y : Operand} {u1 u2 u : Value} (ho : o.op = .binOp op xt x y yt) (ex : a.eval x = u1) (ey : a.eval y = u2)
  (hg : (eqGuard op xt x y u1 u2).run P w = .ok () w) (hb : (binOp op xt u1 u2).run P w = .ok u w) : (execOp a.eval o).run P w = .ok (.value u) w := by
 have e : execOp a.eval o = (do let v ← (do eqGuard op xt x y (a.eval x) (a.eval y); binOp op xt (a.eval x) (a.eval y)); pure (.value v)) := by simp only [execOp, ho]
 rw [e, ex, ey]
 simp [hg, hb, go_sem]
theorem Q1bi {op : BinOp} {m n : BA} {out : Out} {xt : Nat} (h : strBin op m n = some out) (hok : out.ok = true) :
  ∃ v u, out.upd = [] ∧ out.v = some v ∧ Men σ.rows v ∧ VR w pl σ.rows v u ∧ (binOp op xt (.string m) (.string n)).run P w = .ok u w := by
 cases op <;> simp only [strBin] at h <;> first
  | (cases h; done)
  | (obtain rfl := oi h; refine ⟨_, _, rfl, rfl, Q2f _ _, rfl, ?_⟩; simp [binOp, Op.stringOp, go_sem]; done)
  | (obtain rfl := oi h
     have h0 : m.size + n.size ≤ 9223372036854775807 := of_decide_eq_true hok
     refine ⟨_, .string (m ++ n), rfl, rfl, (fun q hq => by cases hq), rfl, ?_⟩
     have hm : IntKind.i64.max = 9223372036854775807 := by decide
     have : ¬ (((m.size + n.size : Nat) : Int) > IntKind.i64.max) := by omega
     simp only [binOp, Op.stringOp]
     rw [if_neg this]
     simp [go_sem])
theorem Qar (d : Nat) {t : TypeId} (hx : P.underlying t = some .bool) (m n : Bool) : (Op.equalIn (d + 1) t (.bool m) (.bool n)).run P w = .ok (m == n) w := by
 simp [Op.equalIn, run_underlying hx, go_sem]
theorem Q15v {op : BinOp} {m n : Bool} {out : Out} {xt : Nat} (hx : P.underlying xt = some .bool) (h : Qnd op m n = some out) :
  ∃ v u, out.upd = [] ∧ out.v = some v ∧ Men σ.rows v ∧ VR w pl σ.rows v u ∧ (binOp op xt (.bool m) (.bool n)).run P w = .ok u w := by
 cases op <;> simp only [Qnd] at h <;> first
  | (cases h; done)
  | (obtain rfl := oi h; refine ⟨_, _, rfl, rfl, Q2f _ _, rfl, ?_⟩; simp only [binOp]; simp [Op.equal, Op.maxDepth, Qar 9999 hx, go_sem])
theorem Q16t {o : Oper} {op : BinOp} {xt yt : Nat} {x y : Operand} {out : Out} {key : Nat} (hT : TTok P T) (R : Rel B G pl σ a w) (ho : o.op = .binOp op xt x y yt)
  (h : opOut T key o.op (look σ) σ.rows = some out) (hok : out.ok = true) : Still P pl σ.rows a w o out := by
 rw [ho] at h
 simp only [opOut] at h
 cases hx : look σ x with
 | none => rw [hx] at h; cases h
 | some v =>
   cases hy : look σ y with
   | none => rw [hx, hy] at h; cases h
   | some v2 =>
     rw [hx, hy] at h
     simp only at h
     obtain ⟨_, gx, _⟩ := R.look hx
     obtain ⟨_, gy, _⟩ := R.look hy
     unfold binop at h
     split at h
     ·rename_i l l' _ _
      unfold aggBin at h
      split at h
      ·rename_i fs z2 z3 z4 A Bt hti
       split at h
       ·rename_i hfl
        simp only [Bool.and_eq_true, decide_eq_true_eq] at hfl
        split at h
        ·rename_i x1 y1 e1 e2
         obtain ⟨cx, hux, vx, _⟩ := gx
         obtain ⟨cy, huy, vy, _⟩ := gy
         obtain ⟨c1, c2, q1, q2, q3⟩ := Q5j (S := fun _ => True) _ hfl.1 vx e1
         obtain ⟨d1, d2, r1, r2, r3⟩ := Q5j (S := fun _ => True) _ hfl.1 vy e2
         have q3' : c2 = [] := q3
         have r3' : d2 = [] := r3
         subst q3' r3'
         rw [List.append_nil] at q1 r1
         have hcm := (hT _ _ hti).cmp _ rfl hfl.1
         simp only [cmpB, Bool.and_eq_true, Bool.not_eq_true'] at hcm
         have hE := Qhx (P := P) (w := w) Op.maxDepth (.prod A Bt) xt x1 y1 c1 d1 (by unfold Op.maxDepth; omega) hcm.1 q2 r2
         have ex : valAg (.prod A Bt) c1 = .agg cx := by simp [valAg, ← q1]
         have ey : valAg (.prod A Bt) d1 = .agg cy := by simp [valAg, ← r1]
         rw [ex, ey] at hE
         have hg : (eqGuard op xt x y (.agg cx) (.agg cy)).run P w = .ok () w := Q13e _ _ _ _ _ _ _ hcm.2
         have hE' : (Op.equal xt (.agg cx) (.agg cy)).run P w = .ok ((Ty.prod A Bt).beq x1 y1) w := hE
         cases op <;> first
          | (cases h; done)
          | (obtain rfl := oi h
             exact ⟨rfl, _, rfl, Q2f _ _, _, .inl (Qd3 ho hux huy hg (by simp only [binOp]; simp [hE', go_sem])), fun _ => Q1e3 _ _ _ _⟩)
        ·cases h
       ·cases h
      ·cases h
     ·obtain ⟨v, u, h1, h2, h3, h4, h5⟩ := Q1bh (P := P) (w := w) (pl := pl) (σ := σ) (xt := xt) h hok
      exact ⟨h1, v, h2, h3, u, .inl (Qd3 ho (isInt gx) (isInt gy) (Q13f _ _ _ _ _ _ _ _ _) h5), fun _ => h4⟩
     ·obtain ⟨v, u, h1, h2, h3, h4, h5⟩ := Q1bi (P := P) (w := w) (pl := pl) (σ := σ) (xt := xt) h hok
      exact ⟨h1, v, h2, h3, u, .inl (Qd3 ho (isStr gx) (isStr gy) (Q13g _ _ _ _ _ _ _) h5), fun _ => h4⟩
     ·split at h
      ·rename_i z1 z2 z3 z4 hti
       obtain ⟨v, u, h1, h2, h3, h4, h5⟩ := Q15v (P := P) (w := w) (pl := pl) (σ := σ) (xt := xt) ((hT _ _ hti).bool rfl) h
       exact ⟨h1, v, h2, h3, u, .inl (Qd3 ho (isBool gx) (isBool gy) (Qtj _ _ _ _ _ _ _) h5), fun _ => h4⟩
      ·cases h
     ·cases h
theorem Q27 {w : World} {pl : Pl} {rows : Rows} : ∀ {l : List PV} {us : List Value}, VRs w pl rows l us → us.length = l.length
 | [], _, h => by rw [show _ = [] from h]; rfl
 | _ :: _, _, h => by
   obtain ⟨u, us, rfl, _, h2⟩ := h
   simp [Q27 h2]
theorem Q2s {w : World} {pl : Pl} {rows : Rows} : ∀ {l : List PV} {us : List Value}, VRs w pl rows l us → ∀ (j : Nat) (x : PV), l[j]? = some x → ∃ u, us[j]? = some u ∧ VR w pl rows x u
 | [], _, _, j, x, hx => by simp at hx
 | y :: l, _, h, j, x, hx => by
   obtain ⟨u, us, rfl, h1, h2⟩ := h
   cases j with
   | zero => simp at hx; subst hx; exact ⟨u, rfl, h1⟩
   | succ j => simp at hx; obtain ⟨u2, g1, g2⟩ := Q2s h2 j x hx; exact ⟨u2, by simpa using g1, g2⟩
theorem Qn0 {w : World} {pl : Pl} {rows : Rows} : ∀ {l : List PV} {us : List Value}, us.length = l.length → (∀ (j : Nat) (x : PV) (u : Value), l[j]? = some x → us[j]? = some u → VR w pl rows x u) → VRs w pl rows l us
 | [], us, h, _ => by simpa [VRs] using h
 | y :: l, [], h, _ => by simp at h
 | y :: l, u :: us, h, g => ⟨u, us, rfl, g 0 y u rfl rfl, Qn0 (by simpa using h) fun j x v hx hv => g (j + 1) x v (by simpa using hx) (by simpa using hv)⟩
theorem Q1e4 {w : World} {pl : Pl} {rows : Rows} {l : List PV} {us : List Value} (h : VRs w pl rows l us) (o n : Nat) : VRs w pl rows ((l.drop o).take n) ((us.drop o).take n) := by
 refine Qn0 (by simp [Q27 h]) fun j x u hx hu => ?_
 simp only [List.getElem?_take, List.getElem?_drop] at hx hu
 by_cases hj : j < n
 ·rw [if_pos hj] at hx hu
  obtain ⟨u2, g1, g2⟩ := Q2s h _ x hx
  rw [hu] at g1
  obtain rfl := oi g1
  exact g2
 ·rw [if_neg hj] at hx; cases hx
theorem Q3t {w : World} {pl : Pl} {rows : Rows} : ∀ {l l2 : List PV} {us us2 : List Value}, VRs w pl rows l us → VRs w pl rows l2 us2 → VRs w pl rows (l ++ l2) (us ++ us2)
 | [], _, _, _, h, h2 => by rw [show _ = [] from h]; exact h2
 | _ :: _, _, _, _, h, h2 => by
   obtain ⟨u, us, rfl, g1, g2⟩ := h
   exact ⟨u, us ++ _, rfl, g1, Q3t g2 h2⟩
theorem Q4g {u : Value} (h : u.oneCell' = true) : u.cells.toList = [u] := by cases u <;> first | rfl | cases h
theorem Q8q {w : World} {pl : Pl} {rows : Rows} {v : PV} {u : Value} {vs : List PV} (hv : VR w pl rows v u) (hc : cells v = some vs) :
  VRs w pl rows vs u.cells.toList ∧ ∀ x ∈ u.cells.toList, x.oneCell' = true := by
 have single : ∀ {v : PV} {u : Value}, VR w pl rows v u → u.oneCell' = true → VRs w pl rows [v] u.cells.toList ∧ ∀ x ∈ u.cells.toList, x.oneCell' = true := by
  intro v u h1 h2
  rw [Q4g h2]
  exact ⟨⟨u, [], rfl, h1, rfl⟩, by simpa using h2⟩
 cases v with
 | agg l =>
   obtain rfl := oi hc
   obtain ⟨cs, rfl, h1, h2⟩ := hv
   exact ⟨h1, h2⟩
 | tup l => cases hc
 | und => cases hc
 | val p t x => obtain rfl := oi hc; exact single hv (Q9o hv u (by simp))
 | nils => obtain rfl := oi hc; exact single hv (by rw [show u = _ from hv]; rfl)
 | nilp => obtain rfl := oi hc; exact single hv (by rw [show u = _ from hv]; rfl)
 | lit c => obtain rfl := oi hc; exact single hv (by obtain ⟨rfl, h⟩ := hv; exact h)
 | rw r => obtain rfl := oi hc; exact single hv hv.1.1
 | rs r o n => obtain rfl := oi hc; exact single hv hv.1
 | ptr r o => obtain rfl := oi hc; exact single hv hv.1.1
 | pel r i o => obtain rfl := oi hc; exact single hv hv.1.1
 | pvl p t l i o => obtain rfl := oi hc; exact single hv (by obtain ⟨_, _, _, _, ad, rfl, _⟩ := hv; rfl)
 | fn f l => obtain rfl := oi hc; exact single hv (by obtain ⟨cs, rfl, _⟩ := hv; rfl)
theorem Q3o {rows : Rows} {v : PV} {vs : List PV} (hm : Men rows v) (hc : cells v = some vs) : Mens rows vs := by
 cases v <;> first
  | (cases hc; done)
  | (obtain rfl := oi hc; exact hm)
  | (obtain rfl := oi hc; exact ⟨hm, trivial⟩)
theorem Qsr {rows : Rows} {v : PV} {vs : List PV} (hm : okPV rows v = true) (hc : cells v = some vs) : okPV.okAll rows vs = true := by
 cases v <;> first
  | (cases hc; done)
  | (obtain rfl := oi hc; exact hm)
  | (obtain rfl := oi hc; simpa [okPV.okAll] using hm)
theorem Q16n {rows : Rows} {l : List PV} (h : Mens rows l) (o n : Nat) : Mens rows ((l.drop o).take n) := by
 have of : ∀ {k : List PV}, (∀ v ∈ k, Men rows v) → Mens rows k := by
  intro k
  induction k with
  | nil => intro _; trivial
  | cons x k ih => intro hk; exact ⟨hk x (by simp), ih fun v hv => hk v (by simp [hv])⟩
 exact of fun v hv => Qq h v (List.mem_of_mem_drop (List.mem_of_mem_take hv))
theorem Q7c {rows : Rows} : ∀ {l l2 : List PV}, Mens rows l → Mens rows l2 → Mens rows (l ++ l2)
 | [], _, _, h2 => h2
 | _ :: _, _, h, h2 => ⟨h.1, Q7c h.2 h2⟩
theorem Qiv {rows : Rows} {g : Bool} {l : List PV} {v : PV} (h : Mens rows l) (hf : Qlj g l = some v) : Men rows v := by
 cases g with
 | true => obtain rfl := oi hf; exact h
 | false =>
   match l, hf with
   | [x], hf => obtain rfl := oi hf; exact h.1
theorem Q6u {w : World} {pl : Pl} {rows : Rows} {p : Prov} : ∀ {t : Ty} {x : t.D} {es : List Value}, RD w (Safe w pl rows p) t x es → VRs w pl rows (Q1i p t x) es := by
 intro t
 induction t with
 | int k => intro x es h; rw [show es = _ from h]; exact ⟨_, [], rfl, rfl, rfl⟩
 | bool => intro x es h; rw [show es = _ from h]; exact ⟨_, [], rfl, rfl, rfl⟩
 | str => intro x es h; rw [show es = _ from h]; exact ⟨_, [], rfl, rfl, rfl⟩
 | unit => intro x es h; exact h
 | slice t ih => intro x es h; obtain ⟨A, c, rfl, g⟩ := h; exact ⟨_, [], rfl, ⟨A, c, rfl, g⟩, rfl⟩
 | prod a b iha ihb =>
   intro x es h
   obtain ⟨c1, c2, rfl, h1, h2⟩ := h
   exact Q3t (iha h1) (ihb h2)
theorem Qa (rows : Rows) : ProvIn rows [] := fun q hq => by cases hq
theorem Q7b {rows : Rows} {p : Prov} (hp : ProvIn rows p) : ∀ {t : Ty} {x : t.D}, Mens rows (Q1i p t x) := by
 intro t
 induction t with
 | int k => intro x; exact ⟨Qa rows, trivial⟩
 | bool => intro x; exact ⟨Qa rows, trivial⟩
 | str => intro x; exact ⟨Qa rows, trivial⟩
 | unit => intro x; trivial
 | slice t ih => intro x; exact ⟨hp, trivial⟩
 | prod a b iha ihb => intro x; exact Q7c iha ihb
theorem Q25 {rows : Rows} : ∀ {l : List PV}, okPV.okAll rows l = true → ∀ v ∈ l, okPV rows v = true
 | _ :: _, h, v, hv => by
   simp only [okPV.okAll, Bool.and_eq_true] at h
   rcases List.mem_cons.1 hv with rfl | hv
   ·exact h.1
   ·exact Q25 h.2 v hv
theorem Qfn {P : Program} {T : TT} (hT : TTok P T) {t : Nat} {l : List PV} {off : Nat} {v : PV} (hs : subAt T t l off = some v) {w : World} {pl : Pl} {rows : Rows} {us : List Value}
  (hlen : us.length = l.length) (h : ∀ (j : Nat) (x : PV) (u : Value), l[j]? = some x → us[j]? = some u → okPV rows x = true → VR w pl rows x u) (h1 : ∀ x ∈ us, x.oneCell' = true) (hm : Mens rows l) :
  Men rows v ∧ ∃ i g u, T.at t = some i ∧ aggOf i.d = some g ∧ off + i.size ≤ us.length ∧ (okPV rows v = true → VR w pl rows v u) ∧
   (if g then u = .agg ((us.drop off).take i.size).toArray else us[off]? = some u ∧ i.size = 1) := by
 unfold subAt at hs
 split at hs
 ·rename_i i hi
  split at hs
  ·rename_i g hg
   split at hs
   ·rename_i hle
    have hlen2 : ((us.drop off).take i.size).length = ((l.drop off).take i.size).length := by simp [hlen]
    have hcut : okPV.okAll rows ((l.drop off).take i.size) = true → VRs w pl rows ((l.drop off).take i.size) ((us.drop off).take i.size) := fun hk =>
     Qn0 hlen2 fun j x u hx hu => by
      have hx' := List.mem_of_getElem? hx
      simp only [List.getElem?_take, List.getElem?_drop] at hx hu
      by_cases hj : j < i.size
      ·rw [if_pos hj] at hx hu
       exact h _ x u hx hu (Q25 hk x hx')
      ·rw [if_neg hj] at hx; cases hx
    refine ⟨Qiv (Q16n hm off i.size) hs, ?_⟩
    cases g with
    | true =>
      obtain rfl := oi hs
      refine ⟨i, true, _, hi, hg, by omega, fun hk => ?_, by simp; rfl⟩
      exact ⟨_, rfl, by simpa using hcut hk, by simpa using fun x hx => h1 x (List.mem_of_mem_drop (List.mem_of_mem_take hx))⟩
    | false =>
      generalize hc : (l.drop off).take i.size = c at hs hlen2 hcut
      match c, hs with
      | [x], hs =>
        obtain rfl := oi hs
        have h2 : i.size = 1 := by
         have := congrArg List.length hc
         simp at this
         omega
        have h3 : off < us.length := by omega
        refine ⟨i, false, us[off], hi, hg, by omega, fun hk => ?_, by simp [h2]⟩
        have hl : l[off]? = some x := by
         have := congrArg (fun l => l[0]?) hc
         simpa [h2] using this
        exact h off x _ hl (List.getElem?_eq_getElem h3) hk
   ·cases hs
  ·cases hs
 ·cases hs
end
end
end Go.Proofs.YtecnlienmpdlaaaGreat.PM
