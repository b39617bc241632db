/- Merged plain texts: PlTrip, PlTrip2, PlTrip3. -/
import Derived.Test.YtahdmfboidjkoaaPlUnpM
import Derived.Test.YtahdmfboidjkoaaPlPk
import Derived.Test.YtahdmfboidjkoaaPlBack
/- Packets in frames come back: what reading of a part of packed bytes gives. -/
set_option linter.unusedSimpArgs false
set_option linter.unusedVariables false
namespace Go.Proofs.Ytahdmfboidjkoaa.PM
open Go Go.Proofs.Ytahdmfboidjkoaa.Bt Go.Proofs.Ytahdmfboidjkoaa.Crc
variable {R : Type}

def PkOk (y : Pkt) : Prop := Right y.1 y.2.2.1 y.2.2.2.1 y.2.2.2.2.1 ∧ B y.2.2.2.2.1
theorem pkB_len (y : Pkt) : (pkB y).length = y.2.2.2.2.1.length + 8 := by unfold pkB; rw [raw_len]
theorem readR_pkB {y : Pkt} (h : PkOk y) (more : List Int) : readR (pkB y ++ more) = ⟨y.1, y.2.1, y.2.2.1, y.2.2.2.1, ((pkB y).length : Int), 0, y.2.2.2.2.1⟩ := by
  rw [pkB_len]
  unfold pkB
  rw [readR_raw h.1 h.2]
  congr 1
theorem w16_tk {l : List Int} {t : Nat} (h : 2 ≤ t) : w16 (l.take t) = w16 l := by
  unfold w16
  simp only [List.getD_eq_getElem?_getD]
  rw [List.getElem?_take_of_lt (by omega), List.getElem?_take_of_lt (by omega)]
theorem readR_take {l : List Int} (h : (readR l).e = 0) {t : Nat} (ht : (t : Int) < (readR l).m) (htl : t ≤ l.length) : (readR (l.take t)).e = 9 := by
  have hlen : (l.take t).length = t := by rw [List.length_take]; omega
  by_cases h6 : t < 6
  · unfold readR
    rw [hlen, if_pos h6]; rfl
  · have e1 : w16 (l.take t) = w16 l := w16_tk (by omega)
    have e2 : w16 ((l.take t).drop 4) = w16 (l.drop 4) := by rw [List.drop_take]; exact w16_tk (by omega)
    have hm : ¬ l.length < 6 ∧ ¬ (bits .andNot .i64 (w16 l) 6143 ≠ 0) ∧ ¬ ¬ (2 ≤ w16 (l.drop 4) ∧ w16 (l.drop 4) ≤ 1001) ∧ (readR l).m = w16 (l.drop 4) + 7 := by
      unfold readR at h ⊢
      by_cases q0 : l.length < 6
      · rw [if_pos q0] at h; cases h
      · by_cases q1 : bits .andNot .i64 (w16 l) 6143 ≠ 0
        · rw [if_neg q0, if_pos q1] at h; cases h
        · by_cases q2 : ¬ (2 ≤ w16 (l.drop 4) ∧ w16 (l.drop 4) ≤ 1001)
          · rw [if_neg q0, if_neg q1, if_pos q2] at h; cases h
          · by_cases q3 : (l.length : Int) < w16 (l.drop 4) + 7
            · rw [if_neg q0, if_neg q1, if_neg q2, if_pos q3] at h; cases h
            · by_cases q4 : crcI (l.take (w16 (l.drop 4) + 5).toNat) ≠ w16 (l.drop (w16 (l.drop 4) + 5).toNat)
              · rw [if_neg q0, if_neg q1, if_neg q2, if_neg q3, if_pos q4] at h; cases h
              · refine ⟨q0, q1, q2, ?_⟩
                rw [if_neg q0, if_neg q1, if_neg q2, if_neg q3, if_neg q4]
    obtain ⟨a0, a1, a2, a3⟩ := hm
    unfold readR
    rw [hlen, if_neg h6, e1, if_neg a1, e2, if_neg a2, if_pos (by omega)]
    rfl

/-! how many packets are whole in so many bytes -/
def cntP : List Pkt → Nat → Nat
  | [], _ => 0
  | p :: ps, t => if (pkB p).length ≤ t then cntP ps (t - (pkB p).length) + 1 else 0
def remP : List Pkt → Nat → Nat
  | [], t => t
  | p :: ps, t => if (pkB p).length ≤ t then remP ps (t - (pkB p).length) else t
def own (l : List Pkt) : List Pkt := l.filter fun y => decide (y.1 ≠ 2047)
theorem own_app (a b : List Pkt) : own (a ++ b) = own a ++ own b := List.filter_append ..
theorem pkAll_app : ∀ (a b : List Pkt), pkAll (a ++ b) = pkAll a ++ pkAll b
  | [], b => rfl
  | y :: a, b => by simp only [List.cons_append, pkAll, pkAll_app a b, List.append_assoc]
theorem rem_cnt : ∀ (ps : List Pkt) (t : Nat), remP ps t + (pkAll (ps.take (cntP ps t))).length = t
  | [], t => by simp [remP, cntP, pkAll]
  | p :: ps, t => by
    simp only [remP, cntP]
    by_cases h : (pkB p).length ≤ t
    · have := rem_cnt ps (t - (pkB p).length)
      rw [if_pos h, if_pos h, List.take_succ_cons]
      simp only [pkAll, List.length_append]
      omega
    · rw [if_neg h, if_neg h]; simp [pkAll]
theorem cnt_max : ∀ (ps : List Pkt) (t : Nat) (p : Pkt) (qs : List Pkt), ps.drop (cntP ps t) = p :: qs → remP ps t < (pkB p).length
  | [], t, p, qs, h => by simp at h
  | x :: ps, t, p, qs, h => by
    simp only [remP, cntP] at h ⊢
    by_cases hx : (pkB x).length ≤ t
    · rw [if_pos hx] at h ⊢
      rw [List.drop_succ_cons] at h
      exact cnt_max ps _ p qs h
    · rw [if_neg hx] at h ⊢
      rw [List.drop_zero] at h
      cases h
      omega
theorem drain_flat : ∀ (ps : List Pkt) (ho : ∀ y ∈ ps, PkOk y) (t : Nat) (f : Nat) (bad : Int) (out : List Pkt), t ≤ (pkAll ps).length → t < f →
    drain f bad ((pkAll ps).take t) out = ⟨false, bad, (pkAll (ps.drop (cntP ps t))).take (remP ps t), out ++ own (ps.take (cntP ps t))⟩
  | [], ho, t, f, bad, out, ht, hf => by
    obtain ⟨f, rfl⟩ : ∃ j, f = j + 1 := ⟨f - 1, by omega⟩
    simp only [pkAll, List.take_nil, drain, readR_nil, Rd.bad, cntP, List.drop_nil, own, List.filter_nil, List.append_nil]
    rfl
  | p :: ps, ho, t, f, bad, out, ht, hf => by
    obtain ⟨f, rfl⟩ : ∃ j, f = j + 1 := ⟨f - 1, by omega⟩
    have hp := ho p (by simp)
    have hr := readR_pkB hp
    simp only [drain, cntP, remP]
    by_cases h : (pkB p).length ≤ t
    · have e : (pkAll (p :: ps)).take t = pkB p ++ (pkAll ps).take (t - (pkB p).length) := by
        simp only [pkAll]
        rw [List.take_append, List.take_of_length_le h]
      rw [e, hr, if_pos h, if_pos h]
      simp only [pkAll, List.length_append] at ht
      have hpl := pkB_len p
      simp only [if_true, Int.toNat_natCast, List.drop_left]
      rw [drain_flat ps (fun y hy => ho y (by simp [hy])) (t - (pkB p).length) f bad _ (by omega) (by omega)]
      have hpk : pkOf ⟨p.1, p.2.1, p.2.2.1, p.2.2.2.1, ((pkB p).length : Int), 0, p.2.2.2.2.1⟩ = p := rfl
      rw [hpk, List.take_succ_cons, List.drop_succ_cons]
      have ho1 : own (p :: ps.take (cntP ps (t - (pkB p).length))) = (if p.1 ≠ 2047 then [p] else []) ++ own (ps.take (cntP ps (t - (pkB p).length))) := by
        unfold own
        rw [List.filter_cons]
        by_cases q : p.1 ≠ 2047
        · rw [if_pos (by simpa using q), if_pos q]; rfl
        · rw [if_neg (by simpa using q), if_neg q]; rfl
      rw [ho1]
      by_cases q : p.1 ≠ 2047
      · rw [if_pos q, if_pos q, List.append_assoc]
      · rw [if_neg q, if_neg q]; rfl
    · rw [if_neg h, if_neg h]
      have e : (pkAll (p :: ps)).take t = (pkB p).take t := by
        simp only [pkAll]
        rw [List.take_append_of_le_length (by omega)]
      have h9 : (readR ((pkB p).take t)).e = 9 := by
        have := hr []
        rw [List.append_nil] at this
        exact readR_take (by rw [this]) (by rw [this]; show (t : Int) < ((pkB p).length : Int); omega) (by omega)
      rw [e, h9]
      simp only [List.drop_zero, List.take_zero, own, List.filter_nil, List.append_nil]
      rw [← e]
      rfl
def pos (ps : List Pkt) (j : Nat) : Nat := (pkAll (ps.take j)).length
theorem all_split (ps : List Pkt) (j : Nat) : pkAll ps = pkAll (ps.take j) ++ pkAll (ps.drop j) := by rw [← pkAll_app, List.take_append_drop]
theorem all_drop (ps : List Pkt) (j : Nat) : (pkAll ps).drop (pos ps j) = pkAll (ps.drop j) := by
  rw [all_split ps j]; exact List.drop_left' rfl
theorem pos_le (ps : List Pkt) (j : Nat) : pos ps j ≤ (pkAll ps).length := by
  have := congrArg List.length (all_split ps j)
  rw [List.length_append] at this
  unfold pos; omega
theorem pos_add (ps : List Pkt) (j c : Nat) : pos ps (j + c) = pos ps j + (pkAll ((ps.drop j).take c)).length := by
  unfold pos
  rw [List.take_add, pkAll_app, List.length_append]
theorem pos_mono (ps : List Pkt) {i j : Nat} (h : i ≤ j) : pos ps i ≤ pos ps j := by
  obtain ⟨c, rfl⟩ : ∃ c, j = i + c := ⟨j - i, by omega⟩
  rw [pos_add]; omega
theorem pos_lt (ps : List Pkt) {i j : Nat} (h : i < j) (hj : i < ps.length) : pos ps i < pos ps j := by
  have h1 : pos ps (i + 1) = pos ps i + (pkAll ((ps.drop i).take 1)).length := pos_add ps i 1
  have h2 : (ps.drop i).take 1 = [ps[i]] := by rw [List.drop_eq_getElem_cons hj]; rfl
  have h3 : (pkAll [ps[i]]).length = (pkB ps[i]).length := by simp [pkAll]
  have h4 := pkB_len ps[i]
  have h5 := pos_mono ps (show i + 1 ≤ j by omega)
  rw [h2, h3] at h1
  omega
/-- A reader that reads on: what it holds, and what it gave out. -/
structure Run (P : List Pkt → List Pkt → Prop) (ps : List Pkt) (T : Nat) (u : Un) (j : Nat) : Prop where
  on : u.w = false
  le : pos ps j ≤ T
  bg : u.bg = (pkAll (ps.drop j)).take (T - pos ps j)
  out : P u.out (own (ps.take j))
  max : ∀ p qs, ps.drop j = p :: qs → T - pos ps j < (pkB p).length
theorem run_from {P : List Pkt → List Pkt → Prop} (hP : ∀ a b c, P a b → P (a ++ c) (b ++ c)) {ps : List Pkt} (ho : ∀ y ∈ ps, PkOk y) {j T' : Nat} {bad : Int} {out : List Pkt} (hj : pos ps j ≤ T') (hT : T' ≤ (pkAll ps).length) (h : P out (own (ps.take j))) :
    ∃ j', Run P ps T' (drn bad ((pkAll (ps.drop j)).take (T' - pos ps j)) out) j' ∧ (drn bad ((pkAll (ps.drop j)).take (T' - pos ps j)) out).bad = bad := by
  have hl : (pkAll ps).length = pos ps j + (pkAll (ps.drop j)).length := by
    have := congrArg List.length (all_split ps j)
    rw [List.length_append] at this
    exact this
  have hlen : ((pkAll (ps.drop j)).take (T' - pos ps j)).length = T' - pos ps j := by rw [List.length_take]; omega
  have hd := drain_flat (ps.drop j) (fun y hy => ho y (List.mem_of_mem_drop hy)) (T' - pos ps j) (((pkAll (ps.drop j)).take (T' - pos ps j)).length + 1) bad out (by omega) (by omega)
  have hr := rem_cnt (ps.drop j) (T' - pos ps j)
  have hp := pos_add ps j (cntP (ps.drop j) (T' - pos ps j))
  have hsub : T' - pos ps (j + cntP (ps.drop j) (T' - pos ps j)) = remP (ps.drop j) (T' - pos ps j) := by omega
  unfold drn
  rw [hd]
  refine ⟨j + cntP (ps.drop j) (T' - pos ps j), ⟨rfl, by omega, ?_, ?_, ?_⟩, rfl⟩
  · show (pkAll ((ps.drop j).drop _)).take _ = _
    rw [List.drop_drop, hsub]
  · show P (out ++ own _) _
    rw [List.take_add, own_app]
    exact hP _ _ _ h
  · intro p qs hq
    rw [hsub]
    rw [← List.drop_drop] at hq
    exact cnt_max _ _ _ _ hq
theorem run_step {P : List Pkt → List Pkt → Prop} (hP : ∀ a b c, P a b → P (a ++ c) (b ++ c)) {ps : List Pkt} (ho : ∀ y ∈ ps, PkOk y) {T D : Nat} {u : Un} {j : Nat} (h : Run P ps T u j) (hT : T + D ≤ (pkAll ps).length) (d : Int) :
    ∃ j', Run P ps (T + D) (unS u d (((pkAll ps).drop T).take D)) j' ∧ (unS u d (((pkAll ps).drop T).take D)).bad = u.bad := by
  have hle := h.le
  have e1 : ((pkAll ps).drop T).take D = ((pkAll (ps.drop j)).drop (T - pos ps j)).take D := by
    rw [← all_drop, List.drop_drop, show pos ps j + (T - pos ps j) = T by omega]
  have e2 : u.bg ++ ((pkAll ps).drop T).take D = (pkAll (ps.drop j)).take (T + D - pos ps j) := by
    rw [h.bg, e1, ← List.take_add, show T - pos ps j + D = T + D - pos ps j by omega]
  have hs : unS u d (((pkAll ps).drop T).take D) = drn u.bad ((pkAll (ps.drop j)).take (T + D - pos ps j)) u.out := by
    unfold unS
    rw [h.on, e2]; rfl
  rw [hs]
  exact run_from hP ho (by omega) hT h.out
theorem run_begin {P : List Pkt → List Pkt → Prop} (hP : ∀ a b c, P a b → P (a ++ c) (b ++ c)) {ps : List Pkt} (ho : ∀ y ∈ ps, PkOk y) {T D : Nat} {u : Un} (hw : u.w = true) {j : Nat} {d : Int} (hd0 : 0 ≤ d) (hdD : d < D) (hd : d ≠ 2047) (hj : (pos ps j : Int) = T + d) (hT : T + D ≤ (pkAll ps).length)
    (h : P u.out (own (ps.take j))) : ∃ j', Run P ps (T + D) (unS u d (((pkAll ps).drop T).take D)) j' ∧ (unS u d (((pkAll ps).drop T).take D)).bad = u.bad := by
  have e1 : (((pkAll ps).drop T).take D).drop d.toNat = (pkAll (ps.drop j)).take (T + D - pos ps j) := by
    rw [← all_drop, List.drop_take, List.drop_drop, show T + d.toNat = pos ps j by omega, show D - d.toNat = T + D - pos ps j by omega]
  have hs : unS u d (((pkAll ps).drop T).take D) = drn u.bad ((pkAll (ps.drop j)).take (T + D - pos ps j)) u.out := by
    unfold unS
    rw [if_pos hw, if_neg hd, e1]
  rw [hs]
  exact run_from hP ho (by omega) hT h

/-! what is packed -/
def idleP (f : Nat) : Pkt := (2047, (false, (3, (0, (zeros (f - 8), ())))))
def padP (l : List Pkt) (D : Nat) : List Pkt := if free (pkAll l).length D = 0 then l else l ++ [idleP (free (pkAll l).length D)]
theorem padP_all (l : List Pkt) (D : Nat) : padB (pkAll l) D = pkAll (padP l D) := by
  unfold padB padP
  split
  · rfl
  · rw [pkAll_app]
    simp [pkAll, idleP, pkB, idle]
theorem pkSt_app : ∀ (a b : List Pkt) (s : Nat), pkSt s (a ++ b) = pkSt s a ++ pkSt (s + (pkAll a).length) b
  | [], b, s => by simp [pkSt, pkAll]
  | y :: a, b, s => by
    simp only [List.cons_append, pkSt, pkSt_app a b, pkAll, List.length_append]
    rw [Nat.add_assoc]
theorem padP_st (l : List Pkt) (D : Nat) : padS (pkSt 0 l) (pkAll l) D = pkSt 0 (padP l D) := by
  unfold padS padP
  split
  · rfl
  · rw [pkSt_app]
    simp [pkSt]
theorem pkErrs_ok : ∀ {l : List Pkt}, pkErrs l = 0 → ∀ y ∈ l, pkE y = 0
  | [], _, y, hy => by cases hy
  | x :: l, h, y, hy => by
    simp only [pkErrs] at h
    by_cases e : pkE x = 0
    · rw [if_pos e] at h
      rcases List.mem_cons.1 hy with rfl | hy
      · exact e
      · exact pkErrs_ok h y hy
    · rw [if_neg e] at h; exact absurd h e
theorem padP_ok {l : List Pkt} {D : Nat} (hD : 16 ≤ D ∧ D ≤ 992) (h : pkErrs l = 0) (hB : ∀ y ∈ l, B y.2.2.2.2.1) : ∀ y ∈ padP l D, PkOk y := by
  have h1 : ∀ y ∈ l, PkOk y := fun y hy => ⟨chk_right (pkErrs_ok h y hy), hB y hy⟩
  unfold padP
  split
  · exact h1
  · rename_i hf
    intro y hy
    rcases List.mem_append.1 hy with hy | hy
    · exact h1 y hy
    · rw [List.mem_singleton] at hy
      subst hy
      exact ⟨idleRight (free_bounds hD hf), zeros_B _⟩
theorem own_pad (l : List Pkt) (D : Nat) : own (padP l D) = own l := by
  unfold padP
  split
  · rfl
  · rw [own_app]; simp [own, idleP]
theorem st_pos : ∀ (ps : List Pkt) (a : Nat) (s : Int), s ∈ pkSt a ps → ∃ j, j < ps.length ∧ s = ((a + pos ps j : Nat) : Int)
  | [], _, s, h => by cases h
  | y :: ps, a, s, h => by
    simp only [pkSt] at h
    rcases List.mem_cons.1 h with rfl | h
    · exact ⟨0, by simp, by simp [pos, pkAll]⟩
    · obtain ⟨j, hj, e⟩ := st_pos ps _ s h
      refine ⟨j + 1, by simp; omega, ?_⟩
      rw [e]
      simp only [pos, List.take_succ_cons, pkAll, List.length_append]
      congr 1
      omega
theorem fstI_pos {ps : List Pkt} {lo hi : Nat} (h : fstI lo hi (pkSt 0 ps) ≠ 2047) : ∃ j, j < ps.length ∧ (pos ps j : Int) = lo + fstI lo hi (pkSt 0 ps) ∧ 0 ≤ fstI lo hi (pkSt 0 ps) ∧ (lo : Int) + fstI lo hi (pkSt 0 ps) < hi := by
  unfold fstI at h ⊢
  cases e : (pkSt 0 ps).find? (inn lo hi) with
  | none => rw [e] at h; exact absurd rfl h
  | some s =>
    have hm := List.mem_of_find?_eq_some e
    have hi' := List.find?_some e
    simp only [inn, decide_eq_true_eq] at hi'
    obtain ⟨j, hj, es⟩ := st_pos ps 0 s hm
    refine ⟨j, hj, ?_, ?_, ?_⟩
    · show (pos ps j : Int) = lo + (s - lo); omega
    · show 0 ≤ s - lo; omega
    · show (lo : Int) + (s - lo) < hi; omega
theorem fstI_zero {ps : List Pkt} (h : ps ≠ []) {D : Nat} (hD : 0 < D) : fstI ((0 * D : Nat) : Int) (((0 + 1) * D : Nat) : Int) (pkSt 0 ps) = 0 := by
  cases ps with
  | nil => exact absurd rfl h
  | cons y ps =>
    unfold fstI
    simp only [pkSt]
    rw [List.find?_cons]
    have : inn ((0 * D : Nat) : Int) (((0 + 1) * D : Nat) : Int) ((0 : Nat) : Int) = true := by simp [inn]; omega
    rw [this]
    simp
end Go.Proofs.Ytahdmfboidjkoaa.PM
/- Packets in frames come back; lost frames lose no others. -/
set_option linter.unusedSimpArgs false
set_option linter.unusedVariables false
namespace Go.Proofs.Ytahdmfboidjkoaa.PM
open Go Go.Proofs.Ytahdmfboidjkoaa.Bt Go.Proofs.Ytahdmfboidjkoaa.Crc
variable {R : Type}

structure Pack (a b n size : Int) (ps : List Pkt) (D many : Nat) : Prop where
  sz : 24 ≤ size ∧ size ≤ 1000
  Dq : D = (size - 8).toNat
  a : 0 ≤ a ∧ a ≤ 65535
  b : 0 ≤ b ∧ b ≤ 7
  n : 0 ≤ n ∧ n ≤ 255
  ok : ∀ y ∈ ps, PkOk y
  len : (pkAll ps).length = many * D
  many : many ≤ 1000
def fm (a b n : Int) (D : Nat) (ps : List Pkt) (i : Nat) : Fm := frP a b n D (pkAll ps) (pkSt 0 ps) i
theorem pack_of {a b n size : Int} {l : List Pkt} (hB : ∀ y ∈ l, B y.2.2.2.2.1) (h : packE a b n size l = 0) :
    ∃ (D many : Nat), Pack a b n size (padP l D) D many ∧ packL a b n size l = (List.range' 0 many).map (fm a b n D (padP l D)) := by
  have h0 := h
  unfold packE at h
  by_cases h1 : 24 ≤ size ∧ size ≤ 1000
  · rw [if_neg (not_not_intro h1)] at h
    by_cases h2 : (0 ≤ a ∧ a ≤ 65535) ∧ (0 ≤ b ∧ b ≤ 7) ∧ (0 ≤ n ∧ n ≤ 255)
    · rw [if_neg (not_not_intro h2)] at h
      by_cases h3 : allE l = 0
      · rw [if_neg (not_not_intro h3)] at h
        by_cases h4 : 1000 < (padB (pkAll l) (size - 8).toNat).length / (size - 8).toNat
        · rw [if_pos h4] at h; cases h
        · obtain ⟨e1, e2⟩ := allE_zero h3
          have hD : 16 ≤ (size - 8).toNat ∧ (size - 8).toNat ≤ 992 := by omega
          have hm : (padB (pkAll l) (size - 8).toNat).length % (size - 8).toNat = 0 := by rw [padB_len hD]; exact free_mod (by omega)
          have hdm := Nat.div_add_mod (padB (pkAll l) (size - 8).toNat).length (size - 8).toNat
          refine ⟨(size - 8).toNat, (padB (pkAll l) (size - 8).toNat).length / (size - 8).toNat, ⟨h1, rfl, h2.1, h2.2.1, h2.2.2, padP_ok hD e2 hB, ?_, by omega⟩, ?_⟩
          · rw [← padP_all, Nat.mul_comm]; omega
          · unfold packL
            rw [if_pos h0, List.range_eq_range', padP_all, padP_st]
            rfl
      · rw [if_pos h3] at h; exact absurd h h3
    · rw [if_pos h2] at h; cases h
  · rw [if_pos h1] at h; cases h
theorem fm_num {a b n : Int} (hn : 0 ≤ n ∧ n ≤ 255) (D : Nat) (ps : List Pkt) (i : Nat) : (fm a b n D ps i).2.2.1 = (n + i) % 256 := by
  show Int.tmod (n + i) 256 = _
  exact Int.tmod_eq_emod_of_nonneg (by omega)
theorem fm_len {ps : List Pkt} {D many : Nat} (h : (pkAll ps).length = many * D) {i : Nat} (hi : i < many) : (((pkAll ps).drop (i * D)).take D).length = D := by
  have : (i + 1) * D ≤ many * D := Nat.mul_le_mul_right D (by omega)
  rw [Nat.add_mul, Nat.one_mul] at this
  rw [List.length_take, List.length_drop]; omega
theorem fm_chk {a b n size : Int} {ps : List Pkt} {D many : Nat} (h : Pack a b n size ps D many) {i : Nat} (hi : i < many) :
    chkF (fm a b n D ps i).1 (fm a b n D ps i).2.1 (fm a b n D ps i).2.2.1 (fm a b n D ps i).2.2.2.1 (fm a b n D ps i).2.2.2.2.1 size = 0 := by
  have hn := fm_num (a := a) (b := b) h.n D ps i
  have hl : (fm a b n D ps i).2.2.2.2.1.length = D := fm_len h.len hi
  have h1 := h.sz
  have h2 := h.Dq
  have h3 := h.a
  have h4 := h.b
  show chkF a b _ _ _ size = 0
  rw [hn]
  unfold chkF
  rw [if_neg (not_not_intro h1), if_neg (not_not_intro h3), if_neg (not_not_intro h4), if_neg (by omega), hl, if_neg (by omega)]
  by_cases e : (fm a b n D ps i).2.2.2.1 = 2047
  · rw [if_pos e]
  · rw [if_neg e]
    obtain ⟨j, _, _, q1, q2⟩ := fstI_pos (ps := ps) (lo := i * D) (hi := (i + 1) * D) e
    have e0 : (i + 1) * D = i * D + D := by rw [Nat.add_mul, Nat.one_mul]
    rw [if_neg]
    show ¬ ¬ (0 ≤ fstI ((i * D : Nat) : Int) (((i + 1) * D : Nat) : Int) (pkSt 0 ps) ∧ fstI ((i * D : Nat) : Int) (((i + 1) * D : Nat) : Int) (pkSt 0 ps) ≤ (D : Int) - 1)
    omega
theorem fm_uchk {a b n size : Int} {ps : List Pkt} {D many : Nat} (h : Pack a b n size ps D many) {z : Fm} (hz : z.1 = a ∧ z.2.1 = b) : ∀ (is : List Nat), (∀ i ∈ is, i < many) → uchk size z (is.map (fm a b n D ps)) = 0
  | [], _ => rfl
  | i :: is, hi => by
    rw [List.map_cons, uchk_3 (fm_chk h (hi i (by simp))) ⟨hz.1.symm, hz.2.symm⟩]
    exact fm_uchk h hz is (fun i' hi' => hi i' (by simp [hi']))
theorem fm_uchk' {a b n size : Int} {ps : List Pkt} {D many : Nat} (h : Pack a b n size ps D many) (is : List Nat) (hi : ∀ i ∈ is, i < many) : uchk size (hd0 (is.map (fm a b n D ps))) (is.map (fm a b n D ps)) = 0 := by
  cases is with
  | nil => rfl
  | cons i is => exact fm_uchk h ⟨rfl, rfl⟩ (i :: is) hi
theorem unpF_pack {a b n size : Int} {ps : List Pkt} {D many : Nat} (h : Pack a b n size ps D many) (is : List Nat) (hi : ∀ i ∈ is, i < many) (hl : is.length ≤ 1000) :
    unpF (is.map (fm a b n D ps)) size = ((unL none (is.map (fm a b n D ps)) u0).bad, 0, (unL none (is.map (fm a b n D ps)) u0).out) := by
  have h1 : chkN size = 0 := by unfold chkN; rw [if_pos h.sz]
  unfold unpF
  rw [if_neg (not_not_intro h1), List.length_map, if_neg (by omega), if_neg (not_not_intro (fm_uchk' h is hi))]

/-! nothing is lost -/
theorem eq_app : ∀ (a b c : List Pkt), a = b → a ++ c = b ++ c := fun a b c h => by rw [h]
theorem seq14 {a b n size : Int} {ps : List Pkt} {D many : Nat} (h : Pack a b n size ps D many) : ∀ (d i : Nat) (u : Un) (j : Nat), i + 1 + d = many → Run Eq ps ((i + 1) * D) u j → u.bad = 0 →
    (unL (some ((n + i) % 256)) ((List.range' (i + 1) d).map (fm a b n D ps)) u).bad = 0 ∧ ∃ j', Run Eq ps (many * D) (unL (some ((n + i) % 256)) ((List.range' (i + 1) d).map (fm a b n D ps)) u) j'
  | 0, i, u, j, hi, hr, hb => by
    simp only [List.range'_zero, List.map_nil, unL]
    exact ⟨hb, j, by rw [← show i + 1 = many by omega]; exact hr⟩
  | d + 1, i, u, j, hi, hr, hb => by
    have hnn := h.n
    have e0 : (i + 1 + 1) * D = (i + 1) * D + D := by rw [Nat.add_mul, Nat.one_mul]
    have hle : (i + 1 + 1) * D ≤ many * D := Nat.mul_le_mul_right D (by omega)
    have e1 : ¬ (n + ((i + 1 : Nat) : Int)) % 256 = (n + i) % 256 := by omega
    have e2 : (n + ((i + 1 : Nat) : Int)) % 256 = ((n + i) % 256 + 1) % 256 := by omega
    obtain ⟨j', hr', hb'⟩ := run_step eq_app h.ok hr (D := D) (by rw [h.len]; omega) (fm a b n D ps (i + 1)).2.2.2.1
    rw [List.range'_succ, List.map_cons]
    simp only [unL]
    rw [fm_num hnn, if_neg e1, if_pos e2]
    have := seq14 h d (i + 1) (unS u (fm a b n D ps (i + 1)).2.2.2.1 (((pkAll ps).drop ((i + 1) * D)).take D)) j' (by omega) (by rw [e0]; exact hr') (by rw [hb']; exact hb)
    exact this
theorem run_end {ps : List Pkt} {P : List Pkt → List Pkt → Prop} {u : Un} {j : Nat} (h : Run P ps (pkAll ps).length u j) : P u.out (own ps) := by
  have hout := h.out
  have : ps.drop j = [] := by
    cases e : ps.drop j with
    | nil => rfl
    | cons p qs =>
      have hm := h.max p qs e
      have hs := congrArg List.length (all_split ps j)
      rw [List.length_append, e] at hs
      simp only [pkAll, List.length_append] at hs
      have : pos ps j = (pkAll (ps.take j)).length := rfl
      omega
  have e := List.take_append_drop j ps
  rw [this, List.append_nil] at e
  rwa [e] at hout
theorem trip14 {a b n size : Int} {ps : List Pkt} {D many : Nat} (h : Pack a b n size ps D many) : unpF ((List.range' 0 many).map (fm a b n D ps)) size = (0, 0, own ps) := by
  have h2 := h.many
  rw [unpF_pack h _ (fun i hi => by rw [List.mem_range'_1] at hi; omega) (by rw [List.length_range']; omega)]
  cases many with
  | zero =>
    have hl := h.len
    have : ps = [] := by
      cases ps with
      | nil => rfl
      | cons y ps => simp only [pkAll, List.length_append, pkB_len] at hl; omega
    subst this
    rfl
  | succ m =>
    have hD : 0 < D := by have := h.sz; have := h.Dq; omega
    have hne : ps ≠ [] := by
      intro e
      have hl := h.len
      rw [e, Nat.add_mul] at hl
      simp only [pkAll, List.length_nil] at hl
      omega
    have hz : (fm a b n D ps 0).2.2.2.1 = 0 := fstI_zero hne hD
    have hl := h.len
    have hle : 1 * D ≤ (m + 1) * D := Nat.mul_le_mul_right D (by omega)
    have hb := run_begin (P := Eq) eq_app h.ok (T := 0) (D := D) (u := u0) rfl (j := 0) (d := 0) (by omega) (by omega) (by omega) (by simp [pos, pkAll]) (by omega) rfl
    obtain ⟨j, hr, hbad⟩ := hb
    rw [List.range'_succ, List.map_cons]
    simp only [unL]
    rw [fm_num h.n]
    have hs : unS u0 (fm a b n D ps 0).2.2.2.1 (fm a b n D ps 0).2.2.2.2.1 = unS u0 0 (((pkAll ps).drop 0).take D) := by
      rw [hz]
      show unS u0 0 (((pkAll ps).drop (0 * D)).take D) = _
      rw [Nat.zero_mul]
    rw [hs]
    obtain ⟨q1, j', q2⟩ := seq14 h m 0 (unS u0 0 (((pkAll ps).drop 0).take D)) j (by omega) (by rw [Nat.zero_add, Nat.one_mul]; rwa [Nat.zero_add] at hr) (by rw [hbad]; rfl)
    rw [← hl] at q2
    have q3 := run_end q2
    rw [q1, q3]

/-! some frames are lost -/
theorem sub_app : ∀ (a b c : List Pkt), List.Sublist a b → List.Sublist (a ++ c) (b ++ c) := fun a b c h => h.append_right c
def Sx (ps : List Pkt) (T : Nat) (u : Un) : Prop := (∃ j, Run List.Sublist ps T u j) ∨ (u.w = true ∧ ∃ j, pos ps j ≤ T ∧ List.Sublist u.out (own (ps.take j)))
theorem Sx.sub {ps : List Pkt} {T : Nat} {u : Un} (h : Sx ps T u) : List.Sublist u.out (own ps) := by
  have key : ∀ j, List.Sublist (own (ps.take j)) (own ps) := fun j => by
    have := own_app (ps.take j) (ps.drop j)
    rw [List.take_append_drop] at this
    rw [this]
    exact List.sublist_append_left _ _
  rcases h with ⟨j, h⟩ | ⟨_, j, _, h⟩
  · exact h.out.trans (key j)
  · exact h.trans (key j)
theorem own_mono (ps : List Pkt) {i j : Nat} (h : i ≤ j) : List.Sublist (own (ps.take i)) (own (ps.take j)) := by
  obtain ⟨c, rfl⟩ : ∃ c, j = i + c := ⟨j - i, by omega⟩
  rw [List.take_add, own_app]
  exact List.sublist_append_left _ _
theorem st_wait {a b n size : Int} {ps : List Pkt} {D many : Nat} (h : Pack a b n size ps D many) {T i : Nat} (hi : i < many) (hT : T ≤ i * D) {u : Un} (hw : u.w = true) (hu : ∃ j, pos ps j ≤ T ∧ List.Sublist u.out (own (ps.take j))) :
    Sx ps ((i + 1) * D) (unS u (fm a b n D ps i).2.2.2.1 (fm a b n D ps i).2.2.2.2.1) := by
  obtain ⟨j0, p0, s0⟩ := hu
  have e0 : (i + 1) * D = i * D + D := by rw [Nat.add_mul, Nat.one_mul]
  have hle : (i + 1) * D ≤ many * D := Nat.mul_le_mul_right D (by omega)
  by_cases e : (fm a b n D ps i).2.2.2.1 = 2047
  · have hs : unS u (fm a b n D ps i).2.2.2.1 (fm a b n D ps i).2.2.2.2.1 = u := by unfold unS; rw [if_pos hw, if_pos e]
    rw [hs]
    exact Or.inr ⟨hw, j0, by omega, s0⟩
  · obtain ⟨j, hj, q0, q1, q2⟩ := fstI_pos (ps := ps) (lo := i * D) (hi := (i + 1) * D) e
    have hjj : j0 ≤ j := by
      by_cases c : j0 ≤ j
      · exact c
      · have := pos_lt ps (show j < j0 by omega) hj
        omega
    obtain ⟨j', hr, _⟩ := run_begin (P := List.Sublist) sub_app h.ok (T := i * D) (D := D) hw (j := j) (d := (fm a b n D ps i).2.2.2.1) q1 (by
      show fstI ((i * D : Nat) : Int) (((i + 1) * D : Nat) : Int) (pkSt 0 ps) < (D : Int)
      omega) e q0 (by rw [h.len]; omega) (s0.trans (own_mono ps hjj))
    rw [e0]
    exact Or.inl ⟨j', hr⟩
theorem seq15 {a b n size : Int} {ps : List Pkt} {D many : Nat} (h : Pack a b n size ps D many) (hm : many ≤ 200) : ∀ (is : List Nat) (i0 : Nat) (u : Un), (∀ i ∈ is, i0 < i ∧ i < many) → is.Pairwise (· < ·) → Sx ps ((i0 + 1) * D) u →
    List.Sublist (unL (some ((n + i0) % 256)) (is.map (fm a b n D ps)) u).out (own ps)
  | [], i0, u, _, _, hs => hs.sub
  | i :: is, i0, u, hi, hp, hs => by
    have hnn := h.n
    have hi0 := hi i (by simp)
    rw [List.pairwise_cons] at hp
    have e0 : (i + 1) * D = i * D + D := by rw [Nat.add_mul, Nat.one_mul]
    have hle : (i + 1) * D ≤ many * D := Nat.mul_le_mul_right D (by omega)
    have hle2 : (i0 + 1) * D ≤ i * D := Nat.mul_le_mul_right D (by omega)
    have e1 : ¬ (n + (i : Int)) % 256 = (n + i0) % 256 := by omega
    rw [List.map_cons]
    simp only [unL]
    rw [fm_num hnn, if_neg e1]
    refine seq15 h hm is i _ (fun i' hi' => ⟨hp.1 i' hi', (hi i' (by simp [hi'])).2⟩) hp.2 ?_
    by_cases c : i = i0 + 1
    · have e2 : (n + (i : Int)) % 256 = ((n + i0) % 256 + 1) % 256 := by omega
      rw [if_pos e2]
      rcases hs with ⟨j, hr⟩ | ⟨hw, hx⟩
      · rw [← c] at hr
        obtain ⟨j', hr', _⟩ := run_step sub_app h.ok hr (D := D) (by rw [h.len]; omega) (fm a b n D ps i).2.2.2.1
        rw [e0]
        exact Or.inl ⟨j', hr'⟩
      · exact st_wait h hi0.2 hle2 hw hx
    · have e2 : ¬ (n + (i : Int)) % 256 = ((n + i0) % 256 + 1) % 256 := by omega
      rw [if_neg e2]
      refine st_wait h (T := (i0 + 1) * D) hi0.2 hle2 rfl ?_
      rcases hs with ⟨j, hr⟩ | ⟨hw, hx⟩
      · exact ⟨j, hr.le, hr.out⟩
      · exact hx
theorem trip15 {a b n size : Int} {ps : List Pkt} {D many : Nat} (h : Pack a b n size ps D many) (hm : many ≤ 200) (is : List Nat) (hi : ∀ i ∈ is, i < many) (hp : is.Pairwise (· < ·)) (hl : is.length ≤ 1000) :
    (unpF (is.map (fm a b n D ps)) size).2.1 = 0 ∧ List.Sublist (unpF (is.map (fm a b n D ps)) size).2.2 (own ps) := by
  rw [unpF_pack h is hi hl]
  refine ⟨rfl, ?_⟩
  cases is with
  | nil => exact List.nil_sublist _
  | cons i is =>
    rw [List.pairwise_cons] at hp
    rw [List.map_cons]
    simp only [unL]
    rw [fm_num h.n]
    refine seq15 h hm is i _ (fun i' hi' => ⟨hp.1 i' hi', hi i' (by simp [hi'])⟩) hp.2 ?_
    exact st_wait h (T := 0) (hi i (by simp)) (by omega) rfl ⟨0, by simp [pos, pkAll], by simp [u0]⟩
end Go.Proofs.Ytahdmfboidjkoaa.PM
/- Packets in frames come back, and lost frames: the two laws. -/
set_option linter.unusedSimpArgs false
set_option linter.unusedVariables false
namespace Go.Proofs.Ytahdmfboidjkoaa.PM
open Go Go.Proofs.Ytahdmfboidjkoaa.Bt Go.Proofs.Ytahdmfboidjkoaa.Crc
variable {R : Type}

theorem own_len (l : List Pkt) : (own l).length ≤ l.length := List.length_filter_le _ _
theorem own_loop (k : Nat) (x0 : List Pkt → Option R) (z0 z1 : Int) (out l : List Pkt) (hl : l.length ≤ 2000) : ∀ (d f i : Nat), i + d = l.length → d < f →
    f14_0d k x0 z0 z1 l (l.length : Int) out f (i : Int) (own (l.take i)) = x0 (own l)
  | d, 0, i, _, h => absurd h (Nat.not_lt_zero _)
  | 0, f + 1, i, hi, _ => by
    have h1 : decide ((i : Int) < (l.length : Int)) = false := by simp only [decide_eq_false_iff_not]; omega
    simp only [f14_0d, f14_0b, h1, cond_false]
    rw [List.take_of_length_le (by omega)]
  | d + 1, f + 1, i, hi, hf => by
    have h1 : decide ((i : Int) < (l.length : Int)) = true := by simp only [decide_eq_true_eq]; omega
    have h0 : decide ((0 : Int) ≤ (i : Int)) = true := by simp
    have hli : i < l.length := by omega
    have w2 : IntKind.i64.wrap ((i : Int) + 1) = ((i + 1 : Nat) : Int) := by rw [wraps_i64 _ (by omega) (by omega)]; omega
    have hg : l.getD i (0, (false, (0, (0, (([] : List Int), ()))))) = l[i] := by rw [List.getD_eq_getElem?_getD, List.getElem?_eq_getElem hli]; rfl
    have ih := own_loop k x0 z0 z1 out l hl d f (i + 1) (by omega) (by omega)
    have ht : own (l.take (i + 1)) = own (l.take i) ++ (if (l[i]).1 ≠ 2047 then [l[i]] else []) := by
      rw [List.take_succ_eq_append_getElem hli, own_app]
      congr 1
      unfold own
      by_cases q : (l[i]).1 ≠ 2047
      · rw [if_pos q, List.filter_cons, if_pos (by simpa using q)]; rfl
      · rw [if_neg q, List.filter_cons, if_neg (by simpa using q)]; rfl
    rw [ht] at ih
    have hol := own_len (l.take i)
    rw [List.length_take] at hol
    have L : 1000000 ≤ LIM 56 := LIM56
    simp only [f14_0d, f14_0b, h1, h0, cond_true, Bool.and_self, Int.toNat_natCast, hg, w2, f14_1000010_def, f14_1000010d]
    by_cases q : (l[i]).1 = 2047
    · have q' : ((l[i]).1 != 2047) = false := by simp [q]
      rw [if_neg (by simpa using q), List.append_nil] at ih
      simp only [q', cond_false]
      exact ih
    · have q' : ((l[i]).1 != 2047) = true := by simp [q]
      rw [if_pos q] at ih
      have c : decide ((own (l.take i)).length + ([((l[i]).1, ((l[i]).2.1, ((l[i]).2.2.1, ((l[i]).2.2.2.1, ((l[i]).2.2.2.2.1, ())))))] : List Pkt).length ≤ LIM 56) = true := by
        simp only [decide_eq_true_eq, List.length_singleton]; omega
      simp only [q', cond_true, c]
      exact ih
theorem allE_of {a b n size : Int} {l : List Pkt} (h : packE a b n size l = 0) : l.length ≤ 2000 ∧ pkErrs l = 0 := by
  unfold packE at h
  by_cases h1 : 24 ≤ size ∧ size ≤ 1000
  · rw [if_neg (not_not_intro h1)] at h
    by_cases h2 : (0 ≤ a ∧ a ≤ 65535) ∧ (0 ≤ b ∧ b ≤ 7) ∧ (0 ≤ n ∧ n ≤ 255)
    · rw [if_neg (not_not_intro h2)] at h
      by_cases h3 : allE l = 0
      · exact allE_zero h3
      · rw [if_pos h3] at h; exact absurd h h3
    · rw [if_pos h2] at h; cases h
  · rw [if_pos h1] at h; cases h
theorem body_le {l : List Pkt} (h : pkErrs l = 0) : ∀ y ∈ l, y.2.2.2.2.1.length ≤ 1000 := fun y hy => by
  have := (chk_right (pkErrs_ok h y hy)).2.2.2
  omega
theorem packL_B {a b n size : Int} {ps : List Pkt} {D many : Nat} (h : Pack a b n size ps D many) (is : List Nat) : (∀ y ∈ is.map (fm a b n D ps), B y.2.2.2.2.1) ∧ ∀ y ∈ is.map (fm a b n D ps), y.2.2.2.2.1.length < 4611686018427387904 := by
  have hall : B (pkAll ps) := by
    have : ∀ qs : List Pkt, (∀ y ∈ qs, PkOk y) → B (pkAll qs) := by
      intro qs
      induction qs with
      | nil => intro _; exact B.nil
      | cons y qs ih => intro hq; exact B.app (raw_B _ _ _ _ (hq y (by simp)).2) (ih fun z hz => hq z (by simp [hz]))
    exact this ps h.ok
  have hsz := h.sz
  have hDq := h.Dq
  refine ⟨fun y hy => ?_, fun y hy => ?_⟩
  · obtain ⟨i, _, rfl⟩ := List.mem_map.1 hy
    exact (hall.drop _).take _
  · obtain ⟨i, _, rfl⟩ := List.mem_map.1 hy
    show (((pkAll ps).drop (i * D)).take D).length < _
    rw [List.length_take]; omega
theorem f14_eq {l : List Pkt} (hB : ∀ y ∈ l, B y.2.2.2.2.1) (a b n size : Int) (k : Nat) (hk : 1000310 < k) (K : Bool → Option R) : f14 k a b n size l K = K true := by
  rw [f14_def]
  obtain ⟨k, rfl⟩ : ∃ j, k = j + 1 := ⟨k - 1, by omega⟩
  simp only [f14d]
  rw [f48_eq hB a b n size k (by omega)]
  by_cases e : packE a b n size l = 0
  · obtain ⟨l1, l2⟩ := allE_of e
    obtain ⟨D, many, hp, hq⟩ := pack_of hB e
    obtain ⟨g1, g2⟩ := packL_B hp (List.range' 0 many)
    have hbd := body_le l2
    rw [hq]
    simp only [e, bne_self_eq_false, cond_false, f50_eq _ size g1 g2 (show 1000200 < k by omega), trip14 hp, own_pad, f14_0_def]
    refine (own_loop k _ 0 0 (own l) l l1 l.length k 0 (by omega) (by omega)).trans ?_
    simp only [beq_self_eq_true, cond_true]
    have hol := own_len l
    rw [f27_eq (own l) (by omega) k (by omega) (fun y hy => by
      have := hbd y (List.mem_filter.1 hy).1
      exact ⟨by omega, by omega⟩)]
    simp only [beq_self_eq_true, cond_true, f21_eq k (show 11 < k by omega)]
  · have e' : (packE a b n size l != 0) = true := by simp [e]
    have e2 : packL a b n size l = [] := by unfold packL; rw [if_neg e]
    simp only [e', cond_true, e2, f21_eq k (show 11 < k by omega), List.length_nil]
    rfl

/-! lost frames -/
theorem sub_skip {p q : Pkt} {ys ls : List Pkt} (h : List.Sublist (q :: ys) (p :: ls)) (e : ¬ p = q) : List.Sublist (q :: ys) ls := by
  cases h with
  | cons _ h => exact h
  | cons_cons _ h => exact absurd rfl e
def kept (lost : List Bool) (i : Nat) : Bool := decide (lost.length ≤ i) || !(lost.getD i false)
theorem kept_loop (k : Nat) (x0 : List Fm → Option R) (z0 : Int) (z1 : List Pkt) (lost : List Bool) (hlost : lost.length < 4611686018427387904) (l : List Fm) (hl : l.length ≤ 1000) (g : Nat → Fm) (hg : ∀ i, ∀ h : i < l.length, l[i] = g i) : ∀ (d f i : Nat), i + d = l.length → d < f →
    f15_0d k x0 z0 z1 lost (l.length : Int) l f (i : Int) (((List.range i).filter (kept lost)).map g) = x0 (((List.range l.length).filter (kept lost)).map g)
  | d, 0, i, _, h => absurd h (Nat.not_lt_zero _)
  | 0, f + 1, i, hi, _ => by
    have h1 : decide ((i : Int) < (l.length : Int)) = false := by simp only [decide_eq_false_iff_not]; omega
    simp only [f15_0d, f15_0b, h1, cond_false]
    rw [show i = l.length by omega]
  | d + 1, f + 1, i, hi, hf => by
    have h1 : decide ((i : Int) < (l.length : Int)) = true := by simp only [decide_eq_true_eq]; omega
    have h0 : decide ((0 : Int) ≤ (i : Int)) = true := by simp
    have hli : i < l.length := by omega
    have w2 : IntKind.i64.wrap ((i : Int) + 1) = ((i + 1 : Nat) : Int) := by rw [wraps_i64 _ (by omega) (by omega)]; omega
    have hgi : l.getD i (0, (0, (0, (0, (([] : List Int), ()))))) = g i := by rw [List.getD_eq_getElem?_getD, List.getElem?_eq_getElem hli]; exact hg i hli
    have ih := kept_loop k x0 z0 z1 lost hlost l hl g hg d f (i + 1) (by omega) (by omega)
    have ht : ((List.range (i + 1)).filter (kept lost)).map g = ((List.range i).filter (kept lost)).map g ++ (if kept lost i = true then [g i] else []) := by
      rw [List.range_succ, List.filter_append, List.map_append]
      congr 1
      by_cases q : kept lost i = true
      · rw [if_pos q, List.filter_cons, if_pos q]; rfl
      · rw [if_neg q, List.filter_cons, if_neg q]; rfl
    rw [ht] at ih
    have hlen : (((List.range i).filter (kept lost)).map g).length ≤ i := by
      rw [List.length_map]
      have := List.length_filter_le (kept lost) (List.range i)
      rw [List.length_range] at this
      exact this
    have L : 1000000 ≤ LIM 56 := LIM56
    have c : decide ((((List.range i).filter (kept lost)).map g).length + ([((g i).1, ((g i).2.1, ((g i).2.2.1, ((g i).2.2.2.1, ((g i).2.2.2.2.1, ())))))] : List Fm).length ≤ LIM 56) = true := by
      simp only [decide_eq_true_eq, List.length_singleton]; omega
    simp only [f15_0d, f15_0b, h1, h0, cond_true, Bool.and_self, Int.toNat_natCast, hgi, w2, f15_1000009_def, f15_1000009d]
    by_cases q : lost.length ≤ i
    · have q1 : (decide ((i : Int) ≥ (lost.length : Int)) == false) = false := by simp; omega
      have q2 : kept lost i = true := by unfold kept; simp [q]
      rw [if_pos q2] at ih
      simp only [q1, cond_false, cond_true, c]
      exact ih
    · have q1 : (decide ((i : Int) ≥ (lost.length : Int)) == false) = true := by simp; omega
      have q3 : decide ((i : Int) < (lost.length : Int)) = true := by simp only [decide_eq_true_eq]; omega
      have q2 : kept lost i = !(lost.getD i false) := by unfold kept; simp [q]
      simp only [q1, q3, cond_true]
      cases hz : lost.getD i false
      · rw [hz] at q2
        rw [if_pos (by rw [q2]; rfl)] at ih
        simp only [Bool.not_false, cond_true, c]
        exact ih
      · rw [hz] at q2
        rw [if_neg (by rw [q2]; simp), List.append_nil] at ih
        simp only [Bool.not_true, cond_false]
        exact ih
theorem greedy_loop (k : Nat) (x2 : Int → Option R) (z0 : Int) (l y : List Pkt) (hl : l.length ≤ 2000) (hy : y.length ≤ 2000) (hb : ∀ p ∈ l, p.2.2.2.2.1.length ≤ 1000) (hk : 1010 < k) : ∀ (d f i j : Nat), i + d = l.length → d < f → j ≤ y.length → List.Sublist (y.drop j) (l.drop i) →
    f15_2d k x2 z0 l (l.length : Int) y f (j : Int) (i : Int) = x2 (y.length : Int)
  | d, 0, i, j, _, h, _, _ => absurd h (Nat.not_lt_zero _)
  | 0, f + 1, i, j, hi, _, hj, hs => by
    have h1 : decide ((i : Int) < (l.length : Int)) = false := by simp only [decide_eq_false_iff_not]; omega
    simp only [f15_2d, f15_2b, h1, cond_false]
    rw [List.drop_of_length_le (show l.length ≤ i by omega)] at hs
    have := List.length_drop (l := y) (i := j)
    rw [List.sublist_nil.1 hs, List.length_nil] at this
    rw [show j = y.length by omega]
  | d + 1, f + 1, i, j, hi, hf, hj, hs => by
    have h1 : decide ((i : Int) < (l.length : Int)) = true := by simp only [decide_eq_true_eq]; omega
    have h0 : decide ((0 : Int) ≤ (i : Int)) = true := by simp
    have h0' : decide ((0 : Int) ≤ (j : Int)) = true := by simp
    have hli : i < l.length := by omega
    have w2 : IntKind.i64.wrap ((i : Int) + 1) = ((i + 1 : Nat) : Int) := by rw [wraps_i64 _ (by omega) (by omega)]; omega
    have w3 : IntKind.i64.wrap ((j : Int) + 1) = ((j + 1 : Nat) : Int) := by rw [wraps_i64 _ (by omega) (by omega)]; omega
    have hg : l.getD i (0, (false, (0, (0, (([] : List Int), ()))))) = l[i] := by rw [List.getD_eq_getElem?_getD, List.getElem?_eq_getElem hli]; rfl
    simp only [f15_2d, f15_2b, h1, h0, h0', cond_true, Bool.and_self, Int.toNat_natCast, hg, w2, f15_1000017_def, f15_1000017d]
    rw [List.drop_eq_getElem_cons hli] at hs
    by_cases q : j < y.length
    · have q1 : decide ((j : Int) < (y.length : Int)) = true := by simp only [decide_eq_true_eq]; omega
      have hgy : y.getD j (0, (false, (0, (0, (([] : List Int), ()))))) = y[j] := by rw [List.getD_eq_getElem?_getD, List.getElem?_eq_getElem q]; rfl
      have hbi := hb _ (List.getElem_mem hli)
      simp only [q1, beq_self_eq_true, cond_true, hgy]
      rw [f24_eq k _ _ _ _ _ _ _ _ _ _ (by omega) (by omega)]
      rw [List.drop_eq_getElem_cons q] at hs
      by_cases e : l[i] = y[j]
      · have e' : (l[i]).1 = (y[j]).1 ∧ (l[i]).2.1 = (y[j]).2.1 ∧ (l[i]).2.2.1 = (y[j]).2.2.1 ∧ (l[i]).2.2.2.1 = (y[j]).2.2.2.1 ∧ (l[i]).2.2.2.2.1 = (y[j]).2.2.2.2.1 := by rw [e]; simp
        have e2 : decide ((l[i]).1 = (y[j]).1 ∧ (l[i]).2.1 = (y[j]).2.1 ∧ (l[i]).2.2.1 = (y[j]).2.2.1 ∧ (l[i]).2.2.2.1 = (y[j]).2.2.2.1 ∧ (l[i]).2.2.2.2.1 = (y[j]).2.2.2.2.1) = true := by rw [decide_eq_true_eq]; exact e'
        simp only [e2, cond_true, w3]
        rw [e] at hs
        exact greedy_loop k x2 z0 l y hl hy hb hk d f (i + 1) (j + 1) (by omega) (by omega) (by omega) (List.cons_sublist_cons.1 hs)
      · have e2 : decide ((l[i]).1 = (y[j]).1 ∧ (l[i]).2.1 = (y[j]).2.1 ∧ (l[i]).2.2.1 = (y[j]).2.2.1 ∧ (l[i]).2.2.2.1 = (y[j]).2.2.2.1 ∧ (l[i]).2.2.2.2.1 = (y[j]).2.2.2.2.1) = false := by
          rw [decide_eq_false_iff_not]
          rintro ⟨c1, c2, c3, c4, c5⟩
          exact e (Prod.ext c1 (Prod.ext c2 (Prod.ext c3 (Prod.ext c4 (Prod.ext c5 rfl)))))
        simp only [e2, cond_false]
        refine greedy_loop k x2 z0 l y hl hy hb hk d f (i + 1) j (by omega) (by omega) (by omega) ?_
        rw [List.drop_eq_getElem_cons q]
        exact sub_skip hs e
    · have q1 : decide ((j : Int) < (y.length : Int)) = false := by simp only [decide_eq_false_iff_not]; omega
      simp only [q1, cond_false]
      refine greedy_loop k x2 z0 l y hl hy hb hk d f (i + 1) j (by omega) (by omega) (by omega) ?_
      rw [List.drop_of_length_le (show y.length ≤ j by omega)]
      exact List.nil_sublist _
theorem f15_eq {l : List Pkt} (hB : ∀ y ∈ l, B y.2.2.2.2.1) (a b n size : Int) (lost : List Bool) (hlost : lost.length < 4611686018427387904) (k : Nat) (hk : 1000310 < k) (K : Bool → Option R) : f15 k a b n size l lost K = K true := by
  rw [f15_def]
  obtain ⟨k, rfl⟩ : ∃ j, k = j + 1 := ⟨k - 1, by omega⟩
  simp only [f15d]
  rw [f48_eq hB a b n size k (by omega)]
  by_cases e : packE a b n size l = 0
  · obtain ⟨l1, l2⟩ := allE_of e
    obtain ⟨D, many, hp, hq⟩ := pack_of hB e
    have hbd := body_le l2
    have hm := hp.many
    have hlen : (packL a b n size l).length = many := by rw [hq, List.length_map, List.length_range']
    simp only [e, bne_self_eq_false, beq_self_eq_true, cond_true, hlen]
    by_cases c : many ≤ 200
    · have c' : decide ((many : Int) > 200) = false := by simp only [decide_eq_false_iff_not]; omega
      have hgm : ∀ i, ∀ h : i < (packL a b n size l).length, (packL a b n size l)[i] = fm a b n D (padP l D) i := by
        intro i h
        have : (packL a b n size l)[i] = ((List.range' 0 many).map (fm a b n D (padP l D)))[i]'(by rw [← hq]; exact h) := by congr 1
        rw [this, List.getElem_map, List.getElem_range']
        simp
      have lp := kept_loop (R := R) k (fun y0_0_2 => (f50 k y0_0_2 size (fun r24578_0 r24578_1 r24578_2 => (f15_2 k (fun y2_2_1 => (bif ((r24578_1 == 0) == true) then (bif ((y2_2_1 == (r24578_2.length : Int)) == true) then (f21 k (fun r40969_0 => (K r40969_0))) else (K false)) else (K false))) r24578_1 l (l.length : Int) r24578_2 k 0 0))))
        size l lost hlost (packL a b n size l) (by omega) (fm a b n D (padP l D)) hgm (packL a b n size l).length k 0 (by omega) (by omega)
      simp only [c', cond_false, f15_0_def]
      rw [← hlen]
      refine lp.trans ?_
      rw [hlen]
      generalize his : (List.range many).filter (kept lost) = is
      have i1 : ∀ i ∈ is, i < many := fun i hi => by rw [← his] at hi; exact List.mem_range.1 (List.mem_filter.1 hi).1
      have i2 : is.Pairwise (· < ·) := by rw [← his]; exact List.Pairwise.filter _ List.pairwise_lt_range
      have i3 : is.length ≤ 1000 := by
        have := List.length_filter_le (kept lost) (List.range many)
        rw [List.length_range, his] at this
        omega
      obtain ⟨t1, t2⟩ := trip15 hp c is i1 i2 i3
      obtain ⟨g1, g2⟩ := packL_B hp is
      rw [f50_eq _ size g1 g2 (show 1000200 < k by omega)]
      rw [own_pad] at t2
      have t3 : List.Sublist (unpF (is.map (fm a b n D (padP l D))) size).2.2 l := t2.trans List.filter_sublist
      have t4 := t3.length_le
      simp only [f15_2_def]
      refine (greedy_loop k _ _ l _ l1 (by omega) hbd (by omega) l.length k 0 0 (by omega) (by omega) (by omega) t3).trans ?_
      simp only [t1, beq_self_eq_true, cond_true, f21_eq k (show 11 < k by omega)]
    · have c' : decide ((many : Int) > 200) = true := by simp only [decide_eq_true_eq]; omega
      simp only [c', cond_true, f21_eq k (show 11 < k by omega)]
      rfl
  · have e' : (packE a b n size l != 0) = true := by simp [e]
    have e'' : (packE a b n size l == 0) = false := by simp [e]
    have e2 : packL a b n size l = [] := by unfold packL; rw [if_neg e]
    simp only [e', e'', e2, f21_eq k (show 11 < k by omega), List.length_nil]
    rfl
end Go.Proofs.Ytahdmfboidjkoaa.PM
