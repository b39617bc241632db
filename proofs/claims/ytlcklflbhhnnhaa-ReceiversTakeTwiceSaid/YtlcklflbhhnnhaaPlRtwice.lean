/- Merged plain texts: PlRmatch, PlRok, PlRstay, PlRtwice. -/
import Derived.Test.YtlcklflbhhnnhaaPlB
/- Plain laws of receivers: Waiting, CheckReceiving and Take are as specified. -/
set_option linter.unusedSimpArgs false
set_option linter.unusedVariables false
namespace Go.Proofs.Ytlcklflbhhnnhaa.PM
open Go Go.Proofs.Ytlcklflbhhnnhaa.Bt
variable {R : Type}
end Go.Proofs.Ytlcklflbhhnnhaa.PM
/- Plain laws of receivers: what a receiver becomes is right. -/
set_option linter.unusedSimpArgs false
set_option linter.unusedVariables false
namespace Go.Proofs.Ytlcklflbhhnnhaa.PM
open Go Go.Proofs.Ytlcklflbhhnnhaa.Bt
variable {R : Type}
theorem lastT_of {lim : Int} {l : List Rg} (h : LOk lim l) {N : Int} (h1 : ∀ j, inR l j → j < N) (h2 : inR l (N - 1)) : lastT 0 l = N := by
  obtain ⟨x, hx, _, hx2⟩ := h2
  have hl := srt_last h.srt x hx
  have hne : l ≠ [] := fun e => by rw [e] at hx; cases hx
  have hlast : inR l (lastT 0 l - 1) := by
    have e := lastT_getD 0 l hne
    have hlen : l.length - 1 < l.length := by have := List.length_pos_iff.2 hne; omega
    rw [getD_in hlen] at e
    have hm := List.getElem_mem hlen
    have := h.ne _ hm
    exact ⟨l[l.length - 1], hm, by omega, by omega⟩
  have := h1 _ hlast
  omega
theorem inR_one {a b j : Int} : inR [(a, (b, ()))] j ↔ a ≤ j ∧ j < b := by simp [inR]
theorem put_in {dat : List Int} {hv : List Rg} {fr : Nat} {b : List Int} (h : PutOk dat hv fr b) (j : Int) : inR (putH hv fr b.length) j ↔ (inR hv j ∨ ((fr : Int) ≤ j ∧ j < (fr : Int) + b.length)) := by
  unfold putH
  rw [jn_in h.hv h.one, inR_one]
theorem put_ok {lim : Int} {dat : List Int} {hv : List Rg} {fr : Nat} {b : List Int} (h : PutOk dat hv fr b) (hl : LOk lim hv) (ht : (fr : Int) + b.length ≤ lim) (h2 : (putH hv fr b.length).length ≤ 2000) : LOk lim (putH hv fr b.length) := by
  have h1 := h.b1
  have ho : LOk lim [((fr : Int), ((fr : Int) + (b.length : Int), ()))] := ⟨hl.bnd, by simp, ⟨by simp only; omega, by simp only; omega, trivial⟩, fun x hx => by simp at hx; subst hx; exact ht⟩
  exact jn_ok hl ho h2
theorem put_last {lim : Int} {dat : List Int} {hv : List Rg} {fr : Nat} {b : List Int} (h : PutOk dat hv fr b) (hl : LOk lim hv) (hd : (dat.length : Int) = lastT 0 hv) (ho : LOk lim (putH hv fr b.length)) : ((putD dat hv fr b).length : Int) = lastT 0 (putH hv fr b.length) := by
  have h1 := h.b1
  refine (lastT_of ho ?_ ?_).symm
  · intro j hj
    rw [putD_len]
    rcases (put_in h j).1 hj with ⟨x, hx, h2, h3⟩ | h2
    · have := srt_last hl.srt x hx
      omega
    · omega
  · rw [putD_len, put_in h]
    by_cases c : dat.length ≤ fr + b.length
    · right
      rw [Nat.max_eq_left c]
      omega
    · left
      have hne : hv ≠ [] := fun e => by rw [e] at hd; have hd' : (dat.length : Int) = 0 := hd; omega
      have e := lastT_getD 0 hv hne
      have hlen : hv.length - 1 < hv.length := by have := List.length_pos_iff.2 hne; omega
      rw [getD_in hlen] at e
      have hm := List.getElem_mem hlen
      have := hl.ne _ hm
      exact ⟨hv[hv.length - 1], hm, by omega, by omega⟩
theorem padL_get (l : List Int) (n j : Nat) : (padL l n).getD j 0 = l.getD j 0 := by
  unfold padL
  rw [List.getD_eq_getElem?_getD, List.getD_eq_getElem?_getD]
  by_cases h : j < l.length
  · rw [List.getElem?_append_left h]
  · rw [List.getElem?_append_right (by omega), List.getElem?_replicate, List.getElem?_eq_none (by omega)]
    split <;> rfl
theorem putD_get (dat : List Int) (hv : List Rg) (fr : Nat) (b : List Int) (j : Nat) (hj : j < (putD dat hv fr b).length) : (putD dat hv fr b)[j] = if putP hv fr (fr + b.length) j = true then b.getD (j - fr) 0 else dat.getD j 0 := by
  have h1 : (putD dat hv fr b)[j]? = some (putD dat hv fr b)[j] := List.getElem?_eq_getElem hj
  have h2 : j < (padL dat (fr + b.length)).length := by rw [padL_len]; rw [putD_len] at hj; omega
  unfold putD at h1
  rw [ovr_get, if_pos h2] at h1
  have h3 := Option.some.inj h1
  rw [← padL_get dat (fr + b.length) j]
  exact h3.symm
theorem put_bad {dat : List Int} {hv : List Rg} {fr : Nat} {b : List Int} (h : PutOk dat hv fr b) (hb : badF hv dat 0 = false) : badF (putH hv fr b.length) (putD dat hv fr b) 0 = false := by
  rw [Bool.eq_false_iff]
  intro hc
  obtain ⟨j, hj, h1, h2⟩ := badF_iff.1 hc
  rw [Nat.zero_add] at h2
  rw [put_in h] at h2
  rw [putD_get] at h1
  split at h1
  · rename_i hp
    simp only [putP, Bool.and_eq_true, decide_eq_true_eq] at hp
    exact h2 (.inr (by omega))
  · have hlt : j < dat.length := by
      rcases Nat.lt_or_ge j dat.length with q | q
      · exact q
      · rw [List.getD_eq_getElem?_getD, List.getElem?_eq_none q] at h1
        exact absurd rfl h1
    rw [getD_in hlt] at h1
    have : badF hv dat 0 = true := badF_iff.2 ⟨j, hlt, h1, by rw [Nat.zero_add]; exact fun q => h2 (.inl q)⟩
    rw [hb] at this; cases this
/-- All but the state of a receiver that is right. -/
structure RCore (r : Rv) : Prop where
  id : 0 ≤ r.id ∧ r.id ≤ 65535
  nm : emp r.nm = true ∨ nameOk r.nm = true
  sz : -1 ≤ r.sz ∧ r.sz ≤ 100000
  sum : 0 ≤ r.sum ∧ r.sum ≤ 4294967295
  tr : 0 ≤ r.tr ∧ r.tr ≤ 50
  hv : LOk (if r.sz = -1 then 100000 else r.sz) r.hv
  dl : (r.dat.length : Int) = lastT 0 r.hv
  bad : badF r.hv r.dat 0 = false
  un : r.sz = -1 → r.sum = 0 ∧ emp r.nm = true
theorem RFull.core {r : Rv} (h : RFull r) : RCore r := ⟨h.id, h.nm, h.sz, h.sum, h.tr, h.hv, h.dl, h.bad, h.un⟩
theorem RCore.full {r : Rv} (h : RCore r) (h1 : 0 ≤ r.st ∧ r.st ≤ 4) (h2 : 0 ≤ r.wt ∧ r.wt ≤ 1000000) (h3 : stB (decide (r.st = 2)) (decide (r.wt = 0)) (decide (r.sz = -1)) (decide (r.st = 0)) (emp r.nm) (decide (r.dat.length = 0)) (decide (r.tr = 0)) (decide ((holesF r.hv r.sz).length = 0)) = false) : RFull r :=
  ⟨h.id, h1, h.nm, h.sz, h.sum, h2, h.tr, h.hv, h.dl, h.bad, h.un, h3⟩
theorem RFull.stop {r : Rv} (h : RFull r) : RFull { r with st := 4, wt := 0 } := by
  refine RCore.full (r := { r with st := 4, wt := 0 }) ⟨h.id, h.nm, h.sz, h.sum, h.tr, h.hv, h.dl, h.bad, h.un⟩ ⟨by simp, by simp⟩ ⟨by simp, by simp⟩ ?_
  simp [stB]
theorem RFull.asks {r : Rv} (h : RFull r) : (r.st = 2 → r.wt ≠ 0 ∧ r.sz ≠ -1 ∧ ¬ (emp r.nm = false ∧ (holesF r.hv r.sz).length = 0)) ∧ (r.st ≠ 2 → r.wt = 0) := by
  have h1 := h.state
  constructor
  · intro e
    simp only [stB, e, decide_true, Bool.true_and, Bool.not_true, Bool.false_and, Bool.or_false, Bool.or_eq_false_iff] at h1
    simp at h1
    exact ⟨h1.1.1, h1.1.2, fun q => h1.2 q.1 (List.length_eq_zero_iff.1 q.2)⟩
  · intro e
    simp only [stB, decide_eq_false e, Bool.false_and, Bool.not_false, Bool.true_and, Bool.false_or, Bool.or_eq_false_iff] at h1
    simp at h1
    exact h1.1
/-- What stands behind the bytes or the figures of a letter. -/
structure Mid (r : Rv) : Prop where
  core : RCore r
  st : 1 ≤ r.st ∧ r.st ≤ 2
  wt : 0 ≤ r.wt ∧ r.wt ≤ 1000000
  a2 : r.st = 2 → r.wt ≠ 0
  a1 : r.st ≠ 2 → r.wt = 0
theorem letter_done (r : Rv) (g : Bool) (h : 0 ≤ r.id ∧ r.id ≤ 65535) : chkLetter 5 r.id ⟨#[]⟩ 0 0 0 [] [] g = 0 := by
  have h1 : inB r.id 0 65535 = true := inB_iff.2 h
  have he : emp ⟨#[]⟩ = true := by rw [emp_size]; rfl
  unfold chkLetter
  rw [h1]
  cases g <;> simp [extra, he, inB]
theorem letter_stop (r : Rv) (h : 0 ≤ r.id ∧ r.id ≤ 65535) : chkLetter 6 r.id ⟨#[]⟩ 0 0 0 [] [] false = 0 := by
  have h1 : inB r.id 0 65535 = true := inB_iff.2 h
  have he : emp ⟨#[]⟩ = true := by rw [emp_size]; rfl
  unfold chkLetter
  rw [h1]
  simp [extra, he, inB]
theorem letter_hole {r : Rv} (h : RCore r) (hs : r.sz ≠ -1) (hl : (holesF r.hv r.sz).length ≤ 2000) (hne : ¬ (emp r.nm = false ∧ (holesF r.hv r.sz).length = 0)) : chkLetter 4 r.id ⟨#[]⟩ 0 0 0 [] (lackF r) false = 0 := by
  have h1 : inB r.id 0 65535 = true := inB_iff.2 h.id
  have he : emp ⟨#[]⟩ = true := by rw [emp_size]; rfl
  have hv := h.hv
  rw [if_neg hs] at hv
  have hc : chkRgs (cutF (lackF r)) 100000 = 0 := by
    rw [cutF_lack r hv.srt]
    have ho := holes_ok hv hl
    exact ok_chk ⟨by decide, ho.len, ho.can, fun x hx => by have := ho.upto x hx; have := h.sz; omega⟩
  have hn : ¬ (lackF r).length = 0 := by
    unfold lackF
    cases q : emp r.nm with
    | true => simp
    | false => simp only [cond_false]; exact fun e => hne ⟨q, e⟩
  unfold chkLetter
  rw [h1, hc]
  simp only [extra, he]
  simp [inB]
  intro e
  rw [e] at hn
  simp at hn
theorem busy_mid {r : Rv} (hc : RCore r) (hs : 0 ≤ r.st ∧ r.st ≤ 4) (hw : 0 ≤ r.wt ∧ r.wt ≤ 1000000) (ha1 : r.st = 2 → r.wt ≠ 0) (ha2 : r.st ≠ 2 → r.wt = 0) (h4 : r.st ≠ 4) (h3 : r.st ≠ 3) : Mid (busy r) := by
  refine ⟨⟨hc.id, hc.nm, hc.sz, hc.sum, hc.tr, hc.hv, hc.dl, hc.bad, hc.un⟩, ?_, hw, ?_, ?_⟩
  · simp only [busy]; split <;> omega
  · intro e
    simp only [busy] at e ⊢
    split at e
    · omega
    · exact ha1 e
  · intro e
    simp only [busy] at e ⊢
    split at e
    · exact ha2 (by omega)
    · exact ha2 e
theorem endR_ok {wait kind : Int} {r : Rv} (h : Mid r) (hw : 1 ≤ wait ∧ wait ≤ 1000000) (hk : kind = 3 → r.sz ≠ -1) (h2 : r.st = 2 → r.sz ≠ -1) (he : (endR wait kind r).2 = 0) :
    RFull (endR wait kind r).1.1 ∧ (endR wait kind r).1.1.id = r.id ∧ (endR wait kind r).1.1.dat = r.dat ∧ (∀ x ∈ (endR wait kind r).1.2, chkLetter x.1 x.2.1 x.2.2.1 x.2.2.2.1 x.2.2.2.2.1 x.2.2.2.2.2.1 x.2.2.2.2.2.2.1 x.2.2.2.2.2.2.2.1 x.2.2.2.2.2.2.2.2.1 = 0 ∧ x.2.1 = r.id) := by
  have hc := h.core
  unfold endR at he ⊢
  split at he
  · rename_i q
    rw [if_pos q]
    refine ⟨?_, rfl, rfl, fun x hx => ?_⟩
    · refine RCore.full ⟨hc.id, hc.nm, hc.sz, hc.sum, hc.tr, hc.hv, hc.dl, hc.bad, hc.un⟩ ?_ ⟨by simp, by simp⟩ ?_
      · simp only; split <;> omega
      · simp only; split <;> simp [stB]
    · simp at hx
      subst hx
      exact ⟨letter_done r _ hc.id, rfl⟩
  · rename_i q
    rw [if_neg q]
    have hq : ¬ (emp r.nm = false ∧ 0 ≤ r.sz ∧ (holesF r.hv r.sz).length = 0) := fun e => q (by simp [e.1, e.2.1, List.length_eq_zero_iff.1 e.2.2])
    have hsz := hc.sz
    split at he
    · rename_i q2
      rw [if_pos q2]
      have hst := h.st
      refine ⟨RCore.full (r := r) hc ⟨by omega, by omega⟩ h.wt ?_, rfl, rfl, fun x hx => by cases hx⟩
      have e0 : decide (r.st = 0) = false := decide_eq_false (by omega)
      by_cases c : r.st = 2
      · have s1 := h2 c
        have hh : ¬ (emp r.nm = false ∧ (holesF r.hv r.sz).length = 0) := fun e => hq ⟨e.1, by omega, e.2⟩
        simp only [stB, c, e0, decide_true, decide_eq_false (h.a2 c), decide_eq_false s1, Bool.true_and, Bool.not_true, Bool.false_and, Bool.or_false, Bool.false_or]
        cases w : emp r.nm with
        | true => simp
        | false => simp; exact fun e => hh ⟨w, by rw [e]; rfl⟩
      · simp [stB, c, e0, h.a1 c]
    · rename_i q2
      have hk3 : kind = 3 := Classical.not_not.1 q2
      have s1 := hk hk3
      rw [if_neg q2]
      split at he
      · cases he
      · rename_i q3
        rw [if_neg q3]
        have hh : ¬ (emp r.nm = false ∧ (holesF r.hv r.sz).length = 0) := fun e => hq ⟨e.1, by omega, e.2⟩
        refine ⟨?_, rfl, rfl, fun x hx => ?_⟩
        · refine RCore.full ⟨hc.id, hc.nm, hc.sz, hc.sum, hc.tr, hc.hv, hc.dl, hc.bad, hc.un⟩ ⟨by simp, by simp⟩ ⟨by simp only; omega, by simp only; omega⟩ ?_
          simp only [stB, decide_true, decide_eq_false (show ¬ wait = 0 by omega), decide_eq_false s1, Bool.true_and, Bool.not_true, Bool.false_and, Bool.or_false, Bool.false_or, decide_eq_false (show ¬ (2 : Int) = 0 by decide)]
          cases w : emp r.nm with
          | true => simp
          | false => simp; exact fun e => hh ⟨w, by rw [e]; rfl⟩
        · simp at hx
          subst hx
          exact ⟨letter_hole hc s1 (by omega) hh, rfl⟩
theorem put_core {r : Rv} (hr : RFull r) {fr : Nat} {b : List Int} (h1 : 0 < b.length) (h2 : (fr : Int) + b.length ≤ 100000) (h3 : r.sz ≠ -1 → (fr : Int) + b.length ≤ r.sz) (hl : (putH r.hv fr b.length).length ≤ 2000) : RCore (putR r fr b) := by
  have hp := hr.put h1 (show fr + b.length ≤ 100000 by omega)
  have ho := put_ok hp hr.hv (by split <;> omega) hl
  have htr := hr.tr
  exact ⟨hr.id, hr.nm, hr.sz, hr.sum, by simp only [putR]; split <;> omega, ho, put_last hp hr.hv hr.dl ho, put_bad hp hr.bad, hr.un⟩
theorem size_core {r : Rv} (hr : RFull r) {kind : Int} {nm : ByteArray} {size sum : Int} (hs : 0 ≤ size ∧ size ≤ 100000) (hs2 : 0 ≤ sum ∧ sum ≤ 4294967295) (hn : kind = 1 → nameOk nm = true) (hd : (r.dat.length : Int) ≤ size) : RCore (sizeR r kind nm size sum) := by
  refine ⟨hr.id, ?_, ⟨by simp only [sizeR]; omega, hs.2⟩, hs2, hr.tr, ?_, hr.dl, hr.bad, fun e => by simp only [sizeR] at e; omega⟩
  · simp only [sizeR]
    split
    · rename_i e; exact .inr (hn e)
    · exact hr.nm
  · show LOk (if size = -1 then 100000 else size) r.hv
    rw [if_neg (show ¬ size = -1 by omega)]
    exact ⟨hs, hr.hv.len, hr.hv.can, fun x hx => by have := srt_last hr.hv.srt x hx; have := hr.dl; omega⟩
/-- What a letter makes of a right receiver is right, and its letters are. -/
theorem tkR_ok {wait : Int} {r : Rv} {kind id : Int} {nm : ByteArray} {size sum : Int} {fr : Nat} {b : List Int} (hr : RFull r) (hL : LFull kind id nm size sum fr b) (hw : 1 ≤ wait ∧ wait ≤ 1000000) (he : (tkR wait r kind id nm size sum fr b).2 = 0) :
    RFull (tkR wait r kind id nm size sum fr b).1.1 ∧ ((tkR wait r kind id nm size sum fr b).1.1.dat = r.dat ∨ (tkR wait r kind id nm size sum fr b).1.1.dat = putD r.dat r.hv fr b) ∧
      (∀ x ∈ (tkR wait r kind id nm size sum fr b).1.2, chkLetter x.1 x.2.1 x.2.2.1 x.2.2.2.1 x.2.2.2.2.1 x.2.2.2.2.2.1 x.2.2.2.2.2.2.1 x.2.2.2.2.2.2.2.1 x.2.2.2.2.2.2.2.2.1 = 0 ∧ x.2.1 = r.id) := by
  unfold tkR at he ⊢
  split at he
  · rename_i q; rw [if_pos q]; exact ⟨hr, .inl rfl, fun x hx => by cases hx⟩
  rename_i q1
  rw [if_neg q1]
  have q1' := q1
  simp only [not_or, Classical.not_not] at q1'
  obtain ⟨k1, k2, k3⟩ := q1'
  split at he
  · rename_i q; rw [if_pos q]
    refine ⟨hr, .inl rfl, fun x hx => ?_⟩
    simp only at hx
    split at hx
    · simp at hx; subst hx; exact ⟨letter_done r _ hr.id, rfl⟩
    · cases hx
  rename_i q2
  rw [if_neg q2]
  split at he
  · rename_i q; rw [if_pos q]; exact ⟨hr.stop, .inl rfl, fun x hx => by cases hx⟩
  rename_i q3
  rw [if_neg q3]
  split at he
  · rename_i q; rw [if_pos q]
    refine ⟨hr.stop, .inl rfl, fun x hx => ?_⟩
    simp at hx; subst hx; exact ⟨letter_stop r hr.id, rfl⟩
  rename_i q4
  rw [if_neg q4]
  have ha := hr.asks
  split at he
  · rename_i q; rw [if_pos q]
    subst q
    split at he
    · cases he
    rename_i q5
    rw [if_neg q5]
    obtain ⟨d1, d2⟩ := hL.da rfl
    have hcon : r.sz ≠ -1 → (fr : Int) + b.length ≤ r.sz := fun e => by
      have hz := hr.sz
      rcases Classical.em (r.sz < (fr : Int) + b.length) with w | w
      · exact absurd (by simp [conF, w]; omega) q4
      · omega
    have hc := put_core hr d1 d2 hcon (by omega)
    have hm := busy_mid (r := putR r fr b) hc hr.st hr.wt (fun e => (ha.1 e).1) ha.2 k3 q2
    obtain ⟨g1, g2, g3, g4⟩ := endR_ok hm hw (fun e => absurd e (by decide)) (fun e => by
      simp only [busy] at e
      split at e
      · cases e
      · exact (ha.1 e).2.1) he
    exact ⟨g1, .inr g3, fun x hx => by have := g4 x hx; exact this⟩
  · rename_i q; rw [if_neg q]
    have hkd : kind = 1 ∨ kind = 3 := by omega
    have hfig := hL.fig hkd
    have hcon : (r.dat.length : Int) ≤ size := by
      rcases Classical.em (size < (r.dat.length : Int)) with w | w
      · refine absurd ?_ q4
        simp [conF, q, w]
      · omega
    have hc := size_core hr hfig.1 hfig.2 hL.nmr hcon
    have hm := busy_mid (r := sizeR r kind nm size sum) hc hr.st hr.wt (fun e => (ha.1 e).1) ha.2 k3 q2
    obtain ⟨g1, g2, g3, g4⟩ := endR_ok hm hw (fun _ => by show size ≠ -1; omega) (fun _ => by show size ≠ -1; omega) he
    exact ⟨g1, .inl g3, fun x hx => by have := g4 x hx; exact this⟩
end Go.Proofs.Ytlcklflbhhnnhaa.PM
/- Plain laws of receivers: what a receiver becomes is right, and no byte that is there changes. -/
set_option linter.unusedSimpArgs false
set_option linter.unusedVariables false
namespace Go.Proofs.Ytlcklflbhhnnhaa.PM
open Go Go.Proofs.Ytlcklflbhhnnhaa.Bt
variable {R : Type}
theorem chkFig_d {a b c d e : Int} (h : chkFig a b c d e = 0) : (1 ≤ d ∧ d ≤ 1000000) ∧ e ≤ 50 := by
  unfold chkFig at h
  split at h
  · rename_i q
    simp only [Bool.and_eq_true] at q
    exact ⟨inB_iff.1 q.1.2, (inB_iff.1 q.2).2⟩
  · cases h
theorem takeR_ok {a b c d e : Int} {r : Rv} {kind id : Int} {nm : ByteArray} {size sum fr : Int} {bs : List Int} {hs : List Rg} {good : Bool} (h : (takeR a b c d e r kind id nm size sum fr bs hs good).2 = 0) :
    RFull r ∧ LFull kind id nm size sum fr bs ∧ (1 ≤ d ∧ d ≤ 1000000) ∧ takeR a b c d e r kind id nm size sum fr bs hs good = tkR d r kind id nm size sum fr.toNat bs := by
  unfold takeR at h ⊢
  by_cases h1 : chkFig a b c d e = 0
  · rw [if_neg (fun q => q h1)] at h ⊢
    by_cases h2 : chkRecv r = 0
    · rw [if_neg (fun q => q h2)] at h ⊢
      by_cases h3 : chkLetter kind id nm size sum fr bs hs good = 0
      · rw [if_neg (fun q => q h3)] at h ⊢
        exact ⟨(chkRecv_full r).1 h2, chkLetter_full h3, (chkFig_d h1).1, rfl⟩
      · rw [if_pos h3] at h; exact absurd h h3
    · rw [if_pos h2] at h; exact absurd h h2
  · rw [if_pos h1] at h; exact absurd h h1
theorem endR_err (wait kind : Int) (r : Rv) (h : (endR wait kind r).2 ≠ 0) : (endR wait kind r).1 = (zR, []) := by
  unfold endR at h ⊢
  split at h
  · exact absurd rfl h
  · rename_i q; rw [if_neg q]
    split at h
    · exact absurd rfl h
    · rename_i q2; rw [if_neg q2]
      split at h
      · rename_i q3; rw [if_pos q3]
      · exact absurd rfl h
theorem takeR_err {a b c d e : Int} {r : Rv} {kind id : Int} {nm : ByteArray} {size sum fr : Int} {bs : List Int} {hs : List Rg} {good : Bool} (h : (takeR a b c d e r kind id nm size sum fr bs hs good).2 ≠ 0) :
    (takeR a b c d e r kind id nm size sum fr bs hs good).1 = (zR, []) := by
  unfold takeR at h ⊢
  split at h
  · rename_i q; rw [if_pos q]
  rename_i q; rw [if_neg q]
  split at h
  · rename_i q; rw [if_pos q]
  rename_i q; rw [if_neg q]
  split at h
  · rename_i q; rw [if_pos q]
  rename_i q; rw [if_neg q]
  unfold tkR at h ⊢
  split at h
  · exact absurd rfl h
  rename_i q; rw [if_neg q]
  split at h
  · exact absurd rfl h
  rename_i q; rw [if_neg q]
  split at h
  · exact absurd rfl h
  rename_i q; rw [if_neg q]
  split at h
  · exact absurd rfl h
  rename_i q; rw [if_neg q]
  split at h
  · rename_i q; rw [if_pos q]
    split at h
    · rename_i q; rw [if_pos q]
    · rename_i q; rw [if_neg q]
      exact endR_err _ _ _ h
  · rename_i q; rw [if_neg q]
    exact endR_err _ _ _ h
theorem nameOk_sz {s : ByteArray} (h : nameOk s = true) : s.size ≤ 40 := by
  simp only [nameOk, Bool.and_eq_true, decide_eq_true_eq] at h
  exact h.1.2
theorem RFull.nmsz {r : Rv} (h : RFull r) : r.nm.size ≤ 1000 := by
  rcases h.nm with e | e
  · rw [emp_size, decide_eq_true_eq] at e; omega
  · have := nameOk_sz e; omega
end Go.Proofs.Ytlcklflbhhnnhaa.PM
/- Plain laws of receivers: bytes taken twice. -/
set_option linter.unusedSimpArgs false
set_option linter.unusedVariables false
namespace Go.Proofs.Ytlcklflbhhnnhaa.PM
open Go Go.Proofs.Ytlcklflbhhnnhaa.Bt
variable {R : Type}
theorem put_none {dat : List Int} {hv : List Rg} {fr : Nat} {b : List Int} (h : PutOk dat hv fr b) (j : Nat) : putP (putH hv fr b.length) fr (fr + b.length) j = false := by
  unfold putP
  by_cases h1 : fr ≤ j
  · by_cases h2 : j < fr + b.length
    · have : insB (putH hv fr b.length) (j : Int) = true := insB_iff.2 ((put_in h (j : Int)).2 (.inr (by omega)))
      rw [this]; simp
    · simp [h2]
  · simp [h1]
theorem putS_again {dat : List Int} {hv : List Rg} {fr : Nat} {b : List Int} (h : PutOk dat hv fr b) : putS (putH hv fr b.length) fr b.length = false := by
  cases q : putS (putH hv fr b.length) fr b.length with
  | false => rfl
  | true =>
    obtain ⟨j, _, hj⟩ := fresh_iff.1 q
    rw [put_none h] at hj; cases hj
theorem putH_again {dat : List Int} {hv : List Rg} {fr : Nat} {b : List Int} (h : PutOk dat hv fr b) (hl : (putH hv fr b.length).length ≤ 2000) : putH (putH hv fr b.length) fr b.length = putH hv fr b.length := by
  unfold putH at hl ⊢
  rw [jn_comm h.hv h.one] at hl ⊢
  exact jn_again h.one h.hv hl
theorem putD_again {dat : List Int} {hv : List Rg} {fr : Nat} {b : List Int} (h : PutOk dat hv fr b) : putD (putD dat hv fr b) (putH hv fr b.length) fr b = putD dat hv fr b := by
  have h1 : fr + b.length ≤ (putD dat hv fr b).length := by rw [putD_len]; omega
  show ovr (putP (putH hv fr b.length) fr (fr + b.length)) fr b (padL (putD dat hv fr b) (fr + b.length)) = _
  rw [padL_le h1]
  exact ovr_none fun j _ => put_none h j
theorem busy_busy (r : Rv) : busy (busy r) = busy r := by
  unfold busy
  by_cases e : r.st = 0
  · simp [e]
  · simp [e]
theorem putR_again {r : Rv} {fr : Nat} {b : List Int} (h : PutOk r.dat r.hv fr b) (hl : (putH r.hv fr b.length).length ≤ 2000) : busy (putR (busy (putR r fr b)) fr b) = busy (putR r fr b) := by
  have e : putR (busy (putR r fr b)) fr b = busy (putR r fr b) := by
    unfold putR busy
    simp only
    rw [putH_again h hl, putD_again h, putS_again h]
    simp
  rw [e, busy_busy]
theorem tkR_twice {wait : Int} {r : Rv} {id : Int} {nm : ByteArray} {size sum : Int} {fr : Nat} {b : List Int} (hr : RFull r) (hL : LFull 2 id nm size sum fr b) (he : (tkR wait r 2 id nm size sum fr b).2 = 0) :
    tkR wait (tkR wait r 2 id nm size sum fr b).1.1 2 id nm size sum fr b = (((tkR wait r 2 id nm size sum fr b).1.1, []), 0) := by
  have hda := hL.da rfl
  have hp : PutOk r.dat r.hv fr b := hr.put hda.1 (by omega)
  by_cases q1 : id ≠ r.id ∨ r.st = 4
  · have e : tkR wait r 2 id nm size sum fr b = ((r, []), 0) := if_pos (.inr q1)
    rw [e]; exact e
  by_cases q2 : r.st = 3
  · have e : tkR wait r 2 id nm size sum fr b = ((r, []), 0) := by
      unfold tkR
      rw [if_neg (by simpa using q1), if_pos q2]; rfl
    rw [e]; exact e
  by_cases q3 : conF r 2 nm size sum fr b.length = true
  · have e : tkR wait r 2 id nm size sum fr b = (({ r with st := 4, wt := 0 }, [stopR r]), 0) := by
      unfold tkR
      rw [if_neg (by simpa using q1), if_neg q2, if_neg (by decide), if_pos q3]
    rw [e]; exact if_pos (.inr (.inr rfl))
  have e : tkR wait r 2 id nm size sum fr b = if 2000 < (putH r.hv fr b.length).length then ((zR, []), 2) else endR wait 2 (busy (putR r fr b)) := by
    unfold tkR
    rw [if_neg (by simpa using q1), if_neg q2, if_neg (by decide), if_neg q3, if_pos rfl]
  by_cases q4 : 2000 < (putH r.hv fr b.length).length
  · rw [e, if_pos q4] at he; cases he
  rw [if_neg q4] at e
  rw [e]
  have hl : (putH r.hv fr b.length).length ≤ 2000 := by omega
  simp only [not_or, Classical.not_not] at q1
  by_cases q5 : (!emp (busy (putR r fr b)).nm && (decide (0 ≤ (busy (putR r fr b)).sz) && decide ((holesF (busy (putR r fr b)).hv (busy (putR r fr b)).sz).length = 0))) = true
  · have e2 : endR wait 2 (busy (putR r fr b)) = (({ busy (putR r fr b) with st := if sumOf (busy (putR r fr b)).dat = (busy (putR r fr b)).sum then 3 else 4, wt := 0 }, [doneL (busy (putR r fr b)) (decide (sumOf (busy (putR r fr b)).dat = (busy (putR r fr b)).sum))]), 0) := if_pos q5
    rw [e2]
    generalize busy (putR r fr b) = y at *
    by_cases q6 : sumOf y.dat = y.sum
    · simp only [if_pos q6]
      unfold tkR
      by_cases q7 : id = y.id
      · rw [if_neg (by simp [q7]), if_pos rfl]; rfl
      · exact if_pos (.inr (.inl q7))
    · simp only [if_neg q6]
      exact if_pos (.inr (.inr rfl))
  · have e2 : endR wait 2 (busy (putR r fr b)) = ((busy (putR r fr b), []), 0) := by
      unfold endR
      rw [if_neg q5, if_pos (by decide)]
    rw [e2]
    have s4 : (busy (putR r fr b)).st ≠ 4 := by
      unfold busy putR; simp only; split
      · decide
      · exact q1.2
    have s3 : (busy (putR r fr b)).st ≠ 3 := by
      unfold busy putR; simp only; split
      · decide
      · exact q2
    have hid : id = (busy (putR r fr b)).id := q1.1
    have hcf : ¬ conF (busy (putR r fr b)) 2 nm size sum fr b.length = true := q3
    have hH : putH (busy (putR r fr b)).hv fr b.length = putH r.hv fr b.length := putH_again hp hl
    show tkR wait (busy (putR r fr b)) 2 id nm size sum fr b = _
    unfold tkR
    rw [if_neg (by simp [← hid, s4]), if_neg s3, if_neg (by decide), if_neg hcf, if_pos rfl, hH, if_neg q4, putR_again hp hl, e2]
theorem f11_eq {k : Nat} (a b c d e : Int) (r : Rv) (kind id : Int) (nm : ByteArray) (size sum fr : Int) (bs : List Int) (hs : List Rg) (good : Bool) (hu : U8 r.dat) (hub : U8 bs) (hn : r.nm.size < 4611686018427387904) (hn2 : nm.size < 4611686018427387904)
    (hk : r.nm.size + r.hv.length + nm.size + hs.length + 230000 < k) (K : Bool → Option R) :
    f11 k a b c d e r.st r.id r.nm r.dat r.hv r.sz r.sum r.wt r.tr kind id nm size sum fr bs hs good K = K true := by
  obtain ⟨j, rfl⟩ := succ_of (show 0 < k by omega)
  rw [f11_def]
  simp only [f11d]
  rw [f52_eq a b c d e r kind id nm size sum fr bs hs good hu hub hn hn2 (by omega)]
  unfold apRF
  dsimp only
  rw [f24_eq (by omega)]
  by_cases h : (takeR a b c d e r kind id nm size sum fr bs hs good).2 = 0
  · obtain ⟨h1, h2, h3, h4⟩ := takeR_ok h
    by_cases hkd : kind = 2
    · subst hkd
      have hfr := h2.frr
      have efr : fr = (fr.toNat : Int) := by omega
      have h2' := h2
      rw [efr] at h2'
      have h' := h
      rw [h4] at h'
      obtain ⟨g1, g2, g3⟩ := tkR_ok h1 h2' h3 h'
      have tw := tkR_twice h1 h2' h'
      rw [← h4] at g1 g2 tw
      have hx : takeR a b c d e (takeR a b c d e r 2 id nm size sum fr bs hs good).1.1 2 id nm size sum fr bs hs good = (((takeR a b c d e r 2 id nm size sum fr bs hs good).1.1, []), 0) := by
        have c1 : chkFig a b c d e = 0 := by
          refine Classical.not_not.1 fun q => ?_
          unfold takeR at h; rw [if_pos q] at h; exact q h
        have c2 : chkLetter 2 id nm size sum fr bs hs good = 0 := by
          refine Classical.not_not.1 fun q => ?_
          unfold takeR at h; rw [if_neg (fun q => q c1), if_neg (fun q => q ((chkRecv_full r).2 h1)), if_pos q] at h; exact q h
        generalize takeR a b c d e r 2 id nm size sum fr bs hs good = x at *
        unfold takeR
        rw [if_neg (fun q => q c1), if_neg (fun q => q ((chkRecv_full x.1.1).2 g1)), if_neg (fun q => q c2)]
        exact tw
      have hu2 : U8 (takeR a b c d e r 2 id nm size sum fr bs hs good).1.1.dat := by
        rcases g2 with q | q
        · rw [q]; exact hu
        · rw [q]; exact u8_put hu hub
      generalize takeR a b c d e r 2 id nm size sum fr bs hs good = x at *
      have n1 := g1.nmsz
      have n2 := g1.hv.len
      rw [f52_eq a b c d e x.1.1 2 id nm size sum fr bs hs good hu2 hub (by omega) hn2 (by omega), hx]
      simp [apRF, h, f38_refl x.1.1 (show x.1.1.hv.length + 3 < j by omega) (by omega)]
    · have : (kind != 2) = true := by simpa using hkd
      simp [h, this]
  · have : (takeR a b c d e r kind id nm size sum fr bs hs good).1.1.id = 0 := by
      rw [takeR_err h]; rfl
    have h' : ((takeR a b c d e r kind id nm size sum fr bs hs good).2 != 0) = true := by simpa using h
    simp [h', this]
end Go.Proofs.Ytlcklflbhhnnhaa.PM
