/- Merged plain texts: PlRmatch, PlRok, PlRstay. -/
import Derived.Test.YtlcklflbhhnnhaaPlB
/- Plain laws of receivers: Waiting, CheckReceiving and Take are as specified. -/
set_option linter.unusedSimpArgs false
set_option linter.unusedVariables false
namespace Go.Proofs.Ytlcklflbhhnnhaa.PM
open Go Go.Proofs.Ytlcklflbhhnnhaa.Bt
variable {R : Type}
theorem endR_len (wait kind : Int) (r : Rv) (h : r.hv.length ≤ 2000) : (endR wait kind r).1.1.hv.length ≤ 2000 ∧ (∀ x ∈ (endR wait kind r).1.2, x.2.2.2.2.2.2.2.1.length ≤ 3000) ∧ (endR wait kind r).1.2.length ≤ 1 := by
  unfold endR
  split
  · exact ⟨h, by simp [doneL], by simp⟩
  · split
    · exact ⟨h, by simp, by simp⟩
    · split
      · exact ⟨by simp [zR], by simp, by simp⟩
      · refine ⟨h, ?_, by simp⟩
        intro x hx
        rw [List.mem_singleton] at hx
        subst hx
        have := lackF_len r
        show (lackF r).length ≤ 3000
        omega
theorem tkR_len (wait : Int) (r : Rv) (kind id : Int) (nm : ByteArray) (size sum : Int) (fr : Nat) (b : List Int) (h : r.hv.length ≤ 2000) :
    (tkR wait r kind id nm size sum fr b).1.1.hv.length ≤ 2000 ∧ (∀ x ∈ (tkR wait r kind id nm size sum fr b).1.2, x.2.2.2.2.2.2.2.1.length ≤ 3000) ∧ (tkR wait r kind id nm size sum fr b).1.2.length ≤ 1 := by
  unfold tkR
  split
  · exact ⟨h, by simp, by simp⟩
  split
  · refine ⟨h, ?_, ?_⟩
    · intro x hx
      simp only at hx
      split at hx
      · simp at hx; subst hx; simp [doneL]
      · cases hx
    · simp only; split <;> simp
  split
  · exact ⟨h, by simp, by simp⟩
  split
  · exact ⟨h, by simp [stopR], by simp⟩
  split
  · split
    · exact ⟨by simp [zR], by simp, by simp⟩
    · rename_i h2
      exact endR_len wait kind (busy (putR r fr b)) (by show (putH r.hv fr b.length).length ≤ 2000; omega)
  · exact endR_len wait kind (busy (sizeR r kind nm size sum)) h
theorem takeR_len (a b c d e : Int) (r : Rv) (kind id : Int) (nm : ByteArray) (size sum fr : Int) (bs : List Int) (hs : List Rg) (good : Bool) :
    (takeR a b c d e r kind id nm size sum fr bs hs good).1.1.hv.length ≤ 2000 ∧ (∀ x ∈ (takeR a b c d e r kind id nm size sum fr bs hs good).1.2, x.2.2.2.2.2.2.2.1.length ≤ 3000) ∧ (takeR a b c d e r kind id nm size sum fr bs hs good).1.2.length ≤ 1 := by
  unfold takeR
  split
  · exact ⟨by simp [zR], by simp, by simp⟩
  split
  · exact ⟨by simp [zR], by simp, by simp⟩
  rename_i h2
  split
  · exact ⟨by simp [zR], by simp, by simp⟩
  exact tkR_len _ _ _ _ _ _ _ _ _ (((chkRecv_full r).1 (Classical.not_not.1 h2)).hv.len)
end Go.Proofs.Ytlcklflbhhnnhaa.PM
/- Plain laws of receivers: what a receiver becomes is right. -/
set_option linter.unusedSimpArgs false
set_option linter.unusedVariables false
namespace Go.Proofs.Ytlcklflbhhnnhaa.PM
open Go Go.Proofs.Ytlcklflbhhnnhaa.Bt
variable {R : Type}
theorem lastT_of {lim : Int} {l : List Rg} (h : LOk lim l) {N : Int} (h1 : ∀ j, inR l j → j < N) (h2 : inR l (N - 1)) : lastT 0 l = N := by
  obtain ⟨x, hx, _, hx2⟩ := h2
  have hl := srt_last h.srt x hx
  have hne : l ≠ [] := fun e => by rw [e] at hx; cases hx
  have hlast : inR l (lastT 0 l - 1) := by
    have e := lastT_getD 0 l hne
    have hlen : l.length - 1 < l.length := by have := List.length_pos_iff.2 hne; omega
    rw [getD_in hlen] at e
    have hm := List.getElem_mem hlen
    have := h.ne _ hm
    exact ⟨l[l.length - 1], hm, by omega, by omega⟩
  have := h1 _ hlast
  omega
theorem inR_one {a b j : Int} : inR [(a, (b, ()))] j ↔ a ≤ j ∧ j < b := by simp [inR]
theorem put_in {dat : List Int} {hv : List Rg} {fr : Nat} {b : List Int} (h : PutOk dat hv fr b) (j : Int) : inR (putH hv fr b.length) j ↔ (inR hv j ∨ ((fr : Int) ≤ j ∧ j < (fr : Int) + b.length)) := by
  unfold putH
  rw [jn_in h.hv h.one, inR_one]
theorem put_ok {lim : Int} {dat : List Int} {hv : List Rg} {fr : Nat} {b : List Int} (h : PutOk dat hv fr b) (hl : LOk lim hv) (ht : (fr : Int) + b.length ≤ lim) (h2 : (putH hv fr b.length).length ≤ 2000) : LOk lim (putH hv fr b.length) := by
  have h1 := h.b1
  have ho : LOk lim [((fr : Int), ((fr : Int) + (b.length : Int), ()))] := ⟨hl.bnd, by simp, ⟨by simp only; omega, by simp only; omega, trivial⟩, fun x hx => by simp at hx; subst hx; exact ht⟩
  exact jn_ok hl ho h2
theorem put_last {lim : Int} {dat : List Int} {hv : List Rg} {fr : Nat} {b : List Int} (h : PutOk dat hv fr b) (hl : LOk lim hv) (hd : (dat.length : Int) = lastT 0 hv) (ho : LOk lim (putH hv fr b.length)) : ((putD dat hv fr b).length : Int) = lastT 0 (putH hv fr b.length) := by
  have h1 := h.b1
  refine (lastT_of ho ?_ ?_).symm
  · intro j hj
    rw [putD_len]
    rcases (put_in h j).1 hj with ⟨x, hx, h2, h3⟩ | h2
    · have := srt_last hl.srt x hx
      omega
    · omega
  · rw [putD_len, put_in h]
    by_cases c : dat.length ≤ fr + b.length
    · right
      rw [Nat.max_eq_left c]
      omega
    · left
      have hne : hv ≠ [] := fun e => by rw [e] at hd; have hd' : (dat.length : Int) = 0 := hd; omega
      have e := lastT_getD 0 hv hne
      have hlen : hv.length - 1 < hv.length := by have := List.length_pos_iff.2 hne; omega
      rw [getD_in hlen] at e
      have hm := List.getElem_mem hlen
      have := hl.ne _ hm
      exact ⟨hv[hv.length - 1], hm, by omega, by omega⟩
theorem padL_get (l : List Int) (n j : Nat) : (padL l n).getD j 0 = l.getD j 0 := by
  unfold padL
  rw [List.getD_eq_getElem?_getD, List.getD_eq_getElem?_getD]
  by_cases h : j < l.length
  · rw [List.getElem?_append_left h]
  · rw [List.getElem?_append_right (by omega), List.getElem?_replicate, List.getElem?_eq_none (by omega)]
    split <;> rfl
theorem putD_get (dat : List Int) (hv : List Rg) (fr : Nat) (b : List Int) (j : Nat) (hj : j < (putD dat hv fr b).length) : (putD dat hv fr b)[j] = if putP hv fr (fr + b.length) j = true then b.getD (j - fr) 0 else dat.getD j 0 := by
  have h1 : (putD dat hv fr b)[j]? = some (putD dat hv fr b)[j] := List.getElem?_eq_getElem hj
  have h2 : j < (padL dat (fr + b.length)).length := by rw [padL_len]; rw [putD_len] at hj; omega
  unfold putD at h1
  rw [ovr_get, if_pos h2] at h1
  have h3 := Option.some.inj h1
  rw [← padL_get dat (fr + b.length) j]
  exact h3.symm
theorem put_bad {dat : List Int} {hv : List Rg} {fr : Nat} {b : List Int} (h : PutOk dat hv fr b) (hb : badF hv dat 0 = false) : badF (putH hv fr b.length) (putD dat hv fr b) 0 = false := by
  rw [Bool.eq_false_iff]
  intro hc
  obtain ⟨j, hj, h1, h2⟩ := badF_iff.1 hc
  rw [Nat.zero_add] at h2
  rw [put_in h] at h2
  rw [putD_get] at h1
  split at h1
  · rename_i hp
    simp only [putP, Bool.and_eq_true, decide_eq_true_eq] at hp
    exact h2 (.inr (by omega))
  · have hlt : j < dat.length := by
      rcases Nat.lt_or_ge j dat.length with q | q
      · exact q
      · rw [List.getD_eq_getElem?_getD, List.getElem?_eq_none q] at h1
        exact absurd rfl h1
    rw [getD_in hlt] at h1
    have : badF hv dat 0 = true := badF_iff.2 ⟨j, hlt, h1, by rw [Nat.zero_add]; exact fun q => h2 (.inl q)⟩
    rw [hb] at this; cases this
/-- All but the state of a receiver that is right. -/
structure RCore (r : Rv) : Prop where
  id : 0 ≤ r.id ∧ r.id ≤ 65535
  nm : emp r.nm = true ∨ nameOk r.nm = true
  sz : -1 ≤ r.sz ∧ r.sz ≤ 100000
  sum : 0 ≤ r.sum ∧ r.sum ≤ 4294967295
  tr : 0 ≤ r.tr ∧ r.tr ≤ 50
  hv : LOk (if r.sz = -1 then 100000 else r.sz) r.hv
  dl : (r.dat.length : Int) = lastT 0 r.hv
  bad : badF r.hv r.dat 0 = false
  un : r.sz = -1 → r.sum = 0 ∧ emp r.nm = true
theorem RFull.core {r : Rv} (h : RFull r) : RCore r := ⟨h.id, h.nm, h.sz, h.sum, h.tr, h.hv, h.dl, h.bad, h.un⟩
theorem RCore.full {r : Rv} (h : RCore r) (h1 : 0 ≤ r.st ∧ r.st ≤ 4) (h2 : 0 ≤ r.wt ∧ r.wt ≤ 1000000) (h3 : stB (decide (r.st = 2)) (decide (r.wt = 0)) (decide (r.sz = -1)) (decide (r.st = 0)) (emp r.nm) (decide (r.dat.length = 0)) (decide (r.tr = 0)) (decide ((holesF r.hv r.sz).length = 0)) = false) : RFull r :=
  ⟨h.id, h1, h.nm, h.sz, h.sum, h2, h.tr, h.hv, h.dl, h.bad, h.un, h3⟩
theorem RFull.stop {r : Rv} (h : RFull r) : RFull { r with st := 4, wt := 0 } := by
  refine RCore.full (r := { r with st := 4, wt := 0 }) ⟨h.id, h.nm, h.sz, h.sum, h.tr, h.hv, h.dl, h.bad, h.un⟩ ⟨by simp, by simp⟩ ⟨by simp, by simp⟩ ?_
  simp [stB]
theorem RFull.asks {r : Rv} (h : RFull r) : (r.st = 2 → r.wt ≠ 0 ∧ r.sz ≠ -1 ∧ ¬ (emp r.nm = false ∧ (holesF r.hv r.sz).length = 0)) ∧ (r.st ≠ 2 → r.wt = 0) := by
  have h1 := h.state
  constructor
  · intro e
    simp only [stB, e, decide_true, Bool.true_and, Bool.not_true, Bool.false_and, Bool.or_false, Bool.or_eq_false_iff] at h1
    simp at h1
    exact ⟨h1.1.1, h1.1.2, fun q => h1.2 q.1 (List.length_eq_zero_iff.1 q.2)⟩
  · intro e
    simp only [stB, decide_eq_false e, Bool.false_and, Bool.not_false, Bool.true_and, Bool.false_or, Bool.or_eq_false_iff] at h1
    simp at h1
    exact h1.1
/-- What stands behind the bytes or the figures of a letter. -/
structure Mid (r : Rv) : Prop where
  core : RCore r
  st : 1 ≤ r.st ∧ r.st ≤ 2
  wt : 0 ≤ r.wt ∧ r.wt ≤ 1000000
  a2 : r.st = 2 → r.wt ≠ 0
  a1 : r.st ≠ 2 → r.wt = 0
theorem letter_done (r : Rv) (g : Bool) (h : 0 ≤ r.id ∧ r.id ≤ 65535) : chkLetter 5 r.id ⟨#[]⟩ 0 0 0 [] [] g = 0 := by
  have h1 : inB r.id 0 65535 = true := inB_iff.2 h
  have he : emp ⟨#[]⟩ = true := by rw [emp_size]; rfl
  unfold chkLetter
  rw [h1]
  cases g <;> simp [extra, he, inB]
theorem letter_stop (r : Rv) (h : 0 ≤ r.id ∧ r.id ≤ 65535) : chkLetter 6 r.id ⟨#[]⟩ 0 0 0 [] [] false = 0 := by
  have h1 : inB r.id 0 65535 = true := inB_iff.2 h
  have he : emp ⟨#[]⟩ = true := by rw [emp_size]; rfl
  unfold chkLetter
  rw [h1]
  simp [extra, he, inB]
theorem letter_hole {r : Rv} (h : RCore r) (hs : r.sz ≠ -1) (hl : (holesF r.hv r.sz).length ≤ 2000) (hne : ¬ (emp r.nm = false ∧ (holesF r.hv r.sz).length = 0)) : chkLetter 4 r.id ⟨#[]⟩ 0 0 0 [] (lackF r) false = 0 := by
  have h1 : inB r.id 0 65535 = true := inB_iff.2 h.id
  have he : emp ⟨#[]⟩ = true := by rw [emp_size]; rfl
  have hv := h.hv
  rw [if_neg hs] at hv
  have hc : chkRgs (cutF (lackF r)) 100000 = 0 := by
    rw [cutF_lack r hv.srt]
    have ho := holes_ok hv hl
    exact ok_chk ⟨by decide, ho.len, ho.can, fun x hx => by have := ho.upto x hx; have := h.sz; omega⟩
  have hn : ¬ (lackF r).length = 0 := by
    unfold lackF
    cases q : emp r.nm with
    | true => simp
    | false => simp only [cond_false]; exact fun e => hne ⟨q, e⟩
  unfold chkLetter
  rw [h1, hc]
  simp only [extra, he]
  simp [inB]
  intro e
  rw [e] at hn
  simp at hn
theorem busy_mid {r : Rv} (hc : RCore r) (hs : 0 ≤ r.st ∧ r.st ≤ 4) (hw : 0 ≤ r.wt ∧ r.wt ≤ 1000000) (ha1 : r.st = 2 → r.wt ≠ 0) (ha2 : r.st ≠ 2 → r.wt = 0) (h4 : r.st ≠ 4) (h3 : r.st ≠ 3) : Mid (busy r) := by
  refine ⟨⟨hc.id, hc.nm, hc.sz, hc.sum, hc.tr, hc.hv, hc.dl, hc.bad, hc.un⟩, ?_, hw, ?_, ?_⟩
  · simp only [busy]; split <;> omega
  · intro e
    simp only [busy] at e ⊢
    split at e
    · omega
    · exact ha1 e
  · intro e
    simp only [busy] at e ⊢
    split at e
    · exact ha2 (by omega)
    · exact ha2 e
theorem endR_ok {wait kind : Int} {r : Rv} (h : Mid r) (hw : 1 ≤ wait ∧ wait ≤ 1000000) (hk : kind = 3 → r.sz ≠ -1) (h2 : r.st = 2 → r.sz ≠ -1) (he : (endR wait kind r).2 = 0) :
    RFull (endR wait kind r).1.1 ∧ (endR wait kind r).1.1.id = r.id ∧ (endR wait kind r).1.1.dat = r.dat ∧ (∀ x ∈ (endR wait kind r).1.2, chkLetter x.1 x.2.1 x.2.2.1 x.2.2.2.1 x.2.2.2.2.1 x.2.2.2.2.2.1 x.2.2.2.2.2.2.1 x.2.2.2.2.2.2.2.1 x.2.2.2.2.2.2.2.2.1 = 0 ∧ x.2.1 = r.id) := by
  have hc := h.core
  unfold endR at he ⊢
  split at he
  · rename_i q
    rw [if_pos q]
    refine ⟨?_, rfl, rfl, fun x hx => ?_⟩
    · refine RCore.full ⟨hc.id, hc.nm, hc.sz, hc.sum, hc.tr, hc.hv, hc.dl, hc.bad, hc.un⟩ ?_ ⟨by simp, by simp⟩ ?_
      · simp only; split <;> omega
      · simp only; split <;> simp [stB]
    · simp at hx
      subst hx
      exact ⟨letter_done r _ hc.id, rfl⟩
  · rename_i q
    rw [if_neg q]
    have hq : ¬ (emp r.nm = false ∧ 0 ≤ r.sz ∧ (holesF r.hv r.sz).length = 0) := fun e => q (by simp [e.1, e.2.1, List.length_eq_zero_iff.1 e.2.2])
    have hsz := hc.sz
    split at he
    · rename_i q2
      rw [if_pos q2]
      have hst := h.st
      refine ⟨RCore.full (r := r) hc ⟨by omega, by omega⟩ h.wt ?_, rfl, rfl, fun x hx => by cases hx⟩
      have e0 : decide (r.st = 0) = false := decide_eq_false (by omega)
      by_cases c : r.st = 2
      · have s1 := h2 c
        have hh : ¬ (emp r.nm = false ∧ (holesF r.hv r.sz).length = 0) := fun e => hq ⟨e.1, by omega, e.2⟩
        simp only [stB, c, e0, decide_true, decide_eq_false (h.a2 c), decide_eq_false s1, Bool.true_and, Bool.not_true, Bool.false_and, Bool.or_false, Bool.false_or]
        cases w : emp r.nm with
        | true => simp
        | false => simp; exact fun e => hh ⟨w, by rw [e]; rfl⟩
      · simp [stB, c, e0, h.a1 c]
    · rename_i q2
      have hk3 : kind = 3 := Classical.not_not.1 q2
      have s1 := hk hk3
      rw [if_neg q2]
      split at he
      · cases he
      · rename_i q3
        rw [if_neg q3]
        have hh : ¬ (emp r.nm = false ∧ (holesF r.hv r.sz).length = 0) := fun e => hq ⟨e.1, by omega, e.2⟩
        refine ⟨?_, rfl, rfl, fun x hx => ?_⟩
        · refine RCore.full ⟨hc.id, hc.nm, hc.sz, hc.sum, hc.tr, hc.hv, hc.dl, hc.bad, hc.un⟩ ⟨by simp, by simp⟩ ⟨by simp only; omega, by simp only; omega⟩ ?_
          simp only [stB, decide_true, decide_eq_false (show ¬ wait = 0 by omega), decide_eq_false s1, Bool.true_and, Bool.not_true, Bool.false_and, Bool.or_false, Bool.false_or, decide_eq_false (show ¬ (2 : Int) = 0 by decide)]
          cases w : emp r.nm with
          | true => simp
          | false => simp; exact fun e => hh ⟨w, by rw [e]; rfl⟩
        · simp at hx
          subst hx
          exact ⟨letter_hole hc s1 (by omega) hh, rfl⟩
theorem put_core {r : Rv} (hr : RFull r) {fr : Nat} {b : List Int} (h1 : 0 < b.length) (h2 : (fr : Int) + b.length ≤ 100000) (h3 : r.sz ≠ -1 → (fr : Int) + b.length ≤ r.sz) (hl : (putH r.hv fr b.length).length ≤ 2000) : RCore (putR r fr b) := by
  have hp := hr.put h1 (show fr + b.length ≤ 100000 by omega)
  have ho := put_ok hp hr.hv (by split <;> omega) hl
  have htr := hr.tr
  exact ⟨hr.id, hr.nm, hr.sz, hr.sum, by simp only [putR]; split <;> omega, ho, put_last hp hr.hv hr.dl ho, put_bad hp hr.bad, hr.un⟩
theorem size_core {r : Rv} (hr : RFull r) {kind : Int} {nm : ByteArray} {size sum : Int} (hs : 0 ≤ size ∧ size ≤ 100000) (hs2 : 0 ≤ sum ∧ sum ≤ 4294967295) (hn : kind = 1 → nameOk nm = true) (hd : (r.dat.length : Int) ≤ size) : RCore (sizeR r kind nm size sum) := by
  refine ⟨hr.id, ?_, ⟨by simp only [sizeR]; omega, hs.2⟩, hs2, hr.tr, ?_, hr.dl, hr.bad, fun e => by simp only [sizeR] at e; omega⟩
  · simp only [sizeR]
    split
    · rename_i e; exact .inr (hn e)
    · exact hr.nm
  · show LOk (if size = -1 then 100000 else size) r.hv
    rw [if_neg (show ¬ size = -1 by omega)]
    exact ⟨hs, hr.hv.len, hr.hv.can, fun x hx => by have := srt_last hr.hv.srt x hx; have := hr.dl; omega⟩
/-- What a letter makes of a right receiver is right, and its letters are. -/
theorem tkR_ok {wait : Int} {r : Rv} {kind id : Int} {nm : ByteArray} {size sum : Int} {fr : Nat} {b : List Int} (hr : RFull r) (hL : LFull kind id nm size sum fr b) (hw : 1 ≤ wait ∧ wait ≤ 1000000) (he : (tkR wait r kind id nm size sum fr b).2 = 0) :
    RFull (tkR wait r kind id nm size sum fr b).1.1 ∧ ((tkR wait r kind id nm size sum fr b).1.1.dat = r.dat ∨ (tkR wait r kind id nm size sum fr b).1.1.dat = putD r.dat r.hv fr b) ∧
      (∀ x ∈ (tkR wait r kind id nm size sum fr b).1.2, chkLetter x.1 x.2.1 x.2.2.1 x.2.2.2.1 x.2.2.2.2.1 x.2.2.2.2.2.1 x.2.2.2.2.2.2.1 x.2.2.2.2.2.2.2.1 x.2.2.2.2.2.2.2.2.1 = 0 ∧ x.2.1 = r.id) := by
  unfold tkR at he ⊢
  split at he
  · rename_i q; rw [if_pos q]; exact ⟨hr, .inl rfl, fun x hx => by cases hx⟩
  rename_i q1
  rw [if_neg q1]
  have q1' := q1
  simp only [not_or, Classical.not_not] at q1'
  obtain ⟨k1, k2, k3⟩ := q1'
  split at he
  · rename_i q; rw [if_pos q]
    refine ⟨hr, .inl rfl, fun x hx => ?_⟩
    simp only at hx
    split at hx
    · simp at hx; subst hx; exact ⟨letter_done r _ hr.id, rfl⟩
    · cases hx
  rename_i q2
  rw [if_neg q2]
  split at he
  · rename_i q; rw [if_pos q]; exact ⟨hr.stop, .inl rfl, fun x hx => by cases hx⟩
  rename_i q3
  rw [if_neg q3]
  split at he
  · rename_i q; rw [if_pos q]
    refine ⟨hr.stop, .inl rfl, fun x hx => ?_⟩
    simp at hx; subst hx; exact ⟨letter_stop r hr.id, rfl⟩
  rename_i q4
  rw [if_neg q4]
  have ha := hr.asks
  split at he
  · rename_i q; rw [if_pos q]
    subst q
    split at he
    · cases he
    rename_i q5
    rw [if_neg q5]
    obtain ⟨d1, d2⟩ := hL.da rfl
    have hcon : r.sz ≠ -1 → (fr : Int) + b.length ≤ r.sz := fun e => by
      have hz := hr.sz
      rcases Classical.em (r.sz < (fr : Int) + b.length) with w | w
      · exact absurd (by simp [conF, w]; omega) q4
      · omega
    have hc := put_core hr d1 d2 hcon (by omega)
    have hm := busy_mid (r := putR r fr b) hc hr.st hr.wt (fun e => (ha.1 e).1) ha.2 k3 q2
    obtain ⟨g1, g2, g3, g4⟩ := endR_ok hm hw (fun e => absurd e (by decide)) (fun e => by
      simp only [busy] at e
      split at e
      · cases e
      · exact (ha.1 e).2.1) he
    exact ⟨g1, .inr g3, fun x hx => by have := g4 x hx; exact this⟩
  · rename_i q; rw [if_neg q]
    have hkd : kind = 1 ∨ kind = 3 := by omega
    have hfig := hL.fig hkd
    have hcon : (r.dat.length : Int) ≤ size := by
      rcases Classical.em (size < (r.dat.length : Int)) with w | w
      · refine absurd ?_ q4
        simp [conF, q, w]
      · omega
    have hc := size_core hr hfig.1 hfig.2 hL.nmr hcon
    have hm := busy_mid (r := sizeR r kind nm size sum) hc hr.st hr.wt (fun e => (ha.1 e).1) ha.2 k3 q2
    obtain ⟨g1, g2, g3, g4⟩ := endR_ok hm hw (fun _ => by show size ≠ -1; omega) (fun _ => by show size ≠ -1; omega) he
    exact ⟨g1, .inl g3, fun x hx => by have := g4 x hx; exact this⟩
end Go.Proofs.Ytlcklflbhhnnhaa.PM
/- Plain laws of receivers: what a receiver becomes is right, and no byte that is there changes. -/
set_option linter.unusedSimpArgs false
set_option linter.unusedVariables false
namespace Go.Proofs.Ytlcklflbhhnnhaa.PM
open Go Go.Proofs.Ytlcklflbhhnnhaa.Bt
variable {R : Type}
theorem LIM112e : LIM 112 = 1256584717458 := by simp [LIM]
theorem f99_eq {k : Nat} (hk : 0 < k) {n : Int} (h0 : 0 ≤ n) (h1 : n ≤ 1000000000) (K : List Lt → Option R) : f99 k n K = K [] := by
  rw [f99_def]
  obtain ⟨k, rfl⟩ := succ_of hk
  have hd : decide (n < 0) = false := by simp only [decide_eq_false_iff_not]; omega
  simp only [f99d, f99_1000002_def, f99_1000002d, hd, cond_false, f99_1000005_def, f99_1000005d, Int.sub_zero]
  rw [wi (by omega) (by omega)]
  by_cases h : n > 0
  · have h2 : decide ((List.replicate n.toNat ((0, (0, (⟨#[]⟩, (0, (0, (0, ([], ([], (false, ()))))))))) : Lt)).length ≤ LIM 112) = true := by rw [LIM112e]; simp only [decide_eq_true_eq, List.length_replicate]; omega
    have h3 : decide (0 ≤ n) = true := by simp only [decide_eq_true_eq]; omega
    have h4 : decide (0 ≤ ((List.replicate n.toNat ((0, (0, (⟨#[]⟩, (0, (0, (0, ([], ([], (false, ()))))))))) : Lt)).length : Int)) = true := by simp only [decide_eq_true_eq]; omega
    simp only [h, h2, h3, h4, decide_true, cond_true, Bool.and_self, List.take_zero]
  · simp only [h, decide_false, cond_false]
theorem f58_eq {k : Nat} (hk : 5 < k) (a b : List Lt) (ha : a.length ≤ 100000) (hb : b.length ≤ 100000) (K : List Lt → Option R) : f58 k [a, b] K = K (a ++ b) := by
  rw [f58_def]
  obtain ⟨k, rfl⟩ := succ_of hk
  obtain ⟨k, rfl⟩ := succ_of (show 2 < k by omega)
  obtain ⟨k, rfl⟩ := succ_of (show 1 < k by omega)
  obtain ⟨k, rfl⟩ := succ_of (show 0 < k by omega)
  have w0 : IntKind.i64.wrap (0 + (a.length : Int)) = (a.length : Int) := by rw [wi (by omega) (by omega)]; omega
  have w1 : IntKind.i64.wrap ((a.length : Int) + (b.length : Int)) = (a.length : Int) + (b.length : Int) := wi (by omega) (by omega)
  have n0 : decide ((a.length : Int) < 0) = false := by simp only [decide_eq_false_iff_not]; omega
  have n1 : decide ((a.length : Int) + (b.length : Int) < 0) = false := by simp only [decide_eq_false_iff_not]; omega
  have i1 : IntKind.i64.wrap (0 + 1) = 1 := by decide
  have i2 : IntKind.i64.wrap (1 + 1) = 2 := by decide
  have l1 : decide (([] : List Lt).length + a.length ≤ LIM 112) = true := by rw [LIM112e]; simp only [decide_eq_true_eq, List.length_nil]; omega
  have l2 : decide (a.length + b.length ≤ LIM 112) = true := by rw [LIM112e]; simp only [decide_eq_true_eq]; omega
  simp only [f58d, f58_0_def, f58_2_def, f58_1000007_def, f58_1000007d, f58_0d, f58_0b, f58_2d, f58_2b, List.length_cons, List.length_nil, i1, i2]
  simp only [show decide ((0 : Int) < ((0 + 1 + 1 : Nat) : Int)) = true from by decide, show decide ((1 : Int) < ((0 + 1 + 1 : Nat) : Int)) = true from by decide, show decide ((2 : Int) < ((0 + 1 + 1 : Nat) : Int)) = false from by decide,
    show decide ((0 : Int) ≤ 0) = true from by decide, show decide ((0 : Int) ≤ 1) = true from by decide, Bool.and_self, cond_true, cond_false, Int.toNat_zero, Int.toNat_one, List.getD_cons_zero, List.getD_cons_succ, w0, n0, w1, n1]
  rw [f99_eq (show 0 < k + 1 + 1 + 1 by omega) (by omega) (by omega)]
  simp only [List.nil_append, l1, l2, cond_true, List.length_nil]
  simp only [List.length_nil] at l1
  simp only [l1, cond_true]

noncomputable abbrev chkL (x : Lt) : Int := chkLetter x.1 x.2.1 x.2.2.1 x.2.2.2.1 x.2.2.2.2.1 x.2.2.2.2.2.1 x.2.2.2.2.2.2.1 x.2.2.2.2.2.2.2.1 x.2.2.2.2.2.2.2.2.1
theorem endR_nm (wait kind : Int) (r : Rv) : ∀ x ∈ (endR wait kind r).1.2, x.2.2.1 = ⟨#[]⟩ := by
  intro x hx
  unfold endR at hx
  split at hx
  · simp at hx; subst hx; rfl
  · split at hx
    · cases hx
    · split at hx
      · cases hx
      · simp at hx; subst hx; rfl
theorem tkR_nm (wait : Int) (r : Rv) (kind id : Int) (nm : ByteArray) (size sum : Int) (fr : Nat) (b : List Int) : ∀ x ∈ (tkR wait r kind id nm size sum fr b).1.2, x.2.2.1 = ⟨#[]⟩ := by
  intro x hx
  unfold tkR at hx
  split at hx
  · cases hx
  split at hx
  · simp only at hx
    split at hx
    · simp at hx; subst hx; rfl
    · cases hx
  split at hx
  · cases hx
  split at hx
  · simp at hx; subst hx; rfl
  split at hx
  · split at hx
    · cases hx
    · exact endR_nm _ _ _ x hx
  · exact endR_nm _ _ _ x hx
theorem tickR_nm (wait most : Int) (r : Rv) : ∀ x ∈ (tickR wait most r).1.2, x.2.2.1 = ⟨#[]⟩ := by
  intro x hx
  unfold tickR at hx
  split at hx
  · cases hx
  split at hx
  · cases hx
  split at hx
  · simp at hx; subst hx; rfl
  split at hx
  · cases hx
  · simp at hx; subst hx; rfl
theorem tickR_ok {wait most : Int} {r : Rv} (hr : RFull r) (hw : 1 ≤ wait ∧ wait ≤ 1000000) (hm : most ≤ 50) (he : (tickR wait most r).2 = 0) : RFull (tickR wait most r).1.1 ∧ (∀ x ∈ (tickR wait most r).1.2, chkL x = 0 ∧ x.2.1 = r.id) := by
  have ha := hr.asks
  have hc := hr.core
  unfold tickR at he ⊢
  split at he
  · rename_i q; rw [if_pos q]; exact ⟨hr, fun x hx => by cases hx⟩
  rename_i q
  rw [if_neg q]
  have q' : r.st = 2 := Classical.not_not.1 q
  obtain ⟨a1, a2, a3⟩ := ha.1 q'
  have hwt := hr.wt
  have hstB : ∀ w : Int, w ≠ 0 → stB (decide (r.st = 2)) (decide (w = 0)) (decide (r.sz = -1)) (decide (r.st = 0)) (emp r.nm) (decide (r.dat.length = 0)) (decide (r.tr = 0)) (decide ((holesF r.hv r.sz).length = 0)) = false := fun w hw0 => by
    simp only [stB, q', decide_true, decide_eq_false hw0, decide_eq_false a2, Bool.true_and, Bool.not_true, Bool.false_and, Bool.or_false, Bool.false_or, decide_eq_false (show ¬ (2 : Int) = 0 by decide)]
    cases w : emp r.nm with
    | true => simp
    | false => simp; exact fun e => a3 ⟨w, by rw [e]; rfl⟩
  split at he
  · rename_i q1; rw [if_pos q1]
    refine ⟨?_, fun x hx => by cases hx⟩
    exact RCore.full (r := { r with wt := r.wt - 1 }) ⟨hc.id, hc.nm, hc.sz, hc.sum, hc.tr, hc.hv, hc.dl, hc.bad, hc.un⟩ hr.st ⟨by simp only; omega, by simp only; omega⟩ (hstB (r.wt - 1) (by omega))
  rename_i q1
  rw [if_neg q1]
  split at he
  · rename_i q2; rw [if_pos q2]
    have e0 : r.wt - 1 = 0 := by omega
    refine ⟨?_, fun x hx => ?_⟩
    · rw [e0]; exact hr.stop
    · simp at hx; subst hx; exact ⟨letter_stop r hr.id, rfl⟩
  rename_i q2
  rw [if_neg q2]
  split at he
  · cases he
  rename_i q3
  rw [if_neg q3]
  have htr := hr.tr
  refine ⟨?_, fun x hx => ?_⟩
  · refine RCore.full (r := { r with wt := wait, tr := r.tr + 1 }) ⟨hc.id, hc.nm, hc.sz, hc.sum, ⟨by simp only; omega, by simp only; omega⟩, hc.hv, hc.dl, hc.bad, hc.un⟩ hr.st ⟨by simp only; omega, by simp only; omega⟩ ?_
    simp only [stB, q', decide_true, decide_eq_false (show ¬ wait = 0 by omega), decide_eq_false a2, Bool.true_and, Bool.not_true, Bool.false_and, Bool.or_false, Bool.false_or, decide_eq_false (show ¬ (2 : Int) = 0 by decide)]
    cases w : emp r.nm with
    | true => simp
    | false => simp; exact fun e => a3 ⟨w, by rw [e]; rfl⟩
  · simp at hx; subst hx; exact ⟨letter_hole hc a2 (by omega) a3, rfl⟩
theorem anew_ok {r : Rv} (hr : RFull r) : RFull { r with st := if r.st = 2 then 1 else r.st, wt := 0, tr := 0 } := by
  have hc := hr.core
  have hs := hr.st
  have h1 := hr.state
  refine RCore.full (r := { r with st := if r.st = 2 then 1 else r.st, wt := 0, tr := 0 }) ⟨hc.id, hc.nm, hc.sz, hc.sum, ⟨by simp, by simp⟩, hc.hv, hc.dl, hc.bad, hc.un⟩ (by simp only; split <;> omega) ⟨by simp, by simp⟩ ?_
  by_cases c : r.st = 2
  · simp [stB, c]
  · by_cases c0 : r.st = 0
    · simp only [stB, c0, c] at h1 ⊢
      simp at h1 ⊢
      exact ⟨h1.2.1.1, h1.2.1.2⟩
    · simp [stB, c, c0]
theorem chkFig_d {a b c d e : Int} (h : chkFig a b c d e = 0) : (1 ≤ d ∧ d ≤ 1000000) ∧ e ≤ 50 := by
  unfold chkFig at h
  split at h
  · rename_i q
    simp only [Bool.and_eq_true] at q
    exact ⟨inB_iff.1 q.1.2, (inB_iff.1 q.2).2⟩
  · cases h
theorem span_eq {dat : List Int} {hv : List Rg} {fr : Nat} {b : List Int} {x : Rg} (hx : x ∈ hv) (h0 : 0 ≤ x.1) (h1 : x.2.1 ≤ (dat.length : Int)) : ((putD dat hv fr b).take x.2.1.toNat).drop x.1.toNat = (dat.take x.2.1.toNat).drop x.1.toNat := by
  refine List.ext_getElem? fun j => ?_
  rw [List.getElem?_drop, List.getElem?_drop, List.getElem?_take, List.getElem?_take]
  split
  · rename_i hj
    have hl : x.1.toNat + j < (putD dat hv fr b).length := by rw [putD_len]; omega
    have hl2 : x.1.toNat + j < dat.length := by omega
    rw [List.getElem?_eq_getElem hl, List.getElem?_eq_getElem hl2, putD_get]
    have hp : putP hv fr (fr + b.length) (x.1.toNat + j) = false := by
      have : insB hv ((x.1.toNat + j : Nat) : Int) = true := insB_iff.2 ⟨x, hx, by omega, by omega⟩
      unfold putP
      rw [this]
      simp
    rw [hp, if_neg (by simp), getD_in hl2]
  · rfl
theorem f13_loop (k : Nat) (hk : 10 < k) (K : Bool → Option R) (X : Option R) (hv : List Rg) (dat xd : List Int) (hl : hv.length ≤ 2000) (hall : ∀ x ∈ hv, 0 ≤ x.1 ∧ x.1 ≤ x.2.1 ∧ x.2.1 ≤ (dat.length : Int)) (hxd : dat.length ≤ xd.length)
    (heq : ∀ x ∈ hv, (xd.take x.2.1.toNat).drop x.1.toNat = (dat.take x.2.1.toNat).drop x.1.toNat)
    (c0 c1 c2 c4 c5 : Int) (c6 : ByteArray) (c9 c10 c11 c12 c13 c14 : Int) (c15 : ByteArray) (c17 : List Rg) (c18 c19 c20 c21 : Int) (c22 : List Lt) (c23 c24 : Int) (c25 : ByteArray) (c26 : List Int) (c27 : List Rg) (c28 c29 c30 c31 : Int) (c32 : List Lt) (c33 c34 : Int) (c35 : ByteArray) (c36 c37 c38 c39 : Int) (c40 : List Int) (c41 : List Rg) :
    ∀ (d i f : Nat), i + d = hv.length → d < f → f13_0d k K X c0 c1 c2 c4 c5 c6 dat hv c9 c10 c11 c12 c13 c14 c15 xd c17 c18 c19 c20 c21 c22 c23 c24 c25 c26 c27 c28 c29 c30 c31 c32 c33 c34 c35 c36 c37 c38 c39 c40 c41 f (i : Int) = X := by
  intro d
  induction d with
  | zero =>
    intro i f hi hf
    obtain ⟨f, rfl⟩ := succ_of hf
    have h : decide ((i : Int) < (hv.length : Int)) = false := by simp only [decide_eq_false_iff_not]; omega
    simp only [f13_0d, f13_0b, h, cond_false]
  | succ d ih =>
    intro i f hi hf
    obtain ⟨f, rfl⟩ := succ_of (show 0 < f by omega)
    have e1 : decide ((i : Int) < (hv.length : Int)) = true := by simp only [decide_eq_true_eq]; omega
    have e2 : decide ((0 : Int) ≤ (i : Int)) = true := by simp only [decide_eq_true_eq]; omega
    have hlt : i < hv.length := by omega
    have hw : IntKind.i64.wrap ((i : Int) + 1) = ((i + 1 : Nat) : Int) := by rw [wi (by omega) (by omega)]; rfl
    obtain ⟨g1, g2, g3⟩ := hall hv[i] (List.getElem_mem hlt)
    have d1 : decide ((0 : Int) ≤ hv[i].1) = true := decide_eq_true g1
    have d2 : decide (hv[i].1 ≤ hv[i].2.1) = true := decide_eq_true g2
    have d3 : decide (hv[i].2.1 ≤ (dat.length : Int)) = true := decide_eq_true g3
    have d4 : decide (hv[i].2.1 ≤ (xd.length : Int)) = true := decide_eq_true (by omega)
    simp only [f13_0d, f13_0b, e1, e2, Bool.and_self, cond_true, Int.toNat_natCast, getD_in hlt, hw, d1, d2, d3, d4, heq hv[i] (List.getElem_mem hlt)]
    rw [f51_refl (by omega)]
    simp only [Bool.not_true, cond_false]
    exact ih (i + 1) f (by omega) (by omega)
theorem f13_loop2 (k : Nat) (hk : 3100 < k) (K : Bool → Option R) (X : Option R) (id : Int) (L : List Lt) (hl : L.length ≤ 100) (hL : ∀ x ∈ L, (chkL x = 0 ∧ x.2.1 = id) ∧ x.2.2.1 = ⟨#[]⟩ ∧ x.2.2.2.2.2.2.2.1.length ≤ 3000) (c0 c2 : Int) (c4 : ByteArray) (c5 : List Int) (c6 : List Rg) (c7 c8 c9 c10 : Int) (c11 : List Lt) :
    ∀ (d i f : Nat), i + d = L.length → d < f → f13_2d k K X c0 c2 id c4 c5 c6 c7 c8 c9 c10 c11 L f (i : Int) = X := by
  intro d
  induction d with
  | zero =>
    intro i f hi hf
    obtain ⟨f, rfl⟩ := succ_of hf
    have h : decide ((i : Int) < (L.length : Int)) = false := by simp only [decide_eq_false_iff_not]; omega
    simp only [f13_2d, f13_2b, h, cond_false]
  | succ d ih =>
    intro i f hi hf
    obtain ⟨f, rfl⟩ := succ_of (show 0 < f by omega)
    have e1 : decide ((i : Int) < (L.length : Int)) = true := by simp only [decide_eq_true_eq]; omega
    have e2 : decide ((0 : Int) ≤ (i : Int)) = true := by simp only [decide_eq_true_eq]; omega
    have hlt : i < L.length := by omega
    have hw : IntKind.i64.wrap ((i : Int) + 1) = ((i + 1 : Nat) : Int) := by rw [wi (by omega) (by omega)]; rfl
    obtain ⟨⟨g1, g2⟩, g3, g4⟩ := hL L[i] (List.getElem_mem hlt)
    have hsz : L[i].2.2.1.size = 0 := by rw [g3]; rfl
    simp only [f13_2d, f13_2b, e1, e2, Bool.and_self, cond_true, Int.toNat_natCast, getD_in hlt, hw]
    rw [f20_eq _ _ _ _ _ _ _ _ _ (by omega) (by omega)]
    have g1' : chkLetter L[i].1 L[i].2.1 L[i].2.2.1 L[i].2.2.2.1 L[i].2.2.2.2.1 L[i].2.2.2.2.2.1 L[i].2.2.2.2.2.2.1 L[i].2.2.2.2.2.2.2.1 L[i].2.2.2.2.2.2.2.2.1 = 0 := g1
    have g2' : (L[i].2.1 != id) = false := by rw [g2]; simp
    simp only [g1', g2', bne_self_eq_false, BEq.rfl, cond_true, cond_false]
    exact ih (i + 1) f (by omega) (by omega)
theorem takeR_ok {a b c d e : Int} {r : Rv} {kind id : Int} {nm : ByteArray} {size sum fr : Int} {bs : List Int} {hs : List Rg} {good : Bool} (h : (takeR a b c d e r kind id nm size sum fr bs hs good).2 = 0) :
    RFull r ∧ LFull kind id nm size sum fr bs ∧ (1 ≤ d ∧ d ≤ 1000000) ∧ takeR a b c d e r kind id nm size sum fr bs hs good = tkR d r kind id nm size sum fr.toNat bs := by
  unfold takeR at h ⊢
  by_cases h1 : chkFig a b c d e = 0
  · rw [if_neg (fun q => q h1)] at h ⊢
    by_cases h2 : chkRecv r = 0
    · rw [if_neg (fun q => q h2)] at h ⊢
      by_cases h3 : chkLetter kind id nm size sum fr bs hs good = 0
      · rw [if_neg (fun q => q h3)] at h ⊢
        exact ⟨(chkRecv_full r).1 h2, chkLetter_full h3, (chkFig_d h1).1, rfl⟩
      · rw [if_pos h3] at h; exact absurd h h3
    · rw [if_pos h2] at h; exact absurd h h2
  · rw [if_pos h1] at h; exact absurd h h1
theorem endR_err (wait kind : Int) (r : Rv) (h : (endR wait kind r).2 ≠ 0) : (endR wait kind r).1 = (zR, []) := by
  unfold endR at h ⊢
  split at h
  · exact absurd rfl h
  · rename_i q; rw [if_neg q]
    split at h
    · exact absurd rfl h
    · rename_i q2; rw [if_neg q2]
      split at h
      · rename_i q3; rw [if_pos q3]
      · exact absurd rfl h
theorem takeR_err {a b c d e : Int} {r : Rv} {kind id : Int} {nm : ByteArray} {size sum fr : Int} {bs : List Int} {hs : List Rg} {good : Bool} (h : (takeR a b c d e r kind id nm size sum fr bs hs good).2 ≠ 0) :
    (takeR a b c d e r kind id nm size sum fr bs hs good).1 = (zR, []) := by
  unfold takeR at h ⊢
  split at h
  · rename_i q; rw [if_pos q]
  rename_i q; rw [if_neg q]
  split at h
  · rename_i q; rw [if_pos q]
  rename_i q; rw [if_neg q]
  split at h
  · rename_i q; rw [if_pos q]
  rename_i q; rw [if_neg q]
  unfold tkR at h ⊢
  split at h
  · exact absurd rfl h
  rename_i q; rw [if_neg q]
  split at h
  · exact absurd rfl h
  rename_i q; rw [if_neg q]
  split at h
  · exact absurd rfl h
  rename_i q; rw [if_neg q]
  split at h
  · exact absurd rfl h
  rename_i q; rw [if_neg q]
  split at h
  · rename_i q; rw [if_pos q]
    split at h
    · rename_i q; rw [if_pos q]
    · rename_i q; rw [if_neg q]
      exact endR_err _ _ _ h
  · rename_i q; rw [if_neg q]
    exact endR_err _ _ _ h
theorem stepR_full {a b c d e : Int} {r : Rv} (h : (stepR a b c d e r).2 = 0) : RFull (stepR a b c d e r).1.1 ∧ (∀ x ∈ (stepR a b c d e r).1.2, chkL x = 0 ∧ x.2.1 = r.id) ∧ ∀ x ∈ (stepR a b c d e r).1.2, x.2.2.1 = ⟨#[]⟩ := by
  unfold stepR at h ⊢
  by_cases h1 : chkFig a b c d e = 0
  · rw [if_neg (fun q => q h1)] at h ⊢
    by_cases h2 : chkRecv r = 0
    · rw [if_neg (fun q => q h2)] at h ⊢
      have := tickR_ok ((chkRecv_full r).1 h2) (chkFig_d h1).1 (chkFig_d h1).2 h
      exact ⟨this.1, this.2, tickR_nm d e r⟩
    · rw [if_pos h2] at h; exact absurd h h2
  · rw [if_pos h1] at h; exact absurd h h1
theorem stepR_err {a b c d e : Int} {r : Rv} (h : (stepR a b c d e r).2 ≠ 0) : (stepR a b c d e r).1.2 = [] := by
  unfold stepR at h ⊢
  split at h
  · rename_i q; rw [if_pos q]
  rename_i q; rw [if_neg q]
  split at h
  · rename_i q; rw [if_pos q]
  rename_i q; rw [if_neg q]
  unfold tickR at h ⊢
  split at h
  · exact absurd rfl h
  rename_i q; rw [if_neg q]
  split at h
  · exact absurd rfl h
  rename_i q; rw [if_neg q]
  split at h
  · exact absurd rfl h
  rename_i q; rw [if_neg q]
  split at h
  · rename_i q; rw [if_pos q]
  · exact absurd rfl h
theorem anewF_full {r : Rv} (h : (anewF r).2 = 0) : RFull (anewF r).1 := by
  unfold anewF at h ⊢
  by_cases h2 : chkRecv r = 0
  · rw [if_neg (fun q => q h2)]
    exact anew_ok ((chkRecv_full r).1 h2)
  · rw [if_pos h2] at h; exact absurd h h2
theorem nameOk_sz {s : ByteArray} (h : nameOk s = true) : s.size ≤ 40 := by
  simp only [nameOk, Bool.and_eq_true, decide_eq_true_eq] at h
  exact h.1.2
theorem RFull.nmsz {r : Rv} (h : RFull r) : r.nm.size ≤ 1000 := by
  rcases h.nm with e | e
  · rw [emp_size, decide_eq_true_eq] at e; omega
  · have := nameOk_sz e; omega
theorem RFull.hvrg {r : Rv} (h : RFull r) : ∀ x ∈ r.hv, 0 ≤ x.1 ∧ x.1 ≤ x.2.1 ∧ x.2.1 ≤ (r.dat.length : Int) := fun x hx => by
  have h1 := can_low h.hv.can x hx
  have h2 := srt_last h.hv.srt x hx
  have h3 := h.dl
  omega
theorem f13_eq {k : Nat} (a b c d e : Int) (r : Rv) (kind id : Int) (nm : ByteArray) (size sum fr : Int) (bs : List Int) (hs : List Rg) (good : Bool) (hu : U8 r.dat) (hub : U8 bs) (hn : r.nm.size < 4611686018427387904) (hn2 : nm.size < 4611686018427387904)
    (hk : r.nm.size + r.hv.length + nm.size + hs.length + 230000 < k) (K : Bool → Option R) :
    f13 k a b c d e r.st r.id r.nm r.dat r.hv r.sz r.sum r.wt r.tr kind id nm size sum fr bs hs good K = K true := by
  obtain ⟨j, rfl⟩ := succ_of (show 0 < k by omega)
  rw [f13_def]
  simp only [f13d]
  rw [f52_eq a b c d e r kind id nm size sum fr bs hs good hu hub hn hn2 (by omega)]
  unfold apRF
  dsimp only
  rw [f34_eq a b c d e r hn (by omega)]
  unfold apRF
  dsimp only
  rw [f36_eq r hn (by omega)]
  obtain ⟨l1, l2, l3⟩ := takeR_len a b c d e r kind id nm size sum fr bs hs good
  obtain ⟨m1, m2, m3⟩ := stepR_ok a b c d e r
  have x0 : (takeR a b c d e r kind id nm size sum fr bs hs good).2 = 0 → RFull r ∧ RFull (takeR a b c d e r kind id nm size sum fr bs hs good).1.1 ∧ ((takeR a b c d e r kind id nm size sum fr bs hs good).1.1.dat = r.dat ∨ (takeR a b c d e r kind id nm size sum fr bs hs good).1.1.dat = putD r.dat r.hv fr.toNat bs) ∧ (∀ x ∈ (takeR a b c d e r kind id nm size sum fr bs hs good).1.2, (chkL x = 0 ∧ x.2.1 = r.id) ∧ x.2.2.1 = ⟨#[]⟩) := fun h => by
    obtain ⟨h1, h2, h3, h4⟩ := takeR_ok h
    have hfr := h2.frr
    rw [show fr = (fr.toNat : Int) by omega] at h2
    rw [h4] at h ⊢
    obtain ⟨g1, g2, g3⟩ := tkR_ok h1 h2 h3 h
    exact ⟨h1, g1, g2, fun x hx => ⟨g3 x hx, tkR_nm _ _ _ _ _ _ _ _ _ x hx⟩⟩
  have x1 : (takeR a b c d e r kind id nm size sum fr bs hs good).2 ≠ 0 → (takeR a b c d e r kind id nm size sum fr bs hs good).1.2 = [] := fun h => by rw [takeR_err h]
  have y0 : (stepR a b c d e r).2 = 0 → _ := fun h => stepR_full (a := a) (b := b) (c := c) (d := d) (e := e) (r := r) h
  have y1 : (stepR a b c d e r).2 ≠ 0 → (stepR a b c d e r).1.2 = [] := stepR_err
  have z0 : (anewF r).2 = 0 → RFull (anewF r).1 := anewF_full
  generalize takeR a b c d e r kind id nm size sum fr bs hs good = x at *
  generalize stepR a b c d e r = y at *
  generalize anewF r = z at *
  have e56 : ∀ (q : Rv), RFull q → ∀ K' : Int → Option R, f56 j q.st q.id q.nm q.dat q.hv q.sz q.sum q.wt q.tr K' = K' 0 := fun q hq K' => by
    have h1 := hq.nmsz
    have h2 := hq.hv.len
    rw [f56_eq q (by omega) (by omega), (chkRecv_full q).2 hq]
  have hall : ∀ q ∈ x.1.2 ++ y.1.2, (chkL q = 0 ∧ q.2.1 = r.id) ∧ q.2.2.1 = ⟨#[]⟩ ∧ q.2.2.2.2.2.2.2.1.length ≤ 3000 := fun q hq => by
    rcases List.mem_append.1 hq with hq | hq
    · by_cases c0 : x.2 = 0
      · have := (x0 c0).2.2.2 q hq; exact ⟨this.1, this.2, l2 q hq⟩
      · rw [x1 c0] at hq; cases hq
    · by_cases c0 : y.2 = 0
      · have := y0 c0; exact ⟨this.2.1 q hq, this.2.2 q hq, m2 q hq⟩
      · rw [y1 c0] at hq; cases hq
  have hend : f58 j [x.1.2, y.1.2] (fun r30723_0 => (f13_2 j K (bif ((x.2 == 0) == false) then (bif (((x.1.2.length : Int) == 0) == true) then (f24 j (fun r43016_0 => (K r43016_0))) else (K false)) else (f24 j (fun r43016_0 => (K r43016_0)))) x.2 r.st r.id r.nm r.dat r.hv r.sz r.sum r.wt r.tr x.1.2 r30723_0 j 0)) = K true := by
    rw [f58_eq (by omega) _ _ (by omega) (by omega), f13_2_def]
    refine (f13_loop2 (R := R) j (by omega) K _ r.id (x.1.2 ++ y.1.2) (by rw [List.length_append]; omega) hall _ _ _ _ _ _ _ _ _ _ (x.1.2 ++ y.1.2).length 0 j (by omega) (by rw [List.length_append]; omega)).trans ?_
    rw [f24_eq (by omega)]
    by_cases c0 : x.2 = 0
    · simp [c0]
    · have : (x.2 == 0) = false := by simp [c0]
      simp [this, x1 c0]
  have hX : ∀ (X : Option R), X = K true → (bif ((z.2 == 0) == true) then (f56 j z.1.st z.1.id z.1.nm z.1.dat z.1.hv z.1.sz z.1.sum z.1.wt z.1.tr (fun r26636_0 => (bif (r26636_0 != 0) then (K false) else X))) else X) = K true := fun X hX => by
    by_cases c0 : z.2 = 0
    · have : (z.2 == 0) = true := by simp [c0]
      rw [this, e56 z.1 (z0 c0)]
      exact hX
    · have : (z.2 == 0) = false := by simp [c0]
      rw [this]
      exact hX
  have hXN : (bif ((y.2 == 0) == true) then (f56 j y.1.1.st y.1.1.id y.1.1.nm y.1.1.dat y.1.1.hv y.1.1.sz y.1.1.sum y.1.1.wt y.1.1.tr (fun r26628_0 => (bif ((r26628_0 != 0) == false) then (bif ((z.2 == 0) == true) then (f56 j z.1.st z.1.id z.1.nm z.1.dat z.1.hv z.1.sz z.1.sum z.1.wt z.1.tr (fun r26636_0 => (bif (r26636_0 != 0) then (K false) else (f58 j [x.1.2, y.1.2] (fun r30723_0 => (f13_2 j K (bif ((x.2 == 0) == false) then (bif (((x.1.2.length : Int) == 0) == true) then (f24 j (fun r43016_0 => (K r43016_0))) else (K false)) else (f24 j (fun r43016_0 => (K r43016_0)))) x.2 r.st r.id r.nm r.dat r.hv r.sz r.sum r.wt r.tr x.1.2 r30723_0 j 0)))))) else (f58 j [x.1.2, y.1.2] (fun r30723_0 => (f13_2 j K (bif ((x.2 == 0) == false) then (bif (((x.1.2.length : Int) == 0) == true) then (f24 j (fun r43016_0 => (K r43016_0))) else (K false)) else (f24 j (fun r43016_0 => (K r43016_0)))) x.2 r.st r.id r.nm r.dat r.hv r.sz r.sum r.wt r.tr x.1.2 r30723_0 j 0)))) else (K false)))) else (bif ((z.2 == 0) == true) then (f56 j z.1.st z.1.id z.1.nm z.1.dat z.1.hv z.1.sz z.1.sum z.1.wt z.1.tr (fun r26636_0 => (bif (r26636_0 != 0) then (K false) else (f58 j [x.1.2, y.1.2] (fun r30723_0 => (f13_2 j K (bif ((x.2 == 0) == false) then (bif (((x.1.2.length : Int) == 0) == true) then (f24 j (fun r43016_0 => (K r43016_0))) else (K false)) else (f24 j (fun r43016_0 => (K r43016_0)))) x.2 r.st r.id r.nm r.dat r.hv r.sz r.sum r.wt r.tr x.1.2 r30723_0 j 0)))))) else (f58 j [x.1.2, y.1.2] (fun r30723_0 => (f13_2 j K (bif ((x.2 == 0) == false) then (bif (((x.1.2.length : Int) == 0) == true) then (f24 j (fun r43016_0 => (K r43016_0))) else (K false)) else (f24 j (fun r43016_0 => (K r43016_0)))) x.2 r.st r.id r.nm r.dat r.hv r.sz r.sum r.wt r.tr x.1.2 r30723_0 j 0))))) = K true := by
    by_cases c0 : y.2 = 0
    · have : (y.2 == 0) = true := by simp [c0]
      rw [this, e56 y.1.1 (y0 c0).1]
      exact hX _ hend
    · have : (y.2 == 0) = false := by simp [c0]
      rw [this]
      exact hX _ hend
  rw [f13_1000005_def]
  unfold f13_1000005d
  by_cases c0 : x.2 = 0
  · obtain ⟨hr, h1, h2, h3⟩ := x0 c0
    have : (x.2 == 0) = true := by simp [c0]
    have hdl : r.dat.length ≤ x.1.1.dat.length := by
      rcases h2 with e1 | e1
      · rw [e1]; exact Nat.le_refl _
      · rw [e1, putD_len]; omega
    have hd : decide ((x.1.1.dat.length : Int) < (r.dat.length : Int)) = false := by simp only [decide_eq_false_iff_not]; omega
    rw [this] at hXN
    rw [this, cond_true, e56 x.1.1 h1]
    simp only [bne_self_eq_false, BEq.rfl, cond_true, hd, cond_false]
    rw [f13_0_def]
    refine (f13_loop (R := R) j (by omega) K _ r.hv r.dat x.1.1.dat hr.hv.len hr.hvrg hdl (fun q hq => ?_) _ _ _ _ _ _ _ _ _ _ _ _ _ _ _ _ _ _ _ _ _ _ _ _ _ _ _ _ _ _ _ _ _ _ _ _ _ _ r.hv.length 0 j (by omega) (by omega)).trans hXN
    have hg := hr.hvrg q hq
    rcases h2 with e1 | e1
    · rw [e1]
    · rw [e1]; exact span_eq hq hg.1 hg.2.2
  · have : (x.2 == 0) = false := by simp [c0]
    rw [this] at hXN
    rw [this, cond_false]
    exact hXN
end Go.Proofs.Ytlcklflbhhnnhaa.PM
