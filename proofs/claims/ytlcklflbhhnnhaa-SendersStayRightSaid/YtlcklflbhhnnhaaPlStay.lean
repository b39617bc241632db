/- Plain laws of senders: they stay right. -/
import Derived.Test.YtlcklflbhhnnhaaPlTake
set_option linter.unusedSimpArgs false
set_option linter.unusedVariables false
namespace Go.Proofs.Ytlcklflbhhnnhaa.PM
open Go Go.Proofs.Ytlcklflbhhnnhaa.Bt
variable {R : Type}

structure Gd (s : Sd) : Prop where
  file : chkFile s.id s.nm s.dat.length = 0
  st : 1 ≤ s.st ∧ s.st ≤ 4
  nx : -1 ≤ s.nx ∧ s.nx ≤ s.dat.length
  wt : 0 ≤ s.wt ∧ s.wt ≤ 1000000
  tr : 0 ≤ s.tr ∧ s.tr ≤ 50
  hs : LOk s.dat.length (cutF s.hs)
  two : s.st = 2 → s.nx = s.dat.length ∧ s.hs = [] ∧ s.wt ≠ 0
  oth : s.st ≠ 2 → s.wt = 0
theorem gd_of {s : Sd} (h : chkSend s = 0) : Gd s := by
  obtain ⟨g1, g2⟩ := chkSend_rgs h
  unfold chkSend at h
  by_cases h1 : chkFile s.id s.nm s.dat.length = 0
  · by_cases h2 : inB s.st 1 4 = false
    · simp [h1, h2] at h
    by_cases h3 : inB s.nx (-1) s.dat.length = false
    · simp [h1, h2, h3] at h
    by_cases h4 : inB s.wt 0 1000000 = false
    · simp [h1, h2, h3, h4] at h
    by_cases h5 : inB s.tr 0 50 = false
    · simp [h1, h2, h3, h4, h5] at h
    have h6 := ok_chk g1
    simp only [h1, h2, h3, h4, h5, h6, ne_eq, not_true_eq_false, if_false] at h
    refine ⟨h1, inB_iff.1 (by simpa using h2), g2, inB_iff.1 (by simpa using h4), inB_iff.1 (by simpa using h5), g1, fun q => ?_, fun q => ?_⟩
    · rw [if_pos q] at h
      by_cases c : s.nx = s.dat.length ∧ s.hs.length = 0 ∧ ¬ s.wt = 0
      · exact ⟨c.1, List.length_eq_zero_iff.1 c.2.1, c.2.2⟩
      · rw [if_neg c] at h; cases h
    · rw [if_neg q] at h
      by_cases c : s.wt = 0
      · exact c
      · rw [if_neg c] at h; cases h
  · simp [h1] at h
theorem of_gd {s : Sd} (h : Gd s) : chkSend s = 0 := by
  have h2 : inB s.st 1 4 = true := inB_iff.2 h.st
  have h3 : inB s.nx (-1) s.dat.length = true := inB_iff.2 h.nx
  have h4 : inB s.wt 0 1000000 = true := inB_iff.2 h.wt
  have h5 : inB s.tr 0 50 = true := inB_iff.2 h.tr
  have h6 := ok_chk h.hs
  unfold chkSend
  rw [if_neg (not_not_intro h.file), h2, if_neg (by simp), h3, if_neg (by simp), h4, if_neg (by simp), h5, if_neg (by simp), if_neg (not_not_intro h6)]
  by_cases q : s.st = 2
  · obtain ⟨a, b, c⟩ := h.two q
    rw [if_pos q, if_pos ⟨a, by rw [b]; rfl, c⟩]
  · rw [if_neg q, if_pos (h.oth q)]
theorem file_ok {id : Int} {nm : ByteArray} {n : Nat} (h : chkFile id nm n = 0) : inB id 0 65535 = true ∧ nameOk nm = true ∧ n ≤ 100000 := by
  unfold chkFile at h
  by_cases h1 : inB id 0 65535 = false
  · rw [if_pos h1] at h; cases h
  · rw [if_neg h1] at h
    by_cases h2 : nameOk nm = false
    · rw [if_pos h2] at h; cases h
    · rw [if_neg h2] at h
      by_cases h3 : 100000 < n
      · rw [if_pos h3] at h; cases h
      · exact ⟨by simpa using h1, by simpa using h2, by omega⟩
theorem sumOf_in (l : List Int) : inB (sumOf l) 0 4294967295 = true := inB_iff.2 (by unfold sumOf; omega)
noncomputable def chkLt (x : Lt) : Int := chkLetter x.1 x.2.1 x.2.2.1 x.2.2.2.1 x.2.2.2.2.1 x.2.2.2.2.2.1 x.2.2.2.2.2.2.1 x.2.2.2.2.2.2.2.1 x.2.2.2.2.2.2.2.2.1
theorem emp0 : emp (⟨#[]⟩ : ByteArray) = true := by rw [emp_size]; rfl
theorem metaL_ok {s : Sd} (h : Gd s) : chkLt (metaL s) = 0 := by
  obtain ⟨f1, f2, f3⟩ := file_ok h.file
  have hsz : inB (s.dat.length : Int) 0 100000 = true := inB_iff.2 (by omega)
  show chkLetter 1 s.id s.nm s.dat.length (sumOf s.dat) 0 [] [] false = 0
  unfold chkLetter
  have he : extra 1 (emp s.nm) (s.dat.length : Int) (sumOf s.dat) 0 ([] : List Int).length ([] : List Rg).length false = false := by simp [extra]
  rw [if_neg (by decide), f1, if_neg (by simp), he, if_neg (by simp), f2, if_neg (by simp), if_pos (Or.inl rfl), if_pos ⟨hsz, sumOf_in _⟩]
theorem endL_ok {s : Sd} (h : Gd s) : chkLt (endL s) = 0 := by
  obtain ⟨f1, f2, f3⟩ := file_ok h.file
  have hsz : inB (s.dat.length : Int) 0 100000 = true := inB_iff.2 (by omega)
  show chkLetter 3 s.id ⟨#[]⟩ s.dat.length (sumOf s.dat) 0 [] [] false = 0
  unfold chkLetter
  have he : extra 3 (emp (⟨#[]⟩ : ByteArray)) (s.dat.length : Int) (sumOf s.dat) 0 ([] : List Int).length ([] : List Rg).length false = false := by rw [emp0]; simp [extra]
  rw [if_neg (by decide), f1, if_neg (by simp), he, if_neg (by simp), if_neg (fun q => absurd q.1 (by decide)), if_pos (Or.inr rfl), if_pos ⟨hsz, sumOf_in _⟩]
theorem stopL_ok {s : Sd} (h : Gd s) : chkLt (stopL s) = 0 := by
  obtain ⟨f1, f2, f3⟩ := file_ok h.file
  show chkLetter 6 s.id ⟨#[]⟩ 0 0 0 [] [] false = 0
  unfold chkLetter
  have he : extra 6 (emp (⟨#[]⟩ : ByteArray)) 0 0 0 ([] : List Int).length ([] : List Rg).length false = false := by rw [emp0]; simp [extra]
  rw [if_neg (by decide), f1, if_neg (by simp), he, if_neg (by simp), if_neg (fun q => absurd q.1 (by decide)), if_neg (by decide), if_neg (by decide), if_neg (by decide)]
theorem dataL_ok {s : Sd} (h : Gd s) {a b : Int} (ha : 0 ≤ a) (hab : a < b) (hb : b ≤ s.dat.length) (h4 : b ≤ a + 4096) : chkLt (dataL s a b) = 0 := by
  obtain ⟨f1, f2, f3⟩ := file_ok h.file
  have hl : ((s.dat.take b.toNat).drop a.toNat).length = (b - a).toNat := by rw [List.length_drop, List.length_take]; omega
  show chkLetter 2 s.id ⟨#[]⟩ 0 0 a ((s.dat.take b.toNat).drop a.toNat) [] false = 0
  unfold chkLetter
  have he : extra 2 (emp (⟨#[]⟩ : ByteArray)) 0 0 a ((s.dat.take b.toNat).drop a.toNat).length ([] : List Rg).length false = false := by rw [emp0]; simp [extra]
  have hin : inB a 0 100000 = true := inB_iff.2 (by omega)
  rw [if_neg (by decide), f1, if_neg (by simp), he, if_neg (by simp), if_neg (fun q => absurd q.1 (by decide)), if_neg (by decide), if_pos rfl, hin, if_neg (by simp), hl, if_neg (by omega), if_neg (by omega), if_neg (by omega)]
theorem can_headF {l : List Rg} (h : Can (-1) l) : headF l = false := by
  cases l with
  | nil => rfl
  | cons x l =>
    have := h.1
    have h1 : ¬ x.1 = -1 := by omega
    simp [headF, h1]
theorem cut_of {n : Int} {l : List Rg} (h : LOk n l) : cutF l = l := cutF_of (can_headF h.can)
theorem one_gd {seg wait : Int} (hg : 1 ≤ seg ∧ seg ≤ 4096) (hw : 1 ≤ wait ∧ wait ≤ 1000000) {s : Sd} (h : Gd s) (h1 : s.st = 1) :
    Gd (oneS seg wait s).1 ∧ chkLt (oneS seg wait s).2 = 0 ∧ (oneS seg wait s).2.2.1 = s.id ∧ (oneS seg wait s).1.id = s.id ∧ (oneS seg wait s).1.nm = s.nm ∧ (oneS seg wait s).1.dat = s.dat := by
  have hwt := h.oth (by omega)
  obtain ⟨f1, f2, f3⟩ := file_ok h.file
  have hn := h.nx
  have hl := h.hs
  unfold oneS
  split
  · exact ⟨⟨h.file, h.st, ⟨by show (-1 : Int) ≤ 0; omega, by show (0 : Int) ≤ s.dat.length; omega⟩, h.wt, h.tr, h.hs, fun q => (by have q' : s.st = 2 := q; omega), fun _ => hwt⟩, metaL_ok h, rfl, rfl, rfl, rfl⟩
  · split
    · refine ⟨⟨h.file, h.st, h.nx, h.wt, h.tr, ?_, fun q => (by have q' : s.st = 2 := q; omega), fun _ => hwt⟩, metaL_ok h, rfl, rfl, rfl, rfl⟩
      show LOk s.dat.length (cutF (cutF s.hs))
      rw [cut_of hl]; exact hl
    · rename_i hn0 hh
      have hh : headF s.hs = false := by simpa using hh
      rw [cutF_of hh] at hl
      split
      · rename_i x r e
        rw [e] at hl
        obtain ⟨c1, c2, c3⟩ := hl.can
        have hx := hl.upto x (by simp)
        have hlen := hl.len
        simp only [List.length_cons] at hlen
        have m1 : x.1 < mn (x.1 + seg) x.2.1 := by unfold mn; split <;> omega
        have m2 : mn (x.1 + seg) x.2.1 ≤ x.2.1 := by unfold mn; split <;> omega
        have m3 : mn (x.1 + seg) x.2.1 ≤ x.1 + 4096 := by unfold mn; split <;> omega
        refine ⟨⟨h.file, h.st, h.nx, h.wt, h.tr, ?_, fun q => (by have q' : s.st = 2 := q; omega), fun _ => hwt⟩, dataL_ok h (by omega) m1 (by omega) m3, rfl, rfl, rfl, rfl⟩
        show LOk s.dat.length (cutF (if mn (x.1 + seg) x.2.1 < x.2.1 then (mn (x.1 + seg) x.2.1, (x.2.1, ())) :: r else r))
        have hnew : LOk s.dat.length (if mn (x.1 + seg) x.2.1 < x.2.1 then (mn (x.1 + seg) x.2.1, (x.2.1, ())) :: r else r) := by
          split
          · rename_i q
            refine ⟨hl.bnd, by simp only [List.length_cons]; omega, ⟨by show -1 < mn (x.1 + seg) x.2.1; omega, q, c3⟩, fun y hy => ?_⟩
            rcases List.mem_cons.1 hy with rfl | hy
            · exact hx
            · exact hl.upto y (by simp [hy])
          · exact ⟨hl.bnd, by omega, can_weak (by omega) c3, fun y hy => hl.upto y (by simp [hy])⟩
        rw [cut_of hnew]; exact hnew
      · rename_i e
        split
        · rename_i q
          have m1 : s.nx < mn (s.nx + seg) s.dat.length := by unfold mn; split <;> omega
          have m2 : mn (s.nx + seg) s.dat.length ≤ s.dat.length := by unfold mn; split <;> omega
          have m3 : mn (s.nx + seg) s.dat.length ≤ s.nx + 4096 := by unfold mn; split <;> omega
          exact ⟨⟨h.file, h.st, ⟨by show -1 ≤ mn (s.nx + seg) s.dat.length; omega, m2⟩, h.wt, h.tr, h.hs, fun q => (by have q' : s.st = 2 := q; omega), fun _ => hwt⟩, dataL_ok h (by omega) m1 m2 m3, rfl, rfl, rfl, rfl⟩
        · rename_i q
          exact ⟨⟨h.file, ⟨by show (1 : Int) ≤ 2; omega, by show (2 : Int) ≤ 4; omega⟩, h.nx, ⟨by show 0 ≤ wait; omega, hw.2⟩, h.tr, h.hs, fun _ => ⟨by show s.nx = s.dat.length; omega, e, by show wait ≠ 0; omega⟩, fun q => absurd rfl q⟩, endL_ok h, rfl, rfl, rfl, rfl⟩
theorem run_gd {seg wait : Int} (hg : 1 ≤ seg ∧ seg ≤ 4096) (hw : 1 ≤ wait ∧ wait ≤ 1000000) (id : Int) : ∀ (d : Nat) (s : Sd) (o : List Lt), Gd s → s.id = id → (∀ x ∈ o, chkLt x = 0 ∧ x.2.1 = id) →
    Gd (runS seg wait d s o).1 ∧ (∀ x ∈ (runS seg wait d s o).2, chkLt x = 0 ∧ x.2.1 = id) ∧ (runS seg wait d s o).2.length ≤ o.length + d ∧ (runS seg wait d s o).1.id = id ∧ (runS seg wait d s o).1.nm = s.nm ∧ (runS seg wait d s o).1.dat = s.dat
  | 0, s, o, h, hid, ho => ⟨h, ho, Nat.le_refl _, hid, rfl, rfl⟩
  | d + 1, s, o, h, hid, ho => by
    simp only [runS]
    by_cases q : s.st = 1
    · rw [if_pos q]
      obtain ⟨g1, g2, g3, g4, g5, g6⟩ := one_gd hg hw h q
      obtain ⟨a1, a2, a3, a4, a5, a6⟩ := run_gd hg hw id d (oneS seg wait s).1 (o ++ [(oneS seg wait s).2]) g1 (by rw [g4]; exact hid) (fun x hx => by
        rcases List.mem_append.1 hx with hx | hx
        · exact ho x hx
        · rw [List.mem_singleton.1 hx]; exact ⟨g2, by rw [g3]; exact hid⟩)
      refine ⟨a1, a2, ?_, a4, by rw [a5, g5], by rw [a6, g6]⟩
      simp only [List.length_append, List.length_singleton] at a3
      omega
    · rw [if_neg q]
      exact ⟨h, ho, by show o.length ≤ _; omega, hid, rfl, rfl⟩
theorem tick_gd {seg wait most : Int} {rate : Nat} (hr : 1 ≤ rate) (hg : 1 ≤ seg ∧ seg ≤ 4096) (hw : 1 ≤ wait ∧ wait ≤ 1000000) (hm : most ≤ 50) {s : Sd} (h : Gd s) :
    Gd (tickS seg rate wait most s).1 ∧ (∀ x ∈ (tickS seg rate wait most s).2, chkLt x = 0 ∧ x.2.1 = s.id) ∧ (tickS seg rate wait most s).2.length ≤ rate ∧ (tickS seg rate wait most s).1.id = s.id ∧ (tickS seg rate wait most s).1.nm = s.nm ∧ (tickS seg rate wait most s).1.dat = s.dat := by
  have hwt := h.wt
  have htr := h.tr
  unfold tickS
  split
  · rename_i q
    obtain ⟨t1, t2, t3⟩ := h.two q
    split
    · rename_i q2
      exact ⟨⟨h.file, h.st, h.nx, ⟨by show 0 ≤ s.wt - 1; omega, by show s.wt - 1 ≤ 1000000; omega⟩, h.tr, h.hs, fun _ => ⟨t1, t2, by show s.wt - 1 ≠ 0; omega⟩, fun q3 => absurd q q3⟩, by simp, by simp, rfl, rfl, rfl⟩
    · rename_i q2
      split
      · refine ⟨⟨h.file, ⟨by show (1 : Int) ≤ 4; omega, by show (4 : Int) ≤ 4; omega⟩, h.nx, ⟨by show 0 ≤ s.wt - 1; omega, by show s.wt - 1 ≤ 1000000; omega⟩, h.tr, h.hs, fun q3 => (by have q3' : (4 : Int) = 2 := q3; omega), fun _ => (by show s.wt - 1 = 0; omega)⟩, ?_, by simp; omega, rfl, rfl, rfl⟩
        intro x hx
        rw [List.mem_singleton.1 hx]; exact ⟨stopL_ok h, rfl⟩
      · rename_i q3
        refine ⟨⟨h.file, h.st, h.nx, ⟨by show 0 ≤ wait; omega, hw.2⟩, ⟨by show 0 ≤ s.tr + 1; omega, by show s.tr + 1 ≤ 50; omega⟩, h.hs, fun _ => ⟨t1, t2, by show wait ≠ 0; omega⟩, fun q4 => absurd q q4⟩, ?_, by simp; omega, rfl, rfl, rfl⟩
        intro x hx
        rw [List.mem_singleton.1 hx]; exact ⟨endL_ok h, rfl⟩
  · obtain ⟨a1, a2, a3, a4, a5, a6⟩ := run_gd hg hw s.id rate s [] h rfl (by simp)
    exact ⟨a1, a2, by simpa using a3, a4, a5, a6⟩
theorem hear_gd {s : Sd} {kind id : Int} {rs : List Rg} {f : Bool} (h : Gd s) (hr : kind = 4 → LOk 100000 (cutF rs)) (he : (hearS s kind id rs f).2 = 0) : Gd (hearS s kind id rs f).1 ∧ (hearS s kind id rs f).1.dat = s.dat := by
  have hn := h.nx
  unfold hearS at he ⊢
  generalize (!decide (id = s.id) || decide (s.st = 3) || decide (s.st = 4)) = b at he ⊢
  cases b
  · by_cases h4 : kind = 4
    · have d4 : decide (kind = 4) = true := by simp [h4]
      rw [d4] at he ⊢
      simp only [cond_true, cond_false] at he ⊢
      have hf := fit_ok (hr h4) hn.2 h.hs.bnd
      unfold askS at he ⊢
      by_cases h3 : 2000 < (askF s rs).length
      · rw [if_pos h3] at he; cases he
      · rw [if_neg h3]
        have hja : LOk s.dat.length (askF s rs) := jn_ok h.hs hf (show (askF s rs).length ≤ 2000 by omega)
        have hag : LOk s.dat.length (cutF (agF s rs)) := by
          unfold agF
          cases headF s.hs || (headF rs && !decide (s.nx = -1))
          · rw [cond_false, cut_of hja]; exact hja
          · rw [cond_true]
            have : cutF ((-1, (0, ())) :: askF s rs) = askF s rs := by simp [cutF, headF]
            rw [this]; exact hja
        by_cases hz : (agF s rs).length = 0
        · have dz : decide ((agF s rs).length = 0) = true := by simp [hz]
          rw [dz]
          simp only [cond_true]
          have hnil := List.length_eq_zero_iff.1 hz
          exact ⟨⟨h.file, h.st, h.nx, h.wt, ⟨by show (0 : Int) ≤ 0; omega, by show (0 : Int) ≤ 50; omega⟩, hag, fun q => ⟨(h.two q).1, hnil, (h.two q).2.2⟩, h.oth⟩, by first | rfl | trivial⟩
        · have dz : decide ((agF s rs).length = 0) = false := by simp [hz]
          rw [dz]
          simp only [cond_false]
          exact ⟨⟨h.file, ⟨by show (1 : Int) ≤ 1; omega, by show (1 : Int) ≤ 4; omega⟩, h.nx, ⟨by show (0 : Int) ≤ 0; omega, by show (0 : Int) ≤ 1000000; omega⟩, ⟨by show (0 : Int) ≤ 0; omega, by show (0 : Int) ≤ 50; omega⟩, hag, fun q => (by have q' : (1 : Int) = 2 := q; omega), fun _ => rfl⟩, by first | rfl | trivial⟩
    · have d4 : decide (kind = 4) = false := by simp [h4]
      rw [d4] at he ⊢
      simp only [cond_false] at he ⊢
      have hnil : LOk s.dat.length (cutF []) := ⟨h.hs.bnd, by simp [cutF, headF], trivial, fun x hx => by simp [cutF, headF] at hx⟩
      cases decide (kind = 5) && f
      · cases decide (kind = 5) || decide (kind = 6)
        · exact ⟨h, rfl⟩
        · exact ⟨⟨h.file, ⟨by show (1 : Int) ≤ 4; omega, by show (4 : Int) ≤ 4; omega⟩, h.nx, ⟨by show (0 : Int) ≤ 0; omega, by show (0 : Int) ≤ 1000000; omega⟩, h.tr, hnil, fun q => (by have q' : (4 : Int) = 2 := q; omega), fun _ => rfl⟩, rfl⟩
      · exact ⟨⟨h.file, ⟨by show (1 : Int) ≤ 3; omega, by show (3 : Int) ≤ 4; omega⟩, h.nx, ⟨by show (0 : Int) ≤ 0; omega, by show (0 : Int) ≤ 1000000; omega⟩, h.tr, hnil, fun q => (by have q' : (3 : Int) = 2 := q; omega), fun _ => rfl⟩, rfl⟩
  · exact ⟨h, rfl⟩
end Go.Proofs.Ytlcklflbhhnnhaa.PM
